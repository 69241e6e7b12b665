/- Contracts of isUnit and of UnitsOf. -/
import Derived.Test.YtphpdanohooccaaGreatDoorInts
import Derived.Test.YtphpdanohooccaaGreatDoorOwn
import Derived.Lib.MinMax
namespace Go.Proofs.YtphpdanohooccaaGreatDoor
open Go.RowKit

def isU (u n : Int) : Bool := inB u 1 (max (n - 1) 1) && decide (gcdF u n = 1)
theorem beq_int (a b : Int) : (a == b) = decide (a = b) := by rw [Bool.eq_iff_iff, beq_iff_eq, decide_eq_true_eq]
/-- The units below k. -/
def uL (n : Nat) (k : Nat) : List Int := ((List.range k).filter (fun u : Nat => isU (u : Int) (n : Int))).map Int.ofNat
theorem uL_snoc (n k : Nat) : uL n (k + 1) = if isU k n = true then uL n k ++ [(k : Int)] else uL n k := by
  unfold uL
  rw [List.range_succ, List.filter_append, List.map_append]
  by_cases h : isU k n = true <;> simp [h]
theorem uL_len (n k : Nat) : (uL n k).length ≤ k := by
  unfold uL
  rw [List.length_map]
  exact Nat.le_trans (List.length_filter_le _ _) (by simp)
def unF (n : Int) : List Int := if inB n 1 24 = true then uL n.toNat (n.toNat + 1) else []
theorem uL_end : ∀ n : Nat, 1 ≤ n → n ≤ 24 → uL n (max 1 (n - 1) + 1) = uL n (n + 1) := by
  have h : ∀ n : Fin 25, (decide (1 ≤ n.val) = true → uL n.val (max 1 (n.val - 1) + 1) = uL n.val (n.val + 1)) := by decide +kernel
  exact fun n h1 h2 => h ⟨n, by omega⟩ (by simpa using h1)
theorem uL_one : ∀ n : Nat, n ≤ 24 → uL n 1 = [] := by
  have h : ∀ n : Fin 25, uL n.val 1 = [] := by decide +kernel
  exact fun n h2 => h ⟨n, by omega⟩

set_option maxHeartbeats 400000 in
theorem isU_any (u n : Int) (w : World) (hu : 0 ≤ u ∧ u ≤ 1000000) (hn : 1 ≤ n ∧ n ≤ 1000000) :
    Calls Tryz.prog 45 #[.int .i64 u, .int .i64 n] w fun e w' => e = .returned (.bool (isU u n)) ∧ ∃ q, w' = w.drewN q := by
  obtain ⟨R, hR⟩ : ∃ R, R = isU u n := ⟨_, rfl⟩
  rw [← hR]
  have HR := Lib.hid hR
  clear hR
  obtain ⟨m, hm⟩ : ∃ m, m = max (n - 1) 1 := ⟨_, rfl⟩
  have HM := Lib.hid hm
  have HRR : Hid (R = (inB u 1 m && decide (gcdF u n = 1))) := by rw [HR.out, hm]; exact rfl
  have CW : Hid (∀ w : World, Calls Tryz.prog 35 #[.int .i64 u, .int .i64 1, .int .i64 (max (n - 1) 1)] w fun e w' => e = .returned (.bool (inB u 1 m)) ∧ w = w') := fun w => by rw [hm]; exact within_any _ _ _ w
  obtain ⟨g, hg⟩ : ∃ g, g = gcdF u n := ⟨_, rfl⟩
  have CG : Hid (∀ w : World, Calls Tryz.prog 68 #[.int .i64 u, .int .i64 n] w fun e w' => e = .returned (.int .i64 g) ∧ ∃ k, w' = w.drewN k) := fun w => by rw [hg]; exact gcdI_q u n w (by omega) (by omega)
  rw [← hg] at HRR
  clear hm hg HR
  obtain ⟨b, hb⟩ : ∃ b, b = inB u 1 m := ⟨_, rfl⟩
  rw [← hb] at CW HRR
  clear hb
  go_enter Tryz.func45, Tryz.ntmps45
  go_wp2_with fail
  refine (CW.out _).mono ?_
  rintro e w1 ⟨rfl, rfl⟩
  cases b
  · have HF : Hid (R = false) := HRR.out
    go_wp2_with fail
    go_ret
    exact ⟨ret_bool HF.out.symm, 0, rfl⟩
  have HF : Hid ((g == 1) = R) := by rw [HRR.out, Bool.true_and]; exact beq_int _ _
  go_wp2_with fail
  refine (CG.out _).mono ?_
  rintro e w2 ⟨rfl, hw2⟩
  go_wp2_with fail
  go_ret
  exact ⟨ret_bool HF.out, hw2⟩

set_option maxHeartbeats 1000000 in
theorem unI_any (n : Int) (w : World) : Calls Tryz.prog 19 #[.int .i64 n] w (RetI w (unF n)) := by
  by_cases h : inB n 1 24 = true
  · have h' := inB_iff.1 h
    obtain ⟨N, rfl⟩ := Int.eq_ofNat_of_zero_le (show 0 ≤ n by omega)
    have e : unF (N : Int) = uL N (N + 1) := by unfold unF; rw [if_pos h]; rfl
    rw [e]
    clear e
    go_enter Tryz.func19, Tryz.ntmps19
    go_wp2_with fail
    refine (within_any _ _ _ _).mono ?_
    rintro e w1 ⟨rfl, rfl⟩
    go_wp2_with fail
    clear h
    go_loopw [3, 10] (fun v i wr => ∃ (k l : Nat) (A' : Option Addr) (c' : Nat), i = .int .i64 k ∧ v = .slice A' l c' ∧ k ≤ N + 1 ∧ l ≤ k ∧ Hid ((uL N k).length = l) ∧ Hid (OwI wr w.heap.size A' c' (uL N k)) ∧ Hid (Ext w wr)) (fun _ i _ => N + 1 - (intOf i).toNat)
    case atStart => exact ⟨0, 0, _, _, rfl, rfl, by omega, by omega, rfl, OwI.nil w _, Ext.refl w⟩
    case round =>
      obtain ⟨k, l, A', c', rfl, rfl, hk, hlk, HL, HO, HE⟩ := hrel
      by_cases hlt : k < N + 1
      · have CU := Lib.hid (isU_any k N wr (by omega) (by omega))
        have HS := Lib.hid (uL_snoc N k)
        obtain ⟨b, hb⟩ : ∃ b, b = isU k N := ⟨_, rfl⟩
        rw [← hb] at CU HS
        clear hb
        go_wp2_with fail
        refine CU.out.mono ?_
        rintro e w2 ⟨rfl, hw2⟩
        have HE2 : Hid (Ext wr w2) := by obtain ⟨q, rfl⟩ := hw2; exact (Ext.refl _).drewN _
        have HO2 := Lib.hid (HO.out.ext HE2.out)
        have HX2 := Lib.hid (HE.out.trans HE2.out)
        clear hw2
        cases b
        · have HS2 : Hid (uL N (k + 1) = uL N k) := HS.out
          go_wp2_with fail
          go_roundw
          case rel => exact ⟨k + 1, l, A', c', by go_num, rfl, by omega, by omega, by rw [HS2.out]; exact HL.out, by rw [HS2.out]; exact HO2.out, HX2.out⟩
          case measure => simp [intOf]; omega
        · have HS2 : Hid (uL N (k + 1) = uL N k ++ [(k : Int)]) := HS.out
          go_wp2_with (at_builtin; refine app_int w _ rfl _ _ rfl _ _ _ _ _ rfl rfl HL.out HO2.out HX2.out ?c2 ?c3)
          case c2 => omega
          intro A2 c2 w3 ho he
          have HO3 := Lib.hid ho
          have HE3 := Lib.hid he
          clear ho he
          go_wp2
          go_roundw
          case rel => exact ⟨k + 1, l + 1, A2, c2, by go_num, rfl, by omega, by omega, by rw [HS2.out, List.length_append, HL.out]; exact rfl, by rw [HS2.out]; exact HO3, HE3⟩
          case measure => simp [intOf]; omega
      · obtain rfl : k = N + 1 := by omega
        go_wp2_with fail
        go_ret
        exact ⟨A', c', by rw [HL.out]; rfl, HO.out, HE.out⟩
  · have h : inB n 1 24 = false := by simpa using h
    have e : unF n = [] := by unfold unF; rw [h]; rfl
    rw [e]
    clear e
    go_enter Tryz.func19, Tryz.ntmps19
    go_wp2_with fail
    refine (within_any _ _ _ _).mono ?_
    rintro e w1 ⟨rfl, rfl⟩
    go_wp2_with fail
    go_ret
    exact RetI.nil (Ext.refl _)

end Go.Proofs.YtphpdanohooccaaGreatDoor
