/- The rhythm with a number: contracts of rhythmAt and l05Of. -/
import Derived.Test.YtphpdanohooccaaGreatDoorMap
namespace Go.Proofs.YtphpdanohooccaaGreatDoor
open Go.RowKit

def atP (n c p : Nat) : Bool := decide (c / 2 ^ (n - 1 - p) % 2 = 1)
def atL (n c : Nat) : List Int := setL n (atP n c)
theorem and_one : ∀ i j : Fin 64, bits .and .i64 ((i.val * 64 + j.val : Nat) : Int) 1 = ((i.val * 64 + j.val) % 2 : Nat) := by decide +kernel
theorem at_bit {c k : Nat} (hc : c < 4096) : bits .and .i64 ((c : Int) / 2 ^ k) 1 = if c / 2 ^ k % 2 = 1 then 1 else 0 := by
  have h3 : ((c / 2 ^ k : Nat) : Int) = (c : Int) / 2 ^ k := by rw [Int.natCast_ediv]; simp
  have h1 : c / 2 ^ k < 4096 := Nat.lt_of_le_of_lt (Nat.div_le_self _ _) hc
  rw [← h3]
  generalize c / 2 ^ k = q at h1
  have h2 := and_one ⟨q / 64, by omega⟩ ⟨q % 64, by omega⟩
  rw [show q / 64 * 64 + q % 64 = q by omega] at h2
  rw [h2]
  split <;> omega
set_option maxHeartbeats 2000000 in
theorem atI_any (n c : Nat) (w : World) (hn : 1 ≤ n ∧ n ≤ 12) (hc : c < 4096) :
    Calls Tryz.prog 67 #[.int .i64 n, .int .i64 c] w (RetR w ((n : Int), atL n c)) := by
  obtain ⟨P, hP⟩ : ∃ P : Nat → Bool, P = atP n c := ⟨_, rfl⟩
  unfold atL
  rw [← hP]
  have HPP := Lib.hid hP
  clear hP
  go_enter Tryz.func67, Tryz.ntmps67
  go_wp2_with fail
  go_loopw [10] (fun i wr => ∃ (p m : Nat) (B : Option Addr) (d : Nat), p ≤ n ∧ m ≤ p ∧ i = .int .i64 p ∧ Hid ((setL p P).length = m) ∧ Hid (Bx2 wr (w.heap.size + 1) 25 (.int .i64 n) (.slice B m d)) ∧ Hid (Bx2 wr w.heap.size 25 (.int .i64 0) (.slice none 0 0)) ∧ Hid (OwI wr w.heap.size B d (setL p P)) ∧ Hid (Ext w wr)) (fun i _ => n - (intOf i).toNat)
  case atStart =>
    exact ⟨0, 0, none, 0, by omega, by omega, rfl, rfl, Bx2.new1' _ _ _ _ _, (Bx2.new w _ _ _).ext ((Ext.refl _).alloc _), OwI.nil _ _, ((Ext.refl w).alloc _).alloc _⟩
  case round =>
    obtain ⟨p, m, B, d, hp, hm, rfl, HM, HB, HG, HO, HE⟩ := hrel
    by_cases hlt : p < n
    · have HS := Lib.hid (setL_succ p P)
      obtain ⟨b, hb⟩ : ∃ b, b = P p := ⟨_, rfl⟩
      have hbit := at_bit (k := n - 1 - p) hc
      have HB0 : Hid (b = decide (c / 2 ^ (n - 1 - p) % 2 = 1)) := by rw [hb, HPP.out]; exact rfl
      rw [← hb] at HS
      clear hb
      cases b
      · have HS2 : Hid (setL (p + 1) P = setL p P) := HS.out
        have hne : ¬ (c / 2 ^ (n - 1 - p) % 2 = 1) := of_decide_eq_false HB0.out.symm
        rw [if_neg hne] at hbit
        clear hne
        go_wp2_with fail
        go_roundw
        case rel => exact ⟨p + 1, m, B, d, by omega, by omega, by go_num, by rw [HS2.out]; exact HM.out, HB.out, HG.out, by rw [HS2.out]; exact HO.out, HE.out⟩
        case measure => simp [intOf]; omega
      · have HS2 : Hid (setL (p + 1) P = setL p P ++ [(p : Int)]) := HS.out
        have hne : c / 2 ^ (n - 1 - p) % 2 = 1 := of_decide_eq_true HB0.out.symm
        rw [if_pos hne] at hbit
        clear hne
        obtain ⟨q0, q1, p0, p1⟩ := HB.out.cells
        go_wp2_with (at_builtin; refine app_ints w rfl _ _ rfl B d m (setL p P) _ 1 1 [(p : Int)] rfl rfl HM.out rfl (HO.out.ext ((Ext.refl _).alloc _)) (RdI.built wr [(p : Int)]) (HE.out.alloc _) (by omega) ?_; intro A' c' w2 h1 h2 h3; have HO2 := Lib.hid h1; have HE3 := Lib.hid h2; have HB2 := Lib.hid ((HB.out.ext ((Ext.refl _).alloc _)).grown (by decide) (HO.out.ext ((Ext.refl _).alloc _)) h3); have HG3 := Lib.hid ((HG.out.ext ((Ext.refl _).alloc _)).grown (by decide) (HO.out.ext ((Ext.refl _).alloc _)) h3); obtain ⟨r0, r1, s0, s1⟩ := HB2.out.cells; clear h1 h2 h3)
        go_roundw
        case rel =>
          exact ⟨p + 1, m + 1, A', c', by omega, by omega, by go_num, by rw [HS2.out, List.length_append, HM.out]; exact rfl, HB2.out.set1 _, HG3.out.far (by simp only []; omega) _,
            by rw [HS2.out]; exact HO2.out.setFar (fun ad had => HB2.out.ne (by decide) HO2.out ad had) _, HE3.out.setCell (by simp only []; omega) _⟩
        case measure => simp [intOf]; omega
    · obtain rfl : p = n := by omega
      obtain ⟨q0, q1, p0, p1⟩ := HB.out.cells
      obtain ⟨z0, z1, y0, y1⟩ := HG.out.cells
      have HNE := Lib.hid (HG.out.ne (by decide) HO.out)
      go_wp2_with fail
      refine bodyPost_ret (v := .agg #[.int .i64 p, .slice B m d]) (by simp [results, Tryz.results67, go_sem, z0, z1]) rfl ?_
      exact retR_intro HM.out.symm ((HO.out.setFar (fun ad had => HNE.out ad had) _).setFar (fun ad had => HNE.out ad had) _) ((HE.out.setCell (by simp) _).setCell (by simp) _)

end Go.Proofs.YtphpdanohooccaaGreatDoor

/- The number of ones of a number: contract of bits.OnesCount below 4096. -/
namespace Go.Proofs.YtphpdanohooccaaGreatDoor
open Go.RowKit

def oc1 (c : Int) : Int := IntKind.u64.wrap (bits .and .u64 (c / 2) 6148914691236517205 + bits .and .u64 c 6148914691236517205)
def oc2 (c : Int) : Int := IntKind.u64.wrap (bits .and .u64 (c / 4) 3689348814741910323 + bits .and .u64 c 3689348814741910323)
def oc3 (c : Int) : Int := bits .and .u64 (IntKind.u64.wrap (c / 16 + c)) 1085102592571150095
def oc4 (c : Int) : Int := IntKind.u64.wrap (c + c / 256)
def oc5 (c : Int) : Int := IntKind.u64.wrap (c + c / 65536)
def oc6 (c : Int) : Int := IntKind.u64.wrap (c + c / 4294967296)
def ocF (c : Int) : Int := bits .and .i64 (wrap64 (oc6 (oc5 (oc4 (oc3 (oc2 (oc1 c))))))) 127
def popN : Nat → Nat → Nat
  | 0, _ => 0
  | f + 1, c => c % 2 + popN f (c / 2)
theorem oc_pop : ∀ i j : Fin 64, ocF ((i.val * 64 + j.val : Nat) : Int) = (popN 12 (i.val * 64 + j.val) : Nat) := by decide +kernel
theorem oc_eq {c : Nat} (hc : c < 4096) : ocF c = (popN 12 c : Nat) := by
  have := oc_pop ⟨c / 64, by omega⟩ ⟨c % 64, by omega⟩
  rwa [show c / 64 * 64 + c % 64 = c by omega] at this
theorem atL_succ (n c : Nat) : (atL (n + 1) c).length = (atL n (c / 2)).length + c % 2 := by
  unfold atL
  rw [setL_succ]
  have e : setL n (atP (n + 1) c) = setL n (atP n (c / 2)) := setL_congr fun p hp => by
    unfold atP
    rw [Nat.div_div_eq_div_mul, show n + 1 - 1 - p = (n - 1 - p) + 1 by omega, Nat.pow_succ, Nat.mul_comm]
  have e2 : atP (n + 1) c n = decide (c % 2 = 1) := by
    unfold atP
    rw [show n + 1 - 1 - n = 0 by omega]
    simp
  rw [e, e2]
  rcases Nat.mod_two_eq_zero_or_one c with h | h <;> simp [h]
theorem pop_len : ∀ n c : Nat, c < 2 ^ n → ∀ f, n ≤ f → popN f c = (atL n c).length
  | 0, c, h, f, _ => by
    have : c = 0 := by simpa using h
    subst this
    have hz : ∀ f, popN f 0 = 0 := fun f => by
      induction f with
      | zero => rfl
      | succ f ih => simp [popN, ih]
    rw [hz]
    rfl
  | n + 1, c, h, f, hf => by
    obtain ⟨g, rfl⟩ : ∃ g, f = g + 1 := ⟨f - 1, by omega⟩
    rw [popN, atL_succ, pop_len n (c / 2) (by rw [Nat.pow_succ] at h; omega) g (by omega)]
    omega
theorem ones64_any (c : Nat) (w : World) (hc : c < 4096) :
    Calls Tryz.prog 81 #[.int .u64 c] w fun e w' => e = .returned (.int .i64 (popN 12 c : Nat)) ∧ w' = w := by
  rw [← oc_eq hc]
  go_enter Tryz.func81, Tryz.ntmps81
  go_wp2
  go_ret
  refine ⟨ret_int ?_, rfl⟩
  generalize h1 : IntKind.u64.wrap (bits .and .u64 ((c : Int) / 2) 6148914691236517205 + bits .and .u64 c 6148914691236517205) = s1
  have e1 : oc1 c = s1 := h1
  generalize h2 : IntKind.u64.wrap (bits .and .u64 (s1 / 4) 3689348814741910323 + bits .and .u64 s1 3689348814741910323) = s2
  have e2 : oc2 s1 = s2 := h2
  generalize h3 : bits .and .u64 (IntKind.u64.wrap (s2 / 16 + s2)) 1085102592571150095 = s3
  have e3 : oc3 s2 = s3 := h3
  unfold ocF
  rw [e1, e2, e3]
  clear e1 e2 e3 h1 h2 h3

  rfl
theorem ones_any (n c : Nat) (w : World) (hn : n ≤ 12) (hc : c < 2 ^ n) :
    Calls Tryz.prog 66 #[.int .u64 c] w fun e w' => e = .returned (.int .i64 ((atL n c).length : Nat)) ∧ w' = w := by
  have hc2 : c < 4096 := Nat.lt_of_lt_of_le hc (Nat.pow_le_pow_right (by decide) hn)
  rw [← pop_len n c hc 12 hn]
  have C := Lib.hid (ones64_any c w hc2)
  clear hn hc
  go_enter Tryz.func66, Tryz.ntmps66
  go_wp2_with fail
  refine C.out.mono ?_
  rintro e w' ⟨rfl, rfl⟩
  go_wp2_with fail
  go_ret
  exact ⟨rfl, rfl⟩
end Go.Proofs.YtphpdanohooccaaGreatDoor
