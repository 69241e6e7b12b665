/- Contracts of slices.Compare, Grow, Concat (of two slices). -/
import Derived.Test.YtedlmidhakmgpaaSS
import Derived.Lib.SliceRun
import Derived.Lib.AppendZeros
namespace Go.Proofs.Ytedlmidhakmgpaa
open Go.RowKit

def cmpI (x y : Int) : Int := if x < y then -1 else if y < x then 1 else 0
theorem isNaN_any (x : Int) (w : World) : Calls Try.prog 82 #[.int .i64 x] w fun e w' => e = .returned (.bool false) ∧ w = w' := by
  go_enter Try.func82, Try.ntmps82
  go_wp2
  go_ret
  exact ⟨ret_bool (by simp), rfl⟩
theorem cmpI_any (x y : Int) (w : World) : Calls Try.prog 80 #[.int .i64 x, .int .i64 y] w fun e w' => e = .returned (.int .i64 (cmpI x y)) ∧ w = w' := by
  by_cases h1 : x < y
  · have e : cmpI x y = -1 := by simp [cmpI, h1]
    rw [e]
    clear e
    go_enter Try.func80, Try.ntmps80
    go_wp2_with (go_at_call 82; refine (isNaN_any _ _).mono ?_; rintro e w' ⟨rfl, rfl⟩)
    go_ret
    exact ⟨rfl, rfl⟩
  · by_cases h2 : y < x
    · have e : cmpI x y = 1 := by simp [cmpI, h1, h2]
      rw [e]
      clear e
      go_enter Try.func80, Try.ntmps80
      go_wp2_with (go_at_call 82; refine (isNaN_any _ _).mono ?_; rintro e w' ⟨rfl, rfl⟩)
      go_ret
      exact ⟨rfl, rfl⟩
    · have e : cmpI x y = 0 := by simp [cmpI, h1, h2]
      rw [e]
      clear e
      go_enter Try.func80, Try.ntmps80
      go_wp2_with (go_at_call 82; refine (isNaN_any _ _).mono ?_; rintro e w' ⟨rfl, rfl⟩)
      go_ret
      exact ⟨rfl, rfl⟩

/-- The lexicographic comparison. -/
def cmpF : List Int → List Int → Int
  | [], [] => 0
  | [], _ :: _ => -1
  | _ :: _, [] => 1
  | x :: xs, y :: ys => if cmpI x y = 0 then cmpF xs ys else cmpI x y
theorem cmpF_eq {x : Int} : cmpI x x = 0 := by simp [cmpI]
theorem drop_cons' (xs : List Int) (k : Nat) (h : k < xs.length) : xs.drop k = xs.getD k 0 :: xs.drop (k + 1) := by
  rw [List.drop_eq_getElem_cons h]
  simp [List.getD, h]

set_option maxHeartbeats 1000000 in
theorem compare_any (A B : Option Addr) (c d : Nat) (xs ys : List Int) (w : World) (ha : RdI w A xs) (hb : RdI w B ys) (hn : xs.length ≤ 9223372036854775807) (hm : ys.length ≤ 9223372036854775807) :
    Calls Try.prog 72 #[.slice A xs.length c, .slice B ys.length d] w fun e w' => e = .returned (.int .i64 (cmpF xs ys)) ∧ w = w' := by
  obtain ⟨n, hnn⟩ : ∃ n, n = xs.length := ⟨_, rfl⟩
  obtain ⟨m, hmm⟩ : ∃ m, m = ys.length := ⟨_, rfl⟩
  obtain ⟨R, hR⟩ : ∃ R, R = cmpF xs ys := ⟨_, rfl⟩
  rw [← hnn, ← hmm, ← hR]
  rw [← hnn] at hn
  rw [← hmm] at hm
  have HN := Lib.hid hnn
  have HM := Lib.hid hmm
  have HA := Lib.hid ha
  have HB := Lib.hid hb
  have HR := Lib.hid hR
  clear hnn hmm ha hb hR
  go_enter Try.func72, Try.ntmps72
  go_wp2
  go_loop [11] (fun i => ∃ k : Nat, k ≤ n ∧ k ≤ m ∧ i = .int .i64 k ∧ Hid (R = cmpF (xs.drop k) (ys.drop k))) (fun i => n - (intOf i).toNat)
  case atStart => exact ⟨0, Nat.zero_le _, Nat.zero_le _, rfl, HR.out⟩
  case round =>
    obtain ⟨k, hk, hk2, rfl, HK⟩ := hrel
    by_cases hlt : k < n
    · have hkx : k < xs.length := by rw [← HN.out]; exact hlt
      obtain ⟨b, o, hA, hc⟩ := HA.out.at_ k hkx
      subst hA
      obtain ⟨x, hx⟩ : ∃ x, x = xs.getD k 0 := ⟨_, rfl⟩
      rw [← hx] at hc
      by_cases hlt2 : k < m
      · have hky : k < ys.length := by rw [← HM.out]; exact hlt2
        obtain ⟨b2, o2, hB, hc2⟩ := HB.out.at_ k hky
        subst hB
        obtain ⟨y, hy⟩ : ∃ y, y = ys.getD k 0 := ⟨_, rfl⟩
        rw [← hy] at hc2
        have h1 := HK.out
        rw [drop_cons' xs k hkx, drop_cons' ys k hky, ← hx, ← hy] at h1
        simp only [cmpF] at h1
        obtain ⟨z, hz⟩ : ∃ z, z = cmpI x y := ⟨_, rfl⟩
        have CZ := Lib.hid (cmpI_any x y)
        rw [← hz] at h1 CZ
        have H1 := Lib.hid h1
        clear hx hy hkx hky h1 hz HK
        by_cases hz0 : z = 0
        · have HNX : Hid (R = cmpF (xs.drop (k + 1)) (ys.drop (k + 1))) := by have := H1.out; rw [if_pos hz0] at this; exact this
          subst hz0
          clear H1
          go_wp2_with fail
          refine (CZ.out _).mono ?_
          rintro e w' ⟨rfl, rfl⟩
          go_wp2_with fail
          go_round
          case rel => exact ⟨k + 1, by omega, by omega, by go_num, HNX⟩
          case measure => simp [intOf]; omega
        · have HNX : Hid (R = z) := by have := H1.out; rw [if_neg hz0] at this; exact this
          clear H1
          go_wp2_with fail
          refine (CZ.out _).mono ?_
          rintro e w' ⟨rfl, rfl⟩
          go_wp2_with fail
          go_ret
          exact ⟨ret_int HNX.out.symm, rfl⟩
      · obtain rfl : k = m := by omega
        have hR1 : R = 1 := by
          have h1 := HK.out
          rw [drop_cons' xs k hkx, show ys.drop k = [] by rw [HM.out]; simp] at h1
          simpa [cmpF] using h1
        have HR1 := Lib.hid hR1
        clear hx hkx hR1
        go_wp2
        go_ret
        exact ⟨ret_int HR1.out.symm, rfl⟩
    · obtain rfl : k = n := by omega
      have h1 := HK.out
      rw [show xs.drop k = [] by rw [HN.out]; simp] at h1
      by_cases hlt2 : k < m
      · have hky : k < ys.length := by rw [← HM.out]; exact hlt2
        rw [drop_cons' ys k hky] at h1
        have HR1 : Hid (R = -1) := (by simpa [cmpF] using h1 : R = -1)
        clear h1 hky
        go_wp2
        go_ret
        exact ⟨ret_int HR1.out.symm, rfl⟩
      · obtain rfl : k = m := by omega
        rw [show ys.drop k = [] by rw [HM.out]; simp] at h1
        have HR1 : Hid (R = 0) := (by simpa [cmpF] using h1 : R = 0)
        clear h1
        go_wp2
        go_ret
        exact ⟨ret_int HR1.out.symm, rfl⟩

theorem grow_any (n : Nat) (w : World) (hn : n ≤ 1099511627776) :
    Calls Try.prog 81 #[.slice none 0 0, .int .i64 n] w (RetI w []) := by
  by_cases hz : n = 0
  · subst hz
    go_enter Try.func81, Try.ntmps81
    go_wp2_with fail
    go_ret
    exact RetI.nil (Ext.refl w)
  · obtain ⟨i0, hi, hz0, hz1, hz2⟩ := info_parts info_int
    have hz' : ¬ (n : Int) = 0 := by omega
    have hz3 : (0 : Int) < n := by omega
    have happ := Lib.run_append_nil_zeros (P := Try.prog) w 24 3 24 3 i0 (.int .i64 0) .i64 .i64 Try.underlying24 Try.underlying3 hi hz0 n (by omega) (by omega) (by omega) (by rw [hz2]; omega)
    obtain ⟨C, hC⟩ : ∃ C, C = grownCap w n 0 3 := ⟨_, rfl⟩
    have hC1 := grownCap_ge w n 0 3
    have hC2 := grownCap_le_maxLen w n 0 3 (by simp only [maxLen]; omega)
    rw [← hC] at happ hC1 hC2
    obtain ⟨cur, hcur⟩ : ∃ cur, cur = Builtin.zeroCells (Value.int .i64 0).cells n ++ Builtin.zeroCells (Value.int .i64 0).cells (C - n) := ⟨_, rfl⟩
    have hsz : cur.size = C := by rw [hcur, Array.size_append, size_zeroCells, size_zeroCells]; simp [Value.cells]; omega
    rw [← hcur] at happ
    have HAPP := Lib.hid happ
    have HSZ := Lib.hid hsz
    clear happ hC hcur hsz hz0 hz1 hz2 hi
    go_enter Try.func81, Try.ntmps81
    go_wp2_with (at_builtin; refine Lib.wpList_append_run _ rfl _ _ _ _ rfl _ _ rfl rfl _ _ HAPP.out ?_)
    go_ret
    have he : Ext w ((w.alloc (.cells cur 3)).drew) := ((Ext.refl w).alloc _).drew
    refine ⟨_, _, rfl, ⟨rfl, Or.inr ⟨w.heap.size, C, cur, rfl, Nat.le_refl _, heap_alloc_new w _, Nat.zero_le _, hC2, by rw [HSZ.out]; simp, by simp⟩⟩, he⟩

/-- The first k of two slices, joined. -/
def catL (xs ys : List Int) (k : Nat) : List Int := if k = 0 then [] else if k = 1 then xs else xs ++ ys

theorem catL_step (xs ys : List Int) {k : Nat} (h : k < 2) : catL xs ys (k + 1) = catL xs ys k ++ (if k = 0 then xs else ys) := by
  have : k = 0 ∨ k = 1 := by omega
  rcases this with rfl | rfl <;> simp [catL]

set_option maxHeartbeats 1000000 in
theorem concat_any (g : Nat) (c : Nat) (A B : Option Addr) (c1 c2 : Nat) (xs ys : List Int) (w : World) (h0 : w.cell? ⟨g, 0, none⟩ = some (.slice A xs.length c1)) (h1 : w.cell? ⟨g, 1, none⟩ = some (.slice B ys.length c2))
    (ha : RdI w A xs) (hb : RdI w B ys) (hn : xs.length ≤ 1048576) (hm : ys.length ≤ 1048576) :
    Calls Try.prog 73 #[.slice (some ⟨g, 0, none⟩) 2 c] w (RetI w (xs ++ ys)) := by
  have HZ : Hid (∀ k, k < 2 → ∃ (Z : Option Addr) (zl zc : Nat) (zs : List Int), w.cell? ⟨g, k, none⟩ = some (.slice Z zl zc) ∧ zl = zs.length ∧ zl ≤ 1048576 ∧ RdI w Z zs ∧ catL xs ys (k + 1) = catL xs ys k ++ zs) := by
    intro k hk
    have hs := catL_step xs ys hk
    have : k = 0 ∨ k = 1 := by omega
    rcases this with rfl | rfl
    · exact ⟨A, _, c1, xs, h0, rfl, hn, ha, by simpa using hs⟩
    · exact ⟨B, _, c2, ys, h1, rfl, hm, hb, by simpa using hs⟩
  have HE2 : Hid (catL xs ys 2 = xs ++ ys) := by simp [catL, Hid]
  clear h0 h1 ha hb hn hm
  go_enter Try.func73, Try.ntmps73
  go_wp2
  go_loopw [3, 11] (fun s i wr => ∃ (k t : Nat), k ≤ 2 ∧ i = .int .i64 k ∧ s = .int .i64 t ∧ t ≤ k * 1048576 ∧ Hid (Ext w wr)) (fun _ i _ => 2 - (intOf i).toNat)
  case atStart => exact ⟨0, 0, by omega, rfl, rfl, by omega, Ext.refl w⟩
  case round =>
    obtain ⟨k, t, hk, rfl, rfl, ht, HE⟩ := hrel
    by_cases hlt : k < 2
    · obtain ⟨Z, zl, zc, zs, hc, _, hzl, _, _⟩ := HZ.out k hlt
      have hcw := HE.out.cell hc
      have hneg : ¬ ((t : Int) + zl < 0) := by omega
      clear hc
      go_wp2
      go_roundw
      case rel => exact ⟨k + 1, t + zl, by omega, by go_num, by go_num, by omega, HE.out⟩
      case measure => simp [intOf]; omega
    · obtain rfl : k = 2 := by omega
      have CG := Lib.hid (grow_any t wr (by omega))
      go_wp2_with fail
      refine CG.out.mono ?_
      rintro e w2 ⟨A2, d2, rfl, ho, he⟩
      have HO := Lib.hid (ho.lower HE.out.size)
      have HEE := Lib.hid (HE.out.trans he)
      clear ho he
      go_wp2_with fail
      go_loopw [6, 27] (fun o i ws => ∃ (k l : Nat) (A' : Option Addr) (c' : Nat), k ≤ 2 ∧ i = .int .i64 k ∧ o = .slice A' l c' ∧ l ≤ k * 1048576 ∧ Hid (l = (catL xs ys k).length) ∧ Hid (OwI ws w.heap.size A' c' (catL xs ys k)) ∧ Hid (Ext w ws)) (fun _ i _ => 2 - (intOf i).toNat)
      case atStart => exact ⟨0, 0, _, _, by omega, rfl, rfl, by omega, rfl, HO.out, HEE.out⟩
      case round =>
        obtain ⟨k, l, A', c', hk, rfl, rfl, hl, HL, HO', HE'⟩ := hrel
        by_cases hlt2 : k < 2
        · obtain ⟨Z, zl, zc, zs, hc, hzs, hzl, hrz, hcat⟩ := HZ.out k hlt2
          have hcw := HE'.out.cell hc
          have HRZ := Lib.hid (hrz.ext HE'.out)
          have HZS := Lib.hid hzs
          have HCAT := Lib.hid hcat
          obtain ⟨T, hT⟩ : ∃ T, T = catL xs ys k := ⟨_, rfl⟩
          rw [← hT] at HL HO' HCAT
          clear hc hzs hrz hcat hT
          go_wp2_with (at_builtin; refine app_ints w rfl _ _ rfl A' c' l T Z zl zc zs rfl rfl HL.out.symm HZS.out.symm HO'.out HRZ.out HE'.out (by omega) ?_; intro A3 c3 w3 h3 h4 _; have HO3 := Lib.hid h3; have HE3 := Lib.hid h4; clear h3 h4)
          have HL2 : Hid (l + zl = (catL xs ys (k + 1)).length) := by rw [HCAT.out, HL.out, HZS.out, List.length_append]; exact rfl
          go_roundw
          case rel => exact ⟨k + 1, l + zl, A3, c3, by omega, by go_num, rfl, by omega, HL2, by rw [HCAT.out]; exact HO3.out, HE3.out⟩
          case measure => simp [intOf]; omega
        · obtain rfl : k = 2 := by omega
          rw [HE2.out] at HL HO'
          go_wp2_with fail
          go_ret
          exact ⟨A', c', by rw [HL.out]; rfl, HO'.out, HE'.out⟩
end Go.Proofs.Ytedlmidhakmgpaa
