/- Contracts of l02Same, equals, l04After, later. -/
import Derived.Test.YtnhppeknkeblfaaCode
import Derived.Deep.RegionHeld3
namespace Go.Proofs.Ytnhppeknkeblfaa
open Go.RowKit

theorem same_any (A B : Option Addr) (c d : Nat) (xs ys : List Int) (w : World) (hr : RdI w A xs) (hr2 : RdI w B ys) (hl : xs.length ≤ 1048576) (hl2 : ys.length ≤ 1048576) :
    Calls Try.prog 40 #[.slice A xs.length c, .slice B ys.length d] w fun e w' => e = .returned (.bool (decide (xs = ys))) ∧ ∃ q, w' = w.drewN q := by
  obtain ⟨l, hll⟩ : ∃ l, l = xs.length := ⟨_, rfl⟩
  obtain ⟨m, hmm⟩ : ∃ m, m = ys.length := ⟨_, rfl⟩
  obtain ⟨R, hR⟩ : ∃ R, R = decide (xs = ys) := ⟨_, rfl⟩
  rw [← hll, ← hmm, ← hR]
  rw [← hll] at hl
  rw [← hmm] at hl2
  have HL := Lib.hid hll
  have HM := Lib.hid hmm
  have HRR := Lib.hid hR
  have HR := Lib.hid hr
  have HR2 := Lib.hid hr2
  clear hll hmm hR hr hr2
  by_cases hlm : l = m
  · subst hlm
    go_enter Try.func40, Try.ntmps40
    go_wp2_with fail
    go_loopw [14] (fun i wr => ∃ k q : Nat, k ≤ l ∧ i = .int .i64 k ∧ Hid (∀ j, j < k → xs.getD j 0 = ys.getD j 0) ∧ wr = w.drewN q) (fun i _ => l - (intOf i).toNat)
    case atStart => exact ⟨0, 0, Nat.zero_le _, rfl, fun j hj => absurd hj (by omega), rfl⟩
    case round =>
      obtain ⟨k, q, hk, rfl, HJ, rfl⟩ := hrel
      by_cases hlt : k < l
      · have hkx : k < xs.length := by rw [← HL.out]; exact hlt
        have hky : k < ys.length := by rw [← HM.out]; exact hlt
        obtain ⟨b, o, hA, hc⟩ := HR.out.at_ k hkx
        subst hA
        obtain ⟨b2, o2, hB, hc2⟩ := HR2.out.at_ k hky
        subst hB
        obtain ⟨x, hx⟩ : ∃ x, x = xs.getD k 0 := ⟨_, rfl⟩
        obtain ⟨y, hy⟩ : ∃ y, y = ys.getD k 0 := ⟨_, rfl⟩
        rw [← hx] at hc
        rw [← hy] at hc2
        have HX := Lib.hid hx
        have HY := Lib.hid hy
        have hc' : (w.drewN q).cell? ⟨b, o + k, none⟩ = some (.int .i64 x) := hc
        have hc2' : (w.drewN q).cell? ⟨b2, o2 + k, none⟩ = some (.int .i64 y) := hc2
        clear hx hy hc hc2
        by_cases hxy : x = y
        · subst hxy
          have HJN : Hid (∀ j, j < k + 1 → xs.getD j 0 = ys.getD j 0) := fun j hj => by
            by_cases hjk : j < k
            · exact HJ.out j hjk
            · obtain rfl : j = k := by omega
              rw [← HX.out, ← HY.out]
          clear hkx hky
          go_wp2_with fail
          try go_quiet (fail)
          try go_wp2_with fail
          go_roundw
          case rel => exact ⟨k + 1, _, by omega, by go_num, HJN.out, by first | rfl | simp⟩
          case measure => simp [intOf]; omega
        · have HF : Hid (R = false) := by
            rw [HRR.out]
            refine decide_eq_false (fun e => hxy ?_)
            rw [HX.out, HY.out, e]
          have hxy2 : (x != y) = true := by simpa using hxy
          clear hkx hky
          go_wp2_with fail
          try go_quiet (fail)
          try go_wp2_with fail
          go_ret
          exact ⟨ret_bool HF.out.symm, by first | exact ⟨_, rfl⟩ | exact ⟨_, by simp⟩⟩
      · obtain rfl : k = l := by omega
        have HT : Hid (R = true) := by
          rw [HRR.out]
          refine (decide_eq_true ?_ : decide (xs = ys) = true)
          apply List.ext_getElem
          · rw [← HL.out, HM.out]
          · intro j h1 h2
            have := HJ.out j (by rw [HL.out]; exact h1)
            simpa [List.getD, h1, h2] using this
        go_wp2_with fail
        go_ret
        exact ⟨ret_bool HT.out.symm, q, rfl⟩
  · have HF : Hid (R = false) := by
      rw [HRR.out]
      refine decide_eq_false (fun e => hlm ?_)
      rw [HL.out, HM.out, e]
    have hlm2 : ((l : Int) != m) = true := by simp; omega
    have hlm3 : ¬ (l : Int) = m := by omega
    go_enter Try.func40, Try.ntmps40
    go_wp2_with fail
    go_ret
    exact ⟨ret_bool HF.out.symm, 0, rfl⟩

set_option maxHeartbeats 1000000 in
theorem equals_any (n : Int) (A B : Option Addr) (c d : Nat) (xs ys : List Int) (w : World) (hr : RdI w A xs) (hr2 : RdI w B ys) (hl : xs.length ≤ 1048576) (hl2 : ys.length ≤ 1048576) :
    Calls Try.prog 43 #[.agg #[.int .i64 n, .slice A xs.length c], .agg #[.int .i64 n, .slice B ys.length d]] w fun e w' => e = .returned (.bool (decide (xs = ys))) ∧ Ext w w' := by
  obtain ⟨l, hll⟩ : ∃ l, l = xs.length := ⟨_, rfl⟩
  obtain ⟨k, hkk⟩ : ∃ k, k = ys.length := ⟨_, rfl⟩
  obtain ⟨R, hR⟩ : ∃ R, R = decide (xs = ys) := ⟨_, rfl⟩
  obtain ⟨W, hW⟩ : ∃ W, W = ((w.alloc (.cells #[.int .i64 n, .slice A l c] 27)).alloc (.cells #[.int .i64 n, .slice B k d] 27)) := ⟨_, rfl⟩
  have HX0 : Hid (Ext w W) := by rw [hW]; exact ((Ext.refl w).alloc _).alloc _
  have HG0 : Hid (Bx2 W w.heap.size 27 (.int .i64 n) (.slice A l c)) := by rw [hW]; exact (Bx2.new w _ _ _).ext ((Ext.refl _).alloc _)
  have HG1 : Hid (Bx2 W (w.heap.size + 1) 27 (.int .i64 n) (.slice B k d)) := by rw [hW]; exact Bx2.new1' _ _ _ _ _
  have CE : Hid (Calls Try.prog 62 #[.slice A l c, .slice B k d] W fun e w' => e = .returned (.bool R) ∧ Ext W w') := by
    rw [hll, hkk, hR]
    exact equal_any A B c d xs ys W (hr.ext HX0.out) (hr2.ext HX0.out) (by omega) (by omega)
  rw [← hll, ← hkk, ← hR]
  clear hll hkk hR hr hr2 hl hl2
  have HW := Lib.hid hW
  clear hW
  go_enter Try.func43, Try.ntmps43
  go_wp2_with fail
  rw [← HW.out]
  clear HW
  obtain ⟨q0, q1, p0, p1⟩ := HG0.out.cells
  obtain ⟨q2, q3, p2, p3⟩ := HG1.out.cells
  go_wp2_with fail
  refine CE.out.mono ?_
  rintro e w1 ⟨rfl, he⟩
  have HX := Lib.hid (HX0.out.trans he)
  clear he q0 q1 p0 p1 q2 q3 p2 p3
  go_wp2_with fail
  go_ret
  exact ⟨rfl, HX.out⟩

set_option maxHeartbeats 2000000 in
theorem after_any (n : Nat) (A B : Option Addr) (c d : Nat) (xs ys : List Int) (w : World) (hr : RdI w A xs) (hr2 : RdI w B ys) (hn : n ≤ 24) (hl : xs.length ≤ 1048576) (hl2 : ys.length ≤ 1048576) :
    Calls Try.prog 54 #[.agg #[.int .i64 n, .slice A xs.length c], .agg #[.int .i64 n, .slice B ys.length d]] w fun e w' => e = .returned (.bool (decide (codeN n ys < codeN n xs))) ∧ Ext w w' := by
  obtain ⟨l, hll⟩ : ∃ l, l = xs.length := ⟨_, rfl⟩
  obtain ⟨k, hkk⟩ : ∃ k, k = ys.length := ⟨_, rfl⟩
  obtain ⟨R, hR⟩ : ∃ R, R = decide (codeN n ys < codeN n xs) := ⟨_, rfl⟩
  have HX0 : Hid (Ext w ((w.alloc (.cells #[.int .i64 n, .slice A l c] 27)).alloc (.cells #[.int .i64 n, .slice B k d] 27))) := ((Ext.refl w).alloc _).alloc _
  have HG0 : Hid (Bx2 ((w.alloc (.cells #[.int .i64 n, .slice A l c] 27)).alloc (.cells #[.int .i64 n, .slice B k d] 27)) w.heap.size 27 (.int .i64 n) (.slice A l c)) := (Bx2.new w _ _ _).ext ((Ext.refl _).alloc _)
  have HG1 : Hid (Bx2 ((w.alloc (.cells #[.int .i64 n, .slice A l c] 27)).alloc (.cells #[.int .i64 n, .slice B k d] 27)) (w.heap.size + 1) 27 (.int .i64 n) (.slice B k d)) := Bx2.new1' _ _ _ _ _
  have CA : Hid (∀ (p : Nat) (W : World), Ext w W → Calls Try.prog 53 #[.slice A l c, .int .i64 p] W fun e w' => e = .returned (.bool (inL xs p)) ∧ W = w') := fun p W he => by rw [hll]; exact has_any A c xs p W (hr.ext he) hl
  have CB : Hid (∀ (p : Nat) (W : World), Ext w W → Calls Try.prog 53 #[.slice B k d, .int .i64 p] W fun e w' => e = .returned (.bool (inL ys p)) ∧ W = w') := fun p W he => by rw [hkk]; exact has_any B d ys p W (hr2.ext he) hl2
  have HRR := Lib.hid hR
  rw [← hll, ← hkk, ← hR]
  clear hll hkk hR hr hr2 hl hl2
  go_enter Try.func54, Try.ntmps54
  go_wp2_with fail
  go_loopw [5] (fun i wr => ∃ p : Nat, p ≤ n ∧ i = .int .i64 p ∧ Hid (∀ j, j < p → inL xs j = inL ys j) ∧ Hid (Bx2 wr w.heap.size 27 (.int .i64 n) (.slice A l c)) ∧ Hid (Bx2 wr (w.heap.size + 1) 27 (.int .i64 n) (.slice B k d)) ∧ Hid (Ext w wr)) (fun i _ => n - (intOf i).toNat)
  case atStart => exact ⟨0, Nat.zero_le _, rfl, fun j hj => absurd hj (by omega), HG0.out, HG1.out, HX0.out⟩
  case round =>
    clear HX0 HG0 HG1
    obtain ⟨p, hp, rfl, HJ, HP, HQ, HE⟩ := hrel
    obtain ⟨q0, q1, p0, p1⟩ := HP.out.cells
    obtain ⟨q2, q3, p2, p3⟩ := HQ.out.cells
    by_cases hlt : p < n
    · have C1 := Lib.hid (CA.out p wr HE.out)
      have C2 := Lib.hid (CB.out p wr HE.out)
      obtain ⟨x, hx⟩ : ∃ x, x = inL xs p := ⟨_, rfl⟩
      obtain ⟨y, hy⟩ : ∃ y, y = inL ys p := ⟨_, rfl⟩
      rw [← hx] at C1
      rw [← hy] at C2
      have HX := Lib.hid hx
      have HY := Lib.hid hy
      clear hx hy
      go_wp2_with fail
      refine C1.out.mono ?_
      rintro e w1 ⟨rfl, rfl⟩
      go_wp2_with fail
      refine C2.out.mono ?_
      rintro e w1 ⟨rfl, rfl⟩
      by_cases hxy : x = y
      · subst hxy
        have HJN : Hid (∀ j, j < p + 1 → inL xs j = inL ys j) := fun j hj => by
          by_cases hjp : j < p
          · exact HJ.out j hjp
          · obtain rfl : j = p := by omega
            rw [← HX.out, ← HY.out]
        cases x
        · go_wp2_with fail
          go_roundw
          case rel => exact ⟨p + 1, by omega, by go_num, HJN.out, HP.out, HQ.out, HE.out⟩
          case measure => simp [intOf]; omega
        · go_wp2_with fail
          go_roundw
          case rel => exact ⟨p + 1, by omega, by go_num, HJN.out, HP.out, HQ.out, HE.out⟩
          case measure => simp [intOf]; omega
      · have HF : Hid (R = x) := by
          rw [HRR.out]
          cases x
          · have hyt : y = true := by cases y <;> simp_all
            have := codeH_lt (P := inL ys) (Q := inL xs) (fun j hj => (HJ.out j hj).symm) (by rw [← HY.out]; exact hyt) HX.out.symm n hlt
            exact decide_eq_false (by unfold codeN; omega)
          · have hyf : y = false := by cases y <;> simp_all
            have := codeH_lt (P := inL xs) (Q := inL ys) HJ.out HX.out.symm (by rw [← HY.out]; exact hyf) n hlt
            exact decide_eq_true this
        clear HX HY C1 C2
        cases x
        · obtain rfl : y = true := by cases y <;> simp_all
          go_wp2_with fail
          go_ret
          exact ⟨ret_bool HF.out.symm, HE.out⟩
        · obtain rfl : y = false := by cases y <;> simp_all
          go_wp2_with fail
          go_ret
          exact ⟨ret_bool HF.out.symm, HE.out⟩
    · obtain rfl : p = n := by omega
      have HF : Hid (R = false) := by
        rw [HRR.out]
        have := codeH_eq (P := inL xs) (Q := inL ys) HJ.out
        exact decide_eq_false (by unfold codeN; omega)
      go_wp2_with fail
      go_ret
      exact ⟨ret_bool HF.out.symm, HE.out⟩

/-- The later one of two. -/
def maxR (n : Nat) (xs ys : List Int) : List Int := if codeN n xs < codeN n ys then ys else xs
end Go.Proofs.Ytnhppeknkeblfaa
