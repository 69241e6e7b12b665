/- Contracts of MoveDistance. -/
import Derived.Test.YtnhppeknkeblfaaFar
import Derived.Test.YtnhppeknkeblfaaTwo
namespace Go.Proofs.Ytnhppeknkeblfaa
open Go.RowKit

theorem beq_cast (l k : Nat) : ((l : Int) == (k : Int)) = decide (l = k) := by
  rw [Bool.eq_iff_iff, beq_iff_eq, decide_eq_true_eq]
  omega
def amB (n : Int) (xs : List Int) (m : Int) (ys : List Int) : Bool := twoB n xs m ys && decide (xs.length = ys.length)
def mdF (n : Int) (xs : List Int) (m : Int) (ys : List Int) : Int := if amB n xs m ys = true then farF n xs ys else -1

set_option maxHeartbeats 1000000 in
theorem am_any (n m : Int) (A B : Option Addr) (c d : Nat) (xs ys : List Int) (w : World) (hr : RdI w A xs) (hr2 : RdI w B ys) (hl : xs.length ≤ 1099511627776) (hl2 : ys.length ≤ 1099511627776) :
    Calls Try.prog 24 #[.agg #[.int .i64 n, .slice A xs.length c], .agg #[.int .i64 m, .slice B ys.length d]] w fun e w' => e = .returned (.bool (amB n xs m ys)) ∧ Ext w w' := by
  obtain ⟨l, hll⟩ : ∃ l, l = xs.length := ⟨_, rfl⟩
  obtain ⟨k, hkk⟩ : ∃ k, k = ys.length := ⟨_, rfl⟩
  obtain ⟨W, hW⟩ : ∃ W, W = ((w.alloc (.cells #[.int .i64 n, .slice A l c] 27)).alloc (.cells #[.int .i64 m, .slice B k d] 27)) := ⟨_, rfl⟩
  have HX0 : Hid (Ext w W) := by rw [hW]; exact ((Ext.refl w).alloc _).alloc _
  have HG0 : Hid (Bx2 W w.heap.size 27 (.int .i64 n) (.slice A l c)) := by rw [hW]; exact (Bx2.new w _ _ _).ext ((Ext.refl _).alloc _)
  have HG1 : Hid (Bx2 W (w.heap.size + 1) 27 (.int .i64 m) (.slice B k d)) := by rw [hW]; exact Bx2.new1 _ _ _ _ _
  rw [← hll, ← hkk]
  obtain ⟨R, hR⟩ : ∃ R, R = amB n xs m ys := ⟨_, rfl⟩
  rw [← hR]
  obtain ⟨b1, hb1⟩ : ∃ b1, b1 = twoB n xs m ys := ⟨_, rfl⟩
  have C1 : Hid (∀ W', Ext w W' → Calls Try.prog 45 #[.agg #[.int .i64 n, .slice A l c], .agg #[.int .i64 m, .slice B k d]] W' fun e w' => e = .returned (.bool b1) ∧ Ext W' w') := fun W' he => by
    rw [hll, hkk, hb1]
    exact twoI_any n m A B c d xs ys W' (hr.ext he) (hr2.ext he) hl hl2
  have HRB : Hid (R = (b1 && decide (l = k))) := by rw [hR, hb1, hll, hkk]; exact rfl
  clear hR hb1 hr hr2 hl hl2 hll hkk
  have HW := Lib.hid hW
  clear hW
  go_enter Try.func24, Try.ntmps24
  go_wp2_with fail
  rw [← HW.out]
  clear HW
  obtain ⟨q0, q1, p0, p1⟩ := HG0.out.cells
  obtain ⟨q2, q3, p2, p3⟩ := HG1.out.cells
  go_wp2_with fail
  refine (C1.out _ HX0.out).mono ?_
  rintro e w1 ⟨rfl, he1⟩
  have HX1 := Lib.hid (HX0.out.trans he1)
  have HG2 := Lib.hid (HG0.out.ext he1)
  have HG3 := Lib.hid (HG1.out.ext he1)
  clear q0 q1 p0 p1 q2 q3 p2 p3 he1 HG0 HG1
  cases b1
  · have HF : Hid (R = false) := HRB.out
    go_wp2_with fail
    go_ret
    exact ⟨ret_bool HF.out.symm, HX1.out⟩
  obtain ⟨q0, q1, p0, p1⟩ := HG2.out.cells
  obtain ⟨q2, q3, p2, p3⟩ := HG3.out.cells
  have HF : Hid (R = decide (l = k)) := HRB.out
  have HE : Hid (((l : Int) == (k : Int)) = R) := by rw [HF.out]; exact beq_cast l k
  go_wp2_with fail
  go_ret
  exact ⟨ret_bool HE.out, HX1.out⟩

set_option maxHeartbeats 1000000 in
theorem mdS_any (n m : Int) (A B : Option Addr) (c d : Nat) (xs ys : List Int) (w : World) (hr : RdI w A xs) (hr2 : RdI w B ys) (hl : xs.length ≤ 1099511627776) (hl2 : ys.length ≤ 1099511627776) :
    Calls Try.prog 8 #[.agg #[.int .i64 n, .slice A xs.length c], .agg #[.int .i64 m, .slice B ys.length d]] w fun e w' => e = .returned (.int .i64 (mdF n xs m ys)) ∧ Ext w w' := by
  obtain ⟨l, hll⟩ : ∃ l, l = xs.length := ⟨_, rfl⟩
  obtain ⟨k, hkk⟩ : ∃ k, k = ys.length := ⟨_, rfl⟩
  obtain ⟨W, hW⟩ : ∃ W, W = ((w.alloc (.cells #[.int .i64 n, .slice A l c] 27)).alloc (.cells #[.int .i64 m, .slice B k d] 27)) := ⟨_, rfl⟩
  have HX0 : Hid (Ext w W) := by rw [hW]; exact ((Ext.refl w).alloc _).alloc _
  have HG0 : Hid (Bx2 W w.heap.size 27 (.int .i64 n) (.slice A l c)) := by rw [hW]; exact (Bx2.new w _ _ _).ext ((Ext.refl _).alloc _)
  have HG1 : Hid (Bx2 W (w.heap.size + 1) 27 (.int .i64 m) (.slice B k d)) := by rw [hW]; exact Bx2.new1 _ _ _ _ _
  rw [← hll, ← hkk]
  obtain ⟨R, hR⟩ : ∃ R, R = mdF n xs m ys := ⟨_, rfl⟩
  rw [← hR]
  obtain ⟨b1, hb1⟩ : ∃ b1, b1 = twoB n xs m ys := ⟨_, rfl⟩
  have HB1 := Lib.hid hb1
  have C1 : Hid (∀ W', Ext w W' → Calls Try.prog 21 #[.agg #[.int .i64 n, .slice A l c], .agg #[.int .i64 m, .slice B k d]] W' fun e w' => e = .returned (.bool b1) ∧ Ext W' w') := fun W' he => by
    rw [hll, hkk, hb1]
    exact twoS_any n m A B c d xs ys W' (hr.ext he) (hr2.ext he) hl hl2
  clear hb1
  have CF : Hid (amB n xs m ys = true → ∀ W', Ext w W' → Calls Try.prog 22 #[.agg #[.int .i64 n, .slice A l c], .agg #[.int .i64 m, .slice B k d]] W' fun e w' => e = .returned (.int .i64 R) ∧ Ext W' w') := fun hb W' he => by
    rw [hll, hkk, hR]
    unfold mdF
    rw [if_pos hb]
    unfold amB at hb
    simp only [Bool.and_eq_true, decide_eq_true_eq] at hb
    obtain ⟨h1, h2⟩ := hb
    have h3 := twoB_iff.1 h1
    exact farS_any n m A B c d xs ys W' (hr.ext he) (hr2.ext he) h3.1 h3.2.1 h2.symm
  have HRB : Hid (amB n xs m ys = false → R = -1) := fun h => by rw [hR]; unfold mdF; rw [h]; exact rfl
  have HAM : Hid (amB n xs m ys = (twoB n xs m ys && decide (l = k))) := by rw [hll, hkk]; exact rfl
  clear hR hr hr2 hl hl2 hll hkk
  have HW := Lib.hid hW
  clear hW
  go_enter Try.func8, Try.ntmps8
  go_wp2_with fail
  rw [← HW.out]
  clear HW
  obtain ⟨q0, q1, p0, p1⟩ := HG0.out.cells
  obtain ⟨q2, q3, p2, p3⟩ := HG1.out.cells
  go_wp2_with fail
  refine (C1.out _ HX0.out).mono ?_
  rintro e w1 ⟨rfl, he1⟩
  have HX1 := Lib.hid (HX0.out.trans he1)
  have HG2 := Lib.hid (HG0.out.ext he1)
  have HG3 := Lib.hid (HG1.out.ext he1)
  clear q0 q1 p0 p1 q2 q3 p2 p3 he1 HG0 HG1
  obtain ⟨q0, q1, p0, p1⟩ := HG2.out.cells
  obtain ⟨q2, q3, p2, p3⟩ := HG3.out.cells
  cases b1
  · have HF : Hid (R = -1) := HRB.out (by rw [HAM.out, ← HB1.out]; rfl)
    go_wp2_with fail
    go_ret
    exact ⟨ret_int HF.out.symm, HX1.out⟩
  by_cases hlk : l = k
  · have CF2 := Lib.hid (CF.out (by rw [HAM.out, ← HB1.out]; simp [hlk]))
    subst hlk
    go_wp2_with fail
    refine (CF2.out _ HX1.out).mono ?_
    rintro e w2 ⟨rfl, he2⟩
    have HX2 := Lib.hid (HX1.out.trans he2)
    clear he2
    go_wp2_with fail
    go_ret
    exact ⟨rfl, HX2.out⟩
  · have HF : Hid (R = -1) := HRB.out (by rw [HAM.out]; simp [hlk])
    have hlk2 : ((l : Int) == k) = false := by simp; omega
    go_wp2_with fail
    go_ret
    exact ⟨ret_int HF.out.symm, HX1.out⟩
set_option maxHeartbeats 1000000 in
theorem mdI_any (n m : Int) (A B : Option Addr) (c d : Nat) (xs ys : List Int) (w : World) (hr : RdI w A xs) (hr2 : RdI w B ys) (hl : xs.length ≤ 1099511627776) (hl2 : ys.length ≤ 1099511627776) :
    Calls Try.prog 10 #[.agg #[.int .i64 n, .slice A xs.length c], .agg #[.int .i64 m, .slice B ys.length d]] w fun e w' => e = .returned (.int .i64 (mdF n xs m ys)) ∧ Ext w w' := by
  obtain ⟨l, hll⟩ : ∃ l, l = xs.length := ⟨_, rfl⟩
  obtain ⟨k, hkk⟩ : ∃ k, k = ys.length := ⟨_, rfl⟩
  obtain ⟨W, hW⟩ : ∃ W, W = ((w.alloc (.cells #[.int .i64 n, .slice A l c] 27)).alloc (.cells #[.int .i64 m, .slice B k d] 27)) := ⟨_, rfl⟩
  have HX0 : Hid (Ext w W) := by rw [hW]; exact ((Ext.refl w).alloc _).alloc _
  have HG0 : Hid (Bx2 W w.heap.size 27 (.int .i64 n) (.slice A l c)) := by rw [hW]; exact (Bx2.new w _ _ _).ext ((Ext.refl _).alloc _)
  have HG1 : Hid (Bx2 W (w.heap.size + 1) 27 (.int .i64 m) (.slice B k d)) := by rw [hW]; exact Bx2.new1 _ _ _ _ _
  rw [← hll, ← hkk]
  obtain ⟨R, hR⟩ : ∃ R, R = mdF n xs m ys := ⟨_, rfl⟩
  rw [← hR]
  obtain ⟨b1, hb1⟩ : ∃ b1, b1 = amB n xs m ys := ⟨_, rfl⟩
  have HB1 := Lib.hid hb1
  have C1 : Hid (∀ W', Ext w W' → Calls Try.prog 24 #[.agg #[.int .i64 n, .slice A l c], .agg #[.int .i64 m, .slice B k d]] W' fun e w' => e = .returned (.bool b1) ∧ Ext W' w') := fun W' he => by
    rw [hll, hkk, hb1]
    exact am_any n m A B c d xs ys W' (hr.ext he) (hr2.ext he) hl hl2
  clear hb1
  have CF : Hid (amB n xs m ys = true → ∀ W', Ext w W' → Calls Try.prog 25 #[.agg #[.int .i64 n, .slice A l c], .agg #[.int .i64 m, .slice B k d]] W' fun e w' => e = .returned (.int .i64 R) ∧ Ext W' w') := fun hb W' he => by
    rw [hll, hkk, hR]
    unfold mdF
    rw [if_pos hb]
    unfold amB at hb
    simp only [Bool.and_eq_true, decide_eq_true_eq] at hb
    obtain ⟨h1, h2⟩ := hb
    have h3 := twoB_iff.1 h1
    exact farI_any n m A B c d xs ys W' (hr.ext he) (hr2.ext he) h3.1 h3.2.1 h2.symm
  have HRB : Hid (amB n xs m ys = false → R = -1) := fun h => by rw [hR]; unfold mdF; rw [h]; exact rfl
  have HAM : Hid (amB n xs m ys = (twoB n xs m ys && decide (l = k))) := by rw [hll, hkk]; exact rfl
  clear hR hr hr2 hl hl2 hll hkk
  have HW := Lib.hid hW
  clear hW
  go_enter Try.func10, Try.ntmps10
  go_wp2_with fail
  rw [← HW.out]
  clear HW
  obtain ⟨q0, q1, p0, p1⟩ := HG0.out.cells
  obtain ⟨q2, q3, p2, p3⟩ := HG1.out.cells
  go_wp2_with fail
  refine (C1.out _ HX0.out).mono ?_
  rintro e w1 ⟨rfl, he1⟩
  have HX1 := Lib.hid (HX0.out.trans he1)
  have HG2 := Lib.hid (HG0.out.ext he1)
  have HG3 := Lib.hid (HG1.out.ext he1)
  clear q0 q1 p0 p1 q2 q3 p2 p3 he1 HG0 HG1
  obtain ⟨q0, q1, p0, p1⟩ := HG2.out.cells
  obtain ⟨q2, q3, p2, p3⟩ := HG3.out.cells
  cases b1
  · have HF : Hid (R = -1) := HRB.out HB1.out.symm
    go_wp2_with fail
    go_ret
    exact ⟨ret_int HF.out.symm, HX1.out⟩
  have CF2 := Lib.hid (CF.out HB1.out.symm)
  go_wp2_with fail
  refine (CF2.out _ HX1.out).mono ?_
  rintro e w2 ⟨rfl, he2⟩
  have HX2 := Lib.hid (HX1.out.trans he2)
  clear he2
  go_wp2_with fail
  go_ret
  exact ⟨rfl, HX2.out⟩
end Go.Proofs.Ytnhppeknkeblfaa
