/- Two rhythms are valid and have one size: contracts of l05Two, sameSize. -/
import Derived.Test.YtnhppeknkeblfaaRhy
namespace Go.Proofs.Ytnhppeknkeblfaa
open Go.RowKit

def twoB (n : Int) (xs : List Int) (m : Int) (ys : List Int) : Bool := rhyB n xs && (rhyB m ys && decide (n = m))
theorem twoB_iff {n m : Int} {xs ys : List Int} : twoB n xs m ys = true ↔ rhyB n xs = true ∧ rhyB m ys = true ∧ n = m := by simp [twoB]

set_option maxHeartbeats 1000000 in
theorem twoS_any (n m : Int) (A B : Option Addr) (c d : Nat) (xs ys : List Int) (w : World) (hr : RdI w A xs) (hr2 : RdI w B ys) (hl : xs.length ≤ 1099511627776) (hl2 : ys.length ≤ 1099511627776) :
    Calls Try.prog 21 #[.agg #[.int .i64 n, .slice A xs.length c], .agg #[.int .i64 m, .slice B ys.length d]] w fun e w' => e = .returned (.bool (twoB n xs m ys)) ∧ Ext w w' := by
  obtain ⟨l, hll⟩ : ∃ l, l = xs.length := ⟨_, rfl⟩
  obtain ⟨k, hkk⟩ : ∃ k, k = ys.length := ⟨_, rfl⟩
  obtain ⟨W, hW⟩ : ∃ W, W = ((w.alloc (.cells #[.int .i64 n, .slice A l c] 27)).alloc (.cells #[.int .i64 m, .slice B k d] 27)) := ⟨_, rfl⟩
  have HX0 : Hid (Ext w W) := by rw [hW]; exact ((Ext.refl w).alloc _).alloc _
  have HG0 : Hid (Bx2 W w.heap.size 27 (.int .i64 n) (.slice A l c)) := by rw [hW]; exact (Bx2.new w _ _ _).ext ((Ext.refl _).alloc _)
  have HG1 : Hid (Bx2 W (w.heap.size + 1) 27 (.int .i64 m) (.slice B k d)) := by
    rw [hW]
    have := Bx2.new (w.alloc (.cells #[.int .i64 n, .slice A l c] 27)) 27 (.int .i64 m) (.slice B k d)
    rwa [show (w.alloc (.cells #[.int .i64 n, .slice A l c] 27)).heap.size = w.heap.size + 1 by simp] at this
  rw [← hll, ← hkk]
  obtain ⟨R, hR⟩ : ∃ R, R = twoB n xs m ys := ⟨_, rfl⟩
  rw [← hR]
  obtain ⟨b1, hb1⟩ : ∃ b1, b1 = rhyB n xs := ⟨_, rfl⟩
  obtain ⟨b2, hb2⟩ : ∃ b2, b2 = rhyB m ys := ⟨_, rfl⟩
  have C1 : Hid (∀ W', Ext w W' → Calls Try.prog 32 #[.agg #[.int .i64 n, .slice A l c]] W' fun e w' => e = .returned (.bool b1) ∧ Ext W' w') := fun W' he => by
    rw [hll, hb1]
    exact rhyS_any A c n xs W' (hr.ext he) hl
  have C2 : Hid (∀ W', Ext w W' → Calls Try.prog 32 #[.agg #[.int .i64 m, .slice B k d]] W' fun e w' => e = .returned (.bool b2) ∧ Ext W' w') := fun W' he => by
    rw [hkk, hb2]
    exact rhyS_any B d m ys W' (hr2.ext he) hl2
  have HRB : Hid (R = (b1 && (b2 && decide (n = m)))) := by rw [hR, hb1, hb2]; exact rfl
  clear hR hb1 hb2 hr hr2 hl hl2 hll hkk
  have HW := Lib.hid hW
  clear hW
  go_enter Try.func21, Try.ntmps21
  go_wp2_with fail
  rw [← HW.out]
  clear HW
  obtain ⟨q0, q1, p0, p1⟩ := HG0.out.cells
  obtain ⟨q2, q3, p2, p3⟩ := HG1.out.cells
  go_wp2_with fail
  refine (C1.out _ HX0.out).mono ?_
  rintro e w1 ⟨rfl, he1⟩
  have HX1 := Lib.hid (HX0.out.trans he1)
  have HG2 := Lib.hid (HG0.out.ext he1)
  have HG3 := Lib.hid (HG1.out.ext he1)
  clear q0 q1 p0 p1 q2 q3 p2 p3 he1 HG0 HG1
  cases b1
  · have HF : Hid (R = false) := HRB.out
    go_wp2_with fail
    go_ret
    exact ⟨ret_bool HF.out.symm, HX1.out⟩
  obtain ⟨q0, q1, p0, p1⟩ := HG2.out.cells
  obtain ⟨q2, q3, p2, p3⟩ := HG3.out.cells
  go_wp2_with fail
  refine (C2.out _ HX1.out).mono ?_
  rintro e w2 ⟨rfl, he2⟩
  have HX2 := Lib.hid (HX1.out.trans he2)
  have HG4 := Lib.hid (HG2.out.ext he2)
  have HG5 := Lib.hid (HG3.out.ext he2)
  clear q0 q1 p0 p1 q2 q3 p2 p3 he2 HG2 HG3
  cases b2
  · have HF : Hid (R = false) := HRB.out
    go_wp2_with fail
    go_ret
    exact ⟨ret_bool HF.out.symm, HX2.out⟩
  obtain ⟨q0, q1, p0, p1⟩ := HG4.out.cells
  obtain ⟨q2, q3, p2, p3⟩ := HG5.out.cells
  have HF : Hid (R = decide (n = m)) := HRB.out
  go_wp2_with fail
  go_ret
  exact ⟨ret_bool HF.out.symm, HX2.out⟩
set_option maxHeartbeats 1000000 in
theorem twoI_any (n m : Int) (A B : Option Addr) (c d : Nat) (xs ys : List Int) (w : World) (hr : RdI w A xs) (hr2 : RdI w B ys) (hl : xs.length ≤ 1099511627776) (hl2 : ys.length ≤ 1099511627776) :
    Calls Try.prog 45 #[.agg #[.int .i64 n, .slice A xs.length c], .agg #[.int .i64 m, .slice B ys.length d]] w fun e w' => e = .returned (.bool (twoB n xs m ys)) ∧ Ext w w' := by
  obtain ⟨l, hll⟩ : ∃ l, l = xs.length := ⟨_, rfl⟩
  obtain ⟨k, hkk⟩ : ∃ k, k = ys.length := ⟨_, rfl⟩
  obtain ⟨W, hW⟩ : ∃ W, W = ((w.alloc (.cells #[.int .i64 n, .slice A l c] 27)).alloc (.cells #[.int .i64 m, .slice B k d] 27)) := ⟨_, rfl⟩
  have HX0 : Hid (Ext w W) := by rw [hW]; exact ((Ext.refl w).alloc _).alloc _
  have HG0 : Hid (Bx2 W w.heap.size 27 (.int .i64 n) (.slice A l c)) := by rw [hW]; exact (Bx2.new w _ _ _).ext ((Ext.refl _).alloc _)
  have HG1 : Hid (Bx2 W (w.heap.size + 1) 27 (.int .i64 m) (.slice B k d)) := by
    rw [hW]
    have := Bx2.new (w.alloc (.cells #[.int .i64 n, .slice A l c] 27)) 27 (.int .i64 m) (.slice B k d)
    rwa [show (w.alloc (.cells #[.int .i64 n, .slice A l c] 27)).heap.size = w.heap.size + 1 by simp] at this
  rw [← hll, ← hkk]
  obtain ⟨R, hR⟩ : ∃ R, R = twoB n xs m ys := ⟨_, rfl⟩
  rw [← hR]
  obtain ⟨b1, hb1⟩ : ∃ b1, b1 = rhyB n xs := ⟨_, rfl⟩
  obtain ⟨b2, hb2⟩ : ∃ b2, b2 = rhyB m ys := ⟨_, rfl⟩
  have C1 : Hid (∀ W', Ext w W' → Calls Try.prog 31 #[.agg #[.int .i64 n, .slice A l c]] W' fun e w' => e = .returned (.bool b1) ∧ Ext W' w') := fun W' he => by
    rw [hll, hb1]
    exact rhyI_any A c n xs W' (hr.ext he) hl
  have C2 : Hid (∀ W', Ext w W' → Calls Try.prog 31 #[.agg #[.int .i64 m, .slice B k d]] W' fun e w' => e = .returned (.bool b2) ∧ Ext W' w') := fun W' he => by
    rw [hkk, hb2]
    exact rhyI_any B d m ys W' (hr2.ext he) hl2
  have HRB : Hid (R = (b1 && (b2 && decide (n = m)))) := by rw [hR, hb1, hb2]; exact rfl
  clear hR hb1 hb2 hr hr2 hl hl2 hll hkk
  have HW := Lib.hid hW
  clear hW
  go_enter Try.func45, Try.ntmps45
  go_wp2_with fail
  rw [← HW.out]
  clear HW
  obtain ⟨q0, q1, p0, p1⟩ := HG0.out.cells
  obtain ⟨q2, q3, p2, p3⟩ := HG1.out.cells
  go_wp2_with fail
  refine (C1.out _ HX0.out).mono ?_
  rintro e w1 ⟨rfl, he1⟩
  have HX1 := Lib.hid (HX0.out.trans he1)
  have HG2 := Lib.hid (HG0.out.ext he1)
  have HG3 := Lib.hid (HG1.out.ext he1)
  clear q0 q1 p0 p1 q2 q3 p2 p3 he1 HG0 HG1
  cases b1
  · have HF : Hid (R = false) := HRB.out
    go_wp2_with fail
    go_ret
    exact ⟨ret_bool HF.out.symm, HX1.out⟩
  obtain ⟨q0, q1, p0, p1⟩ := HG2.out.cells
  obtain ⟨q2, q3, p2, p3⟩ := HG3.out.cells
  go_wp2_with fail
  refine (C2.out _ HX1.out).mono ?_
  rintro e w2 ⟨rfl, he2⟩
  have HX2 := Lib.hid (HX1.out.trans he2)
  have HG4 := Lib.hid (HG2.out.ext he2)
  have HG5 := Lib.hid (HG3.out.ext he2)
  clear q0 q1 p0 p1 q2 q3 p2 p3 he2 HG2 HG3
  cases b2
  · have HF : Hid (R = false) := HRB.out
    go_wp2_with fail
    go_ret
    exact ⟨ret_bool HF.out.symm, HX2.out⟩
  obtain ⟨q0, q1, p0, p1⟩ := HG4.out.cells
  obtain ⟨q2, q3, p2, p3⟩ := HG5.out.cells
  have HF : Hid (R = decide (n = m)) := HRB.out
  go_wp2_with fail
  go_ret
  exact ⟨ret_bool HF.out.symm, HX2.out⟩
end Go.Proofs.Ytnhppeknkeblfaa
