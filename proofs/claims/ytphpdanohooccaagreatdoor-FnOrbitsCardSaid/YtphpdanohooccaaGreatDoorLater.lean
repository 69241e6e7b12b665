/- Contracts of l02Same, equals, l04After, later. -/
import Derived.Test.YtphpdanohooccaaGreatDoorCode
import Derived.Deep.RegionHeld3
namespace Go.Proofs.YtphpdanohooccaaGreatDoor
open Go.RowKit


set_option maxHeartbeats 1000000 in
theorem equals_any (n : Int) (A B : Option Addr) (c d : Nat) (xs ys : List Int) (w : World) (hr : RdI w A xs) (hr2 : RdI w B ys) (hl : xs.length ≤ 1048576) (hl2 : ys.length ≤ 1048576) :
    Calls Tryz.prog 27 #[.agg #[.int .i64 n, .slice A xs.length c], .agg #[.int .i64 n, .slice B ys.length d]] w fun e w' => e = .returned (.bool (decide (xs = ys))) ∧ Ext w w' := by
  obtain ⟨l, hll⟩ : ∃ l, l = xs.length := ⟨_, rfl⟩
  obtain ⟨k, hkk⟩ : ∃ k, k = ys.length := ⟨_, rfl⟩
  obtain ⟨R, hR⟩ : ∃ R, R = decide (xs = ys) := ⟨_, rfl⟩
  obtain ⟨W, hW⟩ : ∃ W, W = ((w.alloc (.cells #[.int .i64 n, .slice A l c] 25)).alloc (.cells #[.int .i64 n, .slice B k d] 25)) := ⟨_, rfl⟩
  have HX0 : Hid (Ext w W) := by rw [hW]; exact ((Ext.refl w).alloc _).alloc _
  have HG0 : Hid (Bx2 W w.heap.size 25 (.int .i64 n) (.slice A l c)) := by rw [hW]; exact (Bx2.new w _ _ _).ext ((Ext.refl _).alloc _)
  have HG1 : Hid (Bx2 W (w.heap.size + 1) 25 (.int .i64 n) (.slice B k d)) := by rw [hW]; exact Bx2.new1' _ _ _ _ _
  have CE : Hid (Calls Tryz.prog 54 #[.slice A l c, .slice B k d] W fun e w' => e = .returned (.bool R) ∧ Ext W w') := by
    rw [hll, hkk, hR]
    exact equal_any A B c d xs ys W (hr.ext HX0.out) (hr2.ext HX0.out) (by omega) (by omega)
  rw [← hll, ← hkk, ← hR]
  clear hll hkk hR hr hr2 hl hl2
  have HW := Lib.hid hW
  clear hW
  go_enter Tryz.func27, Tryz.ntmps27
  go_wp2_with fail
  rw [← HW.out]
  clear HW
  obtain ⟨q0, q1, p0, p1⟩ := HG0.out.cells
  obtain ⟨q2, q3, p2, p3⟩ := HG1.out.cells
  go_wp2_with fail
  refine CE.out.mono ?_
  rintro e w1 ⟨rfl, he⟩
  have HX := Lib.hid (HX0.out.trans he)
  clear he q0 q1 p0 p1 q2 q3 p2 p3
  go_wp2_with fail
  go_ret
  exact ⟨rfl, HX.out⟩


/-- The later one of two. -/
def maxR (n : Nat) (xs ys : List Int) : List Int := if codeN n xs < codeN n ys then ys else xs
set_option maxHeartbeats 2000000 in
theorem laterYes_any (n : Nat) (A B : Option Addr) (c d : Nat) (xs ys : List Int) (w : World) (hr : RdI w A xs) (hr2 : RdI w B ys) (hb : rhyB n xs = true) (hb2 : rhyB n ys = true) (hlt : codeN n xs < codeN n ys) :
    Calls Tryz.prog 69 #[.agg #[.int .i64 n, .slice A xs.length c], .agg #[.int .i64 n, .slice B ys.length d]] w fun e w' => e = .returned (.agg #[.int .i64 n, .slice B ys.length d]) ∧ Ext w w' := by
  obtain ⟨l, hll⟩ : ∃ l, l = xs.length := ⟨_, rfl⟩
  obtain ⟨k, hkk⟩ : ∃ k, k = ys.length := ⟨_, rfl⟩
  obtain ⟨u, hu⟩ : ∃ u, u = codeN n xs := ⟨_, rfl⟩
  obtain ⟨v, hv⟩ : ∃ v, v = codeN n ys := ⟨_, rfl⟩
  obtain ⟨W, hW⟩ : ∃ W, W = (((w.alloc (.cells #[.int .i64 n, .slice A l c] 25)).alloc (.cells #[.int .i64 n, .slice B k d] 25)).alloc (.cells #[.int .i64 0, .slice none 0 0] 25)) := ⟨_, rfl⟩
  have HX0 : Hid (Ext w W) := by rw [hW]; exact (((Ext.refl w).alloc _).alloc _).alloc _
  have HG0 : Hid (Bx2 W w.heap.size 25 (.int .i64 n) (.slice A l c)) := by rw [hW]; exact (Bx2.new w _ _ _).ext (((Ext.refl _).alloc _).alloc _)
  have HG1 : Hid (Bx2 W (w.heap.size + 1) 25 (.int .i64 n) (.slice B k d)) := by rw [hW]; exact (Bx2.new1' _ _ _ _ _).ext ((Ext.refl _).alloc _)
  have HG2 : Hid (Bx2 W (w.heap.size + 1 + 1) 25 (.int .i64 0) (.slice none 0 0)) := by
    rw [hW]
    have := Bx2.new1' (w.alloc (.cells #[.int .i64 n, .slice A l c] 25)) (.cells #[.int .i64 n, .slice B k d] 25) 25 (.int .i64 0) (.slice none 0 0)
    rwa [show (w.alloc (.cells #[.int .i64 n, .slice A l c] 25)).heap.size = w.heap.size + 1 by simp] at this
  have CB : Hid (∀ W' : World, Ext w W' → Calls Tryz.prog 25 #[.agg #[.int .i64 n, .slice B k d]] W' fun e w' => e = .returned (.int .i64 (v : Nat)) ∧ Ext W' w') := fun W' he => by rw [hkk, hv]; exact code_any n B d ys W' (hr2.ext he) hb2
  have CA : Hid (∀ W' : World, Ext w W' → Calls Tryz.prog 25 #[.agg #[.int .i64 n, .slice A l c]] W' fun e w' => e = .returned (.int .i64 (u : Nat)) ∧ Ext W' w') := fun W' he => by rw [hll, hu]; exact code_any n A c xs W' (hr.ext he) hb
  rw [← hu, ← hv] at hlt
  have HLT := Lib.hid hlt
  rw [← hll, ← hkk]
  clear hll hkk hu hv hr hr2 hb hb2
  have HW := Lib.hid hW
  clear hW
  go_enter Tryz.func69, Tryz.ntmps69
  go_wp2_with fail
  rw [← HW.out]
  clear HW
  obtain ⟨q0, q1, p0, p1⟩ := HG0.out.cells
  obtain ⟨q2, q3, p2, p3⟩ := HG1.out.cells
  go_region_held3 (fun V => V.cell? ⟨w.heap.size, 0, none⟩ = some (.int .i64 n) ∧ V.cell? ⟨w.heap.size, 1, none⟩ = some (.slice A l c) ∧ V.cell? ⟨w.heap.size + 1, 0, none⟩ = some (.int .i64 n) ∧ V.cell? ⟨w.heap.size + 1, 1, none⟩ = some (.slice B k d))
    (first | exact ⟨q0, q1, q2, q3⟩ | exact ⟨Ext.cell e1 q0, Ext.cell e1 q1, Ext.cell e1 q2, Ext.cell e1 q3⟩ | exact ⟨Ext.cell e2 (Ext.cell e1 q0), Ext.cell e2 (Ext.cell e1 q1), Ext.cell e2 (Ext.cell e1 q2), Ext.cell e2 (Ext.cell e1 q3)⟩)
    (first
      | (go_at_call 25; (with_reducible refine (CB.out (World.drew W) (HX0.out.drew)).mono ?_); rintro e w1 ⟨rfl, e1⟩)
      | (go_at_call 25; (with_reducible refine (CA.out w1 (HX0.out.drew.trans e1)).mono ?_); rintro e w2 ⟨rfl, e2⟩))
  have X := ((Ext.refl W).drew.trans e1).trans e2
  have HX2 := Lib.hid (HX0.out.trans X)
  have HP := Lib.hid (HG0.out.ext X)
  have HQ := Lib.hid (HG1.out.ext X)
  have HZ := Lib.hid (HG2.out.ext X)
  clear e1 e2 X q0 q1 q2 q3 p0 p1 p2 p3 HG0 HG1 HG2
  obtain ⟨q0, q1, p0, p1⟩ := HP.out.cells
  obtain ⟨q2, q3, p2, p3⟩ := HQ.out.cells
  obtain ⟨q4, q5, p4, p5⟩ := HZ.out.cells
  go_wp2_with fail
  refine bodyPost_ret (v := .agg #[.int .i64 n, .slice B k d]) (by simp [results, Tryz.results69, go_sem, q4, q5]) rfl ?_
  exact ⟨rfl, (HX2.out.setCell (by simp only []; omega) _).setCell (by simp only []; omega) _⟩
set_option maxHeartbeats 2000000 in
theorem laterNo_any (n : Nat) (A B : Option Addr) (c d : Nat) (xs ys : List Int) (w : World) (hr : RdI w A xs) (hr2 : RdI w B ys) (hb : rhyB n xs = true) (hb2 : rhyB n ys = true) (hlt : ¬ codeN n xs < codeN n ys) :
    Calls Tryz.prog 69 #[.agg #[.int .i64 n, .slice A xs.length c], .agg #[.int .i64 n, .slice B ys.length d]] w fun e w' => e = .returned (.agg #[.int .i64 n, .slice A xs.length c]) ∧ Ext w w' := by
  obtain ⟨l, hll⟩ : ∃ l, l = xs.length := ⟨_, rfl⟩
  obtain ⟨k, hkk⟩ : ∃ k, k = ys.length := ⟨_, rfl⟩
  obtain ⟨u, hu⟩ : ∃ u, u = codeN n xs := ⟨_, rfl⟩
  obtain ⟨v, hv⟩ : ∃ v, v = codeN n ys := ⟨_, rfl⟩
  obtain ⟨W, hW⟩ : ∃ W, W = (((w.alloc (.cells #[.int .i64 n, .slice A l c] 25)).alloc (.cells #[.int .i64 n, .slice B k d] 25)).alloc (.cells #[.int .i64 0, .slice none 0 0] 25)) := ⟨_, rfl⟩
  have HX0 : Hid (Ext w W) := by rw [hW]; exact (((Ext.refl w).alloc _).alloc _).alloc _
  have HG0 : Hid (Bx2 W w.heap.size 25 (.int .i64 n) (.slice A l c)) := by rw [hW]; exact (Bx2.new w _ _ _).ext (((Ext.refl _).alloc _).alloc _)
  have HG1 : Hid (Bx2 W (w.heap.size + 1) 25 (.int .i64 n) (.slice B k d)) := by rw [hW]; exact (Bx2.new1' _ _ _ _ _).ext ((Ext.refl _).alloc _)
  have HG2 : Hid (Bx2 W (w.heap.size + 1 + 1) 25 (.int .i64 0) (.slice none 0 0)) := by
    rw [hW]
    have := Bx2.new1' (w.alloc (.cells #[.int .i64 n, .slice A l c] 25)) (.cells #[.int .i64 n, .slice B k d] 25) 25 (.int .i64 0) (.slice none 0 0)
    rwa [show (w.alloc (.cells #[.int .i64 n, .slice A l c] 25)).heap.size = w.heap.size + 1 by simp] at this
  have CB : Hid (∀ W' : World, Ext w W' → Calls Tryz.prog 25 #[.agg #[.int .i64 n, .slice B k d]] W' fun e w' => e = .returned (.int .i64 (v : Nat)) ∧ Ext W' w') := fun W' he => by rw [hkk, hv]; exact code_any n B d ys W' (hr2.ext he) hb2
  have CA : Hid (∀ W' : World, Ext w W' → Calls Tryz.prog 25 #[.agg #[.int .i64 n, .slice A l c]] W' fun e w' => e = .returned (.int .i64 (u : Nat)) ∧ Ext W' w') := fun W' he => by rw [hll, hu]; exact code_any n A c xs W' (hr.ext he) hb
  rw [← hu, ← hv] at hlt
  have HLT := Lib.hid hlt
  rw [← hll, ← hkk]
  clear hll hkk hu hv hr hr2 hb hb2
  have HW := Lib.hid hW
  clear hW
  go_enter Tryz.func69, Tryz.ntmps69
  go_wp2_with fail
  rw [← HW.out]
  clear HW
  obtain ⟨q0, q1, p0, p1⟩ := HG0.out.cells
  obtain ⟨q2, q3, p2, p3⟩ := HG1.out.cells
  go_region_held3 (fun V => V.cell? ⟨w.heap.size, 0, none⟩ = some (.int .i64 n) ∧ V.cell? ⟨w.heap.size, 1, none⟩ = some (.slice A l c) ∧ V.cell? ⟨w.heap.size + 1, 0, none⟩ = some (.int .i64 n) ∧ V.cell? ⟨w.heap.size + 1, 1, none⟩ = some (.slice B k d))
    (first | exact ⟨q0, q1, q2, q3⟩ | exact ⟨Ext.cell e1 q0, Ext.cell e1 q1, Ext.cell e1 q2, Ext.cell e1 q3⟩ | exact ⟨Ext.cell e2 (Ext.cell e1 q0), Ext.cell e2 (Ext.cell e1 q1), Ext.cell e2 (Ext.cell e1 q2), Ext.cell e2 (Ext.cell e1 q3)⟩)
    (first
      | (go_at_call 25; (with_reducible refine (CB.out (World.drew W) (HX0.out.drew)).mono ?_); rintro e w1 ⟨rfl, e1⟩)
      | (go_at_call 25; (with_reducible refine (CA.out w1 (HX0.out.drew.trans e1)).mono ?_); rintro e w2 ⟨rfl, e2⟩))
  have X := ((Ext.refl W).drew.trans e1).trans e2
  have HX2 := Lib.hid (HX0.out.trans X)
  have HP := Lib.hid (HG0.out.ext X)
  have HQ := Lib.hid (HG1.out.ext X)
  have HZ := Lib.hid (HG2.out.ext X)
  clear e1 e2 X q0 q1 q2 q3 p0 p1 p2 p3 HG0 HG1 HG2
  obtain ⟨q0, q1, p0, p1⟩ := HP.out.cells
  obtain ⟨q2, q3, p2, p3⟩ := HQ.out.cells
  obtain ⟨q4, q5, p4, p5⟩ := HZ.out.cells
  go_wp2_with fail
  refine bodyPost_ret (v := .agg #[.int .i64 n, .slice A l c]) (by simp [results, Tryz.results69, go_sem, q4, q5]) rfl ?_
  exact ⟨rfl, (HX2.out.setCell (by simp only []; omega) _).setCell (by simp only []; omega) _⟩
end Go.Proofs.YtphpdanohooccaaGreatDoor
