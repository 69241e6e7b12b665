/- Contracts of StretchClass. -/
import Derived.Test.YtphpdanohooccaaGreatDoorClass
namespace Go.Proofs.YtphpdanohooccaaGreatDoor
open Go.RowKit

def scF (n : Int) (xs : List Int) : Int × List Int := if rhyB n xs = true then (n, clF n.toNat xs (uL n.toNat (n.toNat + 1))) else (0, [])
theorem retRB_none {w w' : World} (h : Ext w w') : RetRB w (0, []) false (.returned (.tuple #[.agg #[.int .i64 0, .slice none 0 0], .bool false])) w' :=
  ⟨_, rfl, ⟨none, 0, rfl, none, 0, rfl, OwI.nil _ _, (fun a ha => by cases ha), Nat.le_refl _⟩, h⟩

set_option maxHeartbeats 2000000 in
theorem scI_good (n : Nat) (A : Option Addr) (c : Nat) (xs : List Int) (w : World) (hr : RdI w A xs) (hb : rhyB n xs = true) :
    Calls Tryz.prog 18 #[.agg #[.int .i64 n, .slice A xs.length c]] w (RetRB w ((n : Int), clF n xs (uL n (n + 1))) true) := by
  have hxl := rhy_short hb
  obtain ⟨l, hll⟩ : ∃ l, l = xs.length := ⟨_, rfl⟩
  obtain ⟨zs, hzs⟩ : ∃ zs, zs = clF n xs (uL n (n + 1)) := ⟨_, rfl⟩
  have CO : Hid (∀ W : World, Ext w W → Calls Tryz.prog 28 #[.agg #[.int .i64 n, .slice A l c]] W fun e w' => e = .returned (.bool true) ∧ Ext W w') := fun W he => by rw [hll, ← hb]; exact rhyI_any A c n xs W (hr.ext he) (by omega)
  have CC : Hid (∀ W : World, Ext w W → Calls Tryz.prog 44 #[.agg #[.int .i64 n, .slice A l c]] W (RetR W ((n : Int), zs))) := fun W he => by rw [hll, hzs]; exact clI_any n A c xs W (hr.ext he) hb
  obtain ⟨W, hW⟩ : ∃ W, W = ((w.alloc (.cells #[.int .i64 n, .slice A l c] 25)).alloc (.cells #[.int .i64 0, .slice none 0 0] 25)) := ⟨_, rfl⟩
  have HX0 : Hid (Ext w W) := by rw [hW]; exact ((Ext.refl w).alloc _).alloc _
  have HG0 : Hid (Bx2 W w.heap.size 25 (.int .i64 n) (.slice A l c)) := by rw [hW]; exact (Bx2.new w _ _ _).ext ((Ext.refl _).alloc _)
  have HG1 : Hid (Bx2 W (w.heap.size + 1) 25 (.int .i64 0) (.slice none 0 0)) := by rw [hW]; exact Bx2.new1' _ _ _ _ _
  rw [← hll, ← hzs]
  have HW := Lib.hid hW
  clear hll hr hW hb hxl hzs
  go_enter Tryz.func18, Tryz.ntmps18
  go_wp2_with fail
  rw [← HW.out]
  clear HW
  obtain ⟨q0, q1, p0, p1⟩ := HG0.out.cells
  go_wp2_with fail
  refine (CO.out W HX0.out).mono ?_
  rintro e w0 ⟨rfl, e0⟩
  have HXa := Lib.hid (HX0.out.trans e0)
  have HPa := Lib.hid (HG0.out.ext e0)
  have HQa := Lib.hid (HG1.out.ext e0)
  clear e0 q0 q1 p0 p1 HG0 HG1 HX0 CO
  obtain ⟨q0, q1, p0, p1⟩ := HPa.out.cells
  go_wp2_with fail
  refine (CC.out w0 HXa.out).mono ?_
  intro e w1 hret
  obtain ⟨D, d, rfl, ho, he⟩ := hret.parts
  have HO := Lib.hid (ho.lower HXa.out.size)
  have HX := Lib.hid (HXa.out.trans he)
  have HQ := Lib.hid (HQa.out.ext he)
  have HNE : Hid (∀ ad, D = some ad → ad.block ≠ w.heap.size + 1) := fun ad had => HQ.out.ne (by decide) HO.out ad had
  clear hret ho he q0 q1 p0 p1
  obtain ⟨q4, q5, p4, p5⟩ := HQ.out.cells
  go_wp2_with fail
  refine bodyPost_ret (v := .tuple #[.agg #[.int .i64 n, .slice D zs.length d], .bool true]) (by simp [results, Tryz.results18, go_sem, q4, q5]) rfl ?_
  exact retRB_intro rfl ((HO.out.setFar HNE.out _).setFar HNE.out _) ((HX.out.setCell (by simp only []; omega) _).setCell (by simp only []; omega) _)

set_option maxHeartbeats 1000000 in
theorem scI_any (n : Int) (A : Option Addr) (c : Nat) (xs : List Int) (w : World) (hr : RdI w A xs) (hl : xs.length ≤ 1048576) :
    Calls Tryz.prog 18 #[.agg #[.int .i64 n, .slice A xs.length c]] w (RetRB w (scF n xs) (rhyB n xs)) := by
  by_cases hb : rhyB n xs = true
  · have hn := (rhyB_iff hb).1
    obtain ⟨N, rfl⟩ := Int.eq_ofNat_of_zero_le (show 0 ≤ n by omega)
    unfold scF
    rw [if_pos hb, hb, Int.toNat_natCast]
    exact scI_good N A c xs w hr hb
  · have hb : rhyB n xs = false := by simpa using hb
    unfold scF
    rw [hb, if_neg (by simp)]
    obtain ⟨l, hll⟩ : ∃ l, l = xs.length := ⟨_, rfl⟩
    have CO : Hid (∀ W : World, Ext w W → Calls Tryz.prog 28 #[.agg #[.int .i64 n, .slice A l c]] W fun e w' => e = .returned (.bool false) ∧ Ext W w') := fun W he => by rw [hll, ← hb]; exact rhyI_any A c n xs W (hr.ext he) (by omega)
    obtain ⟨W, hW⟩ : ∃ W, W = ((w.alloc (.cells #[.int .i64 n, .slice A l c] 25)).alloc (.cells #[.int .i64 0, .slice none 0 0] 25)) := ⟨_, rfl⟩
    have HX0 : Hid (Ext w W) := by rw [hW]; exact ((Ext.refl w).alloc _).alloc _
    have HG0 : Hid (Bx2 W w.heap.size 25 (.int .i64 n) (.slice A l c)) := by rw [hW]; exact (Bx2.new w _ _ _).ext ((Ext.refl _).alloc _)
    have HG1 : Hid (Bx2 W (w.heap.size + 1) 25 (.int .i64 0) (.slice none 0 0)) := by rw [hW]; exact Bx2.new1' _ _ _ _ _
    rw [← hll]
    have HW := Lib.hid hW
    clear hll hr hW hb hl
    go_enter Tryz.func18, Tryz.ntmps18
    go_wp2_with fail
    rw [← HW.out]
    clear HW
    obtain ⟨q0, q1, p0, p1⟩ := HG0.out.cells
    go_wp2_with fail
    refine (CO.out W HX0.out).mono ?_
    rintro e w0 ⟨rfl, e0⟩
    have HXa := Lib.hid (HX0.out.trans e0)
    have HQa := Lib.hid (HG1.out.ext e0)
    clear e0 q0 q1 p0 p1 HG0 HG1 HX0 CO
    obtain ⟨q4, q5, p4, p5⟩ := HQa.out.cells
    go_wp2_with fail
    refine bodyPost_ret (v := .tuple #[.agg #[.int .i64 0, .slice none 0 0], .bool false]) (by simp [results, Tryz.results18, go_sem, q4, q5]) rfl ?_
    exact retRB_none ((HXa.out.setCell (by simp only []; omega) _).setCell (by simp only []; omega) _)
end Go.Proofs.YtphpdanohooccaaGreatDoor
