/- Contracts of rotated, mirrored, stretched. -/
import Derived.Test.YtphpdanohooccaaGreatDoorMapI
namespace Go.Proofs.YtphpdanohooccaaGreatDoor
open Go.RowKit

set_option maxHeartbeats 1000000 in
theorem rot_car (k : Int) (g : Nat) (W0 : World) (hc : W0.cell? ⟨g, 0, none⟩ = some (.int .i64 k)) (hk : -2000 ≤ k ∧ k ≤ 2000) :
    Carries 63 #[.pointer (some ⟨g, 0, none⟩)] (fun p => p + k) W0 := by
  intro p W hp0 hp1 he
  have hc2 := Ext.cell he hc
  have hpk := (show -3000 ≤ p + k ∧ p + k ≤ 3000 by omega)
  clear hc he
  show Calls Tryz.prog 63 #[.int .i64 p, .pointer (some ⟨g, 0, none⟩)] W _
  go_enter Tryz.func63, Tryz.ntmps63
  go_wp2_with fail
  go_ret
  exact ⟨rfl, rfl⟩
set_option maxHeartbeats 2000000 in
theorem rot_any (n : Nat) (A : Option Addr) (c : Nat) (xs : List Int) (k : Int) (w : World) (hr : RdI w A xs) (hb : rhyB n xs = true) (hk : -2000 ≤ k ∧ k ≤ 2000) :
    Calls Tryz.prog 30 #[.agg #[.int .i64 n, .slice A xs.length c], .int .i64 k] w (RetR w ((n : Int), mapF n xs (fun p => p + k))) := by
  have hmf : ∀ (fn : Fn) (first cap : Array Value) (w : World), (Instr.makeFunc fn first cap).run Tryz.prog w = .ok (.func fn first cap) w := fun _ _ _ _ => rfl
  obtain ⟨l, hll⟩ : ∃ l, l = xs.length := ⟨_, rfl⟩
  obtain ⟨zs, hzs⟩ : ∃ zs, zs = mapF n xs (fun p => p + k) := ⟨_, rfl⟩
  obtain ⟨W, hW⟩ : ∃ W, W = (((w.alloc (.cells #[.int .i64 n, .slice A l c] 25)).alloc (.cells #[.int .i64 k] 3)).alloc (.cells #[.int .i64 0, .slice none 0 0] 25)) := ⟨_, rfl⟩
  have HX0 : Hid (Ext w W) := by rw [hW]; exact (((Ext.refl w).alloc _).alloc _).alloc _
  have HG0 : Hid (Bx2 W w.heap.size 25 (.int .i64 n) (.slice A l c)) := by rw [hW]; exact (Bx2.new w _ _ _).ext (((Ext.refl _).alloc _).alloc _)
  have HG1 : Hid (Bx2 W (w.heap.size + 1 + 1) 25 (.int .i64 0) (.slice none 0 0)) := by
    rw [hW]
    have := Bx2.new1' (w.alloc (.cells #[.int .i64 n, .slice A l c] 25)) (.cells #[.int .i64 k] 3) 25 (.int .i64 0) (.slice none 0 0)
    rwa [show (w.alloc (.cells #[.int .i64 n, .slice A l c] 25)).heap.size = w.heap.size + 1 by simp] at this
  have hck : W.cell? ⟨w.heap.size + 1, 0, none⟩ = some (.int .i64 k) := by
    rw [hW]
    refine Ext.cell ((Ext.refl _).alloc _) ?_
    refine cell_of_row _ _ 0 #[.int .i64 k] 3 (0, 0) ?_
    rw [show w.heap.size + 1 = (w.alloc (.cells #[.int .i64 n, .slice A l c] 25)).heap.size by simp]
    exact heap_alloc_new _ _
  have CO : Hid (Calls Tryz.prog 62 #[.agg #[.int .i64 n, .slice A l c], .func (.func 63) #[] #[.pointer (some ⟨w.heap.size + 1, 0, none⟩)]] W (RetR W ((n : Int), zs))) := by
    rw [hzs, hll]
    exact movedRot_any n A c (w.heap.size + 1) xs _ W (hr.ext HX0.out) hb (fun p hp0 hp1 => ⟨by omega, by omega⟩) (rot_car k _ W hck hk)
  have HZ := Lib.hid hck
  rw [← hzs, ← hll]
  clear hr hb hck hzs hll
  have HW := Lib.hid hW
  clear hW
  go_enter Tryz.func30, Tryz.ntmps30
  go_wp2_with fail
  rw [← HW.out]
  clear HW
  obtain ⟨q0, q1, p0, p1⟩ := HG0.out.cells
  go_wp2_with fail
  refine CO.out.mono ?_
  intro e w2 hret
  obtain ⟨A2, c2, rfl, ho, he⟩ := hret.parts
  have HQ2 := Lib.hid (HG1.out.ext he)
  have HE2 := Lib.hid (HX0.out.trans he)
  have HO3 := Lib.hid ho
  have hgw := HG1.out.lt
  have HNE : Hid (∀ ad, A2 = some ad → ad.block ≠ w.heap.size + 1 + 1) := fun ad had => by have := (ho.lt ad had).1; omega
  have HSZ := Lib.hid HX0.out.size
  clear ho he hret q0 q1 p0 p1
  obtain ⟨q2, q3, p2, p3⟩ := HQ2.out.cells
  go_wp2_with fail
  refine bodyPost_ret (v := .agg #[.int .i64 n, .slice A2 zs.length c2]) (by simp [results, Tryz.results30, go_sem, q2, q3]) rfl ?_
  exact retR_intro rfl (((HO3.out.lower HSZ.out).setFar (fun ad had => HNE.out ad had) _).setFar (fun ad had => HNE.out ad had) _) ((HE2.out.setCell (by simp only []; omega) _).setCell (by simp only []; omega) _)

set_option maxHeartbeats 1000000 in
theorem str_car (k : Int) (g : Nat) (W0 : World) (hc : W0.cell? ⟨g, 0, none⟩ = some (.int .i64 k)) (hk : -30 ≤ k ∧ k ≤ 30) :
    Carries 71 #[.pointer (some ⟨g, 0, none⟩)] (fun p => k * p) W0 := by
  intro p W hp0 hp1 he
  have hc2 := Ext.cell he hc
  have hpk := mul_bnd hk ⟨hp0, hp1⟩
  clear hc he
  show Calls Tryz.prog 71 #[.int .i64 p, .pointer (some ⟨g, 0, none⟩)] W _
  go_enter Tryz.func71, Tryz.ntmps71
  go_wp2_with fail
  go_ret
  exact ⟨rfl, rfl⟩
set_option maxHeartbeats 2000000 in
theorem str_any (n : Nat) (A : Option Addr) (c : Nat) (xs : List Int) (k : Int) (w : World) (hr : RdI w A xs) (hb : rhyB n xs = true) (hk : -30 ≤ k ∧ k ≤ 30) :
    Calls Tryz.prog 46 #[.agg #[.int .i64 n, .slice A xs.length c], .int .i64 k] w (RetR w ((n : Int), mapF n xs (fun p => k * p))) := by
  have hmf : ∀ (fn : Fn) (first cap : Array Value) (w : World), (Instr.makeFunc fn first cap).run Tryz.prog w = .ok (.func fn first cap) w := fun _ _ _ _ => rfl
  obtain ⟨l, hll⟩ : ∃ l, l = xs.length := ⟨_, rfl⟩
  obtain ⟨zs, hzs⟩ : ∃ zs, zs = mapF n xs (fun p => k * p) := ⟨_, rfl⟩
  obtain ⟨W, hW⟩ : ∃ W, W = (((w.alloc (.cells #[.int .i64 n, .slice A l c] 25)).alloc (.cells #[.int .i64 k] 3)).alloc (.cells #[.int .i64 0, .slice none 0 0] 25)) := ⟨_, rfl⟩
  have HX0 : Hid (Ext w W) := by rw [hW]; exact (((Ext.refl w).alloc _).alloc _).alloc _
  have HG0 : Hid (Bx2 W w.heap.size 25 (.int .i64 n) (.slice A l c)) := by rw [hW]; exact (Bx2.new w _ _ _).ext (((Ext.refl _).alloc _).alloc _)
  have HG1 : Hid (Bx2 W (w.heap.size + 1 + 1) 25 (.int .i64 0) (.slice none 0 0)) := by
    rw [hW]
    have := Bx2.new1' (w.alloc (.cells #[.int .i64 n, .slice A l c] 25)) (.cells #[.int .i64 k] 3) 25 (.int .i64 0) (.slice none 0 0)
    rwa [show (w.alloc (.cells #[.int .i64 n, .slice A l c] 25)).heap.size = w.heap.size + 1 by simp] at this
  have hck : W.cell? ⟨w.heap.size + 1, 0, none⟩ = some (.int .i64 k) := by
    rw [hW]
    refine Ext.cell ((Ext.refl _).alloc _) ?_
    refine cell_of_row _ _ 0 #[.int .i64 k] 3 (0, 0) ?_
    rw [show w.heap.size + 1 = (w.alloc (.cells #[.int .i64 n, .slice A l c] 25)).heap.size by simp]
    exact heap_alloc_new _ _
  have CO : Hid (Calls Tryz.prog 62 #[.agg #[.int .i64 n, .slice A l c], .func (.func 71) #[] #[.pointer (some ⟨w.heap.size + 1, 0, none⟩)]] W (RetR W ((n : Int), zs))) := by
    rw [hzs, hll]
    exact movedStr_any n A c (w.heap.size + 1) xs _ W (hr.ext HX0.out) hb (fun p hp0 hp1 => by have := mul_bnd hk ⟨hp0, hp1⟩; omega) (str_car k _ W hck hk)
  have HZ := Lib.hid hck
  rw [← hzs, ← hll]
  clear hr hb hck hzs hll
  have HW := Lib.hid hW
  clear hW
  go_enter Tryz.func46, Tryz.ntmps46
  go_wp2_with fail
  rw [← HW.out]
  clear HW
  obtain ⟨q0, q1, p0, p1⟩ := HG0.out.cells
  go_wp2_with fail
  refine CO.out.mono ?_
  intro e w2 hret
  obtain ⟨A2, c2, rfl, ho, he⟩ := hret.parts
  have HQ2 := Lib.hid (HG1.out.ext he)
  have HE2 := Lib.hid (HX0.out.trans he)
  have HO3 := Lib.hid ho
  have hgw := HG1.out.lt
  have HNE : Hid (∀ ad, A2 = some ad → ad.block ≠ w.heap.size + 1 + 1) := fun ad had => by have := (ho.lt ad had).1; omega
  have HSZ := Lib.hid HX0.out.size
  clear ho he hret q0 q1 p0 p1
  obtain ⟨q2, q3, p2, p3⟩ := HQ2.out.cells
  go_wp2_with fail
  refine bodyPost_ret (v := .agg #[.int .i64 n, .slice A2 zs.length c2]) (by simp [results, Tryz.results46, go_sem, q2, q3]) rfl ?_
  exact retR_intro rfl (((HO3.out.lower HSZ.out).setFar (fun ad had => HNE.out ad had) _).setFar (fun ad had => HNE.out ad had) _) ((HE2.out.setCell (by simp only []; omega) _).setCell (by simp only []; omega) _)

set_option maxHeartbeats 1000000 in
theorem mir_car (W0 : World) : Carries 64 #[] (fun p => -p) W0 := by
  intro p W hp0 hp1 he
  clear he
  show Calls Tryz.prog 64 #[.int .i64 p] W _
  go_enter Tryz.func64, Tryz.ntmps64
  go_wp2_with fail
  go_ret
  exact ⟨rfl, rfl⟩
set_option maxHeartbeats 2000000 in
theorem mir_any (n : Nat) (A : Option Addr) (c : Nat) (xs : List Int) (w : World) (hr : RdI w A xs) (hb : rhyB n xs = true) :
    Calls Tryz.prog 31 #[.agg #[.int .i64 n, .slice A xs.length c]] w (RetR w ((n : Int), mapF n xs (fun p => -p))) := by
  have hmf : ∀ (fn : Fn) (first cap : Array Value) (w : World), (Instr.makeFunc fn first cap).run Tryz.prog w = .ok (.func fn first cap) w := fun _ _ _ _ => rfl
  obtain ⟨l, hll⟩ : ∃ l, l = xs.length := ⟨_, rfl⟩
  obtain ⟨zs, hzs⟩ : ∃ zs, zs = mapF n xs (fun p => -p) := ⟨_, rfl⟩
  obtain ⟨W, hW⟩ : ∃ W, W = ((w.alloc (.cells #[.int .i64 n, .slice A l c] 25)).alloc (.cells #[.int .i64 0, .slice none 0 0] 25)) := ⟨_, rfl⟩
  have HX0 : Hid (Ext w W) := by rw [hW]; exact ((Ext.refl w).alloc _).alloc _
  have HG0 : Hid (Bx2 W w.heap.size 25 (.int .i64 n) (.slice A l c)) := by rw [hW]; exact (Bx2.new w _ _ _).ext ((Ext.refl _).alloc _)
  have HG1 : Hid (Bx2 W (w.heap.size + 1) 25 (.int .i64 0) (.slice none 0 0)) := by rw [hW]; exact Bx2.new1' _ _ _ _ _
  have CO : Hid (Calls Tryz.prog 62 #[.agg #[.int .i64 n, .slice A l c], .func (.func 64) #[] #[]] W (RetR W ((n : Int), zs))) := by
    rw [hzs, hll]
    exact movedMir_any n A c xs _ W (hr.ext HX0.out) hb (fun p hp0 hp1 => ⟨by omega, by omega⟩) (mir_car W)
  rw [← hzs, ← hll]
  clear hr hb hzs hll
  have HW := Lib.hid hW
  clear hW
  go_enter Tryz.func31, Tryz.ntmps31
  go_wp2_with fail
  rw [← HW.out]
  clear HW
  obtain ⟨q0, q1, p0, p1⟩ := HG0.out.cells
  go_wp2_with fail
  refine CO.out.mono ?_
  intro e w2 hret
  obtain ⟨A2, c2, rfl, ho, he⟩ := hret.parts
  have HQ2 := Lib.hid (HG1.out.ext he)
  have HE2 := Lib.hid (HX0.out.trans he)
  have HO3 := Lib.hid ho
  have hgw := HG1.out.lt
  have HNE : Hid (∀ ad, A2 = some ad → ad.block ≠ w.heap.size + 1) := fun ad had => by have := (ho.lt ad had).1; omega
  have HSZ := Lib.hid HX0.out.size
  clear ho he hret q0 q1 p0 p1
  obtain ⟨q2, q3, p2, p3⟩ := HQ2.out.cells
  go_wp2_with fail
  refine bodyPost_ret (v := .agg #[.int .i64 n, .slice A2 zs.length c2]) (by simp [results, Tryz.results31, go_sem, q2, q3]) rfl ?_
  exact retR_intro rfl (((HO3.out.lower HSZ.out).setFar (fun ad had => HNE.out ad had) _).setFar (fun ad had => HNE.out ad had) _) ((HE2.out.setCell (by simp only []; omega) _).setCell (by simp only []; omega) _)
end Go.Proofs.YtphpdanohooccaaGreatDoor
