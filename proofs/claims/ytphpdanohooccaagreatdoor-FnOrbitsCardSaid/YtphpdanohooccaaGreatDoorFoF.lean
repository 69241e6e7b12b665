/- Contracts of MakeRhythm, LeastForm, StretchRhythm, the law's own rhythms. -/
import Derived.Test.YtphpdanohooccaaGreatDoorFoE
import Derived.Test.YtphpdanohooccaaGreatDoorClassS
import Derived.Test.YtphpdanohooccaaGreatDoorUnits
namespace Go.Proofs.YtphpdanohooccaaGreatDoor
open Go.RowKit

set_option maxHeartbeats 1000000 in
theorem makeRhythm_any (n c : Nat) (A : Option Addr) (xs : List Int) (w : World) (hr : Rd w 1 A n (xs.map (Value.int .u8))) (hn : n ≤ 1048576) :
    Calls Tryz.prog 4 #[.slice A n c, .int .i64 0, .int .i64 12] w (RetDrawT w) := by
  have HR := Lib.hid hr
  have HQ0 := Lib.hid (Bx2.new w 25 (.int .i64 0) (.slice none 0 0))
  have HX0 : Hid (Ext w (w.alloc (.cells #[.int .i64 0, .slice none 0 0] 25))) := (Ext.refl w).alloc _
  have CN := Lib.hid (l31New_any n c 0 A xs _ (HR.out.ext HX0.out) hn (by omega))
  clear hr
  go_enter Tryz.func4, Tryz.ntmps4
  go_wp2_with fail
  refine CN.out.mono ?_
  rintro e w1 ⟨g, rfl, hcu, hg, he⟩
  have CD := Lib.hid (draw02_any g n c A xs _ w1 hcu (HR.out.ext HX0.out) hn he hg)
  clear hcu hg he CN
  go_wp2_with fail
  refine CD.out.mono ?_
  rintro e w2 ⟨N, B, d, ys, hN, rfl, ho, hb, he⟩
  have HO := Lib.hid (ho.lower HX0.out.size)
  have HX := Lib.hid (HX0.out.trans he)
  have HQ := Lib.hid (HQ0.out.ext he)
  have HB := Lib.hid hb
  have HN := Lib.hid hN
  obtain ⟨l, hl⟩ : ∃ l, l = ys.length := ⟨_, rfl⟩
  have HL := Lib.hid hl
  have HNE : Hid (∀ ad, B = some ad → ad.block ≠ w.heap.size) := fun ad had => HQ.out.ne (by decide) HO.out ad had
  rw [← hl]
  clear ho he hb hN hl HQ0 HX0
  obtain ⟨z0, z1, y0, y1⟩ := HQ.out.cells
  go_wp2_with fail
  refine bodyPost_ret (v := .agg #[.int .i64 N, .slice B l d]) (by simp [results, Tryz.results4, go_sem, z0, z1]) rfl ?_
  have := HL.out
  subst this
  exact ⟨N, B, d, ys, HN.out, rfl, (HO.out.setFar HNE.out _).setFar HNE.out _, HB.out, (HX.out.setCell (by simp) _).setCell (by simp) _⟩

set_option maxHeartbeats 1000000 in
theorem lfP_any (n : Nat) (A : Option Addr) (c : Nat) (xs : List Int) (w : World) (hr : RdI w A xs) (hb : rhyB n xs = true) :
    Calls Tryz.prog 13 #[.agg #[.int .i64 n, .slice A xs.length c]] w (RetRB w ((n : Int), lfF n xs) true) := by
  have hxl := rhy_short hb
  obtain ⟨l, hll⟩ : ∃ l, l = xs.length := ⟨_, rfl⟩
  obtain ⟨zs, hzs⟩ : ∃ zs, zs = lfF n xs := ⟨_, rfl⟩
  have CO : Hid (∀ W : World, Ext w W → Calls Tryz.prog 28 #[.agg #[.int .i64 n, .slice A l c]] W fun e w' => e = .returned (.bool true) ∧ Ext W w') := fun W he => by rw [hll, ← hb]; exact rhyI_any A c n xs W (hr.ext he) (by omega)
  have CC : Hid (∀ W : World, Ext w W → Calls Tryz.prog 40 #[.agg #[.int .i64 n, .slice A l c]] W (RetR W ((n : Int), zs))) := fun W he => by rw [hll, hzs]; exact lfI_any n A c xs W (hr.ext he) hb
  obtain ⟨W, hW⟩ : ∃ W, W = ((w.alloc (.cells #[.int .i64 n, .slice A l c] 25)).alloc (.cells #[.int .i64 0, .slice none 0 0] 25)) := ⟨_, rfl⟩
  have HX0 : Hid (Ext w W) := by rw [hW]; exact ((Ext.refl w).alloc _).alloc _
  have HG0 : Hid (Bx2 W w.heap.size 25 (.int .i64 n) (.slice A l c)) := by rw [hW]; exact (Bx2.new w _ _ _).ext ((Ext.refl _).alloc _)
  have HG1 : Hid (Bx2 W (w.heap.size + 1) 25 (.int .i64 0) (.slice none 0 0)) := by rw [hW]; exact Bx2.new1' _ _ _ _ _
  rw [← hll, ← hzs]
  have HW := Lib.hid hW
  clear hll hr hW hb hxl hzs
  go_enter Tryz.func13, Tryz.ntmps13
  go_wp2_with fail
  rw [← HW.out]
  clear HW
  obtain ⟨q0, q1, p0, p1⟩ := HG0.out.cells
  go_wp2_with fail
  refine (CO.out W HX0.out).mono ?_
  rintro e w0 ⟨rfl, e0⟩
  have HXa := Lib.hid (HX0.out.trans e0)
  have HPa := Lib.hid (HG0.out.ext e0)
  have HQa := Lib.hid (HG1.out.ext e0)
  clear e0 q0 q1 p0 p1 HG0 HG1 HX0 CO
  obtain ⟨q0, q1, p0, p1⟩ := HPa.out.cells
  go_wp2_with fail
  refine (CC.out w0 HXa.out).mono ?_
  intro e w1 hret
  obtain ⟨D, d, rfl, ho, he⟩ := hret.parts
  have HO := Lib.hid (ho.lower HXa.out.size)
  have HX := Lib.hid (HXa.out.trans he)
  have HQ := Lib.hid (HQa.out.ext he)
  have HNE : Hid (∀ ad, D = some ad → ad.block ≠ w.heap.size + 1) := fun ad had => HQ.out.ne (by decide) HO.out ad had
  clear hret ho he q0 q1 p0 p1
  obtain ⟨q4, q5, p4, p5⟩ := HQ.out.cells
  go_wp2_with fail
  refine bodyPost_ret (v := .tuple #[.agg #[.int .i64 n, .slice D zs.length d], .bool true]) (by simp [results, Tryz.results13, go_sem, q4, q5]) rfl ?_
  exact retRB_intro rfl ((HO.out.setFar HNE.out _).setFar HNE.out _) ((HX.out.setCell (by simp only []; omega) _).setCell (by simp only []; omega) _)

set_option maxHeartbeats 1000000 in
theorem srP_any (n : Nat) (A : Option Addr) (c : Nat) (xs : List Int) (u : Int) (w : World) (hr : RdI w A xs) (hb : rhyB n xs = true) (hu : u ∈ uL n (n + 1)) :
    Calls Tryz.prog 20 #[.agg #[.int .i64 n, .slice A xs.length c], .int .i64 u] w (RetRB w ((n : Int), strL n xs u) true) := by
  have hn := (rhyB_iff hb).1
  have hxl := rhy_short hb
  have hub := uL_in (n := n) hu (by omega)
  have hui : isU u n = true := by
    unfold uL at hu
    simp only [List.mem_map, List.mem_filter] at hu
    obtain ⟨p, ⟨_, hp⟩, rfl⟩ := hu
    exact hp
  obtain ⟨l, hll⟩ : ∃ l, l = xs.length := ⟨_, rfl⟩
  obtain ⟨zs, hzs⟩ : ∃ zs, zs = strL n xs u := ⟨_, rfl⟩
  have CO : Hid (∀ W : World, Ext w W → Calls Tryz.prog 28 #[.agg #[.int .i64 n, .slice A l c]] W fun e w' => e = .returned (.bool true) ∧ Ext W w') := fun W he => by rw [hll, ← hb]; exact rhyI_any A c n xs W (hr.ext he) (by omega)
  have CU : Hid (∀ W : World, Calls Tryz.prog 45 #[.int .i64 u, .int .i64 n] W fun e w' => e = .returned (.bool true) ∧ Ext W w') := fun W => (isU_any u n W (by omega) (by omega)).mono fun e w' ⟨he, q, hq⟩ => ⟨by rw [he, hui], by rw [hq]; exact (Ext.refl W).drewN q⟩
  have CC : Hid (∀ W : World, Ext w W → Calls Tryz.prog 46 #[.agg #[.int .i64 n, .slice A l c], .int .i64 u] W (RetR W ((n : Int), zs))) := fun W he => by rw [hll, hzs]; exact str_any n A c xs u W (hr.ext he) hb (by omega)
  obtain ⟨W, hW⟩ : ∃ W, W = ((w.alloc (.cells #[.int .i64 n, .slice A l c] 25)).alloc (.cells #[.int .i64 0, .slice none 0 0] 25)) := ⟨_, rfl⟩
  have HX0 : Hid (Ext w W) := by rw [hW]; exact ((Ext.refl w).alloc _).alloc _
  have HG0 : Hid (Bx2 W w.heap.size 25 (.int .i64 n) (.slice A l c)) := by rw [hW]; exact (Bx2.new w _ _ _).ext ((Ext.refl _).alloc _)
  have HG1 : Hid (Bx2 W (w.heap.size + 1) 25 (.int .i64 0) (.slice none 0 0)) := by rw [hW]; exact Bx2.new1' _ _ _ _ _
  rw [← hll, ← hzs]
  have HW := Lib.hid hW
  clear hll hr hW hb hxl hzs hu hui hub hn
  go_enter Tryz.func20, Tryz.ntmps20
  go_wp2_with fail
  rw [← HW.out]
  clear HW
  obtain ⟨q0, q1, p0, p1⟩ := HG0.out.cells
  go_wp2_with fail
  refine (CO.out W HX0.out).mono ?_
  rintro e w0 ⟨rfl, e0⟩
  have HXa := Lib.hid (HX0.out.trans e0)
  have HPa := Lib.hid (HG0.out.ext e0)
  have HQa := Lib.hid (HG1.out.ext e0)
  clear e0 q0 q1 p0 p1 HG0 HG1 HX0 CO
  obtain ⟨q0, q1, p0, p1⟩ := HPa.out.cells
  go_wp2_with fail
  refine (CU.out w0).mono ?_
  rintro e w0' ⟨rfl, e0⟩
  have HXb := Lib.hid (HXa.out.trans e0)
  have HPb := Lib.hid (HPa.out.ext e0)
  have HQb := Lib.hid (HQa.out.ext e0)
  clear e0 q0 q1 p0 p1 HPa HQa HXa
  obtain ⟨q0, q1, p0, p1⟩ := HPb.out.cells
  go_wp2_with fail
  refine (CC.out w0' HXb.out).mono ?_
  intro e w1 hret
  obtain ⟨D, d, rfl, ho, he⟩ := hret.parts
  have HO := Lib.hid (ho.lower HXb.out.size)
  have HX := Lib.hid (HXb.out.trans he)
  have HQ := Lib.hid (HQb.out.ext he)
  have HNE : Hid (∀ ad, D = some ad → ad.block ≠ w.heap.size + 1) := fun ad had => HQ.out.ne (by decide) HO.out ad had
  clear hret ho he q0 q1 p0 p1
  obtain ⟨q4, q5, p4, p5⟩ := HQ.out.cells
  go_wp2_with fail
  refine bodyPost_ret (v := .tuple #[.agg #[.int .i64 n, .slice D zs.length d], .bool true]) (by simp [results, Tryz.results20, go_sem, q4, q5]) rfl ?_
  exact retRB_intro rfl ((HO.out.setFar HNE.out _).setFar HNE.out _) ((HX.out.setCell (by simp only []; omega) _).setCell (by simp only []; omega) _)

set_option maxHeartbeats 1000000 in
theorem rhythms_any (n : Int) (A B : Option Addr) (c d : Nat) (xs ys : List Int) (w : World) (hr : RdI w A xs) (hr2 : RdI w B ys) (hl : xs.length ≤ 1048576) (hl2 : ys.length ≤ 1048576) :
    Calls Tryz.prog 8 #[.agg #[.int .i64 n, .slice A xs.length c], .agg #[.int .i64 n, .slice B ys.length d]] w fun e w' => e = .returned (.bool (decide (xs = ys))) ∧ Ext w w' := by
  obtain ⟨b, hb⟩ : ∃ b, b = decide (xs = ys) := ⟨_, rfl⟩
  obtain ⟨l, hll⟩ : ∃ l, l = xs.length := ⟨_, rfl⟩
  obtain ⟨m, hmm⟩ : ∃ m, m = ys.length := ⟨_, rfl⟩
  have CS : Hid (∀ V : World, Ext w V → Calls Tryz.prog 33 #[.slice A l c, .slice B m d] V fun e w' => e = .returned (.bool b) ∧ V = w') := fun V h => by rw [hll, hmm, hb]; exact lsameB_any A B c d xs ys V (hr.ext h) (hr2.ext h) hl hl2
  obtain ⟨W, hW⟩ : ∃ W, W = ((w.alloc (.cells #[.int .i64 n, .slice A l c] 25)).alloc (.cells #[.int .i64 n, .slice B m d] 25)) := ⟨_, rfl⟩
  have HX0 : Hid (Ext w W) := by rw [hW]; exact ((Ext.refl w).alloc _).alloc _
  have HG0 : Hid (Bx2 W w.heap.size 25 (.int .i64 n) (.slice A l c)) := by rw [hW]; exact (Bx2.new w _ _ _).ext ((Ext.refl _).alloc _)
  have HG1 : Hid (Bx2 W (w.heap.size + 1) 25 (.int .i64 n) (.slice B m d)) := by rw [hW]; exact Bx2.new1' _ _ _ _ _
  rw [← hll, ← hmm, ← hb]
  have HW := Lib.hid hW
  clear hll hmm hr hr2 hW hb hl hl2
  go_enter Tryz.func8, Tryz.ntmps8
  go_wp2_with fail
  rw [← HW.out]
  clear HW
  obtain ⟨q0, q1, p0, p1⟩ := HG0.out.cells
  obtain ⟨q2, q3, p2, p3⟩ := HG1.out.cells
  go_wp2_with fail
  refine (CS.out _ HX0.out).mono ?_
  rintro e w1 ⟨rfl, rfl⟩
  go_wp2_with fail
  go_ret
  exact ⟨rfl, HX0.out⟩
end Go.Proofs.YtphpdanohooccaaGreatDoor
