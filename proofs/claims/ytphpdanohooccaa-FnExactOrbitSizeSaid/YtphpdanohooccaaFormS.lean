/- Contract of LeastForm. -/
import Derived.Test.YtphpdanohooccaaForm
namespace Go.Proofs.Ytphpdanohooccaa
open Go.RowKit

set_option maxHeartbeats 4000000 in
theorem lfS_any (n : Nat) (A : Option Addr) (c : Nat) (xs : List Int) (w : World) (hr : RdI w A xs) (hb : rhyB n xs = true) :
    Calls Try.prog 59 #[.agg #[.int .i64 n, .slice A xs.length c]] w (RetRB w ((n : Int), lfF n xs) true) := by
  have hn := (rhyB_iff hb).1
  have hxl := rhy_short hb
  obtain ⟨l, hll⟩ : ∃ l, l = xs.length := ⟨_, rfl⟩
  obtain ⟨u, hu⟩ : ∃ u, u = lrF n xs n := ⟨_, rfl⟩
  obtain ⟨m, hm⟩ : ∃ m, m = mirL n xs := ⟨_, rfl⟩
  obtain ⟨v, hv⟩ : ∃ v, v = lrF n m n := ⟨_, rfl⟩
  have hub : rhyB n u = true := by rw [hu]; exact lrF_rhy (by omega) (by omega) n
  have hvb : rhyB n v = true := by rw [hv]; exact lrF_rhy (by omega) (by omega) n
  have hmb : rhyB n m = true := by rw [hm]; exact mapF_rhy (by omega) (by omega)
  have hul := rhy_short hub
  have hvl := rhy_short hvb
  have hlf : lfF n xs = maxR n u v := by rw [hu, hv, hm]; rfl
  obtain ⟨b, hbb⟩ : ∃ b, b = decide (codeN n u < codeN n v) := ⟨_, rfl⟩
  have C0 : Hid (∀ W : World, Ext w W → Calls Try.prog 49 #[.agg #[.int .i64 n, .slice A l c]] W fun e w' => e = .returned (.bool true) ∧ Ext W w') := fun W he => by rw [hll, ← hb]; exact rhyS_any A c n xs W (hr.ext he) (by omega)
  have C1 : Hid (∀ W : World, Ext w W → Calls Try.prog 80 #[.agg #[.int .i64 n, .slice A l c]] W (RetR W ((n : Int), u))) := fun W he => by rw [hll, hu]; exact lrS_any n A c xs W (hr.ext he) hb
  have C2 : Hid (∀ W : World, Ext w W → Calls Try.prog 51 #[.agg #[.int .i64 n, .slice A l c], .int .i64 (-1), .int .i64 0] W (RetR W ((n : Int), m))) := fun W he => by rw [hll, hm, ← mapF_mir]; exact l02Map_any n A c xs (-1) 0 W (hr.ext he) hb ⟨by omega, by omega⟩ ⟨by omega, by omega⟩
  have C3 : Hid (∀ (D : Option Addr) (q : Nat) (W : World), RdI W D m → Calls Try.prog 80 #[.agg #[.int .i64 n, .slice D m.length q]] W (RetR W ((n : Int), v))) := fun D q W h => by rw [hv]; exact lrS_any n D q m W h hmb
  have C4 : Hid (∀ (D E : Option Addr) (q p : Nat) (W : World), RdI W D v → RdI W E u → Calls Try.prog 60 #[.agg #[.int .i64 n, .slice D v.length q], .agg #[.int .i64 n, .slice E u.length p]] W fun e w' => e = .returned (.bool b) ∧ Ext W w') := fun D E q p W h1 h2 => by rw [hbb]; exact after_any n D E q p v u W h1 h2 (by omega) (by omega) (by omega)
  have HLF : Hid (lfF n xs = if b = true then v else u) := by rw [hlf, hbb]; unfold maxR; simp [Hid]
  obtain ⟨W, hW⟩ : ∃ W, W = ((w.alloc (.cells #[.int .i64 n, .slice A l c] 33)).alloc (.cells #[.int .i64 0, .slice none 0 0] 33)) := ⟨_, rfl⟩
  have HX0 : Hid (Ext w W) := by rw [hW]; exact ((Ext.refl w).alloc _).alloc _
  have HG0 : Hid (Bx2 W w.heap.size 33 (.int .i64 n) (.slice A l c)) := by rw [hW]; exact (Bx2.new w _ _ _).ext ((Ext.refl _).alloc _)
  have HG1 : Hid (Bx2 W (w.heap.size + 1) 33 (.int .i64 0) (.slice none 0 0)) := by rw [hW]; exact Bx2.new1' _ _ _ _ _
  rw [← hll]
  have HW := Lib.hid hW
  clear hll hr hW hb hu hv hm hlf hub hvb hmb hul hvl hxl hbb
  go_enter Try.func59, Try.ntmps59
  go_wp2_with fail
  rw [← HW.out]
  clear HW
  obtain ⟨q0, q1, p0, p1⟩ := HG0.out.cells
  go_wp2_with fail
  refine (C0.out W HX0.out).mono ?_
  rintro e w0 ⟨rfl, e0⟩
  have HX1 := Lib.hid (HX0.out.trans e0)
  have HP1 := Lib.hid (HG0.out.ext e0)
  have HQ1 := Lib.hid (HG1.out.ext e0)
  clear e0 q0 q1 p0 p1 HG0 HG1
  obtain ⟨q0, q1, p0, p1⟩ := HP1.out.cells
  go_wp2_with fail
  refine (C1.out w0 HX1.out).mono ?_
  intro e w1 hret
  obtain ⟨D1, d1, rfl, o1, e1⟩ := hret.parts
  have HX2 : Hid (Ext w (w1.alloc (.cells #[.int .i64 n, .slice D1 u.length d1] 33))) := (HX1.out.trans e1).alloc _
  have HP2 : Hid (Bx2 (w1.alloc (.cells #[.int .i64 n, .slice D1 u.length d1] 33)) w.heap.size 33 (.int .i64 n) (.slice A l c)) := (HP1.out.ext e1).ext ((Ext.refl _).alloc _)
  have HQ2 : Hid (Bx2 (w1.alloc (.cells #[.int .i64 n, .slice D1 u.length d1] 33)) (w.heap.size + 1) 33 (.int .i64 0) (.slice none 0 0)) := (HQ1.out.ext e1).ext ((Ext.refl _).alloc _)
  have HM2 := Lib.hid (Bx2.new w1 33 (.int .i64 n) (.slice D1 u.length d1))
  have HO2 : Hid (OwI (w1.alloc (.cells #[.int .i64 n, .slice D1 u.length d1] 33)) w.heap.size D1 d1 u) := (o1.lower HX1.out.size).ext ((Ext.refl _).alloc _)
  clear hret o1 e1 q0 q1 p0 p1 HP1 HQ1
  obtain ⟨q0, q1, p0, p1⟩ := HP2.out.cells
  go_wp2_with fail
  refine (C2.out _ HX2.out).mono ?_
  intro e w2 hret
  obtain ⟨D2, d2, rfl, o2, e2⟩ := hret.parts
  have HO2b := Lib.hid o2.rd
  have HE2 := Lib.hid e2
  clear hret o2 e2 q0 q1 p0 p1
  go_wp2_with fail
  refine (C3.out D2 d2 w2 HO2b.out).mono ?_
  intro e w3 hret
  obtain ⟨D3, d3, rfl, o3, e3⟩ := hret.parts
  have HE : Hid (Ext (w1.alloc (.cells #[.int .i64 n, .slice D1 u.length d1] 33)) (w3.alloc (.cells #[.int .i64 n, .slice D3 v.length d3] 33))) := (HE2.out.trans e3).alloc _
  have HM3 := Lib.hid (HM2.out.ext HE.out)
  have HQ3 := Lib.hid (HQ2.out.ext HE.out)
  have HX3 := Lib.hid (HX2.out.trans HE.out)
  have HO3 := Lib.hid (HO2.out.ext HE.out)
  have HN3 := Lib.hid (Bx2.new w3 33 (.int .i64 n) (.slice D3 v.length d3))
  have HO4 : Hid (OwI (w3.alloc (.cells #[.int .i64 n, .slice D3 v.length d3] 33)) w.heap.size D3 d3 v) := (o3.lower (HX2.out.trans HE2.out).size).ext ((Ext.refl _).alloc _)
  clear hret o3 e3
  obtain ⟨q0, q1, p0, p1⟩ := HM3.out.cells
  obtain ⟨q2, q3, p2, p3⟩ := HN3.out.cells
  go_wp2_with fail
  refine (C4.out D3 D1 d3 d1 _ HO4.out.rd HO3.out.rd).mono ?_
  rintro e w4 ⟨rfl, e4⟩
  have HX4 := Lib.hid (HX3.out.trans e4)
  have HQ4 := Lib.hid (HQ3.out.ext e4)
  have HM4 := Lib.hid (HM3.out.ext e4)
  have HN4 := Lib.hid (HN3.out.ext e4)
  have HO5 := Lib.hid (HO3.out.ext e4)
  have HO6 := Lib.hid (HO4.out.ext e4)
  clear e4 q0 q1 p0 p1 q2 q3 p2 p3
  obtain ⟨q0, q1, p0, p1⟩ := HM4.out.cells
  obtain ⟨q2, q3, p2, p3⟩ := HN4.out.cells
  obtain ⟨q4, q5, p4, p5⟩ := HQ4.out.cells
  cases b
  · have HZ : Hid (lfF n xs = u) := by rw [HLF.out]; exact rfl
    have HNE : Hid (∀ ad, D1 = some ad → ad.block ≠ w.heap.size + 1) := fun ad had => HQ4.out.ne (by decide) HO5.out ad had
    go_wp2_with fail
    refine bodyPost_ret (v := .tuple #[.agg #[.int .i64 n, .slice D1 u.length d1], .bool true]) (by simp [results, Try.results59, go_sem, q4, q5]) rfl ?_
    rw [HZ.out]
    exact retRB_intro rfl ((HO5.out.setFar HNE.out _).setFar HNE.out _) ((HX4.out.setCell (by simp only []; omega) _).setCell (by simp only []; omega) _)
  · have HZ : Hid (lfF n xs = v) := by rw [HLF.out]; exact rfl
    have HNE : Hid (∀ ad, D3 = some ad → ad.block ≠ w.heap.size + 1) := fun ad had => HQ4.out.ne (by decide) HO6.out ad had
    go_wp2_with fail
    refine bodyPost_ret (v := .tuple #[.agg #[.int .i64 n, .slice D3 v.length d3], .bool true]) (by simp [results, Try.results59, go_sem, q4, q5]) rfl ?_
    rw [HZ.out]
    exact retRB_intro rfl ((HO6.out.setFar HNE.out _).setFar HNE.out _) ((HX4.out.setCell (by simp only []; omega) _).setCell (by simp only []; omega) _)
end Go.Proofs.Ytphpdanohooccaa
