/- Contract of l04Least. -/
import Derived.Test.YtphpdanohooccaaLeast
namespace Go.Proofs.Ytphpdanohooccaa
open Go.RowKit

set_option maxHeartbeats 4000000 in
theorem lrS_any (n : Nat) (A : Option Addr) (c : Nat) (xs : List Int) (w : World) (hr : RdI w A xs) (hb : rhyB n xs = true) :
    Calls Try.prog 80 #[.agg #[.int .i64 n, .slice A xs.length c]] w (RetR w ((n : Int), lrF n xs n)) := by
  have hn := (rhyB_iff hb).1
  obtain ⟨l, hll⟩ : ∃ l, l = xs.length := ⟨_, rfl⟩
  have CR : Hid (∀ (k : Int) (W : World), -2000 ≤ k → k ≤ 2000 → Ext w W → Calls Try.prog 51 #[.agg #[.int .i64 n, .slice A l c], .int .i64 1, .int .i64 k] W (RetR W ((n : Int), rotL n xs k))) := fun k W h1 h2 he => by rw [hll, ← mapF_one]; exact l02Map_any n A c xs 1 k W (hr.ext he) hb ⟨by omega, by omega⟩ ⟨h1, h2⟩
  obtain ⟨W, hW⟩ : ∃ W, W = ((w.alloc (.cells #[.int .i64 n, .slice A l c] 33)).alloc (.cells #[.int .i64 0, .slice none 0 0] 33)) := ⟨_, rfl⟩
  have HX0 : Hid (Ext w W) := by rw [hW]; exact ((Ext.refl w).alloc _).alloc _
  have HG0 : Hid (Bx2 W w.heap.size 33 (.int .i64 n) (.slice A l c)) := by rw [hW]; exact (Bx2.new w _ _ _).ext ((Ext.refl _).alloc _)
  have HG1 : Hid (Bx2 W (w.heap.size + 1) 33 (.int .i64 0) (.slice none 0 0)) := by rw [hW]; exact Bx2.new1' _ _ _ _ _
  rw [← hll]
  clear hll hr
  have HW := Lib.hid hW
  have HB := Lib.hid hb
  clear hW hb
  go_enter Try.func80, Try.ntmps80
  go_wp2_with fail
  rw [← HW.out]
  clear HW
  obtain ⟨q0, q1, p0, p1⟩ := HG0.out.cells
  go_wp2_with fail
  refine (CR.out 0 W (by omega) (by omega) HX0.out).mono ?_
  intro e w1 hret
  obtain ⟨B0, d0, rfl, ho, he⟩ := hret.parts
  obtain ⟨z0, hz0⟩ : ∃ z0, z0 = rotL n xs 0 := ⟨_, rfl⟩
  rw [← hz0] at ho ⊢
  have HZ0 := Lib.hid hz0
  have HX1 : Hid (Ext w (w1.alloc (.cells #[.int .i64 n, .slice B0 z0.length d0] 33))) := (HX0.out.trans he).alloc _
  have HP1 : Hid (Bx2 (w1.alloc (.cells #[.int .i64 n, .slice B0 z0.length d0] 33)) w.heap.size 33 (.int .i64 n) (.slice A l c)) := (HG0.out.ext he).ext ((Ext.refl _).alloc _)
  have HQ1 : Hid (Bx2 (w1.alloc (.cells #[.int .i64 n, .slice B0 z0.length d0] 33)) (w.heap.size + 1) 33 (.int .i64 0) (.slice none 0 0)) := (HG1.out.ext he).ext ((Ext.refl _).alloc _)
  have HN1 := Lib.hid (Bx2.new w1 33 (.int .i64 n) (.slice B0 z0.length d0))
  have HO1 : Hid (OwI (w1.alloc (.cells #[.int .i64 n, .slice B0 z0.length d0] 33)) w.heap.size B0 d0 z0) := (ho.lower HX0.out.size).ext ((Ext.refl _).alloc _)
  have hgw : w.heap.size + 1 < w1.heap.size := (HG1.out.ext he).lt
  have HZ1 : Hid (z0 = lrF n xs 1) := by rw [lrF_one]; exact HZ0.out
  clear hz0 ho he hret q0 q1 p0 p1 HG0 HG1 HX0
  obtain ⟨q0, q1, p0, p1⟩ := HP1.out.cells
  go_wp2_with fail
  clear q0 q1 p0 p1
  go_loopw [4] (fun i wr => ∃ (k : Nat) (B : Option Addr) (d : Nat) (zs : List Int), 1 ≤ k ∧ k ≤ n ∧ i = .int .i64 k ∧ Hid (zs = lrF n xs k) ∧ Hid (Bx2 wr w1.heap.size 33 (.int .i64 n) (.slice B zs.length d)) ∧ Hid (Bx2 wr w.heap.size 33 (.int .i64 n) (.slice A l c)) ∧ Hid (Bx2 wr (w.heap.size + 1) 33 (.int .i64 0) (.slice none 0 0)) ∧ Hid (OwI wr w.heap.size B d zs) ∧ Hid (Ext w wr)) (fun i _ => n - (intOf i).toNat)
  case atStart => exact ⟨1, B0, d0, z0, by omega, by omega, rfl, HZ1.out, HN1.out, HP1.out, HQ1.out, HO1.out, HX1.out⟩
  case round =>
    clear HX1 HP1 HQ1 HN1 HO1
    obtain ⟨k, B, d, zs, hk1, hk, rfl, HZ, HN, HP, HQ, HO, HE⟩ := hrel
    obtain ⟨q0, q1, p0, p1⟩ := HN.out.cells
    obtain ⟨q2, q3, p2, p3⟩ := HP.out.cells
    obtain ⟨q4, q5, p4, p5⟩ := HQ.out.cells
    by_cases hlt : k < n
    · obtain ⟨ys, hys⟩ : ∃ ys, ys = rotL n xs k := ⟨_, rfl⟩
      have hyb : rhyB n ys = true := by rw [hys]; exact mapF_rhy (by omega) (by omega)
      have hzb : rhyB n zs = true := by rw [HZ.out]; exact lrF_rhy (by omega) (by omega) k
      have HNX : Hid (lrF n xs (k + 1) = maxR n zs ys) := by rw [lrF, HZ.out, hys]; exact rfl
      have CK := Lib.hid (CR.out k wr (by omega) (by omega) HE.out)
      rw [← hys] at CK
      have hyl := rhy_short hyb
      have hzl := rhy_short hzb
      obtain ⟨b, hbb⟩ : ∃ b, b = decide (codeN n zs < codeN n ys) := ⟨_, rfl⟩
      have CL : Hid (∀ (D : Option Addr) (q : Nat) (V : World), OwI V w.heap.size B d zs → RdI V D ys → Calls Try.prog 60 #[.agg #[.int .i64 n, .slice D ys.length q], .agg #[.int .i64 n, .slice B zs.length d]] V fun e w' => e = .returned (.bool b) ∧ Ext V w') := fun D q V h1 h3 => by rw [hbb]; exact after_any n D B q d ys zs V h3 h1.rd (by omega) (by omega) (by omega)
      have HNB : Hid (lrF n xs (k + 1) = if b = true then ys else zs) := by rw [HNX.out, hbb]; unfold maxR; simp [Hid]
      clear hys hyb hzb hyl hzl hbb HNX
      go_wp2_with fail
      refine CK.out.mono ?_
      intro e w2 hret
      obtain ⟨D, q, rfl, o2, e2⟩ := hret.parts
      have HX2 : Hid (Ext wr (w2.alloc (.cells #[.int .i64 n, .slice D ys.length q] 33))) := e2.alloc _
      have HM2 := Lib.hid (Bx2.new w2 33 (.int .i64 n) (.slice D ys.length q))
      have HO2 : Hid (OwI (w2.alloc (.cells #[.int .i64 n, .slice D ys.length q] 33)) w.heap.size D q ys) := (o2.lower HE.out.size).ext ((Ext.refl _).alloc _)
      have HDL : Hid (∀ ad, D = some ad → ad.block ≠ w1.heap.size) := fun ad had => by have h1 := (o2.lt ad had).1; have h2 := HN.out.lt; omega
      have hs2 : wr.heap.size ≤ w2.heap.size := e2.size
      clear hret e2 o2 q0 q1 p0 p1 q2 q3 p2 p3 q4 q5 p4 p5
      obtain ⟨q0, q1, p0, p1⟩ := (HN.out.ext HX2.out).cells
      obtain ⟨q2, q3, p2, p3⟩ := HM2.out.cells
      go_wp2_with fail
      refine (CL.out _ _ _ (HO.out.ext HX2.out) HO2.out.rd).mono ?_
      rintro e w3 ⟨rfl, e3⟩
      have HX := Lib.hid (HX2.out.trans e3)
      have HM3 := Lib.hid (HM2.out.ext e3)
      have HO3 := Lib.hid (HO2.out.ext e3)
      have hg : w1.heap.size < wr.heap.size := HN.out.lt
      clear e3 q0 q1 p0 p1 q2 q3 p2 p3
      obtain ⟨q0, q1, p0, p1⟩ := (HN.out.ext HX.out).cells
      obtain ⟨q2, q3, p2, p3⟩ := HM3.out.cells
      cases b
      · have HNZ : Hid (zs = lrF n xs (k + 1)) := by rw [HNB.out]; exact rfl
        go_wp2_with fail
        go_roundw
        case rel => exact ⟨k + 1, B, d, zs, by omega, by omega, by go_num, HNZ.out, HN.out.ext HX.out, HP.out.ext HX.out, HQ.out.ext HX.out, HO.out.ext HX.out, HE.out.trans HX.out⟩
        case measure => simp [intOf]; omega
      · have HNZ : Hid (ys = lrF n xs (k + 1)) := by rw [HNB.out]; exact rfl
        go_wp2_with fail
        go_roundw
        case rel => exact ⟨k + 1, D, q, ys, by omega, by omega, by go_num, HNZ.out, ((HN.out.ext HX.out).set0 _).set1 _, ((HP.out.ext HX.out).far (by simp only []; omega) _).far (by simp only []; omega) _, ((HQ.out.ext HX.out).far (by simp only []; omega) _).far (by simp only []; omega) _, (HO3.out.setFar HDL.out _).setFar HDL.out _, ((HE.out.trans HX.out).setCell (by simp only []; omega) _).setCell (by simp only []; omega) _⟩
        case measure => simp [intOf]; omega
    · obtain rfl : k = n := by omega
      have HNE : Hid (∀ ad, B = some ad → ad.block ≠ w.heap.size + 1) := fun ad had => HQ.out.ne (by decide) HO.out ad had
      go_wp2_with fail
      refine bodyPost_ret (v := .agg #[.int .i64 k, .slice B zs.length d]) (by simp [results, Try.results80, go_sem, q4, q5]) rfl ?_
      rw [← HZ.out]
      exact retR_intro rfl ((HO.out.setFar (fun ad had => HNE.out ad had) _).setFar (fun ad had => HNE.out ad had) _) ((HE.out.setCell (by simp only []; omega) _).setCell (by simp only []; omega) _)
end Go.Proofs.Ytphpdanohooccaa
