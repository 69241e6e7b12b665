/- Contracts of StretchClass. -/
import Derived.Test.YtphpdanohooccaaClass
namespace Go.Proofs.Ytphpdanohooccaa
open Go.RowKit

def scF (n : Int) (xs : List Int) : Int × List Int := if rhyB n xs = true then (n, clF n.toNat xs (uL n.toNat (n.toNat + 1))) else (0, [])
theorem retRB_none {w w' : World} (h : Ext w w') : RetRB w (0, []) false (.returned (.tuple #[.agg #[.int .i64 0, .slice none 0 0], .bool false])) w' :=
  ⟨_, rfl, ⟨none, 0, rfl, none, 0, rfl, OwI.nil _ _, (fun a ha => by cases ha), Nat.le_refl _⟩, h⟩
theorem RetRB.parts {w w' : World} {n : Int} {xs : List Int} {b : Bool} {e : Ending} (h : RetRB w (n, xs) b e w') : ∃ A c, e = .returned (.tuple #[.agg #[.int .i64 n, .slice A xs.length c], .bool b]) ∧ OwI w' w.heap.size A c xs ∧ Ext w w' := by
  obtain ⟨v, rfl, ⟨A, c, rfl, A3, c3, e3, ho, _, _⟩, he⟩ := h
  injection e3 with e1 _ e3
  subst e1 e3
  exact ⟨_, _, rfl, ho, he⟩

set_option maxHeartbeats 4000000 in
theorem scS_good (n : Nat) (A : Option Addr) (c : Nat) (xs : List Int) (w : World) (hr : RdI w A xs) (hb : rhyB n xs = true) :
    Calls Try.prog 27 #[.agg #[.int .i64 n, .slice A xs.length c]] w (RetRB w ((n : Int), clF n xs (uL n (n + 1))) true) := by
  have hn := (rhyB_iff hb).1
  have hxl := rhy_short hb
  obtain ⟨l, hll⟩ : ∃ l, l = xs.length := ⟨_, rfl⟩
  have CO : Hid (∀ W : World, Ext w W → Calls Try.prog 49 #[.agg #[.int .i64 n, .slice A l c]] W fun e w' => e = .returned (.bool true) ∧ Ext W w') := fun W he => by rw [hll, ← hb]; exact rhyS_any A c n xs W (hr.ext he) (by omega)
  have C0 : Hid (∀ W : World, Ext w W → Calls Try.prog 59 #[.agg #[.int .i64 n, .slice A l c]] W (RetRB W ((n : Int), lfF n xs) true)) := fun W he => by rw [hll]; exact lfS_any n A c xs W (hr.ext he) hb
  have CR : Hid (∀ (k : Int) (W : World), -30 ≤ k → k ≤ 30 → Ext w W → Calls Try.prog 51 #[.agg #[.int .i64 n, .slice A l c], .int .i64 k, .int .i64 0] W (RetR W ((n : Int), strL n xs k))) := fun k W h1 h2 he => by rw [hll, ← mapF_str]; exact l02Map_any n A c xs k 0 W (hr.ext he) hb ⟨h1, h2⟩ ⟨by omega, by omega⟩
  obtain ⟨us, hus⟩ : ∃ us, us = uL n (n + 1) := ⟨_, rfl⟩
  have HUB : Hid (∀ x ∈ us, -30 ≤ x ∧ x ≤ 30) := fun x hx => by rw [hus] at hx; have := uL_in hx; omega
  have CU : Hid (∀ W : World, Calls Try.prog 11 #[.int .i64 n] W (RetI W us)) := fun W => by
    have := unS_any n W
    unfold unF at this
    rw [if_pos (inB_iff.2 hn), Int.toNat_natCast, ← hus] at this
    exact this
  obtain ⟨m, hmm⟩ : ∃ m, m = us.length := ⟨_, rfl⟩
  have HM := Lib.hid hmm
  have hm25 : m ≤ 25 := by rw [hmm, hus]; have := uL_len n (n + 1); omega
  rw [← hus]
  clear hus
  obtain ⟨W, hW⟩ : ∃ W, W = ((w.alloc (.cells #[.int .i64 n, .slice A l c] 33)).alloc (.cells #[.int .i64 0, .slice none 0 0] 33)) := ⟨_, rfl⟩
  have HX0 : Hid (Ext w W) := by rw [hW]; exact ((Ext.refl w).alloc _).alloc _
  have HG0 : Hid (Bx2 W w.heap.size 33 (.int .i64 n) (.slice A l c)) := by rw [hW]; exact (Bx2.new w _ _ _).ext ((Ext.refl _).alloc _)
  have HG1 : Hid (Bx2 W (w.heap.size + 1) 33 (.int .i64 0) (.slice none 0 0)) := by rw [hW]; exact Bx2.new1' _ _ _ _ _
  rw [← hll]
  clear hll hr
  have HW := Lib.hid hW
  clear hW hb hxl
  go_enter Try.func27, Try.ntmps27
  go_wp2_with fail
  rw [← HW.out]
  clear HW
  obtain ⟨q0, q1, p0, p1⟩ := HG0.out.cells
  go_wp2_with fail
  refine (CO.out W HX0.out).mono ?_
  rintro e w0 ⟨rfl, e0⟩
  have HXa := Lib.hid (HX0.out.trans e0)
  have HPa := Lib.hid (HG0.out.ext e0)
  have HQa := Lib.hid (HG1.out.ext e0)
  clear e0 q0 q1 p0 p1 HG0 HG1 HX0 CO
  obtain ⟨q0, q1, p0, p1⟩ := HPa.out.cells
  go_wp2_with fail
  refine (C0.out w0 HXa.out).mono ?_
  intro e w1 hret
  obtain ⟨B0, d0, rfl, ho, he⟩ := hret.parts
  obtain ⟨z0, hz0⟩ : ∃ z0, z0 = lfF n xs := ⟨_, rfl⟩
  rw [← hz0] at ho ⊢
  have HZ0 := Lib.hid hz0
  have HX1 : Hid (Ext w (w1.alloc (.cells #[.int .i64 n, .slice B0 z0.length d0] 33))) := (HXa.out.trans he).alloc _
  have HP1 : Hid (Bx2 (w1.alloc (.cells #[.int .i64 n, .slice B0 z0.length d0] 33)) w.heap.size 33 (.int .i64 n) (.slice A l c)) := (HPa.out.ext he).ext ((Ext.refl _).alloc _)
  have HQ1 : Hid (Bx2 (w1.alloc (.cells #[.int .i64 n, .slice B0 z0.length d0] 33)) (w.heap.size + 1) 33 (.int .i64 0) (.slice none 0 0)) := (HQa.out.ext he).ext ((Ext.refl _).alloc _)
  have HN1 := Lib.hid (Bx2.new w1 33 (.int .i64 n) (.slice B0 z0.length d0))
  have HO1 : Hid (OwI (w1.alloc (.cells #[.int .i64 n, .slice B0 z0.length d0] 33)) w.heap.size B0 d0 z0) := (ho.lower HXa.out.size).ext ((Ext.refl _).alloc _)
  have hgw : w.heap.size + 1 < w1.heap.size := (HQa.out.ext he).lt
  clear hz0 ho he hret q0 q1 p0 p1 HPa HQa HXa C0
  obtain ⟨q0, q1, p0, p1⟩ := HP1.out.cells
  go_wp2_with fail
  refine (CU.out _).mono ?_
  rintro e wu ⟨Us, du, rfl, ou, eu⟩
  rw [hmm.symm]
  have HX2 := Lib.hid (HX1.out.trans eu)
  have HP2 := Lib.hid (HP1.out.ext eu)
  have HQ2 := Lib.hid (HQ1.out.ext eu)
  have HN2 := Lib.hid (HN1.out.ext eu)
  have HO2 := Lib.hid (HO1.out.ext eu)
  have HU2 := Lib.hid (ou.lower HX1.out.size)
  clear eu ou hmm q0 q1 p0 p1 HX1 HP1 HQ1 HN1 HO1 CU
  go_wp2_with fail
  go_loopw [23] (fun i wr => ∃ (k : Nat) (B : Option Addr) (d : Nat) (zs : List Int), k ≤ m ∧ i = .int .i64 k ∧ Hid (zs = clF n xs (us.take k)) ∧ Hid (Bx2 wr w1.heap.size 33 (.int .i64 n) (.slice B zs.length d)) ∧ Hid (Bx2 wr w.heap.size 33 (.int .i64 n) (.slice A l c)) ∧ Hid (Bx2 wr (w.heap.size + 1) 33 (.int .i64 0) (.slice none 0 0)) ∧ Hid (OwI wr w.heap.size B d zs) ∧ Hid (OwI wr w.heap.size Us du us) ∧ Hid (Ext w wr)) (fun i _ => m - (intOf i).toNat)
  case atStart => exact ⟨0, B0, d0, z0, by omega, rfl, HZ0.out, HN2.out, HP2.out, HQ2.out, HO2.out, HU2.out, HX2.out⟩
  case round =>
    clear HX2 HP2 HQ2 HN2 HO2 HU2
    obtain ⟨k, B, d, zs, hk, rfl, HZ, HN, HP, HQ, HO, HU, HE⟩ := hrel
    obtain ⟨q0, q1, p0, p1⟩ := HN.out.cells
    obtain ⟨q2, q3, p2, p3⟩ := HP.out.cells
    obtain ⟨q4, q5, p4, p5⟩ := HQ.out.cells
    by_cases hlt : k < m
    · have hkx : k < us.length := by rw [← HM.out]; exact hlt
      obtain ⟨bu, ou, hA, hcu⟩ := HU.out.rd.at_ k hkx
      subst hA
      obtain ⟨x, hx⟩ : ∃ x, x = us.getD k 0 := ⟨_, rfl⟩
      have hxb := HUB.out x (by rw [hx]; exact getD_in hkx)
      rw [← hx] at hcu
      obtain ⟨ss, hss⟩ : ∃ ss, ss = strL n xs x := ⟨_, rfl⟩
      obtain ⟨ys, hys⟩ : ∃ ys, ys = lfF n ss := ⟨_, rfl⟩
      have hsb : rhyB n ss = true := by rw [hss]; exact mapF_rhy (by omega) (by omega)
      have hyb : rhyB n ys = true := by rw [hys]; exact lfF_rhy (by omega) (by omega)
      have hzb : rhyB n zs = true := by rw [HZ.out]; exact clF_rhy (by omega) (by omega) _
      have hyl := rhy_short hyb
      have hzl := rhy_short hzb
      obtain ⟨b, hbb⟩ : ∃ b, b = decide (codeN n zs < codeN n ys) := ⟨_, rfl⟩
      have HNB : Hid (clF n xs (us.take (k + 1)) = if b = true then ys else zs) := by
        rw [take_snoc us k hkx, clF_snoc, ← HZ.out, ← hx, ← hss, ← hys, hbb]
        unfold maxR
        simp [Hid]
      have CK := Lib.hid (CR.out x wr hxb.1 hxb.2 HE.out)
      have CF : Hid (∀ (D : Option Addr) (q : Nat) (W : World), RdI W D ss → Calls Try.prog 59 #[.agg #[.int .i64 n, .slice D ss.length q]] W (RetRB W ((n : Int), ys) true)) := fun D q W h => by rw [hys]; exact lfS_any n D q ss W h hsb
      have CL : Hid (∀ (D : Option Addr) (q : Nat) (V : World), OwI V w.heap.size B d zs → RdI V D ys → Calls Try.prog 60 #[.agg #[.int .i64 n, .slice D ys.length q], .agg #[.int .i64 n, .slice B zs.length d]] V fun e w' => e = .returned (.bool b) ∧ Ext V w') := fun D q V h1 h3 => by rw [hbb]; exact after_any n D B q d ys zs V h3 h1.rd (by omega) (by omega) (by omega)
      rw [← hss] at CK
      clear hys hss hx hkx hsb hyb hzb hyl hzl hbb
      go_wp2_with fail
      refine CK.out.mono ?_
      intro e w2 hret
      obtain ⟨D0, q0_, rfl, o0, e0⟩ := hret.parts
      have HO0 := Lib.hid o0.rd
      have HE0 := Lib.hid e0
      clear hret o0 e0
      go_wp2_with fail
      refine (CF.out D0 q0_ w2 HO0.out).mono ?_
      intro e w2b hret
      obtain ⟨D, q, rfl, o2, e2⟩ := hret.parts
      have HX2 : Hid (Ext wr (w2b.alloc (.cells #[.int .i64 n, .slice D ys.length q] 33))) := (HE0.out.trans e2).alloc _
      have HM2 := Lib.hid (Bx2.new w2b 33 (.int .i64 n) (.slice D ys.length q))
      have HO2 : Hid (OwI (w2b.alloc (.cells #[.int .i64 n, .slice D ys.length q] 33)) w.heap.size D q ys) := (o2.lower (HE.out.trans HE0.out).size).ext ((Ext.refl _).alloc _)
      have HDL : Hid (∀ ad, D = some ad → ad.block ≠ w1.heap.size) := fun ad had => by have h1 := (o2.lt ad had).1; have h2 := HN.out.lt; have h3 := HE0.out.size; omega
      have HNU : Hid (∀ ad, some (⟨bu, ou, none⟩ : Addr) = some ad → ad.block ≠ w1.heap.size) := fun ad had => HN.out.ne (by decide) HU.out ad had
      clear hret e2 o2 q0 q1 p0 p1 q2 q3 p2 p3 q4 q5 p4 p5 hcu
      obtain ⟨q0, q1, p0, p1⟩ := (HN.out.ext HX2.out).cells
      obtain ⟨q2, q3, p2, p3⟩ := HM2.out.cells
      go_wp2_with fail
      refine (CL.out _ _ _ (HO.out.ext HX2.out) HO2.out.rd).mono ?_
      rintro e w3 ⟨rfl, e3⟩
      have HX := Lib.hid (HX2.out.trans e3)
      have HM3 := Lib.hid (HM2.out.ext e3)
      have HO3 := Lib.hid (HO2.out.ext e3)
      have hg : w1.heap.size < wr.heap.size := HN.out.lt
      clear e3 q0 q1 p0 p1 q2 q3 p2 p3
      obtain ⟨q0, q1, p0, p1⟩ := (HN.out.ext HX.out).cells
      obtain ⟨q2, q3, p2, p3⟩ := HM3.out.cells
      cases b
      · have HNZ : Hid (zs = clF n xs (us.take (k + 1))) := by rw [HNB.out]; exact rfl
        go_wp2_with fail
        go_roundw
        case rel => exact ⟨k + 1, B, d, zs, by omega, by go_num, HNZ.out, HN.out.ext HX.out, HP.out.ext HX.out, HQ.out.ext HX.out, HO.out.ext HX.out, HU.out.ext HX.out, HE.out.trans HX.out⟩
        case measure => simp [intOf]; omega
      · have HNZ : Hid (ys = clF n xs (us.take (k + 1))) := by rw [HNB.out]; exact rfl
        go_wp2_with fail
        go_roundw
        case rel => exact ⟨k + 1, D, q, ys, by omega, by go_num, HNZ.out, ((HN.out.ext HX.out).set0 _).set1 _, ((HP.out.ext HX.out).far (by simp only []; omega) _).far (by simp only []; omega) _, ((HQ.out.ext HX.out).far (by simp only []; omega) _).far (by simp only []; omega) _, (HO3.out.setFar HDL.out _).setFar HDL.out _, ((HU.out.ext HX.out).setFar HNU.out _).setFar HNU.out _, ((HE.out.trans HX.out).setCell (by simp only []; omega) _).setCell (by simp only []; omega) _⟩
        case measure => simp [intOf]; omega
    · obtain rfl : k = m := by omega
      have hzz := HZ.out
      rw [take_all us k HM.out] at hzz
      have HZZ := Lib.hid hzz
      clear hzz
      have HNE : Hid (∀ ad, B = some ad → ad.block ≠ w.heap.size + 1) := fun ad had => HQ.out.ne (by decide) HO.out ad had
      go_wp2_with fail
      refine bodyPost_ret (v := .tuple #[.agg #[.int .i64 n, .slice B zs.length d], .bool true]) (by simp [results, Try.results27, go_sem, q4, q5]) rfl ?_
      rw [← HZZ.out]
      exact retRB_intro rfl ((HO.out.setFar (fun ad had => HNE.out ad had) _).setFar (fun ad had => HNE.out ad had) _) ((HE.out.setCell (by simp only []; omega) _).setCell (by simp only []; omega) _)

set_option maxHeartbeats 2000000 in
theorem scI_good (n : Nat) (A : Option Addr) (c : Nat) (xs : List Int) (w : World) (hr : RdI w A xs) (hb : rhyB n xs = true) :
    Calls Try.prog 28 #[.agg #[.int .i64 n, .slice A xs.length c]] w (RetRB w ((n : Int), clF n xs (uL n (n + 1))) true) := by
  have hxl := rhy_short hb
  obtain ⟨l, hll⟩ : ∃ l, l = xs.length := ⟨_, rfl⟩
  obtain ⟨zs, hzs⟩ : ∃ zs, zs = clF n xs (uL n (n + 1)) := ⟨_, rfl⟩
  have CO : Hid (∀ W : World, Ext w W → Calls Try.prog 61 #[.agg #[.int .i64 n, .slice A l c]] W fun e w' => e = .returned (.bool true) ∧ Ext W w') := fun W he => by rw [hll, ← hb]; exact rhyI_any A c n xs W (hr.ext he) (by omega)
  have CC : Hid (∀ W : World, Ext w W → Calls Try.prog 62 #[.agg #[.int .i64 n, .slice A l c]] W (RetR W ((n : Int), zs))) := fun W he => by rw [hll, hzs]; exact clI_any n A c xs W (hr.ext he) hb
  obtain ⟨W, hW⟩ : ∃ W, W = ((w.alloc (.cells #[.int .i64 n, .slice A l c] 33)).alloc (.cells #[.int .i64 0, .slice none 0 0] 33)) := ⟨_, rfl⟩
  have HX0 : Hid (Ext w W) := by rw [hW]; exact ((Ext.refl w).alloc _).alloc _
  have HG0 : Hid (Bx2 W w.heap.size 33 (.int .i64 n) (.slice A l c)) := by rw [hW]; exact (Bx2.new w _ _ _).ext ((Ext.refl _).alloc _)
  have HG1 : Hid (Bx2 W (w.heap.size + 1) 33 (.int .i64 0) (.slice none 0 0)) := by rw [hW]; exact Bx2.new1' _ _ _ _ _
  rw [← hll, ← hzs]
  have HW := Lib.hid hW
  clear hll hr hW hb hxl hzs
  go_enter Try.func28, Try.ntmps28
  go_wp2_with fail
  rw [← HW.out]
  clear HW
  obtain ⟨q0, q1, p0, p1⟩ := HG0.out.cells
  go_wp2_with fail
  refine (CO.out W HX0.out).mono ?_
  rintro e w0 ⟨rfl, e0⟩
  have HXa := Lib.hid (HX0.out.trans e0)
  have HPa := Lib.hid (HG0.out.ext e0)
  have HQa := Lib.hid (HG1.out.ext e0)
  clear e0 q0 q1 p0 p1 HG0 HG1 HX0 CO
  obtain ⟨q0, q1, p0, p1⟩ := HPa.out.cells
  go_wp2_with fail
  refine (CC.out w0 HXa.out).mono ?_
  intro e w1 hret
  obtain ⟨D, d, rfl, ho, he⟩ := hret.parts
  have HO := Lib.hid (ho.lower HXa.out.size)
  have HX := Lib.hid (HXa.out.trans he)
  have HQ := Lib.hid (HQa.out.ext he)
  have HNE : Hid (∀ ad, D = some ad → ad.block ≠ w.heap.size + 1) := fun ad had => HQ.out.ne (by decide) HO.out ad had
  clear hret ho he q0 q1 p0 p1
  obtain ⟨q4, q5, p4, p5⟩ := HQ.out.cells
  go_wp2_with fail
  refine bodyPost_ret (v := .tuple #[.agg #[.int .i64 n, .slice D zs.length d], .bool true]) (by simp [results, Try.results28, go_sem, q4, q5]) rfl ?_
  exact retRB_intro rfl ((HO.out.setFar HNE.out _).setFar HNE.out _) ((HX.out.setCell (by simp only []; omega) _).setCell (by simp only []; omega) _)

set_option maxHeartbeats 1000000 in
theorem scS_any (n : Int) (A : Option Addr) (c : Nat) (xs : List Int) (w : World) (hr : RdI w A xs) (hl : xs.length ≤ 1048576) :
    Calls Try.prog 27 #[.agg #[.int .i64 n, .slice A xs.length c]] w (RetRB w (scF n xs) (rhyB n xs)) := by
  by_cases hb : rhyB n xs = true
  · have hn := (rhyB_iff hb).1
    obtain ⟨N, rfl⟩ := Int.eq_ofNat_of_zero_le (show 0 ≤ n by omega)
    unfold scF
    rw [if_pos hb, hb, Int.toNat_natCast]
    exact scS_good N A c xs w hr hb
  · have hb : rhyB n xs = false := by simpa using hb
    unfold scF
    rw [hb, if_neg (by simp)]
    obtain ⟨l, hll⟩ : ∃ l, l = xs.length := ⟨_, rfl⟩
    have CO : Hid (∀ W : World, Ext w W → Calls Try.prog 49 #[.agg #[.int .i64 n, .slice A l c]] W fun e w' => e = .returned (.bool false) ∧ Ext W w') := fun W he => by rw [hll, ← hb]; exact rhyS_any A c n xs W (hr.ext he) (by omega)
    obtain ⟨W, hW⟩ : ∃ W, W = ((w.alloc (.cells #[.int .i64 n, .slice A l c] 33)).alloc (.cells #[.int .i64 0, .slice none 0 0] 33)) := ⟨_, rfl⟩
    have HX0 : Hid (Ext w W) := by rw [hW]; exact ((Ext.refl w).alloc _).alloc _
    have HG0 : Hid (Bx2 W w.heap.size 33 (.int .i64 n) (.slice A l c)) := by rw [hW]; exact (Bx2.new w _ _ _).ext ((Ext.refl _).alloc _)
    have HG1 : Hid (Bx2 W (w.heap.size + 1) 33 (.int .i64 0) (.slice none 0 0)) := by rw [hW]; exact Bx2.new1' _ _ _ _ _
    rw [← hll]
    have HW := Lib.hid hW
    clear hll hr hW hb hl
    go_enter Try.func27, Try.ntmps27
    go_wp2_with fail
    rw [← HW.out]
    clear HW
    obtain ⟨q0, q1, p0, p1⟩ := HG0.out.cells
    go_wp2_with fail
    refine (CO.out W HX0.out).mono ?_
    rintro e w0 ⟨rfl, e0⟩
    have HXa := Lib.hid (HX0.out.trans e0)
    have HQa := Lib.hid (HG1.out.ext e0)
    clear e0 q0 q1 p0 p1 HG0 HG1 HX0 CO
    obtain ⟨q4, q5, p4, p5⟩ := HQa.out.cells
    go_wp2_with fail
    refine bodyPost_ret (v := .tuple #[.agg #[.int .i64 0, .slice none 0 0], .bool false]) (by simp [results, Try.results27, go_sem, q4, q5]) rfl ?_
    exact retRB_none ((HXa.out.setCell (by simp only []; omega) _).setCell (by simp only []; omega) _)
set_option maxHeartbeats 1000000 in
theorem scI_any (n : Int) (A : Option Addr) (c : Nat) (xs : List Int) (w : World) (hr : RdI w A xs) (hl : xs.length ≤ 1048576) :
    Calls Try.prog 28 #[.agg #[.int .i64 n, .slice A xs.length c]] w (RetRB w (scF n xs) (rhyB n xs)) := by
  by_cases hb : rhyB n xs = true
  · have hn := (rhyB_iff hb).1
    obtain ⟨N, rfl⟩ := Int.eq_ofNat_of_zero_le (show 0 ≤ n by omega)
    unfold scF
    rw [if_pos hb, hb, Int.toNat_natCast]
    exact scI_good N A c xs w hr hb
  · have hb : rhyB n xs = false := by simpa using hb
    unfold scF
    rw [hb, if_neg (by simp)]
    obtain ⟨l, hll⟩ : ∃ l, l = xs.length := ⟨_, rfl⟩
    have CO : Hid (∀ W : World, Ext w W → Calls Try.prog 61 #[.agg #[.int .i64 n, .slice A l c]] W fun e w' => e = .returned (.bool false) ∧ Ext W w') := fun W he => by rw [hll, ← hb]; exact rhyI_any A c n xs W (hr.ext he) (by omega)
    obtain ⟨W, hW⟩ : ∃ W, W = ((w.alloc (.cells #[.int .i64 n, .slice A l c] 33)).alloc (.cells #[.int .i64 0, .slice none 0 0] 33)) := ⟨_, rfl⟩
    have HX0 : Hid (Ext w W) := by rw [hW]; exact ((Ext.refl w).alloc _).alloc _
    have HG0 : Hid (Bx2 W w.heap.size 33 (.int .i64 n) (.slice A l c)) := by rw [hW]; exact (Bx2.new w _ _ _).ext ((Ext.refl _).alloc _)
    have HG1 : Hid (Bx2 W (w.heap.size + 1) 33 (.int .i64 0) (.slice none 0 0)) := by rw [hW]; exact Bx2.new1' _ _ _ _ _
    rw [← hll]
    have HW := Lib.hid hW
    clear hll hr hW hb hl
    go_enter Try.func28, Try.ntmps28
    go_wp2_with fail
    rw [← HW.out]
    clear HW
    obtain ⟨q0, q1, p0, p1⟩ := HG0.out.cells
    go_wp2_with fail
    refine (CO.out W HX0.out).mono ?_
    rintro e w0 ⟨rfl, e0⟩
    have HXa := Lib.hid (HX0.out.trans e0)
    have HQa := Lib.hid (HG1.out.ext e0)
    clear e0 q0 q1 p0 p1 HG0 HG1 HX0 CO
    obtain ⟨q4, q5, p4, p5⟩ := HQa.out.cells
    go_wp2_with fail
    refine bodyPost_ret (v := .tuple #[.agg #[.int .i64 0, .slice none 0 0], .bool false]) (by simp [results, Try.results28, go_sem, q4, q5]) rfl ?_
    exact retRB_none ((HXa.out.setCell (by simp only []; omega) _).setCell (by simp only []; omega) _)
end Go.Proofs.Ytphpdanohooccaa
