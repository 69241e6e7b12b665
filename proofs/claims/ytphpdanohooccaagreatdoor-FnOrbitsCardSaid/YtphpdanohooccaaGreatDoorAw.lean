/- Contracts of ApplyWord. -/
import Derived.Test.YtphpdanohooccaaGreatDoorOther
import Derived.Test.YtphpdanohooccaaGreatDoorTrim
import Derived.Test.YtphpdanohooccaaGreatDoorRhyB
import Derived.Lib.IndexBytes
namespace Go.Proofs.YtphpdanohooccaaGreatDoor
open Go.RowKit

theorem rhy24 {n : Nat} {xs : List Int} (h : rhyB n xs = true) : xs.length ≤ 24 := by
  have h1 := (rhyB_iff h).1
  have h2 := rhyB_len h
  omega
theorem mapF_cg (n : Nat) (xs : List Int) {f g : Int → Int} (h : ∀ q, f q = g q) : mapF n xs f = mapF n xs g := congrArg (mapF n xs) (funext h)
theorem stW_T (n : Nat) (xs : List Int) : stW n xs 84 = mapF n xs (fun p => p + 1) := if_pos rfl
theorem stW_M (n : Nat) (xs : List Int) : stW n xs 77 = mapF n xs (fun p => -p) := rfl
theorem stW_S (n : Nat) (xs : List Int) : stW n xs 83 = otF n xs := rfl
theorem take_at {L : List UInt8} {j : Nat} {x : UInt8} (h : L[j]? = some x) : L.take (j + 1) = L.take j ++ [x] := by
  have hk : j < L.length := (List.getElem?_eq_some_iff.1 h).1
  have e : L[j] = x := (List.getElem?_eq_some_iff.1 h).2
  rw [List.take_succ_eq_append_getElem hk, e]
theorem all_more {L : List UInt8} {j : Nat} {x : UInt8} (h : L[j]? = some x) (ha : ∀ y ∈ L.take j, inW y = true) (hx : inW x = true) : ∀ y ∈ L.take (j + 1), inW y = true := by
  intro y hy
  rw [take_at h, List.mem_append] at hy
  rcases hy with hy | hy
  · exact ha y hy
  · rw [List.mem_singleton.1 hy]; exact hx
theorem all_not {L : List UInt8} {j : Nat} {x : UInt8} (h : L[j]? = some x) (hx : inW x = false) : L.all inW = false := by
  refine Bool.eq_false_iff.2 (fun hh => ?_)
  rw [List.all_eq_true] at hh
  have := hh x (List.mem_of_getElem? h)
  rw [hx] at this
  cases this
theorem awF_bad {n : Int} {xs : List Int} {l : List UInt8} (h : awB n xs l = false) : awF n xs l = (0, []) := by unfold awF; rw [if_neg (by rw [h]; simp)]
theorem awF_sz (n : Int) (xs : List Int) (l : List UInt8) : szR (awF n xs l) ≤ 24 := by
  unfold awF
  split
  · rename_i h
    unfold awB at h
    rw [Bool.and_eq_true] at h
    have hn := (rhyB_iff h.1).1
    exact rhy24 (wdG_rhy (by omega) (by omega) l _ (rhyB_setL n.toNat _ (by omega) (by omega)))
  · exact Nat.zero_le _
theorem u8ne {x : UInt8} {k : Nat} (h : x ≠ UInt8.ofNat k) : ((x.toNat : Int) == (k : Int)) = false := by
  refine Bool.eq_false_iff.2 (fun e => h ?_)
  have e : (x.toNat : Int) = k := by simpa using e
  have e2 : x.toNat = k := by omega
  rw [← e2]
  simp

set_option maxRecDepth 20000 in
set_option maxHeartbeats 8000000 in
theorem awI_good (n : Nat) (A : Option Addr) (c : Nat) (xs : List Int) (s : ByteArray) (w : World) (hr : RdI w A xs) (hb : rhyB n xs = true) (hs : s.size ≤ 40) (hall : s.data.toList.all inW = true) :
    Calls Tryz.prog 7 #[.agg #[.int .i64 n, .slice A xs.length c], .string s] w (RetRB w (awF n xs s.data.toList) (awB n xs s.data.toList)) := by
  have hn := (rhyB_iff hb).1
  have hxl := rhy24 hb
  obtain ⟨l, hll⟩ : ∃ l, l = xs.length := ⟨_, rfl⟩
  obtain ⟨ys, hys⟩ : ∃ ys, ys = mapF n xs (fun p => p + 0) := ⟨_, rfl⟩
  have HYB : Hid (rhyB n ys = true) := by rw [hys]; exact rhyB_setL n _ (by omega) (by omega)
  obtain ⟨r, hr0, HTR0⟩ := trim_empty s hall (by omega)
  have HTR := Lib.hid HTR0
  clear HTR0
  obtain ⟨L, hL⟩ : ∃ L, L = s.data.toList := ⟨_, rfl⟩
  have hLs : L.length = s.size := by rw [hL]; exact (Lib.size_eq s).symm
  rw [← hL]
  rw [← hL] at hall
  obtain ⟨Y, hY⟩ : ∃ Y, Y = awF n xs L := ⟨_, rfl⟩
  obtain ⟨b, hbb⟩ : ∃ b, b = awB n xs L := ⟨_, rfl⟩
  have hbv : b = L.all inW := by rw [hbb]; unfold awB; rw [hb]; simp [hLs, hs]
  have HT : Hid (L.all inW = true → Y = ((n : Int), wdG n L ys) ∧ b = true) := fun h => ⟨by rw [hY]; unfold awF; rw [← hbb, hbv, if_pos h, Int.toNat_natCast, ← hys], by rw [hbv]; exact h⟩
  have HF : Hid (L.all inW = false → Y = (0, []) ∧ b = false) := fun h => ⟨by rw [hY]; exact awF_bad (by rw [← hbb, hbv]; exact h), by rw [hbv]; exact h⟩
  have CO : Hid (∀ W : World, Ext w W → Calls Tryz.prog 28 #[.agg #[.int .i64 n, .slice A l c]] W fun e w' => e = .returned (.bool true) ∧ Ext W w') := fun W he => by rw [hll, ← hb]; exact rhyI_any A c n xs W (hr.ext he) (by omega)
  have CM : Hid (∀ W : World, Ext w W → Calls Tryz.prog 30 #[.agg #[.int .i64 n, .slice A l c], .int .i64 0] W (RetR W ((n : Int), ys))) := fun W he => by rw [hll, hys]; exact rot_any n A c xs 0 W (hr.ext he) hb ⟨by omega, by omega⟩
  have HL := Lib.hid hL
  have HLS := Lib.hid hLs
  have HALL := Lib.hid hall
  obtain ⟨W, hW⟩ : ∃ W, W = ((w.alloc (.cells #[.int .i64 n, .slice A l c] 25)).alloc (.cells #[.int .i64 0, .slice none 0 0] 25)) := ⟨_, rfl⟩
  have HX0 : Hid (Ext w W) := by rw [hW]; exact ((Ext.refl w).alloc _).alloc _
  have HG0 : Hid (Bx2 W w.heap.size 25 (.int .i64 n) (.slice A l c)) := by rw [hW]; exact (Bx2.new w _ _ _).ext ((Ext.refl _).alloc _)
  have HG1 : Hid (Bx2 W (w.heap.size + 1) 25 (.int .i64 0) (.slice none 0 0)) := by rw [hW]; exact Bx2.new1' _ _ _ _ _
  rw [← hY, ← hbb, ← hll]
  have HW := Lib.hid hW
  have hsz : (s.size : Int) ≤ 40 := by omega
  clear hW hll hr hb hxl hL hLs hY hbb hbv hys hall
  go_enter Tryz.func7, Tryz.ntmps7
  go_wp2_with fail
  rw [← HW.out]
  clear HW
  obtain ⟨q0, q1, p0, p1⟩ := HG0.out.cells
  go_wp2_with fail
  refine (CO.out W HX0.out).mono ?_
  rintro e w0 ⟨rfl, e0⟩
  have HXa := Lib.hid (HX0.out.trans e0)
  have HPa := Lib.hid (HG0.out.ext e0)
  have HQa := Lib.hid (HG1.out.ext e0)
  clear e0 q0 q1 p0 p1 HG0 HG1 HX0 CO
  obtain ⟨q0, q1, p0, p1⟩ := HPa.out.cells
  go_wp2_with fail
  refine (HTR.out w0).mono ?_
  rintro e w9 ⟨rfl, e9⟩
  have HXa9 := Lib.hid (HXa.out.trans e9)
  have HPa9 := Lib.hid (HPa.out.ext e9)
  have HQa9 := Lib.hid (HQa.out.ext e9)
  clear e9 q0 q1 p0 p1 HXa HPa HQa
  have HXa := HXa9; have HPa := HPa9; have HQa := HQa9
  clear HXa9 HPa9 HQa9
  obtain ⟨q0, q1, p0, p1⟩ := HPa.out.cells
  go_wp2_with fail
  refine (CM.out w9 HXa.out).mono ?_
  intro e w1 hret
  obtain ⟨B0, d0, rfl, ho, he⟩ := hret.parts
  have HX1 : Hid (Ext w (w1.alloc (.cells #[.int .i64 n, .slice B0 ys.length d0] 25))) := (HXa.out.trans he).alloc _
  have HQ1 : Hid (Bx2 (w1.alloc (.cells #[.int .i64 n, .slice B0 ys.length d0] 25)) (w.heap.size + 1) 25 (.int .i64 0) (.slice none 0 0)) := (HQa.out.ext he).ext ((Ext.refl _).alloc _)
  have HN1 := Lib.hid (Bx2.new w1 25 (.int .i64 n) (.slice B0 ys.length d0))
  have HO1 : Hid (OwI (w1.alloc (.cells #[.int .i64 n, .slice B0 ys.length d0] 25)) w.heap.size B0 d0 ys) := (ho.lower HXa.out.size).ext ((Ext.refl _).alloc _)
  have hgw : w.heap.size + 1 < w1.heap.size := (HQa.out.ext he).lt
  clear ho he hret q0 q1 p0 p1 HPa HQa HXa CM
  go_wp2_with fail
  go_loopw [26] (fun i wr => ∃ (j : Nat) (B : Option Addr) (d : Nat) (zs : List Int), j ≤ s.size ∧ i = .int .i64 j ∧ Hid (zs = wdG n (L.take j) ys) ∧ Hid (∀ y ∈ L.take j, inW y = true) ∧ Hid (Bx2 wr w1.heap.size 25 (.int .i64 n) (.slice B zs.length d)) ∧ Hid (Bx2 wr (w.heap.size + 1) 25 (.int .i64 0) (.slice none 0 0)) ∧ Hid (OwI wr w.heap.size B d zs) ∧ Hid (Ext w wr)) (fun i _ => s.size - (intOf i).toNat)
  case atStart => exact ⟨0, B0, d0, ys, by omega, rfl, rfl, fun y hy => (by simp at hy), HN1.out, HQ1.out, HO1.out, HX1.out⟩
  case round =>
    clear HX1 HQ1 HN1 HO1
    obtain ⟨j, B, d, zs, hj, rfl, HZ, HA, HN, HQ, HO, HE⟩ := hrel
    obtain ⟨q0, q1, p0, p1⟩ := HN.out.cells
    by_cases hlt : j < s.size
    · have hlz : (j : Int) < (s.size : Int) := by omega
      obtain ⟨x, hx⟩ : ∃ x : UInt8, s[j] = x := ⟨_, rfl⟩
      have hxl : L[j]? = some x := by rw [HL.out, ← hx]; exact Lib.data_getElem? s j hlt
      have HX : Hid (wdG n (L.take (j + 1)) ys = stW n zs x) := by rw [wdG_snoc n L ys j x hxl, ← HZ.out]; exact rfl
      have HZB : Hid (rhyB n zs = true) := by rw [HZ.out]; exact wdG_rhy (by omega) (by omega) _ _ HYB.out
      by_cases h84 : x = 84
      · subst h84
        obtain ⟨us, hus⟩ : ∃ us, us = stW n zs 84 := ⟨_, rfl⟩
        have HU : Hid (us = wdG n (L.take (j + 1)) ys) := by rw [HX.out]; exact hus
        have HAN := Lib.hid (all_more hxl HA.out (x := 84) rfl)
        have hzl := HZB.out
        have CK : Hid (Calls Tryz.prog 30 #[.agg #[.int .i64 n, .slice B zs.length d], .int .i64 1] wr (RetR wr ((n : Int), us))) := by rw [hus, stW_T]; exact rot_any n B d zs 1 wr HO.out.rd hzl ⟨by omega, by omega⟩
        have hg : w1.heap.size < wr.heap.size := HN.out.lt
        clear hus hxl hzl HX
        go_wp2_with fail
        refine CK.out.mono ?_
        intro e w2 hret
        obtain ⟨D, q, rfl, o2, e2⟩ := hret.parts
        have HN2 := Lib.hid (HN.out.ext e2)
        have HQ2 := Lib.hid (HQ.out.ext e2)
        have HO2 := Lib.hid (o2.lower HE.out.size)
        have HE2 := Lib.hid (HE.out.trans e2)
        have HDL : Hid (∀ ad, D = some ad → ad.block ≠ w1.heap.size) := fun ad had => by have h1 := (o2.lt ad had).1; omega
        clear hret e2 o2 q0 q1 p0 p1 CK HN HQ HO HE
        obtain ⟨q0, q1, p0, p1⟩ := HN2.out.cells
        go_wp2_with fail
        go_roundw
        case rel => exact ⟨j + 1, D, q, us, by omega, by go_num, HU.out, HAN.out, (HN2.out.set0 _).set1 _, (HQ2.out.far (by simp only []; omega) _).far (by simp only []; omega) _, (HO2.out.setFar HDL.out _).setFar HDL.out _, (HE2.out.setCell (by simp only []; omega) _).setCell (by simp only []; omega) _⟩
        case measure => simp [intOf]; omega
      have n84 : ((x.toNat : Int) == 84) = false := u8ne (k := 84) h84
      by_cases h77 : x = 77
      · subst h77
        obtain ⟨us, hus⟩ : ∃ us, us = stW n zs 77 := ⟨_, rfl⟩
        have HU : Hid (us = wdG n (L.take (j + 1)) ys) := by rw [HX.out]; exact hus
        have HAN := Lib.hid (all_more hxl HA.out (x := 77) rfl)
        have hzl := HZB.out
        have CK : Hid (Calls Tryz.prog 31 #[.agg #[.int .i64 n, .slice B zs.length d]] wr (RetR wr ((n : Int), us))) := by rw [hus, stW_M]; exact mir_any n B d zs wr HO.out.rd hzl
        have hg : w1.heap.size < wr.heap.size := HN.out.lt
        clear hus hxl hzl HX
        go_wp2_with fail
        refine CK.out.mono ?_
        intro e w2 hret
        obtain ⟨D, q, rfl, o2, e2⟩ := hret.parts
        have HN2 := Lib.hid (HN.out.ext e2)
        have HQ2 := Lib.hid (HQ.out.ext e2)
        have HO2 := Lib.hid (o2.lower HE.out.size)
        have HE2 := Lib.hid (HE.out.trans e2)
        have HDL : Hid (∀ ad, D = some ad → ad.block ≠ w1.heap.size) := fun ad had => by have h1 := (o2.lt ad had).1; omega
        clear hret e2 o2 q0 q1 p0 p1 CK HN HQ HO HE
        obtain ⟨q0, q1, p0, p1⟩ := HN2.out.cells
        go_wp2_with fail
        go_roundw
        case rel => exact ⟨j + 1, D, q, us, by omega, by go_num, HU.out, HAN.out, (HN2.out.set0 _).set1 _, (HQ2.out.far (by simp only []; omega) _).far (by simp only []; omega) _, (HO2.out.setFar HDL.out _).setFar HDL.out _, (HE2.out.setCell (by simp only []; omega) _).setCell (by simp only []; omega) _⟩
        case measure => simp [intOf]; omega
      have n77 : ((x.toNat : Int) == 77) = false := u8ne (k := 77) h77
      have h83 : x = 83 := by
        have h := List.all_eq_true.1 HALL.out x (List.mem_of_getElem? hxl)
        unfold inW at h
        simpa [h84, h77] using h
      subst h83
      obtain ⟨us, hus⟩ : ∃ us, us = stW n zs 83 := ⟨_, rfl⟩
      have HU : Hid (us = wdG n (L.take (j + 1)) ys) := by rw [HX.out]; exact hus
      have HAN := Lib.hid (all_more hxl HA.out (x := 83) rfl)
      have hzl := HZB.out
      have CK : Hid (Calls Tryz.prog 32 #[.agg #[.int .i64 n, .slice B zs.length d]] wr (RetR wr ((n : Int), us))) := by rw [hus, stW_S]; exact otI_any n B d zs wr HO.out.rd hzl
      have hg : w1.heap.size < wr.heap.size := HN.out.lt
      clear hus hxl hzl HX
      go_wp2_with fail
      refine CK.out.mono ?_
      intro e w2 hret
      obtain ⟨D, q, rfl, o2, e2⟩ := hret.parts
      have HN2 := Lib.hid (HN.out.ext e2)
      have HQ2 := Lib.hid (HQ.out.ext e2)
      have HO2 := Lib.hid (o2.lower HE.out.size)
      have HE2 := Lib.hid (HE.out.trans e2)
      have HDL : Hid (∀ ad, D = some ad → ad.block ≠ w1.heap.size) := fun ad had => by have h1 := (o2.lt ad had).1; omega
      clear hret e2 o2 q0 q1 p0 p1 CK HN HQ HO HE
      obtain ⟨q0, q1, p0, p1⟩ := HN2.out.cells
      go_wp2_with fail
      go_roundw
      case rel => exact ⟨j + 1, D, q, us, by omega, by go_num, HU.out, HAN.out, (HN2.out.set0 _).set1 _, (HQ2.out.far (by simp only []; omega) _).far (by simp only []; omega) _, (HO2.out.setFar HDL.out _).setFar HDL.out _, (HE2.out.setCell (by simp only []; omega) _).setCell (by simp only []; omega) _⟩
      case measure => simp [intOf]; omega
    · obtain rfl : j = s.size := by omega
      have HLL : L.take s.size = L := List.take_of_length_le (by rw [HLS.out]; exact Nat.le_refl _)
      obtain ⟨hY, hb⟩ := HT.out (List.all_eq_true.2 (by rw [← HLL]; exact HA.out))
      rw [← HLL, ← HZ.out] at hY
      subst hY hb
      have HNE : Hid (∀ ad, B = some ad → ad.block ≠ w.heap.size + 1) := fun ad had => HQ.out.ne (by decide) HO.out ad had
      clear HLL HT HF HZ HA
      obtain ⟨q4, q5, p4, p5⟩ := HQ.out.cells
      go_wp2_with fail
      refine bodyPost_ret (v := .tuple #[.agg #[.int .i64 n, .slice B zs.length d], .bool true]) (by simp [results, Tryz.results7, go_sem, q4, q5]) rfl ?_
      exact retRB_intro rfl ((HO.out.setFar (fun ad had => HNE.out ad had) _).setFar (fun ad had => HNE.out ad had) _) ((HE.out.setCell (by simp only []; omega) _).setCell (by simp only []; omega) _)

set_option maxHeartbeats 4000000 in
theorem awI_bad (n : Int) (A : Option Addr) (c : Nat) (xs : List Int) (s : ByteArray) (w : World) (hr : RdI w A xs) (hl : xs.length ≤ 1048576) (hs : s.size ≤ 1048576) (hbad : rhyB n xs = true → s.size ≤ 40 → s.data.toList.all inW = false) :
    Calls Tryz.prog 7 #[.agg #[.int .i64 n, .slice A xs.length c], .string s] w (RetRB w (0, []) false) := by
  obtain ⟨l, hll⟩ : ∃ l, l = xs.length := ⟨_, rfl⟩
  obtain ⟨b, hb⟩ : ∃ b, b = rhyB n xs := ⟨_, rfl⟩
  have CO : Hid (∀ W : World, Ext w W → Calls Tryz.prog 28 #[.agg #[.int .i64 n, .slice A l c]] W fun e w' => e = .returned (.bool b) ∧ Ext W w') := fun W he => by rw [hll, hb]; exact rhyI_any A c n xs W (hr.ext he) (by omega)
  obtain ⟨W, hW⟩ : ∃ W, W = ((w.alloc (.cells #[.int .i64 n, .slice A l c] 25)).alloc (.cells #[.int .i64 0, .slice none 0 0] 25)) := ⟨_, rfl⟩
  have HX0 : Hid (Ext w W) := by rw [hW]; exact ((Ext.refl w).alloc _).alloc _
  have HG0 : Hid (Bx2 W w.heap.size 25 (.int .i64 n) (.slice A l c)) := by rw [hW]; exact (Bx2.new w _ _ _).ext ((Ext.refl _).alloc _)
  have HG1 : Hid (Bx2 W (w.heap.size + 1) 25 (.int .i64 0) (.slice none 0 0)) := by rw [hW]; exact Bx2.new1' _ _ _ _ _
  have HBAD : Hid (b = true → s.size ≤ 40 → s.data.toList.all inW = false) := by rw [hb]; exact hbad
  rw [← hll]
  have HW := Lib.hid hW
  have hsz : (s.size : Int) ≤ 1048576 := by omega
  clear hll hr hW hb hl hbad
  go_enter Tryz.func7, Tryz.ntmps7
  go_wp2_with fail
  rw [← HW.out]
  clear HW
  obtain ⟨q0, q1, p0, p1⟩ := HG0.out.cells
  go_wp2_with fail
  refine (CO.out W HX0.out).mono ?_
  rintro e w0 ⟨rfl, e0⟩
  have HXa := Lib.hid (HX0.out.trans e0)
  have HQa := Lib.hid (HG1.out.ext e0)
  clear e0 q0 q1 p0 p1 HG0 HG1 HX0 CO
  obtain ⟨q4, q5, p4, p5⟩ := HQa.out.cells
  cases b
  · go_wp2_with fail
    refine bodyPost_ret (v := .tuple #[.agg #[.int .i64 0, .slice none 0 0], .bool false]) (by simp [results, Tryz.results7, go_sem, q4, q5]) rfl ?_
    exact retRB_intro rfl (OwI.nil _ _) ((HXa.out.setCell (by simp only []; omega) _).setCell (by simp only []; omega) _)
  · by_cases h40 : 40 < s.size
    · have h40z : (40 : Int) < (s.size : Int) := by omega
      go_wp2_with fail
      refine bodyPost_ret (v := .tuple #[.agg #[.int .i64 0, .slice none 0 0], .bool false]) (by simp [results, Tryz.results7, go_sem, q4, q5]) rfl ?_
      exact retRB_intro rfl (OwI.nil _ _) ((HXa.out.setCell (by simp only []; omega) _).setCell (by simp only []; omega) _)
    · have h40z : ¬ ((40 : Int) < (s.size : Int)) := by omega
      obtain ⟨r, hr0, HTR⟩ := trim_full s (HBAD.out rfl (by omega)) (by omega)
      clear HBAD
      go_wp2_with fail
      refine (HTR w0).mono ?_
      rintro e w9 ⟨rfl, e9⟩
      have HXb := Lib.hid (HXa.out.trans e9)
      have HQb := Lib.hid (HQa.out.ext e9)
      clear e9 q4 q5 p4 p5 HXa HQa HTR
      obtain ⟨q4, q5, p4, p5⟩ := HQb.out.cells
      go_wp2_with fail
      refine bodyPost_ret (v := .tuple #[.agg #[.int .i64 0, .slice none 0 0], .bool false]) (by simp [results, Tryz.results7, go_sem, q4, q5]) rfl ?_
      exact retRB_intro rfl (OwI.nil _ _) ((HXb.out.setCell (by simp only []; omega) _).setCell (by simp only []; omega) _)

theorem awI_any (n : Int) (A : Option Addr) (c : Nat) (xs : List Int) (s : ByteArray) (w : World) (hr : RdI w A xs) (hl : xs.length ≤ 1048576) (hs : s.size ≤ 1048576) :
    Calls Tryz.prog 7 #[.agg #[.int .i64 n, .slice A xs.length c], .string s] w (RetRB w (awF n xs s.data.toList) (awB n xs s.data.toList)) := by
  by_cases h : rhyB n xs = true ∧ s.size ≤ 40 ∧ s.data.toList.all inW = true
  · have hn := (rhyB_iff h.1).1
    obtain ⟨N, rfl⟩ := Int.eq_ofNat_of_zero_le (show 0 ≤ n by omega)
    exact awI_good N A c xs s w hr h.1 h.2.1 h.2.2
  · have e : awB n xs s.data.toList = false := by
      unfold awB
      refine Bool.eq_false_iff.2 (fun hh => h ?_)
      rw [Bool.and_eq_true, Bool.and_eq_true, decide_eq_true_eq, ← Lib.size_eq s] at hh
      exact ⟨hh.1, hh.2.1, hh.2.2⟩
    rw [awF_bad e, e]
    exact awI_bad n A c xs s w hr hl hs (fun h1 h2 => Bool.eq_false_iff.2 (fun h3 => h ⟨h1, h2, h3⟩))
end Go.Proofs.YtphpdanohooccaaGreatDoor
