/- Contracts of FewestMoves. -/
import Derived.Test.YtnhppeknkeblfaaFew
import Derived.Deep.RegionHeld3
namespace Go.Proofs.Ytnhppeknkeblfaa
open Go.RowKit

/-- A function that answers a fresh rhythm, and a number. -/
def RetRI (w : World) (r : Int × List Int) (v : Int) (e : Ending) (w' : World) : Prop := ∃ x, e = .returned (.tuple #[x, .int .i64 v]) ∧ OwnR w' w.heap.size w'.heap.size x r ∧ Ext w w'
theorem retRI_intro {w w' : World} {n v : Int} {A : Option Addr} {l c : Nat} {xs : List Int} (hl : l = xs.length) (ho : OwI w' w.heap.size A c xs) (he : Ext w w') :
    RetRI w (n, xs) v (.returned (.tuple #[.agg #[.int .i64 n, .slice A l c], .int .i64 v])) w' := by
  subst hl
  exact ⟨_, rfl, ⟨A, c, rfl, A, c, rfl, ho, fun a ha => (ho.lt a ha).2, Nat.le_refl _⟩, he⟩

set_option maxHeartbeats 8000000 in
theorem fmI_good (n : Nat) (A : Option Addr) (c : Nat) (xs : List Int) (w : World) (hr : RdI w A xs) (hb : rhyB n xs = true) :
    Calls Try.prog 15 #[.agg #[.int .i64 n, .slice A xs.length c]] w (RetRI w ((n : Int), fmE n xs) (farF n xs (fmE n xs))) := by
  have hn := (rhyB_iff hb).1
  have hln := rhyB_len hb
  obtain ⟨l, hll⟩ : ∃ l, l = xs.length := ⟨_, rfl⟩
  obtain ⟨es, hes⟩ : ∃ es, es = evL l n := ⟨_, rfl⟩
  have heb : rhyB n es = true := by rw [hes]; exact ev_rhy l n (by omega) (by omega) (by omega)
  have hel : es.length = l := by rw [hes]; exact evL_len l n
  have hfe : fmE n xs = fmB n xs es n := by rw [hes, hll]; unfold fmE; rw [Int.toNat_natCast]
  have CO : Hid (∀ W : World, Ext w W → Calls Try.prog 31 #[.agg #[.int .i64 n, .slice A l c]] W fun e w' => e = .returned (.bool true) ∧ Ext W w') := fun W he => by rw [hll, ← hb]; exact rhyI_any A c n xs W (hr.ext he) (by omega)
  have C0 : Hid (∀ W : World, Calls Try.prog 35 #[.int .i64 l, .int .i64 n] W (RetRB W ((n : Int), es) true)) := fun W => by rw [hes]; exact evI_any l n W (by omega) (by omega) (by omega)
  have CR : Hid (∀ (k : Int) (B : Option Addr) (d : Nat) (W : World), -2000 ≤ k → k ≤ 2000 → RdI W B es → Calls Try.prog 36 #[.agg #[.int .i64 n, .slice B es.length d], .int .i64 k] W (RetR W ((n : Int), rotL n es k))) := fun k B d W g1 g2 g3 => by exact rot_any n B d es k W g3 heb ⟨g1, g2⟩
  have CF : Hid (∀ (B : Option Addr) (d : Nat) (ys : List Int) (W : World), Ext w W → RdI W B ys → rhyB n ys = true → ys.length = l → Calls Try.prog 25 #[.agg #[.int .i64 n, .slice A l c], .agg #[.int .i64 n, .slice B ys.length d]] W fun e w' => e = .returned (.int .i64 (farF n xs ys)) ∧ Ext W w') := fun B d ys W g1 g2 g3 g4 => by rw [hll]; exact farI_any n n A B c d xs ys W (hr.ext g1) g2 hb g3 (by rw [g4, hll])
  obtain ⟨W, hW⟩ : ∃ W, W = ((w.alloc (.cells #[.int .i64 n, .slice A l c] 27)).alloc (.cells #[.int .i64 0, .slice none 0 0] 27)) := ⟨_, rfl⟩
  have HX0 : Hid (Ext w W) := by rw [hW]; exact ((Ext.refl w).alloc _).alloc _
  have HG0 : Hid (Bx2 W w.heap.size 27 (.int .i64 n) (.slice A l c)) := by rw [hW]; exact (Bx2.new w _ _ _).ext ((Ext.refl _).alloc _)
  have HG1 : Hid (Bx2 W (w.heap.size + 1) 27 (.int .i64 0) (.slice none 0 0)) := by rw [hW]; exact Bx2.new1' _ _ _ _ _
  rw [← hll, hfe]
  have HW := Lib.hid hW
  have HEB := Lib.hid heb
  have HEL := Lib.hid hel
  have HFE := Lib.hid hfe
  clear hll hr hW hb hes heb hel hfe
  go_enter Try.func15, Try.ntmps15
  go_wp2_with fail
  rw [← HW.out]
  clear HW
  obtain ⟨q0, q1, p0, p1⟩ := HG0.out.cells
  go_wp2_with fail
  refine (CO.out W HX0.out).mono ?_
  rintro e w0 ⟨rfl, e0⟩
  have HXa := Lib.hid (HX0.out.trans e0)
  have HPa := Lib.hid (HG0.out.ext e0)
  have HQa := Lib.hid (HG1.out.ext e0)
  clear e0 q0 q1 p0 p1 HG0 HG1 HX0 CO
  obtain ⟨q0, q1, p0, p1⟩ := HPa.out.cells
  go_wp2_with fail
  refine (C0.out w0).mono ?_
  intro e w1 hret
  obtain ⟨B0, d0, rfl, ho, he⟩ := hret.parts
  obtain ⟨V, hV⟩ : ∃ V, V = (w1.alloc (.cells #[.int .i64 n, .slice B0 es.length d0] 27)).alloc (.cells #[.int .i64 n, .slice B0 es.length d0] 27) := ⟨_, rfl⟩
  have HV1 : Hid (Ext w1 V) := by rw [hV]; exact ((Ext.refl w1).alloc _).alloc _
  have HX1 : Hid (Ext w V) := (HXa.out.trans he).trans HV1.out
  have HP1 : Hid (Bx2 V w.heap.size 27 (.int .i64 n) (.slice A l c)) := (HPa.out.ext he).ext HV1.out
  have HQ1 : Hid (Bx2 V (w.heap.size + 1) 27 (.int .i64 0) (.slice none 0 0)) := (HQa.out.ext he).ext HV1.out
  have HM1 : Hid (Bx2 V w1.heap.size 27 (.int .i64 n) (.slice B0 es.length d0)) := by rw [hV]; exact (Bx2.new w1 _ _ _).ext ((Ext.refl _).alloc _)
  have HN1 : Hid (Bx2 V (w1.heap.size + 1) 27 (.int .i64 n) (.slice B0 es.length d0)) := by rw [hV]; exact Bx2.new1' _ _ _ _ _
  have HO1 : Hid (OwI V w.heap.size B0 d0 es) := (ho.lower HXa.out.size).ext HV1.out
  have hgw : w.heap.size + 1 < w1.heap.size := (HQa.out.ext he).lt
  have hz1 : (w1.alloc (.cells #[.int .i64 n, .slice B0 es.length d0] 27)).cell? ⟨w1.heap.size, 0, none⟩ = some (.int .i64 n) := (Bx2.new w1 _ _ _).cells.1
  have hz2 : (w1.alloc (.cells #[.int .i64 n, .slice B0 es.length d0] 27)).cell? ⟨w1.heap.size, 1, none⟩ = some (.slice B0 es.length d0) := (Bx2.new w1 _ _ _).cells.2.1
  have HVV := Lib.hid hV
  have hr1 : (w1.alloc (.cells #[.int .i64 n, .slice B0 es.length d0] 27)).cell? ⟨w.heap.size, 0, none⟩ = some (.int .i64 n) := Ext.cell ((Ext.refl w1).alloc _) (HPa.out.ext he).cells.1
  obtain ⟨r0, r1, s0, s1⟩ := HP1.out.cells
  rw [hV] at r0 r1
  clear ho he hret q0 q1 p0 p1 HPa HQa HXa C0 hV s0 s1
  go_wp2_with fail
  rw [← HVV.out]
  clear hz1 hz2 hr1 r0 r1 HVV HV1
  go_loopw [25] (fun i wr => ∃ (k : Nat) (B : Option Addr) (d : Nat) (zs : List Int), 0 ≤ k ∧ k ≤ n ∧ i = .int .i64 k ∧ Hid (zs = fmB n xs es k) ∧ Hid (Bx2 wr (w1.heap.size + 1) 27 (.int .i64 n) (.slice B zs.length d)) ∧ Hid (Bx2 wr w1.heap.size 27 (.int .i64 n) (.slice B0 es.length d0)) ∧ Hid (Bx2 wr w.heap.size 27 (.int .i64 n) (.slice A l c)) ∧ Hid (Bx2 wr (w.heap.size + 1) 27 (.int .i64 0) (.slice none 0 0)) ∧ Hid (OwI wr w.heap.size B d zs) ∧ Hid (OwI wr w.heap.size B0 d0 es) ∧ Hid (Ext w wr)) (fun i _ => n - (intOf i).toNat)
  case atStart => exact ⟨0, B0, d0, es, by omega, by omega, rfl, rfl, HN1.out, HM1.out, HP1.out, HQ1.out, HO1.out, HO1.out, HX1.out⟩
  case round =>
    clear HX1 HP1 HQ1 HN1 HO1 HM1
    obtain ⟨k, B, d, zs, hk1, hk, rfl, HZ, HN, HM, HP, HQ, HO, HS, HE⟩ := hrel
    obtain ⟨hzb, hzl⟩ : rhyB n zs = true ∧ zs.length = es.length := by rw [HZ.out]; exact fmB_ok (by omega) (by omega) HEB.out k
    rw [HEL.out] at hzl
    obtain ⟨q0, q1, p0, p1⟩ := HM.out.cells
    obtain ⟨q2, q3, p2, p3⟩ := HP.out.cells
    by_cases hlt : k < n
    · obtain ⟨ys, hys⟩ : ∃ ys, ys = rotL n es k := ⟨_, rfl⟩
      have hyb : rhyB n ys = true := by rw [hys]; exact mapF_rhy (by omega) (by omega)
      have hyl : ys.length = l := by rw [hys, rotL_len _ HEB.out, HEL.out]
      have CK := Lib.hid (CR.out k B0 d0 wr (by omega) (by omega) HS.out.rd)
      rw [← hys] at CK
      obtain ⟨x, hx⟩ : ∃ x, x = farF n xs ys := ⟨_, rfl⟩
      obtain ⟨y, hy⟩ : ∃ y, y = farF n xs zs := ⟨_, rfl⟩
      have HNX : Hid (fmB n xs es (k + 1) = if x < y then ys else zs) := by rw [fmB, ← HZ.out, ← hys, ← hx, ← hy]; exact rfl
      go_wp2_with fail
      refine CK.out.mono ?_
      intro e w2 hret
      obtain ⟨D, q, rfl, o2, e2⟩ := hret.parts
      obtain ⟨U, hU⟩ : ∃ U, U = w2.alloc (.cells #[.int .i64 n, .slice D ys.length q] 27) := ⟨_, rfl⟩
      have HX2 : Hid (Ext wr U) := by rw [hU]; exact e2.alloc _
      have HM2 : Hid (Bx2 U w2.heap.size 27 (.int .i64 n) (.slice D ys.length q)) := by rw [hU]; exact Bx2.new w2 _ _ _
      have HO2 : Hid (OwI U w.heap.size D q ys) := by rw [hU]; exact (o2.lower HE.out.size).ext ((Ext.refl _).alloc _)
      have HUU := Lib.hid hU
      have D8 : Hid (∀ W : World, Ext U W → Calls Try.prog 25 #[.agg #[.int .i64 n, .slice A l c], .agg #[.int .i64 n, .slice D ys.length q]] W fun e w' => e = .returned (.int .i64 x) ∧ Ext W w') := fun W g => by rw [hx]; exact CF.out D q ys W ((HE.out.trans HX2.out).trans g) (HO2.out.ext g).rd hyb hyl
      have D6 : Hid (∀ W : World, Ext U W → Calls Try.prog 25 #[.agg #[.int .i64 n, .slice A l c], .agg #[.int .i64 n, .slice B zs.length d]] W fun e w' => e = .returned (.int .i64 y) ∧ Ext W w') := fun W g => by rw [hy]; exact CF.out B d zs W ((HE.out.trans HX2.out).trans g) ((HO.out.ext HX2.out).ext g).rd hzb hzl
      have hs2 : wr.heap.size ≤ w2.heap.size := e2.size
      clear hret e2 o2 q0 q1 p0 p1 q2 q3 p2 p3 hU hx hy hys hyb hyl hzb hzl
      have HP2 := Lib.hid (HP.out.ext HX2.out)
      have HN2 := Lib.hid (HN.out.ext HX2.out)
      obtain ⟨q0, q1, p0, p1⟩ := HP2.out.cells
      obtain ⟨q2, q3, p2, p3⟩ := HN2.out.cells
      obtain ⟨q4, q5, p4, p5⟩ := HM2.out.cells
      go_wp2_with fail
      rw [← HUU.out]
      go_wp2_with fail
      go_region_held3 (fun V => V.cell? ⟨w.heap.size, 0, none⟩ = some (.int .i64 n) ∧ V.cell? ⟨w.heap.size, 1, none⟩ = some (.slice A l c) ∧ V.cell? ⟨w1.heap.size + 1, 0, none⟩ = some (.int .i64 n) ∧ V.cell? ⟨w1.heap.size + 1, 1, none⟩ = some (.slice B zs.length d) ∧ V.cell? ⟨w2.heap.size, 0, none⟩ = some (.int .i64 n) ∧ V.cell? ⟨w2.heap.size, 1, none⟩ = some (.slice D ys.length q))
        (first | exact ⟨q0, q1, q2, q3, q4, q5⟩ | exact ⟨Ext.cell e3 q0, Ext.cell e3 q1, Ext.cell e3 q2, Ext.cell e3 q3, Ext.cell e3 q4, Ext.cell e3 q5⟩ | exact ⟨Ext.cell e4 (Ext.cell e3 q0), Ext.cell e4 (Ext.cell e3 q1), Ext.cell e4 (Ext.cell e3 q2), Ext.cell e4 (Ext.cell e3 q3), Ext.cell e4 (Ext.cell e3 q4), Ext.cell e4 (Ext.cell e3 q5)⟩)
        (first
          | (go_at_call 25; (with_reducible refine (D8.out (World.drew U) ((Ext.refl U).drew)).mono ?_); rintro e w3 ⟨rfl, e3⟩)
          | (go_at_call 25; (with_reducible refine (D6.out w3 ((Ext.refl U).drew.trans e3)).mono ?_); rintro e w4 ⟨rfl, e4⟩))
      have X34 := ((Ext.refl U).drew.trans e3).trans e4
      have HX := Lib.hid (HX2.out.trans X34)
      have HM3 := Lib.hid (HM2.out.ext X34)
      have HO3 := Lib.hid (HO2.out.ext X34)
      have HDL : Hid (∀ ad, D = some ad → ad.block ≠ w1.heap.size + 1) := fun ad had => HN2.out.ne (by decide) HO2.out ad had
      have HSL : Hid (∀ ad, B0 = some ad → ad.block ≠ w1.heap.size + 1) := fun ad had => HN.out.ne (by decide) HS.out ad had
      have hg : w1.heap.size + 1 < wr.heap.size := HN.out.lt
      clear e3 e4 X34 q0 q1 p0 p1 q2 q3 p2 p3 q4 q5 p4 p5 HUU
      obtain ⟨q0, q1, p0, p1⟩ := (HN.out.ext HX.out).cells
      obtain ⟨q2, q3, p2, p3⟩ := HM3.out.cells
      by_cases hxy : x < y
      · have HNZ : Hid (ys = fmB n xs es (k + 1)) := by rw [HNX.out, if_pos hxy]; exact rfl
        go_wp2_with fail
        go_roundw
        case rel => exact ⟨k + 1, D, q, ys, by omega, by omega, by go_num, HNZ.out, ((HN.out.ext HX.out).set0 _).set1 _, ((HM.out.ext HX.out).far (by simp only []; omega) _).far (by simp only []; omega) _, ((HP.out.ext HX.out).far (by simp only []; omega) _).far (by simp only []; omega) _, ((HQ.out.ext HX.out).far (by simp only []; omega) _).far (by simp only []; omega) _, (HO3.out.setFar HDL.out _).setFar HDL.out _, ((HS.out.ext HX.out).setFar HSL.out _).setFar HSL.out _, ((HE.out.trans HX.out).setCell (by simp only []; omega) _).setCell (by simp only []; omega) _⟩
        case measure => simp [intOf]; omega
      · have HNZ : Hid (zs = fmB n xs es (k + 1)) := by rw [HNX.out, if_neg hxy]; exact rfl
        go_wp2_with fail
        go_roundw
        case rel => exact ⟨k + 1, B, d, zs, by omega, by omega, by go_num, HNZ.out, HN.out.ext HX.out, HM.out.ext HX.out, HP.out.ext HX.out, HQ.out.ext HX.out, HO.out.ext HX.out, HS.out.ext HX.out, HE.out.trans HX.out⟩
        case measure => simp [intOf]; omega
    · obtain rfl : k = n := by omega
      obtain ⟨y, hy⟩ : ∃ y, y = farF k xs zs := ⟨_, rfl⟩
      have D6 : Hid (∀ W : World, Ext wr W → Calls Try.prog 25 #[.agg #[.int .i64 k, .slice A l c], .agg #[.int .i64 k, .slice B zs.length d]] W fun e w' => e = .returned (.int .i64 y) ∧ Ext W w') := fun W g => by rw [hy]; exact CF.out B d zs W (HE.out.trans g) (HO.out.ext g).rd hzb hzl
      obtain ⟨q4, q5, p4, p5⟩ := HN.out.cells
      obtain ⟨q6, q7, p6, p7⟩ := HQ.out.cells
      have HY := Lib.hid hy
      clear hy hzb hzl
      have HF := Lib.hid (show fmB k xs es k = zs from HZ.out.symm)
      go_wp2_with fail
      go_region_with (go_at_call 25; refine (D6.out (World.drew wr) ((Ext.refl wr).drew)).mono ?_; rintro e w3 ⟨rfl, e3⟩; obtain ⟨r4, r5, s4, s5⟩ := (Bx2.ext (w := World.drew wr) HN.out e3).cells; obtain ⟨r6, r7, s6, s7⟩ := (Bx2.ext (w := World.drew wr) HQ.out e3).cells)
      all_goals have HX := Lib.hid ((Ext.refl wr).drew.trans e3)
      all_goals have HNE : Hid (∀ ad, B = some ad → ad.block ≠ w.heap.size + 1) := fun ad had => HQ.out.ne (by decide) HO.out ad had
      all_goals clear e3 q0 q1 p0 p1 q2 q3 p2 p3 q4 q5 p4 p5 q6 q7 p6 p7 r4 r5 s4 s5 s6 s7
      all_goals go_wp2_with fail
      all_goals (refine bodyPost_ret (v := .tuple #[.agg #[.int .i64 k, .slice B zs.length d], .int .i64 y]) (by simp [results, Try.results15, go_sem, r6, r7]) rfl ?_
                 rw [HF.out, ← HY.out]
                 exact retRI_intro rfl (((HO.out.ext HX.out).setFar HNE.out _).setFar HNE.out _) (((HE.out.trans HX.out).setCell (by simp only []; omega) _).setCell (by simp only []; omega) _))
set_option maxHeartbeats 8000000 in
theorem fmS_good (n : Nat) (A : Option Addr) (c : Nat) (xs : List Int) (w : World) (hr : RdI w A xs) (hb : rhyB n xs = true) :
    Calls Try.prog 14 #[.agg #[.int .i64 n, .slice A xs.length c]] w (RetRI w ((n : Int), fmE n xs) (farF n xs (fmE n xs))) := by
  have hn := (rhyB_iff hb).1
  have hln := rhyB_len hb
  obtain ⟨l, hll⟩ : ∃ l, l = xs.length := ⟨_, rfl⟩
  obtain ⟨es, hes⟩ : ∃ es, es = evL l n := ⟨_, rfl⟩
  have heb : rhyB n es = true := by rw [hes]; exact ev_rhy l n (by omega) (by omega) (by omega)
  have hel : es.length = l := by rw [hes]; exact evL_len l n
  have hfe : fmE n xs = fmB n xs es n := by rw [hes, hll]; unfold fmE; rw [Int.toNat_natCast]
  have CO : Hid (∀ W : World, Ext w W → Calls Try.prog 32 #[.agg #[.int .i64 n, .slice A l c]] W fun e w' => e = .returned (.bool true) ∧ Ext W w') := fun W he => by rw [hll, ← hb]; exact rhyS_any A c n xs W (hr.ext he) (by omega)
  have C0 : Hid (∀ W : World, Calls Try.prog 33 #[.int .i64 l, .int .i64 n, .int .i64 0] W (RetR W ((n : Int), es))) := fun W => by rw [hes]; exact evS_any l n W (by omega) (by omega) (by omega)
  have CR : Hid (∀ (k : Int) (B : Option Addr) (d : Nat) (W : World), -2000 ≤ k → k ≤ 2000 → RdI W B es → Calls Try.prog 34 #[.agg #[.int .i64 n, .slice B es.length d], .int .i64 1, .int .i64 k] W (RetR W ((n : Int), rotL n es k))) := fun k B d W g1 g2 g3 => by rw [← mapF_one]; exact l02Map_any n B d es 1 k W g3 heb ⟨by omega, by omega⟩ ⟨g1, g2⟩
  have CF : Hid (∀ (B : Option Addr) (d : Nat) (ys : List Int) (W : World), Ext w W → RdI W B ys → rhyB n ys = true → ys.length = l → Calls Try.prog 22 #[.agg #[.int .i64 n, .slice A l c], .agg #[.int .i64 n, .slice B ys.length d]] W fun e w' => e = .returned (.int .i64 (farF n xs ys)) ∧ Ext W w') := fun B d ys W g1 g2 g3 g4 => by rw [hll]; exact farS_any n n A B c d xs ys W (hr.ext g1) g2 hb g3 (by rw [g4, hll])
  obtain ⟨W, hW⟩ : ∃ W, W = ((w.alloc (.cells #[.int .i64 n, .slice A l c] 27)).alloc (.cells #[.int .i64 0, .slice none 0 0] 27)) := ⟨_, rfl⟩
  have HX0 : Hid (Ext w W) := by rw [hW]; exact ((Ext.refl w).alloc _).alloc _
  have HG0 : Hid (Bx2 W w.heap.size 27 (.int .i64 n) (.slice A l c)) := by rw [hW]; exact (Bx2.new w _ _ _).ext ((Ext.refl _).alloc _)
  have HG1 : Hid (Bx2 W (w.heap.size + 1) 27 (.int .i64 0) (.slice none 0 0)) := by rw [hW]; exact Bx2.new1' _ _ _ _ _
  rw [← hll, hfe]
  have HW := Lib.hid hW
  have HEB := Lib.hid heb
  have HEL := Lib.hid hel
  have HFE := Lib.hid hfe
  clear hll hr hW hb hes heb hel hfe
  go_enter Try.func14, Try.ntmps14
  go_wp2_with fail
  rw [← HW.out]
  clear HW
  obtain ⟨q0, q1, p0, p1⟩ := HG0.out.cells
  go_wp2_with fail
  refine (CO.out W HX0.out).mono ?_
  rintro e w0 ⟨rfl, e0⟩
  have HXa := Lib.hid (HX0.out.trans e0)
  have HPa := Lib.hid (HG0.out.ext e0)
  have HQa := Lib.hid (HG1.out.ext e0)
  clear e0 q0 q1 p0 p1 HG0 HG1 HX0 CO
  obtain ⟨q0, q1, p0, p1⟩ := HPa.out.cells
  go_wp2_with fail
  refine (C0.out w0).mono ?_
  intro e w1 hret
  obtain ⟨B0, d0, rfl, ho, he⟩ := hret.parts
  obtain ⟨V, hV⟩ : ∃ V, V = (w1.alloc (.cells #[.int .i64 n, .slice B0 es.length d0] 27)).alloc (.cells #[.int .i64 n, .slice B0 es.length d0] 27) := ⟨_, rfl⟩
  have HV1 : Hid (Ext w1 V) := by rw [hV]; exact ((Ext.refl w1).alloc _).alloc _
  have HX1 : Hid (Ext w V) := (HXa.out.trans he).trans HV1.out
  have HP1 : Hid (Bx2 V w.heap.size 27 (.int .i64 n) (.slice A l c)) := (HPa.out.ext he).ext HV1.out
  have HQ1 : Hid (Bx2 V (w.heap.size + 1) 27 (.int .i64 0) (.slice none 0 0)) := (HQa.out.ext he).ext HV1.out
  have HM1 : Hid (Bx2 V w1.heap.size 27 (.int .i64 n) (.slice B0 es.length d0)) := by rw [hV]; exact (Bx2.new w1 _ _ _).ext ((Ext.refl _).alloc _)
  have HN1 : Hid (Bx2 V (w1.heap.size + 1) 27 (.int .i64 n) (.slice B0 es.length d0)) := by rw [hV]; exact Bx2.new1' _ _ _ _ _
  have HO1 : Hid (OwI V w.heap.size B0 d0 es) := (ho.lower HXa.out.size).ext HV1.out
  have hgw : w.heap.size + 1 < w1.heap.size := (HQa.out.ext he).lt
  have hz1 : (w1.alloc (.cells #[.int .i64 n, .slice B0 es.length d0] 27)).cell? ⟨w1.heap.size, 0, none⟩ = some (.int .i64 n) := (Bx2.new w1 _ _ _).cells.1
  have hz2 : (w1.alloc (.cells #[.int .i64 n, .slice B0 es.length d0] 27)).cell? ⟨w1.heap.size, 1, none⟩ = some (.slice B0 es.length d0) := (Bx2.new w1 _ _ _).cells.2.1
  have HVV := Lib.hid hV
  have hr1 : (w1.alloc (.cells #[.int .i64 n, .slice B0 es.length d0] 27)).cell? ⟨w.heap.size, 0, none⟩ = some (.int .i64 n) := Ext.cell ((Ext.refl w1).alloc _) (HPa.out.ext he).cells.1
  obtain ⟨r0, r1, s0, s1⟩ := HP1.out.cells
  rw [hV] at r0 r1
  clear ho he hret q0 q1 p0 p1 HPa HQa HXa C0 hV s0 s1
  go_wp2_with fail
  rw [← HVV.out]
  clear hz1 hz2 hr1 r0 r1 HVV HV1
  go_loopw [6] (fun i wr => ∃ (k : Nat) (B : Option Addr) (d : Nat) (zs : List Int), 1 ≤ k ∧ k ≤ n ∧ i = .int .i64 k ∧ Hid (zs = fmB n xs es k) ∧ Hid (Bx2 wr (w1.heap.size + 1) 27 (.int .i64 n) (.slice B zs.length d)) ∧ Hid (Bx2 wr w1.heap.size 27 (.int .i64 n) (.slice B0 es.length d0)) ∧ Hid (Bx2 wr w.heap.size 27 (.int .i64 n) (.slice A l c)) ∧ Hid (Bx2 wr (w.heap.size + 1) 27 (.int .i64 0) (.slice none 0 0)) ∧ Hid (OwI wr w.heap.size B d zs) ∧ Hid (OwI wr w.heap.size B0 d0 es) ∧ Hid (Ext w wr)) (fun i _ => n - (intOf i).toNat)
  case atStart => exact ⟨1, B0, d0, es, by omega, by omega, rfl, (fmB_one HEB.out).symm, HN1.out, HM1.out, HP1.out, HQ1.out, HO1.out, HO1.out, HX1.out⟩
  case round =>
    clear HX1 HP1 HQ1 HN1 HO1 HM1
    obtain ⟨k, B, d, zs, hk1, hk, rfl, HZ, HN, HM, HP, HQ, HO, HS, HE⟩ := hrel
    obtain ⟨hzb, hzl⟩ : rhyB n zs = true ∧ zs.length = es.length := by rw [HZ.out]; exact fmB_ok (by omega) (by omega) HEB.out k
    rw [HEL.out] at hzl
    obtain ⟨q0, q1, p0, p1⟩ := HM.out.cells
    obtain ⟨q2, q3, p2, p3⟩ := HP.out.cells
    by_cases hlt : k < n
    · obtain ⟨ys, hys⟩ : ∃ ys, ys = rotL n es k := ⟨_, rfl⟩
      have hyb : rhyB n ys = true := by rw [hys]; exact mapF_rhy (by omega) (by omega)
      have hyl : ys.length = l := by rw [hys, rotL_len _ HEB.out, HEL.out]
      have CK := Lib.hid (CR.out k B0 d0 wr (by omega) (by omega) HS.out.rd)
      rw [← hys] at CK
      obtain ⟨x, hx⟩ : ∃ x, x = farF n xs ys := ⟨_, rfl⟩
      obtain ⟨y, hy⟩ : ∃ y, y = farF n xs zs := ⟨_, rfl⟩
      have HNX : Hid (fmB n xs es (k + 1) = if x < y then ys else zs) := by rw [fmB, ← HZ.out, ← hys, ← hx, ← hy]; exact rfl
      go_wp2_with fail
      refine CK.out.mono ?_
      intro e w2 hret
      obtain ⟨D, q, rfl, o2, e2⟩ := hret.parts
      obtain ⟨U, hU⟩ : ∃ U, U = w2.alloc (.cells #[.int .i64 n, .slice D ys.length q] 27) := ⟨_, rfl⟩
      have HX2 : Hid (Ext wr U) := by rw [hU]; exact e2.alloc _
      have HM2 : Hid (Bx2 U w2.heap.size 27 (.int .i64 n) (.slice D ys.length q)) := by rw [hU]; exact Bx2.new w2 _ _ _
      have HO2 : Hid (OwI U w.heap.size D q ys) := by rw [hU]; exact (o2.lower HE.out.size).ext ((Ext.refl _).alloc _)
      have HUU := Lib.hid hU
      have D8 : Hid (∀ W : World, Ext U W → Calls Try.prog 22 #[.agg #[.int .i64 n, .slice A l c], .agg #[.int .i64 n, .slice D ys.length q]] W fun e w' => e = .returned (.int .i64 x) ∧ Ext W w') := fun W g => by rw [hx]; exact CF.out D q ys W ((HE.out.trans HX2.out).trans g) (HO2.out.ext g).rd hyb hyl
      have D6 : Hid (∀ W : World, Ext U W → Calls Try.prog 22 #[.agg #[.int .i64 n, .slice A l c], .agg #[.int .i64 n, .slice B zs.length d]] W fun e w' => e = .returned (.int .i64 y) ∧ Ext W w') := fun W g => by rw [hy]; exact CF.out B d zs W ((HE.out.trans HX2.out).trans g) ((HO.out.ext HX2.out).ext g).rd hzb hzl
      have hs2 : wr.heap.size ≤ w2.heap.size := e2.size
      clear hret e2 o2 q0 q1 p0 p1 q2 q3 p2 p3 hU hx hy hys hyb hyl hzb hzl
      have HP2 := Lib.hid (HP.out.ext HX2.out)
      have HN2 := Lib.hid (HN.out.ext HX2.out)
      obtain ⟨q0, q1, p0, p1⟩ := HP2.out.cells
      obtain ⟨q2, q3, p2, p3⟩ := HN2.out.cells
      obtain ⟨q4, q5, p4, p5⟩ := HM2.out.cells
      go_wp2_with fail
      rw [← HUU.out]
      go_wp2_with fail
      go_region_held3 (fun V => V.cell? ⟨w.heap.size, 0, none⟩ = some (.int .i64 n) ∧ V.cell? ⟨w.heap.size, 1, none⟩ = some (.slice A l c) ∧ V.cell? ⟨w1.heap.size + 1, 0, none⟩ = some (.int .i64 n) ∧ V.cell? ⟨w1.heap.size + 1, 1, none⟩ = some (.slice B zs.length d) ∧ V.cell? ⟨w2.heap.size, 0, none⟩ = some (.int .i64 n) ∧ V.cell? ⟨w2.heap.size, 1, none⟩ = some (.slice D ys.length q))
        (first | exact ⟨q0, q1, q2, q3, q4, q5⟩ | exact ⟨Ext.cell e3 q0, Ext.cell e3 q1, Ext.cell e3 q2, Ext.cell e3 q3, Ext.cell e3 q4, Ext.cell e3 q5⟩ | exact ⟨Ext.cell e4 (Ext.cell e3 q0), Ext.cell e4 (Ext.cell e3 q1), Ext.cell e4 (Ext.cell e3 q2), Ext.cell e4 (Ext.cell e3 q3), Ext.cell e4 (Ext.cell e3 q4), Ext.cell e4 (Ext.cell e3 q5)⟩)
        (first
          | (go_at_call 22; (with_reducible refine (D8.out (World.drew U) ((Ext.refl U).drew)).mono ?_); rintro e w3 ⟨rfl, e3⟩)
          | (go_at_call 22; (with_reducible refine (D6.out w3 ((Ext.refl U).drew.trans e3)).mono ?_); rintro e w4 ⟨rfl, e4⟩))
      have X34 := ((Ext.refl U).drew.trans e3).trans e4
      have HX := Lib.hid (HX2.out.trans X34)
      have HM3 := Lib.hid (HM2.out.ext X34)
      have HO3 := Lib.hid (HO2.out.ext X34)
      have HDL : Hid (∀ ad, D = some ad → ad.block ≠ w1.heap.size + 1) := fun ad had => HN2.out.ne (by decide) HO2.out ad had
      have HSL : Hid (∀ ad, B0 = some ad → ad.block ≠ w1.heap.size + 1) := fun ad had => HN.out.ne (by decide) HS.out ad had
      have hg : w1.heap.size + 1 < wr.heap.size := HN.out.lt
      clear e3 e4 X34 q0 q1 p0 p1 q2 q3 p2 p3 q4 q5 p4 p5 HUU
      obtain ⟨q0, q1, p0, p1⟩ := (HN.out.ext HX.out).cells
      obtain ⟨q2, q3, p2, p3⟩ := HM3.out.cells
      by_cases hxy : x < y
      · have HNZ : Hid (ys = fmB n xs es (k + 1)) := by rw [HNX.out, if_pos hxy]; exact rfl
        go_wp2_with fail
        go_roundw
        case rel => exact ⟨k + 1, D, q, ys, by omega, by omega, by go_num, HNZ.out, ((HN.out.ext HX.out).set0 _).set1 _, ((HM.out.ext HX.out).far (by simp only []; omega) _).far (by simp only []; omega) _, ((HP.out.ext HX.out).far (by simp only []; omega) _).far (by simp only []; omega) _, ((HQ.out.ext HX.out).far (by simp only []; omega) _).far (by simp only []; omega) _, (HO3.out.setFar HDL.out _).setFar HDL.out _, ((HS.out.ext HX.out).setFar HSL.out _).setFar HSL.out _, ((HE.out.trans HX.out).setCell (by simp only []; omega) _).setCell (by simp only []; omega) _⟩
        case measure => simp [intOf]; omega
      · have HNZ : Hid (zs = fmB n xs es (k + 1)) := by rw [HNX.out, if_neg hxy]; exact rfl
        go_wp2_with fail
        go_roundw
        case rel => exact ⟨k + 1, B, d, zs, by omega, by omega, by go_num, HNZ.out, HN.out.ext HX.out, HM.out.ext HX.out, HP.out.ext HX.out, HQ.out.ext HX.out, HO.out.ext HX.out, HS.out.ext HX.out, HE.out.trans HX.out⟩
        case measure => simp [intOf]; omega
    · obtain rfl : k = n := by omega
      obtain ⟨y, hy⟩ : ∃ y, y = farF k xs zs := ⟨_, rfl⟩
      have D6 : Hid (∀ W : World, Ext wr W → Calls Try.prog 22 #[.agg #[.int .i64 k, .slice A l c], .agg #[.int .i64 k, .slice B zs.length d]] W fun e w' => e = .returned (.int .i64 y) ∧ Ext W w') := fun W g => by rw [hy]; exact CF.out B d zs W (HE.out.trans g) (HO.out.ext g).rd hzb hzl
      obtain ⟨q4, q5, p4, p5⟩ := HN.out.cells
      obtain ⟨q6, q7, p6, p7⟩ := HQ.out.cells
      have HY := Lib.hid hy
      clear hy hzb hzl
      have HF := Lib.hid (show fmB k xs es k = zs from HZ.out.symm)
      go_wp2_with fail
      go_region_with (go_at_call 22; refine (D6.out (World.drew wr) ((Ext.refl wr).drew)).mono ?_; rintro e w3 ⟨rfl, e3⟩; obtain ⟨r4, r5, s4, s5⟩ := (Bx2.ext (w := World.drew wr) HN.out e3).cells; obtain ⟨r6, r7, s6, s7⟩ := (Bx2.ext (w := World.drew wr) HQ.out e3).cells)
      all_goals have HX := Lib.hid ((Ext.refl wr).drew.trans e3)
      all_goals have HNE : Hid (∀ ad, B = some ad → ad.block ≠ w.heap.size + 1) := fun ad had => HQ.out.ne (by decide) HO.out ad had
      all_goals clear e3 q0 q1 p0 p1 q2 q3 p2 p3 q4 q5 p4 p5 q6 q7 p6 p7 r4 r5 s4 s5 s6 s7
      all_goals go_wp2_with fail
      all_goals (refine bodyPost_ret (v := .tuple #[.agg #[.int .i64 k, .slice B zs.length d], .int .i64 y]) (by simp [results, Try.results14, go_sem, r6, r7]) rfl ?_
                 rw [HF.out, ← HY.out]
                 exact retRI_intro rfl (((HO.out.ext HX.out).setFar HNE.out _).setFar HNE.out _) (((HE.out.trans HX.out).setCell (by simp only []; omega) _).setCell (by simp only []; omega) _))

set_option maxHeartbeats 1000000 in
theorem fmS_any (n : Int) (A : Option Addr) (c : Nat) (xs : List Int) (w : World) (hr : RdI w A xs) (hl : xs.length ≤ 1048576) :
    Calls Try.prog 14 #[.agg #[.int .i64 n, .slice A xs.length c]] w (RetRI w (fmF n xs) (fmV n xs)) := by
  by_cases hb : rhyB n xs = true
  · have hn := (rhyB_iff hb).1
    obtain ⟨N, rfl⟩ := Int.eq_ofNat_of_zero_le (show 0 ≤ n by omega)
    unfold fmF fmV
    rw [if_pos hb, if_pos hb]
    exact fmS_good N A c xs w hr hb
  · have hb : rhyB n xs = false := by simpa using hb
    unfold fmF fmV
    rw [hb, if_neg (by simp), if_neg (by simp)]
    obtain ⟨l, hll⟩ : ∃ l, l = xs.length := ⟨_, rfl⟩
    have CO : Hid (∀ W : World, Ext w W → Calls Try.prog 32 #[.agg #[.int .i64 n, .slice A l c]] W fun e w' => e = .returned (.bool false) ∧ Ext W w') := fun W he => by rw [hll, ← hb]; exact rhyS_any A c n xs W (hr.ext he) (by omega)
    obtain ⟨W, hW⟩ : ∃ W, W = ((w.alloc (.cells #[.int .i64 n, .slice A l c] 27)).alloc (.cells #[.int .i64 0, .slice none 0 0] 27)) := ⟨_, rfl⟩
    have HX0 : Hid (Ext w W) := by rw [hW]; exact ((Ext.refl w).alloc _).alloc _
    have HG0 : Hid (Bx2 W w.heap.size 27 (.int .i64 n) (.slice A l c)) := by rw [hW]; exact (Bx2.new w _ _ _).ext ((Ext.refl _).alloc _)
    have HG1 : Hid (Bx2 W (w.heap.size + 1) 27 (.int .i64 0) (.slice none 0 0)) := by rw [hW]; exact Bx2.new1' _ _ _ _ _
    rw [← hll]
    have HW := Lib.hid hW
    clear hll hr hW hb hl
    go_enter Try.func14, Try.ntmps14
    go_wp2_with fail
    rw [← HW.out]
    clear HW
    obtain ⟨q0, q1, p0, p1⟩ := HG0.out.cells
    go_wp2_with fail
    refine (CO.out W HX0.out).mono ?_
    rintro e w0 ⟨rfl, e0⟩
    have HXa := Lib.hid (HX0.out.trans e0)
    have HQa := Lib.hid (HG1.out.ext e0)
    clear e0 q0 q1 p0 p1 HG0 HG1 HX0 CO
    obtain ⟨q4, q5, p4, p5⟩ := HQa.out.cells
    go_wp2_with fail
    refine bodyPost_ret (v := .tuple #[.agg #[.int .i64 0, .slice none 0 0], .int .i64 (-1)]) (by simp [results, Try.results14, go_sem, q4, q5]) rfl ?_
    exact retRI_intro rfl (OwI.nil _ _) ((HXa.out.setCell (by simp only []; omega) _).setCell (by simp only []; omega) _)
set_option maxHeartbeats 1000000 in
theorem fmI_any (n : Int) (A : Option Addr) (c : Nat) (xs : List Int) (w : World) (hr : RdI w A xs) (hl : xs.length ≤ 1048576) :
    Calls Try.prog 15 #[.agg #[.int .i64 n, .slice A xs.length c]] w (RetRI w (fmF n xs) (fmV n xs)) := by
  by_cases hb : rhyB n xs = true
  · have hn := (rhyB_iff hb).1
    obtain ⟨N, rfl⟩ := Int.eq_ofNat_of_zero_le (show 0 ≤ n by omega)
    unfold fmF fmV
    rw [if_pos hb, if_pos hb]
    exact fmI_good N A c xs w hr hb
  · have hb : rhyB n xs = false := by simpa using hb
    unfold fmF fmV
    rw [hb, if_neg (by simp), if_neg (by simp)]
    obtain ⟨l, hll⟩ : ∃ l, l = xs.length := ⟨_, rfl⟩
    have CO : Hid (∀ W : World, Ext w W → Calls Try.prog 31 #[.agg #[.int .i64 n, .slice A l c]] W fun e w' => e = .returned (.bool false) ∧ Ext W w') := fun W he => by rw [hll, ← hb]; exact rhyI_any A c n xs W (hr.ext he) (by omega)
    obtain ⟨W, hW⟩ : ∃ W, W = ((w.alloc (.cells #[.int .i64 n, .slice A l c] 27)).alloc (.cells #[.int .i64 0, .slice none 0 0] 27)) := ⟨_, rfl⟩
    have HX0 : Hid (Ext w W) := by rw [hW]; exact ((Ext.refl w).alloc _).alloc _
    have HG0 : Hid (Bx2 W w.heap.size 27 (.int .i64 n) (.slice A l c)) := by rw [hW]; exact (Bx2.new w _ _ _).ext ((Ext.refl _).alloc _)
    have HG1 : Hid (Bx2 W (w.heap.size + 1) 27 (.int .i64 0) (.slice none 0 0)) := by rw [hW]; exact Bx2.new1' _ _ _ _ _
    rw [← hll]
    have HW := Lib.hid hW
    clear hll hr hW hb hl
    go_enter Try.func15, Try.ntmps15
    go_wp2_with fail
    rw [← HW.out]
    clear HW
    obtain ⟨q0, q1, p0, p1⟩ := HG0.out.cells
    go_wp2_with fail
    refine (CO.out W HX0.out).mono ?_
    rintro e w0 ⟨rfl, e0⟩
    have HXa := Lib.hid (HX0.out.trans e0)
    have HQa := Lib.hid (HG1.out.ext e0)
    clear e0 q0 q1 p0 p1 HG0 HG1 HX0 CO
    obtain ⟨q4, q5, p4, p5⟩ := HQa.out.cells
    go_wp2_with fail
    refine bodyPost_ret (v := .tuple #[.agg #[.int .i64 0, .slice none 0 0], .int .i64 (-1)]) (by simp [results, Try.results15, go_sem, q4, q5]) rfl ?_
    exact retRI_intro rfl (OwI.nil _ _) ((HXa.out.setCell (by simp only []; omega) _).setCell (by simp only []; omega) _)
end Go.Proofs.Ytnhppeknkeblfaa
