/- Contract of class. -/
import Derived.Test.YtphpdanohooccaaGreatDoorForm
import Derived.Test.YtphpdanohooccaaGreatDoorUnits
namespace Go.Proofs.YtphpdanohooccaaGreatDoor
open Go.RowKit

def strL (n : Nat) (xs : List Int) (u : Int) : List Int := mapF n xs (fun p => u * p)
def clF (n : Nat) (xs : List Int) (us : List Int) : List Int := us.foldl (fun b u => maxR n b (lfF n (strL n xs u))) (lfF n xs)
theorem clF_snoc (n : Nat) (xs us : List Int) (u : Int) : clF n xs (us ++ [u]) = maxR n (clF n xs us) (lfF n (strL n xs u)) := by simp [clF]
theorem foldl_rhy {n : Nat} {xs : List Int} (h1 : 1 ≤ n) (h2 : n ≤ 24) : ∀ (us b : List Int), rhyB n b = true → rhyB n (us.foldl (fun b u => maxR n b (lfF n (strL n xs u))) b) = true
  | [], _, h => h
  | _ :: us, _, h => foldl_rhy h1 h2 us _ (maxR_rhy h (lfF_rhy h1 h2))
theorem clF_rhy {n : Nat} {xs : List Int} (h1 : 1 ≤ n) (h2 : n ≤ 24) (us : List Int) : rhyB n (clF n xs us) = true := foldl_rhy h1 h2 us _ (lfF_rhy h1 h2)
theorem uL_in {n k : Nat} {x : Int} (h : x ∈ uL n k) (hn : n ≤ 24 := by omega) : 1 ≤ x ∧ x ≤ 24 := by
  unfold uL at h
  simp only [List.mem_map, List.mem_filter] at h
  obtain ⟨p, ⟨_, hp⟩, rfl⟩ := h
  unfold isU at hp
  rw [Bool.and_eq_true] at hp
  have := inB_iff.1 hp.1
  have e : Int.ofNat p = (p : Int) := rfl
  rw [e]
  omega
theorem mapF_str (n : Nat) (xs : List Int) (u : Int) : mapF n xs (fun q => u * q + 0) = strL n xs u := by
  unfold strL
  congr 1
  funext q
  omega

set_option maxHeartbeats 4000000 in
theorem clI_any (n : Nat) (A : Option Addr) (c : Nat) (xs : List Int) (w : World) (hr : RdI w A xs) (hb : rhyB n xs = true) :
    Calls Tryz.prog 44 #[.agg #[.int .i64 n, .slice A xs.length c]] w (RetR w ((n : Int), clF n xs (uL n (n + 1)))) := by
  have hn := (rhyB_iff hb).1
  obtain ⟨l, hll⟩ : ∃ l, l = xs.length := ⟨_, rfl⟩
  have C0 : Hid (∀ W : World, Ext w W → Calls Tryz.prog 40 #[.agg #[.int .i64 n, .slice A l c]] W (RetR W ((n : Int), lfF n xs))) := fun W he => by rw [hll]; exact lfI_any n A c xs W (hr.ext he) hb
  have CR : Hid (∀ (k : Int) (W : World), -30 ≤ k → k ≤ 30 → Ext w W → Calls Tryz.prog 46 #[.agg #[.int .i64 n, .slice A l c], .int .i64 k] W (RetR W ((n : Int), strL n xs k))) := fun k W h1 h2 he => by rw [hll]; exact str_any n A c xs k W (hr.ext he) hb ⟨h1, h2⟩
  obtain ⟨us, hus⟩ : ∃ us, us = uL n (n + 1) := ⟨_, rfl⟩
  have HUB : Hid (∀ x ∈ us, -30 ≤ x ∧ x ≤ 30) := fun x hx => by rw [hus] at hx; have := uL_in hx; omega
  have CU : Hid (∀ W : World, Calls Tryz.prog 19 #[.int .i64 n] W (RetI W us)) := fun W => by
    have := unI_any n W
    unfold unF at this
    rw [if_pos (inB_iff.2 hn), Int.toNat_natCast, ← hus] at this
    exact this
  obtain ⟨m, hmm⟩ : ∃ m, m = us.length := ⟨_, rfl⟩
  have HM := Lib.hid hmm
  have hm25 : m ≤ 25 := by rw [hmm, hus]; have := uL_len n (n + 1); omega
  rw [← hus]
  clear hus
  obtain ⟨W, hW⟩ : ∃ W, W = ((w.alloc (.cells #[.int .i64 n, .slice A l c] 25)).alloc (.cells #[.int .i64 0, .slice none 0 0] 25)) := ⟨_, rfl⟩
  have HX0 : Hid (Ext w W) := by rw [hW]; exact ((Ext.refl w).alloc _).alloc _
  have HG0 : Hid (Bx2 W w.heap.size 25 (.int .i64 n) (.slice A l c)) := by rw [hW]; exact (Bx2.new w _ _ _).ext ((Ext.refl _).alloc _)
  have HG1 : Hid (Bx2 W (w.heap.size + 1) 25 (.int .i64 0) (.slice none 0 0)) := by rw [hW]; exact Bx2.new1' _ _ _ _ _
  rw [← hll]
  clear hll hr
  have HW := Lib.hid hW
  have HB := Lib.hid hb
  clear hW hb
  go_enter Tryz.func44, Tryz.ntmps44
  go_wp2_with fail
  rw [← HW.out]
  clear HW
  obtain ⟨q0, q1, p0, p1⟩ := HG0.out.cells
  go_wp2_with fail
  refine (C0.out W HX0.out).mono ?_
  intro e w1 hret
  obtain ⟨B0, d0, rfl, ho, he⟩ := hret.parts
  obtain ⟨z0, hz0⟩ : ∃ z0, z0 = lfF n xs := ⟨_, rfl⟩
  rw [← hz0] at ho ⊢
  have HZ0 := Lib.hid hz0
  have HX1 : Hid (Ext w (w1.alloc (.cells #[.int .i64 n, .slice B0 z0.length d0] 25))) := (HX0.out.trans he).alloc _
  have HP1 : Hid (Bx2 (w1.alloc (.cells #[.int .i64 n, .slice B0 z0.length d0] 25)) w.heap.size 25 (.int .i64 n) (.slice A l c)) := (HG0.out.ext he).ext ((Ext.refl _).alloc _)
  have HQ1 : Hid (Bx2 (w1.alloc (.cells #[.int .i64 n, .slice B0 z0.length d0] 25)) (w.heap.size + 1) 25 (.int .i64 0) (.slice none 0 0)) := (HG1.out.ext he).ext ((Ext.refl _).alloc _)
  have HN1 := Lib.hid (Bx2.new w1 25 (.int .i64 n) (.slice B0 z0.length d0))
  have HO1 : Hid (OwI (w1.alloc (.cells #[.int .i64 n, .slice B0 z0.length d0] 25)) w.heap.size B0 d0 z0) := (ho.lower HX0.out.size).ext ((Ext.refl _).alloc _)
  have hgw : w.heap.size + 1 < w1.heap.size := (HG1.out.ext he).lt
  clear hz0 ho he hret q0 q1 p0 p1 HG0 HG1 HX0
  obtain ⟨q0, q1, p0, p1⟩ := HP1.out.cells
  go_wp2_with fail
  refine (CU.out _).mono ?_
  rintro e wu ⟨Us, du, rfl, ou, eu⟩
  rw [hmm.symm]
  have HX2 := Lib.hid (HX1.out.trans eu)
  have HP2 := Lib.hid (HP1.out.ext eu)
  have HQ2 := Lib.hid (HQ1.out.ext eu)
  have HN2 := Lib.hid (HN1.out.ext eu)
  have HO2 := Lib.hid (HO1.out.ext eu)
  have HU2 := Lib.hid (ou.lower HX1.out.size)
  clear eu ou hmm q0 q1 p0 p1 HX1 HP1 HQ1 HN1 HO1 CU
  go_wp2_with fail
  go_loopw [12] (fun i wr => ∃ (k : Nat) (B : Option Addr) (d : Nat) (zs : List Int), k ≤ m ∧ i = .int .i64 k ∧ Hid (zs = clF n xs (us.take k)) ∧ Hid (Bx2 wr w1.heap.size 25 (.int .i64 n) (.slice B zs.length d)) ∧ Hid (Bx2 wr w.heap.size 25 (.int .i64 n) (.slice A l c)) ∧ Hid (Bx2 wr (w.heap.size + 1) 25 (.int .i64 0) (.slice none 0 0)) ∧ Hid (OwI wr w.heap.size B d zs) ∧ Hid (OwI wr w.heap.size Us du us) ∧ Hid (Ext w wr)) (fun i _ => m - (intOf i).toNat)
  case atStart => exact ⟨0, B0, d0, z0, by omega, rfl, HZ0.out, HN2.out, HP2.out, HQ2.out, HO2.out, HU2.out, HX2.out⟩
  case round =>
    clear HX2 HP2 HQ2 HN2 HO2 HU2
    obtain ⟨k, B, d, zs, hk, rfl, HZ, HN, HP, HQ, HO, HU, HE⟩ := hrel
    obtain ⟨q0, q1, p0, p1⟩ := HN.out.cells
    obtain ⟨q2, q3, p2, p3⟩ := HP.out.cells
    obtain ⟨q4, q5, p4, p5⟩ := HQ.out.cells
    by_cases hlt : k < m
    · have hkx : k < us.length := by rw [← HM.out]; exact hlt
      obtain ⟨bu, ou, hA, hcu⟩ := HU.out.rd.at_ k hkx
      subst hA
      obtain ⟨x, hx⟩ : ∃ x, x = us.getD k 0 := ⟨_, rfl⟩
      have hxb := HUB.out x (by rw [hx]; exact getD_in hkx)
      rw [← hx] at hcu
      obtain ⟨ss, hss⟩ : ∃ ss, ss = strL n xs x := ⟨_, rfl⟩
      obtain ⟨ys, hys⟩ : ∃ ys, ys = lfF n ss := ⟨_, rfl⟩
      have hsb : rhyB n ss = true := by rw [hss]; exact mapF_rhy (by omega) (by omega)
      have hyb : rhyB n ys = true := by rw [hys]; exact lfF_rhy (by omega) (by omega)
      have hzb : rhyB n zs = true := by rw [HZ.out]; exact clF_rhy (by omega) (by omega) _
      have HNX : Hid (clF n xs (us.take (k + 1)) = maxR n zs ys) := by rw [take_snoc us k hkx, clF_snoc, HZ.out, hys, hss, hx]; exact rfl
      have CK := Lib.hid (CR.out x (World.drew wr) hxb.1 hxb.2 HE.out.drew)
      have CF : Hid (∀ (D : Option Addr) (q : Nat) (W : World), RdI W D ss → Calls Tryz.prog 40 #[.agg #[.int .i64 n, .slice D ss.length q]] W (RetR W ((n : Int), ys))) := fun D q W h => by rw [hys]; exact lfI_any n D q ss W h hsb
      rw [← hss] at CK
      clear hys hss hx hkx hsb
      by_cases hc : codeN n zs < codeN n ys
      · have CL : Hid (∀ (D : Option Addr) (q : Nat) (V : World), OwI wr w.heap.size B d zs → Ext wr V → RdI V D ys → Calls Tryz.prog 69 #[.agg #[.int .i64 n, .slice B zs.length d], .agg #[.int .i64 n, .slice D ys.length q]] V fun e w' => e = .returned (.agg #[.int .i64 n, .slice D ys.length q]) ∧ Ext V w') := fun D q V h1 h2 h3 => laterYes_any n B D d q zs ys V ((h1.ext h2).rd) h3 hzb hyb hc
        have HNZ : Hid (ys = clF n xs (us.take (k + 1))) := by rw [HNX.out]; unfold maxR; rw [if_pos hc]; exact rfl
        clear hc hyb hzb
        go_wp2_with fail
        go_region_with (first
            | (go_at_call 46; refine CK.out.mono ?_; intro e w2 hret; obtain ⟨D0, q0_, rfl, o0, e0⟩ := hret.parts; clear hret; obtain ⟨j0, j1, k0, k1⟩ := (Bx2.ext (w := World.drew wr) HN.out e0).cells)
            | (go_at_call 40; refine (CF.out D0 q0_ w2 o0.rd).mono ?_; intro e w2b hret; obtain ⟨D, q, rfl, o2, e2b⟩ := hret.parts; have e2 := e0.trans e2b; obtain ⟨r0, r1, s0, s1⟩ := (Bx2.ext (w := World.drew wr) HN.out e2).cells; clear hret)
            | (go_at_call 69; refine (CL.out D q w2b HO.out ((Ext.refl wr).drew.trans e2) o2.rd).mono ?_; rintro e w3 ⟨rfl, e3⟩; obtain ⟨t0, t1, v0, v1⟩ := ((Bx2.ext (w := World.drew wr) HN.out e2).ext e3).cells))
        all_goals clear hcu q0 q1 p0 p1 q2 q3 p2 p3 q4 q5 p4 p5 j0 j1 k0 k1 r0 r1 s0 s1 t0 t1 v0 v1
        all_goals have HX := Lib.hid (((Ext.refl wr).drew.trans e2).trans e3)
        all_goals have hg : w1.heap.size < wr.heap.size := HN.out.lt
        all_goals have HOW : Hid (OwI w3 w.heap.size D q ys) := (o2.lower (by have := (HE.out.drew.trans e0).size; exact this)).ext e3
        all_goals have HNE : Hid (∀ ad, D = some ad → ad.block ≠ w1.heap.size) := fun ad had => by have := (o2.lt ad had).1; have h2 := e0.size; simp at h2; omega
        all_goals have HNU : Hid (∀ ad, some (⟨bu, ou, none⟩ : Addr) = some ad → ad.block ≠ w1.heap.size) := fun ad had => HN.out.ne (by decide) HU.out ad had
        all_goals clear e0 e2b o0 e2 e3 o2
        all_goals go_wp2_with fail
        all_goals (go_roundw
                   case rel => exact ⟨k + 1, D, q, ys, by omega, by go_num, HNZ.out, ((HN.out.ext HX.out).set0 _).set1 _, ((HP.out.ext HX.out).far (by simp only []; omega) _).far (by simp only []; omega) _, ((HQ.out.ext HX.out).far (by simp only []; omega) _).far (by simp only []; omega) _, (HOW.out.setFar HNE.out _).setFar HNE.out _, ((HU.out.ext HX.out).setFar HNU.out _).setFar HNU.out _, ((HE.out.trans HX.out).setCell (by simp only []; omega) _).setCell (by simp only []; omega) _⟩
                   case measure => simp [intOf]; omega)
      · have CL : Hid (∀ (D : Option Addr) (q : Nat) (V : World), OwI wr w.heap.size B d zs → Ext wr V → RdI V D ys → Calls Tryz.prog 69 #[.agg #[.int .i64 n, .slice B zs.length d], .agg #[.int .i64 n, .slice D ys.length q]] V fun e w' => e = .returned (.agg #[.int .i64 n, .slice B zs.length d]) ∧ Ext V w') := fun D q V h1 h2 h3 => laterNo_any n B D d q zs ys V ((h1.ext h2).rd) h3 hzb hyb hc
        have HNZ : Hid (zs = clF n xs (us.take (k + 1))) := by rw [HNX.out]; unfold maxR; rw [if_neg hc]; exact rfl
        clear hc hyb hzb
        go_wp2_with fail
        go_region_with (first
            | (go_at_call 46; refine CK.out.mono ?_; intro e w2 hret; obtain ⟨D0, q0_, rfl, o0, e0⟩ := hret.parts; clear hret; obtain ⟨j0, j1, k0, k1⟩ := (Bx2.ext (w := World.drew wr) HN.out e0).cells)
            | (go_at_call 40; refine (CF.out D0 q0_ w2 o0.rd).mono ?_; intro e w2b hret; obtain ⟨D, q, rfl, o2, e2b⟩ := hret.parts; have e2 := e0.trans e2b; obtain ⟨r0, r1, s0, s1⟩ := (Bx2.ext (w := World.drew wr) HN.out e2).cells; clear hret)
            | (go_at_call 69; refine (CL.out D q w2b HO.out ((Ext.refl wr).drew.trans e2) o2.rd).mono ?_; rintro e w3 ⟨rfl, e3⟩; obtain ⟨t0, t1, v0, v1⟩ := ((Bx2.ext (w := World.drew wr) HN.out e2).ext e3).cells))
        all_goals clear hcu q0 q1 p0 p1 q2 q3 p2 p3 q4 q5 p4 p5 j0 j1 k0 k1 r0 r1 s0 s1 t0 t1 v0 v1
        all_goals have HX := Lib.hid (((Ext.refl wr).drew.trans e2).trans e3)
        all_goals have hg : w1.heap.size < wr.heap.size := HN.out.lt
        all_goals have HOW : Hid (OwI w3 w.heap.size B d zs) := HO.out.ext HX.out
        all_goals have HNE : Hid (∀ ad, B = some ad → ad.block ≠ w1.heap.size) := fun ad had => HN.out.ne (by decide) HO.out ad had
        all_goals have HNU : Hid (∀ ad, some (⟨bu, ou, none⟩ : Addr) = some ad → ad.block ≠ w1.heap.size) := fun ad had => HN.out.ne (by decide) HU.out ad had
        all_goals clear e0 e2b o0 e2 e3 o2
        all_goals go_wp2_with fail
        all_goals (go_roundw
                   case rel => exact ⟨k + 1, B, d, zs, by omega, by go_num, HNZ.out, ((HN.out.ext HX.out).set0 _).set1 _, ((HP.out.ext HX.out).far (by simp only []; omega) _).far (by simp only []; omega) _, ((HQ.out.ext HX.out).far (by simp only []; omega) _).far (by simp only []; omega) _, (HOW.out.setFar HNE.out _).setFar HNE.out _, ((HU.out.ext HX.out).setFar HNU.out _).setFar HNU.out _, ((HE.out.trans HX.out).setCell (by simp only []; omega) _).setCell (by simp only []; omega) _⟩
                   case measure => simp [intOf]; omega)
    · obtain rfl : k = m := by omega
      have hzz := HZ.out
      rw [take_all us k HM.out] at hzz
      have HZZ := Lib.hid hzz
      clear hzz
      have HNE : Hid (∀ ad, B = some ad → ad.block ≠ w.heap.size + 1) := fun ad had => HQ.out.ne (by decide) HO.out ad had
      go_wp2_with fail
      refine bodyPost_ret (v := .agg #[.int .i64 n, .slice B zs.length d]) (by simp [results, Tryz.results44, go_sem, q4, q5]) rfl ?_
      rw [← HZZ.out]
      exact retR_intro rfl ((HO.out.setFar (fun ad had => HNE.out ad had) _).setFar (fun ad had => HNE.out ad had) _) ((HE.out.setCell (by simp only []; omega) _).setCell (by simp only []; omega) _)
end Go.Proofs.YtphpdanohooccaaGreatDoor
