/- Contracts of leastRotation, l04Least. -/
import Derived.Test.YtphpdanohooccaaGreatDoorLater
namespace Go.Proofs.YtphpdanohooccaaGreatDoor
open Go.RowKit

def rotL (n : Nat) (xs : List Int) (k : Int) : List Int := mapF n xs (fun p => p + k)
/-- The latest of the first k rotations. -/
def lrF (n : Nat) (xs : List Int) : Nat → List Int
  | 0 => rotL n xs 0
  | k + 1 => maxR n (lrF n xs k) (rotL n xs k)
theorem maxR_self (n : Nat) (xs : List Int) : maxR n xs xs = xs := by unfold maxR; rw [if_neg (by omega)]
theorem lrF_one (n : Nat) (xs : List Int) : lrF n xs 1 = rotL n xs 0 := by rw [lrF]; exact maxR_self _ _
theorem mapF_rhy {n : Nat} {xs : List Int} {f : Int → Int} (h1 : 1 ≤ n) (h2 : n ≤ 24) : rhyB n (mapF n xs f) = true := rhyB_setL n _ h1 h2
theorem maxR_rhy {n : Nat} {xs ys : List Int} (h : rhyB n xs = true) (h2 : rhyB n ys = true) : rhyB n (maxR n xs ys) = true := by unfold maxR; split <;> assumption
theorem lrF_rhy {n : Nat} {xs : List Int} (h1 : 1 ≤ n) (h2 : n ≤ 24) : ∀ k, rhyB n (lrF n xs k) = true
  | 0 => mapF_rhy h1 h2
  | k + 1 => maxR_rhy (lrF_rhy h1 h2 k) (mapF_rhy h1 h2)
theorem rhy_short {n : Nat} {xs : List Int} (h : rhyB n xs = true) : xs.length ≤ 24 := by
  have := rhyB_len h
  have := (rhyB_iff h).1
  omega
theorem mapF_one (n : Nat) (xs : List Int) (k : Int) : mapF n xs (fun q => 1 * q + k) = rotL n xs k := by
  unfold rotL
  congr 1
  funext q
  omega

set_option maxHeartbeats 4000000 in
theorem lrI_any (n : Nat) (A : Option Addr) (c : Nat) (xs : List Int) (w : World) (hr : RdI w A xs) (hb : rhyB n xs = true) :
    Calls Tryz.prog 41 #[.agg #[.int .i64 n, .slice A xs.length c]] w (RetR w ((n : Int), lrF n xs n)) := by
  have hn := (rhyB_iff hb).1
  obtain ⟨l, hll⟩ : ∃ l, l = xs.length := ⟨_, rfl⟩
  have CR : Hid (∀ (k : Int) (W : World), -2000 ≤ k → k ≤ 2000 → Ext w W → Calls Tryz.prog 30 #[.agg #[.int .i64 n, .slice A l c], .int .i64 k] W (RetR W ((n : Int), rotL n xs k))) := fun k W h1 h2 he => by rw [hll]; exact rot_any n A c xs k W (hr.ext he) hb ⟨h1, h2⟩
  obtain ⟨W, hW⟩ : ∃ W, W = ((w.alloc (.cells #[.int .i64 n, .slice A l c] 25)).alloc (.cells #[.int .i64 0, .slice none 0 0] 25)) := ⟨_, rfl⟩
  have HX0 : Hid (Ext w W) := by rw [hW]; exact ((Ext.refl w).alloc _).alloc _
  have HG0 : Hid (Bx2 W w.heap.size 25 (.int .i64 n) (.slice A l c)) := by rw [hW]; exact (Bx2.new w _ _ _).ext ((Ext.refl _).alloc _)
  have HG1 : Hid (Bx2 W (w.heap.size + 1) 25 (.int .i64 0) (.slice none 0 0)) := by rw [hW]; exact Bx2.new1' _ _ _ _ _
  rw [← hll]
  clear hll hr
  have HW := Lib.hid hW
  have HB := Lib.hid hb
  clear hW hb
  go_enter Tryz.func41, Tryz.ntmps41
  go_wp2_with fail
  rw [← HW.out]
  clear HW
  obtain ⟨q0, q1, p0, p1⟩ := HG0.out.cells
  go_wp2_with fail
  refine (CR.out 0 W (by omega) (by omega) HX0.out).mono ?_
  intro e w1 hret
  obtain ⟨B0, d0, rfl, ho, he⟩ := hret.parts
  obtain ⟨z0, hz0⟩ : ∃ z0, z0 = rotL n xs 0 := ⟨_, rfl⟩
  rw [← hz0] at ho ⊢
  have HZ0 := Lib.hid hz0
  have HX1 : Hid (Ext w (w1.alloc (.cells #[.int .i64 n, .slice B0 z0.length d0] 25))) := (HX0.out.trans he).alloc _
  have HP1 : Hid (Bx2 (w1.alloc (.cells #[.int .i64 n, .slice B0 z0.length d0] 25)) w.heap.size 25 (.int .i64 n) (.slice A l c)) := (HG0.out.ext he).ext ((Ext.refl _).alloc _)
  have HQ1 : Hid (Bx2 (w1.alloc (.cells #[.int .i64 n, .slice B0 z0.length d0] 25)) (w.heap.size + 1) 25 (.int .i64 0) (.slice none 0 0)) := (HG1.out.ext he).ext ((Ext.refl _).alloc _)
  have HN1 := Lib.hid (Bx2.new w1 25 (.int .i64 n) (.slice B0 z0.length d0))
  have HO1 : Hid (OwI (w1.alloc (.cells #[.int .i64 n, .slice B0 z0.length d0] 25)) w.heap.size B0 d0 z0) := (ho.lower HX0.out.size).ext ((Ext.refl _).alloc _)
  have hgw : w.heap.size + 1 < w1.heap.size := (HG1.out.ext he).lt
  clear hz0 ho he hret q0 q1 p0 p1 HG0 HG1 HX0
  obtain ⟨q0, q1, p0, p1⟩ := HP1.out.cells
  go_wp2_with fail
  clear q0 q1 p0 p1
  go_loopw [9] (fun i wr => ∃ (k : Nat) (B : Option Addr) (d : Nat) (zs : List Int), k ≤ n ∧ i = .int .i64 k ∧ Hid (zs = lrF n xs k) ∧ Hid (Bx2 wr w1.heap.size 25 (.int .i64 n) (.slice B zs.length d)) ∧ Hid (Bx2 wr w.heap.size 25 (.int .i64 n) (.slice A l c)) ∧ Hid (Bx2 wr (w.heap.size + 1) 25 (.int .i64 0) (.slice none 0 0)) ∧ Hid (OwI wr w.heap.size B d zs) ∧ Hid (Ext w wr)) (fun i _ => n - (intOf i).toNat)
  case atStart => exact ⟨0, B0, d0, z0, by omega, rfl, HZ0.out, HN1.out, HP1.out, HQ1.out, HO1.out, HX1.out⟩
  case round =>
    clear HX1 HP1 HQ1 HN1 HO1
    obtain ⟨k, B, d, zs, hk, rfl, HZ, HN, HP, HQ, HO, HE⟩ := hrel
    obtain ⟨q0, q1, p0, p1⟩ := HN.out.cells
    obtain ⟨q2, q3, p2, p3⟩ := HP.out.cells
    obtain ⟨q4, q5, p4, p5⟩ := HQ.out.cells
    by_cases hlt : k < n
    · obtain ⟨ys, hys⟩ : ∃ ys, ys = rotL n xs k := ⟨_, rfl⟩
      have hyb : rhyB n ys = true := by rw [hys]; exact mapF_rhy (by omega) (by omega)
      have hzb : rhyB n zs = true := by rw [HZ.out]; exact lrF_rhy (by omega) (by omega) k
      have HNX : Hid (lrF n xs (k + 1) = maxR n zs ys) := by rw [lrF, HZ.out, hys]; exact rfl
      have CK := Lib.hid (CR.out k (World.drew wr) (by omega) (by omega) HE.out.drew)
      rw [← hys] at CK
      clear hys
      by_cases hc : codeN n zs < codeN n ys
      · have CL : Hid (∀ (D : Option Addr) (q : Nat) (V : World), OwI wr w.heap.size B d zs → Ext wr V → RdI V D ys → Calls Tryz.prog 69 #[.agg #[.int .i64 n, .slice B zs.length d], .agg #[.int .i64 n, .slice D ys.length q]] V fun e w' => e = .returned (.agg #[.int .i64 n, .slice D ys.length q]) ∧ Ext V w') := fun D q V h1 h2 h3 => laterYes_any n B D d q zs ys V ((h1.ext h2).rd) h3 hzb hyb hc
        have HNZ : Hid (ys = lrF n xs (k + 1)) := by rw [HNX.out]; unfold maxR; rw [if_pos hc]; exact rfl
        clear hc hyb hzb
        go_wp2_with fail
        go_region_with (first
            | (go_at_call 30; refine CK.out.mono ?_; intro e w2 hret; obtain ⟨D, q, rfl, o2, e2⟩ := hret.parts; obtain ⟨r0, r1, s0, s1⟩ := (Bx2.ext (w := World.drew wr) HN.out e2).cells; obtain ⟨r2, r3, s2, s3⟩ := (Bx2.ext (w := World.drew wr) HP.out e2).cells; clear hret)
            | (go_at_call 69; refine (CL.out D q w2 HO.out ((Ext.refl wr).drew.trans e2) o2.rd).mono ?_; rintro e w3 ⟨rfl, e3⟩; obtain ⟨t0, t1, v0, v1⟩ := ((Bx2.ext (w := World.drew wr) HN.out e2).ext e3).cells))
        all_goals clear q0 q1 p0 p1 q2 q3 p2 p3 q4 q5 p4 p5 r0 r1 s0 s1 r2 r3 s2 s3 t0 t1 v0 v1
        all_goals have HX := Lib.hid (((Ext.refl wr).drew.trans e2).trans e3)
        all_goals have hg : w1.heap.size < wr.heap.size := HN.out.lt
        all_goals have HOW : Hid (OwI w3 w.heap.size D q ys) := (o2.lower (by have := HE.out.size; simpa using this)).ext e3
        all_goals have HNE : Hid (∀ ad, D = some ad → ad.block ≠ w1.heap.size) := fun ad had => by have := (o2.lt ad had).1; simp at this; omega
        all_goals clear e2 e3 o2
        all_goals go_wp2_with fail
        all_goals (go_roundw
                   case rel => exact ⟨k + 1, D, q, ys, by omega, by go_num, HNZ.out, ((HN.out.ext HX.out).set0 _).set1 _, ((HP.out.ext HX.out).far (by simp only []; omega) _).far (by simp only []; omega) _, ((HQ.out.ext HX.out).far (by simp only []; omega) _).far (by simp only []; omega) _, (HOW.out.setFar HNE.out _).setFar HNE.out _, ((HE.out.trans HX.out).setCell (by simp only []; omega) _).setCell (by simp only []; omega) _⟩
                   case measure => simp [intOf]; omega)
      · have CL : Hid (∀ (D : Option Addr) (q : Nat) (V : World), OwI wr w.heap.size B d zs → Ext wr V → RdI V D ys → Calls Tryz.prog 69 #[.agg #[.int .i64 n, .slice B zs.length d], .agg #[.int .i64 n, .slice D ys.length q]] V fun e w' => e = .returned (.agg #[.int .i64 n, .slice B zs.length d]) ∧ Ext V w') := fun D q V h1 h2 h3 => laterNo_any n B D d q zs ys V ((h1.ext h2).rd) h3 hzb hyb hc
        have HNZ : Hid (zs = lrF n xs (k + 1)) := by rw [HNX.out]; unfold maxR; rw [if_neg hc]; exact rfl
        clear hc hyb hzb
        go_wp2_with fail
        go_region_with (first
            | (go_at_call 30; refine CK.out.mono ?_; intro e w2 hret; obtain ⟨D, q, rfl, o2, e2⟩ := hret.parts; obtain ⟨r0, r1, s0, s1⟩ := (Bx2.ext (w := World.drew wr) HN.out e2).cells; obtain ⟨r2, r3, s2, s3⟩ := (Bx2.ext (w := World.drew wr) HP.out e2).cells; clear hret)
            | (go_at_call 69; refine (CL.out D q w2 HO.out ((Ext.refl wr).drew.trans e2) o2.rd).mono ?_; rintro e w3 ⟨rfl, e3⟩; obtain ⟨t0, t1, v0, v1⟩ := ((Bx2.ext (w := World.drew wr) HN.out e2).ext e3).cells))
        all_goals clear q0 q1 p0 p1 q2 q3 p2 p3 q4 q5 p4 p5 r0 r1 s0 s1 r2 r3 s2 s3 t0 t1 v0 v1
        all_goals have HX := Lib.hid (((Ext.refl wr).drew.trans e2).trans e3)
        all_goals have hg : w1.heap.size < wr.heap.size := HN.out.lt
        all_goals have HOW : Hid (OwI w3 w.heap.size B d zs) := HO.out.ext HX.out
        all_goals have HNE : Hid (∀ ad, B = some ad → ad.block ≠ w1.heap.size) := fun ad had => HN.out.ne (by decide) HO.out ad had
        all_goals clear e2 e3 o2
        all_goals go_wp2_with fail
        all_goals (go_roundw
                   case rel => exact ⟨k + 1, B, d, zs, by omega, by go_num, HNZ.out, ((HN.out.ext HX.out).set0 _).set1 _, ((HP.out.ext HX.out).far (by simp only []; omega) _).far (by simp only []; omega) _, ((HQ.out.ext HX.out).far (by simp only []; omega) _).far (by simp only []; omega) _, (HOW.out.setFar HNE.out _).setFar HNE.out _, ((HE.out.trans HX.out).setCell (by simp only []; omega) _).setCell (by simp only []; omega) _⟩
                   case measure => simp [intOf]; omega)
    · obtain rfl : k = n := by omega
      have HNE : Hid (∀ ad, B = some ad → ad.block ≠ w.heap.size + 1) := fun ad had => HQ.out.ne (by decide) HO.out ad had
      go_wp2_with fail
      refine bodyPost_ret (v := .agg #[.int .i64 k, .slice B zs.length d]) (by simp [results, Tryz.results41, go_sem, q4, q5]) rfl ?_
      rw [← HZ.out]
      exact retR_intro rfl ((HO.out.setFar (fun ad had => HNE.out ad had) _).setFar (fun ad had => HNE.out ad had) _) ((HE.out.setCell (by simp only []; omega) _).setCell (by simp only []; omega) _)
end Go.Proofs.YtphpdanohooccaaGreatDoor

/- Contract of l04Least. -/
namespace Go.Proofs.YtphpdanohooccaaGreatDoor
open Go.RowKit

end Go.Proofs.YtphpdanohooccaaGreatDoor
