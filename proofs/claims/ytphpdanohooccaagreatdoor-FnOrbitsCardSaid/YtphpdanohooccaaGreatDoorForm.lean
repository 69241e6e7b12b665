/- Contracts of leastForm, LeastForm. -/
import Derived.Test.YtphpdanohooccaaGreatDoorLeast
namespace Go.Proofs.YtphpdanohooccaaGreatDoor
open Go.RowKit

/-- The mirror. -/
def mirL (n : Nat) (xs : List Int) : List Int := mapF n xs (fun p => -p)
def lfF (n : Nat) (xs : List Int) : List Int := maxR n (lrF n xs n) (lrF n (mirL n xs) n)
theorem mapF_mir (n : Nat) (xs : List Int) : mapF n xs (fun q => -1 * q + 0) = mirL n xs := by
  unfold mirL
  congr 1
  funext q
  omega
theorem lfF_rhy {n : Nat} {xs : List Int} (h1 : 1 ≤ n) (h2 : n ≤ 24) : rhyB n (lfF n xs) = true := maxR_rhy (lrF_rhy h1 h2 n) (lrF_rhy h1 h2 n)

set_option maxHeartbeats 4000000 in
theorem lfI_any (n : Nat) (A : Option Addr) (c : Nat) (xs : List Int) (w : World) (hr : RdI w A xs) (hb : rhyB n xs = true) :
    Calls Tryz.prog 40 #[.agg #[.int .i64 n, .slice A xs.length c]] w (RetR w ((n : Int), lfF n xs)) := by
  have hn := (rhyB_iff hb).1
  obtain ⟨l, hll⟩ : ∃ l, l = xs.length := ⟨_, rfl⟩
  obtain ⟨u, hu⟩ : ∃ u, u = lrF n xs n := ⟨_, rfl⟩
  obtain ⟨m, hm⟩ : ∃ m, m = mirL n xs := ⟨_, rfl⟩
  obtain ⟨v, hv⟩ : ∃ v, v = lrF n m n := ⟨_, rfl⟩
  have hub : rhyB n u = true := by rw [hu]; exact lrF_rhy (by omega) (by omega) n
  have hvb : rhyB n v = true := by rw [hv]; exact lrF_rhy (by omega) (by omega) n
  have hmb : rhyB n m = true := by rw [hm]; exact mapF_rhy (by omega) (by omega)
  have hlf : lfF n xs = maxR n u v := by rw [hu, hv, hm]; rfl
  have C1 : Hid (∀ W : World, Ext w W → Calls Tryz.prog 41 #[.agg #[.int .i64 n, .slice A l c]] W (RetR W ((n : Int), u))) := fun W he => by rw [hll, hu]; exact lrI_any n A c xs W (hr.ext he) hb
  have C2 : Hid (∀ W : World, Ext w W → Calls Tryz.prog 31 #[.agg #[.int .i64 n, .slice A l c]] W (RetR W ((n : Int), m))) := fun W he => by rw [hll, hm]; exact mir_any n A c xs W (hr.ext he) hb
  have C3 : Hid (∀ (D : Option Addr) (q : Nat) (W : World), RdI W D m → Calls Tryz.prog 41 #[.agg #[.int .i64 n, .slice D m.length q]] W (RetR W ((n : Int), v))) := fun D q W h => by rw [hv]; exact lrI_any n D q m W h hmb
  obtain ⟨W, hW⟩ : ∃ W, W = ((w.alloc (.cells #[.int .i64 n, .slice A l c] 25)).alloc (.cells #[.int .i64 0, .slice none 0 0] 25)) := ⟨_, rfl⟩
  have HX0 : Hid (Ext w W) := by rw [hW]; exact ((Ext.refl w).alloc _).alloc _
  have HG0 : Hid (Bx2 W w.heap.size 25 (.int .i64 n) (.slice A l c)) := by rw [hW]; exact (Bx2.new w _ _ _).ext ((Ext.refl _).alloc _)
  have HG1 : Hid (Bx2 W (w.heap.size + 1) 25 (.int .i64 0) (.slice none 0 0)) := by rw [hW]; exact Bx2.new1' _ _ _ _ _
  rw [← hll]
  have HW := Lib.hid hW
  have HLF := Lib.hid hlf
  have HUB := Lib.hid hub
  have HVB := Lib.hid hvb
  clear hll hr hW hb hu hv hm hlf hub hvb hmb
  by_cases hc : codeN n u < codeN n v
  · have C4 : Hid (∀ (D E : Option Addr) (q p : Nat) (W : World), RdI W D u → RdI W E v → Calls Tryz.prog 69 #[.agg #[.int .i64 n, .slice D u.length q], .agg #[.int .i64 n, .slice E v.length p]] W fun e w' => e = .returned (.agg #[.int .i64 n, .slice E v.length p]) ∧ Ext W w') := fun D E q p W h1 h2 => laterYes_any n D E q p u v W h1 h2 HUB.out HVB.out hc
    have HZ : Hid (lfF n xs = v) := by rw [HLF.out]; unfold maxR; rw [if_pos hc]; exact rfl
    rw [HZ.out]
    clear hc
    go_enter Tryz.func40, Tryz.ntmps40
    go_wp2_with fail
    rw [← HW.out]
    clear HW
    obtain ⟨q0, q1, p0, p1⟩ := HG0.out.cells
    go_wp2_with fail
    go_region_with (first
      | (go_at_call 41; (with_reducible refine (C1.out (World.drew W) (HX0.out.drew)).mono ?_); intro e w1 hret; obtain ⟨D1, q1_, rfl, o1, e1⟩ := hret.parts; obtain ⟨r0, r1, s0, s1⟩ := (Bx2.ext (w := World.drew W) HG0.out e1).cells; clear hret)
      | (go_at_call 31; refine (C2.out w1 (HX0.out.drew.trans e1)).mono ?_; intro e w2 hret; obtain ⟨D2, q2_, rfl, o2, e2⟩ := hret.parts; clear hret)
      | (go_at_call 41; (with_reducible refine (C3.out D2 q2_ w2 o2.rd).mono ?_); intro e w3 hret; obtain ⟨D3, q3_, rfl, o3, e3⟩ := hret.parts; clear hret)
      | (go_at_call 69; refine (C4.out D1 D3 q1_ q3_ w3 ((o1.ext (e2.trans e3)).rd) o3.rd).mono ?_; rintro e w4 ⟨rfl, e4⟩; obtain ⟨t0, t1, v0, v1⟩ := (Bx2.ext (w := World.drew W) HG1.out (((e1.trans e2).trans e3).trans e4)).cells))
    all_goals clear q0 q1 p0 p1 r0 r1 s0 s1
    all_goals have HX := Lib.hid (HX0.out.drew.trans (((e1.trans e2).trans e3).trans e4))
    all_goals have HQ := Lib.hid (Bx2.ext (w := World.drew W) HG1.out (((e1.trans e2).trans e3).trans e4))
    all_goals have hs0 : w.heap.size ≤ W.heap.size := HX0.out.size
    all_goals have hs1 : W.heap.size ≤ w2.heap.size := by have := (e1.trans e2).size; simpa using this
    all_goals have HOW : Hid (OwI w4 w.heap.size D3 q3_ v) := (o3.lower (by omega)).ext e4
    all_goals have HNE : Hid (∀ ad, D3 = some ad → ad.block ≠ w.heap.size + 1) := fun ad had => HQ.out.ne (by decide) HOW.out ad had
    all_goals clear e1 e2 e3 e4 o1 o2 o3
    all_goals go_wp2_with fail
    all_goals (refine bodyPost_ret (v := .agg #[.int .i64 n, .slice D3 v.length q3_]) (by simp [results, Tryz.results40, go_sem, t0, t1]) rfl ?_
               exact retR_intro rfl ((HOW.out.setFar HNE.out _).setFar HNE.out _) ((HX.out.setCell (by simp only []; omega) _).setCell (by simp only []; omega) _))
  · have C4 : Hid (∀ (D E : Option Addr) (q p : Nat) (W : World), RdI W D u → RdI W E v → Calls Tryz.prog 69 #[.agg #[.int .i64 n, .slice D u.length q], .agg #[.int .i64 n, .slice E v.length p]] W fun e w' => e = .returned (.agg #[.int .i64 n, .slice D u.length q]) ∧ Ext W w') := fun D E q p W h1 h2 => laterNo_any n D E q p u v W h1 h2 HUB.out HVB.out hc
    have HZ : Hid (lfF n xs = u) := by rw [HLF.out]; unfold maxR; rw [if_neg hc]; exact rfl
    rw [HZ.out]
    clear hc
    go_enter Tryz.func40, Tryz.ntmps40
    go_wp2_with fail
    rw [← HW.out]
    clear HW
    obtain ⟨q0, q1, p0, p1⟩ := HG0.out.cells
    go_wp2_with fail
    go_region_with (first
      | (go_at_call 41; (with_reducible refine (C1.out (World.drew W) (HX0.out.drew)).mono ?_); intro e w1 hret; obtain ⟨D1, q1_, rfl, o1, e1⟩ := hret.parts; obtain ⟨r0, r1, s0, s1⟩ := (Bx2.ext (w := World.drew W) HG0.out e1).cells; clear hret)
      | (go_at_call 31; refine (C2.out w1 (HX0.out.drew.trans e1)).mono ?_; intro e w2 hret; obtain ⟨D2, q2_, rfl, o2, e2⟩ := hret.parts; clear hret)
      | (go_at_call 41; (with_reducible refine (C3.out D2 q2_ w2 o2.rd).mono ?_); intro e w3 hret; obtain ⟨D3, q3_, rfl, o3, e3⟩ := hret.parts; clear hret)
      | (go_at_call 69; refine (C4.out D1 D3 q1_ q3_ w3 ((o1.ext (e2.trans e3)).rd) o3.rd).mono ?_; rintro e w4 ⟨rfl, e4⟩; obtain ⟨t0, t1, v0, v1⟩ := (Bx2.ext (w := World.drew W) HG1.out (((e1.trans e2).trans e3).trans e4)).cells))
    all_goals clear q0 q1 p0 p1 r0 r1 s0 s1
    all_goals have HX := Lib.hid (HX0.out.drew.trans (((e1.trans e2).trans e3).trans e4))
    all_goals have HQ := Lib.hid (Bx2.ext (w := World.drew W) HG1.out (((e1.trans e2).trans e3).trans e4))
    all_goals have hs0 : w.heap.size ≤ W.heap.size := HX0.out.size
    all_goals have hs1 : W.heap.size ≤ w2.heap.size := by have := (e1.trans e2).size; simpa using this
    all_goals have HOW : Hid (OwI w4 w.heap.size D1 q1_ u) := (o1.lower (by have := HX0.out.size; simpa using this)).ext ((e2.trans e3).trans e4)
    all_goals have HNE : Hid (∀ ad, D1 = some ad → ad.block ≠ w.heap.size + 1) := fun ad had => HQ.out.ne (by decide) HOW.out ad had
    all_goals clear e1 e2 e3 e4 o1 o2 o3
    all_goals go_wp2_with fail
    all_goals (refine bodyPost_ret (v := .agg #[.int .i64 n, .slice D1 u.length q1_]) (by simp [results, Tryz.results40, go_sem, t0, t1]) rfl ?_
               exact retR_intro rfl ((HOW.out.setFar HNE.out _).setFar HNE.out _) ((HX.out.setCell (by simp only []; omega) _).setCell (by simp only []; omega) _))
end Go.Proofs.YtphpdanohooccaaGreatDoor

/- Contract of LeastForm. -/
namespace Go.Proofs.YtphpdanohooccaaGreatDoor
open Go.RowKit

end Go.Proofs.YtphpdanohooccaaGreatDoor
