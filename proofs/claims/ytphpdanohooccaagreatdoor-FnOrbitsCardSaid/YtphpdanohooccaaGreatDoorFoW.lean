/- FnOrbits: the law's walk. -/
import Derived.Test.YtphpdanohooccaaGreatDoorFoV
import Derived.Test.YtphpdanohooccaaGreatDoorCur
import Derived.Deep.CutRange
import Derived.Deep.RegionHeld3
namespace Go.Proofs.YtphpdanohooccaaGreatDoor
open Go.RowKit

theorem es_at {es : List (Int × Option Addr × Nat × List Int)} {M : Nat} {L : List (List Int)} (h : es.map (fun x : Int × Option Addr × Nat × List Int => (x.1, x.2.2.2)) = rsOf M L) {j : Nat} (hj : j < es.length) : ∃ D d z, es[j] = ((M : Int), D, d, z) ∧ z = L.getD j [] := by
  have hl : es.length = L.length := by have := congrArg List.length h; simpa [rsOf] using this
  have h1 := congrArg (fun q => q[j]?) h
  simp only [rsOf, List.getElem?_map, List.getElem?_eq_getElem hj, List.getElem?_eq_getElem (show j < L.length by omega), Option.map_some, Option.some.injEq, Prod.mk.injEq] at h1
  refine ⟨es[j].2.1, es[j].2.2.1, es[j].2.2.2, ?_, ?_⟩
  · rw [← h1.1]
  · rw [h1.2]; simp [List.getD, show j < L.length by omega]
def totN (M : Nat) (L : List (List Int)) (j : Nat) : Nat := ((L.take j).map (pdF M)).sum
def frmN (M : Nat) (L : List (List Int)) (j : Nat) : Nat := ((L.take j).filter fun z => decide (lfF M z = z)).length
theorem getD_get {L : List (List Int)} {j : Nat} (h : j < L.length) : L.getD j [] = L[j] := by simp [List.getD, h]
theorem totN_succ (M : Nat) {L : List (List Int)} {j : Nat} (h : j < L.length) : totN M L (j + 1) = totN M L j + pdF M (L.getD j []) := by
  unfold totN
  rw [List.take_succ_eq_append_getElem h, List.map_append, List.sum_append, getD_get h]
  simp
theorem frmN_succ (M : Nat) {L : List (List Int)} {j : Nat} (h : j < L.length) : frmN M L (j + 1) = frmN M L j + if lfF M (L.getD j []) = L.getD j [] then 1 else 0 := by
  unfold frmN
  rw [List.take_succ_eq_append_getElem h, List.filter_append, List.length_append, getD_get h]
  congr 1
  by_cases e : lfF M L[j] = L[j] <;> simp [e]
theorem frmN_le (M : Nat) (L : List (List Int)) (j : Nat) : frmN M L j ≤ j := Nat.le_trans (List.length_filter_le _ _) (by rw [List.length_take]; omega)
theorem totN_le {M K : Nat} {L : List (List Int)} {X Y : Int} (h : NeOk M K L X Y) (hM : M ≤ 24) : ∀ {j : Nat}, j ≤ L.length → totN M L j ≤ 24 * j
  | 0, _ => by simp [totN]
  | j + 1, hj => by
    have ih := totN_le h hM (j := j) (by omega)
    have hp := (pdF_is (h.rhy j (by omega))).2.1
    rw [totN_succ M (by omega)]
    omega
theorem bn_wraps {R S P W : Nat} (hR : R ≤ 8) (hS : S ≤ 17) (hP : P ≤ 1700) (hW : W ≤ 1700) : wrap64 (R : Int) = (R : Int) ∧ wrap64 (S : Int) = (S : Int) ∧ wrap64 (P : Int) = (P : Int) ∧ wrap64 (W : Int) = (W : Int) ∧ IntKind.i64.wrap (W : Int) = (W : Int) ∧ IntKind.i64.wrap (P : Int) = (P : Int) :=
  ⟨IntWalk.wrap64_in _ (by omega), IntWalk.wrap64_in _ (by omega), IntWalk.wrap64_in _ (by omega), IntWalk.wrap64_in _ (by omega), IntWalk.i64_in _ (by omega), IntWalk.i64_in _ (by omega)⟩
theorem ne_len {m k : Nat} (h : m ≤ 8) : (neL m k).length ≤ 256 := Nat.le_trans (rfL_len _ _ _ _ _) (Nat.le_trans (Nat.pow_le_pow_right (by omega) h) (by decide))
set_option maxRecDepth 100000 in
set_option maxHeartbeats 8000000 in
theorem core_FnOrbits (w : World) (A0 : Option Addr) (c0 l0 : Nat) (hl0 : l0 ≤ 1048576)
    (CN : Hid (∀ (m : Int) (W : World), 0 ≤ m → m ≤ 1000 → Ext w W → Calls Tryz.prog 9 #[.slice A0 l0 c0, .int .i64 m] W (RetNum W)))
    (CR : Hid (Calls Tryz.prog 4 #[.slice A0 l0 c0, .int .i64 0, .int .i64 12] w (RetDrawT w))) :
    Calls Tryz.prog 3 #[.slice A0 l0 c0] w fun e w' => e = .returned (.bool true) ∧ Ext w w' := by
  go_enter Tryz.func3, Tryz.ntmps3
  try dsimp only [List.append]
  go_wp2_with fail
  refine CR.out.mono ?_
  rintro e w1 ⟨N, B, d, ys, hN, rfl, ho, hb, he⟩
  obtain ⟨ob, st, qs, hrc, hq24⟩ := rcon w1 N B d ys ho.rd hb
  obtain ⟨l, hl⟩ : ∃ l, l = ys.length := ⟨_, rfl⟩
  obtain ⟨lq, hlq⟩ : ∃ lq, lq = qs.length := ⟨_, rfl⟩
  rw [← hl] at hrc
  have RC := Lib.hid hrc
  have HL := Lib.hid hl
  have HLQ := Lib.hid hlq
  have HYB := Lib.hid hb
  have hl24 : l ≤ 24 := by rw [hl]; exact rhy_short hb
  have hnum := hrc.num
  have hob : ¬ ob < 1 := by omega
  have hpr : wrap64 (ob * st) = 2 * (N : Int) := by rw [hnum.2]; exact IntWalk.wrap64_in _ (by omega)
  have hw2n : wrap64 (2 * (N : Int)) = 2 * (N : Int) := IntWalk.wrap64_in _ (by omega)
  have hne : ((2 * (N : Int)) != (2 * (N : Int))) = false := by simp
  have E1 := Lib.hid he
  have OY := Lib.hid ho
  have g1 : w.heap.size ≤ w1.heap.size := he.size
  have HR0 := Lib.hid (Bx2.new w1 25 (.int .i64 N) (.slice B l d))
  have X0 : Hid (Ext w1 (w1.alloc (.cells #[.int .i64 N, .slice B l d] 25))) := (Ext.refl w1).alloc _
  obtain ⟨V0, hV0⟩ : ∃ V, V = w1.alloc (.cells #[.int .i64 N, .slice B l d] 25) := ⟨_, rfl⟩
  rw [← hV0] at HR0 X0
  rw [← hl]
  have hnum2 := Lib.hid hnum
  clear ho hb he hrc hl hlq hnum
  have HV0 := Lib.hid hV0
  clear hV0
  go_upto_region 4 with fail
  rw [← HV0.out]
  clear HV0
  obtain ⟨q0, q1, p0, p1⟩ := HR0.out.cells
  clear p0 p1
  go_wp2_with fail
  refine (RC.out.orb _ X0.out).mono ?_
  rintro e w2 ⟨rfl, e2⟩
  have X2 := Lib.hid (X0.out.trans e2)
  have HR2 := Lib.hid (HR0.out.ext e2)
  clear e2 q0 q1 HR0 X0
  obtain ⟨q0, q1, p0, p1⟩ := HR2.out.cells
  clear p0 p1
  go_wp2_with fail
  refine (RC.out.sta _ X2.out).mono ?_
  rintro e w3 ⟨rfl, e3⟩
  have X3 := Lib.hid (X2.out.trans e3)
  have HR3 := Lib.hid (HR2.out.ext e3)
  clear e3 q0 q1 HR2 X2
  obtain ⟨q0, q1, p0, p1⟩ := HR3.out.cells
  clear p0 p1
  go_wp2_with fail
  refine (RC.out.aw1 _ X3.out).mono ?_
  intro e w4 hret
  obtain ⟨Da, da, rfl, oa, e4⟩ := hret.parts
  rw [← HL.out]
  obtain ⟨ga, hga⟩ : ∃ g, g = w4.heap.size := ⟨_, rfl⟩
  have Y4 : Hid (Ext w4 (w4.alloc (.cells #[.int .i64 N, .slice Da l da] 25))) := (Ext.refl w4).alloc _
  have HBa4 := Lib.hid (Bx2.new w4 25 (.int .i64 N) (.slice Da l da))
  rw [← hga] at HBa4
  have RDa4 := Lib.hid (oa.rd.ext Y4.out)
  have X4 := Lib.hid ((X3.out.trans e4).trans Y4.out)
  have HR4 := Lib.hid (HR3.out.ext (e4.trans Y4.out))
  obtain ⟨V4, hV4⟩ : ∃ V, V = w4.alloc (.cells #[.int .i64 N, .slice Da l da] 25) := ⟨_, rfl⟩
  rw [← hV4] at X4 HR4 HBa4 RDa4
  have HV4 := Lib.hid hV4
  clear hret oa e4 q0 q1 HR3 X3 Y4 hV4 
  go_upto_region 8 with fail
  rw [← hga, ← HV4.out]
  clear hga HV4
  obtain ⟨q0, q1, p0, p1⟩ := HR4.out.cells
  clear p0 p1
  go_wp2_with fail
  refine (RC.out.aw2 _ X4.out).mono ?_
  intro e w5 hret
  obtain ⟨Db, db, rfl, ob, e5⟩ := hret.parts
  rw [← HL.out]
  obtain ⟨gb, hgb⟩ : ∃ g, g = w5.heap.size := ⟨_, rfl⟩
  have Y5 : Hid (Ext w5 (w5.alloc (.cells #[.int .i64 N, .slice Db l db] 25))) := (Ext.refl w5).alloc _
  have HBb5 := Lib.hid (Bx2.new w5 25 (.int .i64 N) (.slice Db l db))
  rw [← hgb] at HBb5
  have RDb5 := Lib.hid (ob.rd.ext Y5.out)
  have X5 := Lib.hid ((X4.out.trans e5).trans Y5.out)
  have HR5 := Lib.hid (HR4.out.ext (e5.trans Y5.out))
  have HBa5 := Lib.hid (HBa4.out.ext (e5.trans Y5.out))
  have RDa5 := Lib.hid (RDa4.out.ext (e5.trans Y5.out))
  obtain ⟨V5, hV5⟩ : ∃ V, V = w5.alloc (.cells #[.int .i64 N, .slice Db l db] 25) := ⟨_, rfl⟩
  rw [← hV5] at X5 HR5 HBa5 RDa5 HBb5 RDb5
  have HV5 := Lib.hid hV5
  clear hret ob e5 q0 q1 HR4 X4 Y5 hV5 HBa4 RDa4
  go_upto_region 9 with fail
  rw [← hgb, ← HV5.out]
  clear hgb HV5
  obtain ⟨q0, q1, p0, p1⟩ := HR5.out.cells
  clear p0 p1
  go_wp2_with fail
  refine (RC.out.aw3 _ X5.out).mono ?_
  intro e w6 hret
  obtain ⟨Dc, dc, rfl, oc, e6⟩ := hret.parts
  rw [← HLQ.out]
  obtain ⟨gc, hgc⟩ : ∃ g, g = w6.heap.size := ⟨_, rfl⟩
  have Y6 : Hid (Ext w6 (w6.alloc (.cells #[.int .i64 N, .slice Dc lq dc] 25))) := (Ext.refl w6).alloc _
  have HBc6 := Lib.hid (Bx2.new w6 25 (.int .i64 N) (.slice Dc lq dc))
  rw [← hgc] at HBc6
  have RDc6 := Lib.hid (oc.rd.ext Y6.out)
  have X6 := Lib.hid ((X5.out.trans e6).trans Y6.out)
  have HR6 := Lib.hid (HR5.out.ext (e6.trans Y6.out))
  have HBa6 := Lib.hid (HBa5.out.ext (e6.trans Y6.out))
  have RDa6 := Lib.hid (RDa5.out.ext (e6.trans Y6.out))
  have HBb6 := Lib.hid (HBb5.out.ext (e6.trans Y6.out))
  have RDb6 := Lib.hid (RDb5.out.ext (e6.trans Y6.out))
  obtain ⟨V6, hV6⟩ : ∃ V, V = w6.alloc (.cells #[.int .i64 N, .slice Dc lq dc] 25) := ⟨_, rfl⟩
  rw [← hV6] at X6 HR6 HBa6 RDa6 HBb6 RDb6 HBc6 RDc6
  have HV6 := Lib.hid hV6
  clear hret oc e6 q0 q1 HR5 X5 Y6 hV6 HBa5 RDa5 HBb5 RDb5
  go_upto_region 10 with fail
  rw [← hgc, ← HV6.out]
  clear hgc HV6
  obtain ⟨q0, q1, p0, p1⟩ := HR6.out.cells
  clear p0 p1
  go_wp2_with fail
  refine (RC.out.aw4 _ X6.out).mono ?_
  intro e w7 hret
  obtain ⟨Df, df, rfl, of, e7⟩ := hret.parts
  rw [← HLQ.out]
  obtain ⟨gf, hgf⟩ : ∃ g, g = w7.heap.size := ⟨_, rfl⟩
  have Y7 : Hid (Ext w7 (w7.alloc (.cells #[.int .i64 N, .slice Df lq df] 25))) := (Ext.refl w7).alloc _
  have HBf7 := Lib.hid (Bx2.new w7 25 (.int .i64 N) (.slice Df lq df))
  rw [← hgf] at HBf7
  have RDf7 := Lib.hid (of.rd.ext Y7.out)
  have X7 := Lib.hid ((X6.out.trans e7).trans Y7.out)
  have HR7 := Lib.hid (HR6.out.ext (e7.trans Y7.out))
  have HBa7 := Lib.hid (HBa6.out.ext (e7.trans Y7.out))
  have RDa7 := Lib.hid (RDa6.out.ext (e7.trans Y7.out))
  have HBb7 := Lib.hid (HBb6.out.ext (e7.trans Y7.out))
  have RDb7 := Lib.hid (RDb6.out.ext (e7.trans Y7.out))
  have HBc7 := Lib.hid (HBc6.out.ext (e7.trans Y7.out))
  have RDc7 := Lib.hid (RDc6.out.ext (e7.trans Y7.out))
  obtain ⟨V7, hV7⟩ : ∃ V, V = w7.alloc (.cells #[.int .i64 N, .slice Df lq df] 25) := ⟨_, rfl⟩
  rw [← hV7] at X7 HR7 HBa7 RDa7 HBb7 RDb7 HBc7 RDc7 HBf7 RDf7
  have HV7 := Lib.hid hV7
  clear hret of e7 q0 q1 HR6 X6 Y7 hV7 HBa6 RDa6 HBb6 RDb6 HBc6 RDc6
  go_upto_region 11 with fail
  rw [← hgf, ← HV7.out]
  clear hgf HV7
  obtain ⟨q0, q1, p0, p1⟩ := HR7.out.cells
  clear p0 p1
  go_wp2_with fail
  refine (RC.out.aw5 _ X7.out).mono ?_
  intro e w8 hret
  obtain ⟨Dz, dz, rfl, oz, e8⟩ := hret.parts
  rw [List.length_nil]
  obtain ⟨gz, hgz⟩ : ∃ g, g = w8.heap.size := ⟨_, rfl⟩
  have Y8 : Hid (Ext w8 (w8.alloc (.cells #[.int .i64 0, .slice Dz 0 dz] 25))) := (Ext.refl w8).alloc _
  have X8 := Lib.hid ((X7.out.trans e8).trans Y8.out)
  have HR8 := Lib.hid (HR7.out.ext (e8.trans Y8.out))
  have HBa8 := Lib.hid (HBa7.out.ext (e8.trans Y8.out))
  have RDa8 := Lib.hid (RDa7.out.ext (e8.trans Y8.out))
  have HBb8 := Lib.hid (HBb7.out.ext (e8.trans Y8.out))
  have RDb8 := Lib.hid (RDb7.out.ext (e8.trans Y8.out))
  have HBc8 := Lib.hid (HBc7.out.ext (e8.trans Y8.out))
  have RDc8 := Lib.hid (RDc7.out.ext (e8.trans Y8.out))
  have HBf8 := Lib.hid (HBf7.out.ext (e8.trans Y8.out))
  have RDf8 := Lib.hid (RDf7.out.ext (e8.trans Y8.out))
  obtain ⟨V8, hV8⟩ : ∃ V, V = w8.alloc (.cells #[.int .i64 0, .slice Dz 0 dz] 25) := ⟨_, rfl⟩
  rw [← hV8] at X8 HR8 HBa8 RDa8 HBb8 RDb8 HBc8 RDc8 HBf8 RDf8
  have HV8 := Lib.hid hV8
  clear hret oz e8 q0 q1 HR7 X7 Y8 hV8 HBa7 RDa7 HBb7 RDb7 HBc7 RDc7 HBf7 RDf7
  go_upto_region 12 with fail
  rw [← hgz, ← HV8.out]
  clear hgz HV8
  have hl2 : l ≤ 1048576 := by omega
  have hq2 : lq ≤ 1048576 := by have := HLQ.out; omega
  have K1 : Hid (∀ V : World, Ext V8 V → Calls Tryz.prog 8 #[.agg #[.int .i64 N, .slice Da l da], .agg #[.int .i64 N, .slice B l d]] V fun e w' => e = .returned (.bool true) ∧ Ext V w') := fun V h => by
    have := rhythms_any N Da B da d ys ys V (RDa8.out.ext h) ((OY.out.rd.ext X8.out).ext h) (by rw [← HL.out]; exact hl2) (by rw [← HL.out]; exact hl2)
    rwa [decide_eq_true (rfl : ys = ys), ← HL.out] at this
  have K2 : Hid (∀ V : World, Ext V8 V → Calls Tryz.prog 8 #[.agg #[.int .i64 N, .slice Db l db], .agg #[.int .i64 N, .slice B l d]] V fun e w' => e = .returned (.bool true) ∧ Ext V w') := fun V h => by
    have := rhythms_any N Db B db d ys ys V (RDb8.out.ext h) ((OY.out.rd.ext X8.out).ext h) (by rw [← HL.out]; exact hl2) (by rw [← HL.out]; exact hl2)
    rwa [decide_eq_true (rfl : ys = ys), ← HL.out] at this
  have K3 : Hid (∀ V : World, Ext V8 V → Calls Tryz.prog 8 #[.agg #[.int .i64 N, .slice Dc lq dc], .agg #[.int .i64 N, .slice Df lq df]] V fun e w' => e = .returned (.bool true) ∧ Ext V w') := fun V h => by
    have := rhythms_any N Dc Df dc df qs qs V (RDc8.out.ext h) (RDf8.out.ext h) (by rw [← HLQ.out]; exact hq2) (by rw [← HLQ.out]; exact hq2)
    rwa [decide_eq_true (rfl : qs = qs), ← HLQ.out] at this
  obtain ⟨q0, q1, p0, p1⟩ := HR8.out.cells
  clear p0 p1
  obtain ⟨a0, a1, p0, p1⟩ := HBa8.out.cells
  clear p0 p1
  clear RDa8 RDb8 RDc8 RDf8
  go_wp2_with fail
  refine (K1.out _ (Ext.refl _)).mono ?_
  rintro e w9 ⟨rfl, e9⟩
  have X9 := Lib.hid e9
  have HR9 := Lib.hid (HR8.out.ext e9)
  have HBb9 := Lib.hid (HBb8.out.ext e9)
  clear e9 q0 q1 a0 a1
  obtain ⟨q0, q1, p0, p1⟩ := HR9.out.cells
  clear p0 p1
  obtain ⟨b0, b1, p0, p1⟩ := HBb9.out.cells
  clear p0 p1
  go_wp2_with fail
  refine (K2.out _ X9.out).mono ?_
  rintro e w10 ⟨rfl, e10⟩
  have X10 := Lib.hid (X9.out.trans e10)
  have HBc10 := Lib.hid (HBc8.out.ext X10.out)
  have HBf10 := Lib.hid (HBf8.out.ext X10.out)
  clear e10 q0 q1 b0 b1 X9 HR9 HBb9
  obtain ⟨b0, b1, p0, p1⟩ := HBc10.out.cells
  clear p0 p1
  obtain ⟨f0, f1, p0, p1⟩ := HBf10.out.cells
  clear p0 p1
  go_wp2_with fail
  refine (K3.out _ X10.out).mono ?_
  rintro e w11 ⟨rfl, e11⟩
  have Z11 := Lib.hid ((X8.out.trans X10.out).trans e11)
  have HR11 := Lib.hid (HR8.out.ext (X10.out.trans e11))
  clear e11 b0 b1 f0 f1 X10 HBc10 HBf10 X8 HR8 HBa8 HBb8 HBc8 HBf8 K1 K2 K3
  have hobd : decide (ob < 1) = false := decide_eq_false (by omega)
  go_upto_region 14 with fail
  clear hob hobd hpr hw2n hne
  go_wp2_with fail
  refine (CN.out 30 _ (by omega) (by omega) (E1.out.trans Z11.out)).mono ?_
  rintro e w12 ⟨x1, rfl, hx1, e12⟩
  have Z12 := Lib.hid (Z11.out.trans e12)
  have HR12 := Lib.hid (HR11.out.ext e12)
  clear e12 Z11 HR11
  obtain ⟨M, hM⟩ : ∃ M, M = 1 + x1 % 8 := ⟨_, rfl⟩
  have hM8 : 1 ≤ M ∧ M ≤ 8 := by omega
  have hMe : (1 : Int) + (x1 : Int) % 8 = (M : Int) := by omega
  clear hM hx1
  go_upto_region 15 with fail
  try rw [hMe]
  clear hMe
  go_wp2_with fail
  refine (CN.out 32 _ (by omega) (by omega) (E1.out.trans Z12.out)).mono ?_
  rintro e w13 ⟨x2, rfl, hx2, e13⟩
  have Z13 := Lib.hid (Z12.out.trans e13)
  have HR13 := Lib.hid (HR12.out.ext e13)
  clear e13 Z12 HR12
  obtain ⟨K, hK⟩ : ∃ K, K = x2 % (M + 1) := ⟨_, rfl⟩
  have hKM : K ≤ M := by rw [hK]; have := Nat.mod_lt x2 (show 0 < M + 1 by omega); omega
  have hKe : (x2 : Int) % ((M : Int) + 1) = (K : Int) := by rw [hK]; exact_mod_cast rfl
  have hM1 : ¬ ((M : Int) + 1 = 0) := by omega
  clear hK hx2
  have NO := Lib.hid (ne_ok hM8.1 hM8.2 hKM)
  have HNF : Hid (noF M K = rsOf M (neL M K)) := noF_ne hM8.1 hM8.2 hKM
  have C1 := Lib.hid (fun V => noI_any (M : Int) (K : Int) V)
  have C2 := Lib.hid (fun V => nkI_any (M : Int) (K : Int) V)
  have C3 := Lib.hid (fun V => brI_any (M : Int) (K : Int) V)
  have C4 := Lib.hid (fun V => nkI_any (M : Int) ((M : Int) - (K : Int)) V)
  have C5 := Lib.hid (fun V => brI_any (M : Int) ((M : Int) - (K : Int)) V)
  obtain ⟨X, hX⟩ : ∃ X, X = nkF M K := ⟨_, rfl⟩
  obtain ⟨Y, hY⟩ : ∃ Y, Y = brF M K := ⟨_, rfl⟩
  have HL256 : Hid ((neL M K).length ≤ 256) := ne_len hM8.2
  obtain ⟨L, hL⟩ : ∃ L, L = neL M K := ⟨_, rfl⟩
  rw [← hL] at HL256
  rw [← hX, ← hY, ← hL] at NO
  rw [← hL] at HNF
  rw [← hX] at C2
  rw [← hY] at C3
  rw [NO.out.turn] at C4
  rw [NO.out.mir] at C5
  rw [HNF.out] at C1
  clear HNF hX hY hL
  go_upto_region 16 with fail
  try rw [hKe]
  clear hKe hM1
  go_wp2_with fail
  refine (C1.out _).mono ?_
  rintro e w14 ⟨A, c, es, rfl, hes, oq, iq, _, e14⟩
  have hln : es.length = L.length := by have := congrArg List.length hes; simpa [rsOf] using this
  have Z14 := Lib.hid (Z13.out.trans e14)
  have HR14 := Lib.hid (HR13.out.ext e14)
  have HES := Lib.hid hes
  have OQ := Lib.hid oq
  have IQ := Lib.hid iq
  obtain ⟨n, hn⟩ : ∃ n, n = es.length := ⟨_, rfl⟩
  have HN1 := Lib.hid hn
  have HN2 : Hid (n = L.length) := hn.trans hln
  rw [← hn]
  clear hes oq iq e14 Z13 HR13 hln hn C1
  go_wp2_with fail
  refine (C2.out _).mono ?_
  rintro e w15 ⟨rfl, e15⟩
  go_wp2_with fail
  refine (C3.out _).mono ?_
  rintro e w16 ⟨rfl, e16⟩
  have Z16 := Lib.hid ((Z14.out.trans e15).trans e16)
  have HR16 := Lib.hid (HR14.out.ext (e15.trans e16))
  have F16 := Lib.hid (e15.trans e16)
  clear e15 e16 Z14 HR14 C2 C3
  have hXn : X = (n : Int) := by rw [HN2.out]; exact NO.out.len.symm
  have hx1 := NO.out.pos
  have hyx := NO.out.le
  have hxy := NO.out.ge
  have hn256 : n ≤ 256 := by rw [HN2.out]; exact HL256.out
  subst hXn
  have k1 : ¬ (n : Int) < 1 := by omega
  have k2 : ¬ (n : Int) < Y := by omega
  have k3 : ¬ 2 * Y < (n : Int) := by omega
  have hKz : (K : Int) ≤ (M : Int) := by omega
  have k4 : wrap64 (2 * Y) = 2 * Y := IntWalk.wrap64_in _ (by omega)
  have k5 : wrap64 ((M : Int) - (K : Int)) = (M : Int) - (K : Int) := IntWalk.wrap64_in _ (by clear k4; omega)
  clear hx1 hyx hxy hKz
  go_wp2_with fail
  refine (C4.out _).mono ?_
  rintro e w17 ⟨rfl, e17⟩
  go_wp2_with fail
  refine (C5.out _).mono ?_
  rintro e w18 ⟨rfl, e18⟩
  have F18 := Lib.hid ((F16.out.trans e17).trans e18)
  have Z18 := Lib.hid ((Z16.out.trans e17).trans e18)
  have HR18 := Lib.hid (HR16.out.ext (e17.trans e18))
  have OQ18 := Lib.hid (OQ.out.ext F18.out)
  have IQ18 := Lib.hid (IQ.out.ext F18.out)
  clear e17 e18 Z16 HR16 F16 F18 C4 C5 OQ IQ
  go_upto_region 21 with fail
  clear k1 k2 k3 k4 k5
  have hMn : 1 ≤ M := hM8.1
  go_wp2_with fail
  have hMb : M ≤ 8 := hM8.2
  clear hM8
  go_loopw [22, 23, 177] (fun t f i wr => ∃ j : Nat, j ≤ n ∧ i = .int .i64 j ∧ t = .int .i64 (totN M L j : Nat) ∧ f = .int .i64 (frmN M L j : Nat) ∧ Hid (Ext w18 wr)) (fun _ _ i _ => n - (intOf i).toNat)
  case atStart => exact ⟨0, Nat.zero_le _, rfl, rfl, rfl, Ext.refl _⟩
  case round =>
    obtain ⟨j, hj, rfl, rfl, rfl, HE⟩ := hrel
    by_cases hlt : j < n
    · have hjn : j < es.length := by rw [← HN1.out]; exact hlt
      have hjL : j < L.length := by rw [← HN2.out]; exact hlt
      obtain ⟨D, dz, z, hez, hzL⟩ := es_at HES.out hjn
      obtain ⟨b0, o0, hA, hc1, hc2⟩ := (OQ18.out.ext HE.out).at_ j hjn
      have hiz := (IQ18.out.ext HE.out) es[j] (List.getElem_mem hjn)
      have hzr := NO.out.rhy j hjL
      have hzs := NO.out.least j hjL
      have hzk := NO.out.beats j hjL
      rw [← hzL] at hzr hzs hzk
      rw [hez] at hc1 hc2 hiz
      simp only [hzk] at hc2
      have hzd : RdI wr D z := hiz.rd
      have hk24 : K ≤ 24 := by rw [← hzk]; exact rhy_short hzr
      have HTS : Hid (totN M L (j + 1) = totN M L j + pdF M z) := by rw [hzL]; exact totN_succ M hjL
      have HFS : Hid (frmN M L (j + 1) = frmN M L j + if lfF M z = z then 1 else 0) := by rw [hzL]; exact frmN_succ M hjL
      have hpd : pdF M z ≤ M := (pdF_is hzr).2.1
      obtain ⟨fz, hfz⟩ : ∃ fz, fz = lfF M z := ⟨_, rfl⟩
      obtain ⟨p, hp⟩ : ∃ p, p = pdF M z := ⟨_, rfl⟩
      have hfl : fz.length ≤ 24 := by rw [hfz]; exact rhy_short (n := M) (lfF_rhy (by omega) (by omega))
      have R1 : Hid (∀ V : World, Ext wr V → Calls Tryz.prog 13 #[.agg #[.int .i64 M, .slice D K dz]] V (RetRB V ((M : Int), fz) true)) := fun V h => by
        have := lfP_any M D dz z V (hzd.ext h) hzr
        rwa [hzk, ← hfz] at this
      have R2 : Hid (∀ V : World, Ext wr V → Calls Tryz.prog 14 #[.agg #[.int .i64 M, .slice D K dz]] V fun e w' => e = .returned (.bool true) ∧ Ext V w') := fun V h => by
        have := ilI_any M D dz z V (hzd.ext h) hzr
        rwa [hzk, hzs] at this
      have R3 : Hid (∀ V : World, Ext wr V → Calls Tryz.prog 15 #[.agg #[.int .i64 M, .slice D K dz]] V fun e w' => e = .returned (.int .i64 K) ∧ Ext V w') := fun V h => by
        have := cbeI_any M D dz z V (hzd.ext h) hzr
        rwa [hzk] at this
      have R6 : Hid (∀ V : World, Ext wr V → Calls Tryz.prog 17 #[.agg #[.int .i64 M, .slice D K dz]] V (RetLen V p)) := fun V h => by
        have := rsI_any M D dz z V (hzd.ext h) hzr
        rwa [hzk, ← hp] at this
      have R7 : Hid (∀ (F : Option Addr) (q : Nat) (V : World), RdI V F fz → Ext wr V → Calls Tryz.prog 8 #[.agg #[.int .i64 M, .slice F fz.length q], .agg #[.int .i64 M, .slice D K dz]] V fun e w' => e = .returned (.bool (decide (fz = z))) ∧ Ext V w') := fun F q V h1 h => by
        have := rhythms_any M F D q dz fz z V h1 (hzd.ext h) (by omega) (by omega)
        rwa [hzk] at this
      have HFR : Hid (∀ V : World, Ext wr V → Calls Tryz.prog 16 #[.agg #[.int .i64 M, .slice D K dz]] V fun e w' => e = .returned (.string ⟨(txL M (L.getD j [])).toArray⟩) ∧ Ext V w') := fun V h => by
        have := fr_any M D dz z V (hzd.ext h) hzr
        rwa [hzk, hzL] at this
      rw [← hp] at HTS hpd
      rw [← hfz] at HFS
      have HTB : Hid (totN M L j ≤ 24 * j) := totN_le NO.out (by omega) (by rw [← HN2.out]; exact hj)
      have HFB : Hid (frmN M L j ≤ j) := frmN_le M L j
      subst hA
      have HZ0 := Lib.hid (Bx2.new wr 25 (.int .i64 M) (.slice D K dz))
      have Y0 : Hid (Ext wr (wr.alloc (.cells #[.int .i64 M, .slice D K dz] 25))) := (Ext.refl wr).alloc _
      obtain ⟨U0, hU0⟩ : ∃ U, U = wr.alloc (.cells #[.int .i64 M, .slice D K dz] 25) := ⟨_, rfl⟩
      rw [← hU0] at HZ0 Y0
      have HU0 := Lib.hid hU0
      obtain ⟨gz0, hgz0⟩ : ∃ g, g = wr.heap.size := ⟨_, rfl⟩
      rw [← hgz0] at HZ0
      have HDZ := Lib.hid hzd
      clear hU0 hez hzL hzr hzs hzk hiz hfz hp hjL hzd
      go_upto_region 26 with fail
      rw [← HU0.out, ← hgz0]
      clear HU0 hgz0 hc1 hc2
      obtain ⟨q0, q1, p0, p1⟩ := HZ0.out.cells
      clear p0 p1
      go_wp2_with fail
      refine (R1.out _ Y0.out).mono ?_
      intro e u1 hret
      obtain ⟨F, q, rfl, of, ef⟩ := hret.parts
      have HO1 := Lib.hid of
      have HZ1a := Lib.hid (HZ0.out.ext ef)
      have HZF1 := Lib.hid (Bx2.new u1 25 (.int .i64 M) (.slice F fz.length q))
      have Y1 : Hid (Ext u1 (u1.alloc (.cells #[.int .i64 M, .slice F fz.length q] 25))) := (Ext.refl u1).alloc _
      have HZ1 := Lib.hid (HZ1a.out.ext Y1.out)
      have HX1 := Lib.hid ((Y0.out.trans ef).trans Y1.out)
      have HFD := Lib.hid (HO1.out.rd.ext Y1.out)
      obtain ⟨U1, hU1⟩ : ∃ U, U = u1.alloc (.cells #[.int .i64 M, .slice F fz.length q] 25) := ⟨_, rfl⟩
      rw [← hU1] at HZF1 HZ1 HX1 HFD
      have HU1 := Lib.hid hU1
      obtain ⟨gf1, hgf1⟩ : ∃ g, g = u1.heap.size := ⟨_, rfl⟩
      rw [← hgf1] at HZF1
      obtain ⟨lf, hlf⟩ : ∃ lf, lf = fz.length := ⟨_, rfl⟩
      rw [← hlf] at HU1 HZF1 R7 ⊢
      clear hret of ef q0 q1 HZ0 HZ1a Y0 Y1 hU1 HO1 R1 hlf hfl
      go_upto_region 27 with fail
      rw [← hgf1, ← HU1.out]
      clear hgf1 HU1
      obtain ⟨q0, q1, p0, p1⟩ := HZ1.out.cells
      clear p0 p1
      have HREG : Hid (∃ U2 : World, Ext U1 U2) := ⟨U1, Ext.refl _⟩
      clear HREG
      go_cut [214] from 187 to 214 (fun s214 wx => s214 = .bool false ∧ Hid (Ext U1 wx))
      case first =>
        by_cases hj0 : j = 0
        · have hd0 : decide ((0 : Int) < (j : Int)) = false := decide_eq_false (by omega)
          have hd2 : decide (0 < j) = false := decide_eq_false (by omega)
          clear hj0
          refine wp_region_held_drew (S := fun V => V.cell? ⟨gz0, 0, none⟩ = some (.int .i64 M) ∧ V.cell? ⟨gz0, 1, none⟩ = some (.slice D K dz)) (by kernel_rfl) ?_ (fun hH0 => ?_)
          · exact ⟨q0, q1⟩
          refine wpAnyH_take (i := 0) (v := ?zv0) rfl (by kernel_rfl) (by kernel_rfl) (by kernel_rfl) (fun _ _ _ h => h) (Or.inl ⟨by rfl, ?zy0⟩) (by assumption) ?zr0
          case zy0 => (intro wq hSq; (try dsimp only at hSq); go_simp; (try with_reducible rfl))
          simp only [Act.put, List.getElem_toArray, List.getElem_cons_zero, List.setIfInBounds_toArray, List.set_cons_zero, List.set_cons_succ]
          refine wpAnyH_take (i := 1) (v := ?zv1) rfl (by kernel_rfl) (by kernel_rfl) (by kernel_rfl) (fun _ _ _ h => h) (Or.inl ⟨by rfl, ?zy1⟩) (by assumption) ?zr1
          case zy1 => (intro wq hSq; (try dsimp only at hSq); go_simp; (try with_reducible rfl))
          simp only [Act.put, List.getElem_toArray, List.getElem_cons_zero, List.getElem_cons_succ, List.setIfInBounds_toArray, List.set_cons_zero, List.set_cons_succ]
          refine wpAnyH_take (i := 2) (v := ?zv2) rfl (by kernel_rfl) (by kernel_rfl) (by kernel_rfl) (fun _ _ _ h => h) (Or.inl ⟨by rfl, ?zy2⟩) (by assumption) ?zr2
          case zy2 => (intro wq hSq; (try dsimp only at hSq); go_simp; (try with_reducible rfl))
          simp only [Act.put, List.getElem_toArray, List.getElem_cons_zero, List.getElem_cons_succ, List.setIfInBounds_toArray, List.set_cons_zero, List.set_cons_succ]
          refine wpAnyH_take (i := 3) (v := ?zv3) rfl (by kernel_rfl) (by kernel_rfl) (by kernel_rfl) (fun _ _ _ h => h) (Or.inl ⟨by rfl, ?zy3⟩) (by assumption) ?zr3
          case zy3 => (intro wq hSq; (try dsimp only at hSq); go_simp; (try with_reducible rfl))
          simp only [Act.put, List.getElem_toArray, List.getElem_cons_zero, List.getElem_cons_succ, List.setIfInBounds_toArray, List.set_cons_zero, List.set_cons_succ]
          refine wpAnyH_ready (rs := [4]) (by kernel_rfl) (by simp) ?_
          refine AllReadyH.cons rfl (fun K hK => ?_) AllReadyH.nil
          go_simp
          go_at_call 14; refine (R2.out _ HX1.out.drew).mono ?_; rintro e v1 ⟨rfl, e1⟩
          (try go_wp2_with fail)
          refine hK.out _ _ ?_ (fun hH1 => ?_)
          · exact ⟨Ext.cell e1 q0, Ext.cell e1 q1⟩
          clear hK K hH0
          refine wpAnyH_take (i := 5) (v := ?zv5) rfl (by kernel_rfl) (by kernel_rfl) (by kernel_rfl) (fun _ _ _ h => h) (Or.inl ⟨by rfl, ?zy5⟩) (by assumption) ?zr5
          case zy5 => (intro wq hSq; (try dsimp only at hSq); go_simp; (try with_reducible rfl))
          simp only [Act.put, List.getElem_toArray, List.getElem_cons_zero, List.getElem_cons_succ, List.setIfInBounds_toArray, List.set_cons_zero, List.set_cons_succ]
          refine wpAnyH_take (i := 6) (v := ?zv6) rfl (by kernel_rfl) (by kernel_rfl) (by kernel_rfl) (fun _ _ _ h => h) (Or.inl ⟨by rfl, ?zy6⟩) (by assumption) ?zr6
          case zy6 => (intro wq hSq; (try dsimp only at hSq); go_simp; (try with_reducible rfl))
          simp only [Act.put, List.getElem_toArray, List.getElem_cons_zero, List.getElem_cons_succ, List.setIfInBounds_toArray, List.set_cons_zero, List.set_cons_succ]
          refine wpAnyH_take (i := 7) (v := ?zv7) rfl (by kernel_rfl) (by kernel_rfl) (by kernel_rfl) (fun _ _ _ h => h) (Or.inl ⟨by rfl, ?zy7⟩) (by assumption) ?zr7
          case zy7 => (intro wq hSq; (try dsimp only at hSq); go_simp; (try with_reducible rfl))
          simp only [Act.put, List.getElem_toArray, List.getElem_cons_zero, List.getElem_cons_succ, List.setIfInBounds_toArray, List.set_cons_zero, List.set_cons_succ]
          refine wpAnyH_take (i := 8) (v := ?zv8) rfl (by kernel_rfl) (by kernel_rfl) (by kernel_rfl) (fun _ _ _ h => h) (Or.inl ⟨by rfl, ?zy8⟩) (by assumption) ?zr8
          case zy8 => (intro wq hSq; (try dsimp only at hSq); go_simp; (try with_reducible rfl))
          simp only [Act.put, List.getElem_toArray, List.getElem_cons_zero, List.getElem_cons_succ, List.setIfInBounds_toArray, List.set_cons_zero, List.set_cons_succ]
          refine wpAnyH_take (i := 10) (v := ?zv10) rfl (by kernel_rfl) (by kernel_rfl) (by kernel_rfl) (fun _ _ _ h => h) (Or.inl ⟨by rfl, ?zy10⟩) (by assumption) ?zr10
          case zy10 => (intro wq hSq; (try dsimp only at hSq); go_simp; (try with_reducible rfl))
          simp only [Act.put, List.getElem_toArray, List.getElem_cons_zero, List.getElem_cons_succ, List.setIfInBounds_toArray, List.set_cons_zero, List.set_cons_succ]
          refine wpAnyH_ready (rs := [9]) (by kernel_rfl) (by simp) ?_
          refine AllReadyH.cons rfl (fun K hK => ?_) AllReadyH.nil
          go_simp
          go_at_call 15; refine (R3.out v1 (HX1.out.drew.trans e1)).mono ?_; rintro e v2 ⟨rfl, e2⟩
          (try go_wp2_with fail)
          refine hK.out _ _ ?_ (fun hH2 => ?_)
          · exact ⟨Ext.cell e2 (Ext.cell e1 q0), Ext.cell e2 (Ext.cell e1 q1)⟩
          clear hK K hH1
          refine wpAnyH_take (i := 11) (v := ?zv11) rfl (by kernel_rfl) (by kernel_rfl) (by kernel_rfl) (fun _ _ _ h => h) (Or.inl ⟨by rfl, ?zy11⟩) (by assumption) ?zr11
          case zy11 => (intro wq hSq; (try dsimp only at hSq); go_simp; (try with_reducible rfl))
          simp only [Act.put, List.getElem_toArray, List.getElem_cons_zero, List.getElem_cons_succ, List.setIfInBounds_toArray, List.set_cons_zero, List.set_cons_succ]
          refine wpAnyH_take (i := 12) (v := ?zv12) rfl (by kernel_rfl) (by kernel_rfl) (by kernel_rfl) (fun _ _ _ h => h) (Or.inl ⟨by rfl, ?zy12⟩) (by assumption) ?zr12
          case zy12 => (intro wq hSq; (try dsimp only at hSq); go_simp; (try with_reducible rfl))
          simp only [Act.put, List.getElem_toArray, List.getElem_cons_zero, List.getElem_cons_succ, List.setIfInBounds_toArray, List.set_cons_zero, List.set_cons_succ]
          refine wpAnyH_take (i := 13) (v := ?zv13) rfl (by kernel_rfl) (by kernel_rfl) (by kernel_rfl) (fun _ _ _ h => h) (Or.inl ⟨by rfl, ?zy13⟩) (by assumption) ?zr13
          case zy13 => (intro wq hSq; (try dsimp only at hSq); go_simp; (try with_reducible rfl))
          simp only [Act.put, List.getElem_toArray, List.getElem_cons_zero, List.getElem_cons_succ, List.setIfInBounds_toArray, List.set_cons_zero, List.set_cons_succ]
          refine wpAnyH_take (i := 14) (v := ?zv14) rfl (by kernel_rfl) (by kernel_rfl) (by kernel_rfl) (fun _ _ _ h => h) (Or.inl ⟨by rfl, ?zy14⟩) (by assumption) ?zr14
          case zy14 => (intro wq hSq; (try dsimp only at hSq); go_simp; (try with_reducible rfl))
          simp only [Act.put, List.getElem_toArray, List.getElem_cons_zero, List.getElem_cons_succ, List.setIfInBounds_toArray, List.set_cons_zero, List.set_cons_succ]
          refine wpAnyH_take (i := 15) (v := ?zv15) rfl (by kernel_rfl) (by kernel_rfl) (by kernel_rfl) (fun _ _ _ h => h) (Or.inl ⟨by rfl, ?zy15⟩) (by assumption) ?zr15
          case zy15 => (intro wq hSq; (try dsimp only at hSq); go_simp; (try with_reducible rfl))
          simp only [Act.put, List.getElem_toArray, List.getElem_cons_zero, List.getElem_cons_succ, List.setIfInBounds_toArray, List.set_cons_zero, List.set_cons_succ]
          refine wpAnyH_take (i := 16) (v := ?zv16) rfl (by kernel_rfl) (by kernel_rfl) (by kernel_rfl) (fun _ _ _ h => h) (Or.inl ⟨by rfl, ?zy16⟩) (by assumption) ?zr16
          case zy16 => (intro wq hSq; (try dsimp only at hSq); go_simp; (try with_reducible rfl))
          simp only [Act.put, List.getElem_toArray, List.getElem_cons_zero, List.getElem_cons_succ, List.setIfInBounds_toArray, List.set_cons_zero, List.set_cons_succ]
          refine wpAnyH_take (i := 17) (v := undef) rfl (by kernel_rfl) (by kernel_rfl) (by kernel_rfl) (fun _ _ _ h => h) (Or.inr ⟨by rfl, rfl⟩) (by assumption) ?_
          simp only [Act.put, List.getElem_toArray, List.getElem_cons_zero, List.getElem_cons_succ, List.setIfInBounds_toArray, List.set_cons_zero, List.set_cons_succ]
          refine wpAnyH_take (i := 18) (v := undef) rfl (by kernel_rfl) (by kernel_rfl) (by kernel_rfl) (fun _ _ _ h => h) (Or.inr ⟨by rfl, rfl⟩) (by assumption) ?_
          simp only [Act.put, List.getElem_toArray, List.getElem_cons_zero, List.getElem_cons_succ, List.setIfInBounds_toArray, List.set_cons_zero, List.set_cons_succ]
          refine wpAnyH_take (i := 19) (v := undef) rfl (by kernel_rfl) (by kernel_rfl) (by kernel_rfl) (fun _ _ _ h => h) (Or.inr ⟨by rfl, rfl⟩) (by assumption) ?_
          simp only [Act.put, List.getElem_toArray, List.getElem_cons_zero, List.getElem_cons_succ, List.setIfInBounds_toArray, List.set_cons_zero, List.set_cons_succ]
          refine wpAnyH_take (i := 20) (v := undef) rfl (by kernel_rfl) (by kernel_rfl) (by kernel_rfl) (fun _ _ _ h => h) (Or.inr ⟨by rfl, rfl⟩) (by assumption) ?_
          simp only [Act.put, List.getElem_toArray, List.getElem_cons_zero, List.getElem_cons_succ, List.setIfInBounds_toArray, List.set_cons_zero, List.set_cons_succ]
          refine wpAnyH_take (i := 21) (v := undef) rfl (by kernel_rfl) (by kernel_rfl) (by kernel_rfl) (fun _ _ _ h => h) (Or.inr ⟨by rfl, rfl⟩) (by assumption) ?_
          simp only [Act.put, List.getElem_toArray, List.getElem_cons_zero, List.getElem_cons_succ, List.setIfInBounds_toArray, List.set_cons_zero, List.set_cons_succ]
          refine wpAnyH_take (i := 22) (v := undef) rfl (by kernel_rfl) (by kernel_rfl) (by kernel_rfl) (fun _ _ _ h => h) (Or.inr ⟨by rfl, rfl⟩) (by assumption) ?_
          simp only [Act.put, List.getElem_toArray, List.getElem_cons_zero, List.getElem_cons_succ, List.setIfInBounds_toArray, List.set_cons_zero, List.set_cons_succ]
          refine wpAnyH_take (i := 23) (v := undef) rfl (by kernel_rfl) (by kernel_rfl) (by kernel_rfl) (fun _ _ _ h => h) (Or.inr ⟨by rfl, rfl⟩) (by assumption) ?_
          simp only [Act.put, List.getElem_toArray, List.getElem_cons_zero, List.getElem_cons_succ, List.setIfInBounds_toArray, List.set_cons_zero, List.set_cons_succ]
          refine wpAnyH_take (i := 24) (v := undef) rfl (by kernel_rfl) (by kernel_rfl) (by kernel_rfl) (fun _ _ _ h => h) (Or.inr ⟨by rfl, rfl⟩) (by assumption) ?_
          simp only [Act.put, List.getElem_toArray, List.getElem_cons_zero, List.getElem_cons_succ, List.setIfInBounds_toArray, List.set_cons_zero, List.set_cons_succ]
          refine wpAnyH_take (i := 25) (v := undef) rfl (by kernel_rfl) (by kernel_rfl) (by kernel_rfl) (fun _ _ _ h => h) (Or.inr ⟨by rfl, rfl⟩) (by assumption) ?_
          simp only [Act.put, List.getElem_toArray, List.getElem_cons_zero, List.getElem_cons_succ, List.setIfInBounds_toArray, List.set_cons_zero, List.set_cons_succ]
          refine wpAnyH_take (i := 26) (v := ?zv26) rfl (by kernel_rfl) (by kernel_rfl) (by kernel_rfl) (fun _ _ _ h => h) (Or.inl ⟨by rfl, ?zy26⟩) (by assumption) ?zr26
          case zy26 => (intro wq hSq; (try dsimp only at hSq); go_simp; (try with_reducible rfl))
          simp only [Act.put, List.getElem_toArray, List.getElem_cons_zero, List.getElem_cons_succ, List.setIfInBounds_toArray, List.set_cons_zero, List.set_cons_succ]
          refine wpAnyH_take (i := 27) (v := ?zv27) rfl (by kernel_rfl) (by kernel_rfl) (by kernel_rfl) (fun _ _ _ h => h) (Or.inl ⟨by rfl, ?zy27⟩) (by assumption) ?zr27
          case zy27 => (intro wq hSq; (try dsimp only at hSq); go_simp; (try with_reducible rfl))
          simp only [Act.put, List.getElem_toArray, List.getElem_cons_zero, List.getElem_cons_succ, List.setIfInBounds_toArray, List.set_cons_zero, List.set_cons_succ]
          refine wpAnyH_done (by kernel_rfl) ?_ _
          have HE2 : Hid (Ext U1 v2) := (((Ext.refl U1).drew).trans e1).trans e2
          clear e1 e2
          go_wp2_with fail
          go_meet
          exact ⟨rfl, HE2.out⟩
        · have hd1 : (0 : Int) < (j : Int) := by omega
          have hd2 : decide ((0 : Int) < (j : Int)) = true := decide_eq_true hd1
          have hd3 : 0 < j := by omega
          have hd4 : decide (0 < j) = true := decide_eq_true hd3
          obtain ⟨J, hJ⟩ : ∃ J, j = J + 1 := ⟨j - 1, by omega⟩
          have hJn : J < es.length := by omega
          have hJL : J < L.length := by rw [← HN2.out]; omega
          have hJz : (J : Int) < (n : Int) := by omega
          have hJ0 : (0 : Int) ≤ (J : Int) := by omega
          obtain ⟨D', d', z', hez', hzL'⟩ := es_at HES.out hJn
          obtain ⟨b0', o0', hA', hc1, hc2⟩ := (OQ18.out.ext (HE.out.trans HX1.out)).at_ J hJn
          injection hA' with hA'
          injection hA' with hb0 ho0
          subst hb0 ho0
          have hiz' := (IQ18.out.ext (HE.out.trans HX1.out)) es[J] (List.getElem_mem hJn)
          have hzr' := NO.out.rhy J hJL
          have hzk' := NO.out.beats J hJL
          rw [← hzL'] at hzr' hzk'
          rw [hez'] at hc1 hc2 hiz'
          simp only [hzk'] at hc2
          have hzd' : RdI U1 D' z' := hiz'.rd
          have htx := NO.out.text J (by rw [← HN2.out]; omega)
          obtain ⟨T0, hT0⟩ : ∃ T : ByteArray, T = ⟨(txL M (L.getD J [])).toArray⟩ := ⟨_, rfl⟩
          obtain ⟨T1, hT1⟩ : ∃ T : ByteArray, T = ⟨(txL M (L.getD (J + 1) [])).toArray⟩ := ⟨_, rfl⟩
          have hle : (Op.bytesLess T0.toList T1.toList || T0.toList == T1.toList) = false := by
            rw [ByteArray.toList_eq, ByteArray.toList_eq, hT0, hT1]
            exact htx
          have R4 : Hid (∀ V : World, Ext U1 V → Calls Tryz.prog 16 #[.agg #[.int .i64 M, .slice D' K d']] V fun e w' => e = .returned (.string T0) ∧ Ext V w') := fun V h => by
            have := fr_any M D' d' z' V (hzd'.ext h) hzr'
            rwa [hzk', hzL', ← hT0] at this
          have R5 : Hid (∀ V : World, Ext wr V → Calls Tryz.prog 16 #[.agg #[.int .i64 M, .slice D K dz]] V fun e w' => e = .returned (.string T1) ∧ Ext V w') := fun V h => by
            rw [hT1, ← hJ]
            exact HFR.out V h
          have hs1 : (j : Int) - 1 = (J : Int) := by omega
          have hs2 : IntKind.i64.wrap (J : Int) = (J : Int) := IntWalk.i64_in _ (by omega)
          have hs3 : wrap64 (J : Int) = (J : Int) := IntWalk.wrap64_in _ (by clear hs2; omega)
          clear hez' hzL' hiz' hzr' hzk' hzd' htx hT0 hT1 hJ hJn hJL
          first | (go_region_held3 (fun V => (V.cell? ⟨gz0, 0, none⟩ = some (.int .i64 M) ∧ V.cell? ⟨gz0, 1, none⟩ = some (.slice D K dz)) ∧ V.cell? ⟨b0, o0 + J * 2, none⟩ = some (.int .i64 M) ∧ V.cell? ⟨b0, o0 + J * 2 + 1, none⟩ = some (.slice D' K d'))
            (first | exact ⟨⟨q0, q1⟩, hc1, hc2⟩ | exact ⟨⟨Ext.cell e1 q0, Ext.cell e1 q1⟩, Ext.cell e1 hc1, Ext.cell e1 hc2⟩ | exact ⟨⟨Ext.cell e2 (Ext.cell e1 q0), Ext.cell e2 (Ext.cell e1 q1)⟩, Ext.cell e2 (Ext.cell e1 hc1), Ext.cell e2 (Ext.cell e1 hc2)⟩ | exact ⟨⟨Ext.cell e3 (Ext.cell e2 (Ext.cell e1 q0)), Ext.cell e3 (Ext.cell e2 (Ext.cell e1 q1))⟩, Ext.cell e3 (Ext.cell e2 (Ext.cell e1 hc1)), Ext.cell e3 (Ext.cell e2 (Ext.cell e1 hc2))⟩ | exact ⟨⟨Ext.cell e4 (Ext.cell e3 (Ext.cell e2 (Ext.cell e1 q0))), Ext.cell e4 (Ext.cell e3 (Ext.cell e2 (Ext.cell e1 q1)))⟩, Ext.cell e4 (Ext.cell e3 (Ext.cell e2 (Ext.cell e1 hc1))), Ext.cell e4 (Ext.cell e3 (Ext.cell e2 (Ext.cell e1 hc2)))⟩)
            (first
              | (go_at_call 14; refine (R2.out (World.drew U1) HX1.out.drew).mono ?_; rintro e v1 ⟨rfl, e1⟩)
              | (go_at_call 15; refine (R3.out v1 (HX1.out.drew.trans e1)).mono ?_; rintro e v2 ⟨rfl, e2⟩)
              | (go_at_call 16; (with_reducible refine (R4.out v2 ((((Ext.refl U1).drew).trans e1).trans e2)).mono ?_); rintro e v3 ⟨rfl, e3⟩)
              | (go_at_call 16; (with_reducible refine (R5.out v3 (((HX1.out.drew.trans e1).trans e2).trans e3)).mono ?_); rintro e v4 ⟨rfl, e4⟩))) | fail
          have HE4 : Hid (Ext U1 v4) := (((((Ext.refl U1).drew).trans e1).trans e2).trans e3).trans e4
          clear e1 e2 e3 e4 hs2 hs3
          go_wp2_with fail
          go_meet
          exact ⟨rfl, HE4.out⟩
      case rest =>
        obtain ⟨rfl, hcut2⟩ := hcut
        clear q0 q1
        have HZ5 := Lib.hid (HZ1.out.ext hcut2.out)
        have HZF5 := Lib.hid (HZF1.out.ext hcut2.out)
        have HX5 := Lib.hid (HX1.out.trans hcut2.out)
        obtain ⟨q0, q1, p0, p1⟩ := HZ5.out.cells
        clear p0 p1
        obtain ⟨T, hT⟩ : ∃ T, T = totN M L j := ⟨_, rfl⟩
        obtain ⟨G, hG⟩ : ∃ G, G = frmN M L j := ⟨_, rfl⟩
        rw [← hT] at HTS HTB
        rw [← hG] at HFS HFB
        rw [← hT, ← hG]
        clear hT hG
        have hT1 := HTB.out
        have hG1 := HFB.out
        go_wp2_with fail
        refine (R6.out _ HX5.out).mono ?_
        rintro e v6 ⟨A6, c6, rfl, e6⟩
        have HX6 := Lib.hid (HX5.out.trans e6)
        have HZ6 := Lib.hid (HZ5.out.ext e6)
        have HZF6 := Lib.hid (HZF5.out.ext e6)
        have HFD6 := Lib.hid (HFD.out.ext (hcut2.out.trans e6))
        clear e6 q0 q1 HZ5 HZF5 HX5
        obtain ⟨q0, q1, p0, p1⟩ := HZ6.out.cells
        clear p0 p1
        obtain ⟨f0, f1, p0, p1⟩ := HZF6.out.cells
        clear p0 p1
        have hw5 : wrap64 ((T : Int) + (p : Int)) = (T : Int) + (p : Int) := IntWalk.wrap64_in _ (by omega)
        go_wp2_with fail
        refine (R7.out F q _ HFD6.out HX6.out).mono ?_
        rintro e v7 ⟨rfl, e7⟩
        have HX7 := Lib.hid (HE.out.trans (HX6.out.trans e7))
        clear e7 q0 q1 f0 f1
        by_cases hfz : fz = z
        · have hdz : decide (fz = z) = true := decide_eq_true hfz
          rw [hdz]
          have HF1 : Hid (frmN M L (j + 1) = G + 1) := by rw [HFS.out, if_pos hfz]; exact rfl
          clear hdz hfz
          go_wp2_with fail
          go_roundw
          case rel => exact ⟨j + 1, hlt, by go_num, by rw [HTS.out]; go_num, by rw [HF1.out]; go_num, HX7.out⟩
          case measure => simp [intOf]; omega
        · have hdz : decide (fz = z) = false := decide_eq_false hfz
          rw [hdz]
          have HF1 : Hid (frmN M L (j + 1) = G) := by rw [HFS.out, if_neg hfz]; exact Nat.add_zero _
          clear hdz hfz
          go_wp2_with fail
          go_roundw
          case rel => exact ⟨j + 1, hlt, by go_num, by rw [HTS.out]; go_num, by rw [HF1.out], HX7.out⟩
          case measure => simp [intOf]; omega
    · obtain rfl : j = n := by omega
      have hln : L.take j = L := List.take_of_length_le (by rw [← HN2.out]; exact Nat.le_refl _)
      have HT : Hid (totN M L j = bnF M K K) := by unfold totN; rw [hln]; exact NO.out.total
      have HF : Hid ((frmN M L j : Int) = Y) := by unfold frmN; rw [hln]; exact NO.out.forms
      obtain ⟨R, hR⟩ : ∃ R, R = M - K := ⟨_, rfl⟩
      have hRb : R ≤ 8 := by omega
      have HR20 := Lib.hid (HR18.out.ext HE.out)
      have Z20 := Lib.hid (Z18.out.trans HE.out)
      have HRR := Lib.hid hR
      rw [HT.out, HF.out]
      clear hln hR HR18 Z18 HE HT HF OQ18 IQ18 NO HES HN1 HN2
      go_wp2_with fail
      go_loopw [28, 29] (fun ch i wx => ∃ Q : Nat, 1 ≤ Q ∧ Q ≤ K + 1 ∧ i = .int .i64 Q ∧ ch = .int .i64 (bnF M K (Q - 1) : Nat) ∧ wx = wr) (fun _ i _ => K + 1 - (intOf i).toNat)
      case atStart => exact ⟨1, Nat.le_refl _, by omega, rfl, rfl, rfl⟩
      case round =>
        obtain ⟨Q, hQ1, hQ, rfl, rfl, rfl⟩ := hrel
        by_cases hlq : Q ≤ K
        · have hqz : (Q : Int) ≤ (K : Int) := by omega
          obtain ⟨S, hS⟩ : ∃ S, S = R + Q := ⟨_, rfl⟩
          obtain ⟨v, hv⟩ : ∃ v, v = bnF M K (Q - 1) := ⟨_, rfl⟩
          have hvb : v ≤ 100 := by rw [hv]; exact bn_step M (List.mem_range.2 (by omega)) K (List.mem_range.2 (by omega)) (Q - 1) (List.mem_range.2 (by omega))
          obtain ⟨P, hP⟩ : ∃ P, P = v * S := ⟨_, rfl⟩
          have hPb : P ≤ 100 * 17 := by rw [hP]; exact Nat.mul_le_mul hvb (by omega)
          have HNX : Hid (bnF M K Q = P / Q) := by
            obtain ⟨q, rfl⟩ : ∃ q, Q = q + 1 := ⟨Q - 1, by omega⟩
            rw [hP, hv, hS, HRR.out]
            exact rfl
          obtain ⟨W, hW⟩ : ∃ W, W = P / Q := ⟨_, rfl⟩
          have hWb : W ≤ 1700 := by rw [hW]; exact Nat.le_trans (Nat.div_le_self _ _) hPb
          have e3 : (v : Int) * ((M : Int) - (K : Int) + (Q : Int)) = (P : Int) := by rw [hP, show (M : Int) - (K : Int) + (Q : Int) = (S : Int) by have := HRR.out; omega]; exact (Int.natCast_mul v S).symm
          have e4 : (P : Int) / (Q : Int) = (W : Int) := by rw [hW]; exact (Int.natCast_ediv P Q).symm
          have e5 : (P : Int).tdiv (Q : Int) = (W : Int) := by rw [Int.tdiv_eq_ediv_of_nonneg (Int.natCast_nonneg _)]; exact e4
          have hQz : ¬ (Q : Int) = 0 := by omega
          rw [← hW] at HNX
          rw [← hv]
          have hPz : (P : Int) ≤ 1700 := by omega
          have hWz : (W : Int) ≤ 1700 := by omega
          clear hS hv hP hW hvb hPb hWb
          go_wp2_with fail
          go_roundw
          case rel => exact ⟨Q + 1, by omega, by omega, by go_num, by rw [Nat.add_sub_cancel, HNX.out], True.intro⟩
          case measure => simp [intOf]; omega
        · obtain rfl : Q = K + 1 := by omega
          rw [Nat.add_sub_cancel]
          obtain ⟨v, hv⟩ : ∃ v, v = bnF M K K := ⟨_, rfl⟩
          rw [← hv]
          clear hv HRR
          obtain ⟨cs, us, htc⟩ := tcon w1 N B d ys OY.out.rd HYB.out hN
          rw [← HL.out] at htc
          have TC := Lib.hid htc
          obtain ⟨lc, hlc⟩ : ∃ lc, lc = cs.length := ⟨_, rfl⟩
          obtain ⟨lu, hlu⟩ : ∃ lu, lu = us.length := ⟨_, rfl⟩
          have hlub : 1 ≤ lu ∧ lu ≤ 13 := by rw [hlu]; exact htc.some_
          have hlc24 : lc ≤ 24 := by rw [hlc]; exact htc.cls
          have HLC := Lib.hid hlc
          have HLU := Lib.hid hlu
          clear htc hlc hlu
          obtain ⟨q0, q1, p0, p1⟩ := HR20.out.cells
          clear p0 p1
          go_wp2_with fail
          refine (TC.out.sc _ Z20.out).mono ?_
          intro e y1 hret
          obtain ⟨E, qe, rfl, oe, f1⟩ := hret.parts
          rw [← HLC.out]
          obtain ⟨ge, hge⟩ : ∃ g, g = y1.heap.size := ⟨_, rfl⟩
          have Y1 : Hid (Ext y1 (y1.alloc (.cells #[.int .i64 N, .slice E lc qe] 25))) := (Ext.refl y1).alloc _
          have HBe1 := Lib.hid (Bx2.new y1 25 (.int .i64 N) (.slice E lc qe))
          rw [← hge] at HBe1
          have RDe1 := Lib.hid (oe.rd.ext Y1.out)
          have Z21 := Lib.hid ((Z20.out.trans f1).trans Y1.out)
          have HR21 := Lib.hid (HR20.out.ext (f1.trans Y1.out))
          obtain ⟨V1, hV1⟩ : ∃ V, V = y1.alloc (.cells #[.int .i64 N, .slice E lc qe] 25) := ⟨_, rfl⟩
          rw [← hV1] at Z21 HR21 HBe1 RDe1
          have HV1 := Lib.hid hV1
          clear hret oe f1 q0 q1 HR20 Z20 Y1 hV1
          go_upto_region 39 with fail
          rw [← hge, ← HV1.out]
          clear hge HV1
          go_wp2_with fail
          refine (TC.out.un _).mono ?_
          rintro e y2 ⟨Au, cu, rfl, ou, f2⟩
          have hlu0 : ¬ (lu : Int) = 0 := by omega
          have hlu1 : ¬ lu = 0 := by omega
          obtain ⟨bu, ov, hAu, _⟩ := ou.rd.at_ 0 (by have := HLU.out; omega)
          subst hAu
          rw [← HLU.out]
          obtain ⟨uf, huf⟩ : ∃ uf : Nat → Int, uf = fun k => us.getD k 0 := ⟨_, rfl⟩
          have HS0 : Hid (∀ V : World, Ext y2 V → ∀ k : Nat, k < lu → V.cell? ⟨bu, ov + k, none⟩ = some (.int .i64 (uf k))) := fun V h k hk => by
            obtain ⟨b', o', hA', hc'⟩ := ou.rd.at_ k (by have := HLU.out; omega)
            injection hA' with hA'
            injection hA' with hb0 ho0
            subst hb0 ho0
            rw [huf]
            exact Ext.cell h hc'
          have HST : Hid (∀ k : Nat, k < lu → ∃ ts : List Int, Hid (ts.length ≤ 24) ∧ Hid (∀ V : World, Ext w1 V → Calls Tryz.prog 20 #[.agg #[.int .i64 N, .slice B l d], .int .i64 (uf k)] V (RetRB V ((N : Int), ts) true)) ∧
              Hid (∀ (D : Option Addr) (q : Nat) (V : World), RdI V D ts → Calls Tryz.prog 18 #[.agg #[.int .i64 N, .slice D ts.length q]] V (RetRB V ((N : Int), cs) true)) ∧
              Hid (∀ (D : Option Addr) (q : Nat) (V : World), Ext w1 V → RdI V D ts → Calls Tryz.prog 21 #[.agg #[.int .i64 N, .slice B l d], .agg #[.int .i64 N, .slice D ts.length q]] V fun e w' => e = .returned (.bool true) ∧ Ext V w')) := fun k hk => by
            obtain ⟨ts, h1, h2, h3, h4⟩ := TC.out.st (us.getD k 0) (getD_in (by have := HLU.out; omega))
            rw [huf]
            exact ⟨ts, h1, h2, h3, h4⟩
          have Z22 := Lib.hid (Z21.out.trans f2)
          have HR22 := Lib.hid (HR21.out.ext f2)
          have HBe2 := Lib.hid (HBe1.out.ext f2)
          have RDe2 := Lib.hid (RDe1.out.ext f2)
          have EW2 := Lib.hid (E1.out.trans Z22.out)
          clear f2 ou huf Z21 HR21 HBe1 RDe1 HLU
          have hlz : ((lu : Int) == 0) = false := by simp [hlu1]
          go_upto_region 42 with fail
          try rw [hlz]
          clear hlz
          obtain ⟨q0, q1, p0, p1⟩ := HR22.out.cells
          clear p0 p1
          have HS : Hid (∀ V : World, Ext y2 V → (V.cell? ⟨w1.heap.size, 0, none⟩ = some (.int .i64 N) ∧ V.cell? ⟨w1.heap.size, 1, none⟩ = some (.slice B l d)) ∧ ∀ k : Nat, k < lu → V.cell? ⟨bu, ov + k, none⟩ = some (.int .i64 (uf k))) :=
            fun V h => ⟨⟨Ext.cell h q0, Ext.cell h q1⟩, HS0.out V h⟩
          clear HS0 q0 q1
          go_cut [33, 34] from 250 to 262 (fun s33 s34 wx => ∃ (g : Nat) (D : Option Addr) (q : Nat) (ts : List Int), s33 = .pointer (some ⟨g, 0, none⟩) ∧ s34 = .bool true ∧ Hid (ts.length ≤ 24) ∧ Hid (Ext y2 wx) ∧ Hid (Bx2 wx g 25 (.int .i64 N) (.slice D ts.length q)) ∧ Hid (RdI wx D ts) ∧
              Hid (∀ (D : Option Addr) (q : Nat) (V : World), RdI V D ts → Calls Tryz.prog 18 #[.agg #[.int .i64 N, .slice D ts.length q]] V (RetRB V ((N : Int), cs) true)) ∧
              Hid (∀ (D : Option Addr) (q : Nat) (V : World), Ext w1 V → RdI V D ts → Calls Tryz.prog 21 #[.agg #[.int .i64 N, .slice B l d], .agg #[.int .i64 N, .slice D ts.length q]] V fun e w' => e = .returned (.bool true) ∧ Ext V w'))
          case first =>
            have hy2 : w1.heap.size ≤ y2.heap.size := Z22.out.size
            first | (go_region_held3 (fun V => (V.cell? ⟨w1.heap.size, 0, none⟩ = some (.int .i64 N) ∧ V.cell? ⟨w1.heap.size, 1, none⟩ = some (.slice B l d)) ∧ ∀ k : Nat, k < lu → V.cell? ⟨bu, ov + k, none⟩ = some (.int .i64 (uf k)))
              (first
                | exact HS.out _ (Ext.refl y2).drew
                | exact HS.out _ ((Ext.refl y2).alloc _).drew
                | exact HS.out _ ((Ext.refl y2).drew.alloc _)
                | exact HS.out _ X3.out
                | exact HS.out _ (X3.out.alloc _)
                | exact HS.out _ X5.out
                | exact HS.out _ (X5.out.alloc _)
                | exact HS.out _ (((X5.out.alloc _).setCell (by simp only []; omega) _).setCell (by simp only []; omega) _)
                | exact HS.out _ ((X5.out.setCell (by simp only []; omega) _).setCell (by simp only []; omega) _))
              (first
                | (go_at_call 9
                   refine (CN.out 34 _ (by omega) (by omega) (by first | exact EW2.out.drew | exact (EW2.out.alloc _).drew | exact EW2.out.drew.alloc _)).mono ?_
                   rintro e y3 ⟨x3, rfl, hx3, e3⟩
                   have X3 : Hid (Ext y2 y3) := by first | exact (Ext.refl y2).drew.trans e3 | exact ((Ext.refl y2).alloc _).drew.trans e3 | exact ((Ext.refl y2).drew.alloc _).trans e3
                   have hy3 : y2.heap.size ≤ y3.heap.size := X3.out.size
                   first
                     | have B3 : Hid (Bx2 y3 y2.heap.size 25 (.int .i64 0) (.slice none 0 0)) := Bx2.ext (w := (y2.alloc _).drew) (Bx2.new y2 _ _ _) e3
                     | have B3 : Hid (Bx2 y3 y2.heap.size 25 (.int .i64 0) (.slice none 0 0)) := Bx2.ext (w := y2.drew.alloc _) (Bx2.new y2.drew _ _ _) e3
                     | skip
                   clear e3
                   obtain ⟨i3, hi3⟩ : ∃ i, i = x3 % lu := ⟨_, rfl⟩
                   have hil : i3 < lu := by rw [hi3]; exact Nat.mod_lt _ (by omega)
                   have hie : (x3 : Int) % (lu : Int) = (i3 : Int) := by rw [hi3]; exact_mod_cast rfl
                   have hit : (x3 : Int).tmod (lu : Int) = (i3 : Int) := by rw [Int.tmod_eq_emod_of_nonneg (Int.natCast_nonneg _)]; exact hie
                   have hi0 : (0 : Int) ≤ (i3 : Int) := by omega
                   have hi1 : (i3 : Int) < (lu : Int) := by omega
                   clear hi3 hx3
                   obtain ⟨ts, HT1, HT2, HT3, HT4⟩ := HST.out i3 hil)
                | (go_at_call 20
                   refine (HT2.out _ (by first | exact Z22.out.trans X3.out | exact (Z22.out.trans X3.out).alloc _)).mono ?_
                   intro e y5 hret
                   obtain ⟨D, q, rfl, o5, e5⟩ := hret.parts
                   clear hret
                   have X5 : Hid (Ext y2 y5) := by first | exact X3.out.trans e5 | exact (X3.out.alloc _).trans e5
                   have O5 := Lib.hid o5
                   first
                     | (have B5 := Lib.hid (B3.out.ext e5); obtain ⟨r0, r1, s0, s1⟩ := B5.out.cells)
                     | (have B5 := Lib.hid (Bx2.ext (w := y3.alloc _) (Bx2.new y3 25 (.int .i64 0) (.slice none 0 0)) e5); obtain ⟨r0, r1, s0, s1⟩ := B5.out.cells)
                     | skip
                   have hy5 : y2.heap.size ≤ y5.heap.size := X5.out.size
                   clear e5 o5))) | fail
            all_goals clear hie hit hi0 hi1
            all_goals have hDl := O5.out.lt
            all_goals go_wp2_with fail
            all_goals go_meet
            all_goals first
              | exact ⟨_, D, q, ts, rfl, rfl, HT1, X5.out.alloc _, Bx2.new y5 _ _ _, O5.out.rd.ext ((Ext.refl y5).alloc _), HT3, HT4⟩
              | exact ⟨_, D, q, ts, rfl, rfl, HT1, (X5.out.setCell (by simp only []; omega) _).setCell (by simp only []; omega) _, (B5.out.set0 _).set1 _, ((O5.out.setFar (fun ad had => by have := (hDl ad had).1; have := B3.out.lt; simp only []; omega) _).setFar (fun ad had => by have := (hDl ad had).1; have := B3.out.lt; simp only []; omega) _).rd, HT3, HT4⟩
              | exact ⟨_, D, q, ts, rfl, rfl, HT1, (X5.out.setCell (by simp only []; omega) _).setCell (by simp only []; omega) _, (B5.out.set0 _).set1 _, ((O5.out.setFar (fun ad had => by have := (hDl ad had).1; simp at this; simp only []; omega) _).setFar (fun ad had => by have := (hDl ad had).1; simp at this; simp only []; omega) _).rd, HT3, HT4⟩
          case rest =>
            obtain ⟨g, D, q, ts, rfl, rfl, HT1, X6, HB6, HT6, HT3, HT4⟩ := hcut
            obtain ⟨lt, hlt⟩ : ∃ lt, lt = ts.length := ⟨_, rfl⟩
            rw [← hlt] at HT1 HB6
            have HLT := Lib.hid hlt
            have ht24 := HT1.out
            have Z26 := Lib.hid (Z22.out.trans X6.out)
            have HR26 := Lib.hid (HR22.out.ext X6.out)
            have HBe6 := Lib.hid (HBe2.out.ext X6.out)
            have RDe6 := Lib.hid (RDe2.out.ext X6.out)
            have G3 : Hid (∀ V : World, Ext wc V → Calls Tryz.prog 18 #[.agg #[.int .i64 N, .slice D lt q]] V (RetRB V ((N : Int), cs) true)) := fun V h => by rw [hlt]; exact HT3.out D q V (HT6.out.ext h)
            have G4 : Hid (∀ V : World, Ext wc V → Calls Tryz.prog 21 #[.agg #[.int .i64 N, .slice B l d], .agg #[.int .i64 N, .slice D lt q]] V fun e w' => e = .returned (.bool true) ∧ Ext V w') := fun V h => by rw [hlt]; exact HT4.out D q V (Z26.out.trans h) (HT6.out.ext h)
            have G5 : Hid (∀ V : World, Ext wc V → Calls Tryz.prog 21 #[.agg #[.int .i64 N, .slice E lc qe], .agg #[.int .i64 N, .slice B l d]] V fun e w' => e = .returned (.bool true) ∧ Ext V w') := fun V h => by
              have := TC.out.sa E qe V (Z26.out.trans h) (RDe6.out.ext h)
              rwa [← HLC.out] at this
            clear hlt HT1 HT3 HT4 X6 HST HS TC HR22 HBe2 RDe2
            obtain ⟨q0, q1, p0, p1⟩ := HB6.out.cells
            clear p0 p1
            go_wp2_with fail
            refine (G3.out _ (Ext.refl _)).mono ?_
            intro e y7 hret
            obtain ⟨F, qf, rfl, of, f7⟩ := hret.parts
            rw [← HLC.out]
            have G6 : Hid (∀ V : World, Ext y7 V → Calls Tryz.prog 8 #[.agg #[.int .i64 N, .slice E lc qe], .agg #[.int .i64 N, .slice F lc qf]] V fun e w' => e = .returned (.bool true) ∧ Ext V w') := fun V h => by
              have := rhythms_any N E F qe qf cs cs V (RDe6.out.ext (f7.trans h)) (of.rd.ext h) (by have := HLC.out; omega) (by have := HLC.out; omega)
              rwa [decide_eq_true (rfl : cs = cs), ← HLC.out] at this
            have Z27 := Lib.hid (Z26.out.trans f7)
            have HR27 := Lib.hid (HR26.out.ext f7)
            have HBe7 := Lib.hid (HBe6.out.ext f7)
            have HB7 := Lib.hid (HB6.out.ext f7)
            have G47 : Hid (∀ V : World, Ext y7 V → Calls Tryz.prog 21 #[.agg #[.int .i64 N, .slice B l d], .agg #[.int .i64 N, .slice D lt q]] V fun e w' => e = .returned (.bool true) ∧ Ext V w') := fun V h => G4.out V (f7.trans h)
            have G57 : Hid (∀ V : World, Ext y7 V → Calls Tryz.prog 21 #[.agg #[.int .i64 N, .slice E lc qe], .agg #[.int .i64 N, .slice B l d]] V fun e w' => e = .returned (.bool true) ∧ Ext V w') := fun V h => G5.out V (f7.trans h)
            obtain ⟨gf8, hgf8⟩ : ∃ g, g = y7.heap.size := ⟨_, rfl⟩
            have Y8 : Hid (Ext y7 (y7.alloc (.cells #[.int .i64 N, .slice F lc qf] 25))) := (Ext.refl y7).alloc _
            have HBf8 := Lib.hid (Bx2.new y7 25 (.int .i64 N) (.slice F lc qf))
            rw [← hgf8] at HBf8
            have Z28 := Lib.hid (Z27.out.trans Y8.out)
            have HR28 := Lib.hid (HR27.out.ext Y8.out)
            have HBe8 := Lib.hid (HBe7.out.ext Y8.out)
            have HB8 := Lib.hid (HB7.out.ext Y8.out)
            obtain ⟨V8b, hV8⟩ : ∃ V, V = y7.alloc (.cells #[.int .i64 N, .slice F lc qf] 25) := ⟨_, rfl⟩
            rw [← hV8] at Y8 Z28 HR28 HBe8 HB8 HBf8
            have HV8 := Lib.hid hV8
            clear hret of f7 q0 q1 hV8 G3 G4 G5 HB6 HR26 HBe6 RDe6 Z26 Z27 HR27 HBe7 HB7 HT6
            go_upto_region 44 with fail
            rw [← hgf8, ← HV8.out]
            clear hgf8 HV8
            obtain ⟨q0, q1, p0, p1⟩ := HR28.out.cells
            clear p0 p1
            obtain ⟨b0, b1, p0, p1⟩ := HBe8.out.cells
            clear p0 p1
            obtain ⟨c0_, c1_, p0, p1⟩ := HBf8.out.cells
            clear p0 p1
            have hvv : ((v : Int) == (v : Int)) = true := by simp
            have hYY : (Y == Y) = true := by simp
            go_wp2_with fail
            refine (G6.out _ Y8.out).mono ?_
            rintro e y9 ⟨rfl, f9⟩
            have HR29 := Lib.hid (HR28.out.ext f9)
            have HBe9 := Lib.hid (HBe8.out.ext f9)
            have HB9 := Lib.hid (HB8.out.ext f9)
            have Y9 := Lib.hid (Y8.out.trans f9)
            have Z29 := Lib.hid (Z28.out.trans f9)
            clear q0 q1 b0 b1 c0_ c1_ f9 HR28 HBe8 HB8 HBf8 Z28 Y8 hvv hYY
            obtain ⟨q0, q1, p0, p1⟩ := HR29.out.cells
            clear p0 p1
            obtain ⟨b0, b1, p0, p1⟩ := HB9.out.cells
            clear p0 p1
            go_wp2_with fail
            refine (G47.out _ Y9.out).mono ?_
            rintro e y10 ⟨rfl, f10⟩
            have HR30 := Lib.hid (HR29.out.ext f10)
            have HBe10 := Lib.hid (HBe9.out.ext f10)
            have Y10 := Lib.hid (Y9.out.trans f10)
            have Z30 := Lib.hid (Z29.out.trans f10)
            clear q0 q1 b0 b1 f10 HR29 HBe9 HB9 Z29 Y9
            obtain ⟨q0, q1, p0, p1⟩ := HR30.out.cells
            clear p0 p1
            obtain ⟨b0, b1, p0, p1⟩ := HBe10.out.cells
            clear p0 p1
            go_wp2_with fail
            refine (G57.out _ Y10.out).mono ?_
            rintro e y11 ⟨rfl, f11⟩
            have EW11 := Lib.hid (E1.out.trans (Z30.out.trans f11))
            clear q0 q1 b0 b1 f11 HR30 HBe10 Z30 Y10
            go_wp2_with fail
            go_ret
            exact ⟨rfl, EW11.out⟩
end Go.Proofs.YtphpdanohooccaaGreatDoor
