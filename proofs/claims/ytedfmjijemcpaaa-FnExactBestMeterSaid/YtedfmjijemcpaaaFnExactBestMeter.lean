/- FnExactBestMeter: for all arguments the law answers true: impl.BestMeter returns what the reference's function of that name returns, leaves its arguments as they were, and its result shares no memory. No conditions. -/
import Derived.Test.YtedfmjijemcpaaaRow
import Derived.Test.YtedfmjijemcpaaaOwn
import Derived.Test.YtedfmjijemcpaaaOwnR
import Derived.Test.YtedfmjijemcpaaaBest
import Derived.Deep.RegionHeld3
namespace Go.Proofs.Ytedfmjijemcpaaa
open Go.ChangeShapes Go.WideShapes Go.ChangeAt Go.RowKit Go.Joins

set_option maxHeartbeats 1000000 in
/-- The law's walk, over contracts of the two functions. -/
theorem core_FnExactBestMeter (w : World) (n0 : Int) (A0 : Option Addr) (c0 : Nat) (x0 : List Int) (g0 : (-9223372036854775808 ≤ n0 ∧ n0 ≤ 9223372036854775807) ∧ RdI w A0 x0 ∧ x0.length ≤ c0 ∧ c0 ≤ maxLen ∧ Fits x0)
    (y0 : List Int) (y1 : Bool)
    (z0 : Hid (szR (n0, x0) ≤ 1048576))
    (zt_ : Hid (x0.length ≤ 1048576))
    (zy0 : Hid (szS y0 ≤ 1099511627776))
    (CS : Hid (∀ w : World, ∀ (L0 U0 : Nat) (a0 : Value), OwnR w L0 U0 a0 (n0, x0) → Calls Try.prog 20 #[a0] w (fun e w' => ∃ v0, e = .returned (.tuple #[v0, .bool y1]) ∧ OwnS w' w.heap.size w'.heap.size v0 y0 ∧ Ext w w')))
    (CI : Hid (∀ w : World, ∀ (L0 U0 : Nat) (a0 : Value), OwnR w L0 U0 a0 (n0, x0) → Calls Try.prog 18 #[a0] w (fun e w' => ∃ v0, e = .returned (.tuple #[v0, .bool y1]) ∧ OwnS w' w.heap.size w'.heap.size v0 y0 ∧ Ext w w'))) :
    Calls Try.prog 4 #[.agg #[.int .i64 n0, .slice A0 x0.length c0]] w fun e w' => e = .returned (.bool true) ∧ Ext w w' := by
  have G0 := Lib.hid g0
  clear g0
  have zz0 : x0.length ≤ 1048576 := by have := z0.out; unfold szR at this; omega
  have zt := zt_.out
  go_enter Try.func4, Try.ntmps4
  go_wp2_with fail
  refine (szR_ok n0 _ _ x0.length _ _ ⟨by omega, by omega⟩ (by omega)).mono ?_
  rintro e w1 ⟨rfl, e1⟩
  have X1 : Hid (Ext w w1) := ((Ext.refl w).alloc _).trans e1
  have S1 : Hid (w.heap.size + 1 ≤ w1.heap.size) := (by have := e1.size; simp at this; omega : w.heap.size + 1 ≤ w1.heap.size)
  have hb0_0_ : w1.cell? ⟨w.heap.size, 0, none⟩ = some (.int .i64 n0) := Ext.cell e1 (by first | exact (box2 _ _ _ _ _ (by simp)).1 | exact Ext.cell ((Ext.refl _).alloc _) (box2 _ _ _ _ _ (by simp)).1)
  have hb0_0 := hb0_0_; clear hb0_0_
  have hb0_1_ : w1.cell? ⟨w.heap.size, 1, none⟩ = some (.slice A0 x0.length c0) := Ext.cell e1 (by first | exact (box2 _ _ _ _ _ (by simp)).2 | exact Ext.cell ((Ext.refl _).alloc _) (box2 _ _ _ _ _ (by simp)).2)
  have hb0_1 := hb0_1_; clear hb0_1_
  clear e1
  go_wp2_with fail
  refine (toR_law n0 A0 c0 x0 _ (G0.out.2.1.ext X1.out) zz0).mono ?_
  rintro e w2 ⟨s0, rfl, o2, e2⟩
  obtain ⟨As0, cs0, rfl, oo2⟩ := o2
  have Os0_2 : Hid (OwnR w2 _ _ (.agg #[.int .i64 n0, .slice As0 x0.length cs0]) (n0, x0)) := ⟨As0, cs0, rfl, oo2⟩
  clear oo2
  have X2 : Hid (Ext w w2) := X1.out.trans e2
  have S2 : Hid (w1.heap.size ≤ w2.heap.size) := e2.size
  have hb0_0_ : w2.cell? ⟨w.heap.size, 0, none⟩ = some (.int .i64 n0) := Ext.cell e2 hb0_0
  clear hb0_0
  have hb0_0 := hb0_0_; clear hb0_0_
  have hb0_1_ : w2.cell? ⟨w.heap.size, 1, none⟩ = some (.slice A0 x0.length c0) := Ext.cell e2 hb0_1
  clear hb0_1
  have hb0_1 := hb0_1_; clear hb0_1_
  clear e2
  go_wp2_with fail
  refine (CS.out _ _ _ _ Os0_2.out).mono ?_
  rintro e w3 ⟨vw0, rfl, o3_0, e3⟩
  have Ovw0_3 := Lib.hid o3_0
  clear o3_0
  have X3 : Hid (Ext w w3) := X2.out.trans e3
  have S3 : Hid (w2.heap.size ≤ w3.heap.size) := e3.size
  have Os0_3 := Lib.hid (Os0_2.out.fr e3.fr (Or.inr (Nat.zero_le _)))
  clear Os0_2
  have hb0_0_ : w3.cell? ⟨w.heap.size, 0, none⟩ = some (.int .i64 n0) := Ext.cell e3 hb0_0
  clear hb0_0
  have hb0_0 := hb0_0_; clear hb0_0_
  have hb0_1_ : w3.cell? ⟨w.heap.size, 1, none⟩ = some (.slice A0 x0.length c0) := Ext.cell e3 hb0_1
  clear hb0_1
  have hb0_1 := hb0_1_; clear hb0_1_
  clear e3
  clear Os0_3
  go_wp2_with fail
  refine (toR_law n0 A0 c0 x0 _ (G0.out.2.1.ext X3.out) zz0).mono ?_
  rintro e w4 ⟨a0, rfl, o4, e4⟩
  obtain ⟨Aa0, ca0, rfl, oo4⟩ := o4
  have Oa0_4 : Hid (OwnR w4 _ _ (.agg #[.int .i64 n0, .slice Aa0 x0.length ca0]) (n0, x0)) := ⟨Aa0, ca0, rfl, oo4⟩
  clear oo4
  have X4 : Hid (Ext w w4) := X3.out.trans e4
  have S4 : Hid (w3.heap.size ≤ w4.heap.size) := e4.size
  have Ovw0_4 := Lib.hid (Ovw0_3.out.fr e4.fr (Or.inr (Nat.zero_le _)))
  clear Ovw0_3
  have hb0_0_ : w4.cell? ⟨w.heap.size, 0, none⟩ = some (.int .i64 n0) := Ext.cell e4 hb0_0
  clear hb0_0
  have hb0_0 := hb0_0_; clear hb0_0_
  have hb0_1_ : w4.cell? ⟨w.heap.size, 1, none⟩ = some (.slice A0 x0.length c0) := Ext.cell e4 hb0_1
  clear hb0_1
  have hb0_1 := hb0_1_; clear hb0_1_
  clear e4
  have X4_ : Hid (Ext w (w4.alloc (.cells #[.int .i64 n0, .slice Aa0 x0.length ca0] 29))) := X4.out.alloc _
  clear X4
  have X4 := X4_; clear X4_
  have Ovw0_4_ := Lib.hid (Ovw0_4.out.fr ((Ext.refl w4).alloc (.cells #[.int .i64 n0, .slice Aa0 x0.length ca0] 29)).fr (Or.inr (Nat.zero_le _)))
  clear Ovw0_4
  have Oa0_4_ := Lib.hid (Oa0_4.out.fr ((Ext.refl w4).alloc (.cells #[.int .i64 n0, .slice Aa0 x0.length ca0] 29)).fr (Or.inr (Nat.zero_le _)))
  clear Oa0_4
  have hb0_0_ := Ext.cell ((Ext.refl w4).alloc (.cells #[.int .i64 n0, .slice Aa0 x0.length ca0] 29)) hb0_0
  clear hb0_0
  have hb0_0 := hb0_0_; clear hb0_0_
  have hb0_1_ := Ext.cell ((Ext.refl w4).alloc (.cells #[.int .i64 n0, .slice Aa0 x0.length ca0] 29)) hb0_1
  clear hb0_1
  have hb0_1 := hb0_1_; clear hb0_1_
  have kba0_0 : (w4.alloc (.cells #[.int .i64 n0, .slice Aa0 x0.length ca0] 29)).cell? ⟨w4.heap.size, 0, none⟩ = some (.int .i64 n0) := (box2 _ _ _ _ _ rfl).1
  have kba0_1 : (w4.alloc (.cells #[.int .i64 n0, .slice Aa0 x0.length ca0] 29)).cell? ⟨w4.heap.size, 1, none⟩ = some (.slice Aa0 x0.length ca0) := (box2 _ _ _ _ _ rfl).2
  go_wp2_with fail
  refine (CI.out _ _ _ _ Oa0_4_.out).mono ?_
  rintro e w5 ⟨vg0, rfl, o5_0, e5⟩
  have Ovg0_5 := Lib.hid o5_0
  clear o5_0
  have X5 : Hid (Ext w w5) := X4.out.trans e5
  have P5 : Hid ((w4.alloc (.cells #[.int .i64 n0, .slice Aa0 x0.length ca0] 29)).heap.size = w4.heap.size + 1) := (by simp : (w4.alloc (.cells #[.int .i64 n0, .slice Aa0 x0.length ca0] 29)).heap.size = w4.heap.size + 1)
  have S5 : Hid (w4.heap.size + 1 ≤ w5.heap.size) := (by have := e5.size; simpa using this : w4.heap.size + 1 ≤ w5.heap.size)
  have Ovw0_5 := Lib.hid (Ovw0_4_.out.fr e5.fr (Or.inr (Nat.zero_le _)))
  have Oa0_5 := Lib.hid (Oa0_4_.out.fr e5.fr (Or.inr (Nat.zero_le _)))
  clear Ovw0_4_ Oa0_4_
  have hb0_0_ : w5.cell? ⟨w.heap.size, 0, none⟩ = some (.int .i64 n0) := Ext.cell e5 hb0_0
  clear hb0_0
  have hb0_0 := hb0_0_; clear hb0_0_
  have hb0_1_ : w5.cell? ⟨w.heap.size, 1, none⟩ = some (.slice A0 x0.length c0) := Ext.cell e5 hb0_1
  clear hb0_1
  have hb0_1 := hb0_1_; clear hb0_1_
  have kba0_0_ : w5.cell? ⟨w4.heap.size, 0, none⟩ = some (.int .i64 n0) := Ext.cell e5 kba0_0
  clear kba0_0
  have kba0_0 := kba0_0_; clear kba0_0_
  have kba0_1_ : w5.cell? ⟨w4.heap.size, 1, none⟩ = some (.slice Aa0 x0.length ca0) := Ext.cell e5 kba0_1
  clear kba0_1
  have kba0_1 := kba0_1_; clear kba0_1_
  clear e5
  go_wp2_with fail
  refine (eqS_law Ovg0_5.out Ovw0_5.out (Nat.le_trans zy0.out (by omega))).mono ?_
  rintro e w6 ⟨rfl, e6⟩
  have X6 : Hid (Ext w w6) := X5.out.trans e6
  have S6 : Hid (w5.heap.size ≤ w6.heap.size) := e6.size
  have Ovw0_6 := Lib.hid (Ovw0_5.out.fr e6.fr (Or.inr (Nat.zero_le _)))
  have Oa0_6 := Lib.hid (Oa0_5.out.fr e6.fr (Or.inr (Nat.zero_le _)))
  have Ovg0_6 := Lib.hid (Ovg0_5.out.fr e6.fr (Or.inr (Nat.zero_le _)))
  clear Ovw0_5 Oa0_5 Ovg0_5
  have hb0_0_ : w6.cell? ⟨w.heap.size, 0, none⟩ = some (.int .i64 n0) := Ext.cell e6 hb0_0
  clear hb0_0
  have hb0_0 := hb0_0_; clear hb0_0_
  have hb0_1_ : w6.cell? ⟨w.heap.size, 1, none⟩ = some (.slice A0 x0.length c0) := Ext.cell e6 hb0_1
  clear hb0_1
  have hb0_1 := hb0_1_; clear hb0_1_
  have kba0_0_ : w6.cell? ⟨w4.heap.size, 0, none⟩ = some (.int .i64 n0) := Ext.cell e6 kba0_0
  clear kba0_0
  have kba0_0 := kba0_0_; clear kba0_0_
  have kba0_1_ : w6.cell? ⟨w4.heap.size, 1, none⟩ = some (.slice Aa0 x0.length ca0) := Ext.cell e6 kba0_1
  clear kba0_1
  have kba0_1 := kba0_1_; clear kba0_1_
  clear e6
  go_wp2_with fail
  go_region_held3 (fun W => W.cell? ⟨w4.heap.size, 0, none⟩ = some (.int .i64 n0) ∧ W.cell? ⟨w4.heap.size, 1, none⟩ = some (.slice Aa0 x0.length ca0) ∧ W.cell? ⟨w.heap.size, 0, none⟩ = some (.int .i64 n0) ∧ W.cell? ⟨w.heap.size, 1, none⟩ = some (.slice A0 x0.length c0))
    (first | exact ⟨kba0_0, kba0_1, hb0_0, hb0_1⟩ | exact ⟨Ext.cell eb7 kba0_0, Ext.cell eb7 kba0_1, Ext.cell eb7 hb0_0, Ext.cell eb7 hb0_1⟩ | exact ⟨Ext.cell ec7 (Ext.cell eb7 kba0_0), Ext.cell ec7 (Ext.cell eb7 kba0_1), Ext.cell ec7 (Ext.cell eb7 hb0_0), Ext.cell ec7 (Ext.cell eb7 hb0_1)⟩)
    (first
      | (go_at_call 21; refine (toR_law n0 A0 c0 x0 (World.drew w6) (G0.out.2.1.ext X6.out.drew) zz0).mono ?_; rintro e wb7 ⟨vb7, rfl, ⟨Ab7, cb7, rfl, ob7⟩, eb7⟩)
      | (go_at_call 23; refine (eqR_law (Oa0_6.out.fr ((Ext.drew (Ext.refl w6)).trans eb7).fr (Or.inr (Nat.zero_le _))) (⟨Ab7, cb7, rfl, ob7⟩ : OwnR wb7 _ _ (.agg #[.int .i64 n0, .slice Ab7 x0.length cb7]) (n0, x0)) (Nat.le_trans z0.out (by omega))).mono ?_; rintro e w7 ⟨rfl, ec7⟩))
  have e7 : Ext w6 w7 := ((Ext.drew (Ext.refl w6)).trans eb7).trans ec7
  clear eb7 ec7 ob7
  have X7 : Hid (Ext w w7) := X6.out.trans e7
  have S7 : Hid (w6.heap.size ≤ w7.heap.size) := e7.size
  have Ovw0_7 := Lib.hid (Ovw0_6.out.fr e7.fr (Or.inr (Nat.zero_le _)))
  have Oa0_7 := Lib.hid (Oa0_6.out.fr e7.fr (Or.inr (Nat.zero_le _)))
  have Ovg0_7 := Lib.hid (Ovg0_6.out.fr e7.fr (Or.inr (Nat.zero_le _)))
  clear Ovw0_6 Oa0_6 Ovg0_6
  have hb0_0_ : w7.cell? ⟨w.heap.size, 0, none⟩ = some (.int .i64 n0) := Ext.cell e7 hb0_0
  clear hb0_0
  have hb0_0 := hb0_0_; clear hb0_0_
  have hb0_1_ : w7.cell? ⟨w.heap.size, 1, none⟩ = some (.slice A0 x0.length c0) := Ext.cell e7 hb0_1
  clear hb0_1
  have hb0_1 := hb0_1_; clear hb0_1_
  have kba0_0_ : w7.cell? ⟨w4.heap.size, 0, none⟩ = some (.int .i64 n0) := Ext.cell e7 kba0_0
  clear kba0_0
  have kba0_0 := kba0_0_; clear kba0_0_
  have kba0_1_ : w7.cell? ⟨w4.heap.size, 1, none⟩ = some (.slice Aa0 x0.length ca0) := Ext.cell e7 kba0_1
  clear kba0_1
  have kba0_1 := kba0_1_; clear kba0_1_
  clear e7
  go_wp2_with fail
  refine (markR_law Oa0_7.out _ (by have := z0.out; have := zy0.out; omega) (by have := z0.out; have := zy0.out; omega) (Nat.le_trans z0.out (by omega))).mono ?_
  rintro e w8 ⟨rfl, o8, f8⟩
  have Oa0_8 := Lib.hid o8
  clear o8
  have X8 : Hid (Ext w w8) := X7.out.then_fr f8 (by have := S1.out; have := S2.out; have := S3.out; have := S4.out; have := P5.out; have := S5.out; have := S6.out; have := S7.out; exact (by omega))
  have S8 : Hid (w7.heap.size ≤ w8.heap.size) := f8.size
  have Ovw0_8 := Lib.hid (Ovw0_7.out.fr f8 ((by have := S1.out; have := S2.out; have := S3.out; have := S4.out; have := P5.out; have := S5.out; have := S6.out; have := S7.out; have := S8.out; omega)))
  have Ovg0_8 := Lib.hid (Ovg0_7.out.fr f8 ((by have := S1.out; have := S2.out; have := S3.out; have := S4.out; have := P5.out; have := S5.out; have := S6.out; have := S7.out; have := S8.out; omega)))
  clear Ovw0_7 Ovg0_7
  have hb0_0_ : w8.cell? ⟨w.heap.size, 0, none⟩ = some (.int .i64 n0) := Fr.cell f8 hb0_0 (by have := S1.out; have := S2.out; have := S3.out; have := S4.out; have := P5.out; have := S5.out; have := S6.out; have := S7.out; have := S8.out; simp only []; omega)
  clear hb0_0
  have hb0_0 := hb0_0_; clear hb0_0_
  have hb0_1_ : w8.cell? ⟨w.heap.size, 1, none⟩ = some (.slice A0 x0.length c0) := Fr.cell f8 hb0_1 (by have := S1.out; have := S2.out; have := S3.out; have := S4.out; have := P5.out; have := S5.out; have := S6.out; have := S7.out; have := S8.out; simp only []; omega)
  clear hb0_1
  have hb0_1 := hb0_1_; clear hb0_1_
  have kba0_0_ : w8.cell? ⟨w4.heap.size, 0, none⟩ = some (.int .i64 n0) := Fr.cell f8 kba0_0 (by have := S1.out; have := S2.out; have := S3.out; have := S4.out; have := P5.out; have := S5.out; have := S6.out; have := S7.out; have := S8.out; simp only []; omega)
  clear kba0_0
  have kba0_0 := kba0_0_; clear kba0_0_
  have kba0_1_ : w8.cell? ⟨w4.heap.size, 1, none⟩ = some (.slice Aa0 x0.length ca0) := Fr.cell f8 kba0_1 (by have := S1.out; have := S2.out; have := S3.out; have := S4.out; have := P5.out; have := S5.out; have := S6.out; have := S7.out; have := S8.out; simp only []; omega)
  clear kba0_1
  have kba0_1 := kba0_1_; clear kba0_1_
  clear f8
  clear Oa0_7
  go_wp2_with fail
  refine (eqS_law Ovg0_8.out Ovw0_8.out (Nat.le_trans zy0.out (by omega))).mono ?_
  rintro e w9 ⟨rfl, e9⟩
  have X9 : Hid (Ext w w9) := X8.out.trans e9
  have S9 : Hid (w8.heap.size ≤ w9.heap.size) := e9.size
  have Ovw0_9 := Lib.hid (Ovw0_8.out.fr e9.fr (Or.inr (Nat.zero_le _)))
  have Oa0_9 := Lib.hid (Oa0_8.out.fr e9.fr (Or.inr (Nat.zero_le _)))
  have Ovg0_9 := Lib.hid (Ovg0_8.out.fr e9.fr (Or.inr (Nat.zero_le _)))
  clear Ovw0_8 Oa0_8 Ovg0_8
  have hb0_0_ : w9.cell? ⟨w.heap.size, 0, none⟩ = some (.int .i64 n0) := Ext.cell e9 hb0_0
  clear hb0_0
  have hb0_0 := hb0_0_; clear hb0_0_
  have hb0_1_ : w9.cell? ⟨w.heap.size, 1, none⟩ = some (.slice A0 x0.length c0) := Ext.cell e9 hb0_1
  clear hb0_1
  have hb0_1 := hb0_1_; clear hb0_1_
  have kba0_0_ : w9.cell? ⟨w4.heap.size, 0, none⟩ = some (.int .i64 n0) := Ext.cell e9 kba0_0
  clear kba0_0
  have kba0_0 := kba0_0_; clear kba0_0_
  have kba0_1_ : w9.cell? ⟨w4.heap.size, 1, none⟩ = some (.slice Aa0 x0.length ca0) := Ext.cell e9 kba0_1
  clear kba0_1
  have kba0_1 := kba0_1_; clear kba0_1_
  clear e9
  clear Oa0_9
  clear kba0_0 kba0_1
  go_wp2_with fail
  refine (markS_law Ovg0_9.out _ (by have := z0.out; have := zy0.out; omega) (by have := z0.out; have := zy0.out; omega) (Nat.le_trans zy0.out (by omega))).mono ?_
  rintro e w10 ⟨rfl, o10, f10⟩
  have Ovg0_10 := Lib.hid o10
  clear o10
  have X10 : Hid (Ext w w10) := X9.out.then_fr f10 (by have := S1.out; have := S2.out; have := S3.out; have := S4.out; have := P5.out; have := S5.out; have := S6.out; have := S7.out; have := S8.out; have := S9.out; exact (by omega))
  have S10 : Hid (w9.heap.size ≤ w10.heap.size) := f10.size
  have Ovw0_10 := Lib.hid (Ovw0_9.out.fr f10 ((by have := S1.out; have := S2.out; have := S3.out; have := S4.out; have := P5.out; have := S5.out; have := S6.out; have := S7.out; have := S8.out; have := S9.out; have := S10.out; omega)))
  clear Ovw0_9
  have hb0_0_ : w10.cell? ⟨w.heap.size, 0, none⟩ = some (.int .i64 n0) := Fr.cell f10 hb0_0 (by have := S1.out; have := S2.out; have := S3.out; have := S4.out; have := P5.out; have := S5.out; have := S6.out; have := S7.out; have := S8.out; have := S9.out; have := S10.out; simp only []; omega)
  clear hb0_0
  have hb0_0 := hb0_0_; clear hb0_0_
  have hb0_1_ : w10.cell? ⟨w.heap.size, 1, none⟩ = some (.slice A0 x0.length c0) := Fr.cell f10 hb0_1 (by have := S1.out; have := S2.out; have := S3.out; have := S4.out; have := P5.out; have := S5.out; have := S6.out; have := S7.out; have := S8.out; have := S9.out; have := S10.out; simp only []; omega)
  clear hb0_1
  have hb0_1 := hb0_1_; clear hb0_1_
  clear f10
  clear Ovg0_9
  go_wp2_with fail
  refine (heldS_law _ Ovg0_10.out (by have := z0.out; have := zy0.out; omega) (by have := z0.out; have := zy0.out; omega) (Nat.le_trans zy0.out (by omega))).mono ?_
  rintro e w11 ⟨rfl, e11⟩
  have X11 : Hid (Ext w w11) := X10.out.trans e11
  have S11 : Hid (w10.heap.size ≤ w11.heap.size) := e11.size
  have Ovw0_11 := Lib.hid (Ovw0_10.out.fr e11.fr (Or.inr (Nat.zero_le _)))
  have Ovg0_11 := Lib.hid (Ovg0_10.out.fr e11.fr (Or.inr (Nat.zero_le _)))
  clear Ovw0_10 Ovg0_10
  have hb0_0_ : w11.cell? ⟨w.heap.size, 0, none⟩ = some (.int .i64 n0) := Ext.cell e11 hb0_0
  clear hb0_0
  have hb0_0 := hb0_0_; clear hb0_0_
  have hb0_1_ : w11.cell? ⟨w.heap.size, 1, none⟩ = some (.slice A0 x0.length c0) := Ext.cell e11 hb0_1
  clear hb0_1
  have hb0_1 := hb0_1_; clear hb0_1_
  clear e11
  go_wp2_with fail
  refine (toR_law n0 A0 c0 x0 _ (G0.out.2.1.ext X11.out) zz0).mono ?_
  rintro e w12 ⟨d0, rfl, o12, e12⟩
  obtain ⟨Ad0, cd0, rfl, oo12⟩ := o12
  have Od0_12 : Hid (OwnR w12 _ _ (.agg #[.int .i64 n0, .slice Ad0 x0.length cd0]) (n0, x0)) := ⟨Ad0, cd0, rfl, oo12⟩
  clear oo12
  have X12 : Hid (Ext w w12) := X11.out.trans e12
  have S12 : Hid (w11.heap.size ≤ w12.heap.size) := e12.size
  have Ovw0_12 := Lib.hid (Ovw0_11.out.fr e12.fr (Or.inr (Nat.zero_le _)))
  have Ovg0_12 := Lib.hid (Ovg0_11.out.fr e12.fr (Or.inr (Nat.zero_le _)))
  clear Ovw0_11 Ovg0_11
  have hb0_0_ : w12.cell? ⟨w.heap.size, 0, none⟩ = some (.int .i64 n0) := Ext.cell e12 hb0_0
  clear hb0_0
  have hb0_0 := hb0_0_; clear hb0_0_
  have hb0_1_ : w12.cell? ⟨w.heap.size, 1, none⟩ = some (.slice A0 x0.length c0) := Ext.cell e12 hb0_1
  clear hb0_1
  have hb0_1 := hb0_1_; clear hb0_1_
  clear e12
  go_wp2_with fail
  refine (CI.out _ _ _ _ Od0_12.out).mono ?_
  rintro e w13 ⟨vh0, rfl, o13_0, e13⟩
  have Ovh0_13 := Lib.hid o13_0
  clear o13_0
  have X13 : Hid (Ext w w13) := X12.out.trans e13
  have S13 : Hid (w12.heap.size ≤ w13.heap.size) := e13.size
  have Ovw0_13 := Lib.hid (Ovw0_12.out.fr e13.fr (Or.inr (Nat.zero_le _)))
  have Ovg0_13 := Lib.hid (Ovg0_12.out.fr e13.fr (Or.inr (Nat.zero_le _)))
  have Od0_13 := Lib.hid (Od0_12.out.fr e13.fr (Or.inr (Nat.zero_le _)))
  clear Ovw0_12 Ovg0_12 Od0_12
  have hb0_0_ : w13.cell? ⟨w.heap.size, 0, none⟩ = some (.int .i64 n0) := Ext.cell e13 hb0_0
  clear hb0_0
  have hb0_0 := hb0_0_; clear hb0_0_
  have hb0_1_ : w13.cell? ⟨w.heap.size, 1, none⟩ = some (.slice A0 x0.length c0) := Ext.cell e13 hb0_1
  clear hb0_1
  have hb0_1 := hb0_1_; clear hb0_1_
  clear e13
  clear Od0_13
  go_wp2_with fail
  refine (eqS_law Ovh0_13.out Ovw0_13.out (Nat.le_trans zy0.out (by omega))).mono ?_
  rintro e w14 ⟨rfl, e14⟩
  have X14 : Hid (Ext w w14) := X13.out.trans e14
  have S14 : Hid (w13.heap.size ≤ w14.heap.size) := e14.size
  have Ovw0_14 := Lib.hid (Ovw0_13.out.fr e14.fr (Or.inr (Nat.zero_le _)))
  have Ovg0_14 := Lib.hid (Ovg0_13.out.fr e14.fr (Or.inr (Nat.zero_le _)))
  have Ovh0_14 := Lib.hid (Ovh0_13.out.fr e14.fr (Or.inr (Nat.zero_le _)))
  clear Ovw0_13 Ovg0_13 Ovh0_13
  have hb0_0_ : w14.cell? ⟨w.heap.size, 0, none⟩ = some (.int .i64 n0) := Ext.cell e14 hb0_0
  clear hb0_0
  have hb0_0 := hb0_0_; clear hb0_0_
  have hb0_1_ : w14.cell? ⟨w.heap.size, 1, none⟩ = some (.slice A0 x0.length c0) := Ext.cell e14 hb0_1
  clear hb0_1
  have hb0_1 := hb0_1_; clear hb0_1_
  clear e14
  clear Ovh0_14
  clear Ovw0_14
  go_wp2_with fail
  refine (heldS_law _ Ovg0_14.out (by have := z0.out; have := zy0.out; omega) (by have := z0.out; have := zy0.out; omega) (Nat.le_trans zy0.out (by omega))).mono ?_
  rintro e w15 ⟨rfl, e15⟩
  have X15 : Hid (Ext w w15) := X14.out.trans e15
  have S15 : Hid (w14.heap.size ≤ w15.heap.size) := e15.size
  have Ovg0_15 := Lib.hid (Ovg0_14.out.fr e15.fr (Or.inr (Nat.zero_le _)))
  clear Ovg0_14
  have hb0_0_ : w15.cell? ⟨w.heap.size, 0, none⟩ = some (.int .i64 n0) := Ext.cell e15 hb0_0
  clear hb0_0
  have hb0_0 := hb0_0_; clear hb0_0_
  have hb0_1_ : w15.cell? ⟨w.heap.size, 1, none⟩ = some (.slice A0 x0.length c0) := Ext.cell e15 hb0_1
  clear hb0_1
  have hb0_1 := hb0_1_; clear hb0_1_
  clear e15
  go_wp2_with fail
  go_ret
  exact ⟨rfl, X15.out⟩

theorem walk_FnExactBestMeter (w : World) (n0 : Int) (A0 : Option Addr) (c0 : Nat) (x0 : List Int) (g0 : (-9223372036854775808 ≤ n0 ∧ n0 ≤ 9223372036854775807) ∧ RdI w A0 x0 ∧ x0.length ≤ c0 ∧ c0 ≤ maxLen ∧ Fits x0) :
    Calls Try.prog 4 #[.agg #[.int .i64 n0, .slice A0 x0.length c0]] w fun e w' => e = .returned (.bool true) ∧ Ext w w' := by
  by_cases hbig0 : 1048576 < x0.length
  · go_enter Try.func4, Try.ntmps4
    go_wp2_with fail
    refine (szR_bad n0 _ _ x0.length _ _ ⟨by omega, by omega⟩ (by omega) ⟨g0.2.2.1, g0.2.2.2.1⟩).mono ?_
    rintro e v1 ⟨rfl, f1⟩
    have X : Hid (Ext w v1) := ((Ext.refl w).alloc _).trans f1
    clear f1
    go_wp2_with fail
    go_ret
    exact ⟨rfl, X.out⟩
  have hn : x0.length ≤ 1048576 := by omega
  exact core_FnExactBestMeter w n0 A0 c0 x0 g0 (bmF n0 x0) (bmB n0 x0)
    (show szR (n0, x0) ≤ 1048576 from by unfold szR; (try dsimp only); omega)
    (Lib.hid hn)
    (bmF_sz n0 x0)
    (Lib.hid fun w _ _ _ h => by obtain ⟨A, c, rfl, hr, hc⟩ := h.rdc; exact (bmS_any A c _ _ w hr hn).mono fun _ _ h => h.own)
    (Lib.hid fun w _ _ _ h => by obtain ⟨A, c, rfl, hr, hc⟩ := h.rdc; exact (bmI_any A c _ _ w hr hn).mono fun _ _ h => h.own)
set_option maxRecDepth 100000 in
theorem lifted_FnExactBestMeter (os : Os) (started : os.Started) (H : Type) (enc : TypeId × Value → H) :
    ReturnsInHanded {} Try.checked os 4 .any (Rows.fnExactBestMeterSpec.pre6 enc Try.prog Try.f4 Rows.fnExactBestMeterRow.domain false) (Rows.fnExactBestMeterSpec.post enc Try.prog Try.f4 false true false false) := by
  refine returnsInHanded_of_change (C := Try.checked) own started (by kernel_rfl) Try.func4
    (ChangeSpec.witness6 (enc := enc) (C := Try.checked) false ⟨#[], #[.agg #[.int .i64 0, .slice none 0 0]], []⟩ 8 (by kernel_rfl) (by kernel_rfl) (by kernel_rfl) (by kernel_rfl)) ?_
  intro W base args ds gs before hval0 hW hcnd _
  have hval : ∀ (j : Nat) t v, Try.f4.params[j]? = some t → args[j]? = some v → Value.okWide Try.prog W .any base t v := hval0
  have hW' := hW
  obtain ⟨p, q, hA0, hV, rfl, hfz, hnd⟩ := hW
  have hA : DataW.TrodAll enc Try.prog W 0 (fun _ => true) true Try.f4.params.toList args.toList ds p := hA0
  rw [Try.params4] at hA hval
  obtain ⟨v0, vs0, d0, ds0, p0, q0, hargs, rfl, rfl, h0, r0⟩ := trodAll_cons hA
  obtain ⟨rfl, rfl, rfl⟩ := trodAll_nil r0
  obtain rfl : args = #[v0] := by cases args; simp_all
  obtain ⟨rfl, rfl⟩ := trodVars_none hV
  have k0 := h0
  have lt0 : ∀ x ∈ p0, x.block < W.heap.size := by obtain ⟨m, hm⟩ := k0; exact DataW.trod_lt m _ _ _ hm
  obtain ⟨n0, A0, c0, x0, rfl, g0⟩ := view_rhythm Try.underlying41 (by kernel_rfl) (by kernel_rfl) Try.underlying3 Try.underlying23 Try.underlying3 (by kernel_rfl) (hval 0 41 v0 rfl rfl) h0
  clear hA0 hval0
  refine (walk_FnExactBestMeter W n0 A0 c0 x0 g0).mono fun e W' ⟨he, bel⟩ => ?_
  subst he
  exact ⟨_, rfl, _, _, _, [], _, [], hW', trodAll_mk1 (shut_bool Try.underlying4 _), (trodAll_cons_mk (Below.trod laidOut (by kernel_rfl) (of_decide_eq_true (by kernel_rfl)) k0 bel lt0) trodAll_mk0), rfl, Below.frame bel _, fun h => by cases h⟩

theorem proved_FnExactBestMeter : Rows.FnExactBestMeterSaid :=
  OpenClaim.holds_of_wide 4 Try.f4 rfl rfl rfl rfl rfl rfl rfl ⟨rfl, rfl, rfl, rfl, rfl⟩ rfl rfl rfl rfl rfl (by kernel_rfl) Try.func4 (by kernel_rfl)
    (of_decide_eq_true (by kernel_rfl)) (by unfold Func.isWrapper; first | (rw [if_pos (by decide +kernel)]; kernel_rfl) | (rw [if_neg (by decide +kernel)]; exact ⟨rfl, rfl⟩))
    (fun os started H enc _ => lifted_FnExactBestMeter os started H enc)
end Go.Proofs.Ytedfmjijemcpaaa
