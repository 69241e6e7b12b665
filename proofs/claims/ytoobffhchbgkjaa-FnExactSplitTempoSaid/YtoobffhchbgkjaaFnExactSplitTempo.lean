/- FnExactSplitTempo: for all arguments the law answers true: impl.SplitTempo returns what the reference's function of that name returns, leaves its arguments as they were, and its result shares no memory. No conditions. -/
import Derived.Test.YtoobffhchbgkjaaRow
import Derived.Test.YtoobffhchbgkjaaOwn
import Derived.Test.YtoobffhchbgkjaaOwnP
import Derived.Test.YtoobffhchbgkjaaTempoD
namespace Go.Proofs.Ytoobffhchbgkjaa
open Go.ChangeShapes Go.WideShapes Go.ChangeAt Go.RowKit Go.Joins

set_option maxHeartbeats 1000000 in
/-- The law's walk, over contracts of the two functions. -/
theorem core_FnExactSplitTempo (w : World) (A0 : Option Addr) (c0 : Nat) (x0 : List (Int × Int)) (g0 : Rd w 2 A0 x0.length (pairCells x0) ∧ x0.length ≤ c0 ∧ c0 ≤ maxLen ∧ ∀ q ∈ x0, (-9223372036854775808 ≤ q.1 ∧ q.1 ≤ 9223372036854775807) ∧ -9223372036854775808 ≤ q.2 ∧ q.2 ≤ 9223372036854775807) (x1 : Int) (_g1 : -9223372036854775808 ≤ x1 ∧ x1 ≤ 9223372036854775807)
    (y0 : List (Int × Int)) (y1 : List (Int × Int)) (y2 : Bool)
    (z0 : Hid (szP x0 ≤ 1048576))
    (zt_ : Hid (x0.length ≤ 1048576))
    (zy0 : Hid (szP y0 ≤ 1099511627776))
    (zy1 : Hid (szP y1 ≤ 1099511627776))
    (CS : Hid (∀ w : World, ∀ (L0 U0 : Nat) (a0 : Value), OwnP w L0 U0 a0 x0 → Calls Try.prog 23 #[a0, .int .i64 x1] w (RetPPB w y0 y1 y2)))
    (CI : Hid (∀ w : World, ∀ (L0 U0 : Nat) (a0 : Value), OwnP w L0 U0 a0 x0 → Calls Try.prog 24 #[a0, .int .i64 x1] w (RetPPB w y0 y1 y2))) :
    Calls Try.prog 6 #[.slice A0 x0.length c0, .int .i64 x1] w fun e w' => e = .returned (.bool true) ∧ Ext w w' := by
  have G0 := Lib.hid g0
  clear g0
  have zz0 : x0.length ≤ 1048576 := by have := z0.out; unfold szP at this; omega
  have zt := zt_.out
  go_enter Try.func6, Try.ntmps6
  go_wp2_with fail
  refine (szP_ok _ _ x0.length _ _ ⟨by omega, by omega⟩ (by omega)).mono ?_
  rintro e w1 ⟨rfl, e1⟩
  have X1 : Hid (Ext w w1) := (Ext.refl w).trans e1
  have S1 : Hid (w.heap.size ≤ w1.heap.size) := X1.out.size
  clear e1
  go_wp2_with fail
  refine (toP_law A0 c0 x0 _ (G0.out.1.ext X1.out) zz0).mono ?_
  rintro e w2 ⟨s0, rfl, o2, e2⟩
  have Os0_2 := Lib.hid o2
  clear o2
  have X2 : Hid (Ext w w2) := X1.out.trans e2
  have S2 : Hid (w1.heap.size ≤ w2.heap.size) := e2.size
  clear e2
  go_wp2_with fail
  refine (CS.out _ _ _ _ Os0_2.out).mono ?_
  rintro e w3 ⟨vw0, vw1, vwL0, vwU0, vwL1, vwU1, rfl, o3_0, o3_1, hb3, e3⟩
  have Ovw0_3 := Lib.hid o3_0
  clear o3_0
  have Ovw1_3 := Lib.hid o3_1
  clear o3_1
  have B3 := Lib.hid hb3
  clear hb3
  have X3 : Hid (Ext w w3) := X2.out.trans e3
  have S3 : Hid (w2.heap.size ≤ w3.heap.size) := e3.size
  have Os0_3 := Lib.hid (Os0_2.out.fr e3.fr (Or.inr (Nat.zero_le _)))
  clear Os0_2
  clear e3
  clear Os0_3
  go_wp2_with fail
  refine (toP_law A0 c0 x0 _ (G0.out.1.ext X3.out) zz0).mono ?_
  rintro e w4 ⟨a0, rfl, o4, e4⟩
  have Oa0_4 := Lib.hid o4
  clear o4
  have X4 : Hid (Ext w w4) := X3.out.trans e4
  have S4 : Hid (w3.heap.size ≤ w4.heap.size) := e4.size
  have Ovw0_4 := Lib.hid (Ovw0_3.out.fr e4.fr (Or.inr (Nat.zero_le _)))
  have Ovw1_4 := Lib.hid (Ovw1_3.out.fr e4.fr (Or.inr (Nat.zero_le _)))
  clear Ovw0_3 Ovw1_3
  clear e4
  go_wp2_with fail
  refine (CI.out _ _ _ _ Oa0_4.out).mono ?_
  rintro e w5 ⟨vg0, vg1, vgL0, vgU0, vgL1, vgU1, rfl, o5_0, o5_1, hb5, e5⟩
  have Ovg0_5 := Lib.hid o5_0
  clear o5_0
  have Ovg1_5 := Lib.hid o5_1
  clear o5_1
  have B5 := Lib.hid hb5
  clear hb5
  have X5 : Hid (Ext w w5) := X4.out.trans e5
  have S5 : Hid (w4.heap.size ≤ w5.heap.size) := e5.size
  have Ovw0_5 := Lib.hid (Ovw0_4.out.fr e5.fr (Or.inr (Nat.zero_le _)))
  have Ovw1_5 := Lib.hid (Ovw1_4.out.fr e5.fr (Or.inr (Nat.zero_le _)))
  have Oa0_5 := Lib.hid (Oa0_4.out.fr e5.fr (Or.inr (Nat.zero_le _)))
  clear Ovw0_4 Ovw1_4 Oa0_4
  clear e5
  go_wp2_with fail
  refine (eqP_law Ovg0_5.out Ovw0_5.out (Nat.le_trans zy0.out (by omega))).mono ?_
  rintro e w6 ⟨rfl, e6⟩
  have X6 : Hid (Ext w w6) := X5.out.trans e6
  have S6 : Hid (w5.heap.size ≤ w6.heap.size) := e6.size
  have Ovw0_6 := Lib.hid (Ovw0_5.out.fr e6.fr (Or.inr (Nat.zero_le _)))
  have Ovw1_6 := Lib.hid (Ovw1_5.out.fr e6.fr (Or.inr (Nat.zero_le _)))
  have Oa0_6 := Lib.hid (Oa0_5.out.fr e6.fr (Or.inr (Nat.zero_le _)))
  have Ovg0_6 := Lib.hid (Ovg0_5.out.fr e6.fr (Or.inr (Nat.zero_le _)))
  have Ovg1_6 := Lib.hid (Ovg1_5.out.fr e6.fr (Or.inr (Nat.zero_le _)))
  clear Ovw0_5 Ovw1_5 Oa0_5 Ovg0_5 Ovg1_5
  clear e6
  go_wp2_with fail
  refine (eqP_law Ovg1_6.out Ovw1_6.out (Nat.le_trans zy1.out (by omega))).mono ?_
  rintro e w7 ⟨rfl, e7⟩
  have X7 : Hid (Ext w w7) := X6.out.trans e7
  have S7 : Hid (w6.heap.size ≤ w7.heap.size) := e7.size
  have Ovw0_7 := Lib.hid (Ovw0_6.out.fr e7.fr (Or.inr (Nat.zero_le _)))
  have Ovw1_7 := Lib.hid (Ovw1_6.out.fr e7.fr (Or.inr (Nat.zero_le _)))
  have Oa0_7 := Lib.hid (Oa0_6.out.fr e7.fr (Or.inr (Nat.zero_le _)))
  have Ovg0_7 := Lib.hid (Ovg0_6.out.fr e7.fr (Or.inr (Nat.zero_le _)))
  have Ovg1_7 := Lib.hid (Ovg1_6.out.fr e7.fr (Or.inr (Nat.zero_le _)))
  clear Ovw0_6 Ovw1_6 Oa0_6 Ovg0_6 Ovg1_6
  clear e7
  go_wp2_with fail
  refine (toP_law A0 c0 x0 _ (G0.out.1.ext X7.out) zz0).mono ?_
  rintro e w8 ⟨b0, rfl, o8, e8⟩
  have Ob0_8 := Lib.hid o8
  clear o8
  have X8 : Hid (Ext w w8) := X7.out.trans e8
  have S8 : Hid (w7.heap.size ≤ w8.heap.size) := e8.size
  have Ovw0_8 := Lib.hid (Ovw0_7.out.fr e8.fr (Or.inr (Nat.zero_le _)))
  have Ovw1_8 := Lib.hid (Ovw1_7.out.fr e8.fr (Or.inr (Nat.zero_le _)))
  have Oa0_8 := Lib.hid (Oa0_7.out.fr e8.fr (Or.inr (Nat.zero_le _)))
  have Ovg0_8 := Lib.hid (Ovg0_7.out.fr e8.fr (Or.inr (Nat.zero_le _)))
  have Ovg1_8 := Lib.hid (Ovg1_7.out.fr e8.fr (Or.inr (Nat.zero_le _)))
  clear Ovw0_7 Ovw1_7 Oa0_7 Ovg0_7 Ovg1_7
  clear e8
  go_wp2_with fail
  refine (eqP_law Oa0_8.out Ob0_8.out (Nat.le_trans z0.out (by omega))).mono ?_
  rintro e w9 ⟨rfl, e9⟩
  have X9 : Hid (Ext w w9) := X8.out.trans e9
  have S9 : Hid (w8.heap.size ≤ w9.heap.size) := e9.size
  have Ovw0_9 := Lib.hid (Ovw0_8.out.fr e9.fr (Or.inr (Nat.zero_le _)))
  have Ovw1_9 := Lib.hid (Ovw1_8.out.fr e9.fr (Or.inr (Nat.zero_le _)))
  have Oa0_9 := Lib.hid (Oa0_8.out.fr e9.fr (Or.inr (Nat.zero_le _)))
  have Ovg0_9 := Lib.hid (Ovg0_8.out.fr e9.fr (Or.inr (Nat.zero_le _)))
  have Ovg1_9 := Lib.hid (Ovg1_8.out.fr e9.fr (Or.inr (Nat.zero_le _)))
  have Ob0_9 := Lib.hid (Ob0_8.out.fr e9.fr (Or.inr (Nat.zero_le _)))
  clear Ovw0_8 Ovw1_8 Oa0_8 Ovg0_8 Ovg1_8 Ob0_8
  clear e9
  clear Ob0_9
  go_wp2_with fail
  refine (markP_law Oa0_9.out _ (by have := z0.out; have := zy0.out; have := zy1.out; omega) (by have := z0.out; have := zy0.out; have := zy1.out; omega) (Nat.le_trans z0.out (by omega))).mono ?_
  rintro e w10 ⟨rfl, o10, f10⟩
  have Oa0_10 := Lib.hid o10
  clear o10
  have X10 : Hid (Ext w w10) := X9.out.then_fr f10 (by have := S1.out; have := S2.out; have := B3.out; have := S3.out; have := S4.out; have := B5.out; have := S5.out; have := S6.out; have := S7.out; have := S8.out; have := S9.out; exact (by omega))
  have S10 : Hid (w9.heap.size ≤ w10.heap.size) := f10.size
  have Ovw0_10 := Lib.hid (Ovw0_9.out.fr f10 ((by have := S1.out; have := S2.out; have := B3.out; have := S3.out; have := S4.out; have := B5.out; have := S5.out; have := S6.out; have := S7.out; have := S8.out; have := S9.out; have := S10.out; omega)))
  have Ovw1_10 := Lib.hid (Ovw1_9.out.fr f10 ((by have := S1.out; have := S2.out; have := B3.out; have := S3.out; have := S4.out; have := B5.out; have := S5.out; have := S6.out; have := S7.out; have := S8.out; have := S9.out; have := S10.out; omega)))
  have Ovg0_10 := Lib.hid (Ovg0_9.out.fr f10 ((by have := S1.out; have := S2.out; have := B3.out; have := S3.out; have := S4.out; have := B5.out; have := S5.out; have := S6.out; have := S7.out; have := S8.out; have := S9.out; have := S10.out; omega)))
  have Ovg1_10 := Lib.hid (Ovg1_9.out.fr f10 ((by have := S1.out; have := S2.out; have := B3.out; have := S3.out; have := S4.out; have := B5.out; have := S5.out; have := S6.out; have := S7.out; have := S8.out; have := S9.out; have := S10.out; omega)))
  clear Ovw0_9 Ovw1_9 Ovg0_9 Ovg1_9
  clear f10
  clear Oa0_9
  go_wp2_with fail
  refine (eqP_law Ovg0_10.out Ovw0_10.out (Nat.le_trans zy0.out (by omega))).mono ?_
  rintro e w11 ⟨rfl, e11⟩
  have X11 : Hid (Ext w w11) := X10.out.trans e11
  have S11 : Hid (w10.heap.size ≤ w11.heap.size) := e11.size
  have Ovw0_11 := Lib.hid (Ovw0_10.out.fr e11.fr (Or.inr (Nat.zero_le _)))
  have Ovw1_11 := Lib.hid (Ovw1_10.out.fr e11.fr (Or.inr (Nat.zero_le _)))
  have Oa0_11 := Lib.hid (Oa0_10.out.fr e11.fr (Or.inr (Nat.zero_le _)))
  have Ovg0_11 := Lib.hid (Ovg0_10.out.fr e11.fr (Or.inr (Nat.zero_le _)))
  have Ovg1_11 := Lib.hid (Ovg1_10.out.fr e11.fr (Or.inr (Nat.zero_le _)))
  clear Ovw0_10 Ovw1_10 Oa0_10 Ovg0_10 Ovg1_10
  clear e11
  go_wp2_with fail
  refine (eqP_law Ovg1_11.out Ovw1_11.out (Nat.le_trans zy1.out (by omega))).mono ?_
  rintro e w12 ⟨rfl, e12⟩
  have X12 : Hid (Ext w w12) := X11.out.trans e12
  have S12 : Hid (w11.heap.size ≤ w12.heap.size) := e12.size
  have Ovw0_12 := Lib.hid (Ovw0_11.out.fr e12.fr (Or.inr (Nat.zero_le _)))
  have Ovw1_12 := Lib.hid (Ovw1_11.out.fr e12.fr (Or.inr (Nat.zero_le _)))
  have Oa0_12 := Lib.hid (Oa0_11.out.fr e12.fr (Or.inr (Nat.zero_le _)))
  have Ovg0_12 := Lib.hid (Ovg0_11.out.fr e12.fr (Or.inr (Nat.zero_le _)))
  have Ovg1_12 := Lib.hid (Ovg1_11.out.fr e12.fr (Or.inr (Nat.zero_le _)))
  clear Ovw0_11 Ovw1_11 Oa0_11 Ovg0_11 Ovg1_11
  clear e12
  clear Oa0_12
  go_wp2_with fail
  refine (markP_law Ovg0_12.out _ (by have := z0.out; have := zy0.out; have := zy1.out; omega) (by have := z0.out; have := zy0.out; have := zy1.out; omega) (Nat.le_trans zy0.out (by omega))).mono ?_
  rintro e w13 ⟨rfl, o13, f13⟩
  have Ovg0_13 := Lib.hid o13
  clear o13
  have X13 : Hid (Ext w w13) := X12.out.then_fr f13 (by have := S1.out; have := S2.out; have := B3.out; have := S3.out; have := S4.out; have := B5.out; have := S5.out; have := S6.out; have := S7.out; have := S8.out; have := S9.out; have := S10.out; have := S11.out; have := S12.out; exact (by omega))
  have S13 : Hid (w12.heap.size ≤ w13.heap.size) := f13.size
  have Ovw0_13 := Lib.hid (Ovw0_12.out.fr f13 ((by have := S1.out; have := S2.out; have := B3.out; have := S3.out; have := S4.out; have := B5.out; have := S5.out; have := S6.out; have := S7.out; have := S8.out; have := S9.out; have := S10.out; have := S11.out; have := S12.out; have := S13.out; omega)))
  have Ovw1_13 := Lib.hid (Ovw1_12.out.fr f13 ((by have := S1.out; have := S2.out; have := B3.out; have := S3.out; have := S4.out; have := B5.out; have := S5.out; have := S6.out; have := S7.out; have := S8.out; have := S9.out; have := S10.out; have := S11.out; have := S12.out; have := S13.out; omega)))
  have Ovg1_13 := Lib.hid (Ovg1_12.out.fr f13 ((by have := S1.out; have := S2.out; have := B3.out; have := S3.out; have := S4.out; have := B5.out; have := S5.out; have := S6.out; have := S7.out; have := S8.out; have := S9.out; have := S10.out; have := S11.out; have := S12.out; have := S13.out; omega)))
  clear Ovw0_12 Ovw1_12 Ovg1_12
  clear f13
  clear Ovg0_12
  go_wp2_with fail
  refine (markP_law Ovg1_13.out _ (by have := z0.out; have := zy0.out; have := zy1.out; omega) (by have := z0.out; have := zy0.out; have := zy1.out; omega) (Nat.le_trans zy1.out (by omega))).mono ?_
  rintro e w14 ⟨rfl, o14, f14⟩
  have Ovg1_14 := Lib.hid o14
  clear o14
  have X14 : Hid (Ext w w14) := X13.out.then_fr f14 (by have := S1.out; have := S2.out; have := B3.out; have := S3.out; have := S4.out; have := B5.out; have := S5.out; have := S6.out; have := S7.out; have := S8.out; have := S9.out; have := S10.out; have := S11.out; have := S12.out; have := S13.out; exact (by omega))
  have S14 : Hid (w13.heap.size ≤ w14.heap.size) := f14.size
  have Ovw0_14 := Lib.hid (Ovw0_13.out.fr f14 ((by have := S1.out; have := S2.out; have := B3.out; have := S3.out; have := S4.out; have := B5.out; have := S5.out; have := S6.out; have := S7.out; have := S8.out; have := S9.out; have := S10.out; have := S11.out; have := S12.out; have := S13.out; have := S14.out; omega)))
  have Ovw1_14 := Lib.hid (Ovw1_13.out.fr f14 ((by have := S1.out; have := S2.out; have := B3.out; have := S3.out; have := S4.out; have := B5.out; have := S5.out; have := S6.out; have := S7.out; have := S8.out; have := S9.out; have := S10.out; have := S11.out; have := S12.out; have := S13.out; have := S14.out; omega)))
  have Ovg0_14 := Lib.hid (Ovg0_13.out.fr f14 ((by have := S1.out; have := S2.out; have := B3.out; have := S3.out; have := S4.out; have := B5.out; have := S5.out; have := S6.out; have := S7.out; have := S8.out; have := S9.out; have := S10.out; have := S11.out; have := S12.out; have := S13.out; have := S14.out; omega)))
  clear Ovw0_13 Ovw1_13 Ovg0_13
  clear f14
  clear Ovg1_13
  go_wp2_with fail
  refine (heldP_law _ Ovg0_14.out (by have := z0.out; have := zy0.out; have := zy1.out; omega) (by have := z0.out; have := zy0.out; have := zy1.out; omega) (Nat.le_trans zy0.out (by omega))).mono ?_
  rintro e w15 ⟨rfl, e15⟩
  have X15 : Hid (Ext w w15) := X14.out.trans e15
  have S15 : Hid (w14.heap.size ≤ w15.heap.size) := e15.size
  have Ovw0_15 := Lib.hid (Ovw0_14.out.fr e15.fr (Or.inr (Nat.zero_le _)))
  have Ovw1_15 := Lib.hid (Ovw1_14.out.fr e15.fr (Or.inr (Nat.zero_le _)))
  have Ovg0_15 := Lib.hid (Ovg0_14.out.fr e15.fr (Or.inr (Nat.zero_le _)))
  have Ovg1_15 := Lib.hid (Ovg1_14.out.fr e15.fr (Or.inr (Nat.zero_le _)))
  clear Ovw0_14 Ovw1_14 Ovg0_14 Ovg1_14
  clear e15
  go_wp2_with fail
  refine (heldP_law _ Ovg1_15.out (by have := z0.out; have := zy0.out; have := zy1.out; omega) (by have := z0.out; have := zy0.out; have := zy1.out; omega) (Nat.le_trans zy1.out (by omega))).mono ?_
  rintro e w16 ⟨rfl, e16⟩
  have X16 : Hid (Ext w w16) := X15.out.trans e16
  have S16 : Hid (w15.heap.size ≤ w16.heap.size) := e16.size
  have Ovw0_16 := Lib.hid (Ovw0_15.out.fr e16.fr (Or.inr (Nat.zero_le _)))
  have Ovw1_16 := Lib.hid (Ovw1_15.out.fr e16.fr (Or.inr (Nat.zero_le _)))
  have Ovg0_16 := Lib.hid (Ovg0_15.out.fr e16.fr (Or.inr (Nat.zero_le _)))
  have Ovg1_16 := Lib.hid (Ovg1_15.out.fr e16.fr (Or.inr (Nat.zero_le _)))
  clear Ovw0_15 Ovw1_15 Ovg0_15 Ovg1_15
  clear e16
  go_wp2_with fail
  refine (toP_law A0 c0 x0 _ (G0.out.1.ext X16.out) zz0).mono ?_
  rintro e w17 ⟨d0, rfl, o17, e17⟩
  have Od0_17 := Lib.hid o17
  clear o17
  have X17 : Hid (Ext w w17) := X16.out.trans e17
  have S17 : Hid (w16.heap.size ≤ w17.heap.size) := e17.size
  have Ovw0_17 := Lib.hid (Ovw0_16.out.fr e17.fr (Or.inr (Nat.zero_le _)))
  have Ovw1_17 := Lib.hid (Ovw1_16.out.fr e17.fr (Or.inr (Nat.zero_le _)))
  have Ovg0_17 := Lib.hid (Ovg0_16.out.fr e17.fr (Or.inr (Nat.zero_le _)))
  have Ovg1_17 := Lib.hid (Ovg1_16.out.fr e17.fr (Or.inr (Nat.zero_le _)))
  clear Ovw0_16 Ovw1_16 Ovg0_16 Ovg1_16
  clear e17
  go_wp2_with fail
  refine (CI.out _ _ _ _ Od0_17.out).mono ?_
  rintro e w18 ⟨vh0, vh1, vhL0, vhU0, vhL1, vhU1, rfl, o18_0, o18_1, hb18, e18⟩
  have Ovh0_18 := Lib.hid o18_0
  clear o18_0
  have Ovh1_18 := Lib.hid o18_1
  clear o18_1
  have B18 := Lib.hid hb18
  clear hb18
  have X18 : Hid (Ext w w18) := X17.out.trans e18
  have S18 : Hid (w17.heap.size ≤ w18.heap.size) := e18.size
  have Ovw0_18 := Lib.hid (Ovw0_17.out.fr e18.fr (Or.inr (Nat.zero_le _)))
  have Ovw1_18 := Lib.hid (Ovw1_17.out.fr e18.fr (Or.inr (Nat.zero_le _)))
  have Ovg0_18 := Lib.hid (Ovg0_17.out.fr e18.fr (Or.inr (Nat.zero_le _)))
  have Ovg1_18 := Lib.hid (Ovg1_17.out.fr e18.fr (Or.inr (Nat.zero_le _)))
  have Od0_18 := Lib.hid (Od0_17.out.fr e18.fr (Or.inr (Nat.zero_le _)))
  clear Ovw0_17 Ovw1_17 Ovg0_17 Ovg1_17 Od0_17
  clear e18
  clear Od0_18
  go_wp2_with fail
  refine (eqP_law Ovh0_18.out Ovw0_18.out (Nat.le_trans zy0.out (by omega))).mono ?_
  rintro e w19 ⟨rfl, e19⟩
  have X19 : Hid (Ext w w19) := X18.out.trans e19
  have S19 : Hid (w18.heap.size ≤ w19.heap.size) := e19.size
  have Ovw0_19 := Lib.hid (Ovw0_18.out.fr e19.fr (Or.inr (Nat.zero_le _)))
  have Ovw1_19 := Lib.hid (Ovw1_18.out.fr e19.fr (Or.inr (Nat.zero_le _)))
  have Ovg0_19 := Lib.hid (Ovg0_18.out.fr e19.fr (Or.inr (Nat.zero_le _)))
  have Ovg1_19 := Lib.hid (Ovg1_18.out.fr e19.fr (Or.inr (Nat.zero_le _)))
  have Ovh0_19 := Lib.hid (Ovh0_18.out.fr e19.fr (Or.inr (Nat.zero_le _)))
  have Ovh1_19 := Lib.hid (Ovh1_18.out.fr e19.fr (Or.inr (Nat.zero_le _)))
  clear Ovw0_18 Ovw1_18 Ovg0_18 Ovg1_18 Ovh0_18 Ovh1_18
  clear e19
  go_wp2_with fail
  refine (eqP_law Ovh1_19.out Ovw1_19.out (Nat.le_trans zy1.out (by omega))).mono ?_
  rintro e w20 ⟨rfl, e20⟩
  have X20 : Hid (Ext w w20) := X19.out.trans e20
  have S20 : Hid (w19.heap.size ≤ w20.heap.size) := e20.size
  have Ovw0_20 := Lib.hid (Ovw0_19.out.fr e20.fr (Or.inr (Nat.zero_le _)))
  have Ovw1_20 := Lib.hid (Ovw1_19.out.fr e20.fr (Or.inr (Nat.zero_le _)))
  have Ovg0_20 := Lib.hid (Ovg0_19.out.fr e20.fr (Or.inr (Nat.zero_le _)))
  have Ovg1_20 := Lib.hid (Ovg1_19.out.fr e20.fr (Or.inr (Nat.zero_le _)))
  have Ovh0_20 := Lib.hid (Ovh0_19.out.fr e20.fr (Or.inr (Nat.zero_le _)))
  have Ovh1_20 := Lib.hid (Ovh1_19.out.fr e20.fr (Or.inr (Nat.zero_le _)))
  clear Ovw0_19 Ovw1_19 Ovg0_19 Ovg1_19 Ovh0_19 Ovh1_19
  clear e20
  clear Ovh0_20
  clear Ovw0_20
  clear Ovh1_20
  clear Ovw1_20
  go_wp2_with fail
  refine (heldP_law _ Ovg0_20.out (by have := z0.out; have := zy0.out; have := zy1.out; omega) (by have := z0.out; have := zy0.out; have := zy1.out; omega) (Nat.le_trans zy0.out (by omega))).mono ?_
  rintro e w21 ⟨rfl, e21⟩
  have X21 : Hid (Ext w w21) := X20.out.trans e21
  have S21 : Hid (w20.heap.size ≤ w21.heap.size) := e21.size
  have Ovg0_21 := Lib.hid (Ovg0_20.out.fr e21.fr (Or.inr (Nat.zero_le _)))
  have Ovg1_21 := Lib.hid (Ovg1_20.out.fr e21.fr (Or.inr (Nat.zero_le _)))
  clear Ovg0_20 Ovg1_20
  clear e21
  go_wp2_with fail
  refine (heldP_law _ Ovg1_21.out (by have := z0.out; have := zy0.out; have := zy1.out; omega) (by have := z0.out; have := zy0.out; have := zy1.out; omega) (Nat.le_trans zy1.out (by omega))).mono ?_
  rintro e w22 ⟨rfl, e22⟩
  have X22 : Hid (Ext w w22) := X21.out.trans e22
  have S22 : Hid (w21.heap.size ≤ w22.heap.size) := e22.size
  have Ovg0_22 := Lib.hid (Ovg0_21.out.fr e22.fr (Or.inr (Nat.zero_le _)))
  have Ovg1_22 := Lib.hid (Ovg1_21.out.fr e22.fr (Or.inr (Nat.zero_le _)))
  clear Ovg0_21 Ovg1_21
  clear e22
  go_wp2_with fail
  go_ret
  exact ⟨rfl, X22.out⟩

theorem walk_FnExactSplitTempo (w : World) (A0 : Option Addr) (c0 : Nat) (x0 : List (Int × Int)) (g0 : Rd w 2 A0 x0.length (pairCells x0) ∧ x0.length ≤ c0 ∧ c0 ≤ maxLen ∧ ∀ q ∈ x0, (-9223372036854775808 ≤ q.1 ∧ q.1 ≤ 9223372036854775807) ∧ -9223372036854775808 ≤ q.2 ∧ q.2 ≤ 9223372036854775807) (x1 : Int) (g1 : -9223372036854775808 ≤ x1 ∧ x1 ≤ 9223372036854775807) :
    Calls Try.prog 6 #[.slice A0 x0.length c0, .int .i64 x1] w fun e w' => e = .returned (.bool true) ∧ Ext w w' := by
  by_cases hbig0 : 1048576 < x0.length
  · go_enter Try.func6, Try.ntmps6
    go_wp2_with fail
    refine (szP_bad _ _ x0.length _ _ ⟨by omega, by omega⟩ (by omega) ⟨g0.2.1, g0.2.2.1⟩).mono ?_
    rintro e v1 ⟨rfl, f1⟩
    have X : Hid (Ext w v1) := (Ext.refl w).trans f1
    clear f1
    go_wp2_with fail
    go_ret
    exact ⟨rfl, X.out⟩
  have hn : x0.length ≤ 1048576 := by omega
  exact core_FnExactSplitTempo w A0 c0 x0 g0 x1 g1 (spF1 x0 x1) (spF2 x0 x1) (spB x0 x1)
    (show szP x0 ≤ 1048576 from by unfold szP; omega)
    (Lib.hid hn)
    (show szP _ ≤ _ from by unfold szP spF1; split; (have := splA_len x0 x1; omega); simp)
    (show szP _ ≤ _ from by unfold szP spF2; split; (have := splB_len x0 x1; omega); simp)
    (Lib.hid fun w _ _ _ h => by obtain ⟨A, c, rfl, hr⟩ := h.rd; exact spS_any A c _ _ w hr hn)
    (Lib.hid fun w _ _ _ h => by obtain ⟨A, c, rfl, hr⟩ := h.rd; exact spI_any A c _ _ w hr hn)
set_option maxRecDepth 100000 in
theorem lifted_FnExactSplitTempo (os : Os) (started : os.Started) (H : Type) (enc : TypeId × Value → H) :
    ReturnsInHanded {} Try.checked os 6 .any (Rows.fnExactSplitTempoSpec.pre6 enc Try.prog Try.f6 Rows.fnExactSplitTempoRow.domain false) (Rows.fnExactSplitTempoSpec.post enc Try.prog Try.f6 false true false false) := by
  refine returnsInHanded_of_change (C := Try.checked) own started (by kernel_rfl) Try.func6
    (ChangeSpec.witness6 (enc := enc) (C := Try.checked) false ⟨#[], #[.slice none 0 0, .int .i64 0], []⟩ 8 (by kernel_rfl) (by kernel_rfl) (by kernel_rfl) (by kernel_rfl)) ?_
  intro W base args ds gs before hval0 hW hcnd _
  have hval : ∀ (j : Nat) t v, Try.f6.params[j]? = some t → args[j]? = some v → Value.okWide Try.prog W .any base t v := hval0
  have hW' := hW
  obtain ⟨p, q, hA0, hV, rfl, hfz, hnd⟩ := hW
  have hA : DataW.TrodAll enc Try.prog W 0 (fun _ => true) true Try.f6.params.toList args.toList ds p := hA0
  rw [Try.params6] at hA hval
  obtain ⟨v0, vs0, d0, ds0, p0, q0, hargs, rfl, rfl, h0, r0⟩ := trodAll_cons hA
  obtain ⟨v1, vs1, d1, ds1, p1, q1, rfl, rfl, rfl, h1, r1⟩ := trodAll_cons r0
  obtain ⟨rfl, rfl, rfl⟩ := trodAll_nil r1
  obtain rfl : args = #[v0, v1] := by cases args; simp_all
  obtain ⟨rfl, rfl⟩ := trodVars_none hV
  have k0 := h0
  have lt0 : ∀ x ∈ p0, x.block < W.heap.size := by obtain ⟨m, hm⟩ := k0; exact DataW.trod_lt m _ _ _ hm
  have k1 := h1
  have lt1 : ∀ x ∈ p1, x.block < W.heap.size := by obtain ⟨m, hm⟩ := k1; exact DataW.trod_lt m _ _ _ hm
  obtain ⟨A0, c0, x0, rfl, g0⟩ := view_pairs Try.underlying22 Try.underlying57 (by kernel_rfl) rfl rfl (by kernel_rfl) (by kernel_rfl) Try.underlying3 Try.underlying3 (hval 0 22 v0 rfl rfl) h0
  obtain ⟨x1, rfl, g1⟩ := view_int Try.underlying3 (hval 1 3 v1 rfl rfl) h1
  clear hA0 hval0
  refine (walk_FnExactSplitTempo W A0 c0 x0 g0 x1 g1).mono fun e W' ⟨he, bel⟩ => ?_
  subst he
  exact ⟨_, rfl, _, _, _, [], _, [], hW', trodAll_mk1 (shut_bool Try.underlying4 _), (trodAll_cons_mk (Below.trod laidOut (by kernel_rfl) (of_decide_eq_true (by kernel_rfl)) k0 bel lt0) (trodAll_cons_mk (Below.trod laidOut (by kernel_rfl) (of_decide_eq_true (by kernel_rfl)) k1 bel lt1) trodAll_mk0)), rfl, Below.frame bel _, fun h => by cases h⟩

theorem proved_FnExactSplitTempo : Rows.FnExactSplitTempoSaid :=
  OpenClaim.holds_of_wide 6 Try.f6 rfl rfl rfl rfl rfl rfl rfl ⟨rfl, rfl, rfl, rfl, rfl⟩ rfl rfl rfl rfl rfl (by kernel_rfl) Try.func6 (by kernel_rfl)
    (of_decide_eq_true (by kernel_rfl)) (by unfold Func.isWrapper; first | (rw [if_pos (by decide +kernel)]; kernel_rfl) | (rw [if_neg (by decide +kernel)]; exact ⟨rfl, rfl⟩))
    (fun os started H enc _ => lifted_FnExactSplitTempo os started H enc)
end Go.Proofs.Ytoobffhchbgkjaa
