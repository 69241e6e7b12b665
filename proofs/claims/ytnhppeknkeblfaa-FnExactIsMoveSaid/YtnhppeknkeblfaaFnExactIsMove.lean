/- FnExactIsMove: for all arguments the law answers true: impl.IsMove returns what the reference's function of that name returns, leaves its arguments as they were, and its result shares no memory. No conditions. -/
import Derived.Test.YtnhppeknkeblfaaRow
import Derived.Test.YtnhppeknkeblfaaOwn
import Derived.Test.YtnhppeknkeblfaaOwnR
import Derived.Test.YtnhppeknkeblfaaMvU
import Derived.Test.YtnhppeknkeblfaaMvL
import Derived.Deep.RegionHeld3
namespace Go.Proofs.Ytnhppeknkeblfaa
open Go.ChangeShapes Go.WideShapes Go.ChangeAt Go.RowKit Go.Joins

set_option maxHeartbeats 1000000 in
/-- The law's walk, over contracts of the two functions. -/
theorem core_FnExactIsMove (w : World) (n0 : Int) (A0 : Option Addr) (c0 : Nat) (x0 : List Int) (g0 : (-9223372036854775808 ≤ n0 ∧ n0 ≤ 9223372036854775807) ∧ RdI w A0 x0 ∧ x0.length ≤ c0 ∧ c0 ≤ maxLen ∧ Fits x0) (n1 : Int) (A1 : Option Addr) (c1 : Nat) (x1 : List Int) (g1 : (-9223372036854775808 ≤ n1 ∧ n1 ≤ 9223372036854775807) ∧ RdI w A1 x1 ∧ x1.length ≤ c1 ∧ c1 ≤ maxLen ∧ Fits x1)
    (y0 : Bool)
    (z0 : Hid (szR (n0, x0) ≤ 1048576))
    (z1 : Hid (szR (n1, x1) ≤ 1048576))
    (zt_ : Hid (x0.length + x1.length ≤ 1048576))
    (CS : Hid (∀ w : World, ∀ (L0 U0 : Nat) (a0 : Value), OwnR w L0 U0 a0 (n0, x0) → ∀ (L1 U1 : Nat) (a1 : Value), OwnR w L1 U1 a1 (n1, x1) → Calls Try.prog 18 #[a0, a1] w (fun e w' => e = .returned (.bool y0) ∧ Ext w w')))
    (CI : Hid (∀ w : World, ∀ (L0 U0 : Nat) (a0 : Value), OwnR w L0 U0 a0 (n0, x0) → ∀ (L1 U1 : Nat) (a1 : Value), OwnR w L1 U1 a1 (n1, x1) → Calls Try.prog 19 #[a0, a1] w (fun e w' => e = .returned (.bool y0) ∧ Ext w w'))) :
    Calls Try.prog 6 #[.agg #[.int .i64 n0, .slice A0 x0.length c0], .agg #[.int .i64 n1, .slice A1 x1.length c1]] w fun e w' => e = .returned (.bool true) ∧ Ext w w' := by
  have G0 := Lib.hid g0
  have G1 := Lib.hid g1
  clear g0
  clear g1
  have zz0 : x0.length ≤ 1048576 := by have := z0.out; unfold szR at this; omega
  have zz1 : x1.length ≤ 1048576 := by have := z1.out; unfold szR at this; omega
  have zt := zt_.out
  go_enter Try.func6, Try.ntmps6
  go_wp2_with fail
  refine (szR_ok n0 _ _ x0.length _ _ ⟨by omega, by omega⟩ (by omega)).mono ?_
  rintro e w1 ⟨rfl, e1⟩
  have X1 : Hid (Ext w w1) := (((Ext.refl w).alloc _).alloc _).trans e1
  have S1 : Hid (w.heap.size + 2 ≤ w1.heap.size) := (by have := e1.size; simp at this; omega : w.heap.size + 2 ≤ w1.heap.size)
  have hb0_0_ : w1.cell? ⟨w.heap.size, 0, none⟩ = some (.int .i64 n0) := Ext.cell e1 (by first | exact (box2 _ _ _ _ _ (by simp)).1 | exact Ext.cell ((Ext.refl _).alloc _) (box2 _ _ _ _ _ (by simp)).1)
  have hb0_0 := hb0_0_; clear hb0_0_
  have hb0_1_ : w1.cell? ⟨w.heap.size, 1, none⟩ = some (.slice A0 x0.length c0) := Ext.cell e1 (by first | exact (box2 _ _ _ _ _ (by simp)).2 | exact Ext.cell ((Ext.refl _).alloc _) (box2 _ _ _ _ _ (by simp)).2)
  have hb0_1 := hb0_1_; clear hb0_1_
  have hb1_0_ : w1.cell? ⟨w.heap.size + 1, 0, none⟩ = some (.int .i64 n1) := Ext.cell e1 (by first | exact (box2 _ _ _ _ _ (by simp)).1 | exact Ext.cell ((Ext.refl _).alloc _) (box2 _ _ _ _ _ (by simp)).1)
  have hb1_0 := hb1_0_; clear hb1_0_
  have hb1_1_ : w1.cell? ⟨w.heap.size + 1, 1, none⟩ = some (.slice A1 x1.length c1) := Ext.cell e1 (by first | exact (box2 _ _ _ _ _ (by simp)).2 | exact Ext.cell ((Ext.refl _).alloc _) (box2 _ _ _ _ _ (by simp)).2)
  have hb1_1 := hb1_1_; clear hb1_1_
  clear e1
  go_wp2_with fail
  refine (szR_ok n1 _ _ x1.length _ _ ⟨by omega, by omega⟩ (by omega)).mono ?_
  rintro e w2 ⟨rfl, e2⟩
  have X2 : Hid (Ext w w2) := X1.out.trans e2
  have S2 : Hid (w1.heap.size ≤ w2.heap.size) := e2.size
  have hb0_0_ : w2.cell? ⟨w.heap.size, 0, none⟩ = some (.int .i64 n0) := Ext.cell e2 hb0_0
  clear hb0_0
  have hb0_0 := hb0_0_; clear hb0_0_
  have hb0_1_ : w2.cell? ⟨w.heap.size, 1, none⟩ = some (.slice A0 x0.length c0) := Ext.cell e2 hb0_1
  clear hb0_1
  have hb0_1 := hb0_1_; clear hb0_1_
  have hb1_0_ : w2.cell? ⟨w.heap.size + 1, 0, none⟩ = some (.int .i64 n1) := Ext.cell e2 hb1_0
  clear hb1_0
  have hb1_0 := hb1_0_; clear hb1_0_
  have hb1_1_ : w2.cell? ⟨w.heap.size + 1, 1, none⟩ = some (.slice A1 x1.length c1) := Ext.cell e2 hb1_1
  clear hb1_1
  have hb1_1 := hb1_1_; clear hb1_1_
  clear e2
  have T0_ := Lib.hid (fun (W : World) (h : Ext w W) => toR_law n0 A0 c0 x0 W (G0.out.2.1.ext h) zz0)
  have T1_ := Lib.hid (fun (W : World) (h : Ext w W) => toR_law n1 A1 c1 x1 W (G1.out.2.1.ext h) zz1)
  go_wp2_with fail
  go_region_held3 (fun W => W.cell? ⟨w.heap.size, 0, none⟩ = some (.int .i64 n0) ∧ W.cell? ⟨w.heap.size, 1, none⟩ = some (.slice A0 x0.length c0) ∧ W.cell? ⟨w.heap.size + 1, 0, none⟩ = some (.int .i64 n1) ∧ W.cell? ⟨w.heap.size + 1, 1, none⟩ = some (.slice A1 x1.length c1))
    (first | exact ⟨hb0_0, hb0_1, hb1_0, hb1_1⟩ | exact ⟨(Ext.cell er0 hb0_0), (Ext.cell er0 hb0_1), (Ext.cell er0 hb1_0), (Ext.cell er0 hb1_1)⟩ | exact ⟨(Ext.cell er1 (Ext.cell er0 hb0_0)), (Ext.cell er1 (Ext.cell er0 hb0_1)), (Ext.cell er1 (Ext.cell er0 hb1_0)), (Ext.cell er1 (Ext.cell er0 hb1_1))⟩ | exact ⟨(Ext.cell er2 (Ext.cell er1 (Ext.cell er0 hb0_0))), (Ext.cell er2 (Ext.cell er1 (Ext.cell er0 hb0_1))), (Ext.cell er2 (Ext.cell er1 (Ext.cell er0 hb1_0))), (Ext.cell er2 (Ext.cell er1 (Ext.cell er0 hb1_1)))⟩)
    (first
      | (go_at_call 9; (with_reducible refine (T0_.out (World.drew w2) (X2.out.drew)).mono ?_); rintro e wr0 ⟨vr0, rfl, ⟨Ar0, cr0, rfl, or0⟩, er0⟩; have oR0 : OwnR wr0 w2.drew.heap.size wr0.heap.size (.agg #[.int .i64 n0, .slice Ar0 x0.length cr0]) (n0, x0) := ⟨Ar0, cr0, rfl, or0⟩)
      | (go_at_call 9; (with_reducible refine (T1_.out wr0 ((X2.out.drew.trans er0))).mono ?_); rintro e wr1 ⟨vr1, rfl, ⟨Ar1, cr1, rfl, or1⟩, er1⟩; have oR1 : OwnR wr1 wr0.heap.size wr1.heap.size (.agg #[.int .i64 n1, .slice Ar1 x1.length cr1]) (n1, x1) := ⟨Ar1, cr1, rfl, or1⟩)
      | (go_at_call 18; refine (CS.out _ _ _ _ (OwnR.fr oR0 er1.fr (Or.inr (Nat.zero_le _))) _ _ _ oR1).mono ?_; rintro e w3 ⟨rfl, er2⟩))
  have e3 : Ext w2 w3 := ((((Ext.drew (Ext.refl w2)).trans er0).trans er1).trans er2)
  clear er0 er1 er2 or0 oR0 or1 oR1 T0_ T1_
  have X3 : Hid (Ext w w3) := X2.out.trans e3
  have S3 : Hid (w2.heap.size ≤ w3.heap.size) := e3.size
  have hb0_0_ : w3.cell? ⟨w.heap.size, 0, none⟩ = some (.int .i64 n0) := Ext.cell e3 hb0_0
  clear hb0_0
  have hb0_0 := hb0_0_; clear hb0_0_
  have hb0_1_ : w3.cell? ⟨w.heap.size, 1, none⟩ = some (.slice A0 x0.length c0) := Ext.cell e3 hb0_1
  clear hb0_1
  have hb0_1 := hb0_1_; clear hb0_1_
  have hb1_0_ : w3.cell? ⟨w.heap.size + 1, 0, none⟩ = some (.int .i64 n1) := Ext.cell e3 hb1_0
  clear hb1_0
  have hb1_0 := hb1_0_; clear hb1_0_
  have hb1_1_ : w3.cell? ⟨w.heap.size + 1, 1, none⟩ = some (.slice A1 x1.length c1) := Ext.cell e3 hb1_1
  clear hb1_1
  have hb1_1 := hb1_1_; clear hb1_1_
  clear e3
  go_wp2_with fail
  refine (toR_law n0 A0 c0 x0 _ (G0.out.2.1.ext X3.out) zz0).mono ?_
  rintro e w4 ⟨a0, rfl, o4, e4⟩
  obtain ⟨Aa0, ca0, rfl, oo4⟩ := o4
  have Oa0_4 : Hid (OwnR w4 _ _ (.agg #[.int .i64 n0, .slice Aa0 x0.length ca0]) (n0, x0)) := ⟨Aa0, ca0, rfl, oo4⟩
  clear oo4
  have X4 : Hid (Ext w w4) := X3.out.trans e4
  have S4 : Hid (w3.heap.size ≤ w4.heap.size) := e4.size
  have hb0_0_ : w4.cell? ⟨w.heap.size, 0, none⟩ = some (.int .i64 n0) := Ext.cell e4 hb0_0
  clear hb0_0
  have hb0_0 := hb0_0_; clear hb0_0_
  have hb0_1_ : w4.cell? ⟨w.heap.size, 1, none⟩ = some (.slice A0 x0.length c0) := Ext.cell e4 hb0_1
  clear hb0_1
  have hb0_1 := hb0_1_; clear hb0_1_
  have hb1_0_ : w4.cell? ⟨w.heap.size + 1, 0, none⟩ = some (.int .i64 n1) := Ext.cell e4 hb1_0
  clear hb1_0
  have hb1_0 := hb1_0_; clear hb1_0_
  have hb1_1_ : w4.cell? ⟨w.heap.size + 1, 1, none⟩ = some (.slice A1 x1.length c1) := Ext.cell e4 hb1_1
  clear hb1_1
  have hb1_1 := hb1_1_; clear hb1_1_
  clear e4
  have X4_ : Hid (Ext w (w4.alloc (.cells #[.int .i64 n0, .slice Aa0 x0.length ca0] 27))) := X4.out.alloc _
  clear X4
  have X4 := X4_; clear X4_
  have Oa0_4_ := Lib.hid (Oa0_4.out.fr ((Ext.refl w4).alloc (.cells #[.int .i64 n0, .slice Aa0 x0.length ca0] 27)).fr (Or.inr (Nat.zero_le _)))
  clear Oa0_4
  have hb0_0_ := Ext.cell ((Ext.refl w4).alloc (.cells #[.int .i64 n0, .slice Aa0 x0.length ca0] 27)) hb0_0
  clear hb0_0
  have hb0_0 := hb0_0_; clear hb0_0_
  have hb0_1_ := Ext.cell ((Ext.refl w4).alloc (.cells #[.int .i64 n0, .slice Aa0 x0.length ca0] 27)) hb0_1
  clear hb0_1
  have hb0_1 := hb0_1_; clear hb0_1_
  have hb1_0_ := Ext.cell ((Ext.refl w4).alloc (.cells #[.int .i64 n0, .slice Aa0 x0.length ca0] 27)) hb1_0
  clear hb1_0
  have hb1_0 := hb1_0_; clear hb1_0_
  have hb1_1_ := Ext.cell ((Ext.refl w4).alloc (.cells #[.int .i64 n0, .slice Aa0 x0.length ca0] 27)) hb1_1
  clear hb1_1
  have hb1_1 := hb1_1_; clear hb1_1_
  have kba0_0 : (w4.alloc (.cells #[.int .i64 n0, .slice Aa0 x0.length ca0] 27)).cell? ⟨w4.heap.size, 0, none⟩ = some (.int .i64 n0) := (box2 _ _ _ _ _ rfl).1
  have kba0_1 : (w4.alloc (.cells #[.int .i64 n0, .slice Aa0 x0.length ca0] 27)).cell? ⟨w4.heap.size, 1, none⟩ = some (.slice Aa0 x0.length ca0) := (box2 _ _ _ _ _ rfl).2
  go_wp2_with fail
  refine (toR_law n1 A1 c1 x1 _ (G1.out.2.1.ext X4.out) zz1).mono ?_
  rintro e w5 ⟨a1, rfl, o5, e5⟩
  obtain ⟨Aa1, ca1, rfl, oo5⟩ := o5
  have Oa1_5 : Hid (OwnR w5 _ _ (.agg #[.int .i64 n1, .slice Aa1 x1.length ca1]) (n1, x1)) := ⟨Aa1, ca1, rfl, oo5⟩
  clear oo5
  have X5 : Hid (Ext w w5) := X4.out.trans e5
  have P5 : Hid ((w4.alloc (.cells #[.int .i64 n0, .slice Aa0 x0.length ca0] 27)).heap.size = w4.heap.size + 1) := (by simp : (w4.alloc (.cells #[.int .i64 n0, .slice Aa0 x0.length ca0] 27)).heap.size = w4.heap.size + 1)
  have S5 : Hid (w4.heap.size + 1 ≤ w5.heap.size) := (by have := e5.size; simpa using this : w4.heap.size + 1 ≤ w5.heap.size)
  have Oa0_5 := Lib.hid (Oa0_4_.out.fr e5.fr (Or.inr (Nat.zero_le _)))
  clear Oa0_4_
  have hb0_0_ : w5.cell? ⟨w.heap.size, 0, none⟩ = some (.int .i64 n0) := Ext.cell e5 hb0_0
  clear hb0_0
  have hb0_0 := hb0_0_; clear hb0_0_
  have hb0_1_ : w5.cell? ⟨w.heap.size, 1, none⟩ = some (.slice A0 x0.length c0) := Ext.cell e5 hb0_1
  clear hb0_1
  have hb0_1 := hb0_1_; clear hb0_1_
  have hb1_0_ : w5.cell? ⟨w.heap.size + 1, 0, none⟩ = some (.int .i64 n1) := Ext.cell e5 hb1_0
  clear hb1_0
  have hb1_0 := hb1_0_; clear hb1_0_
  have hb1_1_ : w5.cell? ⟨w.heap.size + 1, 1, none⟩ = some (.slice A1 x1.length c1) := Ext.cell e5 hb1_1
  clear hb1_1
  have hb1_1 := hb1_1_; clear hb1_1_
  have kba0_0_ : w5.cell? ⟨w4.heap.size, 0, none⟩ = some (.int .i64 n0) := Ext.cell e5 kba0_0
  clear kba0_0
  have kba0_0 := kba0_0_; clear kba0_0_
  have kba0_1_ : w5.cell? ⟨w4.heap.size, 1, none⟩ = some (.slice Aa0 x0.length ca0) := Ext.cell e5 kba0_1
  clear kba0_1
  have kba0_1 := kba0_1_; clear kba0_1_
  clear e5
  have X5_ : Hid (Ext w (w5.alloc (.cells #[.int .i64 n1, .slice Aa1 x1.length ca1] 27))) := X5.out.alloc _
  clear X5
  have X5 := X5_; clear X5_
  have Oa0_5_ := Lib.hid (Oa0_5.out.fr ((Ext.refl w5).alloc (.cells #[.int .i64 n1, .slice Aa1 x1.length ca1] 27)).fr (Or.inr (Nat.zero_le _)))
  clear Oa0_5
  have Oa1_5_ := Lib.hid (Oa1_5.out.fr ((Ext.refl w5).alloc (.cells #[.int .i64 n1, .slice Aa1 x1.length ca1] 27)).fr (Or.inr (Nat.zero_le _)))
  clear Oa1_5
  have kba0_0_ := Ext.cell ((Ext.refl w5).alloc (.cells #[.int .i64 n1, .slice Aa1 x1.length ca1] 27)) kba0_0
  clear kba0_0
  have kba0_0 := kba0_0_; clear kba0_0_
  have kba0_1_ := Ext.cell ((Ext.refl w5).alloc (.cells #[.int .i64 n1, .slice Aa1 x1.length ca1] 27)) kba0_1
  clear kba0_1
  have kba0_1 := kba0_1_; clear kba0_1_
  have hb0_0_ := Ext.cell ((Ext.refl w5).alloc (.cells #[.int .i64 n1, .slice Aa1 x1.length ca1] 27)) hb0_0
  clear hb0_0
  have hb0_0 := hb0_0_; clear hb0_0_
  have hb0_1_ := Ext.cell ((Ext.refl w5).alloc (.cells #[.int .i64 n1, .slice Aa1 x1.length ca1] 27)) hb0_1
  clear hb0_1
  have hb0_1 := hb0_1_; clear hb0_1_
  have hb1_0_ := Ext.cell ((Ext.refl w5).alloc (.cells #[.int .i64 n1, .slice Aa1 x1.length ca1] 27)) hb1_0
  clear hb1_0
  have hb1_0 := hb1_0_; clear hb1_0_
  have hb1_1_ := Ext.cell ((Ext.refl w5).alloc (.cells #[.int .i64 n1, .slice Aa1 x1.length ca1] 27)) hb1_1
  clear hb1_1
  have hb1_1 := hb1_1_; clear hb1_1_
  have kba1_0 : (w5.alloc (.cells #[.int .i64 n1, .slice Aa1 x1.length ca1] 27)).cell? ⟨w5.heap.size, 0, none⟩ = some (.int .i64 n1) := (box2 _ _ _ _ _ rfl).1
  have kba1_1 : (w5.alloc (.cells #[.int .i64 n1, .slice Aa1 x1.length ca1] 27)).cell? ⟨w5.heap.size, 1, none⟩ = some (.slice Aa1 x1.length ca1) := (box2 _ _ _ _ _ rfl).2
  go_wp2_with fail
  refine (CI.out _ _ _ _ Oa0_5_.out _ _ _ Oa1_5_.out).mono ?_
  rintro e w6 ⟨rfl, e6⟩
  have X6 : Hid (Ext w w6) := X5.out.trans e6
  have P6 : Hid ((w5.alloc (.cells #[.int .i64 n1, .slice Aa1 x1.length ca1] 27)).heap.size = w5.heap.size + 1) := (by simp : (w5.alloc (.cells #[.int .i64 n1, .slice Aa1 x1.length ca1] 27)).heap.size = w5.heap.size + 1)
  have S6 : Hid (w5.heap.size + 1 ≤ w6.heap.size) := (by have := e6.size; simpa using this : w5.heap.size + 1 ≤ w6.heap.size)
  have Oa0_6 := Lib.hid (Oa0_5_.out.fr e6.fr (Or.inr (Nat.zero_le _)))
  have Oa1_6 := Lib.hid (Oa1_5_.out.fr e6.fr (Or.inr (Nat.zero_le _)))
  clear Oa0_5_ Oa1_5_
  have hb0_0_ : w6.cell? ⟨w.heap.size, 0, none⟩ = some (.int .i64 n0) := Ext.cell e6 hb0_0
  clear hb0_0
  have hb0_0 := hb0_0_; clear hb0_0_
  have hb0_1_ : w6.cell? ⟨w.heap.size, 1, none⟩ = some (.slice A0 x0.length c0) := Ext.cell e6 hb0_1
  clear hb0_1
  have hb0_1 := hb0_1_; clear hb0_1_
  have hb1_0_ : w6.cell? ⟨w.heap.size + 1, 0, none⟩ = some (.int .i64 n1) := Ext.cell e6 hb1_0
  clear hb1_0
  have hb1_0 := hb1_0_; clear hb1_0_
  have hb1_1_ : w6.cell? ⟨w.heap.size + 1, 1, none⟩ = some (.slice A1 x1.length c1) := Ext.cell e6 hb1_1
  clear hb1_1
  have hb1_1 := hb1_1_; clear hb1_1_
  have kba0_0_ : w6.cell? ⟨w4.heap.size, 0, none⟩ = some (.int .i64 n0) := Ext.cell e6 kba0_0
  clear kba0_0
  have kba0_0 := kba0_0_; clear kba0_0_
  have kba0_1_ : w6.cell? ⟨w4.heap.size, 1, none⟩ = some (.slice Aa0 x0.length ca0) := Ext.cell e6 kba0_1
  clear kba0_1
  have kba0_1 := kba0_1_; clear kba0_1_
  have kba1_0_ : w6.cell? ⟨w5.heap.size, 0, none⟩ = some (.int .i64 n1) := Ext.cell e6 kba1_0
  clear kba1_0
  have kba1_0 := kba1_0_; clear kba1_0_
  have kba1_1_ : w6.cell? ⟨w5.heap.size, 1, none⟩ = some (.slice Aa1 x1.length ca1) := Ext.cell e6 kba1_1
  clear kba1_1
  have kba1_1 := kba1_1_; clear kba1_1_
  clear e6
  go_wp2_with fail
  go_region_held3 (fun W => W.cell? ⟨w4.heap.size, 0, none⟩ = some (.int .i64 n0) ∧ W.cell? ⟨w4.heap.size, 1, none⟩ = some (.slice Aa0 x0.length ca0) ∧ W.cell? ⟨w.heap.size, 0, none⟩ = some (.int .i64 n0) ∧ W.cell? ⟨w.heap.size, 1, none⟩ = some (.slice A0 x0.length c0))
    (first | exact ⟨kba0_0, kba0_1, hb0_0, hb0_1⟩ | exact ⟨Ext.cell eb7 kba0_0, Ext.cell eb7 kba0_1, Ext.cell eb7 hb0_0, Ext.cell eb7 hb0_1⟩ | exact ⟨Ext.cell ec7 (Ext.cell eb7 kba0_0), Ext.cell ec7 (Ext.cell eb7 kba0_1), Ext.cell ec7 (Ext.cell eb7 hb0_0), Ext.cell ec7 (Ext.cell eb7 hb0_1)⟩)
    (first
      | (go_at_call 9; refine (toR_law n0 A0 c0 x0 (World.drew w6) (G0.out.2.1.ext X6.out.drew) zz0).mono ?_; rintro e wb7 ⟨vb7, rfl, ⟨Ab7, cb7, rfl, ob7⟩, eb7⟩)
      | (go_at_call 11; refine (eqR_law (Oa0_6.out.fr ((Ext.drew (Ext.refl w6)).trans eb7).fr (Or.inr (Nat.zero_le _))) (⟨Ab7, cb7, rfl, ob7⟩ : OwnR wb7 _ _ (.agg #[.int .i64 n0, .slice Ab7 x0.length cb7]) (n0, x0)) (Nat.le_trans z0.out (by omega))).mono ?_; rintro e w7 ⟨rfl, ec7⟩))
  have e7 : Ext w6 w7 := ((Ext.drew (Ext.refl w6)).trans eb7).trans ec7
  clear eb7 ec7 ob7
  have X7 : Hid (Ext w w7) := X6.out.trans e7
  have S7 : Hid (w6.heap.size ≤ w7.heap.size) := e7.size
  have Oa0_7 := Lib.hid (Oa0_6.out.fr e7.fr (Or.inr (Nat.zero_le _)))
  have Oa1_7 := Lib.hid (Oa1_6.out.fr e7.fr (Or.inr (Nat.zero_le _)))
  clear Oa0_6 Oa1_6
  have hb0_0_ : w7.cell? ⟨w.heap.size, 0, none⟩ = some (.int .i64 n0) := Ext.cell e7 hb0_0
  clear hb0_0
  have hb0_0 := hb0_0_; clear hb0_0_
  have hb0_1_ : w7.cell? ⟨w.heap.size, 1, none⟩ = some (.slice A0 x0.length c0) := Ext.cell e7 hb0_1
  clear hb0_1
  have hb0_1 := hb0_1_; clear hb0_1_
  have hb1_0_ : w7.cell? ⟨w.heap.size + 1, 0, none⟩ = some (.int .i64 n1) := Ext.cell e7 hb1_0
  clear hb1_0
  have hb1_0 := hb1_0_; clear hb1_0_
  have hb1_1_ : w7.cell? ⟨w.heap.size + 1, 1, none⟩ = some (.slice A1 x1.length c1) := Ext.cell e7 hb1_1
  clear hb1_1
  have hb1_1 := hb1_1_; clear hb1_1_
  have kba0_0_ : w7.cell? ⟨w4.heap.size, 0, none⟩ = some (.int .i64 n0) := Ext.cell e7 kba0_0
  clear kba0_0
  have kba0_0 := kba0_0_; clear kba0_0_
  have kba0_1_ : w7.cell? ⟨w4.heap.size, 1, none⟩ = some (.slice Aa0 x0.length ca0) := Ext.cell e7 kba0_1
  clear kba0_1
  have kba0_1 := kba0_1_; clear kba0_1_
  have kba1_0_ : w7.cell? ⟨w5.heap.size, 0, none⟩ = some (.int .i64 n1) := Ext.cell e7 kba1_0
  clear kba1_0
  have kba1_0 := kba1_0_; clear kba1_0_
  have kba1_1_ : w7.cell? ⟨w5.heap.size, 1, none⟩ = some (.slice Aa1 x1.length ca1) := Ext.cell e7 kba1_1
  clear kba1_1
  have kba1_1 := kba1_1_; clear kba1_1_
  clear e7
  go_wp2_with fail
  go_region_held3 (fun W => W.cell? ⟨w5.heap.size, 0, none⟩ = some (.int .i64 n1) ∧ W.cell? ⟨w5.heap.size, 1, none⟩ = some (.slice Aa1 x1.length ca1) ∧ W.cell? ⟨w.heap.size + 1, 0, none⟩ = some (.int .i64 n1) ∧ W.cell? ⟨w.heap.size + 1, 1, none⟩ = some (.slice A1 x1.length c1))
    (first | exact ⟨kba1_0, kba1_1, hb1_0, hb1_1⟩ | exact ⟨Ext.cell eb8 kba1_0, Ext.cell eb8 kba1_1, Ext.cell eb8 hb1_0, Ext.cell eb8 hb1_1⟩ | exact ⟨Ext.cell ec8 (Ext.cell eb8 kba1_0), Ext.cell ec8 (Ext.cell eb8 kba1_1), Ext.cell ec8 (Ext.cell eb8 hb1_0), Ext.cell ec8 (Ext.cell eb8 hb1_1)⟩)
    (first
      | (go_at_call 9; refine (toR_law n1 A1 c1 x1 (World.drew w7) (G1.out.2.1.ext X7.out.drew) zz1).mono ?_; rintro e wb8 ⟨vb8, rfl, ⟨Ab8, cb8, rfl, ob8⟩, eb8⟩)
      | (go_at_call 11; refine (eqR_law (Oa1_7.out.fr ((Ext.drew (Ext.refl w7)).trans eb8).fr (Or.inr (Nat.zero_le _))) (⟨Ab8, cb8, rfl, ob8⟩ : OwnR wb8 _ _ (.agg #[.int .i64 n1, .slice Ab8 x1.length cb8]) (n1, x1)) (Nat.le_trans z1.out (by omega))).mono ?_; rintro e w8 ⟨rfl, ec8⟩))
  have e8 : Ext w7 w8 := ((Ext.drew (Ext.refl w7)).trans eb8).trans ec8
  clear eb8 ec8 ob8
  have X8 : Hid (Ext w w8) := X7.out.trans e8
  have S8 : Hid (w7.heap.size ≤ w8.heap.size) := e8.size
  have Oa0_8 := Lib.hid (Oa0_7.out.fr e8.fr (Or.inr (Nat.zero_le _)))
  have Oa1_8 := Lib.hid (Oa1_7.out.fr e8.fr (Or.inr (Nat.zero_le _)))
  clear Oa0_7 Oa1_7
  have hb0_0_ : w8.cell? ⟨w.heap.size, 0, none⟩ = some (.int .i64 n0) := Ext.cell e8 hb0_0
  clear hb0_0
  have hb0_0 := hb0_0_; clear hb0_0_
  have hb0_1_ : w8.cell? ⟨w.heap.size, 1, none⟩ = some (.slice A0 x0.length c0) := Ext.cell e8 hb0_1
  clear hb0_1
  have hb0_1 := hb0_1_; clear hb0_1_
  have hb1_0_ : w8.cell? ⟨w.heap.size + 1, 0, none⟩ = some (.int .i64 n1) := Ext.cell e8 hb1_0
  clear hb1_0
  have hb1_0 := hb1_0_; clear hb1_0_
  have hb1_1_ : w8.cell? ⟨w.heap.size + 1, 1, none⟩ = some (.slice A1 x1.length c1) := Ext.cell e8 hb1_1
  clear hb1_1
  have hb1_1 := hb1_1_; clear hb1_1_
  have kba0_0_ : w8.cell? ⟨w4.heap.size, 0, none⟩ = some (.int .i64 n0) := Ext.cell e8 kba0_0
  clear kba0_0
  have kba0_0 := kba0_0_; clear kba0_0_
  have kba0_1_ : w8.cell? ⟨w4.heap.size, 1, none⟩ = some (.slice Aa0 x0.length ca0) := Ext.cell e8 kba0_1
  clear kba0_1
  have kba0_1 := kba0_1_; clear kba0_1_
  have kba1_0_ : w8.cell? ⟨w5.heap.size, 0, none⟩ = some (.int .i64 n1) := Ext.cell e8 kba1_0
  clear kba1_0
  have kba1_0 := kba1_0_; clear kba1_0_
  have kba1_1_ : w8.cell? ⟨w5.heap.size, 1, none⟩ = some (.slice Aa1 x1.length ca1) := Ext.cell e8 kba1_1
  clear kba1_1
  have kba1_1 := kba1_1_; clear kba1_1_
  clear e8
  go_wp2_with fail
  go_ret
  exact ⟨rfl, X8.out⟩

theorem walk_FnExactIsMove (w : World) (n0 : Int) (A0 : Option Addr) (c0 : Nat) (x0 : List Int) (g0 : (-9223372036854775808 ≤ n0 ∧ n0 ≤ 9223372036854775807) ∧ RdI w A0 x0 ∧ x0.length ≤ c0 ∧ c0 ≤ maxLen ∧ Fits x0) (n1 : Int) (A1 : Option Addr) (c1 : Nat) (x1 : List Int) (g1 : (-9223372036854775808 ≤ n1 ∧ n1 ≤ 9223372036854775807) ∧ RdI w A1 x1 ∧ x1.length ≤ c1 ∧ c1 ≤ maxLen ∧ Fits x1) :
    Calls Try.prog 6 #[.agg #[.int .i64 n0, .slice A0 x0.length c0], .agg #[.int .i64 n1, .slice A1 x1.length c1]] w fun e w' => e = .returned (.bool true) ∧ Ext w w' := by
  by_cases hbig0 : 1048576 < x0.length
  · go_enter Try.func6, Try.ntmps6
    go_wp2_with fail
    refine (szR_bad n0 _ _ x0.length _ _ ⟨by omega, by omega⟩ (by omega) ⟨g0.2.2.1, g0.2.2.2.1⟩).mono ?_
    rintro e v1 ⟨rfl, f1⟩
    have X : Hid (Ext w v1) := (((Ext.refl w).alloc _).alloc _).trans f1
    clear f1
    go_wp2_with fail
    go_ret
    exact ⟨rfl, X.out⟩
  by_cases hbig1 : 1048576 < x0.length + x1.length
  · go_enter Try.func6, Try.ntmps6
    go_wp2_with fail
    refine (szR_ok n0 _ _ x0.length _ _ ⟨by omega, by omega⟩ (by omega)).mono ?_
    rintro e u0 ⟨rfl, f0⟩
    have X0 : Hid (Ext w u0) := (((Ext.refl w).alloc _).alloc _).trans f0
    have hb0_0 : u0.cell? ⟨w.heap.size, 0, none⟩ = some (.int .i64 n0) := Ext.cell f0 (by first | exact (box2 _ _ _ _ _ (by simp)).1 | exact Ext.cell ((Ext.refl _).alloc _) (box2 _ _ _ _ _ (by simp)).1)
    have hb0_1 : u0.cell? ⟨w.heap.size, 1, none⟩ = some (.slice A0 x0.length c0) := Ext.cell f0 (by first | exact (box2 _ _ _ _ _ (by simp)).2 | exact Ext.cell ((Ext.refl _).alloc _) (box2 _ _ _ _ _ (by simp)).2)
    have hb1_0 : u0.cell? ⟨w.heap.size + 1, 0, none⟩ = some (.int .i64 n1) := Ext.cell f0 (by first | exact (box2 _ _ _ _ _ (by simp)).1 | exact Ext.cell ((Ext.refl _).alloc _) (box2 _ _ _ _ _ (by simp)).1)
    have hb1_1 : u0.cell? ⟨w.heap.size + 1, 1, none⟩ = some (.slice A1 x1.length c1) := Ext.cell f0 (by first | exact (box2 _ _ _ _ _ (by simp)).2 | exact Ext.cell ((Ext.refl _).alloc _) (box2 _ _ _ _ _ (by simp)).2)
    clear f0
    go_wp2_with fail
    refine (szR_bad n1 _ _ x1.length _ _ ⟨by omega, by omega⟩ (by omega) ⟨g1.2.2.1, g1.2.2.2.1⟩).mono ?_
    rintro e v1 ⟨rfl, f1⟩
    have X : Hid (Ext w v1) := X0.out.trans f1
    clear f1
    go_wp2_with fail
    go_ret
    exact ⟨rfl, X.out⟩
  have hn : x0.length + x1.length ≤ 1048576 := by omega
  exact core_FnExactIsMove w n0 A0 c0 x0 g0 n1 A1 c1 x1 g1 (imF n0 x0 n1 x1)
    (show szR (n0, x0) ≤ 1048576 from by unfold szR; (try dsimp only); omega)
    (show szR (n1, x1) ≤ 1048576 from by unfold szR; (try dsimp only); omega)
    (Lib.hid hn)
    (Lib.hid fun w _ _ _ h _ _ _ k => by obtain ⟨A, c, rfl, hr, hc⟩ := h.rdc; obtain ⟨A', c', rfl, hr', hc'⟩ := k.rdc; exact imS_any _ _ A A' c c' _ _ w hr hr' (by dsimp only; omega) (by dsimp only; omega))
    (Lib.hid fun w _ _ _ h _ _ _ k => by obtain ⟨A, c, rfl, hr, hc⟩ := h.rdc; obtain ⟨A', c', rfl, hr', hc'⟩ := k.rdc; exact imI_any _ _ A A' c c' _ _ w hr hr' (by dsimp only; omega) (by dsimp only; omega))
set_option maxRecDepth 100000 in
theorem lifted_FnExactIsMove (os : Os) (started : os.Started) (H : Type) (enc : TypeId × Value → H) :
    ReturnsInHanded {} Try.checked os 6 .any (Rows.fnExactIsMoveSpec.pre6 enc Try.prog Try.f6 Rows.fnExactIsMoveRow.domain false) (Rows.fnExactIsMoveSpec.post enc Try.prog Try.f6 false true false false) := by
  refine returnsInHanded_of_change (C := Try.checked) own started (by kernel_rfl) Try.func6
    (ChangeSpec.witness6 (enc := enc) (C := Try.checked) false ⟨#[], #[.agg #[.int .i64 0, .slice none 0 0], .agg #[.int .i64 0, .slice none 0 0]], []⟩ 8 (by kernel_rfl) (by kernel_rfl) (by kernel_rfl) (by kernel_rfl)) ?_
  intro W base args ds gs before hval0 hW hcnd _
  have hval : ∀ (j : Nat) t v, Try.f6.params[j]? = some t → args[j]? = some v → Value.okWide Try.prog W .any base t v := hval0
  have hW' := hW
  obtain ⟨p, q, hA0, hV, rfl, hfz, hnd⟩ := hW
  have hA : DataW.TrodAll enc Try.prog W 0 (fun _ => true) true Try.f6.params.toList args.toList ds p := hA0
  rw [Try.params6] at hA hval
  obtain ⟨v0, vs0, d0, ds0, p0, q0, hargs, rfl, rfl, h0, r0⟩ := trodAll_cons hA
  obtain ⟨v1, vs1, d1, ds1, p1, q1, rfl, rfl, rfl, h1, r1⟩ := trodAll_cons r0
  obtain ⟨rfl, rfl, rfl⟩ := trodAll_nil r1
  obtain rfl : args = #[v0, v1] := by cases args; simp_all
  obtain ⟨rfl, rfl⟩ := trodVars_none hV
  have k0 := h0
  have lt0 : ∀ x ∈ p0, x.block < W.heap.size := by obtain ⟨m, hm⟩ := k0; exact DataW.trod_lt m _ _ _ hm
  have k1 := h1
  have lt1 : ∀ x ∈ p1, x.block < W.heap.size := by obtain ⟨m, hm⟩ := k1; exact DataW.trod_lt m _ _ _ hm
  obtain ⟨n0, A0, c0, x0, rfl, g0⟩ := view_rhythm Try.underlying24 (by kernel_rfl) (by kernel_rfl) Try.underlying3 Try.underlying22 Try.underlying3 (by kernel_rfl) (hval 0 24 v0 rfl rfl) h0
  obtain ⟨n1, A1, c1, x1, rfl, g1⟩ := view_rhythm Try.underlying24 (by kernel_rfl) (by kernel_rfl) Try.underlying3 Try.underlying22 Try.underlying3 (by kernel_rfl) (hval 1 24 v1 rfl rfl) h1
  clear hA0 hval0
  refine (walk_FnExactIsMove W n0 A0 c0 x0 g0 n1 A1 c1 x1 g1).mono fun e W' ⟨he, bel⟩ => ?_
  subst he
  exact ⟨_, rfl, _, _, _, [], _, [], hW', trodAll_mk1 (shut_bool Try.underlying4 _), (trodAll_cons_mk (Below.trod laidOut (by kernel_rfl) (of_decide_eq_true (by kernel_rfl)) k0 bel lt0) (trodAll_cons_mk (Below.trod laidOut (by kernel_rfl) (of_decide_eq_true (by kernel_rfl)) k1 bel lt1) trodAll_mk0)), rfl, Below.frame bel _, fun h => by cases h⟩

theorem proved_FnExactIsMove : Rows.FnExactIsMoveSaid :=
  OpenClaim.holds_of_wide 6 Try.f6 rfl rfl rfl rfl rfl rfl rfl ⟨rfl, rfl, rfl, rfl, rfl⟩ rfl rfl rfl rfl rfl (by kernel_rfl) Try.func6 (by kernel_rfl)
    (of_decide_eq_true (by kernel_rfl)) (by unfold Func.isWrapper; first | (rw [if_pos (by decide +kernel)]; kernel_rfl) | (rw [if_neg (by decide +kernel)]; exact ⟨rfl, rfl⟩))
    (fun os started H enc _ => lifted_FnExactIsMove os started H enc)
end Go.Proofs.Ytnhppeknkeblfaa
