/- FnExactApplyWord: for all arguments the law answers true: impl.ApplyWord returns what the reference's function of that name returns, leaves its arguments as they were, and its result shares no memory. No conditions. -/
import Derived.Test.YtphpdanohooccaaDoorRow
import Derived.Test.YtphpdanohooccaaDoorCards
import Derived.Test.YtphpdanohooccaaDoorTie
import Derived.LaidMore
import Derived.Lay
import Derived.SevenTiedAt
import Derived.Stop.Joined
import Derived.Test.YtphpdanohooccaaDoorOwn
import Derived.Test.YtphpdanohooccaaDoorOwnR
import Derived.Test.YtphpdanohooccaaDoorAw
import Derived.Deep.RegionHeld3
namespace Go.Proofs.YtphpdanohooccaaDoor
open Go.ChangeShapes Go.WideShapes Go.ChangeAt Go.RowKit Go.Joins

set_option maxHeartbeats 1000000 in
/-- The law's walk, over contracts of the two functions. -/
theorem core_FnExactApplyWord (w : World) (n0 : Int) (A0 : Option Addr) (c0 : Nat) (x0 : List Int) (g0 : (-9223372036854775808 ≤ n0 ∧ n0 ≤ 9223372036854775807) ∧ RdI w A0 x0 ∧ x0.length ≤ c0 ∧ c0 ≤ maxLen ∧ Fits x0) (x1 : ByteArray) (hs1 : x1.size ≤ 1048576)
    (y0 : Int × List Int) (y1 : Bool)
    (z0 : Hid (szR (n0, x0) ≤ 1048576))
    (zt_ : Hid (x0.length ≤ 1048576))
    (zy0 : Hid (szR y0 ≤ 1099511627776))
    (CS : Hid (∀ w : World, ∀ (L0 U0 : Nat) (a0 : Value), OwnR w L0 U0 a0 (n0, x0) → Calls Tryd.prog 5 #[a0, .string x1] w (fun e w' => ∃ v0, e = .returned (.tuple #[v0, .bool y1]) ∧ OwnR w' w.heap.size w'.heap.size v0 y0 ∧ Ext w w')))
    (CI : Hid (∀ w : World, ∀ (L0 U0 : Nat) (a0 : Value), OwnR w L0 U0 a0 (n0, x0) → Calls Tryd.prog 7 #[a0, .string x1] w (fun e w' => ∃ v0, e = .returned (.tuple #[v0, .bool y1]) ∧ OwnR w' w.heap.size w'.heap.size v0 y0 ∧ Ext w w'))) :
    Calls Tryd.prog 3 #[.agg #[.int .i64 n0, .slice A0 x0.length c0], .string x1] w fun e w' => e = .returned (.bool true) ∧ Ext w w' := by
  have G0 := Lib.hid g0
  clear g0
  have zz0 : x0.length ≤ 1048576 := by have := z0.out; unfold szR at this; omega
  have zt := zt_.out
  go_enter Tryd.func3, Tryd.ntmps3
  go_wp2_with fail
  refine (szR_ok n0 _ _ x0.length _ _ ⟨by omega, by omega⟩ (by omega)).mono ?_
  rintro e w1 ⟨rfl, e1⟩
  have X1 : Hid (Ext w w1) := ((Ext.refl w).alloc _).trans e1
  have S1 : Hid (w.heap.size + 1 ≤ w1.heap.size) := (by have := e1.size; simp at this; omega : w.heap.size + 1 ≤ w1.heap.size)
  have hb0_0_ : w1.cell? ⟨w.heap.size, 0, none⟩ = some (.int .i64 n0) := Ext.cell e1 (by first | exact (box2 _ _ _ _ _ (by simp)).1 | exact Ext.cell ((Ext.refl _).alloc _) (box2 _ _ _ _ _ (by simp)).1)
  have hb0_0 := hb0_0_; clear hb0_0_
  have hb0_1_ : w1.cell? ⟨w.heap.size, 1, none⟩ = some (.slice A0 x0.length c0) := Ext.cell e1 (by first | exact (box2 _ _ _ _ _ (by simp)).2 | exact Ext.cell ((Ext.refl _).alloc _) (box2 _ _ _ _ _ (by simp)).2)
  have hb0_1 := hb0_1_; clear hb0_1_
  clear e1
  go_wp2_with fail
  refine (toR_law n0 A0 c0 x0 _ (G0.out.2.1.ext X1.out) zz0).mono ?_
  rintro e w2 ⟨s0, rfl, o2, e2⟩
  obtain ⟨As0, cs0, rfl, oo2⟩ := o2
  have Os0_2 : Hid (OwnR w2 _ _ (.agg #[.int .i64 n0, .slice As0 x0.length cs0]) (n0, x0)) := ⟨As0, cs0, rfl, oo2⟩
  clear oo2
  have X2 : Hid (Ext w w2) := X1.out.trans e2
  have S2 : Hid (w1.heap.size ≤ w2.heap.size) := e2.size
  have hb0_0_ : w2.cell? ⟨w.heap.size, 0, none⟩ = some (.int .i64 n0) := Ext.cell e2 hb0_0
  clear hb0_0
  have hb0_0 := hb0_0_; clear hb0_0_
  have hb0_1_ : w2.cell? ⟨w.heap.size, 1, none⟩ = some (.slice A0 x0.length c0) := Ext.cell e2 hb0_1
  clear hb0_1
  have hb0_1 := hb0_1_; clear hb0_1_
  clear e2
  go_wp2_with fail
  refine (CS.out _ _ _ _ Os0_2.out).mono ?_
  rintro e w3 ⟨vw0, rfl, o3_0, e3⟩
  obtain ⟨Avw0, cvw0, rfl, oo3⟩ := o3_0
  have Ovw0_3 : Hid (OwnR w3 _ _ (.agg #[.int .i64 y0.1, .slice Avw0 y0.2.length cvw0]) y0) := ⟨Avw0, cvw0, rfl, oo3⟩
  clear oo3
  have X3 : Hid (Ext w w3) := X2.out.trans e3
  have S3 : Hid (w2.heap.size ≤ w3.heap.size) := e3.size
  have Os0_3 := Lib.hid (Os0_2.out.fr e3.fr (Or.inr (Nat.zero_le _)))
  clear Os0_2
  have hb0_0_ : w3.cell? ⟨w.heap.size, 0, none⟩ = some (.int .i64 n0) := Ext.cell e3 hb0_0
  clear hb0_0
  have hb0_0 := hb0_0_; clear hb0_0_
  have hb0_1_ : w3.cell? ⟨w.heap.size, 1, none⟩ = some (.slice A0 x0.length c0) := Ext.cell e3 hb0_1
  clear hb0_1
  have hb0_1 := hb0_1_; clear hb0_1_
  clear e3
  have X3_ : Hid (Ext w (w3.alloc (.cells #[.int .i64 y0.1, .slice Avw0 y0.2.length cvw0] 26))) := X3.out.alloc _
  clear X3
  have X3 := X3_; clear X3_
  have Os0_3_ := Lib.hid (Os0_3.out.fr ((Ext.refl w3).alloc (.cells #[.int .i64 y0.1, .slice Avw0 y0.2.length cvw0] 26)).fr (Or.inr (Nat.zero_le _)))
  clear Os0_3
  have Ovw0_3_ := Lib.hid (Ovw0_3.out.fr ((Ext.refl w3).alloc (.cells #[.int .i64 y0.1, .slice Avw0 y0.2.length cvw0] 26)).fr (Or.inr (Nat.zero_le _)))
  clear Ovw0_3
  have hb0_0_ := Ext.cell ((Ext.refl w3).alloc (.cells #[.int .i64 y0.1, .slice Avw0 y0.2.length cvw0] 26)) hb0_0
  clear hb0_0
  have hb0_0 := hb0_0_; clear hb0_0_
  have hb0_1_ := Ext.cell ((Ext.refl w3).alloc (.cells #[.int .i64 y0.1, .slice Avw0 y0.2.length cvw0] 26)) hb0_1
  clear hb0_1
  have hb0_1 := hb0_1_; clear hb0_1_
  have kbvw0_0 : (w3.alloc (.cells #[.int .i64 y0.1, .slice Avw0 y0.2.length cvw0] 26)).cell? ⟨w3.heap.size, 0, none⟩ = some (.int .i64 y0.1) := (box2 _ _ _ _ _ rfl).1
  have kbvw0_1 : (w3.alloc (.cells #[.int .i64 y0.1, .slice Avw0 y0.2.length cvw0] 26)).cell? ⟨w3.heap.size, 1, none⟩ = some (.slice Avw0 y0.2.length cvw0) := (box2 _ _ _ _ _ rfl).2
  clear Os0_3_
  go_wp2_with fail
  refine (toR_law n0 A0 c0 x0 _ (G0.out.2.1.ext X3.out) zz0).mono ?_
  rintro e w4 ⟨a0, rfl, o4, e4⟩
  obtain ⟨Aa0, ca0, rfl, oo4⟩ := o4
  have Oa0_4 : Hid (OwnR w4 _ _ (.agg #[.int .i64 n0, .slice Aa0 x0.length ca0]) (n0, x0)) := ⟨Aa0, ca0, rfl, oo4⟩
  clear oo4
  have X4 : Hid (Ext w w4) := X3.out.trans e4
  have P4 : Hid ((w3.alloc (.cells #[.int .i64 y0.1, .slice Avw0 y0.2.length cvw0] 26)).heap.size = w3.heap.size + 1) := (by simp : (w3.alloc (.cells #[.int .i64 y0.1, .slice Avw0 y0.2.length cvw0] 26)).heap.size = w3.heap.size + 1)
  have S4 : Hid (w3.heap.size + 1 ≤ w4.heap.size) := (by have := e4.size; simpa using this : w3.heap.size + 1 ≤ w4.heap.size)
  have Ovw0_4 := Lib.hid (Ovw0_3_.out.fr e4.fr (Or.inr (Nat.zero_le _)))
  clear Ovw0_3_
  have hb0_0_ : w4.cell? ⟨w.heap.size, 0, none⟩ = some (.int .i64 n0) := Ext.cell e4 hb0_0
  clear hb0_0
  have hb0_0 := hb0_0_; clear hb0_0_
  have hb0_1_ : w4.cell? ⟨w.heap.size, 1, none⟩ = some (.slice A0 x0.length c0) := Ext.cell e4 hb0_1
  clear hb0_1
  have hb0_1 := hb0_1_; clear hb0_1_
  have kbvw0_0_ : w4.cell? ⟨w3.heap.size, 0, none⟩ = some (.int .i64 y0.1) := Ext.cell e4 kbvw0_0
  clear kbvw0_0
  have kbvw0_0 := kbvw0_0_; clear kbvw0_0_
  have kbvw0_1_ : w4.cell? ⟨w3.heap.size, 1, none⟩ = some (.slice Avw0 y0.2.length cvw0) := Ext.cell e4 kbvw0_1
  clear kbvw0_1
  have kbvw0_1 := kbvw0_1_; clear kbvw0_1_
  clear e4
  have X4_ : Hid (Ext w (w4.alloc (.cells #[.int .i64 n0, .slice Aa0 x0.length ca0] 26))) := X4.out.alloc _
  clear X4
  have X4 := X4_; clear X4_
  have Ovw0_4_ := Lib.hid (Ovw0_4.out.fr ((Ext.refl w4).alloc (.cells #[.int .i64 n0, .slice Aa0 x0.length ca0] 26)).fr (Or.inr (Nat.zero_le _)))
  clear Ovw0_4
  have Oa0_4_ := Lib.hid (Oa0_4.out.fr ((Ext.refl w4).alloc (.cells #[.int .i64 n0, .slice Aa0 x0.length ca0] 26)).fr (Or.inr (Nat.zero_le _)))
  clear Oa0_4
  have kbvw0_0_ := Ext.cell ((Ext.refl w4).alloc (.cells #[.int .i64 n0, .slice Aa0 x0.length ca0] 26)) kbvw0_0
  clear kbvw0_0
  have kbvw0_0 := kbvw0_0_; clear kbvw0_0_
  have kbvw0_1_ := Ext.cell ((Ext.refl w4).alloc (.cells #[.int .i64 n0, .slice Aa0 x0.length ca0] 26)) kbvw0_1
  clear kbvw0_1
  have kbvw0_1 := kbvw0_1_; clear kbvw0_1_
  have hb0_0_ := Ext.cell ((Ext.refl w4).alloc (.cells #[.int .i64 n0, .slice Aa0 x0.length ca0] 26)) hb0_0
  clear hb0_0
  have hb0_0 := hb0_0_; clear hb0_0_
  have hb0_1_ := Ext.cell ((Ext.refl w4).alloc (.cells #[.int .i64 n0, .slice Aa0 x0.length ca0] 26)) hb0_1
  clear hb0_1
  have hb0_1 := hb0_1_; clear hb0_1_
  have kba0_0 : (w4.alloc (.cells #[.int .i64 n0, .slice Aa0 x0.length ca0] 26)).cell? ⟨w4.heap.size, 0, none⟩ = some (.int .i64 n0) := (box2 _ _ _ _ _ rfl).1
  have kba0_1 : (w4.alloc (.cells #[.int .i64 n0, .slice Aa0 x0.length ca0] 26)).cell? ⟨w4.heap.size, 1, none⟩ = some (.slice Aa0 x0.length ca0) := (box2 _ _ _ _ _ rfl).2
  go_wp2_with fail
  refine (CI.out _ _ _ _ Oa0_4_.out).mono ?_
  rintro e w5 ⟨vg0, rfl, o5_0, e5⟩
  obtain ⟨Avg0, cvg0, rfl, oo5⟩ := o5_0
  have Ovg0_5 : Hid (OwnR w5 _ _ (.agg #[.int .i64 y0.1, .slice Avg0 y0.2.length cvg0]) y0) := ⟨Avg0, cvg0, rfl, oo5⟩
  clear oo5
  have X5 : Hid (Ext w w5) := X4.out.trans e5
  have P5 : Hid ((w4.alloc (.cells #[.int .i64 n0, .slice Aa0 x0.length ca0] 26)).heap.size = w4.heap.size + 1) := (by simp : (w4.alloc (.cells #[.int .i64 n0, .slice Aa0 x0.length ca0] 26)).heap.size = w4.heap.size + 1)
  have S5 : Hid (w4.heap.size + 1 ≤ w5.heap.size) := (by have := e5.size; simpa using this : w4.heap.size + 1 ≤ w5.heap.size)
  have Ovw0_5 := Lib.hid (Ovw0_4_.out.fr e5.fr (Or.inr (Nat.zero_le _)))
  have Oa0_5 := Lib.hid (Oa0_4_.out.fr e5.fr (Or.inr (Nat.zero_le _)))
  clear Ovw0_4_ Oa0_4_
  have hb0_0_ : w5.cell? ⟨w.heap.size, 0, none⟩ = some (.int .i64 n0) := Ext.cell e5 hb0_0
  clear hb0_0
  have hb0_0 := hb0_0_; clear hb0_0_
  have hb0_1_ : w5.cell? ⟨w.heap.size, 1, none⟩ = some (.slice A0 x0.length c0) := Ext.cell e5 hb0_1
  clear hb0_1
  have hb0_1 := hb0_1_; clear hb0_1_
  have kbvw0_0_ : w5.cell? ⟨w3.heap.size, 0, none⟩ = some (.int .i64 y0.1) := Ext.cell e5 kbvw0_0
  clear kbvw0_0
  have kbvw0_0 := kbvw0_0_; clear kbvw0_0_
  have kbvw0_1_ : w5.cell? ⟨w3.heap.size, 1, none⟩ = some (.slice Avw0 y0.2.length cvw0) := Ext.cell e5 kbvw0_1
  clear kbvw0_1
  have kbvw0_1 := kbvw0_1_; clear kbvw0_1_
  have kba0_0_ : w5.cell? ⟨w4.heap.size, 0, none⟩ = some (.int .i64 n0) := Ext.cell e5 kba0_0
  clear kba0_0
  have kba0_0 := kba0_0_; clear kba0_0_
  have kba0_1_ : w5.cell? ⟨w4.heap.size, 1, none⟩ = some (.slice Aa0 x0.length ca0) := Ext.cell e5 kba0_1
  clear kba0_1
  have kba0_1 := kba0_1_; clear kba0_1_
  clear e5
  have X5_ : Hid (Ext w (w5.alloc (.cells #[.int .i64 y0.1, .slice Avg0 y0.2.length cvg0] 26))) := X5.out.alloc _
  clear X5
  have X5 := X5_; clear X5_
  have Ovw0_5_ := Lib.hid (Ovw0_5.out.fr ((Ext.refl w5).alloc (.cells #[.int .i64 y0.1, .slice Avg0 y0.2.length cvg0] 26)).fr (Or.inr (Nat.zero_le _)))
  clear Ovw0_5
  have Oa0_5_ := Lib.hid (Oa0_5.out.fr ((Ext.refl w5).alloc (.cells #[.int .i64 y0.1, .slice Avg0 y0.2.length cvg0] 26)).fr (Or.inr (Nat.zero_le _)))
  clear Oa0_5
  have Ovg0_5_ := Lib.hid (Ovg0_5.out.fr ((Ext.refl w5).alloc (.cells #[.int .i64 y0.1, .slice Avg0 y0.2.length cvg0] 26)).fr (Or.inr (Nat.zero_le _)))
  clear Ovg0_5
  have kbvw0_0_ := Ext.cell ((Ext.refl w5).alloc (.cells #[.int .i64 y0.1, .slice Avg0 y0.2.length cvg0] 26)) kbvw0_0
  clear kbvw0_0
  have kbvw0_0 := kbvw0_0_; clear kbvw0_0_
  have kbvw0_1_ := Ext.cell ((Ext.refl w5).alloc (.cells #[.int .i64 y0.1, .slice Avg0 y0.2.length cvg0] 26)) kbvw0_1
  clear kbvw0_1
  have kbvw0_1 := kbvw0_1_; clear kbvw0_1_
  have kba0_0_ := Ext.cell ((Ext.refl w5).alloc (.cells #[.int .i64 y0.1, .slice Avg0 y0.2.length cvg0] 26)) kba0_0
  clear kba0_0
  have kba0_0 := kba0_0_; clear kba0_0_
  have kba0_1_ := Ext.cell ((Ext.refl w5).alloc (.cells #[.int .i64 y0.1, .slice Avg0 y0.2.length cvg0] 26)) kba0_1
  clear kba0_1
  have kba0_1 := kba0_1_; clear kba0_1_
  have hb0_0_ := Ext.cell ((Ext.refl w5).alloc (.cells #[.int .i64 y0.1, .slice Avg0 y0.2.length cvg0] 26)) hb0_0
  clear hb0_0
  have hb0_0 := hb0_0_; clear hb0_0_
  have hb0_1_ := Ext.cell ((Ext.refl w5).alloc (.cells #[.int .i64 y0.1, .slice Avg0 y0.2.length cvg0] 26)) hb0_1
  clear hb0_1
  have hb0_1 := hb0_1_; clear hb0_1_
  have kbvg0_0 : (w5.alloc (.cells #[.int .i64 y0.1, .slice Avg0 y0.2.length cvg0] 26)).cell? ⟨w5.heap.size, 0, none⟩ = some (.int .i64 y0.1) := (box2 _ _ _ _ _ rfl).1
  have kbvg0_1 : (w5.alloc (.cells #[.int .i64 y0.1, .slice Avg0 y0.2.length cvg0] 26)).cell? ⟨w5.heap.size, 1, none⟩ = some (.slice Avg0 y0.2.length cvg0) := (box2 _ _ _ _ _ rfl).2
  go_wp2_with fail
  refine (eqR_law Ovg0_5_.out Ovw0_5_.out (Nat.le_trans zy0.out (by omega))).mono ?_
  rintro e w6 ⟨rfl, e6⟩
  have X6 : Hid (Ext w w6) := X5.out.trans e6
  have P6 : Hid ((w5.alloc (.cells #[.int .i64 y0.1, .slice Avg0 y0.2.length cvg0] 26)).heap.size = w5.heap.size + 1) := (by simp : (w5.alloc (.cells #[.int .i64 y0.1, .slice Avg0 y0.2.length cvg0] 26)).heap.size = w5.heap.size + 1)
  have S6 : Hid (w5.heap.size + 1 ≤ w6.heap.size) := (by have := e6.size; simpa using this : w5.heap.size + 1 ≤ w6.heap.size)
  have Ovw0_6 := Lib.hid (Ovw0_5_.out.fr e6.fr (Or.inr (Nat.zero_le _)))
  have Oa0_6 := Lib.hid (Oa0_5_.out.fr e6.fr (Or.inr (Nat.zero_le _)))
  have Ovg0_6 := Lib.hid (Ovg0_5_.out.fr e6.fr (Or.inr (Nat.zero_le _)))
  clear Ovw0_5_ Oa0_5_ Ovg0_5_
  have hb0_0_ : w6.cell? ⟨w.heap.size, 0, none⟩ = some (.int .i64 n0) := Ext.cell e6 hb0_0
  clear hb0_0
  have hb0_0 := hb0_0_; clear hb0_0_
  have hb0_1_ : w6.cell? ⟨w.heap.size, 1, none⟩ = some (.slice A0 x0.length c0) := Ext.cell e6 hb0_1
  clear hb0_1
  have hb0_1 := hb0_1_; clear hb0_1_
  have kbvw0_0_ : w6.cell? ⟨w3.heap.size, 0, none⟩ = some (.int .i64 y0.1) := Ext.cell e6 kbvw0_0
  clear kbvw0_0
  have kbvw0_0 := kbvw0_0_; clear kbvw0_0_
  have kbvw0_1_ : w6.cell? ⟨w3.heap.size, 1, none⟩ = some (.slice Avw0 y0.2.length cvw0) := Ext.cell e6 kbvw0_1
  clear kbvw0_1
  have kbvw0_1 := kbvw0_1_; clear kbvw0_1_
  have kba0_0_ : w6.cell? ⟨w4.heap.size, 0, none⟩ = some (.int .i64 n0) := Ext.cell e6 kba0_0
  clear kba0_0
  have kba0_0 := kba0_0_; clear kba0_0_
  have kba0_1_ : w6.cell? ⟨w4.heap.size, 1, none⟩ = some (.slice Aa0 x0.length ca0) := Ext.cell e6 kba0_1
  clear kba0_1
  have kba0_1 := kba0_1_; clear kba0_1_
  have kbvg0_0_ : w6.cell? ⟨w5.heap.size, 0, none⟩ = some (.int .i64 y0.1) := Ext.cell e6 kbvg0_0
  clear kbvg0_0
  have kbvg0_0 := kbvg0_0_; clear kbvg0_0_
  have kbvg0_1_ : w6.cell? ⟨w5.heap.size, 1, none⟩ = some (.slice Avg0 y0.2.length cvg0) := Ext.cell e6 kbvg0_1
  clear kbvg0_1
  have kbvg0_1 := kbvg0_1_; clear kbvg0_1_
  clear e6
  go_wp2_with fail
  go_region_held3 (fun W => W.cell? ⟨w4.heap.size, 0, none⟩ = some (.int .i64 n0) ∧ W.cell? ⟨w4.heap.size, 1, none⟩ = some (.slice Aa0 x0.length ca0) ∧ W.cell? ⟨w.heap.size, 0, none⟩ = some (.int .i64 n0) ∧ W.cell? ⟨w.heap.size, 1, none⟩ = some (.slice A0 x0.length c0))
    (first | exact ⟨kba0_0, kba0_1, hb0_0, hb0_1⟩ | exact ⟨Ext.cell eb7 kba0_0, Ext.cell eb7 kba0_1, Ext.cell eb7 hb0_0, Ext.cell eb7 hb0_1⟩ | exact ⟨Ext.cell ec7 (Ext.cell eb7 kba0_0), Ext.cell ec7 (Ext.cell eb7 kba0_1), Ext.cell ec7 (Ext.cell eb7 hb0_0), Ext.cell ec7 (Ext.cell eb7 hb0_1)⟩)
    (first
      | (go_at_call 6; refine (toR_law n0 A0 c0 x0 (World.drew w6) (G0.out.2.1.ext X6.out.drew) zz0).mono ?_; rintro e wb7 ⟨vb7, rfl, ⟨Ab7, cb7, rfl, ob7⟩, eb7⟩)
      | (go_at_call 8; refine (eqR_law (Oa0_6.out.fr ((Ext.drew (Ext.refl w6)).trans eb7).fr (Or.inr (Nat.zero_le _))) (⟨Ab7, cb7, rfl, ob7⟩ : OwnR wb7 _ _ (.agg #[.int .i64 n0, .slice Ab7 x0.length cb7]) (n0, x0)) (Nat.le_trans z0.out (by omega))).mono ?_; rintro e w7 ⟨rfl, ec7⟩))
  have e7 : Ext w6 w7 := ((Ext.drew (Ext.refl w6)).trans eb7).trans ec7
  clear eb7 ec7 ob7
  have X7 : Hid (Ext w w7) := X6.out.trans e7
  have S7 : Hid (w6.heap.size ≤ w7.heap.size) := e7.size
  have Ovw0_7 := Lib.hid (Ovw0_6.out.fr e7.fr (Or.inr (Nat.zero_le _)))
  have Oa0_7 := Lib.hid (Oa0_6.out.fr e7.fr (Or.inr (Nat.zero_le _)))
  have Ovg0_7 := Lib.hid (Ovg0_6.out.fr e7.fr (Or.inr (Nat.zero_le _)))
  clear Ovw0_6 Oa0_6 Ovg0_6
  have hb0_0_ : w7.cell? ⟨w.heap.size, 0, none⟩ = some (.int .i64 n0) := Ext.cell e7 hb0_0
  clear hb0_0
  have hb0_0 := hb0_0_; clear hb0_0_
  have hb0_1_ : w7.cell? ⟨w.heap.size, 1, none⟩ = some (.slice A0 x0.length c0) := Ext.cell e7 hb0_1
  clear hb0_1
  have hb0_1 := hb0_1_; clear hb0_1_
  have kbvw0_0_ : w7.cell? ⟨w3.heap.size, 0, none⟩ = some (.int .i64 y0.1) := Ext.cell e7 kbvw0_0
  clear kbvw0_0
  have kbvw0_0 := kbvw0_0_; clear kbvw0_0_
  have kbvw0_1_ : w7.cell? ⟨w3.heap.size, 1, none⟩ = some (.slice Avw0 y0.2.length cvw0) := Ext.cell e7 kbvw0_1
  clear kbvw0_1
  have kbvw0_1 := kbvw0_1_; clear kbvw0_1_
  have kba0_0_ : w7.cell? ⟨w4.heap.size, 0, none⟩ = some (.int .i64 n0) := Ext.cell e7 kba0_0
  clear kba0_0
  have kba0_0 := kba0_0_; clear kba0_0_
  have kba0_1_ : w7.cell? ⟨w4.heap.size, 1, none⟩ = some (.slice Aa0 x0.length ca0) := Ext.cell e7 kba0_1
  clear kba0_1
  have kba0_1 := kba0_1_; clear kba0_1_
  have kbvg0_0_ : w7.cell? ⟨w5.heap.size, 0, none⟩ = some (.int .i64 y0.1) := Ext.cell e7 kbvg0_0
  clear kbvg0_0
  have kbvg0_0 := kbvg0_0_; clear kbvg0_0_
  have kbvg0_1_ : w7.cell? ⟨w5.heap.size, 1, none⟩ = some (.slice Avg0 y0.2.length cvg0) := Ext.cell e7 kbvg0_1
  clear kbvg0_1
  have kbvg0_1 := kbvg0_1_; clear kbvg0_1_
  clear e7
  go_wp2_with fail
  refine (markR_law Oa0_7.out _ (by have := z0.out; have := zy0.out; omega) (by have := z0.out; have := zy0.out; omega) (Nat.le_trans z0.out (by omega))).mono ?_
  rintro e w8 ⟨rfl, o8, f8⟩
  have Oa0_8 := Lib.hid o8
  clear o8
  have X8 : Hid (Ext w w8) := X7.out.then_fr f8 (by have := S1.out; have := S2.out; have := S3.out; have := P4.out; have := S4.out; have := P5.out; have := S5.out; have := P6.out; have := S6.out; have := S7.out; exact (by omega))
  have S8 : Hid (w7.heap.size ≤ w8.heap.size) := f8.size
  have Ovw0_8 := Lib.hid (Ovw0_7.out.fr f8 ((by have := S1.out; have := S2.out; have := S3.out; have := P4.out; have := S4.out; have := P5.out; have := S5.out; have := P6.out; have := S6.out; have := S7.out; have := S8.out; omega)))
  have Ovg0_8 := Lib.hid (Ovg0_7.out.fr f8 ((by have := S1.out; have := S2.out; have := S3.out; have := P4.out; have := S4.out; have := P5.out; have := S5.out; have := P6.out; have := S6.out; have := S7.out; have := S8.out; omega)))
  clear Ovw0_7 Ovg0_7
  have hb0_0_ : w8.cell? ⟨w.heap.size, 0, none⟩ = some (.int .i64 n0) := Fr.cell f8 hb0_0 (by have := S1.out; have := S2.out; have := S3.out; have := P4.out; have := S4.out; have := P5.out; have := S5.out; have := P6.out; have := S6.out; have := S7.out; have := S8.out; simp only []; omega)
  clear hb0_0
  have hb0_0 := hb0_0_; clear hb0_0_
  have hb0_1_ : w8.cell? ⟨w.heap.size, 1, none⟩ = some (.slice A0 x0.length c0) := Fr.cell f8 hb0_1 (by have := S1.out; have := S2.out; have := S3.out; have := P4.out; have := S4.out; have := P5.out; have := S5.out; have := P6.out; have := S6.out; have := S7.out; have := S8.out; simp only []; omega)
  clear hb0_1
  have hb0_1 := hb0_1_; clear hb0_1_
  have kbvw0_0_ : w8.cell? ⟨w3.heap.size, 0, none⟩ = some (.int .i64 y0.1) := Fr.cell f8 kbvw0_0 (by have := S1.out; have := S2.out; have := S3.out; have := P4.out; have := S4.out; have := P5.out; have := S5.out; have := P6.out; have := S6.out; have := S7.out; have := S8.out; simp only []; omega)
  clear kbvw0_0
  have kbvw0_0 := kbvw0_0_; clear kbvw0_0_
  have kbvw0_1_ : w8.cell? ⟨w3.heap.size, 1, none⟩ = some (.slice Avw0 y0.2.length cvw0) := Fr.cell f8 kbvw0_1 (by have := S1.out; have := S2.out; have := S3.out; have := P4.out; have := S4.out; have := P5.out; have := S5.out; have := P6.out; have := S6.out; have := S7.out; have := S8.out; simp only []; omega)
  clear kbvw0_1
  have kbvw0_1 := kbvw0_1_; clear kbvw0_1_
  have kba0_0_ : w8.cell? ⟨w4.heap.size, 0, none⟩ = some (.int .i64 n0) := Fr.cell f8 kba0_0 (by have := S1.out; have := S2.out; have := S3.out; have := P4.out; have := S4.out; have := P5.out; have := S5.out; have := P6.out; have := S6.out; have := S7.out; have := S8.out; simp only []; omega)
  clear kba0_0
  have kba0_0 := kba0_0_; clear kba0_0_
  have kba0_1_ : w8.cell? ⟨w4.heap.size, 1, none⟩ = some (.slice Aa0 x0.length ca0) := Fr.cell f8 kba0_1 (by have := S1.out; have := S2.out; have := S3.out; have := P4.out; have := S4.out; have := P5.out; have := S5.out; have := P6.out; have := S6.out; have := S7.out; have := S8.out; simp only []; omega)
  clear kba0_1
  have kba0_1 := kba0_1_; clear kba0_1_
  have kbvg0_0_ : w8.cell? ⟨w5.heap.size, 0, none⟩ = some (.int .i64 y0.1) := Fr.cell f8 kbvg0_0 (by have := S1.out; have := S2.out; have := S3.out; have := P4.out; have := S4.out; have := P5.out; have := S5.out; have := P6.out; have := S6.out; have := S7.out; have := S8.out; simp only []; omega)
  clear kbvg0_0
  have kbvg0_0 := kbvg0_0_; clear kbvg0_0_
  have kbvg0_1_ : w8.cell? ⟨w5.heap.size, 1, none⟩ = some (.slice Avg0 y0.2.length cvg0) := Fr.cell f8 kbvg0_1 (by have := S1.out; have := S2.out; have := S3.out; have := P4.out; have := S4.out; have := P5.out; have := S5.out; have := P6.out; have := S6.out; have := S7.out; have := S8.out; simp only []; omega)
  clear kbvg0_1
  have kbvg0_1 := kbvg0_1_; clear kbvg0_1_
  clear f8
  clear Oa0_7
  go_wp2_with fail
  refine (eqR_law Ovg0_8.out Ovw0_8.out (Nat.le_trans zy0.out (by omega))).mono ?_
  rintro e w9 ⟨rfl, e9⟩
  have X9 : Hid (Ext w w9) := X8.out.trans e9
  have S9 : Hid (w8.heap.size ≤ w9.heap.size) := e9.size
  have Ovw0_9 := Lib.hid (Ovw0_8.out.fr e9.fr (Or.inr (Nat.zero_le _)))
  have Oa0_9 := Lib.hid (Oa0_8.out.fr e9.fr (Or.inr (Nat.zero_le _)))
  have Ovg0_9 := Lib.hid (Ovg0_8.out.fr e9.fr (Or.inr (Nat.zero_le _)))
  clear Ovw0_8 Oa0_8 Ovg0_8
  have hb0_0_ : w9.cell? ⟨w.heap.size, 0, none⟩ = some (.int .i64 n0) := Ext.cell e9 hb0_0
  clear hb0_0
  have hb0_0 := hb0_0_; clear hb0_0_
  have hb0_1_ : w9.cell? ⟨w.heap.size, 1, none⟩ = some (.slice A0 x0.length c0) := Ext.cell e9 hb0_1
  clear hb0_1
  have hb0_1 := hb0_1_; clear hb0_1_
  have kbvw0_0_ : w9.cell? ⟨w3.heap.size, 0, none⟩ = some (.int .i64 y0.1) := Ext.cell e9 kbvw0_0
  clear kbvw0_0
  have kbvw0_0 := kbvw0_0_; clear kbvw0_0_
  have kbvw0_1_ : w9.cell? ⟨w3.heap.size, 1, none⟩ = some (.slice Avw0 y0.2.length cvw0) := Ext.cell e9 kbvw0_1
  clear kbvw0_1
  have kbvw0_1 := kbvw0_1_; clear kbvw0_1_
  have kba0_0_ : w9.cell? ⟨w4.heap.size, 0, none⟩ = some (.int .i64 n0) := Ext.cell e9 kba0_0
  clear kba0_0
  have kba0_0 := kba0_0_; clear kba0_0_
  have kba0_1_ : w9.cell? ⟨w4.heap.size, 1, none⟩ = some (.slice Aa0 x0.length ca0) := Ext.cell e9 kba0_1
  clear kba0_1
  have kba0_1 := kba0_1_; clear kba0_1_
  have kbvg0_0_ : w9.cell? ⟨w5.heap.size, 0, none⟩ = some (.int .i64 y0.1) := Ext.cell e9 kbvg0_0
  clear kbvg0_0
  have kbvg0_0 := kbvg0_0_; clear kbvg0_0_
  have kbvg0_1_ : w9.cell? ⟨w5.heap.size, 1, none⟩ = some (.slice Avg0 y0.2.length cvg0) := Ext.cell e9 kbvg0_1
  clear kbvg0_1
  have kbvg0_1 := kbvg0_1_; clear kbvg0_1_
  clear e9
  clear Oa0_9
  clear kba0_0 kba0_1
  go_wp2_with fail
  refine (markR_law Ovg0_9.out _ (by have := z0.out; have := zy0.out; omega) (by have := z0.out; have := zy0.out; omega) (Nat.le_trans zy0.out (by omega))).mono ?_
  rintro e w10 ⟨rfl, o10, f10⟩
  have Ovg0_10 := Lib.hid o10
  clear o10
  have X10 : Hid (Ext w w10) := X9.out.then_fr f10 (by have := S1.out; have := S2.out; have := S3.out; have := P4.out; have := S4.out; have := P5.out; have := S5.out; have := P6.out; have := S6.out; have := S7.out; have := S8.out; have := S9.out; exact (by omega))
  have S10 : Hid (w9.heap.size ≤ w10.heap.size) := f10.size
  have Ovw0_10 := Lib.hid (Ovw0_9.out.fr f10 ((by have := S1.out; have := S2.out; have := S3.out; have := P4.out; have := S4.out; have := P5.out; have := S5.out; have := P6.out; have := S6.out; have := S7.out; have := S8.out; have := S9.out; have := S10.out; omega)))
  clear Ovw0_9
  have hb0_0_ : w10.cell? ⟨w.heap.size, 0, none⟩ = some (.int .i64 n0) := Fr.cell f10 hb0_0 (by have := S1.out; have := S2.out; have := S3.out; have := P4.out; have := S4.out; have := P5.out; have := S5.out; have := P6.out; have := S6.out; have := S7.out; have := S8.out; have := S9.out; have := S10.out; simp only []; omega)
  clear hb0_0
  have hb0_0 := hb0_0_; clear hb0_0_
  have hb0_1_ : w10.cell? ⟨w.heap.size, 1, none⟩ = some (.slice A0 x0.length c0) := Fr.cell f10 hb0_1 (by have := S1.out; have := S2.out; have := S3.out; have := P4.out; have := S4.out; have := P5.out; have := S5.out; have := P6.out; have := S6.out; have := S7.out; have := S8.out; have := S9.out; have := S10.out; simp only []; omega)
  clear hb0_1
  have hb0_1 := hb0_1_; clear hb0_1_
  have kbvw0_0_ : w10.cell? ⟨w3.heap.size, 0, none⟩ = some (.int .i64 y0.1) := Fr.cell f10 kbvw0_0 (by have := S1.out; have := S2.out; have := S3.out; have := P4.out; have := S4.out; have := P5.out; have := S5.out; have := P6.out; have := S6.out; have := S7.out; have := S8.out; have := S9.out; have := S10.out; simp only []; omega)
  clear kbvw0_0
  have kbvw0_0 := kbvw0_0_; clear kbvw0_0_
  have kbvw0_1_ : w10.cell? ⟨w3.heap.size, 1, none⟩ = some (.slice Avw0 y0.2.length cvw0) := Fr.cell f10 kbvw0_1 (by have := S1.out; have := S2.out; have := S3.out; have := P4.out; have := S4.out; have := P5.out; have := S5.out; have := P6.out; have := S6.out; have := S7.out; have := S8.out; have := S9.out; have := S10.out; simp only []; omega)
  clear kbvw0_1
  have kbvw0_1 := kbvw0_1_; clear kbvw0_1_
  have kbvg0_0_ : w10.cell? ⟨w5.heap.size, 0, none⟩ = some (.int .i64 y0.1) := Fr.cell f10 kbvg0_0 (by have := S1.out; have := S2.out; have := S3.out; have := P4.out; have := S4.out; have := P5.out; have := S5.out; have := P6.out; have := S6.out; have := S7.out; have := S8.out; have := S9.out; have := S10.out; simp only []; omega)
  clear kbvg0_0
  have kbvg0_0 := kbvg0_0_; clear kbvg0_0_
  have kbvg0_1_ : w10.cell? ⟨w5.heap.size, 1, none⟩ = some (.slice Avg0 y0.2.length cvg0) := Fr.cell f10 kbvg0_1 (by have := S1.out; have := S2.out; have := S3.out; have := P4.out; have := S4.out; have := P5.out; have := S5.out; have := P6.out; have := S6.out; have := S7.out; have := S8.out; have := S9.out; have := S10.out; simp only []; omega)
  clear kbvg0_1
  have kbvg0_1 := kbvg0_1_; clear kbvg0_1_
  clear f10
  clear Ovg0_9
  go_wp2_with fail
  refine (heldR_law _ Ovg0_10.out (by have := z0.out; have := zy0.out; omega) (by have := z0.out; have := zy0.out; omega) (Nat.le_trans zy0.out (by omega))).mono ?_
  rintro e w11 ⟨rfl, e11⟩
  have X11 : Hid (Ext w w11) := X10.out.trans e11
  have S11 : Hid (w10.heap.size ≤ w11.heap.size) := e11.size
  have Ovw0_11 := Lib.hid (Ovw0_10.out.fr e11.fr (Or.inr (Nat.zero_le _)))
  have Ovg0_11 := Lib.hid (Ovg0_10.out.fr e11.fr (Or.inr (Nat.zero_le _)))
  clear Ovw0_10 Ovg0_10
  have hb0_0_ : w11.cell? ⟨w.heap.size, 0, none⟩ = some (.int .i64 n0) := Ext.cell e11 hb0_0
  clear hb0_0
  have hb0_0 := hb0_0_; clear hb0_0_
  have hb0_1_ : w11.cell? ⟨w.heap.size, 1, none⟩ = some (.slice A0 x0.length c0) := Ext.cell e11 hb0_1
  clear hb0_1
  have hb0_1 := hb0_1_; clear hb0_1_
  have kbvw0_0_ : w11.cell? ⟨w3.heap.size, 0, none⟩ = some (.int .i64 y0.1) := Ext.cell e11 kbvw0_0
  clear kbvw0_0
  have kbvw0_0 := kbvw0_0_; clear kbvw0_0_
  have kbvw0_1_ : w11.cell? ⟨w3.heap.size, 1, none⟩ = some (.slice Avw0 y0.2.length cvw0) := Ext.cell e11 kbvw0_1
  clear kbvw0_1
  have kbvw0_1 := kbvw0_1_; clear kbvw0_1_
  have kbvg0_0_ : w11.cell? ⟨w5.heap.size, 0, none⟩ = some (.int .i64 y0.1) := Ext.cell e11 kbvg0_0
  clear kbvg0_0
  have kbvg0_0 := kbvg0_0_; clear kbvg0_0_
  have kbvg0_1_ : w11.cell? ⟨w5.heap.size, 1, none⟩ = some (.slice Avg0 y0.2.length cvg0) := Ext.cell e11 kbvg0_1
  clear kbvg0_1
  have kbvg0_1 := kbvg0_1_; clear kbvg0_1_
  clear e11
  go_wp2_with fail
  refine (toR_law n0 A0 c0 x0 _ (G0.out.2.1.ext X11.out) zz0).mono ?_
  rintro e w12 ⟨d0, rfl, o12, e12⟩
  obtain ⟨Ad0, cd0, rfl, oo12⟩ := o12
  have Od0_12 : Hid (OwnR w12 _ _ (.agg #[.int .i64 n0, .slice Ad0 x0.length cd0]) (n0, x0)) := ⟨Ad0, cd0, rfl, oo12⟩
  clear oo12
  have X12 : Hid (Ext w w12) := X11.out.trans e12
  have S12 : Hid (w11.heap.size ≤ w12.heap.size) := e12.size
  have Ovw0_12 := Lib.hid (Ovw0_11.out.fr e12.fr (Or.inr (Nat.zero_le _)))
  have Ovg0_12 := Lib.hid (Ovg0_11.out.fr e12.fr (Or.inr (Nat.zero_le _)))
  clear Ovw0_11 Ovg0_11
  have hb0_0_ : w12.cell? ⟨w.heap.size, 0, none⟩ = some (.int .i64 n0) := Ext.cell e12 hb0_0
  clear hb0_0
  have hb0_0 := hb0_0_; clear hb0_0_
  have hb0_1_ : w12.cell? ⟨w.heap.size, 1, none⟩ = some (.slice A0 x0.length c0) := Ext.cell e12 hb0_1
  clear hb0_1
  have hb0_1 := hb0_1_; clear hb0_1_
  have kbvw0_0_ : w12.cell? ⟨w3.heap.size, 0, none⟩ = some (.int .i64 y0.1) := Ext.cell e12 kbvw0_0
  clear kbvw0_0
  have kbvw0_0 := kbvw0_0_; clear kbvw0_0_
  have kbvw0_1_ : w12.cell? ⟨w3.heap.size, 1, none⟩ = some (.slice Avw0 y0.2.length cvw0) := Ext.cell e12 kbvw0_1
  clear kbvw0_1
  have kbvw0_1 := kbvw0_1_; clear kbvw0_1_
  have kbvg0_0_ : w12.cell? ⟨w5.heap.size, 0, none⟩ = some (.int .i64 y0.1) := Ext.cell e12 kbvg0_0
  clear kbvg0_0
  have kbvg0_0 := kbvg0_0_; clear kbvg0_0_
  have kbvg0_1_ : w12.cell? ⟨w5.heap.size, 1, none⟩ = some (.slice Avg0 y0.2.length cvg0) := Ext.cell e12 kbvg0_1
  clear kbvg0_1
  have kbvg0_1 := kbvg0_1_; clear kbvg0_1_
  clear e12
  go_wp2_with fail
  refine (CI.out _ _ _ _ Od0_12.out).mono ?_
  rintro e w13 ⟨vh0, rfl, o13_0, e13⟩
  obtain ⟨Avh0, cvh0, rfl, oo13⟩ := o13_0
  have Ovh0_13 : Hid (OwnR w13 _ _ (.agg #[.int .i64 y0.1, .slice Avh0 y0.2.length cvh0]) y0) := ⟨Avh0, cvh0, rfl, oo13⟩
  clear oo13
  have X13 : Hid (Ext w w13) := X12.out.trans e13
  have S13 : Hid (w12.heap.size ≤ w13.heap.size) := e13.size
  have Ovw0_13 := Lib.hid (Ovw0_12.out.fr e13.fr (Or.inr (Nat.zero_le _)))
  have Ovg0_13 := Lib.hid (Ovg0_12.out.fr e13.fr (Or.inr (Nat.zero_le _)))
  have Od0_13 := Lib.hid (Od0_12.out.fr e13.fr (Or.inr (Nat.zero_le _)))
  clear Ovw0_12 Ovg0_12 Od0_12
  have hb0_0_ : w13.cell? ⟨w.heap.size, 0, none⟩ = some (.int .i64 n0) := Ext.cell e13 hb0_0
  clear hb0_0
  have hb0_0 := hb0_0_; clear hb0_0_
  have hb0_1_ : w13.cell? ⟨w.heap.size, 1, none⟩ = some (.slice A0 x0.length c0) := Ext.cell e13 hb0_1
  clear hb0_1
  have hb0_1 := hb0_1_; clear hb0_1_
  have kbvw0_0_ : w13.cell? ⟨w3.heap.size, 0, none⟩ = some (.int .i64 y0.1) := Ext.cell e13 kbvw0_0
  clear kbvw0_0
  have kbvw0_0 := kbvw0_0_; clear kbvw0_0_
  have kbvw0_1_ : w13.cell? ⟨w3.heap.size, 1, none⟩ = some (.slice Avw0 y0.2.length cvw0) := Ext.cell e13 kbvw0_1
  clear kbvw0_1
  have kbvw0_1 := kbvw0_1_; clear kbvw0_1_
  have kbvg0_0_ : w13.cell? ⟨w5.heap.size, 0, none⟩ = some (.int .i64 y0.1) := Ext.cell e13 kbvg0_0
  clear kbvg0_0
  have kbvg0_0 := kbvg0_0_; clear kbvg0_0_
  have kbvg0_1_ : w13.cell? ⟨w5.heap.size, 1, none⟩ = some (.slice Avg0 y0.2.length cvg0) := Ext.cell e13 kbvg0_1
  clear kbvg0_1
  have kbvg0_1 := kbvg0_1_; clear kbvg0_1_
  clear e13
  have X13_ : Hid (Ext w (w13.alloc (.cells #[.int .i64 y0.1, .slice Avh0 y0.2.length cvh0] 26))) := X13.out.alloc _
  clear X13
  have X13 := X13_; clear X13_
  have Ovw0_13_ := Lib.hid (Ovw0_13.out.fr ((Ext.refl w13).alloc (.cells #[.int .i64 y0.1, .slice Avh0 y0.2.length cvh0] 26)).fr (Or.inr (Nat.zero_le _)))
  clear Ovw0_13
  have Ovg0_13_ := Lib.hid (Ovg0_13.out.fr ((Ext.refl w13).alloc (.cells #[.int .i64 y0.1, .slice Avh0 y0.2.length cvh0] 26)).fr (Or.inr (Nat.zero_le _)))
  clear Ovg0_13
  have Od0_13_ := Lib.hid (Od0_13.out.fr ((Ext.refl w13).alloc (.cells #[.int .i64 y0.1, .slice Avh0 y0.2.length cvh0] 26)).fr (Or.inr (Nat.zero_le _)))
  clear Od0_13
  have Ovh0_13_ := Lib.hid (Ovh0_13.out.fr ((Ext.refl w13).alloc (.cells #[.int .i64 y0.1, .slice Avh0 y0.2.length cvh0] 26)).fr (Or.inr (Nat.zero_le _)))
  clear Ovh0_13
  have kbvw0_0_ := Ext.cell ((Ext.refl w13).alloc (.cells #[.int .i64 y0.1, .slice Avh0 y0.2.length cvh0] 26)) kbvw0_0
  clear kbvw0_0
  have kbvw0_0 := kbvw0_0_; clear kbvw0_0_
  have kbvw0_1_ := Ext.cell ((Ext.refl w13).alloc (.cells #[.int .i64 y0.1, .slice Avh0 y0.2.length cvh0] 26)) kbvw0_1
  clear kbvw0_1
  have kbvw0_1 := kbvw0_1_; clear kbvw0_1_
  have kbvg0_0_ := Ext.cell ((Ext.refl w13).alloc (.cells #[.int .i64 y0.1, .slice Avh0 y0.2.length cvh0] 26)) kbvg0_0
  clear kbvg0_0
  have kbvg0_0 := kbvg0_0_; clear kbvg0_0_
  have kbvg0_1_ := Ext.cell ((Ext.refl w13).alloc (.cells #[.int .i64 y0.1, .slice Avh0 y0.2.length cvh0] 26)) kbvg0_1
  clear kbvg0_1
  have kbvg0_1 := kbvg0_1_; clear kbvg0_1_
  have hb0_0_ := Ext.cell ((Ext.refl w13).alloc (.cells #[.int .i64 y0.1, .slice Avh0 y0.2.length cvh0] 26)) hb0_0
  clear hb0_0
  have hb0_0 := hb0_0_; clear hb0_0_
  have hb0_1_ := Ext.cell ((Ext.refl w13).alloc (.cells #[.int .i64 y0.1, .slice Avh0 y0.2.length cvh0] 26)) hb0_1
  clear hb0_1
  have hb0_1 := hb0_1_; clear hb0_1_
  have kbvh0_0 : (w13.alloc (.cells #[.int .i64 y0.1, .slice Avh0 y0.2.length cvh0] 26)).cell? ⟨w13.heap.size, 0, none⟩ = some (.int .i64 y0.1) := (box2 _ _ _ _ _ rfl).1
  have kbvh0_1 : (w13.alloc (.cells #[.int .i64 y0.1, .slice Avh0 y0.2.length cvh0] 26)).cell? ⟨w13.heap.size, 1, none⟩ = some (.slice Avh0 y0.2.length cvh0) := (box2 _ _ _ _ _ rfl).2
  clear Od0_13_
  go_wp2_with fail
  refine (eqR_law Ovh0_13_.out Ovw0_13_.out (Nat.le_trans zy0.out (by omega))).mono ?_
  rintro e w14 ⟨rfl, e14⟩
  have X14 : Hid (Ext w w14) := X13.out.trans e14
  have P14 : Hid ((w13.alloc (.cells #[.int .i64 y0.1, .slice Avh0 y0.2.length cvh0] 26)).heap.size = w13.heap.size + 1) := (by simp : (w13.alloc (.cells #[.int .i64 y0.1, .slice Avh0 y0.2.length cvh0] 26)).heap.size = w13.heap.size + 1)
  have S14 : Hid (w13.heap.size + 1 ≤ w14.heap.size) := (by have := e14.size; simpa using this : w13.heap.size + 1 ≤ w14.heap.size)
  have Ovw0_14 := Lib.hid (Ovw0_13_.out.fr e14.fr (Or.inr (Nat.zero_le _)))
  have Ovg0_14 := Lib.hid (Ovg0_13_.out.fr e14.fr (Or.inr (Nat.zero_le _)))
  have Ovh0_14 := Lib.hid (Ovh0_13_.out.fr e14.fr (Or.inr (Nat.zero_le _)))
  clear Ovw0_13_ Ovg0_13_ Ovh0_13_
  have hb0_0_ : w14.cell? ⟨w.heap.size, 0, none⟩ = some (.int .i64 n0) := Ext.cell e14 hb0_0
  clear hb0_0
  have hb0_0 := hb0_0_; clear hb0_0_
  have hb0_1_ : w14.cell? ⟨w.heap.size, 1, none⟩ = some (.slice A0 x0.length c0) := Ext.cell e14 hb0_1
  clear hb0_1
  have hb0_1 := hb0_1_; clear hb0_1_
  have kbvw0_0_ : w14.cell? ⟨w3.heap.size, 0, none⟩ = some (.int .i64 y0.1) := Ext.cell e14 kbvw0_0
  clear kbvw0_0
  have kbvw0_0 := kbvw0_0_; clear kbvw0_0_
  have kbvw0_1_ : w14.cell? ⟨w3.heap.size, 1, none⟩ = some (.slice Avw0 y0.2.length cvw0) := Ext.cell e14 kbvw0_1
  clear kbvw0_1
  have kbvw0_1 := kbvw0_1_; clear kbvw0_1_
  have kbvg0_0_ : w14.cell? ⟨w5.heap.size, 0, none⟩ = some (.int .i64 y0.1) := Ext.cell e14 kbvg0_0
  clear kbvg0_0
  have kbvg0_0 := kbvg0_0_; clear kbvg0_0_
  have kbvg0_1_ : w14.cell? ⟨w5.heap.size, 1, none⟩ = some (.slice Avg0 y0.2.length cvg0) := Ext.cell e14 kbvg0_1
  clear kbvg0_1
  have kbvg0_1 := kbvg0_1_; clear kbvg0_1_
  have kbvh0_0_ : w14.cell? ⟨w13.heap.size, 0, none⟩ = some (.int .i64 y0.1) := Ext.cell e14 kbvh0_0
  clear kbvh0_0
  have kbvh0_0 := kbvh0_0_; clear kbvh0_0_
  have kbvh0_1_ : w14.cell? ⟨w13.heap.size, 1, none⟩ = some (.slice Avh0 y0.2.length cvh0) := Ext.cell e14 kbvh0_1
  clear kbvh0_1
  have kbvh0_1 := kbvh0_1_; clear kbvh0_1_
  clear e14
  clear Ovh0_14
  clear kbvh0_0 kbvh0_1
  clear Ovw0_14
  clear kbvw0_0 kbvw0_1
  go_wp2_with fail
  refine (heldR_law _ Ovg0_14.out (by have := z0.out; have := zy0.out; omega) (by have := z0.out; have := zy0.out; omega) (Nat.le_trans zy0.out (by omega))).mono ?_
  rintro e w15 ⟨rfl, e15⟩
  have X15 : Hid (Ext w w15) := X14.out.trans e15
  have S15 : Hid (w14.heap.size ≤ w15.heap.size) := e15.size
  have Ovg0_15 := Lib.hid (Ovg0_14.out.fr e15.fr (Or.inr (Nat.zero_le _)))
  clear Ovg0_14
  have hb0_0_ : w15.cell? ⟨w.heap.size, 0, none⟩ = some (.int .i64 n0) := Ext.cell e15 hb0_0
  clear hb0_0
  have hb0_0 := hb0_0_; clear hb0_0_
  have hb0_1_ : w15.cell? ⟨w.heap.size, 1, none⟩ = some (.slice A0 x0.length c0) := Ext.cell e15 hb0_1
  clear hb0_1
  have hb0_1 := hb0_1_; clear hb0_1_
  have kbvg0_0_ : w15.cell? ⟨w5.heap.size, 0, none⟩ = some (.int .i64 y0.1) := Ext.cell e15 kbvg0_0
  clear kbvg0_0
  have kbvg0_0 := kbvg0_0_; clear kbvg0_0_
  have kbvg0_1_ : w15.cell? ⟨w5.heap.size, 1, none⟩ = some (.slice Avg0 y0.2.length cvg0) := Ext.cell e15 kbvg0_1
  clear kbvg0_1
  have kbvg0_1 := kbvg0_1_; clear kbvg0_1_
  clear e15
  go_wp2_with fail
  go_ret
  exact ⟨rfl, X15.out⟩

theorem walk_FnExactApplyWord (w : World) (n0 : Int) (A0 : Option Addr) (c0 : Nat) (x0 : List Int) (g0 : (-9223372036854775808 ≤ n0 ∧ n0 ≤ 9223372036854775807) ∧ RdI w A0 x0 ∧ x0.length ≤ c0 ∧ c0 ≤ maxLen ∧ Fits x0) (x1 : ByteArray) (g1 : x1.size ≤ maxLen) :
    Calls Tryd.prog 3 #[.agg #[.int .i64 n0, .slice A0 x0.length c0], .string x1] w fun e w' => e = .returned (.bool true) ∧ Ext w w' := by
  by_cases hbigS : 1048576 < x1.size
  · obtain ⟨l, hll⟩ : ∃ l, l = x0.length := ⟨_, rfl⟩
    have hs9 : x1.size ≤ 9223372036854775807 := by unfold maxLen at g1; omega
    rw [← hll]
    clear g0 g1 hll
    go_enter Tryd.func3, Tryd.ntmps3
    go_wp2_with fail
    go_ret
    exact ⟨rfl, (Ext.refl _).alloc _⟩
  have hs1 : x1.size ≤ 1048576 := by omega
  by_cases hbig0 : 1048576 < x0.length
  · go_enter Tryd.func3, Tryd.ntmps3
    go_wp2_with fail
    refine (szR_bad n0 _ _ x0.length _ _ ⟨by omega, by omega⟩ (by omega) ⟨g0.2.2.1, g0.2.2.2.1⟩).mono ?_
    rintro e v1 ⟨rfl, f1⟩
    have X : Hid (Ext w v1) := ((Ext.refl w).alloc _).trans f1
    clear f1
    go_wp2_with fail
    go_ret
    exact ⟨rfl, X.out⟩
  have hn : x0.length ≤ 1048576 := by omega
  exact core_FnExactApplyWord w n0 A0 c0 x0 g0 x1 hs1 (awF n0 x0 x1.data.toList) (awB n0 x0 x1.data.toList)
    (show szR (n0, x0) ≤ 1048576 from by unfold szR; (try dsimp only); omega)
    (Lib.hid hn)
    (show szR _ ≤ _ from Nat.le_trans (awF_sz n0 x0 x1.data.toList) (by decide))
    (Lib.hid fun w _ _ _ h => by obtain ⟨A, c, rfl, hr, hc⟩ := h.rdc; exact (awS_any _ A c _ x1 w hr hn hs1).mono fun _ _ h => h)
    (Lib.hid fun w _ _ _ h => by obtain ⟨A, c, rfl, hr, hc⟩ := h.rdc; exact (awI_any _ A c _ x1 w hr hn hs1).mono fun _ _ h => h)
set_option maxRecDepth 100000 in
theorem lifted_FnExactApplyWord (os : Os) (started : os.Started) (H : Type) (enc : TypeId × Value → H) :
    ReturnsInHanded {} Tryd.checked os 3 .any (fun w args => (Rows.fnExactApplyWordSpec.pre enc Tryd.prog Tryd.f3 Rows.fnExactApplyWordRow.domain false w args ∧ laidMetH Tryd.prog Rows.fnExactApplyWordRow.laid w) ∧ sizedMet enc Tryd.prog Tryd.f3 (OpenSpec.ofChange Rows.fnExactApplyWordSpec) false w args) (Rows.fnExactApplyWordSpec.post enc Tryd.prog Tryd.f3 false true false false) := by
  refine returnsInHanded_of_change_and (C := Tryd.checked) (X := fun w _ => laidMetH Tryd.prog Rows.fnExactApplyWordRow.laid w) (fun _ _ _ hh h => h.of_heap hh) own started (by kernel_rfl) Tryd.func3
    (ChangeSpec.witness_shaped (enc := enc) (C := Tryd.checked) (os := os) (X := fun w _ => laidMetH Tryd.prog Rows.fnExactApplyWordRow.laid w) false (World.laidAll Tryd.prog os Rows.fnExactApplyWordRow.laid) #[.agg #[.int .i64 0, .slice none 0 0], .string ByteArray.empty] 8 (World.laidAll_os _ _ _)
      (World.shaped_of_ZipB (by kernel_rfl) (by kernel_rfl)) (by kernel_rfl) (by kernel_rfl) (by kernel_rfl)
      (by rw [MakeChecks.laidMetH_plain _ _ _ (by kernel_rfl)]; exact laidMet_laidAll _ (by kernel_rfl) (by kernel_rfl))) ?_
  intro W base args ds gs before hval0 hW hcnd _ hL _
  have hval : ∀ (j : Nat) t v, Tryd.f3.params[j]? = some t → args[j]? = some v → Value.okWide Tryd.prog W .any base t v := hval0
  have hW' := hW
  obtain ⟨p, q, hA0, hV, rfl, hfz, hnd⟩ := hW
  have hA : DataW.TrodAll enc Tryd.prog W 0 (fun _ => true) true Tryd.f3.params.toList args.toList ds p := hA0
  rw [Tryd.params3] at hA hval
  obtain ⟨v0, vs0, d0, ds0, p0, q0, hargs, rfl, rfl, h0, r0⟩ := trodAll_cons hA
  obtain ⟨v1, vs1, d1, ds1, p1, q1, rfl, rfl, rfl, h1, r1⟩ := trodAll_cons r0
  obtain ⟨rfl, rfl, rfl⟩ := trodAll_nil r1
  obtain rfl : args = #[v0, v1] := by cases args; simp_all
  obtain ⟨rfl, rfl⟩ := trodVars_none hV
  have k0 := h0
  have lt0 : ∀ x ∈ p0, x.block < W.heap.size := by obtain ⟨m, hm⟩ := k0; exact DataW.trod_lt m _ _ _ hm
  have k1 := h1
  have lt1 : ∀ x ∈ p1, x.block < W.heap.size := by obtain ⟨m, hm⟩ := k1; exact DataW.trod_lt m _ _ _ hm
  obtain ⟨n0, A0, c0, x0, rfl, g0⟩ := view_rhythm Tryd.underlying24 (by kernel_rfl) (by kernel_rfl) Tryd.underlying3 Tryd.underlying22 Tryd.underlying3 (by kernel_rfl) (hval 0 24 v0 rfl rfl) h0
  obtain ⟨x1, rfl, g1⟩ := view_string Tryd.underlying9 (hval 1 9 v1 rfl rfl) h1
  clear hA0 hval0
  refine (walk_FnExactApplyWord W n0 A0 c0 x0 g0 x1 g1).mono fun e W' ⟨he, bel⟩ => ?_
  subst he
  exact ⟨_, rfl, _, _, _, [], _, [], hW', trodAll_mk1 (shut_bool Tryd.underlying4 _), (trodAll_cons_mk (Below.trod laidOut (by kernel_rfl) (of_decide_eq_true (by kernel_rfl)) k0 bel lt0) (trodAll_cons_mk (Below.trod laidOut (by kernel_rfl) (of_decide_eq_true (by kernel_rfl)) k1 bel lt1) trodAll_mk0)), rfl, Below.frame bel _, fun h => by cases h⟩

theorem said_FnExactApplyWord : Rows.FnExactApplyWordSaid :=
  OpenClaim.holds_of_wide 3 Tryd.f3 rfl rfl rfl rfl rfl rfl rfl ⟨rfl, rfl, rfl, rfl, rfl⟩ rfl rfl rfl rfl rfl (by kernel_rfl) Tryd.func3 (by kernel_rfl)
    (of_decide_eq_true (by kernel_rfl)) (by unfold Func.isWrapper; first | (rw [if_pos (by decide +kernel)]; kernel_rfl) | (rw [if_neg (by decide +kernel)]; exact ⟨rfl, rfl⟩))
    (fun os started H enc _ => lifted_FnExactApplyWord os started H enc)
theorem proved_FnExactApplyWord : Rows.FnExactApplyWordCardSaid :=
  Claim7.holds_tied_plain_at .later [] [.data, .pinned] true (true, "fb1753db6b5a7189735064b77c980d35af50245e184b859b1b9bef7658e39229") false said_FnExactApplyWord (fun _ h => by cases h) (by kernel_rfl) (fun _ h => by cases h) fnExactApplyWord_row_tie rfl ⟨rfl, rfl⟩ (by kernel_rfl) rfl
    (fun f fn hf hfn => by
      obtain rfl : f = 3 := Option.some.inj ((show Tryd.prog.funcNamed "loop.example/g03204/laws.FnExactApplyWord" = some 3 by kernel_rfl).symm.trans hf) |>.symm
      obtain rfl : fn = Tryd.f3 := (Option.some.inj (Tryd.func3.symm.trans hfn)).symm
      exact ⟨by kernel_rfl, fun j t ht => by
        rw [Tryd.params3] at ht
        have hm : t ∈ [24, 9] := by simpa using Array.mem_of_getElem? ht
        have hall : ([24, 9].all fun u => !Tryd.prog.wantsStandIn u) = true := by kernel_rfl
        exact (show Tryd.prog.wantsStandIn t = false by simpa using List.all_eq_true.1 hall t hm)⟩)
    (by kernel_rfl)
end Go.Proofs.YtphpdanohooccaaDoor
