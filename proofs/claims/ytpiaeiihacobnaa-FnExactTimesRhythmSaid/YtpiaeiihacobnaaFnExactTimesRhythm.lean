/- FnExactTimesRhythm: for all arguments the law answers true: impl.TimesRhythm returns what the reference's function of that name returns, leaves its arguments as they were, and its result shares no memory. No conditions. -/
import Derived.Test.YtpiaeiihacobnaaRow
import Derived.Test.YtpiaeiihacobnaaOwn
import Derived.Test.YtpiaeiihacobnaaOwnR
import Derived.Test.YtpiaeiihacobnaaTimesR
namespace Go.Proofs.Ytpiaeiihacobnaa
open Go.ChangeShapes Go.WideShapes Go.ChangeAt Go.RowKit Go.Joins

set_option maxHeartbeats 1000000 in
/-- The law's walk, over contracts of the two functions. -/
theorem core_FnExactTimesRhythm (w : World) (A0 : Option Addr) (c0 : Nat) (x0 : List Int) (g0 : RdI w A0 x0 ∧ x0.length ≤ c0 ∧ c0 ≤ maxLen ∧ Fits x0) (x1 : Int) (_g1 : -9223372036854775808 ≤ x1 ∧ x1 ≤ 9223372036854775807) (x2 : Int) (_g2 : -9223372036854775808 ≤ x2 ∧ x2 ≤ 9223372036854775807)
    (y0 : Int × List Int) (y1 : Bool)
    (z0 : Hid (szS x0 ≤ 1048576))
    (zy0 : Hid (szR y0 ≤ 1099511627776))
    (CS : Hid (∀ w : World, ∀ (L0 U0 : Nat) (a0 : Value), OwnS w L0 U0 a0 x0 → Calls Try.prog 30 #[a0, .int .i64 x1, .int .i64 x2] w (fun e w' => ∃ v0, e = .returned (.tuple #[v0, .bool y1]) ∧ OwnR w' w.heap.size w'.heap.size v0 y0 ∧ Ext w w')))
    (CI : Hid (∀ w : World, ∀ (L0 U0 : Nat) (a0 : Value), OwnS w L0 U0 a0 x0 → Calls Try.prog 31 #[a0, .int .i64 x1, .int .i64 x2] w (fun e w' => ∃ v0, e = .returned (.tuple #[v0, .bool y1]) ∧ OwnR w' w.heap.size w'.heap.size v0 y0 ∧ Ext w w'))) :
    Calls Try.prog 10 #[.slice A0 x0.length c0, .int .i64 x1, .int .i64 x2] w fun e w' => e = .returned (.bool true) ∧ Ext w w' := by
  have G0 := Lib.hid g0
  clear g0
  have zz0 : x0.length ≤ 1048576 := by have := z0.out; unfold szS at this; omega
  go_enter Try.func10, Try.ntmps10
  go_wp2_with fail
  refine (toS_law A0 c0 x0 _ (G0.out.1.ext (Ext.refl w)) zz0).mono ?_
  rintro e w1 ⟨s0, rfl, o1, e1⟩
  have Os0_1 := Lib.hid o1
  clear o1
  have X1 : Hid (Ext w w1) := (Ext.refl w).trans e1
  have S1 : Hid (w.heap.size ≤ w1.heap.size) := X1.out.size
  clear e1
  go_wp2_with fail
  refine (CS.out _ _ _ _ Os0_1.out).mono ?_
  rintro e w2 ⟨vw0, rfl, o2_0, e2⟩
  obtain ⟨Avw0, cvw0, rfl, oo2⟩ := o2_0
  have Ovw0_2 : Hid (OwnR w2 _ _ (.agg #[.int .i64 y0.1, .slice Avw0 y0.2.length cvw0]) y0) := ⟨Avw0, cvw0, rfl, oo2⟩
  clear oo2
  have X2 : Hid (Ext w w2) := X1.out.trans e2
  have S2 : Hid (w1.heap.size ≤ w2.heap.size) := e2.size
  have Os0_2 := Lib.hid (Os0_1.out.fr e2.fr (Or.inr (Nat.zero_le _)))
  clear Os0_1
  clear e2
  have X2_ : Hid (Ext w (w2.alloc (.cells #[.int .i64 y0.1, .slice Avw0 y0.2.length cvw0] 35))) := X2.out.alloc _
  clear X2
  have X2 := X2_; clear X2_
  have Os0_2_ := Lib.hid (Os0_2.out.fr ((Ext.refl w2).alloc (.cells #[.int .i64 y0.1, .slice Avw0 y0.2.length cvw0] 35)).fr (Or.inr (Nat.zero_le _)))
  clear Os0_2
  have Ovw0_2_ := Lib.hid (Ovw0_2.out.fr ((Ext.refl w2).alloc (.cells #[.int .i64 y0.1, .slice Avw0 y0.2.length cvw0] 35)).fr (Or.inr (Nat.zero_le _)))
  clear Ovw0_2
  have kbvw0_0 : (w2.alloc (.cells #[.int .i64 y0.1, .slice Avw0 y0.2.length cvw0] 35)).cell? ⟨w2.heap.size, 0, none⟩ = some (.int .i64 y0.1) := (box2 _ _ _ _ _ rfl).1
  have kbvw0_1 : (w2.alloc (.cells #[.int .i64 y0.1, .slice Avw0 y0.2.length cvw0] 35)).cell? ⟨w2.heap.size, 1, none⟩ = some (.slice Avw0 y0.2.length cvw0) := (box2 _ _ _ _ _ rfl).2
  clear Os0_2_
  go_wp2_with fail
  refine (toS_law A0 c0 x0 _ (G0.out.1.ext X2.out) zz0).mono ?_
  rintro e w3 ⟨a0, rfl, o3, e3⟩
  have Oa0_3 := Lib.hid o3
  clear o3
  have X3 : Hid (Ext w w3) := X2.out.trans e3
  have P3 : Hid ((w2.alloc (.cells #[.int .i64 y0.1, .slice Avw0 y0.2.length cvw0] 35)).heap.size = w2.heap.size + 1) := (by simp : (w2.alloc (.cells #[.int .i64 y0.1, .slice Avw0 y0.2.length cvw0] 35)).heap.size = w2.heap.size + 1)
  have S3 : Hid (w2.heap.size + 1 ≤ w3.heap.size) := (by have := e3.size; simpa using this : w2.heap.size + 1 ≤ w3.heap.size)
  have Ovw0_3 := Lib.hid (Ovw0_2_.out.fr e3.fr (Or.inr (Nat.zero_le _)))
  clear Ovw0_2_
  have kbvw0_0_ : w3.cell? ⟨w2.heap.size, 0, none⟩ = some (.int .i64 y0.1) := Ext.cell e3 kbvw0_0
  clear kbvw0_0
  have kbvw0_0 := kbvw0_0_; clear kbvw0_0_
  have kbvw0_1_ : w3.cell? ⟨w2.heap.size, 1, none⟩ = some (.slice Avw0 y0.2.length cvw0) := Ext.cell e3 kbvw0_1
  clear kbvw0_1
  have kbvw0_1 := kbvw0_1_; clear kbvw0_1_
  clear e3
  go_wp2_with fail
  refine (CI.out _ _ _ _ Oa0_3.out).mono ?_
  rintro e w4 ⟨vg0, rfl, o4_0, e4⟩
  obtain ⟨Avg0, cvg0, rfl, oo4⟩ := o4_0
  have Ovg0_4 : Hid (OwnR w4 _ _ (.agg #[.int .i64 y0.1, .slice Avg0 y0.2.length cvg0]) y0) := ⟨Avg0, cvg0, rfl, oo4⟩
  clear oo4
  have X4 : Hid (Ext w w4) := X3.out.trans e4
  have S4 : Hid (w3.heap.size ≤ w4.heap.size) := e4.size
  have Ovw0_4 := Lib.hid (Ovw0_3.out.fr e4.fr (Or.inr (Nat.zero_le _)))
  have Oa0_4 := Lib.hid (Oa0_3.out.fr e4.fr (Or.inr (Nat.zero_le _)))
  clear Ovw0_3 Oa0_3
  have kbvw0_0_ : w4.cell? ⟨w2.heap.size, 0, none⟩ = some (.int .i64 y0.1) := Ext.cell e4 kbvw0_0
  clear kbvw0_0
  have kbvw0_0 := kbvw0_0_; clear kbvw0_0_
  have kbvw0_1_ : w4.cell? ⟨w2.heap.size, 1, none⟩ = some (.slice Avw0 y0.2.length cvw0) := Ext.cell e4 kbvw0_1
  clear kbvw0_1
  have kbvw0_1 := kbvw0_1_; clear kbvw0_1_
  clear e4
  have X4_ : Hid (Ext w (w4.alloc (.cells #[.int .i64 y0.1, .slice Avg0 y0.2.length cvg0] 35))) := X4.out.alloc _
  clear X4
  have X4 := X4_; clear X4_
  have Ovw0_4_ := Lib.hid (Ovw0_4.out.fr ((Ext.refl w4).alloc (.cells #[.int .i64 y0.1, .slice Avg0 y0.2.length cvg0] 35)).fr (Or.inr (Nat.zero_le _)))
  clear Ovw0_4
  have Oa0_4_ := Lib.hid (Oa0_4.out.fr ((Ext.refl w4).alloc (.cells #[.int .i64 y0.1, .slice Avg0 y0.2.length cvg0] 35)).fr (Or.inr (Nat.zero_le _)))
  clear Oa0_4
  have Ovg0_4_ := Lib.hid (Ovg0_4.out.fr ((Ext.refl w4).alloc (.cells #[.int .i64 y0.1, .slice Avg0 y0.2.length cvg0] 35)).fr (Or.inr (Nat.zero_le _)))
  clear Ovg0_4
  have kbvw0_0_ := Ext.cell ((Ext.refl w4).alloc (.cells #[.int .i64 y0.1, .slice Avg0 y0.2.length cvg0] 35)) kbvw0_0
  clear kbvw0_0
  have kbvw0_0 := kbvw0_0_; clear kbvw0_0_
  have kbvw0_1_ := Ext.cell ((Ext.refl w4).alloc (.cells #[.int .i64 y0.1, .slice Avg0 y0.2.length cvg0] 35)) kbvw0_1
  clear kbvw0_1
  have kbvw0_1 := kbvw0_1_; clear kbvw0_1_
  have kbvg0_0 : (w4.alloc (.cells #[.int .i64 y0.1, .slice Avg0 y0.2.length cvg0] 35)).cell? ⟨w4.heap.size, 0, none⟩ = some (.int .i64 y0.1) := (box2 _ _ _ _ _ rfl).1
  have kbvg0_1 : (w4.alloc (.cells #[.int .i64 y0.1, .slice Avg0 y0.2.length cvg0] 35)).cell? ⟨w4.heap.size, 1, none⟩ = some (.slice Avg0 y0.2.length cvg0) := (box2 _ _ _ _ _ rfl).2
  go_wp2_with fail
  refine (eqR_law Ovg0_4_.out Ovw0_4_.out (Nat.le_trans zy0.out (by omega))).mono ?_
  rintro e w5 ⟨rfl, e5⟩
  have X5 : Hid (Ext w w5) := X4.out.trans e5
  have P5 : Hid ((w4.alloc (.cells #[.int .i64 y0.1, .slice Avg0 y0.2.length cvg0] 35)).heap.size = w4.heap.size + 1) := (by simp : (w4.alloc (.cells #[.int .i64 y0.1, .slice Avg0 y0.2.length cvg0] 35)).heap.size = w4.heap.size + 1)
  have S5 : Hid (w4.heap.size + 1 ≤ w5.heap.size) := (by have := e5.size; simpa using this : w4.heap.size + 1 ≤ w5.heap.size)
  have Ovw0_5 := Lib.hid (Ovw0_4_.out.fr e5.fr (Or.inr (Nat.zero_le _)))
  have Oa0_5 := Lib.hid (Oa0_4_.out.fr e5.fr (Or.inr (Nat.zero_le _)))
  have Ovg0_5 := Lib.hid (Ovg0_4_.out.fr e5.fr (Or.inr (Nat.zero_le _)))
  clear Ovw0_4_ Oa0_4_ Ovg0_4_
  have kbvw0_0_ : w5.cell? ⟨w2.heap.size, 0, none⟩ = some (.int .i64 y0.1) := Ext.cell e5 kbvw0_0
  clear kbvw0_0
  have kbvw0_0 := kbvw0_0_; clear kbvw0_0_
  have kbvw0_1_ : w5.cell? ⟨w2.heap.size, 1, none⟩ = some (.slice Avw0 y0.2.length cvw0) := Ext.cell e5 kbvw0_1
  clear kbvw0_1
  have kbvw0_1 := kbvw0_1_; clear kbvw0_1_
  have kbvg0_0_ : w5.cell? ⟨w4.heap.size, 0, none⟩ = some (.int .i64 y0.1) := Ext.cell e5 kbvg0_0
  clear kbvg0_0
  have kbvg0_0 := kbvg0_0_; clear kbvg0_0_
  have kbvg0_1_ : w5.cell? ⟨w4.heap.size, 1, none⟩ = some (.slice Avg0 y0.2.length cvg0) := Ext.cell e5 kbvg0_1
  clear kbvg0_1
  have kbvg0_1 := kbvg0_1_; clear kbvg0_1_
  clear e5
  go_wp2_with fail
  refine (toS_law A0 c0 x0 _ (G0.out.1.ext X5.out) zz0).mono ?_
  rintro e w6 ⟨b0, rfl, o6, e6⟩
  have Ob0_6 := Lib.hid o6
  clear o6
  have X6 : Hid (Ext w w6) := X5.out.trans e6
  have S6 : Hid (w5.heap.size ≤ w6.heap.size) := e6.size
  have Ovw0_6 := Lib.hid (Ovw0_5.out.fr e6.fr (Or.inr (Nat.zero_le _)))
  have Oa0_6 := Lib.hid (Oa0_5.out.fr e6.fr (Or.inr (Nat.zero_le _)))
  have Ovg0_6 := Lib.hid (Ovg0_5.out.fr e6.fr (Or.inr (Nat.zero_le _)))
  clear Ovw0_5 Oa0_5 Ovg0_5
  have kbvw0_0_ : w6.cell? ⟨w2.heap.size, 0, none⟩ = some (.int .i64 y0.1) := Ext.cell e6 kbvw0_0
  clear kbvw0_0
  have kbvw0_0 := kbvw0_0_; clear kbvw0_0_
  have kbvw0_1_ : w6.cell? ⟨w2.heap.size, 1, none⟩ = some (.slice Avw0 y0.2.length cvw0) := Ext.cell e6 kbvw0_1
  clear kbvw0_1
  have kbvw0_1 := kbvw0_1_; clear kbvw0_1_
  have kbvg0_0_ : w6.cell? ⟨w4.heap.size, 0, none⟩ = some (.int .i64 y0.1) := Ext.cell e6 kbvg0_0
  clear kbvg0_0
  have kbvg0_0 := kbvg0_0_; clear kbvg0_0_
  have kbvg0_1_ : w6.cell? ⟨w4.heap.size, 1, none⟩ = some (.slice Avg0 y0.2.length cvg0) := Ext.cell e6 kbvg0_1
  clear kbvg0_1
  have kbvg0_1 := kbvg0_1_; clear kbvg0_1_
  clear e6
  go_wp2_with fail
  refine (eqS_law Oa0_6.out Ob0_6.out (Nat.le_trans z0.out (by omega))).mono ?_
  rintro e w7 ⟨rfl, e7⟩
  have X7 : Hid (Ext w w7) := X6.out.trans e7
  have S7 : Hid (w6.heap.size ≤ w7.heap.size) := e7.size
  have Ovw0_7 := Lib.hid (Ovw0_6.out.fr e7.fr (Or.inr (Nat.zero_le _)))
  have Oa0_7 := Lib.hid (Oa0_6.out.fr e7.fr (Or.inr (Nat.zero_le _)))
  have Ovg0_7 := Lib.hid (Ovg0_6.out.fr e7.fr (Or.inr (Nat.zero_le _)))
  have Ob0_7 := Lib.hid (Ob0_6.out.fr e7.fr (Or.inr (Nat.zero_le _)))
  clear Ovw0_6 Oa0_6 Ovg0_6 Ob0_6
  have kbvw0_0_ : w7.cell? ⟨w2.heap.size, 0, none⟩ = some (.int .i64 y0.1) := Ext.cell e7 kbvw0_0
  clear kbvw0_0
  have kbvw0_0 := kbvw0_0_; clear kbvw0_0_
  have kbvw0_1_ : w7.cell? ⟨w2.heap.size, 1, none⟩ = some (.slice Avw0 y0.2.length cvw0) := Ext.cell e7 kbvw0_1
  clear kbvw0_1
  have kbvw0_1 := kbvw0_1_; clear kbvw0_1_
  have kbvg0_0_ : w7.cell? ⟨w4.heap.size, 0, none⟩ = some (.int .i64 y0.1) := Ext.cell e7 kbvg0_0
  clear kbvg0_0
  have kbvg0_0 := kbvg0_0_; clear kbvg0_0_
  have kbvg0_1_ : w7.cell? ⟨w4.heap.size, 1, none⟩ = some (.slice Avg0 y0.2.length cvg0) := Ext.cell e7 kbvg0_1
  clear kbvg0_1
  have kbvg0_1 := kbvg0_1_; clear kbvg0_1_
  clear e7
  clear Ob0_7
  go_wp2_with fail
  refine (markS_law Oa0_7.out _ (by have := z0.out; have := zy0.out; omega) (by have := z0.out; have := zy0.out; omega) (Nat.le_trans z0.out (by omega))).mono ?_
  rintro e w8 ⟨rfl, o8, f8⟩
  have Oa0_8 := Lib.hid o8
  clear o8
  have X8 : Hid (Ext w w8) := X7.out.then_fr f8 (by have := S1.out; have := S2.out; have := P3.out; have := S3.out; have := S4.out; have := P5.out; have := S5.out; have := S6.out; have := S7.out; exact (by omega))
  have S8 : Hid (w7.heap.size ≤ w8.heap.size) := f8.size
  have Ovw0_8 := Lib.hid (Ovw0_7.out.fr f8 ((by have := S1.out; have := S2.out; have := P3.out; have := S3.out; have := S4.out; have := P5.out; have := S5.out; have := S6.out; have := S7.out; have := S8.out; omega)))
  have Ovg0_8 := Lib.hid (Ovg0_7.out.fr f8 ((by have := S1.out; have := S2.out; have := P3.out; have := S3.out; have := S4.out; have := P5.out; have := S5.out; have := S6.out; have := S7.out; have := S8.out; omega)))
  clear Ovw0_7 Ovg0_7
  have kbvw0_0_ : w8.cell? ⟨w2.heap.size, 0, none⟩ = some (.int .i64 y0.1) := Fr.cell f8 kbvw0_0 (by have := S1.out; have := S2.out; have := P3.out; have := S3.out; have := S4.out; have := P5.out; have := S5.out; have := S6.out; have := S7.out; have := S8.out; simp only []; omega)
  clear kbvw0_0
  have kbvw0_0 := kbvw0_0_; clear kbvw0_0_
  have kbvw0_1_ : w8.cell? ⟨w2.heap.size, 1, none⟩ = some (.slice Avw0 y0.2.length cvw0) := Fr.cell f8 kbvw0_1 (by have := S1.out; have := S2.out; have := P3.out; have := S3.out; have := S4.out; have := P5.out; have := S5.out; have := S6.out; have := S7.out; have := S8.out; simp only []; omega)
  clear kbvw0_1
  have kbvw0_1 := kbvw0_1_; clear kbvw0_1_
  have kbvg0_0_ : w8.cell? ⟨w4.heap.size, 0, none⟩ = some (.int .i64 y0.1) := Fr.cell f8 kbvg0_0 (by have := S1.out; have := S2.out; have := P3.out; have := S3.out; have := S4.out; have := P5.out; have := S5.out; have := S6.out; have := S7.out; have := S8.out; simp only []; omega)
  clear kbvg0_0
  have kbvg0_0 := kbvg0_0_; clear kbvg0_0_
  have kbvg0_1_ : w8.cell? ⟨w4.heap.size, 1, none⟩ = some (.slice Avg0 y0.2.length cvg0) := Fr.cell f8 kbvg0_1 (by have := S1.out; have := S2.out; have := P3.out; have := S3.out; have := S4.out; have := P5.out; have := S5.out; have := S6.out; have := S7.out; have := S8.out; simp only []; omega)
  clear kbvg0_1
  have kbvg0_1 := kbvg0_1_; clear kbvg0_1_
  clear f8
  clear Oa0_7
  go_wp2_with fail
  refine (eqR_law Ovg0_8.out Ovw0_8.out (Nat.le_trans zy0.out (by omega))).mono ?_
  rintro e w9 ⟨rfl, e9⟩
  have X9 : Hid (Ext w w9) := X8.out.trans e9
  have S9 : Hid (w8.heap.size ≤ w9.heap.size) := e9.size
  have Ovw0_9 := Lib.hid (Ovw0_8.out.fr e9.fr (Or.inr (Nat.zero_le _)))
  have Oa0_9 := Lib.hid (Oa0_8.out.fr e9.fr (Or.inr (Nat.zero_le _)))
  have Ovg0_9 := Lib.hid (Ovg0_8.out.fr e9.fr (Or.inr (Nat.zero_le _)))
  clear Ovw0_8 Oa0_8 Ovg0_8
  have kbvw0_0_ : w9.cell? ⟨w2.heap.size, 0, none⟩ = some (.int .i64 y0.1) := Ext.cell e9 kbvw0_0
  clear kbvw0_0
  have kbvw0_0 := kbvw0_0_; clear kbvw0_0_
  have kbvw0_1_ : w9.cell? ⟨w2.heap.size, 1, none⟩ = some (.slice Avw0 y0.2.length cvw0) := Ext.cell e9 kbvw0_1
  clear kbvw0_1
  have kbvw0_1 := kbvw0_1_; clear kbvw0_1_
  have kbvg0_0_ : w9.cell? ⟨w4.heap.size, 0, none⟩ = some (.int .i64 y0.1) := Ext.cell e9 kbvg0_0
  clear kbvg0_0
  have kbvg0_0 := kbvg0_0_; clear kbvg0_0_
  have kbvg0_1_ : w9.cell? ⟨w4.heap.size, 1, none⟩ = some (.slice Avg0 y0.2.length cvg0) := Ext.cell e9 kbvg0_1
  clear kbvg0_1
  have kbvg0_1 := kbvg0_1_; clear kbvg0_1_
  clear e9
  clear Oa0_9
  go_wp2_with fail
  refine (markR_law Ovg0_9.out _ (by have := z0.out; have := zy0.out; omega) (by have := z0.out; have := zy0.out; omega) (Nat.le_trans zy0.out (by omega))).mono ?_
  rintro e w10 ⟨rfl, o10, f10⟩
  have Ovg0_10 := Lib.hid o10
  clear o10
  have X10 : Hid (Ext w w10) := X9.out.then_fr f10 (by have := S1.out; have := S2.out; have := P3.out; have := S3.out; have := S4.out; have := P5.out; have := S5.out; have := S6.out; have := S7.out; have := S8.out; have := S9.out; exact (by omega))
  have S10 : Hid (w9.heap.size ≤ w10.heap.size) := f10.size
  have Ovw0_10 := Lib.hid (Ovw0_9.out.fr f10 ((by have := S1.out; have := S2.out; have := P3.out; have := S3.out; have := S4.out; have := P5.out; have := S5.out; have := S6.out; have := S7.out; have := S8.out; have := S9.out; have := S10.out; omega)))
  clear Ovw0_9
  have kbvw0_0_ : w10.cell? ⟨w2.heap.size, 0, none⟩ = some (.int .i64 y0.1) := Fr.cell f10 kbvw0_0 (by have := S1.out; have := S2.out; have := P3.out; have := S3.out; have := S4.out; have := P5.out; have := S5.out; have := S6.out; have := S7.out; have := S8.out; have := S9.out; have := S10.out; simp only []; omega)
  clear kbvw0_0
  have kbvw0_0 := kbvw0_0_; clear kbvw0_0_
  have kbvw0_1_ : w10.cell? ⟨w2.heap.size, 1, none⟩ = some (.slice Avw0 y0.2.length cvw0) := Fr.cell f10 kbvw0_1 (by have := S1.out; have := S2.out; have := P3.out; have := S3.out; have := S4.out; have := P5.out; have := S5.out; have := S6.out; have := S7.out; have := S8.out; have := S9.out; have := S10.out; simp only []; omega)
  clear kbvw0_1
  have kbvw0_1 := kbvw0_1_; clear kbvw0_1_
  have kbvg0_0_ : w10.cell? ⟨w4.heap.size, 0, none⟩ = some (.int .i64 y0.1) := Fr.cell f10 kbvg0_0 (by have := S1.out; have := S2.out; have := P3.out; have := S3.out; have := S4.out; have := P5.out; have := S5.out; have := S6.out; have := S7.out; have := S8.out; have := S9.out; have := S10.out; simp only []; omega)
  clear kbvg0_0
  have kbvg0_0 := kbvg0_0_; clear kbvg0_0_
  have kbvg0_1_ : w10.cell? ⟨w4.heap.size, 1, none⟩ = some (.slice Avg0 y0.2.length cvg0) := Fr.cell f10 kbvg0_1 (by have := S1.out; have := S2.out; have := P3.out; have := S3.out; have := S4.out; have := P5.out; have := S5.out; have := S6.out; have := S7.out; have := S8.out; have := S9.out; have := S10.out; simp only []; omega)
  clear kbvg0_1
  have kbvg0_1 := kbvg0_1_; clear kbvg0_1_
  clear f10
  clear Ovg0_9
  go_wp2_with fail
  refine (heldR_law _ Ovg0_10.out (by have := z0.out; have := zy0.out; omega) (by have := z0.out; have := zy0.out; omega) (Nat.le_trans zy0.out (by omega))).mono ?_
  rintro e w11 ⟨rfl, e11⟩
  have X11 : Hid (Ext w w11) := X10.out.trans e11
  have S11 : Hid (w10.heap.size ≤ w11.heap.size) := e11.size
  have Ovw0_11 := Lib.hid (Ovw0_10.out.fr e11.fr (Or.inr (Nat.zero_le _)))
  have Ovg0_11 := Lib.hid (Ovg0_10.out.fr e11.fr (Or.inr (Nat.zero_le _)))
  clear Ovw0_10 Ovg0_10
  have kbvw0_0_ : w11.cell? ⟨w2.heap.size, 0, none⟩ = some (.int .i64 y0.1) := Ext.cell e11 kbvw0_0
  clear kbvw0_0
  have kbvw0_0 := kbvw0_0_; clear kbvw0_0_
  have kbvw0_1_ : w11.cell? ⟨w2.heap.size, 1, none⟩ = some (.slice Avw0 y0.2.length cvw0) := Ext.cell e11 kbvw0_1
  clear kbvw0_1
  have kbvw0_1 := kbvw0_1_; clear kbvw0_1_
  have kbvg0_0_ : w11.cell? ⟨w4.heap.size, 0, none⟩ = some (.int .i64 y0.1) := Ext.cell e11 kbvg0_0
  clear kbvg0_0
  have kbvg0_0 := kbvg0_0_; clear kbvg0_0_
  have kbvg0_1_ : w11.cell? ⟨w4.heap.size, 1, none⟩ = some (.slice Avg0 y0.2.length cvg0) := Ext.cell e11 kbvg0_1
  clear kbvg0_1
  have kbvg0_1 := kbvg0_1_; clear kbvg0_1_
  clear e11
  go_wp2_with fail
  refine (toS_law A0 c0 x0 _ (G0.out.1.ext X11.out) zz0).mono ?_
  rintro e w12 ⟨d0, rfl, o12, e12⟩
  have Od0_12 := Lib.hid o12
  clear o12
  have X12 : Hid (Ext w w12) := X11.out.trans e12
  have S12 : Hid (w11.heap.size ≤ w12.heap.size) := e12.size
  have Ovw0_12 := Lib.hid (Ovw0_11.out.fr e12.fr (Or.inr (Nat.zero_le _)))
  have Ovg0_12 := Lib.hid (Ovg0_11.out.fr e12.fr (Or.inr (Nat.zero_le _)))
  clear Ovw0_11 Ovg0_11
  have kbvw0_0_ : w12.cell? ⟨w2.heap.size, 0, none⟩ = some (.int .i64 y0.1) := Ext.cell e12 kbvw0_0
  clear kbvw0_0
  have kbvw0_0 := kbvw0_0_; clear kbvw0_0_
  have kbvw0_1_ : w12.cell? ⟨w2.heap.size, 1, none⟩ = some (.slice Avw0 y0.2.length cvw0) := Ext.cell e12 kbvw0_1
  clear kbvw0_1
  have kbvw0_1 := kbvw0_1_; clear kbvw0_1_
  have kbvg0_0_ : w12.cell? ⟨w4.heap.size, 0, none⟩ = some (.int .i64 y0.1) := Ext.cell e12 kbvg0_0
  clear kbvg0_0
  have kbvg0_0 := kbvg0_0_; clear kbvg0_0_
  have kbvg0_1_ : w12.cell? ⟨w4.heap.size, 1, none⟩ = some (.slice Avg0 y0.2.length cvg0) := Ext.cell e12 kbvg0_1
  clear kbvg0_1
  have kbvg0_1 := kbvg0_1_; clear kbvg0_1_
  clear e12
  go_wp2_with fail
  refine (CI.out _ _ _ _ Od0_12.out).mono ?_
  rintro e w13 ⟨vh0, rfl, o13_0, e13⟩
  obtain ⟨Avh0, cvh0, rfl, oo13⟩ := o13_0
  have Ovh0_13 : Hid (OwnR w13 _ _ (.agg #[.int .i64 y0.1, .slice Avh0 y0.2.length cvh0]) y0) := ⟨Avh0, cvh0, rfl, oo13⟩
  clear oo13
  have X13 : Hid (Ext w w13) := X12.out.trans e13
  have S13 : Hid (w12.heap.size ≤ w13.heap.size) := e13.size
  have Ovw0_13 := Lib.hid (Ovw0_12.out.fr e13.fr (Or.inr (Nat.zero_le _)))
  have Ovg0_13 := Lib.hid (Ovg0_12.out.fr e13.fr (Or.inr (Nat.zero_le _)))
  have Od0_13 := Lib.hid (Od0_12.out.fr e13.fr (Or.inr (Nat.zero_le _)))
  clear Ovw0_12 Ovg0_12 Od0_12
  have kbvw0_0_ : w13.cell? ⟨w2.heap.size, 0, none⟩ = some (.int .i64 y0.1) := Ext.cell e13 kbvw0_0
  clear kbvw0_0
  have kbvw0_0 := kbvw0_0_; clear kbvw0_0_
  have kbvw0_1_ : w13.cell? ⟨w2.heap.size, 1, none⟩ = some (.slice Avw0 y0.2.length cvw0) := Ext.cell e13 kbvw0_1
  clear kbvw0_1
  have kbvw0_1 := kbvw0_1_; clear kbvw0_1_
  have kbvg0_0_ : w13.cell? ⟨w4.heap.size, 0, none⟩ = some (.int .i64 y0.1) := Ext.cell e13 kbvg0_0
  clear kbvg0_0
  have kbvg0_0 := kbvg0_0_; clear kbvg0_0_
  have kbvg0_1_ : w13.cell? ⟨w4.heap.size, 1, none⟩ = some (.slice Avg0 y0.2.length cvg0) := Ext.cell e13 kbvg0_1
  clear kbvg0_1
  have kbvg0_1 := kbvg0_1_; clear kbvg0_1_
  clear e13
  have X13_ : Hid (Ext w (w13.alloc (.cells #[.int .i64 y0.1, .slice Avh0 y0.2.length cvh0] 35))) := X13.out.alloc _
  clear X13
  have X13 := X13_; clear X13_
  have Ovw0_13_ := Lib.hid (Ovw0_13.out.fr ((Ext.refl w13).alloc (.cells #[.int .i64 y0.1, .slice Avh0 y0.2.length cvh0] 35)).fr (Or.inr (Nat.zero_le _)))
  clear Ovw0_13
  have Ovg0_13_ := Lib.hid (Ovg0_13.out.fr ((Ext.refl w13).alloc (.cells #[.int .i64 y0.1, .slice Avh0 y0.2.length cvh0] 35)).fr (Or.inr (Nat.zero_le _)))
  clear Ovg0_13
  have Od0_13_ := Lib.hid (Od0_13.out.fr ((Ext.refl w13).alloc (.cells #[.int .i64 y0.1, .slice Avh0 y0.2.length cvh0] 35)).fr (Or.inr (Nat.zero_le _)))
  clear Od0_13
  have Ovh0_13_ := Lib.hid (Ovh0_13.out.fr ((Ext.refl w13).alloc (.cells #[.int .i64 y0.1, .slice Avh0 y0.2.length cvh0] 35)).fr (Or.inr (Nat.zero_le _)))
  clear Ovh0_13
  have kbvw0_0_ := Ext.cell ((Ext.refl w13).alloc (.cells #[.int .i64 y0.1, .slice Avh0 y0.2.length cvh0] 35)) kbvw0_0
  clear kbvw0_0
  have kbvw0_0 := kbvw0_0_; clear kbvw0_0_
  have kbvw0_1_ := Ext.cell ((Ext.refl w13).alloc (.cells #[.int .i64 y0.1, .slice Avh0 y0.2.length cvh0] 35)) kbvw0_1
  clear kbvw0_1
  have kbvw0_1 := kbvw0_1_; clear kbvw0_1_
  have kbvg0_0_ := Ext.cell ((Ext.refl w13).alloc (.cells #[.int .i64 y0.1, .slice Avh0 y0.2.length cvh0] 35)) kbvg0_0
  clear kbvg0_0
  have kbvg0_0 := kbvg0_0_; clear kbvg0_0_
  have kbvg0_1_ := Ext.cell ((Ext.refl w13).alloc (.cells #[.int .i64 y0.1, .slice Avh0 y0.2.length cvh0] 35)) kbvg0_1
  clear kbvg0_1
  have kbvg0_1 := kbvg0_1_; clear kbvg0_1_
  have kbvh0_0 : (w13.alloc (.cells #[.int .i64 y0.1, .slice Avh0 y0.2.length cvh0] 35)).cell? ⟨w13.heap.size, 0, none⟩ = some (.int .i64 y0.1) := (box2 _ _ _ _ _ rfl).1
  have kbvh0_1 : (w13.alloc (.cells #[.int .i64 y0.1, .slice Avh0 y0.2.length cvh0] 35)).cell? ⟨w13.heap.size, 1, none⟩ = some (.slice Avh0 y0.2.length cvh0) := (box2 _ _ _ _ _ rfl).2
  clear Od0_13_
  go_wp2_with fail
  refine (eqR_law Ovh0_13_.out Ovw0_13_.out (Nat.le_trans zy0.out (by omega))).mono ?_
  rintro e w14 ⟨rfl, e14⟩
  have X14 : Hid (Ext w w14) := X13.out.trans e14
  have P14 : Hid ((w13.alloc (.cells #[.int .i64 y0.1, .slice Avh0 y0.2.length cvh0] 35)).heap.size = w13.heap.size + 1) := (by simp : (w13.alloc (.cells #[.int .i64 y0.1, .slice Avh0 y0.2.length cvh0] 35)).heap.size = w13.heap.size + 1)
  have S14 : Hid (w13.heap.size + 1 ≤ w14.heap.size) := (by have := e14.size; simpa using this : w13.heap.size + 1 ≤ w14.heap.size)
  have Ovw0_14 := Lib.hid (Ovw0_13_.out.fr e14.fr (Or.inr (Nat.zero_le _)))
  have Ovg0_14 := Lib.hid (Ovg0_13_.out.fr e14.fr (Or.inr (Nat.zero_le _)))
  have Ovh0_14 := Lib.hid (Ovh0_13_.out.fr e14.fr (Or.inr (Nat.zero_le _)))
  clear Ovw0_13_ Ovg0_13_ Ovh0_13_
  have kbvw0_0_ : w14.cell? ⟨w2.heap.size, 0, none⟩ = some (.int .i64 y0.1) := Ext.cell e14 kbvw0_0
  clear kbvw0_0
  have kbvw0_0 := kbvw0_0_; clear kbvw0_0_
  have kbvw0_1_ : w14.cell? ⟨w2.heap.size, 1, none⟩ = some (.slice Avw0 y0.2.length cvw0) := Ext.cell e14 kbvw0_1
  clear kbvw0_1
  have kbvw0_1 := kbvw0_1_; clear kbvw0_1_
  have kbvg0_0_ : w14.cell? ⟨w4.heap.size, 0, none⟩ = some (.int .i64 y0.1) := Ext.cell e14 kbvg0_0
  clear kbvg0_0
  have kbvg0_0 := kbvg0_0_; clear kbvg0_0_
  have kbvg0_1_ : w14.cell? ⟨w4.heap.size, 1, none⟩ = some (.slice Avg0 y0.2.length cvg0) := Ext.cell e14 kbvg0_1
  clear kbvg0_1
  have kbvg0_1 := kbvg0_1_; clear kbvg0_1_
  have kbvh0_0_ : w14.cell? ⟨w13.heap.size, 0, none⟩ = some (.int .i64 y0.1) := Ext.cell e14 kbvh0_0
  clear kbvh0_0
  have kbvh0_0 := kbvh0_0_; clear kbvh0_0_
  have kbvh0_1_ : w14.cell? ⟨w13.heap.size, 1, none⟩ = some (.slice Avh0 y0.2.length cvh0) := Ext.cell e14 kbvh0_1
  clear kbvh0_1
  have kbvh0_1 := kbvh0_1_; clear kbvh0_1_
  clear e14
  clear Ovh0_14
  clear kbvh0_0 kbvh0_1
  clear Ovw0_14
  clear kbvw0_0 kbvw0_1
  go_wp2_with fail
  refine (heldR_law _ Ovg0_14.out (by have := z0.out; have := zy0.out; omega) (by have := z0.out; have := zy0.out; omega) (Nat.le_trans zy0.out (by omega))).mono ?_
  rintro e w15 ⟨rfl, e15⟩
  have X15 : Hid (Ext w w15) := X14.out.trans e15
  have S15 : Hid (w14.heap.size ≤ w15.heap.size) := e15.size
  have Ovg0_15 := Lib.hid (Ovg0_14.out.fr e15.fr (Or.inr (Nat.zero_le _)))
  clear Ovg0_14
  have kbvg0_0_ : w15.cell? ⟨w4.heap.size, 0, none⟩ = some (.int .i64 y0.1) := Ext.cell e15 kbvg0_0
  clear kbvg0_0
  have kbvg0_0 := kbvg0_0_; clear kbvg0_0_
  have kbvg0_1_ : w15.cell? ⟨w4.heap.size, 1, none⟩ = some (.slice Avg0 y0.2.length cvg0) := Ext.cell e15 kbvg0_1
  clear kbvg0_1
  have kbvg0_1 := kbvg0_1_; clear kbvg0_1_
  clear e15
  go_wp2_with fail
  go_ret
  exact ⟨rfl, X15.out⟩

theorem walk_FnExactTimesRhythm (w : World) (A0 : Option Addr) (c0 : Nat) (x0 : List Int) (g0 : RdI w A0 x0 ∧ x0.length ≤ c0 ∧ c0 ≤ maxLen ∧ Fits x0) (x1 : Int) (g1 : -9223372036854775808 ≤ x1 ∧ x1 ≤ 9223372036854775807) (x2 : Int) (g2 : -9223372036854775808 ≤ x2 ∧ x2 ≤ 9223372036854775807) :
    Calls Try.prog 10 #[.slice A0 x0.length c0, .int .i64 x1, .int .i64 x2] w fun e w' => e = .returned (.bool true) ∧ Ext w w' := by
  by_cases hbig : 1048576 < x0.length
  · clear g0
    go_enter Try.func10, Try.ntmps10
    go_wp2
    go_ret
    exact ⟨rfl, Ext.refl _⟩
  · have hn : x0.length ≤ 1048576 := by omega
    exact core_FnExactTimesRhythm w A0 c0 x0 g0 x1 g1 x2 g2 (trF x0 x1 x2) (trB x0 x1 x2)
      (show szS x0 ≤ 1048576 from by unfold szS; (try dsimp only); omega)
      (show szR _ ≤ _ from by unfold szR trF; split; (have := setL_len x2.toNat (fun p : Nat => (x0.map fun x => nearF x x1 / x1 % x2).contains (p : Int)); have h := inB_iff.1 (show inB x2 1 24 = true by rename_i h; unfold trB at h; simp at h; exact h.2); unfold trP; dsimp only; omega); simp)
      (Lib.hid fun w _ _ _ h => by obtain ⟨A, c, rfl, hr⟩ := h.rd; exact trS_any A c _ _ _ w hr hn)
      (Lib.hid fun w _ _ _ h => by obtain ⟨A, c, rfl, hr⟩ := h.rd; exact trI_any A c _ _ _ w hr hn)
set_option maxRecDepth 100000 in
theorem lifted_FnExactTimesRhythm (os : Os) (started : os.Started) (H : Type) (enc : TypeId × Value → H) :
    ReturnsInHanded {} Try.checked os 10 .any (Rows.fnExactTimesRhythmSpec.pre6 enc Try.prog Try.f10 Rows.fnExactTimesRhythmRow.domain false) (Rows.fnExactTimesRhythmSpec.post enc Try.prog Try.f10 false true false false) := by
  refine returnsInHanded_of_change (C := Try.checked) own started (by kernel_rfl) Try.func10
    (ChangeSpec.witness6 (enc := enc) (C := Try.checked) false ⟨#[], #[.slice none 0 0, .int .i64 0, .int .i64 0], []⟩ 8 (by kernel_rfl) (by kernel_rfl) (by kernel_rfl) (by kernel_rfl)) ?_
  intro W base args ds gs before hval0 hW hcnd _
  have hval : ∀ (j : Nat) t v, Try.f10.params[j]? = some t → args[j]? = some v → Value.okWide Try.prog W .any base t v := hval0
  have hW' := hW
  obtain ⟨p, q, hA0, hV, rfl, hfz, hnd⟩ := hW
  have hA : DataW.TrodAll enc Try.prog W 0 (fun _ => true) true Try.f10.params.toList args.toList ds p := hA0
  rw [Try.params10] at hA hval
  obtain ⟨v0, vs0, d0, ds0, p0, q0, hargs, rfl, rfl, h0, r0⟩ := trodAll_cons hA
  obtain ⟨v1, vs1, d1, ds1, p1, q1, rfl, rfl, rfl, h1, r1⟩ := trodAll_cons r0
  obtain ⟨v2, vs2, d2, ds2, p2, q2, rfl, rfl, rfl, h2, r2⟩ := trodAll_cons r1
  obtain ⟨rfl, rfl, rfl⟩ := trodAll_nil r2
  obtain rfl : args = #[v0, v1, v2] := by cases args; simp_all
  obtain ⟨rfl, rfl⟩ := trodVars_none hV
  have k0 := h0
  have lt0 : ∀ x ∈ p0, x.block < W.heap.size := by obtain ⟨m, hm⟩ := k0; exact DataW.trod_lt m _ _ _ hm
  have k1 := h1
  have lt1 : ∀ x ∈ p1, x.block < W.heap.size := by obtain ⟨m, hm⟩ := k1; exact DataW.trod_lt m _ _ _ hm
  have k2 := h2
  have lt2 : ∀ x ∈ p2, x.block < W.heap.size := by obtain ⟨m, hm⟩ := k2; exact DataW.trod_lt m _ _ _ hm
  obtain ⟨A0, c0, x0, rfl, g0⟩ := view_ints Try.underlying22 Try.underlying3 (by kernel_rfl) (hval 0 22 v0 rfl rfl) h0
  obtain ⟨x1, rfl, g1⟩ := view_int Try.underlying3 (hval 1 3 v1 rfl rfl) h1
  obtain ⟨x2, rfl, g2⟩ := view_int Try.underlying3 (hval 2 3 v2 rfl rfl) h2
  clear hA0 hval0
  refine (walk_FnExactTimesRhythm W A0 c0 x0 g0 x1 g1 x2 g2).mono fun e W' ⟨he, bel⟩ => ?_
  subst he
  exact ⟨_, rfl, _, _, _, [], _, [], hW', trodAll_mk1 (shut_bool Try.underlying4 _), (trodAll_cons_mk (Below.trod laidOut (by kernel_rfl) (of_decide_eq_true (by kernel_rfl)) k0 bel lt0) (trodAll_cons_mk (Below.trod laidOut (by kernel_rfl) (of_decide_eq_true (by kernel_rfl)) k1 bel lt1) (trodAll_cons_mk (Below.trod laidOut (by kernel_rfl) (of_decide_eq_true (by kernel_rfl)) k2 bel lt2) trodAll_mk0))), rfl, Below.frame bel _, fun h => by cases h⟩

theorem proved_FnExactTimesRhythm : Rows.FnExactTimesRhythmSaid :=
  OpenClaim.holds_of_wide 10 Try.f10 rfl rfl rfl rfl rfl rfl rfl ⟨rfl, rfl, rfl, rfl, rfl⟩ rfl rfl rfl rfl rfl (by kernel_rfl) Try.func10 (by kernel_rfl)
    (of_decide_eq_true (by kernel_rfl)) (by unfold Func.isWrapper; first | (rw [if_pos (by decide +kernel)]; kernel_rfl) | (rw [if_neg (by decide +kernel)]; exact ⟨rfl, rfl⟩))
    (fun os started H enc _ => lifted_FnExactTimesRhythm os started H enc)
end Go.Proofs.Ytpiaeiihacobnaa
