/- FnExactScaleTempo: for all arguments the law answers true: impl.ScaleTempo returns what the reference's function of that name returns, leaves its arguments as they were, and its result shares no memory. No conditions. -/
import Derived.Test.YtoobffhchbgkjaaRow
import Derived.Test.YtoobffhchbgkjaaOwn
import Derived.Test.YtoobffhchbgkjaaOwnP
import Derived.Test.YtoobffhchbgkjaaTempoC
namespace Go.Proofs.Ytoobffhchbgkjaa
open Go.ChangeShapes Go.WideShapes Go.ChangeAt Go.RowKit Go.Joins

set_option maxHeartbeats 1000000 in
/-- The law's walk, over contracts of the two functions. -/
theorem core_FnExactScaleTempo (w : World) (A0 : Option Addr) (c0 : Nat) (x0 : List (Int × Int)) (g0 : Rd w 2 A0 x0.length (pairCells x0) ∧ x0.length ≤ c0 ∧ c0 ≤ maxLen ∧ ∀ q ∈ x0, (-9223372036854775808 ≤ q.1 ∧ q.1 ≤ 9223372036854775807) ∧ -9223372036854775808 ≤ q.2 ∧ q.2 ≤ 9223372036854775807) (x1 : Int) (_g1 : -9223372036854775808 ≤ x1 ∧ x1 ≤ 9223372036854775807)
    (y0 : List (Int × Int)) (y1 : Bool)
    (z0 : Hid (szP x0 ≤ 1048576))
    (zt_ : Hid (x0.length ≤ 1048576))
    (zy0 : Hid (szP y0 ≤ 1099511627776))
    (CS : Hid (∀ w : World, ∀ (L0 U0 : Nat) (a0 : Value), OwnP w L0 U0 a0 x0 → Calls Try.prog 19 #[a0, .int .i64 x1] w (fun e w' => ∃ v0, e = .returned (.tuple #[v0, .bool y1]) ∧ OwnP w' w.heap.size w'.heap.size v0 y0 ∧ Ext w w')))
    (CI : Hid (∀ w : World, ∀ (L0 U0 : Nat) (a0 : Value), OwnP w L0 U0 a0 x0 → Calls Try.prog 20 #[a0, .int .i64 x1] w (fun e w' => ∃ v0, e = .returned (.tuple #[v0, .bool y1]) ∧ OwnP w' w.heap.size w'.heap.size v0 y0 ∧ Ext w w'))) :
    Calls Try.prog 5 #[.slice A0 x0.length c0, .int .i64 x1] w fun e w' => e = .returned (.bool true) ∧ Ext w w' := by
  have G0 := Lib.hid g0
  clear g0
  have zz0 : x0.length ≤ 1048576 := by have := z0.out; unfold szP at this; omega
  have zt := zt_.out
  go_enter Try.func5, Try.ntmps5
  go_wp2_with fail
  refine (szP_ok _ _ x0.length _ _ ⟨by omega, by omega⟩ (by omega)).mono ?_
  rintro e w1 ⟨rfl, e1⟩
  have X1 : Hid (Ext w w1) := (Ext.refl w).trans e1
  have S1 : Hid (w.heap.size ≤ w1.heap.size) := X1.out.size
  clear e1
  go_wp2_with fail
  refine (toP_law A0 c0 x0 _ (G0.out.1.ext X1.out) zz0).mono ?_
  rintro e w2 ⟨s0, rfl, o2, e2⟩
  have Os0_2 := Lib.hid o2
  clear o2
  have X2 : Hid (Ext w w2) := X1.out.trans e2
  have S2 : Hid (w1.heap.size ≤ w2.heap.size) := e2.size
  clear e2
  go_wp2_with fail
  refine (CS.out _ _ _ _ Os0_2.out).mono ?_
  rintro e w3 ⟨vw0, rfl, o3_0, e3⟩
  have Ovw0_3 := Lib.hid o3_0
  clear o3_0
  have X3 : Hid (Ext w w3) := X2.out.trans e3
  have S3 : Hid (w2.heap.size ≤ w3.heap.size) := e3.size
  have Os0_3 := Lib.hid (Os0_2.out.fr e3.fr (Or.inr (Nat.zero_le _)))
  clear Os0_2
  clear e3
  clear Os0_3
  go_wp2_with fail
  refine (toP_law A0 c0 x0 _ (G0.out.1.ext X3.out) zz0).mono ?_
  rintro e w4 ⟨a0, rfl, o4, e4⟩
  have Oa0_4 := Lib.hid o4
  clear o4
  have X4 : Hid (Ext w w4) := X3.out.trans e4
  have S4 : Hid (w3.heap.size ≤ w4.heap.size) := e4.size
  have Ovw0_4 := Lib.hid (Ovw0_3.out.fr e4.fr (Or.inr (Nat.zero_le _)))
  clear Ovw0_3
  clear e4
  go_wp2_with fail
  refine (CI.out _ _ _ _ Oa0_4.out).mono ?_
  rintro e w5 ⟨vg0, rfl, o5_0, e5⟩
  have Ovg0_5 := Lib.hid o5_0
  clear o5_0
  have X5 : Hid (Ext w w5) := X4.out.trans e5
  have S5 : Hid (w4.heap.size ≤ w5.heap.size) := e5.size
  have Ovw0_5 := Lib.hid (Ovw0_4.out.fr e5.fr (Or.inr (Nat.zero_le _)))
  have Oa0_5 := Lib.hid (Oa0_4.out.fr e5.fr (Or.inr (Nat.zero_le _)))
  clear Ovw0_4 Oa0_4
  clear e5
  go_wp2_with fail
  refine (eqP_law Ovg0_5.out Ovw0_5.out (Nat.le_trans zy0.out (by omega))).mono ?_
  rintro e w6 ⟨rfl, e6⟩
  have X6 : Hid (Ext w w6) := X5.out.trans e6
  have S6 : Hid (w5.heap.size ≤ w6.heap.size) := e6.size
  have Ovw0_6 := Lib.hid (Ovw0_5.out.fr e6.fr (Or.inr (Nat.zero_le _)))
  have Oa0_6 := Lib.hid (Oa0_5.out.fr e6.fr (Or.inr (Nat.zero_le _)))
  have Ovg0_6 := Lib.hid (Ovg0_5.out.fr e6.fr (Or.inr (Nat.zero_le _)))
  clear Ovw0_5 Oa0_5 Ovg0_5
  clear e6
  go_wp2_with fail
  refine (toP_law A0 c0 x0 _ (G0.out.1.ext X6.out) zz0).mono ?_
  rintro e w7 ⟨b0, rfl, o7, e7⟩
  have Ob0_7 := Lib.hid o7
  clear o7
  have X7 : Hid (Ext w w7) := X6.out.trans e7
  have S7 : Hid (w6.heap.size ≤ w7.heap.size) := e7.size
  have Ovw0_7 := Lib.hid (Ovw0_6.out.fr e7.fr (Or.inr (Nat.zero_le _)))
  have Oa0_7 := Lib.hid (Oa0_6.out.fr e7.fr (Or.inr (Nat.zero_le _)))
  have Ovg0_7 := Lib.hid (Ovg0_6.out.fr e7.fr (Or.inr (Nat.zero_le _)))
  clear Ovw0_6 Oa0_6 Ovg0_6
  clear e7
  go_wp2_with fail
  refine (eqP_law Oa0_7.out Ob0_7.out (Nat.le_trans z0.out (by omega))).mono ?_
  rintro e w8 ⟨rfl, e8⟩
  have X8 : Hid (Ext w w8) := X7.out.trans e8
  have S8 : Hid (w7.heap.size ≤ w8.heap.size) := e8.size
  have Ovw0_8 := Lib.hid (Ovw0_7.out.fr e8.fr (Or.inr (Nat.zero_le _)))
  have Oa0_8 := Lib.hid (Oa0_7.out.fr e8.fr (Or.inr (Nat.zero_le _)))
  have Ovg0_8 := Lib.hid (Ovg0_7.out.fr e8.fr (Or.inr (Nat.zero_le _)))
  have Ob0_8 := Lib.hid (Ob0_7.out.fr e8.fr (Or.inr (Nat.zero_le _)))
  clear Ovw0_7 Oa0_7 Ovg0_7 Ob0_7
  clear e8
  clear Ob0_8
  go_wp2_with fail
  refine (markP_law Oa0_8.out _ (by have := z0.out; have := zy0.out; omega) (by have := z0.out; have := zy0.out; omega) (Nat.le_trans z0.out (by omega))).mono ?_
  rintro e w9 ⟨rfl, o9, f9⟩
  have Oa0_9 := Lib.hid o9
  clear o9
  have X9 : Hid (Ext w w9) := X8.out.then_fr f9 (by have := S1.out; have := S2.out; have := S3.out; have := S4.out; have := S5.out; have := S6.out; have := S7.out; have := S8.out; exact (by omega))
  have S9 : Hid (w8.heap.size ≤ w9.heap.size) := f9.size
  have Ovw0_9 := Lib.hid (Ovw0_8.out.fr f9 ((by have := S1.out; have := S2.out; have := S3.out; have := S4.out; have := S5.out; have := S6.out; have := S7.out; have := S8.out; have := S9.out; omega)))
  have Ovg0_9 := Lib.hid (Ovg0_8.out.fr f9 ((by have := S1.out; have := S2.out; have := S3.out; have := S4.out; have := S5.out; have := S6.out; have := S7.out; have := S8.out; have := S9.out; omega)))
  clear Ovw0_8 Ovg0_8
  clear f9
  clear Oa0_8
  go_wp2_with fail
  refine (eqP_law Ovg0_9.out Ovw0_9.out (Nat.le_trans zy0.out (by omega))).mono ?_
  rintro e w10 ⟨rfl, e10⟩
  have X10 : Hid (Ext w w10) := X9.out.trans e10
  have S10 : Hid (w9.heap.size ≤ w10.heap.size) := e10.size
  have Ovw0_10 := Lib.hid (Ovw0_9.out.fr e10.fr (Or.inr (Nat.zero_le _)))
  have Oa0_10 := Lib.hid (Oa0_9.out.fr e10.fr (Or.inr (Nat.zero_le _)))
  have Ovg0_10 := Lib.hid (Ovg0_9.out.fr e10.fr (Or.inr (Nat.zero_le _)))
  clear Ovw0_9 Oa0_9 Ovg0_9
  clear e10
  clear Oa0_10
  go_wp2_with fail
  refine (markP_law Ovg0_10.out _ (by have := z0.out; have := zy0.out; omega) (by have := z0.out; have := zy0.out; omega) (Nat.le_trans zy0.out (by omega))).mono ?_
  rintro e w11 ⟨rfl, o11, f11⟩
  have Ovg0_11 := Lib.hid o11
  clear o11
  have X11 : Hid (Ext w w11) := X10.out.then_fr f11 (by have := S1.out; have := S2.out; have := S3.out; have := S4.out; have := S5.out; have := S6.out; have := S7.out; have := S8.out; have := S9.out; have := S10.out; exact (by omega))
  have S11 : Hid (w10.heap.size ≤ w11.heap.size) := f11.size
  have Ovw0_11 := Lib.hid (Ovw0_10.out.fr f11 ((by have := S1.out; have := S2.out; have := S3.out; have := S4.out; have := S5.out; have := S6.out; have := S7.out; have := S8.out; have := S9.out; have := S10.out; have := S11.out; omega)))
  clear Ovw0_10
  clear f11
  clear Ovg0_10
  go_wp2_with fail
  refine (heldP_law _ Ovg0_11.out (by have := z0.out; have := zy0.out; omega) (by have := z0.out; have := zy0.out; omega) (Nat.le_trans zy0.out (by omega))).mono ?_
  rintro e w12 ⟨rfl, e12⟩
  have X12 : Hid (Ext w w12) := X11.out.trans e12
  have S12 : Hid (w11.heap.size ≤ w12.heap.size) := e12.size
  have Ovw0_12 := Lib.hid (Ovw0_11.out.fr e12.fr (Or.inr (Nat.zero_le _)))
  have Ovg0_12 := Lib.hid (Ovg0_11.out.fr e12.fr (Or.inr (Nat.zero_le _)))
  clear Ovw0_11 Ovg0_11
  clear e12
  go_wp2_with fail
  refine (toP_law A0 c0 x0 _ (G0.out.1.ext X12.out) zz0).mono ?_
  rintro e w13 ⟨d0, rfl, o13, e13⟩
  have Od0_13 := Lib.hid o13
  clear o13
  have X13 : Hid (Ext w w13) := X12.out.trans e13
  have S13 : Hid (w12.heap.size ≤ w13.heap.size) := e13.size
  have Ovw0_13 := Lib.hid (Ovw0_12.out.fr e13.fr (Or.inr (Nat.zero_le _)))
  have Ovg0_13 := Lib.hid (Ovg0_12.out.fr e13.fr (Or.inr (Nat.zero_le _)))
  clear Ovw0_12 Ovg0_12
  clear e13
  go_wp2_with fail
  refine (CI.out _ _ _ _ Od0_13.out).mono ?_
  rintro e w14 ⟨vh0, rfl, o14_0, e14⟩
  have Ovh0_14 := Lib.hid o14_0
  clear o14_0
  have X14 : Hid (Ext w w14) := X13.out.trans e14
  have S14 : Hid (w13.heap.size ≤ w14.heap.size) := e14.size
  have Ovw0_14 := Lib.hid (Ovw0_13.out.fr e14.fr (Or.inr (Nat.zero_le _)))
  have Ovg0_14 := Lib.hid (Ovg0_13.out.fr e14.fr (Or.inr (Nat.zero_le _)))
  have Od0_14 := Lib.hid (Od0_13.out.fr e14.fr (Or.inr (Nat.zero_le _)))
  clear Ovw0_13 Ovg0_13 Od0_13
  clear e14
  clear Od0_14
  go_wp2_with fail
  refine (eqP_law Ovh0_14.out Ovw0_14.out (Nat.le_trans zy0.out (by omega))).mono ?_
  rintro e w15 ⟨rfl, e15⟩
  have X15 : Hid (Ext w w15) := X14.out.trans e15
  have S15 : Hid (w14.heap.size ≤ w15.heap.size) := e15.size
  have Ovw0_15 := Lib.hid (Ovw0_14.out.fr e15.fr (Or.inr (Nat.zero_le _)))
  have Ovg0_15 := Lib.hid (Ovg0_14.out.fr e15.fr (Or.inr (Nat.zero_le _)))
  have Ovh0_15 := Lib.hid (Ovh0_14.out.fr e15.fr (Or.inr (Nat.zero_le _)))
  clear Ovw0_14 Ovg0_14 Ovh0_14
  clear e15
  clear Ovh0_15
  clear Ovw0_15
  go_wp2_with fail
  refine (heldP_law _ Ovg0_15.out (by have := z0.out; have := zy0.out; omega) (by have := z0.out; have := zy0.out; omega) (Nat.le_trans zy0.out (by omega))).mono ?_
  rintro e w16 ⟨rfl, e16⟩
  have X16 : Hid (Ext w w16) := X15.out.trans e16
  have S16 : Hid (w15.heap.size ≤ w16.heap.size) := e16.size
  have Ovg0_16 := Lib.hid (Ovg0_15.out.fr e16.fr (Or.inr (Nat.zero_le _)))
  clear Ovg0_15
  clear e16
  go_wp2_with fail
  go_ret
  exact ⟨rfl, X16.out⟩

theorem walk_FnExactScaleTempo (w : World) (A0 : Option Addr) (c0 : Nat) (x0 : List (Int × Int)) (g0 : Rd w 2 A0 x0.length (pairCells x0) ∧ x0.length ≤ c0 ∧ c0 ≤ maxLen ∧ ∀ q ∈ x0, (-9223372036854775808 ≤ q.1 ∧ q.1 ≤ 9223372036854775807) ∧ -9223372036854775808 ≤ q.2 ∧ q.2 ≤ 9223372036854775807) (x1 : Int) (g1 : -9223372036854775808 ≤ x1 ∧ x1 ≤ 9223372036854775807) :
    Calls Try.prog 5 #[.slice A0 x0.length c0, .int .i64 x1] w fun e w' => e = .returned (.bool true) ∧ Ext w w' := by
  by_cases hbig0 : 1048576 < x0.length
  · go_enter Try.func5, Try.ntmps5
    go_wp2_with fail
    refine (szP_bad _ _ x0.length _ _ ⟨by omega, by omega⟩ (by omega) ⟨g0.2.1, g0.2.2.1⟩).mono ?_
    rintro e v1 ⟨rfl, f1⟩
    have X : Hid (Ext w v1) := (Ext.refl w).trans f1
    clear f1
    go_wp2_with fail
    go_ret
    exact ⟨rfl, X.out⟩
  have hn : x0.length ≤ 1048576 := by omega
  exact core_FnExactScaleTempo w A0 c0 x0 g0 x1 g1 (scF x0 x1) (scB x0 x1)
    (show szP x0 ≤ 1048576 from by unfold szP; omega)
    (Lib.hid hn)
    (show szP _ ≤ _ from by unfold szP scF; split <;> simp <;> omega)
    (Lib.hid fun w _ _ _ h => by obtain ⟨A, c, rfl, hr⟩ := h.rd; exact (scS_any A c _ _ w hr hn).mono fun _ _ h => h.own)
    (Lib.hid fun w _ _ _ h => by obtain ⟨A, c, rfl, hr⟩ := h.rd; exact (scI_any A c _ _ w hr hn).mono fun _ _ h => h.own)
set_option maxRecDepth 100000 in
theorem lifted_FnExactScaleTempo (os : Os) (started : os.Started) (H : Type) (enc : TypeId × Value → H) :
    ReturnsInHanded {} Try.checked os 5 .any (Rows.fnExactScaleTempoSpec.pre6 enc Try.prog Try.f5 Rows.fnExactScaleTempoRow.domain false) (Rows.fnExactScaleTempoSpec.post enc Try.prog Try.f5 false true false false) := by
  refine returnsInHanded_of_change (C := Try.checked) own started (by kernel_rfl) Try.func5
    (ChangeSpec.witness6 (enc := enc) (C := Try.checked) false ⟨#[], #[.slice none 0 0, .int .i64 0], []⟩ 8 (by kernel_rfl) (by kernel_rfl) (by kernel_rfl) (by kernel_rfl)) ?_
  intro W base args ds gs before hval0 hW hcnd _
  have hval : ∀ (j : Nat) t v, Try.f5.params[j]? = some t → args[j]? = some v → Value.okWide Try.prog W .any base t v := hval0
  have hW' := hW
  obtain ⟨p, q, hA0, hV, rfl, hfz, hnd⟩ := hW
  have hA : DataW.TrodAll enc Try.prog W 0 (fun _ => true) true Try.f5.params.toList args.toList ds p := hA0
  rw [Try.params5] at hA hval
  obtain ⟨v0, vs0, d0, ds0, p0, q0, hargs, rfl, rfl, h0, r0⟩ := trodAll_cons hA
  obtain ⟨v1, vs1, d1, ds1, p1, q1, rfl, rfl, rfl, h1, r1⟩ := trodAll_cons r0
  obtain ⟨rfl, rfl, rfl⟩ := trodAll_nil r1
  obtain rfl : args = #[v0, v1] := by cases args; simp_all
  obtain ⟨rfl, rfl⟩ := trodVars_none hV
  have k0 := h0
  have lt0 : ∀ x ∈ p0, x.block < W.heap.size := by obtain ⟨m, hm⟩ := k0; exact DataW.trod_lt m _ _ _ hm
  have k1 := h1
  have lt1 : ∀ x ∈ p1, x.block < W.heap.size := by obtain ⟨m, hm⟩ := k1; exact DataW.trod_lt m _ _ _ hm
  obtain ⟨A0, c0, x0, rfl, g0⟩ := view_pairs Try.underlying22 Try.underlying57 (by kernel_rfl) rfl rfl (by kernel_rfl) (by kernel_rfl) Try.underlying3 Try.underlying3 (hval 0 22 v0 rfl rfl) h0
  obtain ⟨x1, rfl, g1⟩ := view_int Try.underlying3 (hval 1 3 v1 rfl rfl) h1
  clear hA0 hval0
  refine (walk_FnExactScaleTempo W A0 c0 x0 g0 x1 g1).mono fun e W' ⟨he, bel⟩ => ?_
  subst he
  exact ⟨_, rfl, _, _, _, [], _, [], hW', trodAll_mk1 (shut_bool Try.underlying4 _), (trodAll_cons_mk (Below.trod laidOut (by kernel_rfl) (of_decide_eq_true (by kernel_rfl)) k0 bel lt0) (trodAll_cons_mk (Below.trod laidOut (by kernel_rfl) (of_decide_eq_true (by kernel_rfl)) k1 bel lt1) trodAll_mk0)), rfl, Below.frame bel _, fun h => by cases h⟩

theorem proved_FnExactScaleTempo : Rows.FnExactScaleTempoSaid :=
  OpenClaim.holds_of_wide 5 Try.f5 rfl rfl rfl rfl rfl rfl rfl ⟨rfl, rfl, rfl, rfl, rfl⟩ rfl rfl rfl rfl rfl (by kernel_rfl) Try.func5 (by kernel_rfl)
    (of_decide_eq_true (by kernel_rfl)) (by unfold Func.isWrapper; first | (rw [if_pos (by decide +kernel)]; kernel_rfl) | (rw [if_neg (by decide +kernel)]; exact ⟨rfl, rfl⟩))
    (fun os started H enc _ => lifted_FnExactScaleTempo os started H enc)
end Go.Proofs.Ytoobffhchbgkjaa
