/- FnExactNecklacesOf: for all arguments the law answers true: impl.NecklacesOf returns what the reference's function of that name returns, leaves its arguments as they were, and its result shares no memory. No conditions. -/
import Derived.Test.YtphpdanohooccaaRow
import Derived.Test.YtphpdanohooccaaOwn
import Derived.Test.YtphpdanohooccaaOwnRS
import Derived.Test.YtphpdanohooccaaOwnRS
import Derived.Test.YtphpdanohooccaaNkW
namespace Go.Proofs.Ytphpdanohooccaa
open Go.ChangeShapes Go.WideShapes Go.ChangeAt Go.RowKit Go.Joins

set_option maxHeartbeats 1000000 in
/-- The law's walk, over contracts of the two functions. -/
theorem core_FnExactNecklacesOf (w : World) (x0 : Int) (_g0 : -9223372036854775808 ≤ x0 ∧ x0 ≤ 9223372036854775807) (x1 : Int) (_g1 : -9223372036854775808 ≤ x1 ∧ x1 ≤ 9223372036854775807)
    (y0 : List (Int × List Int))
    (zy0 : Hid (szRS y0 ≤ 1099511627776))
    (CS : Hid (∀ w : World, Calls Try.prog 33 #[.int .i64 x0, .int .i64 x1] w (fun e w' => ∃ v0, e = .returned (v0) ∧ OwnRS w' w.heap.size w'.heap.size v0 y0 ∧ Ext w w')))
    (CI : Hid (∀ w : World, Calls Try.prog 34 #[.int .i64 x0, .int .i64 x1] w (fun e w' => ∃ v0, e = .returned (v0) ∧ OwnRS w' w.heap.size w'.heap.size v0 y0 ∧ Ext w w'))) :
    Calls Try.prog 10 #[.int .i64 x0, .int .i64 x1] w fun e w' => e = .returned (.bool true) ∧ Ext w w' := by
  go_enter Try.func10, Try.ntmps10
  go_wp2_with fail
  refine (CS.out _).mono ?_
  rintro e w1 ⟨vw0, rfl, o1_0, e1⟩
  have Ovw0_1 := Lib.hid o1_0
  clear o1_0
  have X1 : Hid (Ext w w1) := (Ext.refl w).trans e1
  have S1 : Hid (w.heap.size ≤ w1.heap.size) := X1.out.size
  clear e1
  go_wp2_with fail
  refine (CI.out _).mono ?_
  rintro e w2 ⟨vg0, rfl, o2_0, e2⟩
  have Ovg0_2 := Lib.hid o2_0
  clear o2_0
  have X2 : Hid (Ext w w2) := X1.out.trans e2
  have S2 : Hid (w1.heap.size ≤ w2.heap.size) := e2.size
  have Ovw0_2 := Lib.hid (Ovw0_1.out.fr e2.fr (Or.inr (Nat.zero_le _)))
  clear Ovw0_1
  clear e2
  go_wp2_with fail
  refine (eqRS_law Ovg0_2.out Ovw0_2.out (Nat.le_trans zy0.out (by omega))).mono ?_
  rintro e w3 ⟨rfl, e3⟩
  have X3 : Hid (Ext w w3) := X2.out.trans e3
  have S3 : Hid (w2.heap.size ≤ w3.heap.size) := e3.size
  have Ovw0_3 := Lib.hid (Ovw0_2.out.fr e3.fr (Or.inr (Nat.zero_le _)))
  have Ovg0_3 := Lib.hid (Ovg0_2.out.fr e3.fr (Or.inr (Nat.zero_le _)))
  clear Ovw0_2 Ovg0_2
  clear e3
  go_wp2_with fail
  refine (markRS_law Ovg0_3.out _ (by have := zy0.out; omega) (by have := zy0.out; omega) (Nat.le_trans zy0.out (by omega))).mono ?_
  rintro e w4 ⟨rfl, o4, f4⟩
  have Ovg0_4 := Lib.hid o4
  clear o4
  have X4 : Hid (Ext w w4) := X3.out.then_fr f4 (by have := S1.out; have := S2.out; have := S3.out; exact (by omega))
  have S4 : Hid (w3.heap.size ≤ w4.heap.size) := f4.size
  have Ovw0_4 := Lib.hid (Ovw0_3.out.fr f4 ((by have := S1.out; have := S2.out; have := S3.out; have := S4.out; omega)))
  clear Ovw0_3
  clear f4
  clear Ovg0_3
  go_wp2_with fail
  refine (heldRS_law _ Ovg0_4.out (by have := zy0.out; omega) (by have := zy0.out; omega) (Nat.le_trans zy0.out (by omega))).mono ?_
  rintro e w5 ⟨rfl, e5⟩
  have X5 : Hid (Ext w w5) := X4.out.trans e5
  have S5 : Hid (w4.heap.size ≤ w5.heap.size) := e5.size
  have Ovw0_5 := Lib.hid (Ovw0_4.out.fr e5.fr (Or.inr (Nat.zero_le _)))
  have Ovg0_5 := Lib.hid (Ovg0_4.out.fr e5.fr (Or.inr (Nat.zero_le _)))
  clear Ovw0_4 Ovg0_4
  clear e5
  go_wp2_with fail
  refine (CI.out _).mono ?_
  rintro e w6 ⟨vh0, rfl, o6_0, e6⟩
  have Ovh0_6 := Lib.hid o6_0
  clear o6_0
  have X6 : Hid (Ext w w6) := X5.out.trans e6
  have S6 : Hid (w5.heap.size ≤ w6.heap.size) := e6.size
  have Ovw0_6 := Lib.hid (Ovw0_5.out.fr e6.fr (Or.inr (Nat.zero_le _)))
  have Ovg0_6 := Lib.hid (Ovg0_5.out.fr e6.fr (Or.inr (Nat.zero_le _)))
  clear Ovw0_5 Ovg0_5
  clear e6
  go_wp2_with fail
  refine (eqRS_law Ovh0_6.out Ovw0_6.out (Nat.le_trans zy0.out (by omega))).mono ?_
  rintro e w7 ⟨rfl, e7⟩
  have X7 : Hid (Ext w w7) := X6.out.trans e7
  have S7 : Hid (w6.heap.size ≤ w7.heap.size) := e7.size
  have Ovw0_7 := Lib.hid (Ovw0_6.out.fr e7.fr (Or.inr (Nat.zero_le _)))
  have Ovg0_7 := Lib.hid (Ovg0_6.out.fr e7.fr (Or.inr (Nat.zero_le _)))
  have Ovh0_7 := Lib.hid (Ovh0_6.out.fr e7.fr (Or.inr (Nat.zero_le _)))
  clear Ovw0_6 Ovg0_6 Ovh0_6
  clear e7
  clear Ovh0_7
  clear Ovw0_7
  go_wp2_with fail
  refine (heldRS_law _ Ovg0_7.out (by have := zy0.out; omega) (by have := zy0.out; omega) (Nat.le_trans zy0.out (by omega))).mono ?_
  rintro e w8 ⟨rfl, e8⟩
  have X8 : Hid (Ext w w8) := X7.out.trans e8
  have S8 : Hid (w7.heap.size ≤ w8.heap.size) := e8.size
  have Ovg0_8 := Lib.hid (Ovg0_7.out.fr e8.fr (Or.inr (Nat.zero_le _)))
  clear Ovg0_7
  clear e8
  go_wp2_with fail
  go_ret
  exact ⟨rfl, X8.out⟩

theorem walk_FnExactNecklacesOf (w : World) (x0 : Int) (g0 : -9223372036854775808 ≤ x0 ∧ x0 ≤ 9223372036854775807) (x1 : Int) (g1 : -9223372036854775808 ≤ x1 ∧ x1 ≤ 9223372036854775807) :
    Calls Try.prog 10 #[.int .i64 x0, .int .i64 x1] w fun e w' => e = .returned (.bool true) ∧ Ext w w' := by
  exact core_FnExactNecklacesOf w x0 g0 x1 g1 (noF x0 x1)
    (show szRS _ ≤ _ from noF_sz _ _)
    (Lib.hid fun w => (noS_any _ _ w).mono fun _ _ h => h.own)
    (Lib.hid fun w => (noI_any _ _ w).mono fun _ _ h => h.own)
set_option maxRecDepth 100000 in
theorem lifted_FnExactNecklacesOf (os : Os) (started : os.Started) (H : Type) (enc : TypeId × Value → H) :
    ReturnsInHanded {} Try.checked os 10 .any (Rows.fnExactNecklacesOfSpec.pre6 enc Try.prog Try.f10 Rows.fnExactNecklacesOfRow.domain false) (Rows.fnExactNecklacesOfSpec.post enc Try.prog Try.f10 false true false false) := by
  refine returnsInHanded_of_change (C := Try.checked) own started (by kernel_rfl) Try.func10
    (ChangeSpec.witness6 (enc := enc) (C := Try.checked) false ⟨#[], #[.int .i64 0, .int .i64 0], []⟩ 8 (by kernel_rfl) (by kernel_rfl) (by kernel_rfl) (by kernel_rfl)) ?_
  intro W base args ds gs before hval0 hW hcnd _
  have hval : ∀ (j : Nat) t v, Try.f10.params[j]? = some t → args[j]? = some v → Value.okWide Try.prog W .any base t v := hval0
  have hW' := hW
  obtain ⟨p, q, hA0, hV, rfl, hfz, hnd⟩ := hW
  have hA : DataW.TrodAll enc Try.prog W 0 (fun _ => true) true Try.f10.params.toList args.toList ds p := hA0
  rw [Try.params10] at hA hval
  obtain ⟨v0, vs0, d0, ds0, p0, q0, hargs, rfl, rfl, h0, r0⟩ := trodAll_cons hA
  obtain ⟨v1, vs1, d1, ds1, p1, q1, rfl, rfl, rfl, h1, r1⟩ := trodAll_cons r0
  obtain ⟨rfl, rfl, rfl⟩ := trodAll_nil r1
  obtain rfl : args = #[v0, v1] := by cases args; simp_all
  obtain ⟨rfl, rfl⟩ := trodVars_none hV
  have k0 := h0
  have lt0 : ∀ x ∈ p0, x.block < W.heap.size := by obtain ⟨m, hm⟩ := k0; exact DataW.trod_lt m _ _ _ hm
  have k1 := h1
  have lt1 : ∀ x ∈ p1, x.block < W.heap.size := by obtain ⟨m, hm⟩ := k1; exact DataW.trod_lt m _ _ _ hm
  obtain ⟨x0, rfl, g0⟩ := view_int Try.underlying3 (hval 0 3 v0 rfl rfl) h0
  obtain ⟨x1, rfl, g1⟩ := view_int Try.underlying3 (hval 1 3 v1 rfl rfl) h1
  clear hA0 hval0
  refine (walk_FnExactNecklacesOf W x0 g0 x1 g1).mono fun e W' ⟨he, bel⟩ => ?_
  subst he
  exact ⟨_, rfl, _, _, _, [], _, [], hW', trodAll_mk1 (shut_bool Try.underlying4 _), (trodAll_cons_mk (Below.trod laidOut (by kernel_rfl) (of_decide_eq_true (by kernel_rfl)) k0 bel lt0) (trodAll_cons_mk (Below.trod laidOut (by kernel_rfl) (of_decide_eq_true (by kernel_rfl)) k1 bel lt1) trodAll_mk0)), rfl, Below.frame bel _, fun h => by cases h⟩

theorem proved_FnExactNecklacesOf : Rows.FnExactNecklacesOfSaid :=
  OpenClaim.holds_of_wide 10 Try.f10 rfl rfl rfl rfl rfl rfl rfl ⟨rfl, rfl, rfl, rfl, rfl⟩ rfl rfl rfl rfl rfl (by kernel_rfl) Try.func10 (by kernel_rfl)
    (of_decide_eq_true (by kernel_rfl)) (by unfold Func.isWrapper; first | (rw [if_pos (by decide +kernel)]; kernel_rfl) | (rw [if_neg (by decide +kernel)]; exact ⟨rfl, rfl⟩))
    (fun os started H enc _ => lifted_FnExactNecklacesOf os started H enc)
end Go.Proofs.Ytphpdanohooccaa
