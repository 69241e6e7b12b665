/- FnExactRatioOk: for all arguments the law answers true: impl.RatioOk returns what the reference's function of that name returns, leaves its arguments as they were, and its result shares no memory. No conditions. -/
import Derived.Test.YtcladodjoneanaaRow
import Derived.Test.YtcladodjoneanaaOwn
import Derived.Test.YtcladodjoneanaaRatio
namespace Go.Proofs.Ytcladodjoneanaa
open Go.ChangeShapes Go.WideShapes Go.ChangeAt Go.RowKit Go.Joins

set_option maxHeartbeats 1000000 in
/-- The law's walk, over contracts of the two functions. -/
theorem core_FnExactRatioOk (w : World) (x0 y0 : Int) (_g0 : (-9223372036854775808 ≤ x0 ∧ x0 ≤ 9223372036854775807) ∧ -9223372036854775808 ≤ y0 ∧ y0 ≤ 9223372036854775807)
    (r0 : Bool)
    (CS : Hid (∀ w : World, Calls Try.prog 25 #[.agg #[.int .i64 x0, .int .i64 y0]] w (fun e w' => e = .returned (.bool r0) ∧ Ext w w')))
    (CI : Hid (∀ w : World, Calls Try.prog 27 #[.agg #[.int .i64 x0, .int .i64 y0]] w (fun e w' => e = .returned (.bool r0) ∧ Ext w w'))) :
    Calls Try.prog 8 #[.agg #[.int .i64 x0, .int .i64 y0]] w fun e w' => e = .returned (.bool true) ∧ Ext w w' := by
  go_enter Try.func8, Try.ntmps8
  go_wp2_with fail
  refine (toRatio_any _ _ _).mono ?_
  rintro e w1 ⟨rfl, e1⟩
  have X1 : Hid (Ext w w1) := ((Ext.refl w).alloc _).trans e1
  have S1 : Hid (w.heap.size ≤ w1.heap.size) := X1.out.size
  have hb0_0_ : w1.cell? ⟨w.heap.size, 0, none⟩ = some (.int .i64 x0) := Ext.cell e1 (by first | exact (box2 _ _ _ _ _ (by simp)).1 | exact Ext.cell ((Ext.refl _).alloc _) (box2 _ _ _ _ _ (by simp)).1)
  have hb0_0 := hb0_0_; clear hb0_0_
  have hb0_1_ : w1.cell? ⟨w.heap.size, 1, none⟩ = some (.int .i64 y0) := Ext.cell e1 (by first | exact (box2 _ _ _ _ _ (by simp)).2 | exact Ext.cell ((Ext.refl _).alloc _) (box2 _ _ _ _ _ (by simp)).2)
  have hb0_1 := hb0_1_; clear hb0_1_
  clear e1
  go_wp2_with fail
  refine (CS.out _).mono ?_
  rintro e w2 ⟨rfl, e2⟩
  have X2 : Hid (Ext w w2) := X1.out.trans e2
  have S2 : Hid (w1.heap.size ≤ w2.heap.size) := e2.size
  have hb0_0_ : w2.cell? ⟨w.heap.size, 0, none⟩ = some (.int .i64 x0) := Ext.cell e2 hb0_0
  clear hb0_0
  have hb0_0 := hb0_0_; clear hb0_0_
  have hb0_1_ : w2.cell? ⟨w.heap.size, 1, none⟩ = some (.int .i64 y0) := Ext.cell e2 hb0_1
  clear hb0_1
  have hb0_1 := hb0_1_; clear hb0_1_
  clear e2
  go_wp2_with fail
  refine (toRatio_any _ _ _).mono ?_
  rintro e w3 ⟨rfl, e3⟩
  have X3 : Hid (Ext w w3) := X2.out.trans e3
  have S3 : Hid (w2.heap.size ≤ w3.heap.size) := e3.size
  have hb0_0_ : w3.cell? ⟨w.heap.size, 0, none⟩ = some (.int .i64 x0) := Ext.cell e3 hb0_0
  clear hb0_0
  have hb0_0 := hb0_0_; clear hb0_0_
  have hb0_1_ : w3.cell? ⟨w.heap.size, 1, none⟩ = some (.int .i64 y0) := Ext.cell e3 hb0_1
  clear hb0_1
  have hb0_1 := hb0_1_; clear hb0_1_
  clear e3
  go_wp2_with fail
  refine (CI.out _).mono ?_
  rintro e w4 ⟨rfl, e4⟩
  have X4 : Hid (Ext w w4) := X3.out.trans e4
  have S4 : Hid (w3.heap.size ≤ w4.heap.size) := e4.size
  have hb0_0_ : w4.cell? ⟨w.heap.size, 0, none⟩ = some (.int .i64 x0) := Ext.cell e4 hb0_0
  clear hb0_0
  have hb0_0 := hb0_0_; clear hb0_0_
  have hb0_1_ : w4.cell? ⟨w.heap.size, 1, none⟩ = some (.int .i64 y0) := Ext.cell e4 hb0_1
  clear hb0_1
  have hb0_1 := hb0_1_; clear hb0_1_
  clear e4
  go_wp2_with fail
  go_ret
  exact ⟨rfl, X4.out⟩

theorem walk_FnExactRatioOk (w : World) (x0 y0 : Int) (g0 : (-9223372036854775808 ≤ x0 ∧ x0 ≤ 9223372036854775807) ∧ -9223372036854775808 ≤ y0 ∧ y0 ≤ 9223372036854775807) :
    Calls Try.prog 8 #[.agg #[.int .i64 x0, .int .i64 y0]] w fun e w' => e = .returned (.bool true) ∧ Ext w w' := by
  exact core_FnExactRatioOk w x0 y0 g0 (ratB x0 y0)
    (Lib.hid fun w => ratioS_any _ _ w)
    (Lib.hid fun w => ratioI_any _ _ w)
set_option maxRecDepth 100000 in
theorem lifted_FnExactRatioOk (os : Os) (started : os.Started) (H : Type) (enc : TypeId × Value → H) :
    ReturnsInHanded {} Try.checked os 8 .any (Rows.fnExactRatioOkSpec.pre6 enc Try.prog Try.f8 Rows.fnExactRatioOkRow.domain false) (Rows.fnExactRatioOkSpec.post enc Try.prog Try.f8 false true false false) := by
  refine returnsInHanded_of_change (C := Try.checked) own started (by kernel_rfl) Try.func8
    (ChangeSpec.witness6 (enc := enc) (C := Try.checked) false ⟨#[], #[.agg #[.int .i64 0, .int .i64 0]], []⟩ 8 (by kernel_rfl) (by kernel_rfl) (by kernel_rfl) (by kernel_rfl)) ?_
  intro W base args ds gs before hval0 hW hcnd _
  have hval : ∀ (j : Nat) t v, Try.f8.params[j]? = some t → args[j]? = some v → Value.okWide Try.prog W .any base t v := hval0
  have hW' := hW
  obtain ⟨p, q, hA0, hV, rfl, hfz, hnd⟩ := hW
  have hA : DataW.TrodAll enc Try.prog W 0 (fun _ => true) true Try.f8.params.toList args.toList ds p := hA0
  rw [Try.params8] at hA hval
  obtain ⟨v0, vs0, d0, ds0, p0, q0, hargs, rfl, rfl, h0, r0⟩ := trodAll_cons hA
  obtain ⟨rfl, rfl, rfl⟩ := trodAll_nil r0
  obtain rfl : args = #[v0] := by cases args; simp_all
  obtain ⟨rfl, rfl⟩ := trodVars_none hV
  have k0 := h0
  have lt0 : ∀ x ∈ p0, x.block < W.heap.size := by obtain ⟨m, hm⟩ := k0; exact DataW.trod_lt m _ _ _ hm
  obtain ⟨x0, y0, rfl, g0⟩ := view_two Try.underlying25 (by kernel_rfl) (by kernel_rfl) Try.underlying3 Try.underlying3 (hval 0 25 v0 rfl rfl) h0
  clear hA0 hval0
  refine (walk_FnExactRatioOk W x0 y0 g0).mono fun e W' ⟨he, bel⟩ => ?_
  subst he
  exact ⟨_, rfl, _, _, _, [], _, [], hW', trodAll_mk1 (shut_bool Try.underlying4 _), (trodAll_cons_mk (Below.trod laidOut (by kernel_rfl) (of_decide_eq_true (by kernel_rfl)) k0 bel lt0) trodAll_mk0), rfl, Below.frame bel _, fun h => by cases h⟩

theorem proved_FnExactRatioOk : Rows.FnExactRatioOkSaid :=
  OpenClaim.holds_of_wide 8 Try.f8 rfl rfl rfl rfl rfl rfl rfl ⟨rfl, rfl, rfl, rfl, rfl⟩ rfl rfl rfl rfl rfl (by kernel_rfl) Try.func8 (by kernel_rfl)
    (of_decide_eq_true (by kernel_rfl)) (by unfold Func.isWrapper; first | (rw [if_pos (by decide +kernel)]; kernel_rfl) | (rw [if_neg (by decide +kernel)]; exact ⟨rfl, rfl⟩))
    (fun os started H enc _ => lifted_FnExactRatioOk os started H enc)
end Go.Proofs.Ytcladodjoneanaa
