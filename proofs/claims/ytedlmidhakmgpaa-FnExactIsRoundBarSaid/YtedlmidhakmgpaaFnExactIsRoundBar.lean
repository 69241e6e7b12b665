/- FnExactIsRoundBar: for all arguments the law answers true: impl.IsRoundBar returns what the reference's function of that name returns, leaves its arguments as they were, and its result shares no memory. No conditions. -/
import Derived.Test.YtedlmidhakmgpaaRow
import Derived.Test.YtedlmidhakmgpaaOwn
import Derived.Test.YtedlmidhakmgpaaRoundD
namespace Go.Proofs.Ytedlmidhakmgpaa
open Go.ChangeShapes Go.WideShapes Go.ChangeAt Go.RowKit Go.Joins

set_option maxHeartbeats 1000000 in
/-- The law's walk, over contracts of the two functions. -/
theorem core_FnExactIsRoundBar (w : World) (A0 : Option Addr) (c0 : Nat) (x0 : List Int) (g0 : RdI w A0 x0 ∧ x0.length ≤ c0 ∧ c0 ≤ maxLen ∧ Fits x0)
    (y0 : Bool)
    (z0 : Hid (szS x0 ≤ 1048576))
    (CS : Hid (∀ w : World, ∀ (L0 U0 : Nat) (a0 : Value), OwnS w L0 U0 a0 x0 → Calls Try.prog 35 #[a0] w (fun e w' => e = .returned (.bool y0) ∧ Ext w w')))
    (CI : Hid (∀ w : World, ∀ (L0 U0 : Nat) (a0 : Value), OwnS w L0 U0 a0 x0 → Calls Try.prog 36 #[a0] w (fun e w' => e = .returned (.bool y0) ∧ Ext w w'))) :
    Calls Try.prog 9 #[.slice A0 x0.length c0] w fun e w' => e = .returned (.bool true) ∧ Ext w w' := by
  have G0 := Lib.hid g0
  clear g0
  have zz0 : x0.length ≤ 1048576 := by have := z0.out; unfold szS at this; omega
  go_enter Try.func9, Try.ntmps9
  go_wp2_with fail
  refine (toS_law A0 c0 x0 _ (G0.out.1.ext (Ext.refl w)) zz0).mono ?_
  rintro e w1 ⟨s0, rfl, o1, e1⟩
  have Os0_1 := Lib.hid o1
  clear o1
  have X1 : Hid (Ext w w1) := (Ext.refl w).trans e1
  have S1 : Hid (w.heap.size ≤ w1.heap.size) := X1.out.size
  clear e1
  go_wp2_with fail
  refine (CS.out _ _ _ _ Os0_1.out).mono ?_
  rintro e w2 ⟨rfl, e2⟩
  have X2 : Hid (Ext w w2) := X1.out.trans e2
  have S2 : Hid (w1.heap.size ≤ w2.heap.size) := e2.size
  have Os0_2 := Lib.hid (Os0_1.out.fr e2.fr (Or.inr (Nat.zero_le _)))
  clear Os0_1
  clear e2
  clear Os0_2
  go_wp2_with fail
  refine (toS_law A0 c0 x0 _ (G0.out.1.ext X2.out) zz0).mono ?_
  rintro e w3 ⟨a0, rfl, o3, e3⟩
  have Oa0_3 := Lib.hid o3
  clear o3
  have X3 : Hid (Ext w w3) := X2.out.trans e3
  have S3 : Hid (w2.heap.size ≤ w3.heap.size) := e3.size
  clear e3
  go_wp2_with fail
  refine (CI.out _ _ _ _ Oa0_3.out).mono ?_
  rintro e w4 ⟨rfl, e4⟩
  have X4 : Hid (Ext w w4) := X3.out.trans e4
  have S4 : Hid (w3.heap.size ≤ w4.heap.size) := e4.size
  have Oa0_4 := Lib.hid (Oa0_3.out.fr e4.fr (Or.inr (Nat.zero_le _)))
  clear Oa0_3
  clear e4
  go_wp2_with fail
  refine (toS_law A0 c0 x0 _ (G0.out.1.ext X4.out) zz0).mono ?_
  rintro e w5 ⟨b0, rfl, o5, e5⟩
  have Ob0_5 := Lib.hid o5
  clear o5
  have X5 : Hid (Ext w w5) := X4.out.trans e5
  have S5 : Hid (w4.heap.size ≤ w5.heap.size) := e5.size
  have Oa0_5 := Lib.hid (Oa0_4.out.fr e5.fr (Or.inr (Nat.zero_le _)))
  clear Oa0_4
  clear e5
  go_wp2_with fail
  refine (eqS_law Oa0_5.out Ob0_5.out (Nat.le_trans z0.out (by omega))).mono ?_
  rintro e w6 ⟨rfl, e6⟩
  have X6 : Hid (Ext w w6) := X5.out.trans e6
  have S6 : Hid (w5.heap.size ≤ w6.heap.size) := e6.size
  have Oa0_6 := Lib.hid (Oa0_5.out.fr e6.fr (Or.inr (Nat.zero_le _)))
  have Ob0_6 := Lib.hid (Ob0_5.out.fr e6.fr (Or.inr (Nat.zero_le _)))
  clear Oa0_5 Ob0_5
  clear e6
  clear Ob0_6
  go_wp2_with fail
  go_ret
  exact ⟨rfl, X6.out⟩

theorem walk_FnExactIsRoundBar (w : World) (A0 : Option Addr) (c0 : Nat) (x0 : List Int) (g0 : RdI w A0 x0 ∧ x0.length ≤ c0 ∧ c0 ≤ maxLen ∧ Fits x0) :
    Calls Try.prog 9 #[.slice A0 x0.length c0] w fun e w' => e = .returned (.bool true) ∧ Ext w w' := by
  by_cases hbig : 1048576 < x0.length
  · clear g0
    go_enter Try.func9, Try.ntmps9
    go_wp2
    go_ret
    exact ⟨rfl, Ext.refl _⟩
  · have hn : x0.length ≤ 1048576 := by omega
    exact core_FnExactIsRoundBar w A0 c0 x0 g0 (rbB x0)
      (show szS x0 ≤ 1048576 from by unfold szS; omega)
      (Lib.hid fun w _ _ _ h => by obtain ⟨A, c, rfl, hr, hc⟩ := h.rdc; exact rbS_any A c _ w hr hn hc)
      (Lib.hid fun w _ _ _ h => by obtain ⟨A, c, rfl, hr, hc⟩ := h.rdc; exact rbI_any A c _ w hr hn hc)
set_option maxRecDepth 100000 in
theorem lifted_FnExactIsRoundBar (os : Os) (started : os.Started) (H : Type) (enc : TypeId × Value → H) :
    ReturnsInHanded {} Try.checked os 9 .any (Rows.fnExactIsRoundBarSpec.pre6 enc Try.prog Try.f9 Rows.fnExactIsRoundBarRow.domain false) (Rows.fnExactIsRoundBarSpec.post enc Try.prog Try.f9 false true false false) := by
  refine returnsInHanded_of_change (C := Try.checked) own started (by kernel_rfl) Try.func9
    (ChangeSpec.witness6 (enc := enc) (C := Try.checked) false ⟨#[], #[.slice none 0 0], []⟩ 8 (by kernel_rfl) (by kernel_rfl) (by kernel_rfl) (by kernel_rfl)) ?_
  intro W base args ds gs before hval0 hW hcnd _
  have hval : ∀ (j : Nat) t v, Try.f9.params[j]? = some t → args[j]? = some v → Value.okWide Try.prog W .any base t v := hval0
  have hW' := hW
  obtain ⟨p, q, hA0, hV, rfl, hfz, hnd⟩ := hW
  have hA : DataW.TrodAll enc Try.prog W 0 (fun _ => true) true Try.f9.params.toList args.toList ds p := hA0
  rw [Try.params9] at hA hval
  obtain ⟨v0, vs0, d0, ds0, p0, q0, hargs, rfl, rfl, h0, r0⟩ := trodAll_cons hA
  obtain ⟨rfl, rfl, rfl⟩ := trodAll_nil r0
  obtain rfl : args = #[v0] := by cases args; simp_all
  obtain ⟨rfl, rfl⟩ := trodVars_none hV
  have k0 := h0
  have lt0 : ∀ x ∈ p0, x.block < W.heap.size := by obtain ⟨m, hm⟩ := k0; exact DataW.trod_lt m _ _ _ hm
  obtain ⟨A0, c0, x0, rfl, g0⟩ := view_ints Try.underlying24 Try.underlying3 (by kernel_rfl) (hval 0 24 v0 rfl rfl) h0
  clear hA0 hval0
  refine (walk_FnExactIsRoundBar W A0 c0 x0 g0).mono fun e W' ⟨he, bel⟩ => ?_
  subst he
  exact ⟨_, rfl, _, _, _, [], _, [], hW', trodAll_mk1 (shut_bool Try.underlying4 _), (trodAll_cons_mk (Below.trod laidOut (by kernel_rfl) (of_decide_eq_true (by kernel_rfl)) k0 bel lt0) trodAll_mk0), rfl, Below.frame bel _, fun h => by cases h⟩

theorem proved_FnExactIsRoundBar : Rows.FnExactIsRoundBarSaid :=
  OpenClaim.holds_of_wide 9 Try.f9 rfl rfl rfl rfl rfl rfl rfl ⟨rfl, rfl, rfl, rfl, rfl⟩ rfl rfl rfl rfl rfl (by kernel_rfl) Try.func9 (by kernel_rfl)
    (of_decide_eq_true (by kernel_rfl)) (by unfold Func.isWrapper; first | (rw [if_pos (by decide +kernel)]; kernel_rfl) | (rw [if_neg (by decide +kernel)]; exact ⟨rfl, rfl⟩))
    (fun os started H enc _ => lifted_FnExactIsRoundBar os started H enc)
end Go.Proofs.Ytedlmidhakmgpaa
