/- FnExactBeatAt: for all arguments the law answers true: impl.BeatAt returns what the reference's function of that name returns, leaves its arguments as they were, and its result shares no memory. No conditions. -/
import Derived.Test.YtoobffhchbgkjaaRow
import Derived.Test.YtoobffhchbgkjaaOwn
import Derived.Test.YtoobffhchbgkjaaOwnP
import Derived.Test.YtoobffhchbgkjaaTimeC
namespace Go.Proofs.Ytoobffhchbgkjaa
open Go.ChangeShapes Go.WideShapes Go.ChangeAt Go.RowKit Go.Joins

set_option maxHeartbeats 1000000 in
/-- The law's walk, over contracts of the two functions. -/
theorem core_FnExactBeatAt (w : World) (A0 : Option Addr) (c0 : Nat) (x0 : List (Int × Int)) (g0 : Rd w 2 A0 x0.length (pairCells x0) ∧ x0.length ≤ c0 ∧ c0 ≤ maxLen ∧ ∀ q ∈ x0, (-9223372036854775808 ≤ q.1 ∧ q.1 ≤ 9223372036854775807) ∧ -9223372036854775808 ≤ q.2 ∧ q.2 ≤ 9223372036854775807) (x1 : Int) (_g1 : -9223372036854775808 ≤ x1 ∧ x1 ≤ 9223372036854775807)
    (y0 : Int)
    (z0 : Hid (szP x0 ≤ 1048576))
    (zt_ : Hid (x0.length ≤ 1048576))
    (CS : Hid (∀ w : World, ∀ (L0 U0 : Nat) (a0 : Value), OwnP w L0 U0 a0 x0 → Calls Try.prog 27 #[a0, .int .i64 x1] w (fun e w' => e = .returned (.int .i64 y0) ∧ Ext w w')))
    (CI : Hid (∀ w : World, ∀ (L0 U0 : Nat) (a0 : Value), OwnP w L0 U0 a0 x0 → Calls Try.prog 28 #[a0, .int .i64 x1] w (fun e w' => e = .returned (.int .i64 y0) ∧ Ext w w'))) :
    Calls Try.prog 8 #[.slice A0 x0.length c0, .int .i64 x1] w fun e w' => e = .returned (.bool true) ∧ Ext w w' := by
  have G0 := Lib.hid g0
  clear g0
  have zz0 : x0.length ≤ 1048576 := by have := z0.out; unfold szP at this; omega
  have zt := zt_.out
  go_enter Try.func8, Try.ntmps8
  go_wp2_with fail
  refine (szP_ok _ _ x0.length _ _ ⟨by omega, by omega⟩ (by omega)).mono ?_
  rintro e w1 ⟨rfl, e1⟩
  have X1 : Hid (Ext w w1) := (Ext.refl w).trans e1
  have S1 : Hid (w.heap.size ≤ w1.heap.size) := X1.out.size
  clear e1
  go_wp2_with fail
  refine (toP_law A0 c0 x0 _ (G0.out.1.ext X1.out) zz0).mono ?_
  rintro e w2 ⟨s0, rfl, o2, e2⟩
  have Os0_2 := Lib.hid o2
  clear o2
  have X2 : Hid (Ext w w2) := X1.out.trans e2
  have S2 : Hid (w1.heap.size ≤ w2.heap.size) := e2.size
  clear e2
  go_wp2_with fail
  refine (CS.out _ _ _ _ Os0_2.out).mono ?_
  rintro e w3 ⟨rfl, e3⟩
  have X3 : Hid (Ext w w3) := X2.out.trans e3
  have S3 : Hid (w2.heap.size ≤ w3.heap.size) := e3.size
  have Os0_3 := Lib.hid (Os0_2.out.fr e3.fr (Or.inr (Nat.zero_le _)))
  clear Os0_2
  clear e3
  clear Os0_3
  go_wp2_with fail
  refine (toP_law A0 c0 x0 _ (G0.out.1.ext X3.out) zz0).mono ?_
  rintro e w4 ⟨a0, rfl, o4, e4⟩
  have Oa0_4 := Lib.hid o4
  clear o4
  have X4 : Hid (Ext w w4) := X3.out.trans e4
  have S4 : Hid (w3.heap.size ≤ w4.heap.size) := e4.size
  clear e4
  go_wp2_with fail
  refine (CI.out _ _ _ _ Oa0_4.out).mono ?_
  rintro e w5 ⟨rfl, e5⟩
  have X5 : Hid (Ext w w5) := X4.out.trans e5
  have S5 : Hid (w4.heap.size ≤ w5.heap.size) := e5.size
  have Oa0_5 := Lib.hid (Oa0_4.out.fr e5.fr (Or.inr (Nat.zero_le _)))
  clear Oa0_4
  clear e5
  go_wp2_with fail
  refine (toP_law A0 c0 x0 _ (G0.out.1.ext X5.out) zz0).mono ?_
  rintro e w6 ⟨b0, rfl, o6, e6⟩
  have Ob0_6 := Lib.hid o6
  clear o6
  have X6 : Hid (Ext w w6) := X5.out.trans e6
  have S6 : Hid (w5.heap.size ≤ w6.heap.size) := e6.size
  have Oa0_6 := Lib.hid (Oa0_5.out.fr e6.fr (Or.inr (Nat.zero_le _)))
  clear Oa0_5
  clear e6
  go_wp2_with fail
  refine (eqP_law Oa0_6.out Ob0_6.out (Nat.le_trans z0.out (by omega))).mono ?_
  rintro e w7 ⟨rfl, e7⟩
  have X7 : Hid (Ext w w7) := X6.out.trans e7
  have S7 : Hid (w6.heap.size ≤ w7.heap.size) := e7.size
  have Oa0_7 := Lib.hid (Oa0_6.out.fr e7.fr (Or.inr (Nat.zero_le _)))
  have Ob0_7 := Lib.hid (Ob0_6.out.fr e7.fr (Or.inr (Nat.zero_le _)))
  clear Oa0_6 Ob0_6
  clear e7
  clear Ob0_7
  go_wp2_with fail
  go_ret
  exact ⟨rfl, X7.out⟩

theorem walk_FnExactBeatAt (w : World) (A0 : Option Addr) (c0 : Nat) (x0 : List (Int × Int)) (g0 : Rd w 2 A0 x0.length (pairCells x0) ∧ x0.length ≤ c0 ∧ c0 ≤ maxLen ∧ ∀ q ∈ x0, (-9223372036854775808 ≤ q.1 ∧ q.1 ≤ 9223372036854775807) ∧ -9223372036854775808 ≤ q.2 ∧ q.2 ≤ 9223372036854775807) (x1 : Int) (g1 : -9223372036854775808 ≤ x1 ∧ x1 ≤ 9223372036854775807) :
    Calls Try.prog 8 #[.slice A0 x0.length c0, .int .i64 x1] w fun e w' => e = .returned (.bool true) ∧ Ext w w' := by
  by_cases hbig0 : 1048576 < x0.length
  · go_enter Try.func8, Try.ntmps8
    go_wp2_with fail
    refine (szP_bad _ _ x0.length _ _ ⟨by omega, by omega⟩ (by omega) ⟨g0.2.1, g0.2.2.1⟩).mono ?_
    rintro e v1 ⟨rfl, f1⟩
    have X : Hid (Ext w v1) := (Ext.refl w).trans f1
    clear f1
    go_wp2_with fail
    go_ret
    exact ⟨rfl, X.out⟩
  have hn : x0.length ≤ 1048576 := by omega
  exact core_FnExactBeatAt w A0 c0 x0 g0 x1 g1 (beF x0 x1)
    (show szP x0 ≤ 1048576 from by unfold szP; omega)
    (Lib.hid hn)
    (Lib.hid fun w _ _ _ h => by obtain ⟨A, c, rfl, hr⟩ := h.rd; exact beS_any A c _ _ w hr hn)
    (Lib.hid fun w _ _ _ h => by obtain ⟨A, c, rfl, hr⟩ := h.rd; exact beI_any A c _ _ w hr hn)
set_option maxRecDepth 100000 in
theorem lifted_FnExactBeatAt (os : Os) (started : os.Started) (H : Type) (enc : TypeId × Value → H) :
    ReturnsInHanded {} Try.checked os 8 .any (Rows.fnExactBeatAtSpec.pre6 enc Try.prog Try.f8 Rows.fnExactBeatAtRow.domain false) (Rows.fnExactBeatAtSpec.post enc Try.prog Try.f8 false true false false) := by
  refine returnsInHanded_of_change (C := Try.checked) own started (by kernel_rfl) Try.func8
    (ChangeSpec.witness6 (enc := enc) (C := Try.checked) false ⟨#[], #[.slice none 0 0, .int .i64 0], []⟩ 8 (by kernel_rfl) (by kernel_rfl) (by kernel_rfl) (by kernel_rfl)) ?_
  intro W base args ds gs before hval0 hW hcnd _
  have hval : ∀ (j : Nat) t v, Try.f8.params[j]? = some t → args[j]? = some v → Value.okWide Try.prog W .any base t v := hval0
  have hW' := hW
  obtain ⟨p, q, hA0, hV, rfl, hfz, hnd⟩ := hW
  have hA : DataW.TrodAll enc Try.prog W 0 (fun _ => true) true Try.f8.params.toList args.toList ds p := hA0
  rw [Try.params8] at hA hval
  obtain ⟨v0, vs0, d0, ds0, p0, q0, hargs, rfl, rfl, h0, r0⟩ := trodAll_cons hA
  obtain ⟨v1, vs1, d1, ds1, p1, q1, rfl, rfl, rfl, h1, r1⟩ := trodAll_cons r0
  obtain ⟨rfl, rfl, rfl⟩ := trodAll_nil r1
  obtain rfl : args = #[v0, v1] := by cases args; simp_all
  obtain ⟨rfl, rfl⟩ := trodVars_none hV
  have k0 := h0
  have lt0 : ∀ x ∈ p0, x.block < W.heap.size := by obtain ⟨m, hm⟩ := k0; exact DataW.trod_lt m _ _ _ hm
  have k1 := h1
  have lt1 : ∀ x ∈ p1, x.block < W.heap.size := by obtain ⟨m, hm⟩ := k1; exact DataW.trod_lt m _ _ _ hm
  obtain ⟨A0, c0, x0, rfl, g0⟩ := view_pairs Try.underlying22 Try.underlying57 (by kernel_rfl) rfl rfl (by kernel_rfl) (by kernel_rfl) Try.underlying3 Try.underlying3 (hval 0 22 v0 rfl rfl) h0
  obtain ⟨x1, rfl, g1⟩ := view_int Try.underlying3 (hval 1 3 v1 rfl rfl) h1
  clear hA0 hval0
  refine (walk_FnExactBeatAt W A0 c0 x0 g0 x1 g1).mono fun e W' ⟨he, bel⟩ => ?_
  subst he
  exact ⟨_, rfl, _, _, _, [], _, [], hW', trodAll_mk1 (shut_bool Try.underlying4 _), (trodAll_cons_mk (Below.trod laidOut (by kernel_rfl) (of_decide_eq_true (by kernel_rfl)) k0 bel lt0) (trodAll_cons_mk (Below.trod laidOut (by kernel_rfl) (of_decide_eq_true (by kernel_rfl)) k1 bel lt1) trodAll_mk0)), rfl, Below.frame bel _, fun h => by cases h⟩

theorem proved_FnExactBeatAt : Rows.FnExactBeatAtSaid :=
  OpenClaim.holds_of_wide 8 Try.f8 rfl rfl rfl rfl rfl rfl rfl ⟨rfl, rfl, rfl, rfl, rfl⟩ rfl rfl rfl rfl rfl (by kernel_rfl) Try.func8 (by kernel_rfl)
    (of_decide_eq_true (by kernel_rfl)) (by unfold Func.isWrapper; first | (rw [if_pos (by decide +kernel)]; kernel_rfl) | (rw [if_neg (by decide +kernel)]; exact ⟨rfl, rfl⟩))
    (fun os started H enc _ => lifted_FnExactBeatAt os started H enc)
end Go.Proofs.Ytoobffhchbgkjaa
