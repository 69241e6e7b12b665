/- FnExactSameTime: for all arguments the law answers true: impl.SameTime returns what the reference's function of that name returns, leaves its arguments as they were, and its result shares no memory. No conditions. -/
import Derived.Test.YtoobffhchbgkjaaRow
import Derived.Test.YtoobffhchbgkjaaOwn
import Derived.Test.YtoobffhchbgkjaaOwnP
import Derived.Test.YtoobffhchbgkjaaTimeD
namespace Go.Proofs.Ytoobffhchbgkjaa
open Go.ChangeShapes Go.WideShapes Go.ChangeAt Go.RowKit Go.Joins

set_option maxHeartbeats 1000000 in
/-- The law's walk, over contracts of the two functions. -/
theorem core_FnExactSameTime (w : World) (A0 : Option Addr) (c0 : Nat) (x0 : List (Int × Int)) (g0 : Rd w 2 A0 x0.length (pairCells x0) ∧ x0.length ≤ c0 ∧ c0 ≤ maxLen ∧ ∀ q ∈ x0, (-9223372036854775808 ≤ q.1 ∧ q.1 ≤ 9223372036854775807) ∧ -9223372036854775808 ≤ q.2 ∧ q.2 ≤ 9223372036854775807) (A1 : Option Addr) (c1 : Nat) (x1 : List (Int × Int)) (g1 : Rd w 2 A1 x1.length (pairCells x1) ∧ x1.length ≤ c1 ∧ c1 ≤ maxLen ∧ ∀ q ∈ x1, (-9223372036854775808 ≤ q.1 ∧ q.1 ≤ 9223372036854775807) ∧ -9223372036854775808 ≤ q.2 ∧ q.2 ≤ 9223372036854775807)
    (y0 : Bool)
    (z0 : Hid (szP x0 ≤ 1048576))
    (z1 : Hid (szP x1 ≤ 1048576))
    (zt_ : Hid (x0.length + x1.length ≤ 1048576))
    (CS : Hid (∀ w : World, ∀ (L0 U0 : Nat) (a0 : Value), OwnP w L0 U0 a0 x0 → ∀ (L1 U1 : Nat) (a1 : Value), OwnP w L1 U1 a1 x1 → Calls Try.prog 25 #[a0, a1] w (fun e w' => e = .returned (.bool y0) ∧ Ext w w')))
    (CI : Hid (∀ w : World, ∀ (L0 U0 : Nat) (a0 : Value), OwnP w L0 U0 a0 x0 → ∀ (L1 U1 : Nat) (a1 : Value), OwnP w L1 U1 a1 x1 → Calls Try.prog 26 #[a0, a1] w (fun e w' => e = .returned (.bool y0) ∧ Ext w w'))) :
    Calls Try.prog 7 #[.slice A0 x0.length c0, .slice A1 x1.length c1] w fun e w' => e = .returned (.bool true) ∧ Ext w w' := by
  have G0 := Lib.hid g0
  have G1 := Lib.hid g1
  clear g0
  clear g1
  have zz0 : x0.length ≤ 1048576 := by have := z0.out; unfold szP at this; omega
  have zz1 : x1.length ≤ 1048576 := by have := z1.out; unfold szP at this; omega
  have zt := zt_.out
  go_enter Try.func7, Try.ntmps7
  go_wp2_with fail
  refine (szP_ok _ _ x0.length _ _ ⟨by omega, by omega⟩ (by omega)).mono ?_
  rintro e w1 ⟨rfl, e1⟩
  have X1 : Hid (Ext w w1) := (Ext.refl w).trans e1
  have S1 : Hid (w.heap.size ≤ w1.heap.size) := X1.out.size
  clear e1
  go_wp2_with fail
  refine (szP_ok _ _ x1.length _ _ ⟨by omega, by omega⟩ (by omega)).mono ?_
  rintro e w2 ⟨rfl, e2⟩
  have X2 : Hid (Ext w w2) := X1.out.trans e2
  have S2 : Hid (w1.heap.size ≤ w2.heap.size) := e2.size
  clear e2
  go_wp2_with fail
  refine (toP_law A0 c0 x0 _ (G0.out.1.ext X2.out) zz0).mono ?_
  rintro e w3 ⟨s0, rfl, o3, e3⟩
  have Os0_3 := Lib.hid o3
  clear o3
  have X3 : Hid (Ext w w3) := X2.out.trans e3
  have S3 : Hid (w2.heap.size ≤ w3.heap.size) := e3.size
  clear e3
  go_wp2_with fail
  refine (toP_law A1 c1 x1 _ (G1.out.1.ext X3.out) zz1).mono ?_
  rintro e w4 ⟨s1, rfl, o4, e4⟩
  have Os1_4 := Lib.hid o4
  clear o4
  have X4 : Hid (Ext w w4) := X3.out.trans e4
  have S4 : Hid (w3.heap.size ≤ w4.heap.size) := e4.size
  have Os0_4 := Lib.hid (Os0_3.out.fr e4.fr (Or.inr (Nat.zero_le _)))
  clear Os0_3
  clear e4
  go_wp2_with fail
  refine (CS.out _ _ _ _ Os0_4.out _ _ _ Os1_4.out).mono ?_
  rintro e w5 ⟨rfl, e5⟩
  have X5 : Hid (Ext w w5) := X4.out.trans e5
  have S5 : Hid (w4.heap.size ≤ w5.heap.size) := e5.size
  have Os0_5 := Lib.hid (Os0_4.out.fr e5.fr (Or.inr (Nat.zero_le _)))
  have Os1_5 := Lib.hid (Os1_4.out.fr e5.fr (Or.inr (Nat.zero_le _)))
  clear Os0_4 Os1_4
  clear e5
  clear Os0_5
  clear Os1_5
  go_wp2_with fail
  refine (toP_law A0 c0 x0 _ (G0.out.1.ext X5.out) zz0).mono ?_
  rintro e w6 ⟨a0, rfl, o6, e6⟩
  have Oa0_6 := Lib.hid o6
  clear o6
  have X6 : Hid (Ext w w6) := X5.out.trans e6
  have S6 : Hid (w5.heap.size ≤ w6.heap.size) := e6.size
  clear e6
  go_wp2_with fail
  refine (toP_law A1 c1 x1 _ (G1.out.1.ext X6.out) zz1).mono ?_
  rintro e w7 ⟨a1, rfl, o7, e7⟩
  have Oa1_7 := Lib.hid o7
  clear o7
  have X7 : Hid (Ext w w7) := X6.out.trans e7
  have S7 : Hid (w6.heap.size ≤ w7.heap.size) := e7.size
  have Oa0_7 := Lib.hid (Oa0_6.out.fr e7.fr (Or.inr (Nat.zero_le _)))
  clear Oa0_6
  clear e7
  go_wp2_with fail
  refine (CI.out _ _ _ _ Oa0_7.out _ _ _ Oa1_7.out).mono ?_
  rintro e w8 ⟨rfl, e8⟩
  have X8 : Hid (Ext w w8) := X7.out.trans e8
  have S8 : Hid (w7.heap.size ≤ w8.heap.size) := e8.size
  have Oa0_8 := Lib.hid (Oa0_7.out.fr e8.fr (Or.inr (Nat.zero_le _)))
  have Oa1_8 := Lib.hid (Oa1_7.out.fr e8.fr (Or.inr (Nat.zero_le _)))
  clear Oa0_7 Oa1_7
  clear e8
  go_wp2_with fail
  refine (toP_law A0 c0 x0 _ (G0.out.1.ext X8.out) zz0).mono ?_
  rintro e w9 ⟨b0, rfl, o9, e9⟩
  have Ob0_9 := Lib.hid o9
  clear o9
  have X9 : Hid (Ext w w9) := X8.out.trans e9
  have S9 : Hid (w8.heap.size ≤ w9.heap.size) := e9.size
  have Oa0_9 := Lib.hid (Oa0_8.out.fr e9.fr (Or.inr (Nat.zero_le _)))
  have Oa1_9 := Lib.hid (Oa1_8.out.fr e9.fr (Or.inr (Nat.zero_le _)))
  clear Oa0_8 Oa1_8
  clear e9
  go_wp2_with fail
  refine (eqP_law Oa0_9.out Ob0_9.out (Nat.le_trans z0.out (by omega))).mono ?_
  rintro e w10 ⟨rfl, e10⟩
  have X10 : Hid (Ext w w10) := X9.out.trans e10
  have S10 : Hid (w9.heap.size ≤ w10.heap.size) := e10.size
  have Oa0_10 := Lib.hid (Oa0_9.out.fr e10.fr (Or.inr (Nat.zero_le _)))
  have Oa1_10 := Lib.hid (Oa1_9.out.fr e10.fr (Or.inr (Nat.zero_le _)))
  have Ob0_10 := Lib.hid (Ob0_9.out.fr e10.fr (Or.inr (Nat.zero_le _)))
  clear Oa0_9 Oa1_9 Ob0_9
  clear e10
  clear Ob0_10
  go_wp2_with fail
  refine (toP_law A1 c1 x1 _ (G1.out.1.ext X10.out) zz1).mono ?_
  rintro e w11 ⟨b1, rfl, o11, e11⟩
  have Ob1_11 := Lib.hid o11
  clear o11
  have X11 : Hid (Ext w w11) := X10.out.trans e11
  have S11 : Hid (w10.heap.size ≤ w11.heap.size) := e11.size
  have Oa0_11 := Lib.hid (Oa0_10.out.fr e11.fr (Or.inr (Nat.zero_le _)))
  have Oa1_11 := Lib.hid (Oa1_10.out.fr e11.fr (Or.inr (Nat.zero_le _)))
  clear Oa0_10 Oa1_10
  clear e11
  go_wp2_with fail
  refine (eqP_law Oa1_11.out Ob1_11.out (Nat.le_trans z1.out (by omega))).mono ?_
  rintro e w12 ⟨rfl, e12⟩
  have X12 : Hid (Ext w w12) := X11.out.trans e12
  have S12 : Hid (w11.heap.size ≤ w12.heap.size) := e12.size
  have Oa0_12 := Lib.hid (Oa0_11.out.fr e12.fr (Or.inr (Nat.zero_le _)))
  have Oa1_12 := Lib.hid (Oa1_11.out.fr e12.fr (Or.inr (Nat.zero_le _)))
  have Ob1_12 := Lib.hid (Ob1_11.out.fr e12.fr (Or.inr (Nat.zero_le _)))
  clear Oa0_11 Oa1_11 Ob1_11
  clear e12
  clear Ob1_12
  go_wp2_with fail
  go_ret
  exact ⟨rfl, X12.out⟩

theorem walk_FnExactSameTime (w : World) (A0 : Option Addr) (c0 : Nat) (x0 : List (Int × Int)) (g0 : Rd w 2 A0 x0.length (pairCells x0) ∧ x0.length ≤ c0 ∧ c0 ≤ maxLen ∧ ∀ q ∈ x0, (-9223372036854775808 ≤ q.1 ∧ q.1 ≤ 9223372036854775807) ∧ -9223372036854775808 ≤ q.2 ∧ q.2 ≤ 9223372036854775807) (A1 : Option Addr) (c1 : Nat) (x1 : List (Int × Int)) (g1 : Rd w 2 A1 x1.length (pairCells x1) ∧ x1.length ≤ c1 ∧ c1 ≤ maxLen ∧ ∀ q ∈ x1, (-9223372036854775808 ≤ q.1 ∧ q.1 ≤ 9223372036854775807) ∧ -9223372036854775808 ≤ q.2 ∧ q.2 ≤ 9223372036854775807) :
    Calls Try.prog 7 #[.slice A0 x0.length c0, .slice A1 x1.length c1] w fun e w' => e = .returned (.bool true) ∧ Ext w w' := by
  by_cases hbig0 : 1048576 < x0.length
  · go_enter Try.func7, Try.ntmps7
    go_wp2_with fail
    refine (szP_bad _ _ x0.length _ _ ⟨by omega, by omega⟩ (by omega) ⟨g0.2.1, g0.2.2.1⟩).mono ?_
    rintro e v1 ⟨rfl, f1⟩
    have X : Hid (Ext w v1) := (Ext.refl w).trans f1
    clear f1
    go_wp2_with fail
    go_ret
    exact ⟨rfl, X.out⟩
  by_cases hbig1 : 1048576 < x0.length + x1.length
  · go_enter Try.func7, Try.ntmps7
    go_wp2_with fail
    refine (szP_ok _ _ x0.length _ _ ⟨by omega, by omega⟩ (by omega)).mono ?_
    rintro e u0 ⟨rfl, f0⟩
    have X0 : Hid (Ext w u0) := (Ext.refl w).trans f0
    clear f0
    go_wp2_with fail
    refine (szP_bad _ _ x1.length _ _ ⟨by omega, by omega⟩ (by omega) ⟨g1.2.1, g1.2.2.1⟩).mono ?_
    rintro e v1 ⟨rfl, f1⟩
    have X : Hid (Ext w v1) := X0.out.trans f1
    clear f1
    go_wp2_with fail
    go_ret
    exact ⟨rfl, X.out⟩
  have hn : x0.length + x1.length ≤ 1048576 := by omega
  exact core_FnExactSameTime w A0 c0 x0 g0 A1 c1 x1 g1 (smB x0 x1)
    (show szP x0 ≤ 1048576 from by unfold szP; omega)
    (show szP x1 ≤ 1048576 from by unfold szP; omega)
    (Lib.hid hn)
    (Lib.hid fun w _ _ _ h _ _ _ k => by obtain ⟨A, c, rfl, hr⟩ := h.rd; obtain ⟨A', c', rfl, hr'⟩ := k.rd; exact smS_any A c _ A' c' _ w hr (by omega) hr' (by omega))
    (Lib.hid fun w _ _ _ h _ _ _ k => by obtain ⟨A, c, rfl, hr⟩ := h.rd; obtain ⟨A', c', rfl, hr'⟩ := k.rd; exact smI_any A c _ A' c' _ w hr (by omega) hr' (by omega))
set_option maxRecDepth 100000 in
theorem lifted_FnExactSameTime (os : Os) (started : os.Started) (H : Type) (enc : TypeId × Value → H) :
    ReturnsInHanded {} Try.checked os 7 .any (Rows.fnExactSameTimeSpec.pre6 enc Try.prog Try.f7 Rows.fnExactSameTimeRow.domain false) (Rows.fnExactSameTimeSpec.post enc Try.prog Try.f7 false true false false) := by
  refine returnsInHanded_of_change (C := Try.checked) own started (by kernel_rfl) Try.func7
    (ChangeSpec.witness6 (enc := enc) (C := Try.checked) false ⟨#[], #[.slice none 0 0, .slice none 0 0], []⟩ 8 (by kernel_rfl) (by kernel_rfl) (by kernel_rfl) (by kernel_rfl)) ?_
  intro W base args ds gs before hval0 hW hcnd _
  have hval : ∀ (j : Nat) t v, Try.f7.params[j]? = some t → args[j]? = some v → Value.okWide Try.prog W .any base t v := hval0
  have hW' := hW
  obtain ⟨p, q, hA0, hV, rfl, hfz, hnd⟩ := hW
  have hA : DataW.TrodAll enc Try.prog W 0 (fun _ => true) true Try.f7.params.toList args.toList ds p := hA0
  rw [Try.params7] at hA hval
  obtain ⟨v0, vs0, d0, ds0, p0, q0, hargs, rfl, rfl, h0, r0⟩ := trodAll_cons hA
  obtain ⟨v1, vs1, d1, ds1, p1, q1, rfl, rfl, rfl, h1, r1⟩ := trodAll_cons r0
  obtain ⟨rfl, rfl, rfl⟩ := trodAll_nil r1
  obtain rfl : args = #[v0, v1] := by cases args; simp_all
  obtain ⟨rfl, rfl⟩ := trodVars_none hV
  have k0 := h0
  have lt0 : ∀ x ∈ p0, x.block < W.heap.size := by obtain ⟨m, hm⟩ := k0; exact DataW.trod_lt m _ _ _ hm
  have k1 := h1
  have lt1 : ∀ x ∈ p1, x.block < W.heap.size := by obtain ⟨m, hm⟩ := k1; exact DataW.trod_lt m _ _ _ hm
  obtain ⟨A0, c0, x0, rfl, g0⟩ := view_pairs Try.underlying22 Try.underlying57 (by kernel_rfl) rfl rfl (by kernel_rfl) (by kernel_rfl) Try.underlying3 Try.underlying3 (hval 0 22 v0 rfl rfl) h0
  obtain ⟨A1, c1, x1, rfl, g1⟩ := view_pairs Try.underlying22 Try.underlying57 (by kernel_rfl) rfl rfl (by kernel_rfl) (by kernel_rfl) Try.underlying3 Try.underlying3 (hval 1 22 v1 rfl rfl) h1
  clear hA0 hval0
  refine (walk_FnExactSameTime W A0 c0 x0 g0 A1 c1 x1 g1).mono fun e W' ⟨he, bel⟩ => ?_
  subst he
  exact ⟨_, rfl, _, _, _, [], _, [], hW', trodAll_mk1 (shut_bool Try.underlying4 _), (trodAll_cons_mk (Below.trod laidOut (by kernel_rfl) (of_decide_eq_true (by kernel_rfl)) k0 bel lt0) (trodAll_cons_mk (Below.trod laidOut (by kernel_rfl) (of_decide_eq_true (by kernel_rfl)) k1 bel lt1) trodAll_mk0)), rfl, Below.frame bel _, fun h => by cases h⟩

theorem proved_FnExactSameTime : Rows.FnExactSameTimeSaid :=
  OpenClaim.holds_of_wide 7 Try.f7 rfl rfl rfl rfl rfl rfl rfl ⟨rfl, rfl, rfl, rfl, rfl⟩ rfl rfl rfl rfl rfl (by kernel_rfl) Try.func7 (by kernel_rfl)
    (of_decide_eq_true (by kernel_rfl)) (by unfold Func.isWrapper; first | (rw [if_pos (by decide +kernel)]; kernel_rfl) | (rw [if_neg (by decide +kernel)]; exact ⟨rfl, rfl⟩))
    (fun os started H enc _ => lifted_FnExactSameTime os started H enc)
end Go.Proofs.Ytoobffhchbgkjaa
