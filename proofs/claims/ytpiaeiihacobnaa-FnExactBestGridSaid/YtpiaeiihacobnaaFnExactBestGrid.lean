/- FnExactBestGrid: for all arguments the law answers true: impl.BestGrid returns what the reference's function of that name returns, leaves its arguments as they were, and its result shares no memory. No conditions. -/
import Derived.Test.YtpiaeiihacobnaaRow
import Derived.Test.YtpiaeiihacobnaaOwn
import Derived.Test.YtpiaeiihacobnaaBestG
namespace Go.Proofs.Ytpiaeiihacobnaa
open Go.ChangeShapes Go.WideShapes Go.ChangeAt Go.RowKit Go.Joins

set_option maxHeartbeats 1000000 in
/-- The law's walk, over contracts of the two functions. -/
theorem core_FnExactBestGrid (w : World) (A0 : Option Addr) (c0 : Nat) (x0 : List Int) (g0 : RdI w A0 x0 ∧ x0.length ≤ c0 ∧ c0 ≤ maxLen ∧ Fits x0) (A1 : Option Addr) (c1 : Nat) (x1 : List Int) (g1 : RdI w A1 x1 ∧ x1.length ≤ c1 ∧ c1 ≤ maxLen ∧ Fits x1) (x2 : Int) (_g2 : -9223372036854775808 ≤ x2 ∧ x2 ≤ 9223372036854775807)
    (y0 : Int)
    (z0 : Hid (szS x0 ≤ 1048576))
    (z1 : Hid (szS x1 ≤ 1048576))
    (CS : Hid (∀ w : World, ∀ (L0 U0 : Nat) (a0 : Value), OwnS w L0 U0 a0 x0 → ∀ (L1 U1 : Nat) (a1 : Value), OwnS w L1 U1 a1 x1 → Calls Try.prog 28 #[a0, a1, .int .i64 x2] w (fun e w' => e = .returned (.int .i64 y0) ∧ Ext w w')))
    (CI : Hid (∀ w : World, ∀ (L0 U0 : Nat) (a0 : Value), OwnS w L0 U0 a0 x0 → ∀ (L1 U1 : Nat) (a1 : Value), OwnS w L1 U1 a1 x1 → Calls Try.prog 29 #[a0, a1, .int .i64 x2] w (fun e w' => e = .returned (.int .i64 y0) ∧ Ext w w'))) :
    Calls Try.prog 9 #[.slice A0 x0.length c0, .slice A1 x1.length c1, .int .i64 x2] w fun e w' => e = .returned (.bool true) ∧ Ext w w' := by
  have G0 := Lib.hid g0
  have G1 := Lib.hid g1
  clear g0
  clear g1
  have zz0 : x0.length ≤ 1048576 := by have := z0.out; unfold szS at this; omega
  have zz1 : x1.length ≤ 1048576 := by have := z1.out; unfold szS at this; omega
  go_enter Try.func9, Try.ntmps9
  go_wp2_with fail
  refine (toS_law A0 c0 x0 _ (G0.out.1.ext (Ext.refl w)) zz0).mono ?_
  rintro e w1 ⟨s0, rfl, o1, e1⟩
  have Os0_1 := Lib.hid o1
  clear o1
  have X1 : Hid (Ext w w1) := (Ext.refl w).trans e1
  have S1 : Hid (w.heap.size ≤ w1.heap.size) := X1.out.size
  clear e1
  go_wp2_with fail
  refine (toS_law A1 c1 x1 _ (G1.out.1.ext X1.out) zz1).mono ?_
  rintro e w2 ⟨s1, rfl, o2, e2⟩
  have Os1_2 := Lib.hid o2
  clear o2
  have X2 : Hid (Ext w w2) := X1.out.trans e2
  have S2 : Hid (w1.heap.size ≤ w2.heap.size) := e2.size
  have Os0_2 := Lib.hid (Os0_1.out.fr e2.fr (Or.inr (Nat.zero_le _)))
  clear Os0_1
  clear e2
  go_wp2_with fail
  refine (CS.out _ _ _ _ Os0_2.out _ _ _ Os1_2.out).mono ?_
  rintro e w3 ⟨rfl, e3⟩
  have X3 : Hid (Ext w w3) := X2.out.trans e3
  have S3 : Hid (w2.heap.size ≤ w3.heap.size) := e3.size
  have Os0_3 := Lib.hid (Os0_2.out.fr e3.fr (Or.inr (Nat.zero_le _)))
  have Os1_3 := Lib.hid (Os1_2.out.fr e3.fr (Or.inr (Nat.zero_le _)))
  clear Os0_2 Os1_2
  clear e3
  clear Os0_3
  clear Os1_3
  go_wp2_with fail
  refine (toS_law A0 c0 x0 _ (G0.out.1.ext X3.out) zz0).mono ?_
  rintro e w4 ⟨a0, rfl, o4, e4⟩
  have Oa0_4 := Lib.hid o4
  clear o4
  have X4 : Hid (Ext w w4) := X3.out.trans e4
  have S4 : Hid (w3.heap.size ≤ w4.heap.size) := e4.size
  clear e4
  go_wp2_with fail
  refine (toS_law A1 c1 x1 _ (G1.out.1.ext X4.out) zz1).mono ?_
  rintro e w5 ⟨a1, rfl, o5, e5⟩
  have Oa1_5 := Lib.hid o5
  clear o5
  have X5 : Hid (Ext w w5) := X4.out.trans e5
  have S5 : Hid (w4.heap.size ≤ w5.heap.size) := e5.size
  have Oa0_5 := Lib.hid (Oa0_4.out.fr e5.fr (Or.inr (Nat.zero_le _)))
  clear Oa0_4
  clear e5
  go_wp2_with fail
  refine (CI.out _ _ _ _ Oa0_5.out _ _ _ Oa1_5.out).mono ?_
  rintro e w6 ⟨rfl, e6⟩
  have X6 : Hid (Ext w w6) := X5.out.trans e6
  have S6 : Hid (w5.heap.size ≤ w6.heap.size) := e6.size
  have Oa0_6 := Lib.hid (Oa0_5.out.fr e6.fr (Or.inr (Nat.zero_le _)))
  have Oa1_6 := Lib.hid (Oa1_5.out.fr e6.fr (Or.inr (Nat.zero_le _)))
  clear Oa0_5 Oa1_5
  clear e6
  go_wp2_with fail
  refine (toS_law A0 c0 x0 _ (G0.out.1.ext X6.out) zz0).mono ?_
  rintro e w7 ⟨b0, rfl, o7, e7⟩
  have Ob0_7 := Lib.hid o7
  clear o7
  have X7 : Hid (Ext w w7) := X6.out.trans e7
  have S7 : Hid (w6.heap.size ≤ w7.heap.size) := e7.size
  have Oa0_7 := Lib.hid (Oa0_6.out.fr e7.fr (Or.inr (Nat.zero_le _)))
  have Oa1_7 := Lib.hid (Oa1_6.out.fr e7.fr (Or.inr (Nat.zero_le _)))
  clear Oa0_6 Oa1_6
  clear e7
  go_wp2_with fail
  refine (eqS_law Oa0_7.out Ob0_7.out (Nat.le_trans z0.out (by omega))).mono ?_
  rintro e w8 ⟨rfl, e8⟩
  have X8 : Hid (Ext w w8) := X7.out.trans e8
  have S8 : Hid (w7.heap.size ≤ w8.heap.size) := e8.size
  have Oa0_8 := Lib.hid (Oa0_7.out.fr e8.fr (Or.inr (Nat.zero_le _)))
  have Oa1_8 := Lib.hid (Oa1_7.out.fr e8.fr (Or.inr (Nat.zero_le _)))
  have Ob0_8 := Lib.hid (Ob0_7.out.fr e8.fr (Or.inr (Nat.zero_le _)))
  clear Oa0_7 Oa1_7 Ob0_7
  clear e8
  clear Ob0_8
  go_wp2_with fail
  refine (toS_law A1 c1 x1 _ (G1.out.1.ext X8.out) zz1).mono ?_
  rintro e w9 ⟨b1, rfl, o9, e9⟩
  have Ob1_9 := Lib.hid o9
  clear o9
  have X9 : Hid (Ext w w9) := X8.out.trans e9
  have S9 : Hid (w8.heap.size ≤ w9.heap.size) := e9.size
  have Oa0_9 := Lib.hid (Oa0_8.out.fr e9.fr (Or.inr (Nat.zero_le _)))
  have Oa1_9 := Lib.hid (Oa1_8.out.fr e9.fr (Or.inr (Nat.zero_le _)))
  clear Oa0_8 Oa1_8
  clear e9
  go_wp2_with fail
  refine (eqS_law Oa1_9.out Ob1_9.out (Nat.le_trans z1.out (by omega))).mono ?_
  rintro e w10 ⟨rfl, e10⟩
  have X10 : Hid (Ext w w10) := X9.out.trans e10
  have S10 : Hid (w9.heap.size ≤ w10.heap.size) := e10.size
  have Oa0_10 := Lib.hid (Oa0_9.out.fr e10.fr (Or.inr (Nat.zero_le _)))
  have Oa1_10 := Lib.hid (Oa1_9.out.fr e10.fr (Or.inr (Nat.zero_le _)))
  have Ob1_10 := Lib.hid (Ob1_9.out.fr e10.fr (Or.inr (Nat.zero_le _)))
  clear Oa0_9 Oa1_9 Ob1_9
  clear e10
  clear Ob1_10
  go_wp2_with fail
  go_ret
  exact ⟨rfl, X10.out⟩

theorem walk_FnExactBestGrid (w : World) (A0 : Option Addr) (c0 : Nat) (x0 : List Int) (g0 : RdI w A0 x0 ∧ x0.length ≤ c0 ∧ c0 ≤ maxLen ∧ Fits x0) (A1 : Option Addr) (c1 : Nat) (x1 : List Int) (g1 : RdI w A1 x1 ∧ x1.length ≤ c1 ∧ c1 ≤ maxLen ∧ Fits x1) (x2 : Int) (g2 : -9223372036854775808 ≤ x2 ∧ x2 ≤ 9223372036854775807) :
    Calls Try.prog 9 #[.slice A0 x0.length c0, .slice A1 x1.length c1, .int .i64 x2] w fun e w' => e = .returned (.bool true) ∧ Ext w w' := by
  by_cases hbig0 : 1048576 < x0.length
  · clear g0 g1
    go_enter Try.func9, Try.ntmps9
    go_wp2
    go_ret
    exact ⟨rfl, Ext.refl _⟩
  by_cases hbig1 : 1048576 < x1.length
  · clear g0 g1
    go_enter Try.func9, Try.ntmps9
    go_wp2
    go_ret
    exact ⟨rfl, Ext.refl _⟩
  exact core_FnExactBestGrid w A0 c0 x0 g0 A1 c1 x1 g1 x2 g2 (bgF x0 x1 x2)
    (show szS x0 ≤ 1048576 from by unfold szS; (try dsimp only); omega)
    (show szS x1 ≤ 1048576 from by unfold szS; (try dsimp only); omega)
    (Lib.hid fun w _ _ _ h _ _ _ k => by obtain ⟨A, c, rfl, hr⟩ := h.rd; obtain ⟨A', c', rfl, hr'⟩ := k.rd; exact bgS_any A A' c c' _ _ _ w hr hr' (by omega) (by omega))
    (Lib.hid fun w _ _ _ h _ _ _ k => by obtain ⟨A, c, rfl, hr⟩ := h.rd; obtain ⟨A', c', rfl, hr'⟩ := k.rd; exact bgI_any A A' c c' _ _ _ w hr hr' (by omega) (by omega))
set_option maxRecDepth 100000 in
theorem lifted_FnExactBestGrid (os : Os) (started : os.Started) (H : Type) (enc : TypeId × Value → H) :
    ReturnsInHanded {} Try.checked os 9 .any (Rows.fnExactBestGridSpec.pre6 enc Try.prog Try.f9 Rows.fnExactBestGridRow.domain false) (Rows.fnExactBestGridSpec.post enc Try.prog Try.f9 false true false false) := by
  refine returnsInHanded_of_change (C := Try.checked) own started (by kernel_rfl) Try.func9
    (ChangeSpec.witness6 (enc := enc) (C := Try.checked) false ⟨#[], #[.slice none 0 0, .slice none 0 0, .int .i64 0], []⟩ 8 (by kernel_rfl) (by kernel_rfl) (by kernel_rfl) (by kernel_rfl)) ?_
  intro W base args ds gs before hval0 hW hcnd _
  have hval : ∀ (j : Nat) t v, Try.f9.params[j]? = some t → args[j]? = some v → Value.okWide Try.prog W .any base t v := hval0
  have hW' := hW
  obtain ⟨p, q, hA0, hV, rfl, hfz, hnd⟩ := hW
  have hA : DataW.TrodAll enc Try.prog W 0 (fun _ => true) true Try.f9.params.toList args.toList ds p := hA0
  rw [Try.params9] at hA hval
  obtain ⟨v0, vs0, d0, ds0, p0, q0, hargs, rfl, rfl, h0, r0⟩ := trodAll_cons hA
  obtain ⟨v1, vs1, d1, ds1, p1, q1, rfl, rfl, rfl, h1, r1⟩ := trodAll_cons r0
  obtain ⟨v2, vs2, d2, ds2, p2, q2, rfl, rfl, rfl, h2, r2⟩ := trodAll_cons r1
  obtain ⟨rfl, rfl, rfl⟩ := trodAll_nil r2
  obtain rfl : args = #[v0, v1, v2] := by cases args; simp_all
  obtain ⟨rfl, rfl⟩ := trodVars_none hV
  have k0 := h0
  have lt0 : ∀ x ∈ p0, x.block < W.heap.size := by obtain ⟨m, hm⟩ := k0; exact DataW.trod_lt m _ _ _ hm
  have k1 := h1
  have lt1 : ∀ x ∈ p1, x.block < W.heap.size := by obtain ⟨m, hm⟩ := k1; exact DataW.trod_lt m _ _ _ hm
  have k2 := h2
  have lt2 : ∀ x ∈ p2, x.block < W.heap.size := by obtain ⟨m, hm⟩ := k2; exact DataW.trod_lt m _ _ _ hm
  obtain ⟨A0, c0, x0, rfl, g0⟩ := view_ints Try.underlying22 Try.underlying3 (by kernel_rfl) (hval 0 22 v0 rfl rfl) h0
  obtain ⟨A1, c1, x1, rfl, g1⟩ := view_ints Try.underlying22 Try.underlying3 (by kernel_rfl) (hval 1 22 v1 rfl rfl) h1
  obtain ⟨x2, rfl, g2⟩ := view_int Try.underlying3 (hval 2 3 v2 rfl rfl) h2
  clear hA0 hval0
  refine (walk_FnExactBestGrid W A0 c0 x0 g0 A1 c1 x1 g1 x2 g2).mono fun e W' ⟨he, bel⟩ => ?_
  subst he
  exact ⟨_, rfl, _, _, _, [], _, [], hW', trodAll_mk1 (shut_bool Try.underlying4 _), (trodAll_cons_mk (Below.trod laidOut (by kernel_rfl) (of_decide_eq_true (by kernel_rfl)) k0 bel lt0) (trodAll_cons_mk (Below.trod laidOut (by kernel_rfl) (of_decide_eq_true (by kernel_rfl)) k1 bel lt1) (trodAll_cons_mk (Below.trod laidOut (by kernel_rfl) (of_decide_eq_true (by kernel_rfl)) k2 bel lt2) trodAll_mk0))), rfl, Below.frame bel _, fun h => by cases h⟩

theorem proved_FnExactBestGrid : Rows.FnExactBestGridSaid :=
  OpenClaim.holds_of_wide 9 Try.f9 rfl rfl rfl rfl rfl rfl rfl ⟨rfl, rfl, rfl, rfl, rfl⟩ rfl rfl rfl rfl rfl (by kernel_rfl) Try.func9 (by kernel_rfl)
    (of_decide_eq_true (by kernel_rfl)) (by unfold Func.isWrapper; first | (rw [if_pos (by decide +kernel)]; kernel_rfl) | (rw [if_neg (by decide +kernel)]; exact ⟨rfl, rfl⟩))
    (fun os started H enc _ => lifted_FnExactBestGrid os started H enc)
end Go.Proofs.Ytpiaeiihacobnaa
