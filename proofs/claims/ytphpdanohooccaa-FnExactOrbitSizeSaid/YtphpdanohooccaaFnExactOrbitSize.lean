/- FnExactOrbitSize: for all arguments the law answers true: impl.OrbitSize returns what the reference's function of that name returns, leaves its arguments as they were, and its result shares no memory. No conditions. -/
import Derived.Test.YtphpdanohooccaaRow
import Derived.Test.YtphpdanohooccaaOwn
import Derived.Test.YtphpdanohooccaaOwnR
import Derived.Test.YtphpdanohooccaaOrbS
import Derived.Deep.RegionHeld3
namespace Go.Proofs.Ytphpdanohooccaa
open Go.ChangeShapes Go.WideShapes Go.ChangeAt Go.RowKit Go.Joins

set_option maxHeartbeats 1000000 in
/-- The law's walk, over contracts of the two functions. -/
theorem core_FnExactOrbitSize (w : World) (n0 : Int) (A0 : Option Addr) (c0 : Nat) (x0 : List Int) (g0 : (-9223372036854775808 ≤ n0 ∧ n0 ≤ 9223372036854775807) ∧ RdI w A0 x0 ∧ x0.length ≤ c0 ∧ c0 ≤ maxLen ∧ Fits x0)
    (y0 : Int)
    (z0 : Hid (szR (n0, x0) ≤ 1048576))
    (zt_ : Hid (x0.length ≤ 1048576))
    (CS : Hid (∀ w : World, ∀ (L0 U0 : Nat) (a0 : Value), OwnR w L0 U0 a0 (n0, x0) → Calls Try.prog 25 #[a0] w (fun e w' => e = .returned (.int .i64 y0) ∧ Ext w w')))
    (CI : Hid (∀ w : World, ∀ (L0 U0 : Nat) (a0 : Value), OwnR w L0 U0 a0 (n0, x0) → Calls Try.prog 26 #[a0] w (fun e w' => e = .returned (.int .i64 y0) ∧ Ext w w'))) :
    Calls Try.prog 7 #[.agg #[.int .i64 n0, .slice A0 x0.length c0]] w fun e w' => e = .returned (.bool true) ∧ Ext w w' := by
  have G0 := Lib.hid g0
  clear g0
  have zz0 : x0.length ≤ 1048576 := by have := z0.out; unfold szR at this; omega
  have zt := zt_.out
  go_enter Try.func7, Try.ntmps7
  go_wp2_with fail
  refine (szR_ok n0 _ _ x0.length _ _ ⟨by omega, by omega⟩ (by omega)).mono ?_
  rintro e w1 ⟨rfl, e1⟩
  have X1 : Hid (Ext w w1) := ((Ext.refl w).alloc _).trans e1
  have S1 : Hid (w.heap.size + 1 ≤ w1.heap.size) := (by have := e1.size; simp at this; omega : w.heap.size + 1 ≤ w1.heap.size)
  have hb0_0_ : w1.cell? ⟨w.heap.size, 0, none⟩ = some (.int .i64 n0) := Ext.cell e1 (by first | exact (box2 _ _ _ _ _ (by simp)).1 | exact Ext.cell ((Ext.refl _).alloc _) (box2 _ _ _ _ _ (by simp)).1)
  have hb0_0 := hb0_0_; clear hb0_0_
  have hb0_1_ : w1.cell? ⟨w.heap.size, 1, none⟩ = some (.slice A0 x0.length c0) := Ext.cell e1 (by first | exact (box2 _ _ _ _ _ (by simp)).2 | exact Ext.cell ((Ext.refl _).alloc _) (box2 _ _ _ _ _ (by simp)).2)
  have hb0_1 := hb0_1_; clear hb0_1_
  clear e1
  go_wp2_with fail
  refine (toR_law n0 A0 c0 x0 _ (G0.out.2.1.ext X1.out) zz0).mono ?_
  rintro e w2 ⟨s0, rfl, o2, e2⟩
  obtain ⟨As0, cs0, rfl, oo2⟩ := o2
  have Os0_2 : Hid (OwnR w2 _ _ (.agg #[.int .i64 n0, .slice As0 x0.length cs0]) (n0, x0)) := ⟨As0, cs0, rfl, oo2⟩
  clear oo2
  have X2 : Hid (Ext w w2) := X1.out.trans e2
  have S2 : Hid (w1.heap.size ≤ w2.heap.size) := e2.size
  have hb0_0_ : w2.cell? ⟨w.heap.size, 0, none⟩ = some (.int .i64 n0) := Ext.cell e2 hb0_0
  clear hb0_0
  have hb0_0 := hb0_0_; clear hb0_0_
  have hb0_1_ : w2.cell? ⟨w.heap.size, 1, none⟩ = some (.slice A0 x0.length c0) := Ext.cell e2 hb0_1
  clear hb0_1
  have hb0_1 := hb0_1_; clear hb0_1_
  clear e2
  go_wp2_with fail
  refine (CS.out _ _ _ _ Os0_2.out).mono ?_
  rintro e w3 ⟨rfl, e3⟩
  have X3 : Hid (Ext w w3) := X2.out.trans e3
  have S3 : Hid (w2.heap.size ≤ w3.heap.size) := e3.size
  have Os0_3 := Lib.hid (Os0_2.out.fr e3.fr (Or.inr (Nat.zero_le _)))
  clear Os0_2
  have hb0_0_ : w3.cell? ⟨w.heap.size, 0, none⟩ = some (.int .i64 n0) := Ext.cell e3 hb0_0
  clear hb0_0
  have hb0_0 := hb0_0_; clear hb0_0_
  have hb0_1_ : w3.cell? ⟨w.heap.size, 1, none⟩ = some (.slice A0 x0.length c0) := Ext.cell e3 hb0_1
  clear hb0_1
  have hb0_1 := hb0_1_; clear hb0_1_
  clear e3
  clear Os0_3
  go_wp2_with fail
  refine (toR_law n0 A0 c0 x0 _ (G0.out.2.1.ext X3.out) zz0).mono ?_
  rintro e w4 ⟨a0, rfl, o4, e4⟩
  obtain ⟨Aa0, ca0, rfl, oo4⟩ := o4
  have Oa0_4 : Hid (OwnR w4 _ _ (.agg #[.int .i64 n0, .slice Aa0 x0.length ca0]) (n0, x0)) := ⟨Aa0, ca0, rfl, oo4⟩
  clear oo4
  have X4 : Hid (Ext w w4) := X3.out.trans e4
  have S4 : Hid (w3.heap.size ≤ w4.heap.size) := e4.size
  have hb0_0_ : w4.cell? ⟨w.heap.size, 0, none⟩ = some (.int .i64 n0) := Ext.cell e4 hb0_0
  clear hb0_0
  have hb0_0 := hb0_0_; clear hb0_0_
  have hb0_1_ : w4.cell? ⟨w.heap.size, 1, none⟩ = some (.slice A0 x0.length c0) := Ext.cell e4 hb0_1
  clear hb0_1
  have hb0_1 := hb0_1_; clear hb0_1_
  clear e4
  have X4_ : Hid (Ext w (w4.alloc (.cells #[.int .i64 n0, .slice Aa0 x0.length ca0] 33))) := X4.out.alloc _
  clear X4
  have X4 := X4_; clear X4_
  have Oa0_4_ := Lib.hid (Oa0_4.out.fr ((Ext.refl w4).alloc (.cells #[.int .i64 n0, .slice Aa0 x0.length ca0] 33)).fr (Or.inr (Nat.zero_le _)))
  clear Oa0_4
  have hb0_0_ := Ext.cell ((Ext.refl w4).alloc (.cells #[.int .i64 n0, .slice Aa0 x0.length ca0] 33)) hb0_0
  clear hb0_0
  have hb0_0 := hb0_0_; clear hb0_0_
  have hb0_1_ := Ext.cell ((Ext.refl w4).alloc (.cells #[.int .i64 n0, .slice Aa0 x0.length ca0] 33)) hb0_1
  clear hb0_1
  have hb0_1 := hb0_1_; clear hb0_1_
  have kba0_0 : (w4.alloc (.cells #[.int .i64 n0, .slice Aa0 x0.length ca0] 33)).cell? ⟨w4.heap.size, 0, none⟩ = some (.int .i64 n0) := (box2 _ _ _ _ _ rfl).1
  have kba0_1 : (w4.alloc (.cells #[.int .i64 n0, .slice Aa0 x0.length ca0] 33)).cell? ⟨w4.heap.size, 1, none⟩ = some (.slice Aa0 x0.length ca0) := (box2 _ _ _ _ _ rfl).2
  go_wp2_with fail
  refine (CI.out _ _ _ _ Oa0_4_.out).mono ?_
  rintro e w5 ⟨rfl, e5⟩
  have X5 : Hid (Ext w w5) := X4.out.trans e5
  have P5 : Hid ((w4.alloc (.cells #[.int .i64 n0, .slice Aa0 x0.length ca0] 33)).heap.size = w4.heap.size + 1) := (by simp : (w4.alloc (.cells #[.int .i64 n0, .slice Aa0 x0.length ca0] 33)).heap.size = w4.heap.size + 1)
  have S5 : Hid (w4.heap.size + 1 ≤ w5.heap.size) := (by have := e5.size; simpa using this : w4.heap.size + 1 ≤ w5.heap.size)
  have Oa0_5 := Lib.hid (Oa0_4_.out.fr e5.fr (Or.inr (Nat.zero_le _)))
  clear Oa0_4_
  have hb0_0_ : w5.cell? ⟨w.heap.size, 0, none⟩ = some (.int .i64 n0) := Ext.cell e5 hb0_0
  clear hb0_0
  have hb0_0 := hb0_0_; clear hb0_0_
  have hb0_1_ : w5.cell? ⟨w.heap.size, 1, none⟩ = some (.slice A0 x0.length c0) := Ext.cell e5 hb0_1
  clear hb0_1
  have hb0_1 := hb0_1_; clear hb0_1_
  have kba0_0_ : w5.cell? ⟨w4.heap.size, 0, none⟩ = some (.int .i64 n0) := Ext.cell e5 kba0_0
  clear kba0_0
  have kba0_0 := kba0_0_; clear kba0_0_
  have kba0_1_ : w5.cell? ⟨w4.heap.size, 1, none⟩ = some (.slice Aa0 x0.length ca0) := Ext.cell e5 kba0_1
  clear kba0_1
  have kba0_1 := kba0_1_; clear kba0_1_
  clear e5
  go_wp2_with fail
  go_region_held3 (fun W => W.cell? ⟨w4.heap.size, 0, none⟩ = some (.int .i64 n0) ∧ W.cell? ⟨w4.heap.size, 1, none⟩ = some (.slice Aa0 x0.length ca0) ∧ W.cell? ⟨w.heap.size, 0, none⟩ = some (.int .i64 n0) ∧ W.cell? ⟨w.heap.size, 1, none⟩ = some (.slice A0 x0.length c0))
    (first | exact ⟨kba0_0, kba0_1, hb0_0, hb0_1⟩ | exact ⟨Ext.cell eb6 kba0_0, Ext.cell eb6 kba0_1, Ext.cell eb6 hb0_0, Ext.cell eb6 hb0_1⟩ | exact ⟨Ext.cell ec6 (Ext.cell eb6 kba0_0), Ext.cell ec6 (Ext.cell eb6 kba0_1), Ext.cell ec6 (Ext.cell eb6 hb0_0), Ext.cell ec6 (Ext.cell eb6 hb0_1)⟩)
    (first
      | (go_at_call 22; refine (toR_law n0 A0 c0 x0 (World.drew w5) (G0.out.2.1.ext X5.out.drew) zz0).mono ?_; rintro e wb6 ⟨vb6, rfl, ⟨Ab6, cb6, rfl, ob6⟩, eb6⟩)
      | (go_at_call 24; refine (eqR_law (Oa0_5.out.fr ((Ext.drew (Ext.refl w5)).trans eb6).fr (Or.inr (Nat.zero_le _))) (⟨Ab6, cb6, rfl, ob6⟩ : OwnR wb6 _ _ (.agg #[.int .i64 n0, .slice Ab6 x0.length cb6]) (n0, x0)) (Nat.le_trans z0.out (by omega))).mono ?_; rintro e w6 ⟨rfl, ec6⟩))
  have e6 : Ext w5 w6 := ((Ext.drew (Ext.refl w5)).trans eb6).trans ec6
  clear eb6 ec6 ob6
  have X6 : Hid (Ext w w6) := X5.out.trans e6
  have S6 : Hid (w5.heap.size ≤ w6.heap.size) := e6.size
  have Oa0_6 := Lib.hid (Oa0_5.out.fr e6.fr (Or.inr (Nat.zero_le _)))
  clear Oa0_5
  have hb0_0_ : w6.cell? ⟨w.heap.size, 0, none⟩ = some (.int .i64 n0) := Ext.cell e6 hb0_0
  clear hb0_0
  have hb0_0 := hb0_0_; clear hb0_0_
  have hb0_1_ : w6.cell? ⟨w.heap.size, 1, none⟩ = some (.slice A0 x0.length c0) := Ext.cell e6 hb0_1
  clear hb0_1
  have hb0_1 := hb0_1_; clear hb0_1_
  have kba0_0_ : w6.cell? ⟨w4.heap.size, 0, none⟩ = some (.int .i64 n0) := Ext.cell e6 kba0_0
  clear kba0_0
  have kba0_0 := kba0_0_; clear kba0_0_
  have kba0_1_ : w6.cell? ⟨w4.heap.size, 1, none⟩ = some (.slice Aa0 x0.length ca0) := Ext.cell e6 kba0_1
  clear kba0_1
  have kba0_1 := kba0_1_; clear kba0_1_
  clear e6
  go_wp2_with fail
  go_ret
  exact ⟨rfl, X6.out⟩

theorem walk_FnExactOrbitSize (w : World) (n0 : Int) (A0 : Option Addr) (c0 : Nat) (x0 : List Int) (g0 : (-9223372036854775808 ≤ n0 ∧ n0 ≤ 9223372036854775807) ∧ RdI w A0 x0 ∧ x0.length ≤ c0 ∧ c0 ≤ maxLen ∧ Fits x0) :
    Calls Try.prog 7 #[.agg #[.int .i64 n0, .slice A0 x0.length c0]] w fun e w' => e = .returned (.bool true) ∧ Ext w w' := by
  by_cases hbig0 : 1048576 < x0.length
  · go_enter Try.func7, Try.ntmps7
    go_wp2_with fail
    refine (szR_bad n0 _ _ x0.length _ _ ⟨by omega, by omega⟩ (by omega) ⟨g0.2.2.1, g0.2.2.2.1⟩).mono ?_
    rintro e v1 ⟨rfl, f1⟩
    have X : Hid (Ext w v1) := ((Ext.refl w).alloc _).trans f1
    clear f1
    go_wp2_with fail
    go_ret
    exact ⟨rfl, X.out⟩
  have hn : x0.length ≤ 1048576 := by omega
  exact core_FnExactOrbitSize w n0 A0 c0 x0 g0 (obF n0 x0)
    (show szR (n0, x0) ≤ 1048576 from by unfold szR; (try dsimp only); omega)
    (Lib.hid hn)
    (Lib.hid fun w _ _ _ h => by obtain ⟨A, c, rfl, hr, hc⟩ := h.rdc; exact obS_any _ A c _ w hr (by dsimp only; omega))
    (Lib.hid fun w _ _ _ h => by obtain ⟨A, c, rfl, hr, hc⟩ := h.rdc; exact obI_any _ A c _ w hr (by dsimp only; omega))
set_option maxRecDepth 100000 in
theorem lifted_FnExactOrbitSize (os : Os) (started : os.Started) (H : Type) (enc : TypeId × Value → H) :
    ReturnsInHanded {} Try.checked os 7 .any (Rows.fnExactOrbitSizeSpec.pre6 enc Try.prog Try.f7 Rows.fnExactOrbitSizeRow.domain false) (Rows.fnExactOrbitSizeSpec.post enc Try.prog Try.f7 false true false false) := by
  refine returnsInHanded_of_change (C := Try.checked) own started (by kernel_rfl) Try.func7
    (ChangeSpec.witness6 (enc := enc) (C := Try.checked) false ⟨#[], #[.agg #[.int .i64 0, .slice none 0 0]], []⟩ 8 (by kernel_rfl) (by kernel_rfl) (by kernel_rfl) (by kernel_rfl)) ?_
  intro W base args ds gs before hval0 hW hcnd _
  have hval : ∀ (j : Nat) t v, Try.f7.params[j]? = some t → args[j]? = some v → Value.okWide Try.prog W .any base t v := hval0
  have hW' := hW
  obtain ⟨p, q, hA0, hV, rfl, hfz, hnd⟩ := hW
  have hA : DataW.TrodAll enc Try.prog W 0 (fun _ => true) true Try.f7.params.toList args.toList ds p := hA0
  rw [Try.params7] at hA hval
  obtain ⟨v0, vs0, d0, ds0, p0, q0, hargs, rfl, rfl, h0, r0⟩ := trodAll_cons hA
  obtain ⟨rfl, rfl, rfl⟩ := trodAll_nil r0
  obtain rfl : args = #[v0] := by cases args; simp_all
  obtain ⟨rfl, rfl⟩ := trodVars_none hV
  have k0 := h0
  have lt0 : ∀ x ∈ p0, x.block < W.heap.size := by obtain ⟨m, hm⟩ := k0; exact DataW.trod_lt m _ _ _ hm
  obtain ⟨n0, A0, c0, x0, rfl, g0⟩ := view_rhythm Try.underlying30 (by kernel_rfl) (by kernel_rfl) Try.underlying3 Try.underlying22 Try.underlying3 (by kernel_rfl) (hval 0 30 v0 rfl rfl) h0
  clear hA0 hval0
  refine (walk_FnExactOrbitSize W n0 A0 c0 x0 g0).mono fun e W' ⟨he, bel⟩ => ?_
  subst he
  exact ⟨_, rfl, _, _, _, [], _, [], hW', trodAll_mk1 (shut_bool Try.underlying4 _), (trodAll_cons_mk (Below.trod laidOut (by kernel_rfl) (of_decide_eq_true (by kernel_rfl)) k0 bel lt0) trodAll_mk0), rfl, Below.frame bel _, fun h => by cases h⟩

theorem proved_FnExactOrbitSize : Rows.FnExactOrbitSizeSaid :=
  OpenClaim.holds_of_wide 7 Try.f7 rfl rfl rfl rfl rfl rfl rfl ⟨rfl, rfl, rfl, rfl, rfl⟩ rfl rfl rfl rfl rfl (by kernel_rfl) Try.func7 (by kernel_rfl)
    (of_decide_eq_true (by kernel_rfl)) (by unfold Func.isWrapper; first | (rw [if_pos (by decide +kernel)]; kernel_rfl) | (rw [if_neg (by decide +kernel)]; exact ⟨rfl, rfl⟩))
    (fun os started H enc _ => lifted_FnExactOrbitSize os started H enc)
end Go.Proofs.Ytphpdanohooccaa
