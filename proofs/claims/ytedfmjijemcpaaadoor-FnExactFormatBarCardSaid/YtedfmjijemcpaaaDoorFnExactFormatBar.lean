/- FnExactFormatBar: for all arguments the law answers true: impl.FormatBar returns what the reference's function of that name returns, leaves its arguments as they were, and its result shares no memory. No conditions. -/
import Derived.Test.YtedfmjijemcpaaaDoorRow
import Derived.Test.YtedfmjijemcpaaaDoorCards
import Derived.Test.YtedfmjijemcpaaaDoorTie
import Derived.LaidMore
import Derived.Lay
import Derived.SevenTiedAt
import Derived.Stop.Joined
import Derived.Test.YtedfmjijemcpaaaDoorHanded
import Derived.Test.YtedfmjijemcpaaaDoorOwn
import Derived.Test.YtedfmjijemcpaaaDoorNumT
namespace Go.Proofs.YtedfmjijemcpaaaDoor
open Go.ChangeShapes Go.WideShapes Go.ChangeAt Go.RowKit Go.Joins

set_option maxHeartbeats 1000000 in
/-- The law's walk, over contracts of the two functions. -/
theorem core_FnExactFormatBar (w : World) (A0 : Option Addr) (c0 : Nat) (x0 : List Int) (g0 : RdI w A0 x0 ∧ x0.length ≤ c0 ∧ c0 ≤ maxLen ∧ Fits x0)
    (y0 : ByteArray) (m : Int) (hm : w.cell? ⟨0, 0, none⟩ = some (.int .i64 m))
    (z0 : Hid (szS x0 ≤ 1048576))
    (CS : Hid (∀ w : World, ∀ (L0 U0 : Nat) (a0 : Value), OwnS w L0 U0 a0 x0 → Calls Tryd.prog 7 #[a0] w (fun e w' => e = .returned (.string y0) ∧ Ext w w')))
    (CI : Hid (∀ w : World, w.cell? ⟨0, 0, none⟩ = some (.int .i64 m) → ∀ (L0 U0 : Nat) (a0 : Value), OwnS w L0 U0 a0 x0 → Calls Tryd.prog 9 #[a0] w (fun e w' => e = .returned (.string y0) ∧ Ext w w'))) :
    Calls Tryd.prog 3 #[.slice A0 x0.length c0] w fun e w' => e = .returned (.bool true) ∧ Ext w w' := by
  have G0 := Lib.hid g0
  have HM := Lib.hid hm
  clear g0 hm
  have zz0 : x0.length ≤ 1048576 := by have := z0.out; unfold szS at this; omega
  go_enter Tryd.func3, Tryd.ntmps3
  go_wp2_with fail
  refine (toS_law A0 c0 x0 _ (G0.out.1.ext (Ext.refl w)) zz0).mono ?_
  rintro e w1 ⟨s0, rfl, o1, e1⟩
  have Os0_1 := Lib.hid o1
  clear o1
  have X1 : Hid (Ext w w1) := (Ext.refl w).trans e1
  have S1 : Hid (w.heap.size ≤ w1.heap.size) := X1.out.size
  clear e1
  go_wp2_with fail
  refine (CS.out _ _ _ _ Os0_1.out).mono ?_
  rintro e w2 ⟨rfl, e2⟩
  have X2 : Hid (Ext w w2) := X1.out.trans e2
  have S2 : Hid (w1.heap.size ≤ w2.heap.size) := e2.size
  have Os0_2 := Lib.hid (Os0_1.out.fr e2.fr (Or.inr (Nat.zero_le _)))
  clear Os0_1
  clear e2
  clear Os0_2
  go_wp2_with fail
  refine (toS_law A0 c0 x0 _ (G0.out.1.ext X2.out) zz0).mono ?_
  rintro e w3 ⟨a0, rfl, o3, e3⟩
  have Oa0_3 := Lib.hid o3
  clear o3
  have X3 : Hid (Ext w w3) := X2.out.trans e3
  have S3 : Hid (w2.heap.size ≤ w3.heap.size) := e3.size
  clear e3
  go_wp2_with fail
  refine (CI.out _ (X3.out.cell HM.out) _ _ _ Oa0_3.out).mono ?_
  rintro e w4 ⟨rfl, e4⟩
  have X4 : Hid (Ext w w4) := X3.out.trans e4
  have S4 : Hid (w3.heap.size ≤ w4.heap.size) := e4.size
  have Oa0_4 := Lib.hid (Oa0_3.out.fr e4.fr (Or.inr (Nat.zero_le _)))
  clear Oa0_3
  clear e4
  go_wp2_with fail
  refine (toS_law A0 c0 x0 _ (G0.out.1.ext X4.out) zz0).mono ?_
  rintro e w5 ⟨b0, rfl, o5, e5⟩
  have Ob0_5 := Lib.hid o5
  clear o5
  have X5 : Hid (Ext w w5) := X4.out.trans e5
  have S5 : Hid (w4.heap.size ≤ w5.heap.size) := e5.size
  have Oa0_5 := Lib.hid (Oa0_4.out.fr e5.fr (Or.inr (Nat.zero_le _)))
  clear Oa0_4
  clear e5
  go_wp2_with fail
  refine (eqS_law Oa0_5.out Ob0_5.out (Nat.le_trans z0.out (by omega))).mono ?_
  rintro e w6 ⟨rfl, e6⟩
  have X6 : Hid (Ext w w6) := X5.out.trans e6
  have S6 : Hid (w5.heap.size ≤ w6.heap.size) := e6.size
  have Oa0_6 := Lib.hid (Oa0_5.out.fr e6.fr (Or.inr (Nat.zero_le _)))
  have Ob0_6 := Lib.hid (Ob0_5.out.fr e6.fr (Or.inr (Nat.zero_le _)))
  clear Oa0_5 Ob0_5
  clear e6
  clear Ob0_6
  go_wp2_with fail
  go_ret
  exact ⟨rfl, X6.out⟩

theorem walk_FnExactFormatBar (w : World) (A0 : Option Addr) (c0 : Nat) (x0 : List Int) (g0 : RdI w A0 x0 ∧ x0.length ≤ c0 ∧ c0 ≤ maxLen ∧ Fits x0) (hS : w.ShapedOpen Tryd.prog) :
    Calls Tryd.prog 3 #[.slice A0 x0.length c0] w fun e w' => e = .returned (.bool true) ∧ Ext w w' := by
  by_cases hbig : 1048576 < x0.length
  · clear g0 hS
    go_enter Tryd.func3, Tryd.ntmps3
    go_wp2
    go_ret
    exact ⟨rfl, Ext.refl _⟩
  · have hn : x0.length ≤ 1048576 := by omega
    obtain ⟨m, hm⟩ := Tryd.laysM155.s1_3 w hS
    exact core_FnExactFormatBar w A0 c0 x0 g0 (fmtF barB 43 x0) m hm
      (show szS x0 ≤ 1048576 from by unfold szS; (try dsimp only); omega)
      (Lib.hid fun w _ _ _ h => by obtain ⟨A, c, rfl, hr, hc⟩ := h.rdc2; exact fSB_any A c _ w hr hn)
      (Lib.hid fun w hm _ _ _ h => by obtain ⟨A, c, rfl, hr, hc⟩ := h.rdc2; exact fIB_any A c _ m w hm hr hn)
set_option maxRecDepth 100000 in
theorem lifted_FnExactFormatBar (os : Os) (started : os.Started) (H : Type) (enc : TypeId × Value → H) :
    ReturnsInHanded {} Tryd.checked os 3 .any (fun w args => (Rows.fnExactFormatBarSpec.pre enc Tryd.prog Tryd.f3 Rows.fnExactFormatBarRow.domain false w args ∧ laidMetH Tryd.prog Rows.fnExactFormatBarRow.laid w) ∧ sizedMet enc Tryd.prog Tryd.f3 (OpenSpec.ofChange Rows.fnExactFormatBarSpec) false w args) (Rows.fnExactFormatBarSpec.post enc Tryd.prog Tryd.f3 false true false false) := by
  refine handed_both (C := Tryd.checked) (X := fun w _ => laidMetH Tryd.prog Rows.fnExactFormatBarRow.laid w) (fun _ _ _ hh h => h.of_heap hh) own started (by kernel_rfl) Tryd.func3
    (ChangeSpec.witness_shaped (enc := enc) (C := Tryd.checked) (os := os) (X := fun w _ => laidMetH Tryd.prog Rows.fnExactFormatBarRow.laid w) false (World.laidAll Tryd.prog os Rows.fnExactFormatBarRow.laid) #[.slice none 0 0] 8 (World.laidAll_os _ _ _)
      (World.shaped_of_ZipB (by kernel_rfl) (by kernel_rfl)) (by kernel_rfl) (by kernel_rfl) (by kernel_rfl)
      (by rw [MakeChecks.laidMetH_plain _ _ _ (by kernel_rfl)]; exact laidMet_laidAll _ (by kernel_rfl) (by kernel_rfl))) ?_
  intro W base args ds gs before hval0 hW hcnd _ hL _
  have hval : ∀ (j : Nat) t v, Tryd.f3.params[j]? = some t → args[j]? = some v → Value.okWide Tryd.prog W .any base t v := hval0
  have hW' := hW
  obtain ⟨p, q, hA0, hV, rfl, hfz, hnd⟩ := hW
  have hA : DataW.TrodAll enc Tryd.prog W 0 (fun _ => true) true Tryd.f3.params.toList args.toList ds p := hA0
  rw [Tryd.params3] at hA hval
  obtain ⟨v0, vs0, d0, ds0, p0, q0, hargs, rfl, rfl, h0, r0⟩ := trodAll_cons hA
  obtain ⟨rfl, rfl, rfl⟩ := trodAll_nil r0
  obtain rfl : args = #[v0] := by cases args; simp_all
  obtain ⟨rfl, rfl⟩ := trodVars_none hV
  have k0 := h0
  have lt0 : ∀ x ∈ p0, x.block < W.heap.size := by obtain ⟨m, hm⟩ := k0; exact DataW.trod_lt m _ _ _ hm
  obtain ⟨A0, c0, x0, rfl, g0⟩ := view_ints Tryd.underlying22 Tryd.underlying3 (by kernel_rfl) (hval 0 22 v0 rfl rfl) h0
  clear hA0 hval0
  refine (walk_FnExactFormatBar W A0 c0 x0 g0 hL.2).mono fun e W' ⟨he, bel⟩ => ?_
  subst he
  exact ⟨_, rfl, _, _, _, [], _, [], hW', trodAll_mk1 (shut_bool Tryd.underlying4 _), (trodAll_cons_mk (Below.trod laidOut (by kernel_rfl) (of_decide_eq_true (by kernel_rfl)) k0 bel lt0) trodAll_mk0), rfl, Below.frame bel _, fun h => by cases h⟩

theorem said_FnExactFormatBar : Rows.FnExactFormatBarSaid :=
  OpenClaim.holds_of_wide 3 Tryd.f3 rfl rfl rfl rfl rfl rfl rfl ⟨rfl, rfl, rfl, rfl, rfl⟩ rfl rfl rfl rfl rfl (by kernel_rfl) Tryd.func3 (by kernel_rfl)
    (of_decide_eq_true (by kernel_rfl)) (by unfold Func.isWrapper; first | (rw [if_pos (by decide +kernel)]; kernel_rfl) | (rw [if_neg (by decide +kernel)]; exact ⟨rfl, rfl⟩))
    (fun os started H enc _ => lifted_FnExactFormatBar os started H enc)
theorem proved_FnExactFormatBar : Rows.FnExactFormatBarCardSaid :=
  Claim7.holds_tied_plain_at .later [] [.data, .data, .data, .data, .pinned] true (true, "8c0796aab9a44084d485c9e03684c36b3620095f33c5844c46b39b182c527a9b") true said_FnExactFormatBar (fun _ h => by cases h) (by kernel_rfl) (fun _ h => by cases h) fnExactFormatBar_row_tie rfl ⟨rfl, rfl⟩ (by kernel_rfl) rfl
    (fun f fn hf hfn => by
      obtain rfl : f = 3 := Option.some.inj ((show Tryd.prog.funcNamed "loop.example/g03204/laws.FnExactFormatBar" = some 3 by kernel_rfl).symm.trans hf) |>.symm
      obtain rfl : fn = Tryd.f3 := (Option.some.inj (Tryd.func3.symm.trans hfn)).symm
      exact ⟨by kernel_rfl, fun j t ht => by
        rw [Tryd.params3] at ht
        have hm : t ∈ [22] := by simpa using Array.mem_of_getElem? ht
        have hall : ([22].all fun u => !Tryd.prog.wantsStandIn u) = true := by kernel_rfl
        exact (show Tryd.prog.wantsStandIn t = false by simpa using List.all_eq_true.1 hall t hm)⟩)
    (by kernel_rfl)
end Go.Proofs.YtedfmjijemcpaaaDoor
