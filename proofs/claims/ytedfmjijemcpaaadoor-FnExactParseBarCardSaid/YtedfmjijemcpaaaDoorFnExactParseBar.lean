/- FnExactParseBar: for all arguments the law answers true: impl.ParseBar returns what the reference's function of that name returns, leaves its arguments as they were, and its result shares no memory. No conditions. -/
import Derived.Test.YtedfmjijemcpaaaDoorRow
import Derived.Test.YtedfmjijemcpaaaDoorCards
import Derived.Test.YtedfmjijemcpaaaDoorTie
import Derived.LaidMore
import Derived.Lay
import Derived.SevenTiedAt
import Derived.Stop.Joined
import Derived.Test.YtedfmjijemcpaaaDoorHanded
import Derived.Test.YtedfmjijemcpaaaDoorOwn
import Derived.Test.YtedfmjijemcpaaaDoorPsW
namespace Go.Proofs.YtedfmjijemcpaaaDoor
open Go.ChangeShapes Go.WideShapes Go.ChangeAt Go.RowKit Go.Joins

set_option maxHeartbeats 1000000 in
/-- The law's walk, over contracts of the two functions. -/
theorem core_FnExactParseBar (w : World) (x0 : ByteArray) (hn : x0.size ≤ 1048576)
    (y0 : List Int) (y1 : Bool)
    (zy0 : Hid (szS y0 ≤ 1099511627776))
    (CS : Hid (∀ w : World, Calls Tryd.prog 13 #[.string x0] w (fun e w' => ∃ v0, e = .returned (.tuple #[v0, .bool y1]) ∧ OwnS w' w.heap.size w'.heap.size v0 y0 ∧ Ext w w')))
    (m : Int) (HP : Hid (PW w)) (HM : Hid (w.cell? ⟨0, 0, none⟩ = some (.int .i64 m)))
    (CI : Hid (∀ w : World, PW w → w.cell? ⟨0, 0, none⟩ = some (.int .i64 m) → Calls Tryd.prog 14 #[.string x0] w (fun e w' => ∃ v0, e = .returned (.tuple #[v0, .bool y1]) ∧ OwnS w' w.heap.size w'.heap.size v0 y0 ∧ Ext w w'))) :
    Calls Tryd.prog 5 #[.string x0] w fun e w' => e = .returned (.bool true) ∧ Ext w w' := by
  go_enter Tryd.func5, Tryd.ntmps5
  go_wp2_with fail
  refine (CS.out _).mono ?_
  rintro e w1 ⟨vw0, rfl, o1_0, e1⟩
  have Ovw0_1 := Lib.hid o1_0
  clear o1_0
  have X1 : Hid (Ext w w1) := (Ext.refl w).trans e1
  have S1 : Hid (w.heap.size ≤ w1.heap.size) := X1.out.size
  clear e1
  go_wp2_with fail
  refine (CI.out _ (HP.out.ext X1.out) (X1.out.cell HM.out)).mono ?_
  rintro e w2 ⟨vg0, rfl, o2_0, e2⟩
  have Ovg0_2 := Lib.hid o2_0
  clear o2_0
  have X2 : Hid (Ext w w2) := X1.out.trans e2
  have S2 : Hid (w1.heap.size ≤ w2.heap.size) := e2.size
  have Ovw0_2 := Lib.hid (Ovw0_1.out.fr e2.fr (Or.inr (Nat.zero_le _)))
  clear Ovw0_1
  clear e2
  go_wp2_with fail
  refine (eqS_law Ovg0_2.out Ovw0_2.out (Nat.le_trans zy0.out (by omega))).mono ?_
  rintro e w3 ⟨rfl, e3⟩
  have X3 : Hid (Ext w w3) := X2.out.trans e3
  have S3 : Hid (w2.heap.size ≤ w3.heap.size) := e3.size
  have Ovw0_3 := Lib.hid (Ovw0_2.out.fr e3.fr (Or.inr (Nat.zero_le _)))
  have Ovg0_3 := Lib.hid (Ovg0_2.out.fr e3.fr (Or.inr (Nat.zero_le _)))
  clear Ovw0_2 Ovg0_2
  clear e3
  go_wp2_with fail
  refine (markS_law Ovg0_3.out _ (by have := zy0.out; omega) (by have := zy0.out; omega) (Nat.le_trans zy0.out (by omega))).mono ?_
  rintro e w4 ⟨rfl, o4, f4⟩
  have Ovg0_4 := Lib.hid o4
  clear o4
  have X4 : Hid (Ext w w4) := X3.out.then_fr f4 (by have := S1.out; have := S2.out; have := S3.out; exact (by omega))
  have S4 : Hid (w3.heap.size ≤ w4.heap.size) := f4.size
  have Ovw0_4 := Lib.hid (Ovw0_3.out.fr f4 ((by have := S1.out; have := S2.out; have := S3.out; have := S4.out; omega)))
  clear Ovw0_3
  clear f4
  clear Ovg0_3
  go_wp2_with fail
  refine (heldS_law _ Ovg0_4.out (by have := zy0.out; omega) (by have := zy0.out; omega) (Nat.le_trans zy0.out (by omega))).mono ?_
  rintro e w5 ⟨rfl, e5⟩
  have X5 : Hid (Ext w w5) := X4.out.trans e5
  have S5 : Hid (w4.heap.size ≤ w5.heap.size) := e5.size
  have Ovw0_5 := Lib.hid (Ovw0_4.out.fr e5.fr (Or.inr (Nat.zero_le _)))
  have Ovg0_5 := Lib.hid (Ovg0_4.out.fr e5.fr (Or.inr (Nat.zero_le _)))
  clear Ovw0_4 Ovg0_4
  clear e5
  go_wp2_with fail
  refine (CI.out _ (HP.out.ext X5.out) (X5.out.cell HM.out)).mono ?_
  rintro e w6 ⟨vh0, rfl, o6_0, e6⟩
  have Ovh0_6 := Lib.hid o6_0
  clear o6_0
  have X6 : Hid (Ext w w6) := X5.out.trans e6
  have S6 : Hid (w5.heap.size ≤ w6.heap.size) := e6.size
  have Ovw0_6 := Lib.hid (Ovw0_5.out.fr e6.fr (Or.inr (Nat.zero_le _)))
  have Ovg0_6 := Lib.hid (Ovg0_5.out.fr e6.fr (Or.inr (Nat.zero_le _)))
  clear Ovw0_5 Ovg0_5
  clear e6
  go_wp2_with fail
  refine (eqS_law Ovh0_6.out Ovw0_6.out (Nat.le_trans zy0.out (by omega))).mono ?_
  rintro e w7 ⟨rfl, e7⟩
  have X7 : Hid (Ext w w7) := X6.out.trans e7
  have S7 : Hid (w6.heap.size ≤ w7.heap.size) := e7.size
  have Ovw0_7 := Lib.hid (Ovw0_6.out.fr e7.fr (Or.inr (Nat.zero_le _)))
  have Ovg0_7 := Lib.hid (Ovg0_6.out.fr e7.fr (Or.inr (Nat.zero_le _)))
  have Ovh0_7 := Lib.hid (Ovh0_6.out.fr e7.fr (Or.inr (Nat.zero_le _)))
  clear Ovw0_6 Ovg0_6 Ovh0_6
  clear e7
  clear Ovh0_7
  clear Ovw0_7
  go_wp2_with fail
  refine (heldS_law _ Ovg0_7.out (by have := zy0.out; omega) (by have := zy0.out; omega) (Nat.le_trans zy0.out (by omega))).mono ?_
  rintro e w8 ⟨rfl, e8⟩
  have X8 : Hid (Ext w w8) := X7.out.trans e8
  have S8 : Hid (w7.heap.size ≤ w8.heap.size) := e8.size
  have Ovg0_8 := Lib.hid (Ovg0_7.out.fr e8.fr (Or.inr (Nat.zero_le _)))
  clear Ovg0_7
  clear e8
  go_wp2_with fail
  go_ret
  exact ⟨rfl, X8.out⟩

theorem walk_FnExactParseBar (w : World) (x0 : ByteArray) (_g0 : x0.size ≤ maxLen) (hL : laidMetH Tryd.prog Rows.fnExactParseBarRow.laid w) (hS : w.ShapedOpen Tryd.prog) :
    Calls Tryd.prog 5 #[.string x0] w fun e w' => e = .returned (.bool true) ∧ Ext w w' := by
  by_cases hbig : 1048576 < x0.size
  · clear hS hL
    go_enter Tryd.func5, Tryd.ntmps5
    go_wp2
    go_ret
    exact ⟨rfl, Ext.refl _⟩
  · have hn : x0.size ≤ 1048576 := by omega
    obtain ⟨m, hm⟩ := Tryd.laysM155.s1_3 w hS
    have hp : PW w := PW.of_laid hL
    have hl := psF_len barB_dgs 43 x0.data.toList
    exact core_FnExactParseBar w x0 hn (psF barB 43 x0.data.toList) (psB barB 43 x0.data.toList)
      (show szS _ ≤ 1099511627776 from by unfold szS; omega)
      (Lib.hid fun w => (psSB_any x0 w hn).mono fun _ _ h => h.own)
      m (Lib.hid hp) (Lib.hid hm)
      (Lib.hid fun w hp hm => (psIB_any x0 m w hm hn hp).mono fun _ _ h => h.own)
set_option maxRecDepth 100000 in
theorem lifted_FnExactParseBar (os : Os) (started : os.Started) (H : Type) (enc : TypeId × Value → H) :
    ReturnsInHanded {} Tryd.checked os 5 .any (fun w args => (Rows.fnExactParseBarSpec.pre enc Tryd.prog Tryd.f5 Rows.fnExactParseBarRow.domain false w args ∧ laidMetH Tryd.prog Rows.fnExactParseBarRow.laid w) ∧ sizedMet enc Tryd.prog Tryd.f5 (OpenSpec.ofChange Rows.fnExactParseBarSpec) false w args) (Rows.fnExactParseBarSpec.post enc Tryd.prog Tryd.f5 false true false false) := by
  refine handed_both (C := Tryd.checked) (X := fun w _ => laidMetH Tryd.prog Rows.fnExactParseBarRow.laid w) (fun _ _ _ hh h => h.of_heap hh) own started (by kernel_rfl) Tryd.func5
    (ChangeSpec.witness_shaped (enc := enc) (C := Tryd.checked) (os := os) (X := fun w _ => laidMetH Tryd.prog Rows.fnExactParseBarRow.laid w) false (World.laidAll Tryd.prog os Rows.fnExactParseBarRow.laid) #[.string ByteArray.empty] 8 (World.laidAll_os _ _ _)
      (World.shaped_of_ZipB (by kernel_rfl) (by kernel_rfl)) (by kernel_rfl) (by kernel_rfl) (by kernel_rfl)
      (by rw [MakeChecks.laidMetH_plain _ _ _ (by kernel_rfl)]; exact laidMet_laidAll _ (by kernel_rfl) (by kernel_rfl))) ?_
  intro W base args ds gs before hval0 hW hcnd _ hL _
  have hval : ∀ (j : Nat) t v, Tryd.f5.params[j]? = some t → args[j]? = some v → Value.okWide Tryd.prog W .any base t v := hval0
  have hW' := hW
  obtain ⟨p, q, hA0, hV, rfl, hfz, hnd⟩ := hW
  have hA : DataW.TrodAll enc Tryd.prog W 0 (fun _ => true) true Tryd.f5.params.toList args.toList ds p := hA0
  rw [Tryd.params5] at hA hval
  obtain ⟨v0, vs0, d0, ds0, p0, q0, hargs, rfl, rfl, h0, r0⟩ := trodAll_cons hA
  obtain ⟨rfl, rfl, rfl⟩ := trodAll_nil r0
  obtain rfl : args = #[v0] := by cases args; simp_all
  obtain ⟨rfl, rfl⟩ := trodVars_none hV
  have k0 := h0
  have lt0 : ∀ x ∈ p0, x.block < W.heap.size := by obtain ⟨m, hm⟩ := k0; exact DataW.trod_lt m _ _ _ hm
  obtain ⟨x0, rfl, g0⟩ := view_string Tryd.underlying9 (hval 0 9 v0 rfl rfl) h0
  clear hA0 hval0
  refine (walk_FnExactParseBar W x0 g0 hL.1 hL.2).mono fun e W' ⟨he, bel⟩ => ?_
  subst he
  exact ⟨_, rfl, _, _, _, [], _, [], hW', trodAll_mk1 (shut_bool Tryd.underlying4 _), (trodAll_cons_mk (Below.trod laidOut (by kernel_rfl) (of_decide_eq_true (by kernel_rfl)) k0 bel lt0) trodAll_mk0), rfl, Below.frame bel _, fun h => by cases h⟩

theorem said_FnExactParseBar : Rows.FnExactParseBarSaid :=
  OpenClaim.holds_of_wide 5 Tryd.f5 rfl rfl rfl rfl rfl rfl rfl ⟨rfl, rfl, rfl, rfl, rfl⟩ rfl rfl rfl rfl rfl (by kernel_rfl) Tryd.func5 (by kernel_rfl)
    (of_decide_eq_true (by kernel_rfl)) (by unfold Func.isWrapper; first | (rw [if_pos (by decide +kernel)]; kernel_rfl) | (rw [if_neg (by decide +kernel)]; exact ⟨rfl, rfl⟩))
    (fun os started H enc _ => lifted_FnExactParseBar os started H enc)
theorem proved_FnExactParseBar : Rows.FnExactParseBarCardSaid :=
  Claim7.holds_tied_plain_at .later [] [.data, .data, .data, .data, .sentinel, .sentinel, .pinned] true (true, "8c0796aab9a44084d485c9e03684c36b3620095f33c5844c46b39b182c527a9b") true said_FnExactParseBar (fun _ h => by cases h) (by kernel_rfl) (fun _ h => by cases h) fnExactParseBar_row_tie rfl ⟨rfl, rfl⟩ (by kernel_rfl) rfl
    (fun f fn hf hfn => by
      obtain rfl : f = 5 := Option.some.inj ((show Tryd.prog.funcNamed "loop.example/g03204/laws.FnExactParseBar" = some 5 by kernel_rfl).symm.trans hf) |>.symm
      obtain rfl : fn = Tryd.f5 := (Option.some.inj (Tryd.func5.symm.trans hfn)).symm
      exact ⟨by kernel_rfl, fun j t ht => by
        rw [Tryd.params5] at ht
        have hm : t ∈ [9] := by simpa using Array.mem_of_getElem? ht
        have hall : ([9].all fun u => !Tryd.prog.wantsStandIn u) = true := by kernel_rfl
        exact (show Tryd.prog.wantsStandIn t = false by simpa using List.all_eq_true.1 hall t hm)⟩)
    (by kernel_rfl)
end Go.Proofs.YtedfmjijemcpaaaDoor
