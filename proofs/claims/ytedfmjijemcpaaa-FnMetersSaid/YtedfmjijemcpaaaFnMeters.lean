/- FnMeters: for every code the law answers true: weights count the divisions, and beats on every pulse are not syncopated. No conditions. -/
import Derived.Test.YtedfmjijemcpaaaRow
import Derived.Test.YtedfmjijemcpaaaFmC
namespace Go.Proofs.Ytedfmjijemcpaaa
open Go.ChangeShapes Go.WideShapes Go.ChangeAt Go.RowKit Go.Joins

set_option maxRecDepth 100000 in
theorem walk_FnMeters (w : World) (A0 : Option Addr) (c0 : Nat) (x0 : List Int) (g0 : Rd w 1 A0 x0.length (x0.map (Value.int .u8)) ∧ x0.length ≤ c0 ∧ c0 ≤ maxLen ∧ ∀ x ∈ x0, 0 ≤ x ∧ x ≤ 255) :
    Calls Try.prog 3 #[.slice A0 x0.length c0] w fun e w' => e = .returned (.bool true) ∧ Ext w w' := by
  obtain ⟨hr, hlc, hcm, _⟩ := g0
  by_cases hl : x0.length ≤ 1048576
  · refine core_FnMeters w A0 c0 x0.length hl (fun m W h0 h1 he => ?_) (fun m N W h0 h1 h2 h3 he => ?_)
    · obtain ⟨M, rfl⟩ := Int.eq_ofNat_of_zero_le h0
      exact makeMeter_any x0.length c0 M A0 x0 W (hr.ext he) hl (by omega)
    · obtain ⟨M, rfl⟩ := Int.eq_ofNat_of_zero_le h0
      exact makeOf_any x0.length c0 M N A0 x0 W (hr.ext he) hl (by omega) h2 h3
  · obtain ⟨l, hll⟩ : ∃ l, l = x0.length := ⟨_, rfl⟩
    have hl2 : (1048576 : Int) < (l : Int) := by omega
    have hl3 : (l : Int) ≤ 9223372036854775807 := by unfold maxLen at hcm; omega
    rw [← hll]
    clear hll hr hlc hcm hl
    go_enter Try.func3, Try.ntmps3
    go_wp2_with fail
    go_ret
    exact ⟨rfl, Ext.refl _⟩
set_option maxRecDepth 100000 in
theorem lifted_FnMeters (os : Os) (started : os.Started) (H : Type) (enc : TypeId × Value → H) :
    ReturnsInHanded {} Try.checked os 3 .any (Rows.fnMetersSpec.pre6 enc Try.prog Try.f3 Rows.fnMetersRow.domain false) (Rows.fnMetersSpec.post enc Try.prog Try.f3 false true false false) := by
  refine returnsInHanded_of_change (C := Try.checked) own started (by kernel_rfl) Try.func3
    (ChangeSpec.witness6 (enc := enc) (C := Try.checked) false ⟨#[], #[.slice none 0 0], []⟩ 8 (by kernel_rfl) (by kernel_rfl) (by kernel_rfl) (by kernel_rfl)) ?_
  intro W base args ds gs before hval0 hW hcnd _
  have hval : ∀ (j : Nat) t v, Try.f3.params[j]? = some t → args[j]? = some v → Value.okWide Try.prog W .any base t v := hval0
  have hW' := hW
  obtain ⟨p, q, hA0, hV, rfl, hfz, hnd⟩ := hW
  have hA : DataW.TrodAll enc Try.prog W 0 (fun _ => true) true Try.f3.params.toList args.toList ds p := hA0
  rw [Try.params3] at hA hval
  obtain ⟨v0, vs0, d0, ds0, p0, q0, hargs, rfl, rfl, h0, r0⟩ := trodAll_cons hA
  obtain ⟨rfl, rfl, rfl⟩ := trodAll_nil r0
  obtain rfl : args = #[v0] := by cases args; simp_all
  obtain ⟨rfl, rfl⟩ := trodVars_none hV
  have k0 := h0
  have lt0 : ∀ x ∈ p0, x.block < W.heap.size := by obtain ⟨m, hm⟩ := k0; exact DataW.trod_lt m _ _ _ hm
  obtain ⟨A0, c0, x0, rfl, g0⟩ := view_bytes Try.underlying22 Try.underlying5 (by kernel_rfl) (hval 0 22 v0 rfl rfl) h0
  clear hA0 hval0
  refine (walk_FnMeters W A0 c0 x0 g0).mono fun e W' ⟨he, bel⟩ => ?_
  subst he
  exact ⟨_, rfl, _, _, _, [], _, [], hW', trodAll_mk1 (shut_bool Try.underlying4 _), (trodAll_cons_mk (Below.trod laidOut (by kernel_rfl) (of_decide_eq_true (by kernel_rfl)) k0 bel lt0) trodAll_mk0), rfl, Below.frame bel _, fun h => by cases h⟩

theorem proved_FnMeters : Rows.FnMetersSaid :=
  OpenClaim.holds_of_wide 3 Try.f3 rfl rfl rfl rfl rfl rfl rfl ⟨rfl, rfl, rfl, rfl, rfl⟩ rfl rfl rfl rfl rfl (by kernel_rfl) Try.func3 (by kernel_rfl)
    (of_decide_eq_true (by kernel_rfl)) (by unfold Func.isWrapper; first | (rw [if_pos (by decide +kernel)]; kernel_rfl) | (rw [if_neg (by decide +kernel)]; exact ⟨rfl, rfl⟩))
    (fun os started H enc _ => lifted_FnMeters os started H enc)
end Go.Proofs.Ytedfmjijemcpaaa
