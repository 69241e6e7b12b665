/- FnOrbits: for every code the law answers true: orbits and stabilizers are counted by each other, and necklaces by their rotations. No conditions. -/
import Derived.Test.YtphpdanohooccaaGreatDoorRow
import Derived.Test.YtphpdanohooccaaGreatDoorCards
import Derived.Test.YtphpdanohooccaaGreatDoorTie
import Derived.LaidMore
import Derived.Lay
import Derived.SevenTiedAt
import Derived.Stop.Joined
import Derived.Test.YtphpdanohooccaaGreatDoorFoW
namespace Go.Proofs.YtphpdanohooccaaGreatDoor
open Go.ChangeShapes Go.WideShapes Go.ChangeAt Go.RowKit Go.Joins

set_option maxRecDepth 100000 in
theorem walk_FnOrbits (w : World) (A0 : Option Addr) (c0 : Nat) (x0 : List Int) (g0 : Rd w 1 A0 x0.length (x0.map (Value.int .u8)) ∧ x0.length ≤ c0 ∧ c0 ≤ maxLen ∧ ∀ x ∈ x0, 0 ≤ x ∧ x ≤ 255) :
    Calls Tryz.prog 3 #[.slice A0 x0.length c0] w fun e w' => e = .returned (.bool true) ∧ Ext w w' := by
  obtain ⟨hr, hlc, hcm, _⟩ := g0
  by_cases hl : x0.length ≤ 1048576
  · refine core_FnOrbits w A0 c0 x0.length hl (fun m W h0 h1 he => ?_) ?_
    · obtain ⟨M, rfl⟩ := Int.eq_ofNat_of_zero_le h0
      exact makeNum_any x0.length c0 M A0 x0 W (hr.ext he) hl (by omega)
    · exact makeRhythm_any x0.length c0 A0 x0 w hr hl
  · obtain ⟨l, hll⟩ : ∃ l, l = x0.length := ⟨_, rfl⟩
    have hl2 : (1048576 : Int) < (l : Int) := by omega
    have hl3 : (l : Int) ≤ 9223372036854775807 := by unfold maxLen at hcm; omega
    rw [← hll]
    clear hll hr hlc hcm hl
    go_enter Tryz.func3, Tryz.ntmps3
    try dsimp only [List.append]
    go_wp2_with fail
    go_ret
    exact ⟨rfl, Ext.refl _⟩
set_option maxRecDepth 100000 in
theorem lifted_FnOrbits (os : Os) (started : os.Started) (H : Type) (enc : TypeId × Value → H) :
    ReturnsInHanded {} Tryz.checked os 3 .any (fun w args => (Rows.fnOrbitsSpec.pre enc Tryz.prog Tryz.f3 Rows.fnOrbitsRow.domain false w args ∧ laidMetH Tryz.prog Rows.fnOrbitsRow.laid w) ∧ sizedMet enc Tryz.prog Tryz.f3 (OpenSpec.ofChange Rows.fnOrbitsSpec) false w args) (Rows.fnOrbitsSpec.post enc Tryz.prog Tryz.f3 false true false false) := by
  refine returnsInHanded_of_change_and (C := Tryz.checked) (X := fun w _ => laidMetH Tryz.prog Rows.fnOrbitsRow.laid w) (fun _ _ _ hh h => h.of_heap hh) own started (by kernel_rfl) Tryz.func3
    (ChangeSpec.witness_shaped (enc := enc) (C := Tryz.checked) (os := os) (X := fun w _ => laidMetH Tryz.prog Rows.fnOrbitsRow.laid w) false (World.laidAll Tryz.prog os Rows.fnOrbitsRow.laid) #[.slice none 0 0] 8 (World.laidAll_os _ _ _)
      (World.shaped_of_ZipB (by kernel_rfl) (by kernel_rfl)) (by kernel_rfl) (by kernel_rfl) (by kernel_rfl)
      (by rw [MakeChecks.laidMetH_plain _ _ _ (by kernel_rfl)]; exact laidMet_laidAll _ (by kernel_rfl) (by kernel_rfl))) ?_
  intro W base args ds gs before hval0 hW hcnd _ hL _
  have hval : ∀ (j : Nat) t v, Tryz.f3.params[j]? = some t → args[j]? = some v → Value.okWide Tryz.prog W .any base t v := hval0
  have hW' := hW
  obtain ⟨p, q, hA0, hV, rfl, hfz, hnd⟩ := hW
  have hA : DataW.TrodAll enc Tryz.prog W 0 (fun _ => true) true Tryz.f3.params.toList args.toList ds p := hA0
  rw [Tryz.params3] at hA hval
  obtain ⟨v0, vs0, d0, ds0, p0, q0, hargs, rfl, rfl, h0, r0⟩ := trodAll_cons hA
  obtain ⟨rfl, rfl, rfl⟩ := trodAll_nil r0
  obtain rfl : args = #[v0] := by cases args; simp_all
  obtain ⟨rfl, rfl⟩ := trodVars_none hV
  have k0 := h0
  have lt0 : ∀ x ∈ p0, x.block < W.heap.size := by obtain ⟨m, hm⟩ := k0; exact DataW.trod_lt m _ _ _ hm
  obtain ⟨A0, c0, x0, rfl, g0⟩ := view_bytes Tryz.underlying22 Tryz.underlying5 (by kernel_rfl) (hval 0 22 v0 rfl rfl) h0
  clear hA0 hval0
  refine (walk_FnOrbits W A0 c0 x0 g0).mono fun e W' ⟨he, bel⟩ => ?_
  subst he
  exact ⟨_, rfl, _, _, _, [], _, [], hW', trodAll_mk1 (shut_bool Tryz.underlying4 _), (trodAll_cons_mk (Below.trod laidOut (by kernel_rfl) (of_decide_eq_true (by kernel_rfl)) k0 bel lt0) trodAll_mk0), rfl, Below.frame bel _, fun h => by cases h⟩

theorem said_FnOrbits : Rows.FnOrbitsSaid :=
  OpenClaim.holds_of_wide 3 Tryz.f3 rfl rfl rfl rfl rfl rfl rfl ⟨rfl, rfl, rfl, rfl, rfl⟩ rfl rfl rfl rfl rfl (by kernel_rfl) Tryz.func3 (by kernel_rfl)
    (of_decide_eq_true (by kernel_rfl)) (by unfold Func.isWrapper; first | (rw [if_pos (by decide +kernel)]; kernel_rfl) | (rw [if_neg (by decide +kernel)]; exact ⟨rfl, rfl⟩))
    (fun os started H enc _ => lifted_FnOrbits os started H enc)
theorem proved_FnOrbits : Rows.FnOrbitsCardSaid :=
  Claim7.holds_tied_plain_at .later [] [.data, .pinned] true (true, "a6380814dcdcd6b1310244c3bdb97611aecfb65c1958cb0df4b3dab4b375470e") false said_FnOrbits (fun _ h => by cases h) (by kernel_rfl) (fun _ h => by cases h) fnOrbits_row_tie rfl ⟨rfl, rfl⟩ (by kernel_rfl) rfl
    (fun f fn hf hfn => by
      obtain rfl : f = 3 := Option.some.inj ((show Tryz.prog.funcNamed "loop.example/g03204/laws.FnOrbits" = some 3 by kernel_rfl).symm.trans hf) |>.symm
      obtain rfl : fn = Tryz.f3 := (Option.some.inj (Tryz.func3.symm.trans hfn)).symm
      exact ⟨by kernel_rfl, fun j t ht => by
        rw [Tryz.params3] at ht
        have hm : t ∈ [22] := by simpa using Array.mem_of_getElem? ht
        have hall : ([22].all fun u => !Tryz.prog.wantsStandIn u) = true := by kernel_rfl
        exact (show Tryz.prog.wantsStandIn t = false by simpa using List.all_eq_true.1 hall t hm)⟩)
    (by kernel_rfl)
end Go.Proofs.YtphpdanohooccaaGreatDoor
