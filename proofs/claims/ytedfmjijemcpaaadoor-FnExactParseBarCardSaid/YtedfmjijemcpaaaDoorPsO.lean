/- The reference's ParseInt at one digit. -/
import Derived.Test.YtedfmjijemcpaaaDoorPsH
namespace Go.Proofs.YtedfmjijemcpaaaDoor
open Go.RowKit

set_option maxHeartbeats 1000000 in
theorem piS_d2 (w : World) :
    Calls Tryd.prog 28 #[.string (dg 2)] w fun e w' => e = .returned (.tuple #[.int .i64 2, .bool true]) ∧ Ext w w' := by
  obtain ⟨s, hs⟩ : ∃ s, s = dg 2 := ⟨_, rfl⟩
  have CD : Hid (Calls Tryd.prog 38 #[.string s] w fun e w' => e = .returned (.bool true) ∧ w = w') := by rw [hs]; exact dgS_one 2 w (by omega)
  have CF : Hid (∀ W : World, Calls Tryd.prog 20 #[.int .i64 2] W fun e w' => e = .returned (.string s) ∧ Ext W w') := fun W => by rw [hs]; exact fiS_any 2 W (by omega)
  have hsz : s.size = 1 := by rw [hs]; rfl
  have h0 : s[0] = (48 + 2 : UInt8) := by subst hs; rfl
  have hne : (s.toList == s.toList) = true := beq_self_eq_true _
  rw [← hs]
  clear hs
  go_enter Tryd.func28, Tryd.ntmps28
  go_wp2_with fail
  refine CD.out.mono ?_
  rintro e w1 ⟨rfl, rfl⟩
  go_wp2_with fail
  go_loopw [6, 7] (fun m i wr => ∃ (j : Nat), j ≤ 1 ∧ i = .int .i64 j ∧ m = .int .i64 (-(2 * (j : Int))) ∧ w = wr) (fun _ i _ => 1 - (intOf i).toNat)
  case atStart => exact ⟨0, by omega, rfl, rfl, rfl⟩
  case round =>
    obtain ⟨j, hj, rfl, rfl, rfl⟩ := hrel
    by_cases hlt : j = 0
    · subst hlt
      go_wp2_with fail
      go_roundw
      case rel => exact ⟨1, by omega, rfl, rfl, trivial⟩
      case measure => simp [intOf]
    · obtain rfl : j = 1 := by omega
      go_wp2_with fail
      refine (CF.out _).mono ?_
      rintro e w2 ⟨rfl, he⟩
      have HE := Lib.hid he
      clear he
      go_wp2_with fail
      go_ret2
      exact ⟨rfl, HE.out⟩
set_option maxHeartbeats 1000000 in
theorem piS_d3 (w : World) :
    Calls Tryd.prog 28 #[.string (dg 3)] w fun e w' => e = .returned (.tuple #[.int .i64 3, .bool true]) ∧ Ext w w' := by
  obtain ⟨s, hs⟩ : ∃ s, s = dg 3 := ⟨_, rfl⟩
  have CD : Hid (Calls Tryd.prog 38 #[.string s] w fun e w' => e = .returned (.bool true) ∧ w = w') := by rw [hs]; exact dgS_one 3 w (by omega)
  have CF : Hid (∀ W : World, Calls Tryd.prog 20 #[.int .i64 3] W fun e w' => e = .returned (.string s) ∧ Ext W w') := fun W => by rw [hs]; exact fiS_any 3 W (by omega)
  have hsz : s.size = 1 := by rw [hs]; rfl
  have h0 : s[0] = (48 + 3 : UInt8) := by subst hs; rfl
  have hne : (s.toList == s.toList) = true := beq_self_eq_true _
  rw [← hs]
  clear hs
  go_enter Tryd.func28, Tryd.ntmps28
  go_wp2_with fail
  refine CD.out.mono ?_
  rintro e w1 ⟨rfl, rfl⟩
  go_wp2_with fail
  go_loopw [6, 7] (fun m i wr => ∃ (j : Nat), j ≤ 1 ∧ i = .int .i64 j ∧ m = .int .i64 (-(3 * (j : Int))) ∧ w = wr) (fun _ i _ => 1 - (intOf i).toNat)
  case atStart => exact ⟨0, by omega, rfl, rfl, rfl⟩
  case round =>
    obtain ⟨j, hj, rfl, rfl, rfl⟩ := hrel
    by_cases hlt : j = 0
    · subst hlt
      go_wp2_with fail
      go_roundw
      case rel => exact ⟨1, by omega, rfl, rfl, trivial⟩
      case measure => simp [intOf]
    · obtain rfl : j = 1 := by omega
      go_wp2_with fail
      refine (CF.out _).mono ?_
      rintro e w2 ⟨rfl, he⟩
      have HE := Lib.hid he
      clear he
      go_wp2_with fail
      go_ret2
      exact ⟨rfl, HE.out⟩
set_option maxHeartbeats 1000000 in
theorem piS_d4 (w : World) :
    Calls Tryd.prog 28 #[.string (dg 4)] w fun e w' => e = .returned (.tuple #[.int .i64 4, .bool true]) ∧ Ext w w' := by
  obtain ⟨s, hs⟩ : ∃ s, s = dg 4 := ⟨_, rfl⟩
  have CD : Hid (Calls Tryd.prog 38 #[.string s] w fun e w' => e = .returned (.bool true) ∧ w = w') := by rw [hs]; exact dgS_one 4 w (by omega)
  have CF : Hid (∀ W : World, Calls Tryd.prog 20 #[.int .i64 4] W fun e w' => e = .returned (.string s) ∧ Ext W w') := fun W => by rw [hs]; exact fiS_any 4 W (by omega)
  have hsz : s.size = 1 := by rw [hs]; rfl
  have h0 : s[0] = (48 + 4 : UInt8) := by subst hs; rfl
  have hne : (s.toList == s.toList) = true := beq_self_eq_true _
  rw [← hs]
  clear hs
  go_enter Tryd.func28, Tryd.ntmps28
  go_wp2_with fail
  refine CD.out.mono ?_
  rintro e w1 ⟨rfl, rfl⟩
  go_wp2_with fail
  go_loopw [6, 7] (fun m i wr => ∃ (j : Nat), j ≤ 1 ∧ i = .int .i64 j ∧ m = .int .i64 (-(4 * (j : Int))) ∧ w = wr) (fun _ i _ => 1 - (intOf i).toNat)
  case atStart => exact ⟨0, by omega, rfl, rfl, rfl⟩
  case round =>
    obtain ⟨j, hj, rfl, rfl, rfl⟩ := hrel
    by_cases hlt : j = 0
    · subst hlt
      go_wp2_with fail
      go_roundw
      case rel => exact ⟨1, by omega, rfl, rfl, trivial⟩
      case measure => simp [intOf]
    · obtain rfl : j = 1 := by omega
      go_wp2_with fail
      refine (CF.out _).mono ?_
      rintro e w2 ⟨rfl, he⟩
      have HE := Lib.hid he
      clear he
      go_wp2_with fail
      go_ret2
      exact ⟨rfl, HE.out⟩
set_option maxHeartbeats 1000000 in
theorem piS_d5 (w : World) :
    Calls Tryd.prog 28 #[.string (dg 5)] w fun e w' => e = .returned (.tuple #[.int .i64 5, .bool true]) ∧ Ext w w' := by
  obtain ⟨s, hs⟩ : ∃ s, s = dg 5 := ⟨_, rfl⟩
  have CD : Hid (Calls Tryd.prog 38 #[.string s] w fun e w' => e = .returned (.bool true) ∧ w = w') := by rw [hs]; exact dgS_one 5 w (by omega)
  have CF : Hid (∀ W : World, Calls Tryd.prog 20 #[.int .i64 5] W fun e w' => e = .returned (.string s) ∧ Ext W w') := fun W => by rw [hs]; exact fiS_any 5 W (by omega)
  have hsz : s.size = 1 := by rw [hs]; rfl
  have h0 : s[0] = (48 + 5 : UInt8) := by subst hs; rfl
  have hne : (s.toList == s.toList) = true := beq_self_eq_true _
  rw [← hs]
  clear hs
  go_enter Tryd.func28, Tryd.ntmps28
  go_wp2_with fail
  refine CD.out.mono ?_
  rintro e w1 ⟨rfl, rfl⟩
  go_wp2_with fail
  go_loopw [6, 7] (fun m i wr => ∃ (j : Nat), j ≤ 1 ∧ i = .int .i64 j ∧ m = .int .i64 (-(5 * (j : Int))) ∧ w = wr) (fun _ i _ => 1 - (intOf i).toNat)
  case atStart => exact ⟨0, by omega, rfl, rfl, rfl⟩
  case round =>
    obtain ⟨j, hj, rfl, rfl, rfl⟩ := hrel
    by_cases hlt : j = 0
    · subst hlt
      go_wp2_with fail
      go_roundw
      case rel => exact ⟨1, by omega, rfl, rfl, trivial⟩
      case measure => simp [intOf]
    · obtain rfl : j = 1 := by omega
      go_wp2_with fail
      refine (CF.out _).mono ?_
      rintro e w2 ⟨rfl, he⟩
      have HE := Lib.hid he
      clear he
      go_wp2_with fail
      go_ret2
      exact ⟨rfl, HE.out⟩
set_option maxHeartbeats 1000000 in
theorem piS_d6 (w : World) :
    Calls Tryd.prog 28 #[.string (dg 6)] w fun e w' => e = .returned (.tuple #[.int .i64 6, .bool true]) ∧ Ext w w' := by
  obtain ⟨s, hs⟩ : ∃ s, s = dg 6 := ⟨_, rfl⟩
  have CD : Hid (Calls Tryd.prog 38 #[.string s] w fun e w' => e = .returned (.bool true) ∧ w = w') := by rw [hs]; exact dgS_one 6 w (by omega)
  have CF : Hid (∀ W : World, Calls Tryd.prog 20 #[.int .i64 6] W fun e w' => e = .returned (.string s) ∧ Ext W w') := fun W => by rw [hs]; exact fiS_any 6 W (by omega)
  have hsz : s.size = 1 := by rw [hs]; rfl
  have h0 : s[0] = (48 + 6 : UInt8) := by subst hs; rfl
  have hne : (s.toList == s.toList) = true := beq_self_eq_true _
  rw [← hs]
  clear hs
  go_enter Tryd.func28, Tryd.ntmps28
  go_wp2_with fail
  refine CD.out.mono ?_
  rintro e w1 ⟨rfl, rfl⟩
  go_wp2_with fail
  go_loopw [6, 7] (fun m i wr => ∃ (j : Nat), j ≤ 1 ∧ i = .int .i64 j ∧ m = .int .i64 (-(6 * (j : Int))) ∧ w = wr) (fun _ i _ => 1 - (intOf i).toNat)
  case atStart => exact ⟨0, by omega, rfl, rfl, rfl⟩
  case round =>
    obtain ⟨j, hj, rfl, rfl, rfl⟩ := hrel
    by_cases hlt : j = 0
    · subst hlt
      go_wp2_with fail
      go_roundw
      case rel => exact ⟨1, by omega, rfl, rfl, trivial⟩
      case measure => simp [intOf]
    · obtain rfl : j = 1 := by omega
      go_wp2_with fail
      refine (CF.out _).mono ?_
      rintro e w2 ⟨rfl, he⟩
      have HE := Lib.hid he
      clear he
      go_wp2_with fail
      go_ret2
      exact ⟨rfl, HE.out⟩
set_option maxHeartbeats 1000000 in
theorem piS_d7 (w : World) :
    Calls Tryd.prog 28 #[.string (dg 7)] w fun e w' => e = .returned (.tuple #[.int .i64 7, .bool true]) ∧ Ext w w' := by
  obtain ⟨s, hs⟩ : ∃ s, s = dg 7 := ⟨_, rfl⟩
  have CD : Hid (Calls Tryd.prog 38 #[.string s] w fun e w' => e = .returned (.bool true) ∧ w = w') := by rw [hs]; exact dgS_one 7 w (by omega)
  have CF : Hid (∀ W : World, Calls Tryd.prog 20 #[.int .i64 7] W fun e w' => e = .returned (.string s) ∧ Ext W w') := fun W => by rw [hs]; exact fiS_any 7 W (by omega)
  have hsz : s.size = 1 := by rw [hs]; rfl
  have h0 : s[0] = (48 + 7 : UInt8) := by subst hs; rfl
  have hne : (s.toList == s.toList) = true := beq_self_eq_true _
  rw [← hs]
  clear hs
  go_enter Tryd.func28, Tryd.ntmps28
  go_wp2_with fail
  refine CD.out.mono ?_
  rintro e w1 ⟨rfl, rfl⟩
  go_wp2_with fail
  go_loopw [6, 7] (fun m i wr => ∃ (j : Nat), j ≤ 1 ∧ i = .int .i64 j ∧ m = .int .i64 (-(7 * (j : Int))) ∧ w = wr) (fun _ i _ => 1 - (intOf i).toNat)
  case atStart => exact ⟨0, by omega, rfl, rfl, rfl⟩
  case round =>
    obtain ⟨j, hj, rfl, rfl, rfl⟩ := hrel
    by_cases hlt : j = 0
    · subst hlt
      go_wp2_with fail
      go_roundw
      case rel => exact ⟨1, by omega, rfl, rfl, trivial⟩
      case measure => simp [intOf]
    · obtain rfl : j = 1 := by omega
      go_wp2_with fail
      refine (CF.out _).mono ?_
      rintro e w2 ⟨rfl, he⟩
      have HE := Lib.hid he
      clear he
      go_wp2_with fail
      go_ret2
      exact ⟨rfl, HE.out⟩
theorem piS_any (s : ByteArray) (w : World) (hs : s.size ≤ 1048576) : Calls Tryd.prog 28 #[.string s] w (PiS w s.data.toList) := by
  by_cases hb : Bad s.data.toList
  · exact piS_bad s w hs hb
  · unfold Bad at hb
    obtain ⟨x, hb⟩ := Classical.not_forall.1 hb
    obtain ⟨hx, hb⟩ := Classical.not_imp.1 hb
    have hl : s.data.toList = [dgb x] := Classical.not_not.1 hb
    have hs2 : s = dg x := ByteArray.ext (Array.ext' hl)
    have hG : Good s.data.toList x := ⟨fun _ => hl, fun y hy e => dgb_inj (by omega) (by omega) (by rw [hl] at e; exact (List.cons.inj e).1)⟩
    rw [hl] at hG
    rw [hl, hs2]
    have : x = 2 ∨ x = 3 ∨ x = 4 ∨ x = 5 ∨ x = 6 ∨ x = 7 := by omega
    rcases this with rfl | rfl | rfl | rfl | rfl | rfl
    · exact (piS_d2 w).mono fun e w' ⟨he, hw⟩ => ⟨_, _, he, fun _ => hG, fun h => (nomatch h), hw⟩
    · exact (piS_d3 w).mono fun e w' ⟨he, hw⟩ => ⟨_, _, he, fun _ => hG, fun h => (nomatch h), hw⟩
    · exact (piS_d4 w).mono fun e w' ⟨he, hw⟩ => ⟨_, _, he, fun _ => hG, fun h => (nomatch h), hw⟩
    · exact (piS_d5 w).mono fun e w' ⟨he, hw⟩ => ⟨_, _, he, fun _ => hG, fun h => (nomatch h), hw⟩
    · exact (piS_d6 w).mono fun e w' ⟨he, hw⟩ => ⟨_, _, he, fun _ => hG, fun h => (nomatch h), hw⟩
    · exact (piS_d7 w).mono fun e w' ⟨he, hw⟩ => ⟨_, _, he, fun _ => hG, fun h => (nomatch h), hw⟩
end Go.Proofs.YtedfmjijemcpaaaDoor
