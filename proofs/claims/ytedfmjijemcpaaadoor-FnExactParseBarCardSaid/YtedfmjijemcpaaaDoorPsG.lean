/- The reference's IsDigits at every text. -/
import Derived.Test.YtedfmjijemcpaaaDoorPsF
import Derived.Test.YtedfmjijemcpaaaDoorPsP
namespace Go.Proofs.YtedfmjijemcpaaaDoor
open Go.RowKit

def SomeB (e : Ending) : Prop := ∃ b, e = .returned (.bool b)
set_option maxHeartbeats 1000000 in
theorem dgS_any (s : ByteArray) (w : World) (hs : s.size ≤ 1048576) :
    Calls Tryd.prog 38 #[.string s] w fun e w' => SomeB e ∧ w = w' := by
  have hsz : (s.size : Int) ≤ 1048576 := by omega
  go_enter Tryd.func38, Tryd.ntmps38
  go_wp2_with fail
  go_loop [3] (fun i => ∃ (j : Nat), j ≤ s.size ∧ i = .int .i64 j) (fun i => s.size - (intOf i).toNat)
  case atStart => exact ⟨0, by omega, rfl⟩
  case round =>
    obtain ⟨j, hj, rfl⟩ := hrel
    by_cases hlt : j < s.size
    · have hlz : (j : Int) < (s.size : Int) := by omega
      obtain ⟨x, hx⟩ : ∃ x, x = s[j] := ⟨_, rfl⟩
      have hx2 := hx.symm
      by_cases h1 : (x.toNat : Int) < 48
      · clear hx
        go_wp2_with fail
        go_ret
        exact ⟨⟨_, rfl⟩, rfl⟩
      · by_cases h2 : 57 < (x.toNat : Int)
        · clear hx
          go_wp2_with fail
          go_ret
          exact ⟨⟨_, rfl⟩, rfl⟩
        · clear hx
          go_wp2_with fail
          go_round
          case rel => exact ⟨j + 1, by omega, by go_num⟩
          case measure => simp [intOf]; omega
    · obtain rfl : j = s.size := by omega
      go_wp2_with fail
      go_ret
      exact ⟨⟨_, rfl⟩, rfl⟩
set_option maxHeartbeats 1000000 in
/-- One digit. -/
theorem dgS_one (d : Int) (w : World) (hd : 0 ≤ d ∧ d ≤ 9) :
    Calls Tryd.prog 38 #[.string (dg d)] w fun e w' => e = .returned (.bool true) ∧ w = w' := by
  obtain ⟨s, hs⟩ : ∃ s, s = dg d := ⟨_, rfl⟩
  have hsz : s.size = 1 := by rw [hs]; rfl
  obtain ⟨x, hx⟩ : ∃ x, x = s[0] := ⟨_, rfl⟩
  have hx2 := hx.symm
  have hxn : (x.toNat : Int) = 48 + d := by
    rw [hx]
    subst hs
    exact dgb_nat hd
  have h1 : ¬ (x.toNat : Int) < 48 := by omega
  have h2 : ¬ 57 < (x.toNat : Int) := by omega
  rw [← hs]
  clear hx hs hxn hd
  go_enter Tryd.func38, Tryd.ntmps38
  go_wp2_with fail
  go_loop [3] (fun i => ∃ (j : Nat), j ≤ 1 ∧ i = .int .i64 j) (fun i => 1 - (intOf i).toNat)
  case atStart => exact ⟨0, by omega, rfl⟩
  case round =>
    obtain ⟨j, hj, rfl⟩ := hrel
    by_cases hlt : j = 0
    · subst hlt
      go_wp2_with fail
      go_round
      case rel => exact ⟨1, by omega, rfl⟩
      case measure => simp [intOf]
    · obtain rfl : j = 1 := by omega
      go_wp2_with fail
      go_ret
      exact ⟨rfl, rfl⟩
end Go.Proofs.YtedfmjijemcpaaaDoor
