/- Contracts of l02Mod, remainder. -/
import Derived.Test.YtphpdanohooccaaDoorInts
namespace Go.Proofs.YtphpdanohooccaaDoor
open Go.RowKit

theorem modS_any (a k : Int) (w : World) (_ha : -1000000 ≤ a ∧ a ≤ 1000000) (hk : 1 ≤ k ∧ k ≤ 1000000) :
    Calls Tryd.prog 25 #[.int .i64 a, .int .i64 k] w fun e w' => e = .returned (.int .i64 (a % k)) ∧ ∃ q, w' = w.drewN q := by
  have e : (a.tmod k + k) % k = a % k := by
    have h1 : a.tmod k = a - k * a.tdiv k := by have := Int.mul_tdiv_add_tmod a k; omega
    have h2 : -k < a.tmod k := Int.lt_tmod_of_pos a (by omega)
    rw [h1, show a - k * a.tdiv k + k = a + k * (1 - a.tdiv k) by rw [Int.mul_sub]; omega, Int.add_mul_emod_self_left]
  have hb : -k < a.tmod k ∧ a.tmod k < k := ⟨Int.lt_tmod_of_pos a (by omega), Int.tmod_lt_of_pos a (by omega)⟩
  have hk0 : ¬ k = 0 := by omega
  have HE := Lib.hid e
  obtain ⟨t, ht⟩ : ∃ t, t = a.tmod k := ⟨_, rfl⟩
  rw [← ht] at hb HE
  have ht' := ht.symm
  clear e ht
  go_enter Tryd.func25, Tryd.ntmps25
  go_wp2_with fail
  try go_quiet (fail)
  try go_wp2_with fail
  go_ret
  exact ⟨ret_int HE.out, by first | exact ⟨0, rfl⟩ | exact ⟨_, rfl⟩⟩
theorem modI_any (a k : Int) (w : World) (_ha : -1000000 ≤ a ∧ a ≤ 1000000) (hk : 1 ≤ k ∧ k ≤ 1000000) :
    Calls Tryd.prog 46 #[.int .i64 a, .int .i64 k] w fun e w' => e = .returned (.int .i64 (a % k)) ∧ ∃ q, w' = w.drewN q := by
  have e : (a.tmod k + k) % k = a % k := by
    have h1 : a.tmod k = a - k * a.tdiv k := by have := Int.mul_tdiv_add_tmod a k; omega
    have h2 : -k < a.tmod k := Int.lt_tmod_of_pos a (by omega)
    rw [h1, show a - k * a.tdiv k + k = a + k * (1 - a.tdiv k) by rw [Int.mul_sub]; omega, Int.add_mul_emod_self_left]
  have hb : -k < a.tmod k ∧ a.tmod k < k := ⟨Int.lt_tmod_of_pos a (by omega), Int.tmod_lt_of_pos a (by omega)⟩
  have hk0 : ¬ k = 0 := by omega
  have HE := Lib.hid e
  obtain ⟨t, ht⟩ : ∃ t, t = a.tmod k := ⟨_, rfl⟩
  rw [← ht] at hb HE
  have ht' := ht.symm
  clear e ht
  go_enter Tryd.func46, Tryd.ntmps46
  go_wp2_with fail
  try go_quiet (fail)
  try go_wp2_with fail
  go_ret
  exact ⟨ret_int HE.out, by first | exact ⟨0, rfl⟩ | exact ⟨_, rfl⟩⟩
end Go.Proofs.YtphpdanohooccaaDoor
