/- Contracts of the small functions on numbers that this seat reaches. -/
import Derived.Test.YtedfmjijemcpaaaDoorBase
namespace Go.Proofs.YtedfmjijemcpaaaDoor
open Go.RowKit

/-- 'lo ≤ n ≤ hi' as a Bool that the walk leaves alone. -/
def inB (n lo hi : Int) : Bool := decide (lo ≤ n) && decide (n ≤ hi)
theorem inB_iff {n lo hi : Int} : inB n lo hi = true ↔ lo ≤ n ∧ n ≤ hi := by simp [inB]
theorem inB_no {n lo hi : Int} : inB n lo hi = false ↔ ¬ (lo ≤ n ∧ n ≤ hi) := by rw [← inB_iff]; simp

theorem inB_ge {n lo hi : Int} (h : lo ≤ n) : decide (n ≤ hi) = inB n lo hi := by simp [inB, h]
theorem inB_lt {n lo hi : Int} (h : n < lo) : false = inB n lo hi := by
  have : ¬ lo ≤ n := by omega
  simp [inB, this]

theorem l01In_any (n lo hi : Int) (w : World) :
    Calls Tryd.prog 30 #[.int .i64 n, .int .i64 lo, .int .i64 hi] w fun e w' => e = .returned (.bool (inB n lo hi)) ∧ w = w' := by
  go_enter Tryd.func30, Tryd.ntmps30
  go_wp2
  all_goals
    go_ret
    exact ⟨ret_bool (by first | exact inB_ge (by assumption) | exact inB_lt (by assumption)), rfl⟩

theorem within_any (n lo hi : Int) (w : World) :
    Calls Tryd.prog 31 #[.int .i64 n, .int .i64 lo, .int .i64 hi] w fun e w' => e = .returned (.bool (inB n lo hi)) ∧ w = w' := by
  go_enter Tryd.func31, Tryd.ntmps31
  go_wp2
  all_goals
    go_ret
    exact ⟨ret_bool (by first | exact inB_ge (by assumption) | exact inB_lt (by assumption)), rfl⟩
end Go.Proofs.YtedfmjijemcpaaaDoor
