/- What a valid rhythm's beats are. -/
import Derived.Test.YtedfmjijemcpaaaDoorRhy
namespace Go.Proofs.YtedfmjijemcpaaaDoor
open Go.RowKit

theorem rhyB_vals {n : Int} {xs : List Int} (h : rhyB n xs = true) : ∀ j, 0 ≤ xs.getD j 0 ∧ xs.getD j 0 ≤ 23 := by
  intro j
  by_cases hj : j < xs.length
  · have := (rhyB_iff h).1; have := ((rhyB_iff h).2 j hj).1; omega
  · have : xs.getD j 0 = 0 := by simp [List.getD, List.getElem?_eq_none (by omega : xs.length ≤ j)]
    omega
theorem rhyB_len {n : Int} {xs : List Int} (h : rhyB n xs = true) : (xs.length : Int) ≤ n := by
  have h0 := (rhyB_iff h).1
  have hj : ∀ j, j < xs.length → (j : Int) ≤ xs.getD j 0 := by
    intro j
    induction j with
    | zero => intro hj; have := ((rhyB_iff h).2 0 hj).1; omega
    | succ j ih =>
      intro hj
      have h1 := ih (by omega)
      have h2 := ((rhyB_iff h).2 (j + 1) hj).2 (by omega)
      simp only [Nat.add_sub_cancel] at h2
      omega
  by_cases hx : xs.length = 0
  · omega
  · have h1 := hj (xs.length - 1) (by omega)
    have h2 := ((rhyB_iff h).2 (xs.length - 1) (by omega)).1
    omega

end Go.Proofs.YtedfmjijemcpaaaDoor
