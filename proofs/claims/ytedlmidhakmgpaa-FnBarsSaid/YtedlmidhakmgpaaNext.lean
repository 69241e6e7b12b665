/- NextBar: the plain law. -/
import Derived.Test.YtedlmidhakmgpaaBarsC
namespace Go.Proofs.Ytedlmidhakmgpaa

/-- The first bar with a sum. -/
def firstL : Nat → List Int
  | 0 => []
  | 1 => [1]
  | 2 => [2]
  | 3 => [3]
  | n + 4 => 2 :: firstL (n + 2)
/-- The reference's search, from place i down. -/
def nextS (xs : List Int) : Nat → List Int × Bool
  | 0 => ([], false)
  | i + 1 => if xs.getD i 0 = 3 then nextS xs i else if (xs.drop i).sum - 3 = 1 ∨ (xs.drop i).sum - 3 < 0 then nextS xs i else (xs.take i ++ [3] ++ firstL ((xs.drop i).sum - 3).toNat, true)
def chk : List (List Int) → Bool
  | [] => true
  | [b] => nextS b b.length == ([], false)
  | b :: b' :: L => nextS b b.length == (b', true) && chk (b' :: L)
theorem chk_bars : ∀ n, n ≤ 24 → chk (barsL n) = true := by decide +kernel
theorem chk_at : ∀ (L : List (List Int)) (k : Nat), chk L = true → k < L.length → nextS (L.getD k []) (L.getD k []).length = if k + 1 = L.length then ([], false) else (L.getD (k + 1) [], true)
  | [], k, _, hk => by simp at hk
  | [b], k, h, hk => by
    obtain rfl : k = 0 := by simpa using hk
    simpa [chk] using h
  | b :: b' :: L, 0, h, _ => by
    simp only [chk, Bool.and_eq_true, beq_iff_eq] at h
    simpa using h.1
  | b :: b' :: L, k + 1, h, hk => by
    simp only [chk, Bool.and_eq_true] at h
    have := chk_at (b' :: L) k h.2 (by simpa using hk)
    simpa using this
/-- Each bar stands in the list of its sum. -/
theorem bars_mem (xs : List Int) (h : ∀ x ∈ xs, 2 ≤ x ∧ x ≤ 3) : xs ∈ barsL xs.sum.toNat ∧ 0 ≤ xs.sum := by
  induction xs with
  | nil => simp [barsL]
  | cons x xs ih =>
    obtain ⟨ih, i0⟩ := ih (fun y hy => h y (by simp [hy]))
    have hx := h x (by simp)
    obtain ⟨s, hs⟩ := Int.eq_ofNat_of_zero_le i0
    rw [hs, Int.toNat_natCast] at ih
    rw [List.sum_cons, hs]
    have : x = 2 ∨ x = 3 := by omega
    rcases this with rfl | rfl
    · rw [show ((2 : Int) + s).toNat = s + 2 by omega]
      refine ⟨?_, by omega⟩
      match s, ih with
      | 0, ih => simp [barsL] at ih; subst ih; simp [barsL]
      | 1, ih => simp [barsL] at ih
      | s + 2, ih =>
        show _ ∈ barsL ((s + 1) + 3)
        simp only [barsL, List.mem_append, List.mem_map]
        exact Or.inl ⟨xs, ih, rfl⟩
    · rw [show ((3 : Int) + s).toNat = s + 3 by omega]
      refine ⟨?_, by omega⟩
      simp only [barsL, List.mem_append, List.mem_map]
      exact Or.inr ⟨xs, ih, rfl⟩
end Go.Proofs.Ytedlmidhakmgpaa
