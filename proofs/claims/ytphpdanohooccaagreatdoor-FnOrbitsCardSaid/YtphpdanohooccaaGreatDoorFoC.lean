/- FnOrbits: plain facts: the necklaces of at most eight pulses, by computation. -/
import Derived.Test.YtphpdanohooccaaGreatDoorFoB
import Derived.Test.YtphpdanohooccaaGreatDoorNkW
import Derived.Test.YtphpdanohooccaaGreatDoorNeck
namespace Go.Proofs.YtphpdanohooccaaGreatDoor
open Go.RowKit

/-- A rhythm's text. -/
def txL (n : Nat) (xs : List Int) : List UInt8 := (List.range n).map fun p : Nat => if xs.contains (p : Int) = true then 120 else 46
/-- The steps of the binomial coefficient. -/
def bnF (m k : Nat) : Nat → Nat
  | 0 => 1
  | i + 1 => bnF m k i * (m - k + (i + 1)) / (i + 1)
def neL (m k : Nat) : List (List Int) := rfL m k (lsB m) (2 ^ m) (2 ^ m)
def leT (a b : List UInt8) : Bool := Op.bytesLess a b || a == b
def okRow (m k : Nat) (L : List (List Int)) (i : Nat) : Bool :=
  (rhyB m (L.getD i []) && (lsB m (L.getD i []) && decide ((L.getD i []).length = k))) && (i == 0 || !(leT (txL m (L.getD (i - 1) [])) (txL m (L.getD i []))))
def foChk (m k : Nat) : Bool :=
  (decide (((neL m k).length : Int) = nkF m k) && (decide (1 ≤ nkF m k) && (decide (brF m k ≤ nkF m k) && decide (nkF m k ≤ 2 * brF m k)))) &&
  ((decide (nkF m ((m : Int) - k) = nkF m k) && decide (brF m ((m : Int) - k) = brF m k)) &&
  ((List.range (neL m k).length).all (okRow m k (neL m k)) &&
  (decide (((neL m k).map (pdF m)).sum = bnF m k k) && decide ((((neL m k).filter fun z => decide (lfF m z = z)).length : Int) = brF m k))))
theorem fo_chk1 : ∀ k ∈ List.range (1 + 1), foChk 1 k = true := by decide +kernel
theorem fo_chk2 : ∀ k ∈ List.range (2 + 1), foChk 2 k = true := by decide +kernel
theorem fo_chk3 : ∀ k ∈ List.range (3 + 1), foChk 3 k = true := by decide +kernel
theorem fo_chk4 : ∀ k ∈ List.range (4 + 1), foChk 4 k = true := by decide +kernel
theorem fo_chk5 : ∀ k ∈ List.range (5 + 1), foChk 5 k = true := by decide +kernel
theorem fo_chk6 : ∀ k ∈ List.range (6 + 1), foChk 6 k = true := by decide +kernel
theorem fo_chk7 : ∀ k ∈ List.range (7 + 1), foChk 7 k = true := by decide +kernel
theorem fo_chk8 : ∀ k ∈ List.range (8 + 1), foChk 8 k = true := by decide +kernel
theorem fo_chk {m k : Nat} (h1 : 1 ≤ m) (h2 : m ≤ 8) (hk : k ≤ m) : foChk m k = true := by
  have : m = 1 ∨ m = 2 ∨ m = 3 ∨ m = 4 ∨ m = 5 ∨ m = 6 ∨ m = 7 ∨ m = 8 := by omega
  rcases this with rfl | rfl | rfl | rfl | rfl | rfl | rfl | rfl
  · exact fo_chk1 k (List.mem_range.2 (by omega))
  · exact fo_chk2 k (List.mem_range.2 (by omega))
  · exact fo_chk3 k (List.mem_range.2 (by omega))
  · exact fo_chk4 k (List.mem_range.2 (by omega))
  · exact fo_chk5 k (List.mem_range.2 (by omega))
  · exact fo_chk6 k (List.mem_range.2 (by omega))
  · exact fo_chk7 k (List.mem_range.2 (by omega))
  · exact fo_chk8 k (List.mem_range.2 (by omega))
/-- What is asked of the necklaces. -/
structure NeOk (m k : Nat) (L : List (List Int)) (x y : Int) : Prop where
  len : (L.length : Int) = x
  pos : 1 ≤ x
  le : y ≤ x
  ge : x ≤ 2 * y
  turn : nkF m ((m : Int) - k) = x
  mir : brF m ((m : Int) - k) = y
  rhy : ∀ i, i < L.length → rhyB m (L.getD i []) = true
  least : ∀ i, i < L.length → lsB m (L.getD i []) = true
  beats : ∀ i, i < L.length → (L.getD i []).length = k
  text : ∀ i, i + 1 < L.length → leT (txL m (L.getD i [])) (txL m (L.getD (i + 1) [])) = false
  total : (L.map (pdF m)).sum = bnF m k k
  forms : ((L.filter fun z => decide (lfF m z = z)).length : Int) = y
theorem ne_ok {m k : Nat} (h1 : 1 ≤ m) (h2 : m ≤ 8) (hk : k ≤ m) : NeOk m k (neL m k) (nkF m k) (brF m k) := by
  have h := fo_chk h1 h2 hk
  unfold foChk at h
  simp only [Bool.and_eq_true, decide_eq_true_eq, List.all_eq_true, List.mem_range] at h
  obtain ⟨⟨a1, a2, a3, a4⟩, ⟨b1, b2⟩, c, d1, d2⟩ := h
  have row : ∀ i, i < (neL m k).length → (rhyB m ((neL m k).getD i []) = true ∧ lsB m ((neL m k).getD i []) = true ∧ ((neL m k).getD i []).length = k) ∧ (i = 0 ∨ leT (txL m ((neL m k).getD (i - 1) [])) (txL m ((neL m k).getD i [])) = false) := fun i hi => by
    have := c i hi
    unfold okRow at this
    simpa only [Bool.and_eq_true, Bool.or_eq_true, decide_eq_true_eq, beq_iff_eq, Bool.not_eq_true'] using this
  refine ⟨a1, a2, a3, a4, b1, b2, fun i hi => (row i hi).1.1, fun i hi => (row i hi).1.2.1, fun i hi => (row i hi).1.2.2, fun i hi => ?_, d1, d2⟩
  rcases (row (i + 1) hi).2 with e | e
  · exact absurd e (by omega)
  · exact e
theorem noF_ne {m k : Nat} (h1 : 1 ≤ m) (h2 : m ≤ 8) (hk : k ≤ m) : noF m k = rsOf m (neL m k) := by
  unfold noF okN
  rw [if_pos (by rw [Bool.and_eq_true]; exact ⟨inB_iff.2 (by omega), inB_iff.2 (by omega)⟩), Int.toNat_natCast, Int.toNat_natCast]
  rfl
theorem bn_step : ∀ m ∈ List.range 9, ∀ k ∈ List.range (m + 1), ∀ i ∈ List.range (k + 1), bnF m k i ≤ 100 := by decide +kernel
end Go.Proofs.YtphpdanohooccaaGreatDoor
