/- The fewest moves to an even rhythm: the plain function. -/
import Derived.Test.YtnhppeknkeblfaaFar
import Derived.Test.YtnhppeknkeblfaaEven
import Derived.Test.YtnhppeknkeblfaaRot
namespace Go.Proofs.Ytnhppeknkeblfaa
open Go.RowKit

def rotL (n : Nat) (xs : List Int) (k : Int) : List Int := mapF n xs (fun p => p + k)
theorem mapF_one (n : Nat) (xs : List Int) (k : Int) : mapF n xs (fun q => 1 * q + k) = rotL n xs k := by
  unfold rotL
  congr 1
  funext q
  omega
theorem mapF_rhy {n : Nat} {xs : List Int} {f : Int → Int} (h1 : 1 ≤ n) (h2 : n ≤ 24) : rhyB n (mapF n xs f) = true := rhyB_setL n _ h1 h2
theorem rhy_short {n : Nat} {xs : List Int} (h : rhyB n xs = true) : xs.length ≤ 24 := by
  have := rhyB_len h
  have := (rhyB_iff h).1
  omega
theorem setL_len_nodup {n : Nat} {ys : List Int} (hr : ∀ x ∈ ys, 0 ≤ x ∧ x < n) (hd : ys.Nodup) : (setL n (fun p : Nat => ys.contains (p : Int))).length = ys.length := by
  have hs : (ys.mergeSort fun x y => decide (x ≤ y)).Pairwise (· ≤ ·) := by
    have := List.pairwise_mergeSort (le := fun x y : Int => decide (x ≤ y)) (fun a b c h1 h2 => by simp at *; omega) (fun a b => by simp; omega) ys
    exact this.imp (fun h => of_decide_eq_true h)
  have hp := List.mergeSort_perm ys (fun x y => decide (x ≤ y))
  have hn : (ys.mergeSort fun x y => decide (x ≤ y)).Nodup := hp.nodup_iff.2 hd
  have hu : Up (ys.mergeSort fun x y => decide (x ≤ y)) := (hs.and hn).imp (fun h => by have := h.1; have := h.2; omega)
  have e := up_setEq hu (fun x hx => hr x (List.mem_mergeSort.1 hx))
  have e2 : setL n (fun p : Nat => (ys.mergeSort fun x y => decide (x ≤ y)).contains (p : Int)) = setL n (fun p : Nat => ys.contains (p : Int)) := setL_congr (fun p _ => by
    rw [Bool.eq_iff_iff, List.contains_iff_mem, List.contains_iff_mem, List.mem_mergeSort])
  rw [← e2, ← e, List.length_mergeSort]
theorem rotL_len {n : Nat} {xs : List Int} (k : Int) (h : rhyB n xs = true) : (rotL n xs k).length = xs.length := by
  have hn := (rhyB_iff h).1
  obtain ⟨hu, hr⟩ := rhy_up h
  unfold rotL mapF
  rw [setL_len_nodup, List.length_map]
  · intro x hx
    rw [List.mem_map] at hx
    obtain ⟨q, _, rfl⟩ := hx
    exact ⟨Int.emod_nonneg _ (by omega), Int.emod_lt_of_pos _ (by omega)⟩
  · unfold List.Nodup
    rw [List.pairwise_map]
    refine List.Pairwise.imp_of_mem (fun {a b} ha hb hab e => ?_) hu
    have h1 := hr a ha
    have h2 := hr b hb
    have e2 := Int.emod_eq_emod_iff_emod_sub_eq_zero.1 e.symm
    rw [show b + k - (a + k) = b - a by omega, Int.emod_eq_of_lt (by omega) (by omega)] at e2
    omega
theorem rotL_zero {n : Nat} {xs : List Int} (h : rhyB n xs = true) : rotL n xs 0 = xs := by
  obtain ⟨hu, hr⟩ := rhy_up h
  have e : (xs.map fun q => (q + 0) % (n : Int)) = xs := by
    conv => rhs; rw [← List.map_id xs]
    apply List.map_congr_left
    intro q hq
    have := hr q hq
    rw [Int.add_zero, Int.emod_eq_of_lt (by omega) (by omega)]
    rfl
  unfold rotL mapF
  rw [e]
  exact (up_setEq hu hr).symm
/-- The one of the first k rotations of e (and e) that lies nearest. -/
def fmB (n : Nat) (xs e : List Int) : Nat → List Int
  | 0 => e
  | k + 1 => if farF n xs (rotL n e k) < farF n xs (fmB n xs e k) then rotL n e k else fmB n xs e k
theorem fmB_one {n : Nat} {xs e : List Int} (h : rhyB n e = true) : fmB n xs e 1 = e := by
  rw [fmB, fmB]
  have : rotL n e ((0 : Nat) : Int) = e := rotL_zero h
  rw [this, if_neg (by omega)]
theorem fmB_ok {n : Nat} {xs e : List Int} (h1 : 1 ≤ n) (h2 : n ≤ 24) (h : rhyB n e = true) : ∀ k, rhyB n (fmB n xs e k) = true ∧ (fmB n xs e k).length = e.length
  | 0 => ⟨h, rfl⟩
  | k + 1 => by
    rw [fmB]
    split
    · exact ⟨mapF_rhy h1 h2, rotL_len _ h⟩
    · exact fmB_ok h1 h2 h k
theorem evL_len (k n : Nat) : (evL k n).length = k := by simp [evL]
def fmE (n : Int) (xs : List Int) : List Int := fmB n.toNat xs (evL xs.length n.toNat) n.toNat
def fmF (n : Int) (xs : List Int) : Int × List Int := if rhyB n xs = true then (n, fmE n xs) else (0, [])
def fmV (n : Int) (xs : List Int) : Int := if rhyB n xs = true then farF n xs (fmE n xs) else -1
end Go.Proofs.Ytnhppeknkeblfaa
