/- Ascending lists of numbers as sets (no program): what collects numbers. -/
import Derived.Test.YtphpdanohooccaaGreatDoorRhy
import Derived.Lib.SlicesCompact
namespace Go.Proofs.YtphpdanohooccaaGreatDoor
open Go.RowKit

theorem getD_in {xs : List Int} {k : Nat} (h : k < xs.length) : xs.getD k 0 ∈ xs := by simp [List.getD, h]
/-- A list that ascends. -/
def Up (xs : List Int) : Prop := xs.Pairwise (· < ·)
/-- The numbers below n that P picks. -/
def setL (n : Nat) (P : Nat → Bool) : List Int := ((List.range n).filter P).map Int.ofNat
theorem up_setL (n : Nat) (P : Nat → Bool) : Up (setL n P) := by
  unfold Up setL
  rw [List.pairwise_map]
  exact (List.pairwise_lt_range.filter P).imp (fun h => by simpa using h)
theorem mem_setL {n : Nat} {P : Nat → Bool} {x : Int} : x ∈ setL n P ↔ ∃ p : Nat, p < n ∧ P p = true ∧ x = p := by
  unfold setL
  simp only [List.mem_map, List.mem_filter, List.mem_range]
  constructor
  · rintro ⟨p, ⟨h1, h2⟩, rfl⟩; exact ⟨p, h1, h2, rfl⟩
  · rintro ⟨p, h1, h2, rfl⟩; exact ⟨p, ⟨h1, h2⟩, rfl⟩
theorem setL_succ (n : Nat) (P : Nat → Bool) : setL (n + 1) P = if P n = true then setL n P ++ [(n : Int)] else setL n P := by
  unfold setL
  rw [List.range_succ, List.filter_append, List.map_append]
  by_cases h : P n = true <;> simp [h]
theorem setL_len (n : Nat) (P : Nat → Bool) : (setL n P).length ≤ n := by
  unfold setL
  rw [List.length_map]
  exact Nat.le_trans (List.length_filter_le _ _) (by simp)
theorem setL_congr {n : Nat} {P Q : Nat → Bool} (h : ∀ p, p < n → P p = Q p) : setL n P = setL n Q := by
  unfold setL
  congr 1
  exact List.filter_congr (fun p hp => h p (List.mem_range.1 hp))
/-- Two ascending lists with the same members are one. -/
theorem up_ext : ∀ {xs ys : List Int}, Up xs → Up ys → (∀ x, x ∈ xs ↔ x ∈ ys) → xs = ys
  | [], [], _, _, _ => rfl
  | [], y :: ys, _, _, h => by have := (h y).2 (by simp); simp at this
  | x :: xs, [], _, _, h => by have := (h x).1 (by simp); simp at this
  | x :: xs, y :: ys, hx, hy, h => by
    unfold Up at hx hy
    rw [List.pairwise_cons] at hx hy
    have e : x = y := by
      have h1 := (h x).1 (by simp)
      have h2 := (h y).2 (by simp)
      simp only [List.mem_cons] at h1 h2
      rcases h1 with h1 | h1
      · exact h1
      · rcases h2 with h2 | h2
        · exact h2.symm
        · have := hy.1 x h1; have := hx.1 y h2; omega
    subst e
    congr 1
    refine up_ext hx.2 hy.2 (fun z => ⟨fun hz => ?_, fun hz => ?_⟩)
    · have := (h z).1 (by simp [hz])
      simp only [List.mem_cons] at this
      rcases this with rfl | h3
      · have := hx.1 z hz; omega
      · exact h3
    · have := (h z).2 (by simp [hz])
      simp only [List.mem_cons] at this
      rcases this with rfl | h3
      · have := hy.1 z hz; omega
      · exact h3

theorem rhy_up {n : Int} {xs : List Int} (h : rhyB n xs = true) : Up xs ∧ ∀ x ∈ xs, 0 ≤ x ∧ x < n := by
  have h' := rhyB_iff h
  have hg : ∀ j (hj : j < xs.length), xs.getD j 0 = xs[j] := fun j hj => by simp [List.getD, hj]
  constructor
  · unfold Up
    rw [List.pairwise_iff_getElem]
    intro i j hi hj hij
    obtain ⟨d, rfl⟩ : ∃ d, j = i + 1 + d := ⟨j - i - 1, by omega⟩
    clear hij
    induction d with
    | zero =>
      have := (h'.2 (i + 1) hj).2 (by omega)
      simp only [Nat.add_sub_cancel] at this
      rwa [hg i hi, hg (i + 1) hj] at this
    | succ d ih =>
      have h1 := ih (by omega)
      have h2 := (h'.2 (i + 1 + (d + 1)) hj).2 (by omega)
      rw [show i + 1 + (d + 1) - 1 = i + 1 + d by omega, hg _ hj, hg (i + 1 + d) (by omega)] at h2
      omega
  · intro x hx
    obtain ⟨j, hj, rfl⟩ := List.mem_iff_getElem.1 hx
    have := (h'.2 j hj).1
    rw [hg j hj] at this
    omega
theorem up_rhy {n : Int} {xs : List Int} (h1 : 1 ≤ n) (h2 : n ≤ 24) (hx : Up xs) (hr : ∀ x ∈ xs, 0 ≤ x ∧ x < n) : rhyB n xs = true := by
  have hg : ∀ j (hj : j < xs.length), xs.getD j 0 = xs[j] := fun j hj => by simp [List.getD, hj]
  unfold Up at hx
  rw [List.pairwise_iff_getElem] at hx
  refine rhyB_of (inB_iff.2 ⟨h1, h2⟩) (fun j hj => ?_)
  unfold okJ
  have := hr _ (List.getElem_mem hj)
  rw [hg j hj, inB_iff.2 ⟨by omega, by omega⟩, Bool.true_and]
  by_cases h0 : j = 0
  · simp [h0]
  · have := hx (j - 1) j (by omega) hj (by omega)
    rw [hg (j - 1) (by omega)]
    simp [this]
theorem rhyB_setL (n : Nat) (P : Nat → Bool) (h1 : 1 ≤ n) (h2 : n ≤ 24) : rhyB n (setL n P) = true :=
  up_rhy (by omega) (by omega) (up_setL n P) (fun x hx => by obtain ⟨p, hp, _, rfl⟩ := mem_setL.1 hx; omega)
/-- An ascending list of numbers below n is the set of its members. -/
theorem up_setEq {n : Nat} {xs : List Int} (hx : Up xs) (hr : ∀ x ∈ xs, 0 ≤ x ∧ x < n) : xs = setL n (fun p => xs.contains (p : Int)) :=
  up_ext hx (up_setL _ _) (fun x => by
    rw [mem_setL]
    constructor
    · intro h
      have := hr x h
      exact ⟨x.toNat, by omega, by rw [show ((x.toNat : Nat) : Int) = x by omega]; simpa using h, by omega⟩
    · rintro ⟨p, _, h, rfl⟩
      simpa using h)

/-- What 'collected' makes of a list. -/
def colF (ys : List Int) : List Int := Lib.compact (ys.mergeSort fun x y => decide (x ≤ y))
theorem compact_up {zs : List Int} (hs : zs.Pairwise (· ≤ ·)) : Up (Lib.compact zs) ∧ ∀ x, x ∈ Lib.compact zs ↔ x ∈ zs := by
  have hg : ∀ j, j < zs.length → zs.toArray[j]! = zs.getD j 0 := fun j hj => by simp [List.getD, hj]
  have hle : ∀ i j, i ≤ j → j < zs.length → zs.getD i 0 ≤ zs.getD j 0 := by
    intro i j hij hj
    rw [List.pairwise_iff_getElem] at hs
    by_cases e : i = j
    · subst e; exact Int.le_refl _
    · have := hs i j (by omega) hj (by omega)
      simpa [List.getD, hj, show i < zs.length by omega] using this
  constructor
  · unfold Up Lib.compact Lib.compactUpTo
    rw [List.pairwise_map, List.pairwise_filter, List.pairwise_iff_getElem]
    intro i j hi hj hij hk0 hk
    clear hk0
    have hi' : i < zs.length := by simpa using hi
    have hj' : j < zs.length := by simpa using hj
    simp only [List.getElem_range] at hk ⊢
    clear hi hj
    rw [hg i hi', hg j hj']
    unfold Lib.keeps at hk
    have hk' := of_decide_eq_true hk
    rcases hk' with h0 | hne
    · omega
    · rw [hg j hj', hg (j - 1) (by omega)] at hne
      have a := hle i (j - 1) (by omega) (by omega)
      have b := hle (j - 1) j (by omega) hj'
      omega
  · intro x
    unfold Lib.compact Lib.compactUpTo
    simp only [List.mem_map, List.mem_filter, List.mem_range]
    constructor
    · rintro ⟨j, ⟨hj, _⟩, rfl⟩
      rw [hg j hj]
      simp [List.getD, hj]
    · intro hx
      obtain ⟨j, hj, rfl⟩ := List.mem_iff_getElem.1 hx
      clear hx
      have key : ∀ j, j < zs.length → ∃ a, (a < zs.length ∧ Lib.keeps zs.toArray a = true) ∧ zs.toArray[a]! = zs.getD j 0 := by
        intro j
        induction j with
        | zero => intro hj; exact ⟨0, ⟨hj, by simp [Lib.keeps]⟩, hg 0 hj⟩
        | succ j ih =>
          intro hj
          by_cases hk : Lib.keeps zs.toArray (j + 1) = true
          · exact ⟨j + 1, ⟨hj, hk⟩, hg _ hj⟩
          · obtain ⟨a, h1, h2⟩ := ih (by omega)
            refine ⟨a, h1, h2.trans ?_⟩
            unfold Lib.keeps at hk
            simp only [decide_eq_true_eq, not_or, Nat.add_one_ne_zero, not_false_eq_true, true_and, Nat.add_sub_cancel] at hk
            have hk' := Classical.not_not.1 hk
            rw [hg _ hj, hg j (by omega)] at hk'
            exact hk'.symm
      obtain ⟨a, h1, h2⟩ := key j hj
      exact ⟨a, h1, h2.trans (by simp [List.getD, hj])⟩
theorem colF_up (ys : List Int) : Up (colF ys) ∧ ∀ x, x ∈ colF ys ↔ x ∈ ys := by
  have hs : (ys.mergeSort fun x y => decide (x ≤ y)).Pairwise (· ≤ ·) := by
    have := List.pairwise_mergeSort (le := fun x y : Int => decide (x ≤ y)) (fun a b c h1 h2 => by simp at *; omega) (fun a b => by simp; omega) ys
    exact this.imp (fun h => of_decide_eq_true h)
  obtain ⟨h1, h2⟩ := compact_up hs
  exact ⟨h1, fun x => (h2 x).trans List.mem_mergeSort⟩
theorem colF_set {n : Nat} {ys : List Int} (hr : ∀ x ∈ ys, 0 ≤ x ∧ x < n) : colF ys = setL n (fun p => ys.contains (p : Int)) := by
  obtain ⟨h1, h2⟩ := colF_up ys
  refine up_ext h1 (up_setL _ _) (fun x => ?_)
  rw [h2, mem_setL]
  constructor
  · intro h
    have := hr x h
    exact ⟨x.toNat, by omega, by rw [show ((x.toNat : Nat) : Int) = x by omega]; simpa using h, by omega⟩
  · rintro ⟨p, _, h, rfl⟩
    simpa using h
theorem colF_len (ys : List Int) : (colF ys).length ≤ ys.length := by
  unfold colF Lib.compact Lib.compactUpTo
  rw [List.length_map]
  refine Nat.le_trans (List.length_filter_le _ _) ?_
  simp
end Go.Proofs.YtphpdanohooccaaGreatDoor
