/- Plain facts for FnQuantize. -/
import Derived.Test.YtpiaeiihacobnaaBestG
import Derived.Test.YtpiaeiihacobnaaTimesR
import Derived.Test.YtpiaeiihacobnaaQuantD
namespace Go.Proofs.Ytpiaeiihacobnaa
open Go.RowKit

theorem near_mul {k g : Int} (hg : 1 ≤ g) : nearF (k * g) g = k * g := by
  unfold nearF
  have h1 : (k * g + (g - 1) / 2) / g = k := by
    rw [Int.add_comm, Int.add_mul_ediv_right _ _ (by omega : g ≠ 0), Int.ediv_eq_zero_of_lt (by omega) (by omega)]
    omega
  rw [h1]
theorem near_near {t g : Int} (hg : 1 ≤ g) : nearF (nearF t g) g = nearF t g := by
  show nearF ((t + (g - 1) / 2) / g * g) g = _
  rw [near_mul hg]
  rfl
theorem near_dvd (t g : Int) : nearF t g % g = 0 := by
  unfold nearF
  exact Int.mul_emod_left _ _
theorem near_mono {s t g : Int} (hg : 1 ≤ g) (h : s ≤ t) : nearF s g ≤ nearF t g := by
  unfold nearF
  exact Int.mul_le_mul_of_nonneg_right (Int.ediv_le_ediv (by omega) (by omega)) (by omega)
theorem near_dist {t g : Int} (hg : 1 ≤ g) : 2 * (t - nearF t g) ≤ g ∧ 2 * (nearF t g - t) ≤ g := by
  have h1 := Int.mul_ediv_add_emod (t + (g - 1) / 2) g
  have h2 := Int.emod_nonneg (t + (g - 1) / 2) (show g ≠ 0 by omega)
  have h3 := Int.emod_lt_of_pos (t + (g - 1) / 2) (show 0 < g by omega)
  have e : nearF t g = g * ((t + (g - 1) / 2) / g) := by unfold nearF; rw [Int.mul_comm]
  rw [← e] at h1
  omega
theorem near_add {t g : Int} (hg : 1 ≤ g) : nearF (t + g) g = nearF t g + g := by
  unfold nearF
  rw [show t + g + (g - 1) / 2 = (t + (g - 1) / 2) + 1 * g by omega, Int.add_mul_ediv_right _ _ (by omega : g ≠ 0), Int.add_mul, Int.one_mul]
theorem near_one (t : Int) : nearF t 1 = t := by
  unfold nearF
  rw [show ((1 : Int) - 1) / 2 = 0 by decide, Int.ediv_one]
  omega
theorem near_nonneg {t g : Int} (hg : 1 ≤ g) (h0 : 0 ≤ t) : 0 ≤ nearF t g := by
  unfold nearF
  exact Int.mul_nonneg (Int.ediv_nonneg (by omega) (by omega)) (by omega)
theorem part_zero (g t : Int) : partF g 0 t = t := by
  unfold partF
  rw [Int.mul_zero, Int.zero_tdiv]
  omega
theorem part_full (g t : Int) : partF g 100 t = nearF t g := by
  unfold partF
  rw [Int.mul_tdiv_cancel _ (by decide : (100 : Int) ≠ 0)]
  omega
theorem part_half (g t : Int) : min t (nearF t g) ≤ partF g 50 t ∧ partF g 50 t ≤ max t (nearF t g) := by
  unfold partF
  obtain ⟨d, hd⟩ : ∃ d, d = nearF t g - t := ⟨_, rfl⟩
  rw [← hd]
  have hq : nearF t g = t + d := by omega
  rw [hq]
  rcases Int.le_total 0 d with h | h
  · have h1 := Int.tdiv_eq_ediv_of_nonneg (a := d * 50) (b := 100) (by omega)
    rw [h1]
    omega
  · have h1 : (d * 50).tdiv 100 = -((-(d * 50)).tdiv 100) := by rw [Int.neg_tdiv]; omega
    have h2 := Int.tdiv_eq_ediv_of_nonneg (a := -(d * 50)) (b := 100) (by omega)
    rw [h1, h2]
    omega
/-- What the drawn times are. -/
def okTimes (xs : List Int) : Prop := xs.length ≤ 6 ∧ (∀ x ∈ xs, 0 ≤ x ∧ x ≤ 1000) ∧ sortB xs = true
theorem okTimes_B {xs : List Int} (h : okTimes xs) : timesB xs = true := by
  obtain ⟨h1, h2, h3⟩ := h
  unfold timesB
  rw [h3, Bool.and_true, Bool.and_eq_true]
  exact ⟨decide_eq_true (by omega), allB_iff.2 fun x hx => by have := h2 x hx; omega⟩
theorem okTimes_map {xs : List Int} (h : okTimes xs) (f : Int → Int) (hm : ∀ s t, s ≤ t → f s ≤ f t) (hf : ∀ x, 0 ≤ x → x ≤ 1000 → 0 ≤ f x ∧ f x ≤ 100000) : timesB (xs.map f) = true := by
  obtain ⟨h1, h2, h3⟩ := h
  unfold timesB
  rw [Bool.and_eq_true, Bool.and_eq_true]
  refine ⟨decide_eq_true (by rw [List.length_map]; omega), allB_iff.2 fun y hy => ?_, sortB_iff.2 fun i hi => ?_⟩
  · obtain ⟨x, hx, rfl⟩ := List.mem_map.1 hy
    have := h2 x hx
    exact hf x this.1 this.2
  · rw [List.length_map] at hi
    rw [getD_map f xs i (by omega), getD_map f xs (i + 1) hi]
    exact hm _ _ (sortB_iff.1 h3 i hi)
/-- The best of the grids g, 1, 7 where nothing is charged for the ticks. -/
theorem best_three {xs : List Int} (g : Int) : [g, 1, 7].foldl (stepG (costF xs 0)) g = if 0 < (xs.map fun x => distF x g).sum then 1 else g := by
  have c1 : costF xs 0 1 = 0 := by
    unfold costF
    have : ∀ ys : List Int, (ys.map fun x => distF x 1).sum = 0 := by
      intro ys
      induction ys with
      | nil => rfl
      | cons y ys ih =>
        rw [List.map_cons, List.sum_cons, ih]
        unfold distF
        rw [near_one]
        omega
    rw [this]
    omega
  have hnn : ∀ q, 0 ≤ costF xs 0 q := by
    intro q
    unfold costF
    have : ∀ ys : List Int, 0 ≤ (ys.map fun x => distF x q).sum := by
      intro ys
      induction ys with
      | nil => simp
      | cons y ys ih =>
        rw [List.map_cons, List.sum_cons]
        have : 0 ≤ distF y q := by unfold distF; omega
        omega
    have := this xs
    omega
  have cg : costF xs 0 g = (xs.map fun x => distF x g).sum := by unfold costF; omega
  have hg := hnn g
  have h7 := hnn 7
  simp only [List.foldl_cons, List.foldl_nil]
  have s1 : stepG (costF xs 0) g g = g := by unfold stepG; split <;> rfl
  rw [s1]
  by_cases h : 0 < (xs.map fun x => distF x g).sum
  · have s2 : stepG (costF xs 0) g 1 = 1 := by unfold stepG; rw [if_pos (by omega)]
    rw [s2, if_pos h]
    unfold stepG
    rw [if_neg (by omega)]
  · have s2 : stepG (costF xs 0) g 1 = g := by unfold stepG; rw [if_neg (by omega)]
    rw [s2, if_neg h]
    unfold stepG
    rw [if_neg (by omega)]
theorem trP_len (xs : List Int) (g n : Int) (hn : 1 ≤ n) : (trP xs g n).length ≤ xs.length := by
  unfold trP
  have h : ∀ y ∈ xs.map (fun x => nearF x g / g % n), 0 ≤ y ∧ y < (n.toNat : Int) := fun y hy => by
    obtain ⟨x, _, rfl⟩ := List.mem_map.1 hy
    have h1 := Int.emod_nonneg (nearF x g / g) (show n ≠ 0 by omega)
    have h2 := Int.emod_lt_of_pos (nearF x g / g) (show 0 < n by omega)
    omega
  have e := colF_set h
  rw [← e]
  have := colF_len (xs.map fun x => nearF x g / g % n)
  rwa [List.length_map] at this
theorem trP_has {xs : List Int} {g n x : Int} (hn : 1 ≤ n) (hx : x ∈ xs) : (trP xs g n).contains (nearF x g / g % n) = true := by
  unfold trP
  rw [List.contains_iff_mem, mem_setL]
  have h1 := Int.emod_nonneg (nearF x g / g) (show n ≠ 0 by omega)
  have h2 := Int.emod_lt_of_pos (nearF x g / g) (show 0 < n by omega)
  refine ⟨(nearF x g / g % n).toNat, by omega, ?_, by omega⟩
  rw [List.contains_iff_mem, List.mem_map]
  exact ⟨x, hx, by omega⟩
end Go.Proofs.Ytpiaeiihacobnaa
