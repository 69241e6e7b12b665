/- Meters: plain facts about products, weights, syncopation. -/
import Derived.Test.YtedfmjijemcpaaaDoorRhyV
import Derived.Test.YtedfmjijemcpaaaDoorAllWithin
import Derived.Test.YtedfmjijemcpaaaDoorApp
namespace Go.Proofs.YtedfmjijemcpaaaDoor
open Go.RowKit

theorem mem_getD {xs : List Int} {k : Nat} (h : k < xs.length) : xs.getD k 0 ∈ xs := by simp [List.getD, h]
theorem allB_take {xs : List Int} {lo hi : Int} {k : Nat} (h : ∀ j, j < k → inB (xs.getD j 0) lo hi = true) (hk : k = xs.length) : allB xs lo hi = true := by
  rw [allB_iff]
  intro x hx
  obtain ⟨j, hj, e⟩ := List.mem_iff_getElem.1 hx
  have := h j (by omega)
  rw [← e]
  exact inB_iff.1 (by simpa [List.getD, hj] using this)
theorem allB_bad {xs : List Int} {lo hi x : Int} (hm : x ∈ xs) (h : inB x lo hi = false) : allB xs lo hi = false := by
  rw [← Bool.not_eq_true, allB_iff]
  intro ha
  rw [inB_iff.2 (ha x hm)] at h
  cases h

/-- The product of a list. -/
def prodF : List Int → Int
  | [] => 1
  | x :: xs => x * prodF xs
theorem prodF_snoc (xs : List Int) (y : Int) : prodF (xs ++ [y]) = prodF xs * y := by
  induction xs with
  | nil => simp [prodF]
  | cons x xs ih => simp only [List.cons_append, prodF, ih, Int.mul_assoc]
theorem prodF_app (xs ys : List Int) : prodF (xs ++ ys) = prodF xs * prodF ys := by
  induction xs with
  | nil => simp [prodF]
  | cons x xs ih => simp only [List.cons_append, prodF, ih, Int.mul_assoc]
def In27 (xs : List Int) : Prop := ∀ x ∈ xs, 2 ≤ x ∧ x ≤ 7
theorem In27.take {xs : List Int} (h : In27 xs) (k : Nat) : In27 (xs.take k) := fun x hx => h x (List.mem_of_mem_take hx)
theorem In27.drop {xs : List Int} (h : In27 xs) (k : Nat) : In27 (xs.drop k) := fun x hx => h x (List.mem_of_mem_drop hx)
theorem prodF_pos {xs : List Int} (h : In27 xs) : 1 ≤ prodF xs := by
  induction xs with
  | nil => simp [prodF]
  | cons x xs ih =>
    have h1 := ih (fun y hy => h y (by simp [hy]))
    have h2 := h x (by simp)
    have := Int.mul_le_mul (show (1 : Int) ≤ x by omega) h1 (by omega) (by omega)
    simp only [prodF]
    omega
theorem prodF_pow {xs : List Int} (h : In27 xs) : ∀ m, xs.length ≤ m → prodF xs ≤ ((7 ^ m : Nat) : Int) := by
  induction xs with
  | nil => intro m _; have := Nat.pow_pos (n := m) (show 0 < 7 by omega); simp only [prodF]; omega
  | cons x xs ih =>
    intro m hm
    have h2 := h x (by simp)
    have hp := prodF_pos (xs := xs) (fun y hy => h y (by simp [hy]))
    cases m with
    | zero => simp at hm
    | succ m =>
      have h1 := ih (fun y hy => h y (by simp [hy])) m (by simpa using hm)
      have := Int.mul_le_mul h2.2 h1 (by omega) (by omega)
      rw [Nat.pow_succ, Int.natCast_mul]
      simp only [prodF]
      omega
theorem prodF_bd {xs : List Int} (h : In27 xs) (hl : xs.length ≤ 5) : 1 ≤ prodF xs ∧ prodF xs ≤ 16807 := ⟨prodF_pos h, prodF_pow h 5 hl⟩
theorem prodF_bd4 {xs : List Int} (h : In27 xs) (hl : xs.length ≤ 4) : 1 ≤ prodF xs ∧ prodF xs ≤ 2401 := ⟨prodF_pos h, prodF_pow h 4 hl⟩

/-- A meter is valid. -/
def metB (xs : List Int) : Bool := inB xs.length 1 5 && (allB xs 2 7 && decide (prodF xs ≤ 24))
theorem metB_iff {xs : List Int} (h : metB xs = true) : (1 ≤ xs.length ∧ xs.length ≤ 5) ∧ In27 xs ∧ 1 ≤ prodF xs ∧ prodF xs ≤ 24 := by
  unfold metB at h
  simp only [Bool.and_eq_true, decide_eq_true_eq] at h
  have h1 := inB_iff.1 h.1
  have h2 : In27 xs := allB_iff.1 h.2.1
  exact ⟨by omega, h2, prodF_pos h2, h.2.2⟩

/-- The pulses of a part of a division. -/
def unitF (xs : List Int) (i : Nat) : Int := prodF (xs.drop (i + 1))
theorem unit_pos {xs : List Int} (h : In27 xs) (i : Nat) : 1 ≤ unitF xs i := prodF_pos (h.drop _)
theorem unit_mul {xs : List Int} (i : Nat) : prodF (xs.take (i + 1)) * unitF xs i = prodF xs := by
  unfold unitF
  rw [← prodF_app, List.take_append_drop]
theorem mul_le1 {a b n : Int} (ha : 1 ≤ a) (hb : 1 ≤ b) (h : a * b = n) : a ≤ n ∧ b ≤ n := by
  have h1 := Int.mul_le_mul_of_nonneg_left hb (show 0 ≤ a by omega)
  have h2 := Int.mul_le_mul_of_nonneg_right ha (show 0 ≤ b by omega)
  omega
/-- The weight of pulse p by the first i numbers. -/
def wtK (xs : List Int) : Nat → Int → Int
  | 0, _ => 0
  | i + 1, p => wtK xs i p + (if p % unitF xs i = 0 then 1 else 0)
theorem wtK_bd (xs : List Int) (p : Int) : ∀ i, 0 ≤ wtK xs i p ∧ wtK xs i p ≤ i := by
  intro i
  induction i with
  | zero => simp [wtK]
  | succ i ih => simp only [wtK]; split <;> omega
def wtF (xs : List Int) (p : Int) : Int := wtK xs xs.length p
/-- The weights of the pulses below n. -/
def wtL (xs : List Int) (i n : Nat) : List Int := (List.range n).map fun p : Nat => wtK xs i (p : Int)
theorem wtL_len (xs : List Int) (i n : Nat) : (wtL xs i n).length = n := by simp [wtL]
theorem wtL_get {xs : List Int} {i n p : Nat} (h : p < n) : (wtL xs i n).getD p 0 = wtK xs i (p : Int) := by simp [wtL, List.getD, h]
theorem wtL_snoc (xs : List Int) (i n : Nat) : wtL xs i (n + 1) = wtL xs i n ++ [wtK xs i (n : Int)] := by simp [wtL, List.range_succ]
/-- Within a round: the first j beats of a layer have been counted. -/
def wtJ (xs : List Int) (i n j : Nat) : List Int := (List.range n).map fun p : Nat => wtK xs i (p : Int) + (if (p : Int) % unitF xs i = 0 ∧ (p : Int) / unitF xs i < j then 1 else 0)
theorem wtJ_len (xs : List Int) (i n j : Nat) : (wtJ xs i n j).length = n := by simp [wtJ]
theorem wtJ_get {xs : List Int} {i n j p : Nat} (h : p < n) : (wtJ xs i n j).getD p 0 = wtK xs i (p : Int) + (if (p : Int) % unitF xs i = 0 ∧ (p : Int) / unitF xs i < j then 1 else 0) := by simp [wtJ, List.getD, h]
theorem wtJ_zero {xs : List Int} (h : In27 xs) (i n : Nat) : wtJ xs i n 0 = wtL xs i n := by
  unfold wtJ wtL
  refine List.map_congr_left fun p _ => ?_
  have hu := unit_pos h i
  have : 0 ≤ (p : Int) / unitF xs i := Int.ediv_nonneg (by omega) (by omega)
  rw [if_neg (by omega), Int.add_zero]
theorem wtJ_end {xs : List Int} (h : In27 xs) (i n k : Nat) (hk : (k : Int) * unitF xs i = n) : wtJ xs i n k = wtL xs (i + 1) n := by
  unfold wtJ wtL
  refine List.map_congr_left fun p hp => ?_
  have hu := unit_pos h i
  have hpn := List.mem_range.1 hp
  have : (p : Int) / unitF xs i < k := Int.ediv_lt_of_lt_mul (by omega) (by omega)
  simp only [wtK]
  by_cases h0 : (p : Int) % unitF xs i = 0
  · rw [if_pos ⟨h0, this⟩, if_pos h0]
  · rw [if_neg (fun h1 => h0 h1.1), if_neg h0]
theorem wtJ_set {xs : List Int} (h : In27 xs) (i n j q : Nat) (hq : (q : Int) = (j : Int) * unitF xs i) (hqn : q < n) : (wtJ xs i n j).set q (wtK xs i q + 1) = wtJ xs i n (j + 1) := by
  have hu := unit_pos h i
  apply List.ext_getElem?
  intro p
  by_cases hp : p < n
  · have e2 : (wtJ xs i n (j + 1))[p]? = some (wtK xs i (p : Int) + (if (p : Int) % unitF xs i = 0 ∧ (p : Int) / unitF xs i < ((j + 1 : Nat) : Int) then 1 else 0)) := by
      unfold wtJ; rw [List.getElem?_map, List.getElem?_range hp]; rfl
    rw [e2]
    by_cases hpq : q = p
    · subst hpq
      rw [List.getElem?_set_self (by rw [wtJ_len]; exact hqn)]
      have h0 : (q : Int) % unitF xs i = 0 := by rw [hq]; exact Int.mul_emod_left _ _
      have h1 : (q : Int) / unitF xs i = j := by rw [hq]; exact Int.mul_ediv_cancel _ (by omega)
      rw [if_pos ⟨h0, by omega⟩]
    · rw [List.getElem?_set_ne hpq]
      have e1 : (wtJ xs i n j)[p]? = some (wtK xs i (p : Int) + (if (p : Int) % unitF xs i = 0 ∧ (p : Int) / unitF xs i < (j : Int) then 1 else 0)) := by
        unfold wtJ; rw [List.getElem?_map, List.getElem?_range hp]; rfl
      rw [e1]
      congr 2
      by_cases h0 : (p : Int) % unitF xs i = 0
      · have hpe : (p : Int) / unitF xs i * unitF xs i = p := Int.ediv_mul_cancel (Int.dvd_of_emod_eq_zero h0)
        have hne : ¬ (p : Int) / unitF xs i = j := fun e => by
          rw [e, ← hq] at hpe
          omega
        by_cases h1 : (p : Int) / unitF xs i < (j : Int)
        · rw [if_pos ⟨h0, h1⟩, if_pos ⟨h0, by omega⟩]
        · rw [if_neg (fun h2 => h1 h2.2), if_neg (fun h2 => by have := h2.2; omega)]
      · rw [if_neg (fun h2 => h0 h2.1), if_neg (fun h2 => h0 h2.1)]
  · rw [List.getElem?_eq_none (by rw [List.length_set, wtJ_len]; omega), List.getElem?_eq_none (by rw [wtJ_len]; omega)]

/-- The greatest weight of the k pulses behind p. -/
def moK (xs : List Int) (n p : Int) : Nat → Int
  | 0 => 0
  | k + 1 => max (moK xs n p k) (wtF xs ((p + ((k + 1 : Nat) : Int)) % n))
theorem moK_bd (xs : List Int) (n p : Int) : ∀ k, 0 ≤ moK xs n p k ∧ moK xs n p k ≤ xs.length := by
  intro k
  induction k with
  | zero => simp [moK]
  | succ k ih =>
    have := wtK_bd xs ((p + ((k + 1 : Nat) : Int)) % n) xs.length
    simp only [moK, wtF]
    omega
end Go.Proofs.YtedfmjijemcpaaaDoor
