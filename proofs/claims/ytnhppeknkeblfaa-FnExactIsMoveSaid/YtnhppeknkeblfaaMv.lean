/- The rhythms that one move leads to (no program but its numbers). -/
import Derived.Test.YtnhppeknkeblfaaAt
import Derived.Test.YtnhppeknkeblfaaCode
namespace Go.Proofs.Ytnhppeknkeblfaa
open Go.RowKit

/-- The rhythm with beats on the remainders of some numbers. -/
def ofF (n : Nat) (ys : List Int) : List Int := setL n (fun p : Nat => (ys.map (· % (n : Int))).contains (p : Int))
def mv1 (n : Nat) (xs : List Int) (i : Nat) (d : Int) : List (List Int) := if xs.contains ((xs.getD i 0 + d) % (n : Int)) = true then [] else [ofF n (xs.set i (xs.getD i 0 + d))]
def mvL (n : Nat) (xs : List Int) : Nat → List (List Int)
  | 0 => []
  | i + 1 => mvL n xs i ++ mv1 n xs i 1 ++ mv1 n xs i (-1)
theorem ofF_rhy {n : Nat} (ys : List Int) (h1 : 1 ≤ n) (h2 : n ≤ 24) : rhyB n (ofF n ys) = true := rhyB_setL n _ h1 h2
theorem mv1_rhy {n : Nat} {xs : List Int} {i : Nat} {d : Int} (h1 : 1 ≤ n) (h2 : n ≤ 24) : ∀ z ∈ mv1 n xs i d, rhyB n z = true := by
  intro z hz
  unfold mv1 at hz
  split at hz
  · simp at hz
  · simp only [List.mem_cons, List.not_mem_nil, or_false] at hz
    rw [hz]
    exact ofF_rhy _ h1 h2
theorem mv1_len (n : Nat) (xs : List Int) (i : Nat) (d : Int) : (mv1 n xs i d).length ≤ 1 := by
  unfold mv1
  split <;> simp
theorem mvL_rhy {n : Nat} {xs : List Int} (h1 : 1 ≤ n) (h2 : n ≤ 24) : ∀ i, ∀ z ∈ mvL n xs i, rhyB n z = true
  | 0 => by simp [mvL]
  | i + 1 => by
    intro z hz
    rw [mvL, List.mem_append, List.mem_append] at hz
    rcases hz with (hz | hz) | hz
    · exact mvL_rhy h1 h2 i z hz
    · exact mv1_rhy h1 h2 z hz
    · exact mv1_rhy h1 h2 z hz
theorem mvL_len (n : Nat) (xs : List Int) : ∀ i, (mvL n xs i).length ≤ 2 * i
  | 0 => by simp [mvL]
  | i + 1 => by
    have h1 := mvL_len n xs i
    have h2 := mv1_len n xs i 1
    have h3 := mv1_len n xs i (-1)
    rw [mvL, List.length_append, List.length_append]
    omega
/-- The reference sets the remainder itself. -/
theorem ofF_set {n : Nat} {xs : List Int} (hb : rhyB n xs = true) (i : Nat) (v : Int) : setL n (fun p : Nat => (xs.set i (v % (n : Int))).contains (p : Int)) = ofF n (xs.set i v) := by
  unfold ofF
  have e : (xs.set i v).map (· % (n : Int)) = xs.set i (v % (n : Int)) := by
    rw [List.map_set]
    congr 1
    have h := (rhy_up hb).2
    conv => rhs; rw [← List.map_id xs]
    refine List.map_congr_left (fun x hx => ?_)
    have := h x hx
    exact Int.emod_eq_of_lt this.1 this.2
  rw [e]
theorem codeH_bit (P : Nat → Bool) : ∀ m p, p < m → codeH P m / 2 ^ (m - 1 - p) % 2 = if P p = true then 1 else 0
  | 0, p, h => by omega
  | m + 1, p, h => by
    rw [codeH]
    by_cases e : p = m
    · subst e
      rw [show p + 1 - 1 - p = 0 by omega, Nat.pow_zero, Nat.div_one]
      split <;> omega
    · rw [show m + 1 - 1 - p = (m - 1 - p) + 1 by omega, Nat.pow_succ, Nat.mul_comm (2 ^ (m - 1 - p)) 2, ← Nat.div_div_eq_div_mul]
      have e2 : (2 * codeH P m + if P m = true then 1 else 0) / 2 = codeH P m := by split <;> omega
      rw [e2]
      exact codeH_bit P m p (by omega)
/-- A rhythm is told by its number. -/
theorem at_code {n : Nat} {z : List Int} (h : rhyB n z = true) : atL n (codeN n z) = z := by
  obtain ⟨h1, h2⟩ := rhy_up h
  conv => rhs; rw [up_setEq h1 h2]
  unfold atL
  refine setL_congr (fun p hp => ?_)
  have hb := codeH_bit (inL z) n p hp
  unfold atP codeN
  rw [hb]
  show _ = inL z p
  cases inL z p <;> simp
/-- What the program makes of the numbers. -/
def mvZ (n : Nat) (xs : List Int) : List (List Int) := ((colF ((mvL n xs xs.length).map fun z => (codeN n z : Int))).reverse).map fun c => atL n c.toNat
theorem mvZ_mem {n : Nat} {xs : List Int} (h1 : 1 ≤ n) (h2 : n ≤ 24) (z : List Int) : z ∈ mvZ n xs ↔ z ∈ mvL n xs xs.length := by
  unfold mvZ
  simp only [List.mem_map, List.mem_reverse, (colF_up _).2]
  constructor
  · rintro ⟨c, ⟨y, hy, rfl⟩, rfl⟩
    rw [Int.toNat_natCast, at_code (mvL_rhy h1 h2 _ y hy)]
    exact hy
  · intro h
    exact ⟨_, ⟨z, h, rfl⟩, by rw [Int.toNat_natCast, at_code (mvL_rhy h1 h2 _ z h)]⟩
def imF (n : Int) (xs : List Int) (m : Int) (ys : List Int) : Bool := rhyB n xs && (rhyB m ys && (decide (n = m) && decide (ys ∈ mvL n.toNat xs xs.length)))
end Go.Proofs.Ytnhppeknkeblfaa
