/- How many forms a rhythm has: plain law, and the contract of the program's OrbitSize. -/
import Derived.Test.YtphpdanohooccaaGreatDoorStab
namespace Go.Proofs.YtphpdanohooccaaGreatDoor
open Go.RowKit

theorem rotL_zero {n : Nat} {xs : List Int} (h : rhyB n xs = true) : rotL n xs 0 = xs := by
  obtain ⟨hu, hr⟩ := rhy_up h
  have e : (xs.map fun q => (q + 0) % (n : Int)) = xs := by
    conv => rhs; rw [← List.map_id xs]
    apply List.map_congr_left
    intro q hq
    have := hr q hq
    rw [Int.add_zero, Int.emod_eq_of_lt (by omega) (by omega)]
    rfl
  unfold rotL mapF
  rw [e]
  exact (up_setEq hu hr).symm
theorem colF_len_nodup {ys zs : List Int} (hd : zs.Nodup) (hm : ∀ x, x ∈ ys ↔ x ∈ zs) : (colF ys).length = zs.length := by
  have hs : (zs.mergeSort fun x y => decide (x ≤ y)).Pairwise (· ≤ ·) := by
    have := List.pairwise_mergeSort (le := fun x y : Int => decide (x ≤ y)) (fun a b c h1 h2 => by simp at *; omega) (fun a b => by simp; omega) zs
    exact this.imp (fun h => of_decide_eq_true h)
  have hp := List.mergeSort_perm zs (fun x y => decide (x ≤ y))
  have hn : (zs.mergeSort fun x y => decide (x ≤ y)).Nodup := hp.nodup_iff.2 hd
  have hu : Up (zs.mergeSort fun x y => decide (x ≤ y)) := (hs.and hn).imp (fun h => by have := h.1; have := h.2; omega)
  have e : colF ys = zs.mergeSort fun x y => decide (x ≤ y) := up_ext (colF_up ys).1 hu fun x => by rw [(colF_up ys).2, List.mem_mergeSort]; exact hm x
  rw [e, List.length_mergeSort]
theorem code_inj {n : Nat} {xs ys : List Int} (h : rhyB n xs = true) (h2 : rhyB n ys = true) (e : codeN n xs = codeN n ys) : xs = ys := by
  obtain ⟨u1, r1⟩ := rhy_up h
  obtain ⟨u2, r2⟩ := rhy_up h2
  rw [up_setEq u1 r1, up_setEq u2 r2]
  exact setL_congr fun p hp => codeH_inj e p hp
theorem rotL_rot (n : Nat) (xs : List Int) (j k : Int) (hn : 1 ≤ n) : rotL n (rotL n xs j) k = rotL n xs (j + k) := by
  have := rotL_mapF n xs (fun p => p + j) k hn
  unfold rotL at this ⊢
  rw [this]
  congr 1
  funext q
  omega
theorem rotL_mod (n : Nat) (xs : List Int) (k : Int) : rotL n xs (k % (n : Int)) = rotL n xs k := by
  unfold rotL mapF
  congr 1
  funext p
  congr 1
  apply List.map_congr_left
  intro q _
  exact Int.add_emod_emod _ _ _
theorem rotL_n {n : Nat} {xs : List Int} (h : rhyB n xs = true) : rotL n xs n = xs := by
  rw [← rotL_mod, Int.emod_self, rotL_zero h]
theorem neg_mod (a n : Int) : (-(a % n)) % n = (-a) % n := by
  have h := Int.mul_ediv_add_emod a n
  rw [show -(a % n) = -a + n * (a / n) by omega, Int.add_mul_emod_self_left]
theorem mirL_rot (n : Nat) (xs : List Int) (k : Int) (hn : 1 ≤ n) : mirL n (rotL n xs k) = rotL n (mirL n xs) (-k) := by
  unfold mirL
  rw [rotL_mapF n xs _ (-k) hn]
  unfold rotL
  rw [show mapF n (mapF n xs (fun p => p + k)) (fun p => -p) = setL n (fun p => ((mapF n xs (fun p => p + k)).map fun q => (-q) % (n : Int)).contains (p : Int)) from rfl,
    show mapF n xs (fun q => -q + -k) = setL n (fun p => (xs.map fun q => (-q + -k) % (n : Int)).contains (p : Int)) from rfl]
  refine setL_congr fun p hp => ?_
  have key : ∀ x : Int, (-((x + k) % (n : Int))) % (n : Int) = (-x + -k) % (n : Int) := fun x => by
    rw [neg_mod, show -(x + k) = -x + -k by omega]
  rw [Bool.eq_iff_iff]
  simp only [List.contains_iff_mem, List.mem_map]
  constructor
  · rintro ⟨q, hq, e⟩
    obtain ⟨r, hr, hm, rfl⟩ := mem_setL.1 hq
    simp only [List.contains_iff_mem, List.mem_map] at hm
    obtain ⟨x, hx, e2⟩ := hm
    exact ⟨x, hx, by rw [← e, ← e2, key]⟩
  · rintro ⟨x, hx, e⟩
    have h0 : 0 ≤ (x + k) % (n : Int) := Int.emod_nonneg _ (by omega)
    have h1 : (x + k) % (n : Int) < n := Int.emod_lt_of_pos _ (by omega)
    refine ⟨(x + k) % (n : Int), mem_setL.2 ⟨((x + k) % (n : Int)).toNat, by omega, ?_, by omega⟩, ?_⟩
    · simp only [List.contains_iff_mem, List.mem_map]
      exact ⟨x, hx, by omega⟩
    · rw [← e, key]
theorem mirL_mir {n : Nat} {xs : List Int} (h : rhyB n xs = true) : mirL n (mirL n xs) = xs := by
  obtain ⟨hu, hr⟩ := rhy_up h
  have hn := (rhyB_iff h).1
  refine up_ext (up_setL _ _) hu fun x => ?_
  unfold mirL mapF
  rw [mem_setL]
  simp only [List.contains_iff_mem, List.mem_map, mem_setL]
  have key : ∀ y : Int, 0 ≤ y → y < n → (-((-y) % (n : Int))) % (n : Int) = y := fun y h0 h1 => by
    rw [neg_mod, Int.neg_neg, Int.emod_eq_of_lt h0 h1]
  constructor
  · rintro ⟨p, hp, ⟨q, ⟨r, hr2, ⟨y, hy, e2⟩, rfl⟩, e⟩, rfl⟩
    have := hr y hy
    rw [← e, ← e2, key y this.1 this.2]
    exact hy
  · intro hx
    have := hr x hx
    have h0 : 0 ≤ (-x) % (n : Int) := Int.emod_nonneg _ (by omega)
    have h1 : (-x) % (n : Int) < n := Int.emod_lt_of_pos _ (by omega)
    refine ⟨x.toNat, by omega, ⟨(-x) % (n : Int), ⟨((-x) % (n : Int)).toNat, by omega, ⟨x, hx, by omega⟩, by omega⟩, ?_⟩, by omega⟩
    rw [key x this.1 this.2]
    omega

/-- p is the period of a rhythm. -/
def IsPd (n : Nat) (xs : List Int) (p : Nat) : Prop := 1 ≤ p ∧ p ≤ n ∧ (∀ j : Nat, 1 ≤ j → j < p → rotL n xs j ≠ xs) ∧ rotL n xs p = xs
theorem IsPd.uniq {n : Nat} {xs : List Int} {p q : Nat} (h : IsPd n xs p) (k : IsPd n xs q) : p = q := by
  rcases Nat.lt_trichotomy p q with e | e | e
  · exact absurd h.2.2.2 (k.2.2.1 p h.1 e)
  · exact e
  · exact absurd k.2.2.2 (h.2.2.1 q k.1 e)
def pdA (n : Nat) (xs : List Int) : Nat → Nat
  | 0 => n
  | f + 1 => if rotL n xs (n - (f + 1) : Nat) = xs then n - (f + 1) else pdA n xs f
def pdF (n : Nat) (xs : List Int) : Nat := pdA n xs (n - 1)
theorem pdA_is {n : Nat} {xs : List Int} (h : rhyB n xs = true) : ∀ f, f + 1 ≤ n → (∀ j : Nat, 1 ≤ j → j < n - f → rotL n xs j ≠ xs) → IsPd n xs (pdA n xs f)
  | 0, hf, hj => ⟨hf, Nat.le_refl _, hj, rotL_n h⟩
  | f + 1, hf, hj => by
    rw [pdA]
    split
    · exact ⟨by omega, by omega, hj, by assumption⟩
    · rename_i hne
      refine pdA_is h f (by omega) fun j h1 h2 => ?_
      by_cases e : j = n - (f + 1)
      · rw [e]; exact hne
      · exact hj j h1 (by omega)
theorem pdF_is {n : Nat} {xs : List Int} (h : rhyB n xs = true) : IsPd n xs (pdF n xs) := by
  have hn := (rhyB_iff h).1
  exact pdA_is h (n - 1) (by omega) fun j h1 h2 => absurd h2 (by omega)

theorem pd_mul {n : Nat} {xs : List Int} (hn : 1 ≤ n) {p : Nat} (h : rotL n xs p = xs) : ∀ (q : Nat) (r : Int), rotL n xs (p * q + r) = rotL n xs r
  | 0, r => by rw [show ((p : Int) * (0 : Nat) + r) = r by simp]
  | q + 1, r => by
    have := pd_mul hn h q r
    rw [show (p : Int) * ((q + 1 : Nat) : Int) + r = p + (p * q + r) by rw [Int.natCast_add, Int.mul_add]; simp; omega, ← rotL_rot n xs _ _ hn, h, this]
/-- Rotations from a to b below the period are different. -/
theorem pd_ne {n : Nat} {xs : List Int} (hb : rhyB n xs = true) {p : Nat} (h : IsPd n xs p) {i j : Nat} (hij : i < j) (hj : j < p) : rotL n xs i ≠ rotL n xs j := fun e => by
  have hn := (rhyB_iff hb).1
  have := congrArg (fun z => rotL n z (-(i : Int))) e
  simp only [rotL_rot n xs _ _ (show 1 ≤ n by omega)] at this
  rw [show (i : Int) + -i = 0 by omega, rotL_zero hb, show (j : Int) + -i = ((j - i : Nat) : Int) by omega] at this
  exact h.2.2.1 (j - i) (by omega) (by omega) this.symm
/-- The period of the mirror. -/
theorem pd_mir {n : Nat} {xs : List Int} (hb : rhyB n xs = true) {p : Nat} (h : IsPd n xs p) : IsPd n (mirL n xs) p := by
  have hn := (rhyB_iff hb).1
  have hmb : rhyB n (mirL n xs) = true := mapF_rhy (by omega) (by omega)
  have one : ∀ j : Nat, rotL n xs j = xs ↔ rotL n (mirL n xs) j = mirL n xs := fun j => by
    constructor
    · intro e
      have h1 := congrArg (mirL n) e
      rw [mirL_rot n xs j (by omega)] at h1
      have h2 := congrArg (fun z => rotL n z (j : Int)) h1
      simp only [rotL_rot n _ _ _ (show 1 ≤ n by omega)] at h2
      rw [show -(j : Int) + j = 0 by omega, rotL_zero hmb] at h2
      exact h2.symm
    · intro e
      have h1 := congrArg (mirL n) e
      rw [mirL_rot n _ j (by omega), mirL_mir hb] at h1
      have h2 := congrArg (fun z => rotL n z (j : Int)) h1
      simp only [rotL_rot n _ _ _ (show 1 ≤ n by omega)] at h2
      rw [show -(j : Int) + j = 0 by omega, rotL_zero hb] at h2
      exact h2.symm
  exact ⟨h.1, h.2.1, fun j h1 h2 e => h.2.2.1 j h1 h2 ((one j).2 e), (one p).1 h.2.2.2⟩
theorem fmL_mem (n : Nat) (xs : List Int) (z : List Int) : ∀ k, z ∈ fmL n xs k ↔ ∃ j : Nat, j < k ∧ (z = rotL n xs j ∨ z = rotL n (mirL n xs) j)
  | 0 => by simp [fmL]
  | k + 1 => by
    rw [fmL, List.mem_append, fmL_mem n xs z k]
    simp only [List.mem_cons, List.not_mem_nil, or_false]
    constructor
    · rintro (⟨j, h1, h2⟩ | h)
      · exact ⟨j, by omega, h2⟩
      · exact ⟨k, by omega, h⟩
    · rintro ⟨j, h1, h2⟩
      by_cases e : j = k
      · subst e; exact Or.inr h2
      · exact Or.inl ⟨j, by omega, h2⟩
def mirB (n : Nat) (xs : List Int) : Bool := (List.range n).any fun k => decide (rotL n (mirL n xs) k = xs)
def obN (n : Nat) (xs : List Int) : Nat := if mirB n xs = true then pdF n xs else 2 * pdF n xs
def cdL (n : Nat) (xs : List Int) : List Int := (fmL n xs n).map fun z => (codeN n z : Int)
theorem below_p {n p : Nat} {xs : List Int} (hn : 1 ≤ n) (h : rotL n xs p = xs) (hp : 1 ≤ p) (k : Nat) : ∃ j, j < p ∧ rotL n xs k = rotL n xs j := by
  refine ⟨k % p, Nat.mod_lt _ (by omega), ?_⟩
  have := pd_mul hn h (k / p) ((k % p : Nat) : Int)
  rw [← this]
  congr 1
  have := Nat.div_add_mod k p
  exact_mod_cast this.symm
theorem orb_len {n : Nat} {xs : List Int} (hb : rhyB n xs = true) : (colF (cdL n xs)).length = obN n xs := by
  have hn := (rhyB_iff hb).1
  obtain ⟨ms, hms⟩ : ∃ ms, ms = mirL n xs := ⟨_, rfl⟩
  have hmb : rhyB n ms = true := by rw [hms]; exact mapF_rhy (by omega) (by omega)
  have hp := pdF_is hb
  have hq : IsPd n ms (pdF n xs) := by rw [hms]; exact pd_mir hb hp
  obtain ⟨p, hpp⟩ : ∃ p, p = pdF n xs := ⟨_, rfl⟩
  unfold obN
  rw [← hpp] at hp hq ⊢
  have hr : ∀ k : Int, rhyB n (rotL n xs k) = true := fun k => mapF_rhy (by omega) (by omega)
  have hr2 : ∀ k : Int, rhyB n (rotL n ms k) = true := fun k => mapF_rhy (by omega) (by omega)
  have hmem : ∀ x, x ∈ cdL n xs ↔ ∃ j : Nat, j < p ∧ (x = (codeN n (rotL n xs j) : Int) ∨ x = (codeN n (rotL n ms j) : Int)) := fun x => by
    unfold cdL
    simp only [List.mem_map, fmL_mem, ← hms]
    constructor
    · rintro ⟨z, ⟨j, _, rfl | rfl⟩, rfl⟩
      · obtain ⟨i, h1, h2⟩ := below_p (by omega) hp.2.2.2 hp.1 j
        exact ⟨i, h1, Or.inl (by rw [h2])⟩
      · obtain ⟨i, h1, h2⟩ := below_p (by omega) hq.2.2.2 hq.1 j
        exact ⟨i, h1, Or.inr (by rw [h2])⟩
    · rintro ⟨j, hj, rfl | rfl⟩
      · exact ⟨_, ⟨j, by have := hp.2.1; omega, Or.inl rfl⟩, rfl⟩
      · exact ⟨_, ⟨j, by have := hp.2.1; omega, Or.inr rfl⟩, rfl⟩
  have nd : ∀ ys : List Int, rhyB n ys = true → IsPd n ys p → ((List.range p).map fun j : Nat => (codeN n (rotL n ys j) : Int)).Nodup := fun ys hy hpy => by
    unfold List.Nodup
    rw [List.pairwise_map]
    refine List.Pairwise.imp_of_mem (fun {a b} ha hb hab e => ?_) List.pairwise_lt_range
    have e2 : codeN n (rotL n ys a) = codeN n (rotL n ys b) := by exact_mod_cast e
    exact pd_ne hy hpy hab (List.mem_range.1 hb) (code_inj (mapF_rhy (by omega) (by omega)) (mapF_rhy (by omega) (by omega)) e2)
  by_cases hm : mirB n xs = true
  · rw [if_pos hm]
    unfold mirB at hm
    rw [List.any_eq_true] at hm
    obtain ⟨k, hk, ek⟩ := hm
    have ek := of_decide_eq_true ek
    rw [← hms] at ek
    have e1 := colF_len_nodup (ys := cdL n xs) (nd xs hb hp) fun x => by
      rw [hmem x, List.mem_map]
      constructor
      · rintro ⟨j, hj, rfl | rfl⟩
        · exact ⟨j, List.mem_range.2 hj, rfl⟩
        · have h1 : rotL n ms (j : Int) = rotL n xs ((j : Int) - k) := by rw [← ek, rotL_rot n ms _ _ (by omega)]; congr 1; omega
          have h2 : rotL n xs ((j : Int) - k) = rotL n xs (((((j : Int) - k) % (n : Int)).toNat : Nat) : Int) := by
            rw [Int.toNat_of_nonneg (Int.emod_nonneg _ (by omega)), rotL_mod]
          obtain ⟨i, h3, h4⟩ := below_p (n := n) (xs := xs) (by omega) hp.2.2.2 hp.1 (((j : Int) - k) % (n : Int)).toNat
          exact ⟨i, List.mem_range.2 h3, by rw [h1, h2, h4]⟩
      · rintro ⟨j, hj, rfl⟩
        exact ⟨j, List.mem_range.1 hj, Or.inl rfl⟩
    rw [e1, List.length_map, List.length_range]
  · rw [if_neg hm]
    have e1 := colF_len_nodup (ys := cdL n xs) (zs := ((List.range p).map fun j : Nat => (codeN n (rotL n xs j) : Int)) ++ ((List.range p).map fun j : Nat => (codeN n (rotL n ms j) : Int))) ?_ fun x => by
      rw [hmem x, List.mem_append, List.mem_map, List.mem_map]
      constructor
      · rintro ⟨j, hj, rfl | rfl⟩
        · exact Or.inl ⟨j, List.mem_range.2 hj, rfl⟩
        · exact Or.inr ⟨j, List.mem_range.2 hj, rfl⟩
      · rintro (⟨j, hj, rfl⟩ | ⟨j, hj, rfl⟩)
        · exact ⟨j, List.mem_range.1 hj, Or.inl rfl⟩
        · exact ⟨j, List.mem_range.1 hj, Or.inr rfl⟩
    · rw [e1, List.length_append, List.length_map, List.length_map, List.length_range]; omega
    · rw [List.nodup_append]
      refine ⟨nd xs hb hp, nd ms hmb hq, ?_⟩
      intro a ha b hb' e
      rw [List.mem_map] at ha hb'
      obtain ⟨i, hi, rfl⟩ := ha
      obtain ⟨j, hj, rfl⟩ := hb'
      have e2 : codeN n (rotL n xs i) = codeN n (rotL n ms j) := by exact_mod_cast e
      have e3 := code_inj (hr i) (hr2 j) e2
      have h2 := congrArg (fun z => rotL n z (-(i : Int))) e3
      simp only [rotL_rot n _ _ _ (show 1 ≤ n by omega)] at h2
      rw [show (i : Int) + -i = 0 by omega, rotL_zero hb] at h2
      refine hm ?_
      unfold mirB
      rw [List.any_eq_true]
      refine ⟨(((j : Int) + -i) % (n : Int)).toNat, List.mem_range.2 ?_, ?_⟩
      · have h1 : ((j : Int) + -i) % (n : Int) < n := Int.emod_lt_of_pos _ (by omega)
        have h0 : 0 ≤ ((j : Int) + -i) % (n : Int) := Int.emod_nonneg _ (by omega)
        omega
      · rw [Int.toNat_of_nonneg (Int.emod_nonneg _ (by omega)), rotL_mod, ← hms, ← h2]
        exact decide_eq_true rfl
def obF (n : Int) (xs : List Int) : Int := if rhyB n xs = true then (obN n.toNat xs : Nat) else 0
end Go.Proofs.YtphpdanohooccaaGreatDoor
