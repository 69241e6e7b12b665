/- FnOrbits: plain facts: orbit and stabilizer; words of moves. -/
import Derived.Test.YtphpdanohooccaaGreatDoorOrb
import Derived.Test.YtphpdanohooccaaGreatDoorWd
namespace Go.Proofs.YtphpdanohooccaaGreatDoor
open Go.RowKit

/-- How many of the first numbers have a property. -/
def cntP (P : Nat → Bool) : Nat → Nat
  | 0 => 0
  | k + 1 => cntP P k + (if P k = true then 1 else 0)
theorem cntP_add (P : Nat → Bool) (a : Nat) : ∀ b, cntP P (a + b) = cntP P a + cntP (fun j => P (a + j)) b
  | 0 => rfl
  | b + 1 => by rw [← Nat.add_assoc, cntP, cntP_add P a b, cntP, Nat.add_assoc]
theorem cntP_mul {P : Nat → Bool} {p : Nat} (h : ∀ j, P (p + j) = P j) : ∀ q, cntP P (p * q) = q * cntP P p
  | 0 => by simp [cntP]
  | q + 1 => by rw [Nat.mul_succ, Nat.add_comm, cntP_add, show (fun j => P (p + j)) = P from funext h, cntP_mul h q, Nat.succ_mul, Nat.add_comm]
theorem cntP_none {P : Nat → Bool} : ∀ k, (∀ j, j < k → P j = false) → cntP P k = 0
  | 0, _ => rfl
  | k + 1, h => by rw [cntP, cntP_none k fun j hj => h j (by omega), h k (by omega)]; rfl
theorem cntP_one {P : Nat → Bool} {j0 : Nat} (hp : P j0 = true) : ∀ k, j0 < k → (∀ j, j < k → P j = true → j = j0) → cntP P k = 1
  | 0, h, _ => absurd h (by omega)
  | k + 1, h, hu => by
    rw [cntP]
    by_cases e : k = j0
    · subst e
      rw [cntP_none k fun j hj => ?_, hp]
      · rfl
      · cases hj2 : P j with
        | false => rfl
        | true => have := hu j (by omega) hj2; omega
    · rw [cntP_one hp k (by omega) fun j hj => hu j (by omega)]
      cases hk : P k with
      | false => rfl
      | true => exact absurd (hu k (by omega) hk) e
def fixP (n : Nat) (zs xs : List Int) (j : Nat) : Bool := decide (rotL n zs (j : Int) = xs)
theorem stC_split (n : Nat) (xs : List Int) : ∀ k, stC xs (fmL n xs k) = cntP (fixP n xs xs) k + cntP (fixP n (mirL n xs) xs) k
  | 0 => rfl
  | k + 1 => by
    rw [fmL, stC_two, stC_split n xs k, cntP, cntP]
    unfold fixP
    simp only [decide_eq_true_eq]
    omega
theorem fix_per {n p : Nat} {zs : List Int} (xs : List Int) (hn : 1 ≤ n) (h : rotL n zs p = zs) (j : Nat) : fixP n zs xs (p + j) = fixP n zs xs j := by
  have := pd_mul hn h 1 (j : Int)
  unfold fixP
  rw [← this]
  congr 3
  simp
/-- Orbit and stabilizer. -/
theorem ob_st {n : Nat} {xs : List Int} (h : rhyB n xs = true) : obN n xs * stC xs (fmL n xs n) = 2 * n ∧ 1 ≤ obN n xs := by
  have hn := (rhyB_iff h).1
  have hp := pdF_is h
  have hm := pd_mir h hp
  obtain ⟨p, hpe⟩ : ∃ p, p = pdF n xs := ⟨_, rfl⟩
  rw [← hpe] at hp hm
  have h1 : 1 ≤ n := by omega
  have hmb : rhyB n (mirL n xs) = true := mapF_rhy (by omega) (by omega)
  obtain ⟨q, hq⟩ : ∃ q, n = p * q := by
    have e := pd_mul h1 hp.2.2.2 (n / p) ((n % p : Nat) : Int)
    have e2 : (p : Int) * ((n / p : Nat) : Int) + ((n % p : Nat) : Int) = (n : Int) := by exact_mod_cast Nat.div_add_mod n p
    rw [e2, rotL_n h] at e
    have hlt : n % p < p := Nat.mod_lt _ (by have := hp.1; omega)
    have : n % p = 0 := by
      rcases Nat.eq_zero_or_pos (n % p) with h0 | h0
      · exact h0
      · exact absurd e.symm (hp.2.2.1 _ h0 hlt)
    exact ⟨n / p, by have := Nat.div_add_mod n p; omega⟩
  have c1 : cntP (fixP n xs xs) n = q := by
    rw [show cntP (fixP n xs xs) n = cntP (fixP n xs xs) (p * q) from congrArg _ hq, cntP_mul (fix_per xs h1 hp.2.2.2), cntP_one (j0 := 0) (by unfold fixP; rw [decide_eq_true_eq]; exact rotL_zero h) p hp.1, Nat.mul_one]
    intro j hj hf
    unfold fixP at hf
    rw [decide_eq_true_eq] at hf
    rcases Nat.eq_zero_or_pos j with h0 | h0
    · exact h0
    · exact absurd hf (hp.2.2.1 j h0 hj)
  rw [stC_split, c1]
  unfold obN
  rw [← hpe]
  by_cases hb : mirB n xs = true
  · rw [if_pos hb]
    have c2 : cntP (fixP n (mirL n xs) xs) n = q := by
      unfold mirB at hb
      obtain ⟨k, _, hk⟩ := List.any_eq_true.1 hb
      rw [decide_eq_true_eq] at hk
      obtain ⟨j0, hj0, hj1⟩ := below_p h1 hm.2.2.2 hm.1 k
      rw [hk] at hj1
      rw [show cntP (fixP n (mirL n xs) xs) n = cntP (fixP n (mirL n xs) xs) (p * q) from congrArg _ hq, cntP_mul (fix_per xs h1 hm.2.2.2), cntP_one (j0 := j0) (by unfold fixP; rw [decide_eq_true_eq]; exact hj1.symm) p hj0, Nat.mul_one]
      intro j hj hf
      unfold fixP at hf
      rw [decide_eq_true_eq] at hf
      have hf2 := hf.trans hj1
      rcases Nat.lt_trichotomy j j0 with e | e | e
      · exact absurd hf2 (pd_ne hmb hm e hj0)
      · exact e
      · exact absurd hf2.symm (pd_ne hmb hm e hj)
    rw [c2, ← Nat.two_mul, ← Nat.mul_assoc, Nat.mul_comm p 2, Nat.mul_assoc, ← hq]
    exact ⟨rfl, hp.1⟩
  · rw [if_neg hb]
    have c2 : cntP (fixP n (mirL n xs) xs) n = 0 := by
      refine cntP_none n fun j hj => ?_
      unfold fixP
      rw [decide_eq_false_iff_not]
      intro e
      refine hb ?_
      unfold mirB
      exact List.any_eq_true.2 ⟨j, List.mem_range.2 hj, decide_eq_true e⟩
    rw [c2, Nat.add_zero, Nat.mul_assoc, ← hq]
    exact ⟨rfl, by have := hp.1; omega⟩

/- Moves as sums. -/
def aff (n : Nat) (xs : List Int) (v j : Int) : List Int := mapF n xs (fun q => v * q + j)
theorem mapF_mod {n : Nat} {xs : List Int} {f g : Int → Int} (h : ∀ q, f q % (n : Int) = g q % (n : Int)) : mapF n xs f = mapF n xs g := by
  unfold mapF
  congr 1
  funext p
  congr 1
  exact List.map_congr_left fun q _ => h q
theorem mapF_comp {n : Nat} (xs : List Int) (f : Int → Int) {g : Int → Int} (hn : 1 ≤ n) (hg : ∀ a, g (a % (n : Int)) % (n : Int) = g a % (n : Int)) : mapF n (mapF n xs f) g = mapF n xs (fun q => g (f q)) := by
  rw [show mapF n (mapF n xs f) g = setL n (fun p => ((mapF n xs f).map fun q => g q % (n : Int)).contains (p : Int)) from rfl,
    show mapF n xs (fun q => g (f q)) = setL n (fun p => (xs.map fun q => g (f q) % (n : Int)).contains (p : Int)) from rfl]
  refine setL_congr fun p hp => ?_
  rw [Bool.eq_iff_iff]
  simp only [List.contains_iff_mem, List.mem_map]
  constructor
  · rintro ⟨q, hq, e⟩
    obtain ⟨r, hr, hm, rfl⟩ := mem_setL.1 hq
    simp only [List.contains_iff_mem, List.mem_map] at hm
    obtain ⟨x, hx, e2⟩ := hm
    exact ⟨x, hx, by rw [← e, ← e2, hg]⟩
  · rintro ⟨x, hx, e⟩
    have h0 : 0 ≤ f x % (n : Int) := Int.emod_nonneg _ (by omega)
    have h1 : f x % (n : Int) < n := Int.emod_lt_of_pos _ (by omega)
    refine ⟨f x % (n : Int), mem_setL.2 ⟨(f x % (n : Int)).toNat, by omega, ?_, by omega⟩, by rw [hg]; exact e⟩
    simp only [List.contains_iff_mem, List.mem_map]
    exact ⟨x, hx, by omega⟩
theorem aff_aff (n : Nat) (xs : List Int) (v j u i : Int) (hn : 1 ≤ n) : aff n (aff n xs v j) u i = aff n xs (u * v) (u * j + i) := by
  unfold aff
  rw [mapF_comp xs _ hn]
  · congr 1
    funext q
    rw [Int.mul_add, Int.mul_assoc, Int.add_assoc]
  · intro a
    rw [Int.add_emod, Int.mul_emod, Int.emod_emod, ← Int.mul_emod, ← Int.add_emod]
theorem aff_mod {n : Nat} {xs : List Int} {v j u i : Int} (h : v % (n : Int) = u % (n : Int)) (h2 : j % (n : Int) = i % (n : Int)) : aff n xs v j = aff n xs u i := by
  unfold aff
  refine mapF_mod fun q => ?_
  rw [Int.add_emod, Int.mul_emod, h, h2, ← Int.mul_emod, ← Int.add_emod]
theorem aff_id {n : Nat} {xs : List Int} (h : rhyB n xs = true) : aff n xs 1 0 = xs := by
  have := rotL_zero h
  unfold rotL at this
  unfold aff
  rw [← this]
  congr 1
  funext q
  omega
theorem rot_aff (n : Nat) (xs : List Int) (k : Int) : rotL n xs k = aff n xs 1 k := by unfold rotL aff; congr 1; funext q; omega
theorem mir_aff (n : Nat) (xs : List Int) : mirL n xs = aff n xs (-1) 0 := by unfold mirL aff; congr 1; funext q; omega
theorem aff_rhy {n : Nat} {xs : List Int} (v j : Int) (h1 : 1 ≤ n) (h2 : n ≤ 24) : rhyB n (aff n xs v j) = true := mapF_rhy h1 h2

theorem map0 {n : Nat} {xs : List Int} (h : rhyB n xs = true) : mapF n xs (fun p => p + 0) = xs := rotL_zero h
theorem stT (n : Nat) (xs : List Int) : stW n xs 84 = aff n xs 1 1 := rot_aff n xs 1
theorem stM (n : Nat) (xs : List Int) : stW n xs 77 = aff n xs (-1) 0 := mir_aff n xs
theorem stS (n : Nat) (xs : List Int) : stW n xs 83 = otF n xs := rfl
theorem wd_mtmt {n : Nat} {xs : List Int} (h : rhyB n xs = true) : wdG n [77, 84, 77, 84] xs = xs := by
  have hn := (rhyB_iff h).1
  have h1 : 1 ≤ n := by omega
  show stW n (stW n (stW n (stW n xs 77) 84) 77) 84 = xs
  rw [stT, stM, stT, stM, aff_aff _ _ _ _ _ _ h1, aff_aff _ _ _ _ _ _ h1, aff_aff _ _ _ _ _ _ h1]
  exact aff_id h
theorem wd_ss {n : Nat} {xs : List Int} (h : rhyB n xs = true) : wdG n [83, 83] xs = xs := by
  obtain ⟨u, r⟩ := rhy_up h
  show otF n (otF n xs) = xs
  rw [show otF n (otF n xs) = setL n (fun p : Nat => !((otF n xs).contains (p : Int))) from rfl]
  refine Eq.trans (setL_congr fun p hp => ?_) (up_setEq u r).symm
  rw [Bool.eq_iff_iff, Bool.not_eq_true', ← Bool.not_eq_true]
  simp only [List.contains_iff_mem]
  constructor
  · intro hc
    cases hx : xs.contains (p : Int) with
    | true => exact List.contains_iff_mem.1 hx
    | false => exact absurd (mem_setL.2 ⟨p, hp, by rw [hx]; rfl, rfl⟩) hc
  · intro hx hc
    obtain ⟨p', _, h2, h3⟩ := mem_setL.1 hc
    have : p' = p := by omega
    subst this
    rw [List.contains_iff_mem.2 hx] at h2
    exact absurd h2 (by simp)
theorem wd_tsst {n : Nat} {xs : List Int} (h : rhyB n xs = true) : wdG n [84, 83] xs = wdG n [83, 84] xs := by
  obtain ⟨u, r⟩ := rhy_up h
  have hn := (rhyB_iff h).1
  show setL n (fun p : Nat => !((stW n xs 84).contains (p : Int))) = setL n (fun p => ((otF n xs).map fun q => (q + 1) % (n : Int)).contains (p : Int))
  refine setL_congr fun p hp => ?_
  have hp1 : (((p : Int) - 1) % (n : Int) + 1) % (n : Int) = p := by
    rw [Int.emod_add_emod, show (p : Int) - 1 + 1 = p by omega]
    exact Int.emod_eq_of_lt (by omega) (by omega)
  have hq0 : 0 ≤ ((p : Int) - 1) % (n : Int) := Int.emod_nonneg _ (by omega)
  have hq1 : ((p : Int) - 1) % (n : Int) < n := Int.emod_lt_of_pos _ (by omega)
  rw [Bool.eq_iff_iff, Bool.not_eq_true', ← Bool.not_eq_true]
  simp only [List.contains_iff_mem, List.mem_map]
  constructor
  · intro hc
    refine ⟨((p : Int) - 1) % (n : Int), mem_setL.2 ⟨(((p : Int) - 1) % (n : Int)).toNat, by omega, ?_, by omega⟩, hp1⟩
    rw [Bool.not_eq_true', ← Bool.not_eq_true]
    simp only [List.contains_iff_mem]
    intro hx
    refine hc (mem_setL.2 ⟨p, hp, ?_, rfl⟩)
    simp only [List.contains_iff_mem, List.mem_map]
    exact ⟨_, hx, by rw [Int.toNat_of_nonneg hq0]; exact hp1⟩
  · rintro ⟨q, hq, e⟩ hc
    obtain ⟨p', hp', h2, rfl⟩ := mem_setL.1 hq
    obtain ⟨p2, hp2, h3, h4⟩ := mem_setL.1 hc
    have : p2 = p := by omega
    subst this
    simp only [List.contains_iff_mem, List.mem_map] at h3
    obtain ⟨x, hx, e2⟩ := h3
    have hxr := r x hx
    rw [Bool.not_eq_true', ← Bool.not_eq_true] at h2
    refine h2 (List.contains_iff_mem.2 ?_)
    have hxe : (x + 1) % (n : Int) = ((p' : Int) + 1) % (n : Int) := by rw [e2, e]
    have : x = p' := by
      rcases (by omega : x + 1 < (n : Int) ∨ (n : Int) ≤ x + 1) with h5 | h5
      · rw [Int.emod_eq_of_lt (by omega) h5] at hxe
        rcases (by omega : (p' : Int) + 1 < (n : Int) ∨ (n : Int) ≤ (p' : Int) + 1) with h6 | h6
        · rw [Int.emod_eq_of_lt (by omega) h6] at hxe; omega
        · have : (p' : Int) + 1 = n := by omega
          rw [this, Int.emod_self] at hxe; omega
      · have h7 : x + 1 = n := by omega
        rw [h7, Int.emod_self] at hxe
        rcases (by omega : (p' : Int) + 1 < (n : Int) ∨ (n : Int) ≤ (p' : Int) + 1) with h6 | h6
        · rw [Int.emod_eq_of_lt (by omega) h6] at hxe; omega
        · omega
    rw [← this]
    exact hx
end Go.Proofs.YtphpdanohooccaaGreatDoor
