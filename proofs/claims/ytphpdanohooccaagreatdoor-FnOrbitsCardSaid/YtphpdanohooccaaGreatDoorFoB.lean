/- FnOrbits: plain facts: the class of a stretched rhythm. -/
import Derived.Test.YtphpdanohooccaaGreatDoorFoA
import Derived.Test.YtphpdanohooccaaGreatDoorSameC
namespace Go.Proofs.YtphpdanohooccaaGreatDoor
open Go.RowKit

theorem maxR_ge (n : Nat) (xs ys : List Int) : codeN n xs ≤ codeN n (maxR n xs ys) ∧ codeN n ys ≤ codeN n (maxR n xs ys) := by
  unfold maxR
  split
  · exact ⟨by omega, Nat.le_refl _⟩
  · exact ⟨Nat.le_refl _, by omega⟩
theorem maxR_or (n : Nat) (xs ys : List Int) : maxR n xs ys = xs ∨ maxR n xs ys = ys := by
  unfold maxR
  split
  · exact Or.inr rfl
  · exact Or.inl rfl
theorem lr_mem (n : Nat) (zs : List Int) : ∀ k, ∃ j : Nat, lrF n zs k = rotL n zs j
  | 0 => ⟨0, rfl⟩
  | k + 1 => by
    obtain ⟨j, hj⟩ := lr_mem n zs k
    rw [lrF]
    rcases maxR_or n (lrF n zs k) (rotL n zs k) with e | e
    · exact ⟨j, by rw [e, hj]⟩
    · exact ⟨k, e⟩
theorem lr_ge (n : Nat) (zs : List Int) : ∀ k (i : Nat), i < k → codeN n (rotL n zs i) ≤ codeN n (lrF n zs k)
  | 0, i, h => absurd h (by omega)
  | k + 1, i, h => by
    rw [lrF]
    by_cases e : i = k
    · subst e; exact (maxR_ge _ _ _).2
    · exact Nat.le_trans (lr_ge n zs k i (by omega)) (maxR_ge _ _ _).1
theorem lf_mem (n : Nat) (zs : List Int) (hn : 1 ≤ n) : ∃ (s : Int) (j : Nat), (s = 1 ∨ s = -1) ∧ lfF n zs = aff n zs s j := by
  unfold lfF
  rcases maxR_or n (lrF n zs n) (lrF n (mirL n zs) n) with e | e
  · obtain ⟨j, hj⟩ := lr_mem n zs n
    exact ⟨1, j, Or.inl rfl, by rw [e, hj, rot_aff]⟩
  · obtain ⟨j, hj⟩ := lr_mem n (mirL n zs) n
    refine ⟨-1, j, Or.inr rfl, ?_⟩
    rw [e, hj, rot_aff, mir_aff, aff_aff _ _ _ _ _ _ hn]
    congr 1
    omega
theorem lf_ge (n : Nat) (zs : List Int) (i : Nat) (hi : i < n) : codeN n (rotL n zs i) ≤ codeN n (lfF n zs) := Nat.le_trans (lr_ge n zs n i hi) (maxR_ge _ _ _).1
/-- The forms among which the class is. -/
def inC (n : Nat) (xs z : List Int) : Prop := ∃ v j : Int, Int.gcd v n = 1 ∧ z = aff n xs v j
def topC (n : Nat) (xs z : List Int) : Prop := inC n xs z ∧ ∀ y, inC n xs y → codeN n y ≤ codeN n z
theorem topC.uniq {n : Nat} {xs z y : List Int} (h1 : 1 ≤ n) (h2 : n ≤ 24) (h : topC n xs z) (k : topC n xs y) : z = y := by
  have a := h.2 y k.1
  have b := k.2 z h.1
  obtain ⟨⟨v, j, _, rfl⟩, _⟩ := h
  obtain ⟨⟨u, i, _, rfl⟩, _⟩ := k
  exact code_inj (aff_rhy v j h1 h2) (aff_rhy u i h1 h2) (by omega)
theorem cl_mem (n : Nat) (xs : List Int) (us : List Int) : clF n xs us = lfF n xs ∨ ∃ u ∈ us, clF n xs us = lfF n (strL n xs u) := by
  obtain ⟨m, hm⟩ : ∃ m, m = us.length := ⟨_, rfl⟩
  induction m generalizing us with
  | zero =>
    have : us = [] := List.eq_nil_of_length_eq_zero hm.symm
    subst this
    exact Or.inl rfl
  | succ m ih =>
    rcases List.eq_nil_or_concat us with rfl | ⟨vs, u, rfl⟩
    · simp at hm
    · rw [List.concat_eq_append] at hm ⊢
      rw [clF_snoc]
      rcases maxR_or n (clF n xs vs) (lfF n (strL n xs u)) with e | e
      · rw [e]
        rcases ih vs (by rw [List.length_append] at hm; simp at hm; exact hm) with h | ⟨q, hq, h⟩
        · exact Or.inl h
        · exact Or.inr ⟨q, by simp [hq], h⟩
      · exact Or.inr ⟨u, by simp, e⟩
theorem cl_ge (n : Nat) (xs : List Int) (us : List Int) : codeN n (lfF n xs) ≤ codeN n (clF n xs us) ∧ ∀ u ∈ us, codeN n (lfF n (strL n xs u)) ≤ codeN n (clF n xs us) := by
  obtain ⟨m, hm⟩ : ∃ m, m = us.length := ⟨_, rfl⟩
  induction m generalizing us with
  | zero =>
    have : us = [] := List.eq_nil_of_length_eq_zero hm.symm
    subst this
    exact ⟨Nat.le_refl _, fun u hu => absurd hu (by simp)⟩
  | succ m ih =>
    rcases List.eq_nil_or_concat us with rfl | ⟨vs, u, rfl⟩
    · simp at hm
    · rw [List.concat_eq_append] at hm ⊢
      rw [clF_snoc]
      have ih2 := ih vs (by rw [List.length_append] at hm; simp at hm; exact hm)
      have hg := maxR_ge n (clF n xs vs) (lfF n (strL n xs u))
      refine ⟨Nat.le_trans ih2.1 hg.1, fun q hq => ?_⟩
      rcases List.mem_append.1 hq with h | h
      · exact Nat.le_trans (ih2.2 q h) hg.1
      · rw [List.mem_singleton.1 h]; exact hg.2
theorem gcd_mod {v : Int} {n : Nat} (h : Int.gcd v n = 1) : Int.gcd (v % (n : Int)) n = 1 := by
  have a : ((Int.gcd (v % (n : Int)) n : Nat) : Int) ∣ v % (n : Int) := Int.gcd_dvd_left ..
  have b : ((Int.gcd (v % (n : Int)) n : Nat) : Int) ∣ (n : Int) := Int.gcd_dvd_right ..
  have c : ((Int.gcd (v % (n : Int)) n : Nat) : Int) ∣ v := by
    have := Int.dvd_add (Int.dvd_trans b (Int.dvd_mul_right (n : Int) (v / (n : Int)))) a
    rwa [Int.mul_ediv_add_emod] at this
  have d := Int.dvd_coe_gcd c b
  rw [h] at d
  exact Nat.dvd_one.1 (Int.natCast_dvd_natCast.1 d)
theorem uL_gcd {n : Nat} {u : Int} (h : u ∈ uL n (n + 1)) : Int.gcd u n = 1 := by
  unfold uL at h
  simp only [List.mem_map, List.mem_filter] at h
  obtain ⟨p, ⟨_, hp⟩, rfl⟩ := h
  unfold isU at hp
  rw [Bool.and_eq_true, decide_eq_true_eq] at hp
  have h2 := hp.2
  unfold gcdF at h2
  rw [Int.toNat_natCast, Int.toNat_natCast] at h2
  show Nat.gcd p n = 1
  exact_mod_cast h2
theorem uL_of {n : Nat} (hn : 2 ≤ n) {v : Int} (h : Int.gcd v n = 1) : v % (n : Int) ∈ uL n (n + 1) := by
  have h0 : 0 ≤ v % (n : Int) := Int.emod_nonneg _ (by omega)
  have h1 : v % (n : Int) < n := Int.emod_lt_of_pos _ (by omega)
  obtain ⟨p, hp⟩ := Int.eq_ofNat_of_zero_le h0
  have hg : Int.gcd (v % (n : Int)) n = 1 := gcd_mod h
  rw [hp] at hg h1 ⊢
  have hg2 : Nat.gcd p n = 1 := hg
  unfold uL
  simp only [List.mem_map, List.mem_filter, List.mem_range]
  refine ⟨p, ⟨by omega, ?_⟩, rfl⟩
  have hp0 : p ≠ 0 := by
    rintro rfl
    rw [Nat.gcd_zero_left] at hg2
    omega
  unfold isU
  rw [Bool.and_eq_true, decide_eq_true_eq]
  refine ⟨inB_iff.2 ?_, ?_⟩
  · omega
  · unfold gcdF
    rw [Int.toNat_natCast, Int.toNat_natCast, hg2]
    rfl
theorem str_aff (n : Nat) (xs : List Int) (u : Int) : strL n xs u = aff n xs u 0 := by unfold strL aff; congr 1; funext q; omega
theorem gcd_mul_one {a b : Int} {n : Nat} (h : Int.gcd a n = 1) (k : Int.gcd b n = 1) : Int.gcd (a * b) n = 1 := by
  have h' : Nat.Coprime a.natAbs n := h
  have k' : Nat.Coprime b.natAbs n := k
  show Nat.gcd (a * b).natAbs n = 1
  rw [Int.natAbs_mul]
  exact Nat.Coprime.mul_left h' k'
theorem gcd_sign {s : Int} {n : Nat} (h : s = 1 ∨ s = -1) : Int.gcd s n = 1 := by
  rcases h with rfl | rfl <;> simp [Int.gcd]
/-- The class is the latest of its forms. -/
theorem cls_top {n : Nat} {xs : List Int} (h : rhyB n xs = true) : topC n xs (clF n xs (uL n (n + 1))) := by
  have hn := (rhyB_iff h).1
  have h1 : 1 ≤ n := by omega
  constructor
  · rcases cl_mem n xs (uL n (n + 1)) with e | ⟨u, hu, e⟩
    · obtain ⟨s, j, hs, e2⟩ := lf_mem n xs h1
      exact ⟨s, j, gcd_sign hs, by rw [e, e2]⟩
    · obtain ⟨s, j, hs, e2⟩ := lf_mem n (strL n xs u) h1
      refine ⟨s * u, s * 0 + j, gcd_mul_one (gcd_sign hs) (uL_gcd hu), ?_⟩
      rw [e, e2, str_aff, aff_aff _ _ _ _ _ _ h1]
  · rintro y ⟨v, j, hv, rfl⟩
    have hg := cl_ge n xs (uL n (n + 1))
    have hj0 : 0 ≤ j % (n : Int) := Int.emod_nonneg _ (by omega)
    have hj1 : j % (n : Int) < n := Int.emod_lt_of_pos _ (by omega)
    obtain ⟨i, hi⟩ := Int.eq_ofNat_of_zero_le hj0
    rw [hi] at hj1
    by_cases h2 : 2 ≤ n
    · have hu := uL_of h2 hv
      have e : aff n xs v j = rotL n (strL n xs (v % (n : Int))) (i : Int) := by
        rw [rot_aff, str_aff, aff_aff _ _ _ _ _ _ h1]
        refine aff_mod ?_ ?_
        · rw [Int.one_mul, Int.emod_emod]
        · rw [← hi, Int.mul_zero, Int.zero_add, Int.emod_emod]
      rw [e]
      exact Nat.le_trans (lf_ge n _ i (by omega)) (hg.2 _ hu)
    · have e : aff n xs v j = rotL n xs (i : Int) := by
        rw [rot_aff]
        have : n = 1 := by omega
        subst this
        exact aff_mod (by omega) (by omega)
      rw [e]
      exact Nat.le_trans (lf_ge n _ i (by omega)) hg.1
theorem unit_inv : ∀ n ∈ List.range 25, ∀ v ∈ List.range n, Nat.gcd v n = 1 → ∃ u ∈ List.range 25, (u * v) % n = 1 % n ∧ Nat.gcd u n = 1 := by decide +kernel
theorem inC_inv {n : Nat} {xs : List Int} (h : rhyB n xs = true) {v : Int} (j : Int) (hv : Int.gcd v n = 1) : ∃ u i : Int, Int.gcd u n = 1 ∧ xs = aff n (aff n xs v j) u i := by
  have hn := (rhyB_iff h).1
  have h1 : 1 ≤ n := by omega
  have h0 : 0 ≤ v % (n : Int) := Int.emod_nonneg _ (by omega)
  have h2 : v % (n : Int) < n := Int.emod_lt_of_pos _ (by omega)
  obtain ⟨p, hp⟩ := Int.eq_ofNat_of_zero_le h0
  have hg : Int.gcd (v % (n : Int)) n = 1 := gcd_mod hv
  rw [hp] at hg h2
  obtain ⟨u, _, hu, hug⟩ := unit_inv n (List.mem_range.2 (by omega)) p (List.mem_range.2 (by omega)) hg
  refine ⟨u, -((u : Int) * j), hug, ?_⟩
  rw [aff_aff _ _ _ _ _ _ h1]
  refine Eq.trans (aff_id h).symm (aff_mod ?_ ?_)
  · rw [Int.mul_emod, hp]
    have : (((u * p : Nat) : Int)) % (n : Int) = 1 % (n : Int) := by exact_mod_cast hu
    rw [← this, Int.natCast_mul, Int.mul_emod, Int.emod_eq_of_lt (a := (p : Int)) (by omega) h2]
  · congr 1
    omega
theorem inC_same {n : Nat} {xs z : List Int} (h : rhyB n xs = true) (hz : inC n xs z) (y : List Int) : inC n z y ↔ inC n xs y := by
  have hn := (rhyB_iff h).1
  have h1 : 1 ≤ n := by omega
  obtain ⟨v, j, hv, rfl⟩ := hz
  constructor
  · rintro ⟨u, i, hu, rfl⟩
    exact ⟨u * v, u * j + i, gcd_mul_one hu hv, aff_aff _ _ _ _ _ _ h1⟩
  · rintro ⟨u, i, hu, rfl⟩
    obtain ⟨q, k, hq, e⟩ := inC_inv h j hv
    refine ⟨u * q, u * k + i, gcd_mul_one hu hq, ?_⟩
    rw [← aff_aff _ _ _ _ _ _ h1, ← e]
theorem cls_same {n : Nat} {xs z : List Int} (h : rhyB n xs = true) (hz : inC n xs z) : clF n z (uL n (n + 1)) = clF n xs (uL n (n + 1)) := by
  have hn := (rhyB_iff h).1
  have hzb : rhyB n z = true := by obtain ⟨v, j, _, rfl⟩ := hz; exact aff_rhy v j (by omega) (by omega)
  have a := cls_top h
  have b := cls_top hzb
  refine topC.uniq (xs := xs) (by omega) (by omega) ⟨(inC_same h hz _).1 b.1, fun y hy => b.2 y ((inC_same h hz y).2 hy)⟩ a
/-- A stretched rhythm has the same class; so has the class itself. -/
theorem cls_str {n : Nat} {xs : List Int} (h : rhyB n xs = true) {u : Int} (hu : u ∈ uL n (n + 1)) : clsF n (strL n xs u) = clsF n xs := by
  unfold clsF
  rw [Int.toNat_natCast]
  exact cls_same h ⟨u, 0, uL_gcd hu, str_aff n xs u⟩
theorem cls_cls {n : Nat} {xs : List Int} (h : rhyB n xs = true) : clsF n (clsF n xs) = clsF n xs := by
  unfold clsF
  rw [Int.toNat_natCast]
  exact cls_same h (cls_top h).1
end Go.Proofs.YtphpdanohooccaaGreatDoor
