/- Plain facts for FnMeters. -/
import Derived.Test.YtedfmjijemcpaaaFmB
namespace Go.Proofs.Ytedfmjijemcpaaa

theorem wtK_zero (xs : List Int) : ∀ i, wtK xs i 0 = i := by
  intro i
  induction i with
  | zero => rfl
  | succ i ih => simp only [wtK, ih, Int.zero_emod, if_pos]; omega
/-- The beats of all parts. -/
def totP (xs : List Int) : Nat → Int
  | 0 => 0
  | i + 1 => totP xs i + prodF (xs.take (i + 1))
def fmRow (n : Nat) (l : List (List Int)) (j : Nat) : Bool :=
  let m := l.getD j []
  (List.range m.length).all (fun i => syP n (evL (prodF (m.take (i + 1))).toNat n) m (prodF (m.take (i + 1))).toNat == 0) &&
  ((wtL m m.length n).sum == totP m m.length) && (scP (evL n n) m n == totP m m.length) && (syP n (evL n n) m n == 0) &&
  (decide (j = 0) || !(decide ((l.getD (j - 1) []).length = m.length)) || bfB (l.getD (j - 1) []) m)
def fmChk (n : Nat) : Bool := (List.range (metL 5 n).length).all (fmRow n (metL 5 n))
theorem fm_chk : ∀ n ∈ [2, 3, 4, 6, 8, 9, 12, 16, 18, 24], fmChk n = true := by decide +kernel
theorem fm_facts {N : Nat} (hN : (N : Int) ∈ pulsesL) : (2 ≤ N ∧ N ≤ 24) ∧ moF N = metL 5 N ∧ ∀ j, j < (moF N).length →
    (∀ i, i < ((moF N).getD j []).length → syP N (evL (prodF (((moF N).getD j []).take (i + 1))).toNat N) ((moF N).getD j []) (prodF (((moF N).getD j []).take (i + 1))).toNat = 0) ∧
    (wtL ((moF N).getD j []) ((moF N).getD j []).length N).sum = totP ((moF N).getD j []) ((moF N).getD j []).length ∧ scP (evL N N) ((moF N).getD j []) N = totP ((moF N).getD j []) ((moF N).getD j []).length ∧
    syP N (evL N N) ((moF N).getD j []) N = 0 ∧ (0 < j → ((moF N).getD (j - 1) []).length = ((moF N).getD j []).length → bfB ((moF N).getD (j - 1) []) ((moF N).getD j []) = true) := by
  have hm : N ∈ [2, 3, 4, 6, 8, 9, 12, 16, 18, 24] := by
    unfold pulsesL at hN
    simp only [List.mem_cons, List.not_mem_nil, or_false] at hN ⊢
    omega
  have hb : 2 ≤ N ∧ N ≤ 24 := by
    simp only [List.mem_cons, List.not_mem_nil, or_false] at hm
    omega
  have e : moF N = metL 5 N := by unfold moF; rw [if_pos (inB_iff.2 ⟨by omega, by omega⟩), Int.toNat_natCast]
  have h := fm_chk N hm
  refine ⟨hb, e, fun j hj => ?_⟩
  rw [e] at hj ⊢
  unfold fmChk at h
  rw [List.all_eq_true] at h
  have h2 := h j (List.mem_range.2 hj)
  unfold fmRow at h2
  simp only [Bool.and_eq_true, beq_iff_eq, List.all_eq_true, List.mem_range, Bool.or_eq_true, decide_eq_true_eq, Bool.not_eq_true', decide_eq_false_iff_not] at h2
  obtain ⟨⟨⟨⟨a1, a2⟩, a3⟩, a4⟩, a5⟩ := h2
  refine ⟨a1, a2, a3, a4, fun h0 hl => ?_⟩
  rcases a5 with (a5 | a5) | a5
  · omega
  · exact absurd hl a5
  · exact a5
theorem bix_min (f : List Int → Int) (l : List (List Int)) : ∀ k j, j < k → f (l.getD (bix f l k) []) ≤ f (l.getD j []) := by
  intro k
  induction k with
  | zero => intro j h; omega
  | succ k ih =>
    intro j hj
    unfold bix
    by_cases h : f (l.getD k []) < f (l.getD (bix f l k) [])
    · rw [if_pos h]
      rcases Nat.lt_succ_iff_lt_or_eq.1 hj with h2 | h2
      · have := ih j h2; omega
      · subst h2; omega
    · rw [if_neg h]
      rcases Nat.lt_succ_iff_lt_or_eq.1 hj with h2 | h2
      · exact ih j h2
      · subst h2; omega
theorem totP_bd {xs : List Int} (h : metB xs = true) : ∀ i : Nat, i ≤ xs.length → 0 ≤ totP xs i ∧ totP xs i ≤ 24 * i := by
  intro i
  induction i with
  | zero => intro _; simp [totP]
  | succ i ih =>
    intro hi
    have h1 := ih (by omega)
    obtain ⟨K, u, N, hK, _, _, _, hK1, _, hKN, hN24, _⟩ := lay_nums h i
    simp only [totP]
    rw [hK]
    omega
theorem last_sync : syP 8 [0, 3, 6] [2, 2, 2] 3 = 2 ∧ rhyB 8 [0, 3, 6] = true ∧ metB [2, 2, 2] = true ∧ prodF [2, 2, 2] = 8 := by decide +kernel
end Go.Proofs.Ytedfmjijemcpaaa
