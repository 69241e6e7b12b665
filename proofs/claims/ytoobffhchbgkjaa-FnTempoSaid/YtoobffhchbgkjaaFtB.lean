/- Plain facts for FnTempo. -/
import Derived.Test.YtoobffhchbgkjaaTimeD
import Derived.Test.YtoobffhchbgkjaaTempoD
import Derived.Test.YtoobffhchbgkjaaMeet
namespace Go.Proofs.Ytoobffhchbgkjaa

def ratesL : List Int := [40, 60, 72, 80, 90, 100, 120, 144, 200]
theorem rates_ok {r : Int} (h : r ∈ ratesL) : ((20 ≤ r ∧ r ≤ 400) ∧ 3600 % r = 0) ∧ (3600 % (2 * r) = 0 → 3600 / r = 2 * (3600 / (2 * r))) := by
  unfold ratesL at h
  simp only [List.mem_cons, List.not_mem_nil, or_false] at h
  rcases h with rfl | rfl | rfl | rfl | rfl | rfl | rfl | rfl | rfl <;> decide
/-- What MakeTempo draws. -/
def okTempo (xs : List (Int × Int)) : Prop := (1 ≤ xs.length ∧ xs.length ≤ 4) ∧ ∀ q ∈ xs, (1 ≤ q.1 ∧ q.1 ≤ 40) ∧ q.2 ∈ ratesL
theorem tempoB_mk {xs : List (Int × Int)} (h1 : 1 ≤ xs.length) (h8 : xs.length ≤ 8) (h : Passes xs) : tempoB xs = true := by
  unfold tempoB
  rw [Bool.and_eq_true, List.all_eq_true]
  refine ⟨inB_iff.2 (by omega), fun q hq => ?_⟩
  obtain ⟨h2, h3, h4⟩ := h q hq
  unfold passB
  rw [inB_iff.2 h2, inB_iff.2 h3, Bool.true_and, Bool.true_and, beq_iff_eq, Int.tmod_eq_emod_of_nonneg (by omega), h4]
theorem okTempo.passes {xs : List (Int × Int)} (h : okTempo xs) : Passes xs := fun q hq => by
  obtain ⟨h1, h2⟩ := h.2 q hq
  have := (rates_ok h2).1
  exact ⟨by omega, this.1, this.2⟩
theorem okTempo.ok {xs : List (Int × Int)} (h : okTempo xs) : tempoB xs = true := tempoB_mk h.1.1 (by have := h.1.2; omega) h.passes
theorem beats_ge {xs : List (Int × Int)} (h : Passes xs) : (xs.length : Int) ≤ beatsF xs := by
  induction xs with
  | nil => simp [beatsF]
  | cons q xs ih =>
    have := ih (fun r hr => h r (by simp [hr]))
    have h1 := h q (by simp)
    rw [beatsF_cons]
    simp only [List.length_cons]
    omega
theorem okTempo.beats {xs : List (Int × Int)} (h : okTempo xs) : 1 ≤ beatsF xs ∧ beatsF xs ≤ 160 := by
  have h1 := beats_ge h.passes
  have h2 : ∀ ys : List (Int × Int), (∀ q ∈ ys, (1 ≤ q.1 ∧ q.1 ≤ 40) ∧ q.2 ∈ ratesL) → beatsF ys ≤ 40 * ys.length := by
    intro ys
    induction ys with
    | nil => intro _; simp [beatsF]
    | cons q ys ih =>
      intro hq
      have := ih (fun r hr => hq r (by simp [hr]))
      have h3 := (hq q (by simp)).1
      rw [beatsF_cons]
      simp only [List.length_cons]
      omega
  have := h2 xs h.2
  have h4 := h.1
  omega

/-- The units of all beats. -/
def totF : List (Int × Int) → Int
  | [] => 0
  | q :: xs => q.1 * (3600 / q.2) + totF xs
theorem totF_snoc (xs : List (Int × Int)) (q : Int × Int) : totF (xs ++ [q]) = totF xs + q.1 * (3600 / q.2) := by
  induction xs with
  | nil => simp [totF]
  | cons r xs ih => simp only [List.cons_append, totF, ih]; omega
theorem units_all {xs : List (Int × Int)} : ∀ b, Passes xs → beatsF xs ≤ b → unitsF xs b = totF xs := by
  induction xs with
  | nil => intro b _ _; rfl
  | cons q xs ih =>
    intro b hp hb
    have h1 := hp q (by simp)
    have hp' : Passes xs := fun r hr => hp r (by simp [hr])
    have h2 := beatsF_bd hp'
    rw [beatsF_cons] at hb
    simp only [unitsF, totF]
    rw [show min b q.1 = q.1 by omega, ih (b - q.1) hp' (by omega)]
theorem spl_facts {xs : List (Int × Int)} : ∀ b, Passes xs → 0 ≤ b → b ≤ beatsF xs →
    (Passes (splA xs b) ∧ beatsF (splA xs b) = b ∧ totF (splA xs b) = unitsF xs b) ∧ (Passes (splB xs b) ∧ beatsF (splB xs b) = beatsF xs - b ∧ totF (splB xs b) = totF xs - unitsF xs b) := by
  induction xs with
  | nil =>
    intro b _ h0 h1
    simp only [beatsF, List.map_nil, List.sum_nil] at h1
    have : b = 0 := by omega
    subst this
    exact ⟨⟨fun q hq => by simp [splA] at hq, rfl, rfl⟩, ⟨fun q hq => by simp [splB] at hq, rfl, rfl⟩⟩
  | cons q xs ih =>
    intro b hp h0 h1
    have g1 := hp q (by simp)
    have hp' : Passes xs := fun r hr => hp r (by simp [hr])
    rw [beatsF_cons] at h1 ⊢
    obtain ⟨m, hm⟩ : ∃ m, m = min b q.1 := ⟨_, rfl⟩
    have hbb := (beatsF_bd hp').1
    obtain ⟨⟨a1, a2, a3⟩, ⟨b1, b2, b3⟩⟩ := ih (b - m) hp' (by omega) (by omega)
    simp only [splA, splB, unitsF, totF]
    rw [← hm]
    have hsub : (q.1 - m) * (3600 / q.2) = q.1 * (3600 / q.2) - m * (3600 / q.2) := Int.sub_mul _ _ _
    refine ⟨?_, ?_⟩
    · by_cases h : 0 < m
      · rw [if_pos h]
        refine ⟨?_, ?_, ?_⟩
        · intro r hr
          rw [List.cons_append, List.nil_append, List.mem_cons] at hr
          rcases hr with rfl | hr
          · exact ⟨by simp only []; omega, g1.2⟩
          · exact a1 r hr
        · rw [List.cons_append, List.nil_append, beatsF_cons, a2]; simp only []; omega
        · rw [List.cons_append, List.nil_append]; simp only [totF]; rw [a3]
      · have : m = 0 := by omega
        rw [if_neg h, List.nil_append, a2, a3, this, Int.zero_mul]
        rw [this] at a1
        exact ⟨a1, by omega, by omega⟩
    · by_cases h : m < q.1
      · rw [if_pos h]
        refine ⟨?_, ?_, ?_⟩
        · intro r hr
          rw [List.cons_append, List.nil_append, List.mem_cons] at hr
          rcases hr with rfl | hr
          · exact ⟨by simp only []; omega, g1.2⟩
          · exact b1 r hr
        · rw [List.cons_append, List.nil_append, beatsF_cons, b2]; simp only []; omega
        · rw [List.cons_append, List.nil_append]; simp only [totF]; rw [b3, hsub]; omega
      · have : m = q.1 := by omega
        rw [if_neg h, List.nil_append, b2, b3, this]
        rw [this] at b1
        exact ⟨b1, by omega, by omega⟩
theorem units_pos {xs : List (Int × Int)} (hp : Passes xs) (hl : 1 ≤ xs.length) {b : Int} (hb : 1 ≤ b) : 1 ≤ unitsF xs b := by
  cases xs with
  | nil => simp at hl
  | cons q xs =>
    have h1 := hp q (by simp)
    have h2 := (step_bd (n := min b q.1) (r := q.2) (by omega) h1.2.1).1
    have h3 := unitsF_bd (xs := xs) (fun r hr => hp r (by simp [hr])) (b - min b q.1) (by omega)
    have h4 : 1 * 9 ≤ min b q.1 * (3600 / q.2) := Int.mul_le_mul (by omega) h2.1 (by omega) (by omega)
    simp only [unitsF]
    omega
theorem rev_facts (xs : List (Int × Int)) : beatsF xs.reverse = beatsF xs ∧ totF xs.reverse = totF xs := by
  induction xs with
  | nil => exact ⟨rfl, rfl⟩
  | cons q xs ih =>
    rw [List.reverse_cons, beatsF_snoc, totF_snoc, ih.1, ih.2, beatsF_cons]
    simp only [totF]
    omega
theorem sm_rev {xs : List (Int × Int)} (h : okTempo xs) : smB xs xs.reverse = true := by
  have hp : Passes xs.reverse := fun q hq => h.passes q (List.mem_reverse.1 hq)
  have ht : tempoB xs.reverse = true := tempoB_mk (by simpa using h.1.1) (by have := h.1.2; simp; omega) hp
  have hr := rev_facts xs
  unfold smB
  rw [h.ok, ht, Bool.true_and, Bool.true_and, decide_eq_true_eq, units_all _ h.passes (Int.le_refl _), units_all _ hp (Int.le_refl _), hr.2]
theorem scale_facts {xs : List (Int × Int)} (h : okTempo xs) (hs : tempoB (xs.map fun q => (q.1, 2 * q.2)) = true) :
    beatsF (xs.map fun q => (q.1, 2 * q.2)) = beatsF xs ∧ totF xs = 2 * totF (xs.map fun q => (q.1, 2 * q.2)) := by
  have hp := (tempoB_iff hs).2
  have hq := h.2
  clear hs h
  induction xs with
  | nil => exact ⟨rfl, rfl⟩
  | cons q xs ih =>
    have h1 := ih (fun r hr => hp r (by simp only [List.map_cons, List.mem_cons]; exact Or.inr hr)) (fun r hr => hq r (by simp [hr]))
    have h2 := (hp (q.1, 2 * q.2) (by simp)).2.2
    have h3 := (rates_ok (hq q (by simp)).2).2 h2
    rw [List.map_cons, beatsF_cons, beatsF_cons]
    simp only [totF]
    rw [h1.1, h1.2, h3]
    refine ⟨rfl, ?_⟩
    have : q.1 * (2 * (3600 / (2 * q.2))) = 2 * (q.1 * (3600 / (2 * q.2))) := by rw [← Int.mul_assoc, Int.mul_comm q.1 2, Int.mul_assoc]
    omega

theorem beat_ex {xs : List (Int × Int)} (hp : Passes xs) {t : Int} (ht : 0 ≤ t) : ∃ b, BeatIs xs t b := by
  have h : ∀ m : Nat, (m : Int) ≤ beatsF xs → ∃ b, 0 ≤ b ∧ b ≤ (m : Int) ∧ 50 * unitsF xs b ≤ 3 * t ∧ (b < (m : Int) → 3 * t < 50 * unitsF xs (b + 1)) := by
    intro m
    induction m with
    | zero =>
      intro _
      exact ⟨0, by omega, by omega, by rw [unitsF_zero hp]; omega, fun h => absurd h (by omega)⟩
    | succ m ih =>
      intro hm
      obtain ⟨b, h1, h2, h3, h4⟩ := ih (by omega)
      by_cases hq : 50 * unitsF xs ((m + 1 : Nat) : Int) ≤ 3 * t
      · exact ⟨((m + 1 : Nat) : Int), by omega, by omega, hq, fun h => absurd h (by omega)⟩
      · refine ⟨b, h1, by omega, h3, fun _ => ?_⟩
        by_cases hb : b < (m : Int)
        · exact h4 hb
        · have : b + 1 = ((m + 1 : Nat) : Int) := by omega
          rw [this]
          omega
  have hb := (beatsF_bd hp).1
  obtain ⟨b, h1, h2, h3, h4⟩ := h (beatsF xs).toNat (by omega)
  exact ⟨b, h1, by omega, h3, fun h => h4 (by omega)⟩
theorem beF_ge {xs : List (Int × Int)} {t k : Int} (hp : Passes xs) (h1 : tempoB xs = true) (ht : 0 ≤ t ∧ t ≤ 1000000000) (hk : k ≤ beatsF xs) (h : 50 * unitsF xs k ≤ 3 * t) : k ≤ beF xs t := by
  obtain ⟨b, hb⟩ := beat_ex hp ht.1
  rw [beF_is hp h1 (inB_iff.2 ht) hb]
  obtain ⟨g1, g2, g3, g4⟩ := hb
  by_cases hlt : b < k
  · have := unitsF_mono hp (b + 1) k (by omega)
    have := g4 (by omega)
    omega
  · omega
theorem beF_lt {xs : List (Int × Int)} {t k : Int} (hp : Passes xs) (h1 : tempoB xs = true) (ht : 0 ≤ t ∧ t ≤ 1000000000) (h : 3 * t < 50 * unitsF xs k) : beF xs t < k := by
  obtain ⟨b, hb⟩ := beat_ex hp ht.1
  rw [beF_is hp h1 (inB_iff.2 ht) hb]
  obtain ⟨g1, g2, g3, g4⟩ := hb
  by_cases hlt : k ≤ b
  · have := unitsF_mono hp k b hlt
    omega
  · omega
theorem beF_up {xs : List (Int × Int)} {t : Int} (hp : Passes xs) (h1 : tempoB xs = true) (ht : 0 ≤ t ∧ t ≤ 1000000000) : 0 ≤ beF xs t ∧ beF xs t ≤ beatsF xs := by
  obtain ⟨b, hb⟩ := beat_ex hp ht.1
  rw [beF_is hp h1 (inB_iff.2 ht) hb]
  exact ⟨hb.1, hb.2.1⟩

/-- A fraction over 1, 2 or 3. -/
structure Frac (U T B : Int) : Prop where
  cross : T * 3 = U * B
  lo : 1 ≤ B
  hi : B ≤ 3
  nn : 0 ≤ T
  le : T ≤ U
theorem frac_of {u : Int} (hu : 0 ≤ u) : Frac u (topF u) (botF u) := by
  have h := topF_bd hu
  exact ⟨topF_cross hu, h.2.2.2.1, h.2.2.2.2, h.2.1, h.2.2.1⟩
theorem Frac.three {U T B : Int} (h : Frac U T B) : B = 1 ∨ B = 2 ∨ B = 3 := by
  have h1 := h.lo
  have h2 := h.hi
  omega
theorem Frac.up {U T B : Int} (h : Frac U T B) : U ≤ 3 * ((T + B - 1) / B) ∧ 0 ≤ (T + B - 1) / B ∧ (T + B - 1) / B ≤ T + 2 := by
  have h1 := h.cross
  have h2 := h.nn
  rcases h.three with e | e | e <;> subst e <;> omega
theorem Frac.down {U T B : Int} (h : Frac U T B) (hU : 1 ≤ U) : 1 ≤ T ∧ 3 * ((T - 1) / B) < U ∧ 0 ≤ (T - 1) / B ∧ (T - 1) / B ≤ T := by
  have h1 := h.cross
  have h2 := h.nn
  rcases h.three with e | e | e <;> subst e <;> omega
theorem Frac.sum {U V Q t1 b1 t2 b2 t3 b3 : Int} (h1 : Frac U t1 b1) (h2 : Frac V t2 b2) (h3 : Frac Q t3 b3) (h : Q = U + V) : t1 * b2 * b3 + t2 * b1 * b3 = t3 * b1 * b2 := by
  have c1 := h1.cross
  have c2 := h2.cross
  have c3 := h3.cross
  rcases h1.three with e | e | e <;> rcases h2.three with f | f | f <;> rcases h3.three with g | g | g <;> subst e f g <;> omega
theorem Frac.twice {U Q t1 b1 t3 b3 : Int} (h1 : Frac U t1 b1) (h3 : Frac Q t3 b3) (h : Q = 2 * U) : 2 * t1 * b3 = t3 * b1 := by
  have c1 := h1.cross
  have c3 := h3.cross
  rcases h1.three with e | e | e <;> rcases h3.three with g | g | g <;> subst e g <;> omega
theorem mul3 {T B M : Int} (h0 : 0 ≤ T) (hT : T ≤ M) (h1 : 1 ≤ B) (h3 : B ≤ 3) : 0 ≤ T * B ∧ T * B ≤ M * 3 :=
  ⟨Int.mul_nonneg h0 (by omega), Int.mul_le_mul hT h3 (by omega) (by omega)⟩

theorem time_all {zs : List (Int × Int)} (hp : Passes zs) (hl : 1 ≤ zs.length) (h8 : zs.length ≤ 8) {b : Int} (hb : beatsF zs = b) : toOk zs b = true ∧ toT zs b = topF (50 * totF zs) ∧ toBt zs b = botF (50 * totF zs) := by
  subst hb
  have h1 : toOk zs (beatsF zs) = true := by
    unfold toOk
    rw [tempoB_mk hl h8 hp, inB_iff.2 ⟨(beatsF_bd hp).1, Int.le_refl _⟩]
    rfl
  unfold toT toBt
  rw [h1, if_pos rfl, if_pos rfl, units_all _ hp (Int.le_refl _)]
  exact ⟨rfl, rfl, rfl⟩
theorem len_of_beats {zs : List (Int × Int)} (h : 1 ≤ beatsF zs) : 1 ≤ zs.length := by
  cases zs with
  | nil => simp [beatsF] at h
  | cons q zs => simp
theorem spB_eq {ys : List (Int × Int)} (h : okTempo ys) (K : Int) : spB ys K = (decide (0 < K) && decide (K < beatsF ys)) := by
  unfold spB
  rw [h.ok, Bool.true_and]
  unfold inB
  congr 1 <;> rw [decide_eq_decide] <;> omega
theorem split_facts {ys : List (Int × Int)} (h : okTempo ys) {K : Int} (h0 : 0 < K) (h1 : K < beatsF ys) :
    (toOk (spF1 ys K) K = true ∧ toT (spF1 ys K) K = topF (50 * unitsF ys K) ∧ toBt (spF1 ys K) K = botF (50 * unitsF ys K)) ∧ (spF1 ys K).length ≤ 4 ∧
      (toOk (spF2 ys K) (beatsF ys - K) = true ∧ toT (spF2 ys K) (beatsF ys - K) = topF (50 * (unitsF ys (beatsF ys) - unitsF ys K)) ∧ toBt (spF2 ys K) (beatsF ys - K) = botF (50 * (unitsF ys (beatsF ys) - unitsF ys K))) ∧ (spF2 ys K).length ≤ 4 ∧
      0 ≤ unitsF ys (beatsF ys) - unitsF ys K := by
  have hs : spB ys K = true := by rw [spB_eq h, decide_eq_true h0, decide_eq_true h1]; rfl
  have e1 : spF1 ys K = splA ys K := by unfold spF1; rw [if_pos hs]
  have e2 : spF2 ys K = splB ys K := by unfold spF2; rw [if_pos hs]
  rw [e1, e2]
  obtain ⟨⟨a1, a2, a3⟩, ⟨b1, b2, b3⟩⟩ := spl_facts (xs := ys) K h.passes (by omega) (by omega)
  have hl := h.1.2
  have l1 := splA_len ys K
  have l2 := splB_len ys K
  have t1 := time_all a1 (len_of_beats (by omega)) (by omega) a2
  have t2 := time_all b1 (len_of_beats (by omega)) (by omega) b2
  rw [a3] at t1
  rw [b3, ← units_all (xs := ys) _ h.passes (Int.le_refl _)] at t2
  exact ⟨t1, by omega, t2, by omega, by have := unitsF_mono h.passes K (beatsF ys) (by omega); omega⟩
theorem scale_time {ys : List (Int × Int)} (h : okTempo ys) (hs : scB ys 2 = true) :
    ∃ U, 0 ≤ U ∧ (toOk (scF ys 2) (beatsF ys) = true ∧ toT (scF ys 2) (beatsF ys) = topF (50 * U) ∧ toBt (scF ys 2) (beatsF ys) = botF (50 * U)) ∧ (scF ys 2).length = ys.length ∧ unitsF ys (beatsF ys) = 2 * U := by
  have e : scF ys 2 = ys.map fun q => (q.1, 2 * q.2) := by unfold scF; rw [if_pos hs]
  unfold scB at hs
  simp only [Bool.and_eq_true] at hs
  have hf := scale_facts h hs.2.2
  rw [e]
  have hp := (tempoB_iff hs.2.2).2
  have hl := (tempoB_iff hs.2.2).1
  have h9 : unitsF ys (beatsF ys) = totF ys := units_all _ h.passes (Int.le_refl _)
  have hb := (unitsF_bd h.passes (beatsF ys) (by have := h.beats; omega)).1
  refine ⟨totF (ys.map fun q => (q.1, 2 * q.2)), by omega, time_all hp hl.1 hl.2 hf.1, by simp, by omega⟩

/- MeetingTimes. -/
theorem meet_mem {p q b most : Int} (k : Nat) : ∀ a t, t ∈ meetL p q b most k a → ∃ j : Nat, t = a + j * p ∧ t ≤ most ∧ b ≤ t ∧ (t - b) % q = 0 := by
  induction k with
  | zero => intro a t h; simp [meetL] at h
  | succ k ih =>
    intro a t h
    unfold meetL at h
    by_cases h1 : a ≤ most
    · rw [if_pos h1, List.mem_append] at h
      rcases h with h | h
      · by_cases h2 : b ≤ a ∧ (a - b) % q = 0
        · rw [if_pos h2, List.mem_singleton] at h
          subst h
          exact ⟨0, by simp, h1, h2.1, h2.2⟩
        · rw [if_neg h2] at h
          simp at h
      · obtain ⟨j, e, h3⟩ := ih (a + p) t h
        refine ⟨j + 1, ?_, h3⟩
        rw [e, Int.natCast_add, Int.add_mul]
        omega
    · rw [if_neg h1] at h
      simp at h
theorem meet_in {p q b most : Int} (hp : 1 ≤ p) (k : Nat) : ∀ a (j : Nat), j < k → a + j * p ≤ most → b ≤ a + j * p → (a + j * p - b) % q = 0 → a + j * p ∈ meetL p q b most k a := by
  induction k with
  | zero => intro a j h; omega
  | succ k ih =>
    intro a j hj h1 h2 h3
    have hjp : 0 ≤ (j : Int) * p := Int.mul_nonneg (by omega) (by omega)
    unfold meetL
    rw [if_pos (by omega), List.mem_append]
    cases j with
    | zero =>
      simp only [Int.natCast_zero, Int.zero_mul, Int.add_zero] at *
      refine Or.inl ?_
      rw [if_pos ⟨h2, h3⟩]
      simp
    | succ j =>
      have e : a + ((j + 1 : Nat) : Int) * p = (a + p) + (j : Int) * p := by rw [Int.natCast_add, Int.add_mul]; omega
      rw [e] at h1 h2 h3 ⊢
      exact Or.inr (ih (a + p) j (by omega) h1 h2 h3)
theorem meet_sort {p q b most : Int} (hp : 1 ≤ p) (k : Nat) : ∀ a, (meetL p q b most k a).Pairwise (· < ·) := by
  induction k with
  | zero => intro a; exact List.Pairwise.nil
  | succ k ih =>
    intro a
    unfold meetL
    by_cases h1 : a ≤ most
    · rw [if_pos h1, List.pairwise_append]
      refine ⟨?_, ih _, ?_⟩
      · split
        · exact List.pairwise_singleton _ _
        · exact List.Pairwise.nil
      · intro x hx y hy
        obtain ⟨j, e, _⟩ := meet_mem k _ _ hy
        have hjp : 0 ≤ (j : Int) * p := Int.mul_nonneg (by omega) (by omega)
        split at hx
        · rw [List.mem_singleton] at hx
          omega
        · simp at hx
    · rw [if_neg h1]
      exact List.Pairwise.nil
/-- Neighbours in a rising list: nothing lies between. -/
theorem sort_gap {l : List Int} (h : l.Pairwise (· < ·)) {i : Nat} (hi : i + 1 < l.length) : l.getD i 0 < l.getD (i + 1) 0 ∧ ∀ z ∈ l, ¬ (l.getD i 0 < z ∧ z < l.getD (i + 1) 0) := by
  have hg : ∀ j, j < l.length → l.getD j 0 = l[j]! := fun j hj => by simp [List.getD, hj]
  have hm : ∀ j k, j < k → k < l.length → l.getD j 0 < l.getD k 0 := fun j k hjk hk => by
    have := List.pairwise_iff_getElem.1 h j k (by omega) hk hjk
    simpa [List.getD, hk, show j < l.length by omega] using this
  refine ⟨hm i (i + 1) (by omega) hi, fun z hz ⟨h1, h2⟩ => ?_⟩
  obtain ⟨j, hj, e⟩ := List.getElem_of_mem hz
  have e' : l.getD j 0 = z := by simp [List.getD, hj, e]
  rw [← e'] at h1 h2
  by_cases hji : j ≤ i
  · rcases Nat.lt_or_eq_of_le hji with h3 | h3
    · have := hm j i h3 (by omega); omega
    · subst h3; omega
  · by_cases h3 : j = i + 1
    · subst h3; omega
    · have := hm (i + 1) j (by omega) hj; omega
/-- The step between two common times. -/
theorem meet_step {c d g : Nat} {e f : Int} (hc : 1 ≤ c) (hd : 1 ≤ d) (hg : g = Nat.gcd c d) {i : Nat} (hi : i + 1 < (meetL c d f 300 20001 e).length) (he : 0 ≤ e) :
    (meetL c d f 300 20001 e).getD (i + 1) 0 - (meetL c d f 300 20001 e).getD i 0 = ((c / g * d : Nat) : Int) := by
  have hs := sort_gap (meet_sort (by omega) 20001 e) hi
  have m1 := meet_mem 20001 e _ (getD_mem (meetL c d f 300 20001 e) (i + 1) 0 hi)
  have m0 := meet_mem 20001 e _ (getD_mem (meetL c d f 300 20001 e) i 0 (by omega))
  generalize (meetL (c : Int) d f 300 20001 e).getD (i + 1) 0 = y at *
  generalize (meetL (c : Int) d f 300 20001 e).getD i 0 = x at *
  obtain ⟨j1, e1, b1, b2, b3⟩ := m1
  obtain ⟨j0, e0, a1, a2, a3⟩ := m0
  obtain ⟨hlt, hno⟩ := hs
  have hgp : 0 < g := by rw [hg]; exact Nat.gcd_pos_of_pos_left _ (by omega)
  have hgc : g ∣ c := by rw [hg]; exact Nat.gcd_dvd_left _ _
  obtain ⟨L, hL⟩ : ∃ L, L = c / g * d := ⟨_, rfl⟩
  have hL' : L = Nat.lcm c d := by rw [hL, hg]; unfold Nat.lcm; exact Nat.div_mul_right_comm (Nat.gcd_dvd_left _ _) d
  rw [← hL]
  obtain ⟨D, hD⟩ := Int.eq_ofNat_of_zero_le (show 0 ≤ y - x by omega)
  have hcL : c ∣ L := by rw [hL']; exact Nat.dvd_lcm_left _ _
  have hdL : d ∣ L := by rw [hL']; exact Nat.dvd_lcm_right _ _
  have hcD : c ∣ D := by
    have : (c : Int) ∣ (D : Int) := ⟨(j1 : Int) - j0, by
      have h9 : (c : Int) * ((j1 : Int) - j0) = (j1 : Int) * c - (j0 : Int) * c := by rw [Int.mul_comm, Int.sub_mul]
      rw [h9]
      omega⟩
    exact Int.natCast_dvd_natCast.1 this
  have hdD : d ∣ D := by
    have h1 : (d : Int) ∣ y - f := Int.dvd_of_emod_eq_zero b3
    have h2 : (d : Int) ∣ x - f := Int.dvd_of_emod_eq_zero a3
    have h3 := Int.dvd_sub h1 h2
    rw [show y - f - (x - f) = (D : Int) by omega] at h3
    exact Int.natCast_dvd_natCast.1 h3
  have hLD : L ∣ D := by rw [hL']; exact Nat.lcm_dvd hcD hdD
  have hLp : 0 < L := by rw [hL']; exact Nat.lcm_pos (by omega) (by omega)
  have hDp : 0 < D := by omega
  have hle := Nat.le_of_dvd hDp hLD
  have hcc : L ≤ D := hle
  by_cases hq : L = D
  · omega
  · exfalso
    obtain ⟨u, hu⟩ := hcL
    refine hno (x + L) ?_ ⟨by omega, by omega⟩
    have e2 : x + (L : Int) = e + ((j0 + u : Nat) : Int) * c := by
      rw [e0, hu, Int.natCast_add, Int.add_mul, Int.natCast_mul, Int.mul_comm (c : Int) (u : Int)]
      omega
    have hju : ((j0 + u : Nat) : Int) ≤ ((j0 + u : Nat) : Int) * c := by
      have := Int.mul_le_mul_of_nonneg_left (show (1 : Int) ≤ (c : Int) by omega) (show (0 : Int) ≤ ((j0 + u : Nat) : Int) by omega)
      omega
    rw [e2]
    refine meet_in (by omega) 20001 e (j0 + u) (by omega) (by omega) (by omega) ?_
    rw [← e2]
    have h2 : (d : Int) ∣ x - f := Int.dvd_of_emod_eq_zero a3
    have h4 : (d : Int) ∣ (L : Int) := Int.natCast_dvd_natCast.2 hdL
    have h5 := Int.dvd_add h2 h4
    rw [show x - f + (L : Int) = x + L - f by omega] at h5
    exact Int.emod_eq_zero_of_dvd h5
def meetChk : Bool := (List.range 12).all fun c => (List.range 12).all fun d => (List.range 12).all fun e => (List.range 12).all fun f =>
  !(e % Nat.gcd (c + 1) (d + 1) == f % Nat.gcd (c + 1) (d + 1)) || (List.range 23).any fun j => Nat.ble f (e + j * (c + 1)) && (e + j * (c + 1)) % (d + 1) == f % (d + 1)
theorem meet_chk : meetChk = true := by decide +kernel
theorem meet_some {c d e f : Nat} (hc : 1 ≤ c ∧ c ≤ 12) (hd : 1 ≤ d ∧ d ≤ 12) (he : e < 12) (hf : f < 12) :
    decide (0 < (meetL c d f 300 20001 e).length) = decide (((e : Int) - f) % (Nat.gcd c d : Nat) = 0) := by
  rw [decide_eq_decide]
  constructor
  · intro h
    obtain ⟨j, e1, _, _, b3⟩ := meet_mem 20001 (e : Int) _ (getD_mem (meetL (c : Int) d f 300 20001 e) 0 0 h)
    generalize (meetL (c : Int) d f 300 20001 e).getD 0 0 = x at *
    have h1 : ((Nat.gcd c d : Nat) : Int) ∣ x - f := Int.dvd_trans (Int.natCast_dvd_natCast.2 (Nat.gcd_dvd_right _ _)) (Int.dvd_of_emod_eq_zero b3)
    have h2 : ((Nat.gcd c d : Nat) : Int) ∣ (j : Int) * c := Int.dvd_trans (Int.natCast_dvd_natCast.2 (Nat.gcd_dvd_left _ _)) (Int.dvd_mul_left _ _)
    have h3 := Int.dvd_sub h1 h2
    rw [show x - f - (j : Int) * c = (e : Int) - f by omega] at h3
    exact Int.emod_eq_zero_of_dvd h3
  · intro h
    have hk := meet_chk
    unfold meetChk at hk
    simp only [List.all_eq_true, List.mem_range] at hk
    have := hk (c - 1) (by omega) (d - 1) (by omega) e he f hf
    rw [show c - 1 + 1 = c by omega, show d - 1 + 1 = d by omega] at this
    have hg : e % Nat.gcd c d = f % Nat.gcd c d := by
      have h2 : ((e : Int)) % (Nat.gcd c d : Nat) = ((f : Int)) % (Nat.gcd c d : Nat) := Int.emod_eq_emod_iff_emod_sub_eq_zero.2 h
      rw [← Int.natCast_emod, ← Int.natCast_emod] at h2
      exact Int.ofNat.inj h2
    simp only [hg, beq_self_eq_true, Bool.not_true, Bool.false_or, List.any_eq_true, List.mem_range, Bool.and_eq_true, Nat.ble_eq, beq_iff_eq] at this
    obtain ⟨j, hj, h1, h2⟩ := this
    have hm := meet_in (p := c) (q := d) (b := f) (most := 300) (by omega) 20001 (e : Int) j (by omega) (by
      have : j * c ≤ 22 * 12 := Nat.mul_le_mul (by omega) hc.2
      have h9 : ((j * c : Nat) : Int) = (j : Int) * c := Int.natCast_mul _ _
      omega) (by
      have h9 : ((j * c : Nat) : Int) = (j : Int) * c := Int.natCast_mul _ _
      omega) (by
      have h9 : (e : Int) + (j : Int) * c = ((e + j * c : Nat) : Int) := by rw [Int.natCast_add, Int.natCast_mul]
      rw [h9]
      exact Int.emod_eq_emod_iff_emod_sub_eq_zero.1 (by omega))
    exact List.length_pos_of_mem hm
end Go.Proofs.Ytoobffhchbgkjaa
