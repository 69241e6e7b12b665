/- Contracts of slices.Index and slices.Contains at []int. -/
import Derived.Test.YtphpdanohooccaaDoorBase
namespace Go.Proofs.YtphpdanohooccaaDoor
open Go.RowKit

/-- The first index of v, or -1. -/
def idxI : List Int → Int → Int
  | [], _ => -1
  | x :: xs, v => if v = x then 0 else if idxI xs v = -1 then -1 else idxI xs v + 1
theorem idxI_lo (xs : List Int) (v : Int) : -1 ≤ idxI xs v := by
  induction xs with
  | nil => simp [idxI]
  | cons x xs ih => unfold idxI; split <;> (try split) <;> omega
theorem idxI_mem (xs : List Int) (v : Int) : (0 ≤ idxI xs v) ↔ v ∈ xs := by
  induction xs with
  | nil => simp [idxI]
  | cons x xs ih =>
    have := idxI_lo xs v
    unfold idxI
    by_cases h : v = x
    · simp [h]
    · rw [if_neg h]
      by_cases h2 : idxI xs v = -1
      · rw [if_pos h2]
        have : ¬ v ∈ xs := fun hm => by have := ih.2 hm; omega
        simp [h, this]
      · rw [if_neg h2]
        have : v ∈ xs := ih.1 (by omega)
        simp [this]
        omega
theorem idxI_hit (xs : List Int) (v : Int) : ∀ k : Nat, k < xs.length → xs.getD k 0 = v → (∀ j, j < k → xs.getD j 0 ≠ v) → idxI xs v = k := by
  induction xs with
  | nil => intro k hk; simp at hk
  | cons x xs ih =>
    intro k hk hv hj
    unfold idxI
    match k, hk, hv, hj with
    | 0, _, hv, _ => simp at hv; simp [hv]
    | k + 1, hk, hv, hj =>
      have h0 : v ≠ x := fun e => hj 0 (by omega) (by simp [e])
      have := ih k (by simpa using hk) (by simpa using hv) (fun j hjk => by have := hj (j + 1) (by omega); simpa using this)
      rw [if_neg h0, this, if_neg (by omega)]
      omega
theorem idxI_miss (xs : List Int) (v : Int) (hj : ∀ j, j < xs.length → xs.getD j 0 ≠ v) : idxI xs v = -1 := by
  have h1 := idxI_lo xs v
  have h2 : ¬ 0 ≤ idxI xs v := fun h => by
    obtain ⟨i, hi, he⟩ := List.mem_iff_getElem.1 ((idxI_mem xs v).1 h)
    exact hj i hi (by simp [List.getD, hi, he])
  omega

set_option maxHeartbeats 400000 in
theorem slIndex_any (A : Option Addr) (c : Nat) (xs : List Int) (v : Int) (w : World) (hr : RdI w A xs) (hn : xs.length ≤ 9223372036854775806) :
    Calls Tryd.prog 51 #[.slice A xs.length c, .int .i64 v] w fun e w' => e = .returned (.int .i64 (idxI xs v)) ∧ w = w' := by
  obtain ⟨n, hnn⟩ : ∃ n, n = xs.length := ⟨_, rfl⟩
  rw [← hnn] at hn ⊢
  obtain ⟨I, hI⟩ : ∃ I, I = idxI xs v := ⟨_, rfl⟩
  rw [← hI]
  have HI := Lib.hid hI
  have HN := Lib.hid hnn
  have HR := Lib.hid hr
  clear hnn hr hI
  go_enter Tryd.func51, Tryd.ntmps51
  go_wp2
  go_loop [8] (fun i => ∃ k : Nat, k ≤ n ∧ i = .int .i64 k ∧ Hid (∀ j, j < k → xs.getD j 0 ≠ v)) (fun i => n - (intOf i).toNat)
  case atStart => exact ⟨0, Nat.zero_le _, rfl, fun j hj => absurd hj (by omega)⟩
  case round =>
    obtain ⟨k, hk, rfl, HJ⟩ := hrel
    by_cases hlt : k < n
    · obtain ⟨b, o, hA, hc⟩ := HR.out.at_ k (by rw [← HN.out]; exact hlt)
      subst hA
      obtain ⟨x, hx⟩ : ∃ x, x = xs.getD k 0 := ⟨_, rfl⟩
      rw [← hx] at hc
      have HX := Lib.hid hx
      clear hx
      by_cases he : v = x
      · subst he
        go_wp2
        go_ret
        exact ⟨ret_int (by rw [HI.out]; exact (idxI_hit xs v k (by rw [← HN.out]; exact hlt) HX.out.symm HJ.out).symm), rfl⟩
      · have he' : (v == x) = false := by simpa using he
        have HE := Lib.hid he
        clear he
        go_wp2
        go_round
        case rel =>
          refine ⟨k + 1, by omega, by go_num, fun j hj => ?_⟩
          by_cases hjk : j < k
          · exact HJ.out j hjk
          · obtain rfl : j = k := by omega
            rw [← HX.out]
            exact fun e => HE.out e.symm
        case measure => simp [intOf]; omega
    · obtain rfl : k = n := by omega
      go_wp2
      go_ret
      exact ⟨ret_int (by rw [HI.out]; exact (idxI_miss xs v (fun j hj => HJ.out j (by rw [HN.out]; exact hj))).symm), rfl⟩

theorem slContains_any (A : Option Addr) (c : Nat) (xs : List Int) (v : Int) (w : World) (hr : RdI w A xs) (hn : xs.length ≤ 9223372036854775806) :
    Calls Tryd.prog 45 #[.slice A xs.length c, .int .i64 v] w fun e w' => e = .returned (.bool (decide (v ∈ xs))) ∧ w = w' := by
  have H := Lib.hid (slIndex_any A c xs v w hr hn)
  have hm := idxI_mem xs v
  obtain ⟨I, hI⟩ : ∃ I, I = idxI xs v := ⟨_, rfl⟩
  rw [← hI] at H hm
  have HM : Hid ((0 ≤ I) ↔ v ∈ xs) := hm
  clear hm hI
  obtain ⟨b, hb⟩ : ∃ b, b = decide (v ∈ xs) := ⟨_, rfl⟩
  rw [← hb]
  have HB := Lib.hid hb
  clear hb
  go_enter Tryd.func45, Tryd.ntmps45
  go_wp2_with (go_at_call 51; refine H.out.mono ?_; rintro e w' ⟨rfl, rfl⟩)
  go_ret
  exact ⟨ret_bool (by rw [HB.out, decide_eq_decide]; exact HM.out), rfl⟩
end Go.Proofs.YtphpdanohooccaaDoor
