/- Contracts of the swing functions that ask for validity themselves. -/
import Derived.Test.YtcladodjoneanaaSwing
namespace Go.Proofs.Ytcladodjoneanaa
open Go.RowKit

/-- SwingPlace. -/
def swPlF (n s x : Int) : Int := if swB n s = true ∧ inB x 0 (2 * n) = true then swp n s x else -1
/-- SwingTime. -/
def swTmF (n s t : Int) : Int := if swB n s = true ∧ inB t 0 1000000 = true then t - t % (2 * n) + swp n s (t % (2 * n)) else -1
noncomputable def leastF (n s y : Int) : Nat := by
  classical exact if h : ∃ z, LeastPl n s y z then Classical.choose h else 0
theorem leastF_spec {n s y : Int} (h : swB n s = true) (hy : y ≤ 2 * n) : LeastPl n s y (leastF n s y) := by
  classical
  have hx := leastPl_ex h hy
  unfold leastF
  rw [dif_pos hx]
  exact Classical.choose_spec hx
/-- StraightPlace. -/
noncomputable def stPlF (n s y : Int) : Int := if swB n s = true ∧ inB y 0 (2 * n) = true then (leastF n s y : Int) else -1
/-- StraightTime. -/
noncomputable def stTmF (n s t : Int) : Int := if swB n s = true ∧ inB t 0 1000000 = true then t - t % (2 * n) + (leastF n s (t % (2 * n)) : Int) else -1

theorem swPlS_any (n s x : Int) (w : World) :
    Calls Try.prog 28 #[.int .i64 n, .int .i64 s, .int .i64 x] w fun e w' => e = .returned (.int .i64 (swPlF n s x)) ∧ w = w' := by
  by_cases h : swB n s = true
  · have h' := swB_iff.1 h
    by_cases hx : inB x 0 (2 * n) = true
    · have hx' := inB_iff.1 hx
      have H : Hid (swp n s x = swPlF n s x) := by unfold swPlF; rw [if_pos ⟨h, hx⟩]; exact rfl
      go_enter Try.func28, Try.ntmps28
      go_wp2_with (first | (go_at_call 15; refine (swingOkS_any _ _ _).mono ?_; rintro e w' ⟨rfl, rfl⟩) | (go_at_call 43; refine (l01In_any _ _ _ _).mono ?_; rintro e w' ⟨rfl, rfl⟩) | (go_at_call 50; refine (placeS_any _ _ _ _ h hx'.1 hx'.2).mono ?_; rintro e w' ⟨rfl, rfl⟩))
      go_ret
      exact ⟨ret_int H.out, rfl⟩
    · have hx : inB x 0 (2 * n) = false := by simpa using hx
      have H : Hid (-1 = swPlF n s x) := by unfold swPlF; rw [hx]; simp [Hid]
      go_enter Try.func28, Try.ntmps28
      go_wp2_with (first | (go_at_call 15; refine (swingOkS_any _ _ _).mono ?_; rintro e w' ⟨rfl, rfl⟩) | (go_at_call 43; refine (l01In_any _ _ _ _).mono ?_; rintro e w' ⟨rfl, rfl⟩))
      go_ret
      exact ⟨ret_int H.out, rfl⟩
  · have h : swB n s = false := by simpa using h
    have H : Hid (-1 = swPlF n s x) := by unfold swPlF; rw [h]; simp [Hid]
    go_enter Try.func28, Try.ntmps28
    go_wp2_with (first | (go_at_call 15; refine (swingOkS_any _ _ _).mono ?_; rintro e w' ⟨rfl, rfl⟩))
    go_ret
    exact ⟨ret_int H.out, rfl⟩
theorem swPlI_any (n s x : Int) (w : World) :
    Calls Try.prog 29 #[.int .i64 n, .int .i64 s, .int .i64 x] w fun e w' => e = .returned (.int .i64 (swPlF n s x)) ∧ w = w' := by
  by_cases h : swB n s = true
  · have h' := swB_iff.1 h
    by_cases hx : inB x 0 (2 * n) = true
    · have hx' := inB_iff.1 hx
      have H : Hid (swp n s x = swPlF n s x) := by unfold swPlF; rw [if_pos ⟨h, hx⟩]; exact rfl
      go_enter Try.func29, Try.ntmps29
      go_wp2_with (first | (go_at_call 16; refine (swingOkI_any _ _ _).mono ?_; rintro e w' ⟨rfl, rfl⟩) | (go_at_call 44; refine (within_any _ _ _ _).mono ?_; rintro e w' ⟨rfl, rfl⟩) | (go_at_call 51; refine (placeI_any _ _ _ _ h hx'.1 hx'.2).mono ?_; rintro e w' ⟨rfl, rfl⟩))
      go_ret
      exact ⟨ret_int H.out, rfl⟩
    · have hx : inB x 0 (2 * n) = false := by simpa using hx
      have H : Hid (-1 = swPlF n s x) := by unfold swPlF; rw [hx]; simp [Hid]
      go_enter Try.func29, Try.ntmps29
      go_wp2_with (first | (go_at_call 16; refine (swingOkI_any _ _ _).mono ?_; rintro e w' ⟨rfl, rfl⟩) | (go_at_call 44; refine (within_any _ _ _ _).mono ?_; rintro e w' ⟨rfl, rfl⟩))
      go_ret
      exact ⟨ret_int H.out, rfl⟩
  · have h : swB n s = false := by simpa using h
    have H : Hid (-1 = swPlF n s x) := by unfold swPlF; rw [h]; simp [Hid]
    go_enter Try.func29, Try.ntmps29
    go_wp2_with (first | (go_at_call 16; refine (swingOkI_any _ _ _).mono ?_; rintro e w' ⟨rfl, rfl⟩))
    go_ret
    exact ⟨ret_int H.out, rfl⟩

theorem stPlS_any (n s x : Int) (w : World) :
    Calls Try.prog 32 #[.int .i64 n, .int .i64 s, .int .i64 x] w fun e w' => e = .returned (.int .i64 (stPlF n s x)) ∧ w = w' := by
  by_cases h : swB n s = true
  · have h' := swB_iff.1 h
    by_cases hx : inB x 0 (2 * n) = true
    · have hx' := inB_iff.1 hx
      have H : Hid ((leastF n s x : Int) = stPlF n s x) := by unfold stPlF; rw [if_pos ⟨h, hx⟩]; exact rfl
      go_enter Try.func32, Try.ntmps32
      go_wp2_with (first | (go_at_call 15; refine (swingOkS_any _ _ _).mono ?_; rintro e w' ⟨rfl, rfl⟩) | (go_at_call 43; refine (l01In_any _ _ _ _).mono ?_; rintro e w' ⟨rfl, rfl⟩) | (go_at_call 52; refine (straightS_any _ _ _ _ _ h (leastF_spec h hx'.2)).mono ?_; rintro e w' ⟨rfl, rfl⟩))
      go_ret
      exact ⟨ret_int H.out, rfl⟩
    · have hx : inB x 0 (2 * n) = false := by simpa using hx
      have H : Hid (-1 = stPlF n s x) := by unfold stPlF; rw [hx]; simp [Hid]
      go_enter Try.func32, Try.ntmps32
      go_wp2_with (first | (go_at_call 15; refine (swingOkS_any _ _ _).mono ?_; rintro e w' ⟨rfl, rfl⟩) | (go_at_call 43; refine (l01In_any _ _ _ _).mono ?_; rintro e w' ⟨rfl, rfl⟩))
      go_ret
      exact ⟨ret_int H.out, rfl⟩
  · have h : swB n s = false := by simpa using h
    have H : Hid (-1 = stPlF n s x) := by unfold stPlF; rw [h]; simp [Hid]
    go_enter Try.func32, Try.ntmps32
    go_wp2_with (first | (go_at_call 15; refine (swingOkS_any _ _ _).mono ?_; rintro e w' ⟨rfl, rfl⟩))
    go_ret
    exact ⟨ret_int H.out, rfl⟩
theorem stPlI_any (n s x : Int) (w : World) :
    Calls Try.prog 33 #[.int .i64 n, .int .i64 s, .int .i64 x] w fun e w' => e = .returned (.int .i64 (stPlF n s x)) ∧ w = w' := by
  by_cases h : swB n s = true
  · have h' := swB_iff.1 h
    by_cases hx : inB x 0 (2 * n) = true
    · have hx' := inB_iff.1 hx
      have H : Hid ((leastF n s x : Int) = stPlF n s x) := by unfold stPlF; rw [if_pos ⟨h, hx⟩]; exact rfl
      go_enter Try.func33, Try.ntmps33
      go_wp2_with (first | (go_at_call 16; refine (swingOkI_any _ _ _).mono ?_; rintro e w' ⟨rfl, rfl⟩) | (go_at_call 44; refine (within_any _ _ _ _).mono ?_; rintro e w' ⟨rfl, rfl⟩) | (go_at_call 53; refine (straightI_any _ _ _ _ _ h (leastF_spec h hx'.2)).mono ?_; rintro e w' ⟨rfl, rfl⟩))
      go_ret
      exact ⟨ret_int H.out, rfl⟩
    · have hx : inB x 0 (2 * n) = false := by simpa using hx
      have H : Hid (-1 = stPlF n s x) := by unfold stPlF; rw [hx]; simp [Hid]
      go_enter Try.func33, Try.ntmps33
      go_wp2_with (first | (go_at_call 16; refine (swingOkI_any _ _ _).mono ?_; rintro e w' ⟨rfl, rfl⟩) | (go_at_call 44; refine (within_any _ _ _ _).mono ?_; rintro e w' ⟨rfl, rfl⟩))
      go_ret
      exact ⟨ret_int H.out, rfl⟩
  · have h : swB n s = false := by simpa using h
    have H : Hid (-1 = stPlF n s x) := by unfold stPlF; rw [h]; simp [Hid]
    go_enter Try.func33, Try.ntmps33
    go_wp2_with (first | (go_at_call 16; refine (swingOkI_any _ _ _).mono ?_; rintro e w' ⟨rfl, rfl⟩))
    go_ret
    exact ⟨ret_int H.out, rfl⟩

theorem swTmS_any (n s t : Int) (w : World) :
    Calls Try.prog 30 #[.int .i64 n, .int .i64 s, .int .i64 t] w fun e w' => e = .returned (.int .i64 (swTmF n s t)) ∧ ∃ k, w' = w.drewN k := by
  by_cases h : swB n s = true
  · have h' := swB_iff.1 h
    by_cases hx : inB t 0 1000000 = true
    · have hx' := inB_iff.1 hx
      have H : Hid (t - t % (2 * n) + swp n s (t % (2 * n)) = swTmF n s t) := by unfold swTmF; rw [if_pos ⟨h, hx⟩]; exact rfl
      have m0 : 0 ≤ t % (2 * n) := Int.emod_nonneg _ (by omega)
      have m1 : t % (2 * n) ≤ 2 * n := Int.le_of_lt (Int.emod_lt_of_pos _ (by omega))
      have hb := swp_bd h m0 m1
      go_enter Try.func30, Try.ntmps30
      go_wp2_with (first | (go_at_call 15; refine (swingOkS_any _ _ _).mono ?_; rintro e w' ⟨rfl, rfl⟩) | (go_at_call 43; refine (l01In_any _ _ _ _).mono ?_; rintro e w' ⟨rfl, rfl⟩) | (go_at_call 50; refine (placeS_any _ _ _ _ h m0 m1).mono ?_; rintro e w' ⟨rfl, rfl⟩))
      go_quiet ((go_at_call 50; exact quiet_same (placeS_any _ _ _ _ h m0 m1)))
      go_wp2
      go_ret
      exact ⟨ret_int H.out, _, rfl⟩
    · have hx : inB t 0 1000000 = false := by simpa using hx
      have H : Hid (-1 = swTmF n s t) := by unfold swTmF; rw [hx]; simp [Hid]
      go_enter Try.func30, Try.ntmps30
      go_wp2_with (first | (go_at_call 15; refine (swingOkS_any _ _ _).mono ?_; rintro e w' ⟨rfl, rfl⟩) | (go_at_call 43; refine (l01In_any _ _ _ _).mono ?_; rintro e w' ⟨rfl, rfl⟩))
      go_ret
      exact ⟨ret_int H.out, 0, rfl⟩
  · have h : swB n s = false := by simpa using h
    have H : Hid (-1 = swTmF n s t) := by unfold swTmF; rw [h]; simp [Hid]
    go_enter Try.func30, Try.ntmps30
    go_wp2_with (first | (go_at_call 15; refine (swingOkS_any _ _ _).mono ?_; rintro e w' ⟨rfl, rfl⟩))
    go_ret
    exact ⟨ret_int H.out, 0, rfl⟩
theorem swTmI_any (n s t : Int) (w : World) :
    Calls Try.prog 31 #[.int .i64 n, .int .i64 s, .int .i64 t] w fun e w' => e = .returned (.int .i64 (swTmF n s t)) ∧ ∃ k, w' = w.drewN k := by
  by_cases h : swB n s = true
  · have h' := swB_iff.1 h
    by_cases hx : inB t 0 1000000 = true
    · have hx' := inB_iff.1 hx
      have H : Hid (t - t % (2 * n) + swp n s (t % (2 * n)) = swTmF n s t) := by unfold swTmF; rw [if_pos ⟨h, hx⟩]; exact rfl
      have m0 : 0 ≤ t % (2 * n) := Int.emod_nonneg _ (by omega)
      have m1 : t % (2 * n) ≤ 2 * n := Int.le_of_lt (Int.emod_lt_of_pos _ (by omega))
      have hb := swp_bd h m0 m1
      go_enter Try.func31, Try.ntmps31
      go_wp2_with (first | (go_at_call 16; refine (swingOkI_any _ _ _).mono ?_; rintro e w' ⟨rfl, rfl⟩) | (go_at_call 44; refine (within_any _ _ _ _).mono ?_; rintro e w' ⟨rfl, rfl⟩) | (go_at_call 51; refine (placeI_any _ _ _ _ h m0 m1).mono ?_; rintro e w' ⟨rfl, rfl⟩))
      go_ret
      exact ⟨ret_int H.out, 0, rfl⟩
    · have hx : inB t 0 1000000 = false := by simpa using hx
      have H : Hid (-1 = swTmF n s t) := by unfold swTmF; rw [hx]; simp [Hid]
      go_enter Try.func31, Try.ntmps31
      go_wp2_with (first | (go_at_call 16; refine (swingOkI_any _ _ _).mono ?_; rintro e w' ⟨rfl, rfl⟩) | (go_at_call 44; refine (within_any _ _ _ _).mono ?_; rintro e w' ⟨rfl, rfl⟩))
      go_ret
      exact ⟨ret_int H.out, 0, rfl⟩
  · have h : swB n s = false := by simpa using h
    have H : Hid (-1 = swTmF n s t) := by unfold swTmF; rw [h]; simp [Hid]
    go_enter Try.func31, Try.ntmps31
    go_wp2_with (first | (go_at_call 16; refine (swingOkI_any _ _ _).mono ?_; rintro e w' ⟨rfl, rfl⟩))
    go_ret
    exact ⟨ret_int H.out, 0, rfl⟩

theorem stTmS_any (n s t : Int) (w : World) :
    Calls Try.prog 34 #[.int .i64 n, .int .i64 s, .int .i64 t] w fun e w' => e = .returned (.int .i64 (stTmF n s t)) ∧ ∃ k, w' = w.drewN k := by
  by_cases h : swB n s = true
  · have h' := swB_iff.1 h
    by_cases hx : inB t 0 1000000 = true
    · have hx' := inB_iff.1 hx
      have H : Hid (t - t % (2 * n) + (leastF n s (t % (2 * n)) : Int) = stTmF n s t) := by unfold stTmF; rw [if_pos ⟨h, hx⟩]; exact rfl
      have m0 : 0 ≤ t % (2 * n) := Int.emod_nonneg _ (by omega)
      have m1 : t % (2 * n) ≤ 2 * n := Int.le_of_lt (Int.emod_lt_of_pos _ (by omega))
      have hb := (leastF_spec h m1).2.1
      go_enter Try.func34, Try.ntmps34
      go_wp2_with (first | (go_at_call 15; refine (swingOkS_any _ _ _).mono ?_; rintro e w' ⟨rfl, rfl⟩) | (go_at_call 43; refine (l01In_any _ _ _ _).mono ?_; rintro e w' ⟨rfl, rfl⟩) | (go_at_call 52; refine (straightS_any _ _ _ _ _ h (leastF_spec h m1)).mono ?_; rintro e w' ⟨rfl, rfl⟩))
      go_quiet ((go_at_call 52; exact quiet_same (straightS_any _ _ _ _ _ h (leastF_spec h m1))))
      go_wp2
      go_ret
      exact ⟨ret_int H.out, _, rfl⟩
    · have hx : inB t 0 1000000 = false := by simpa using hx
      have H : Hid (-1 = stTmF n s t) := by unfold stTmF; rw [hx]; simp [Hid]
      go_enter Try.func34, Try.ntmps34
      go_wp2_with (first | (go_at_call 15; refine (swingOkS_any _ _ _).mono ?_; rintro e w' ⟨rfl, rfl⟩) | (go_at_call 43; refine (l01In_any _ _ _ _).mono ?_; rintro e w' ⟨rfl, rfl⟩))
      go_ret
      exact ⟨ret_int H.out, 0, rfl⟩
  · have h : swB n s = false := by simpa using h
    have H : Hid (-1 = stTmF n s t) := by unfold stTmF; rw [h]; simp [Hid]
    go_enter Try.func34, Try.ntmps34
    go_wp2_with (first | (go_at_call 15; refine (swingOkS_any _ _ _).mono ?_; rintro e w' ⟨rfl, rfl⟩))
    go_ret
    exact ⟨ret_int H.out, 0, rfl⟩
theorem stTmI_any (n s t : Int) (w : World) :
    Calls Try.prog 35 #[.int .i64 n, .int .i64 s, .int .i64 t] w fun e w' => e = .returned (.int .i64 (stTmF n s t)) ∧ ∃ k, w' = w.drewN k := by
  by_cases h : swB n s = true
  · have h' := swB_iff.1 h
    by_cases hx : inB t 0 1000000 = true
    · have hx' := inB_iff.1 hx
      have H : Hid (t - t % (2 * n) + (leastF n s (t % (2 * n)) : Int) = stTmF n s t) := by unfold stTmF; rw [if_pos ⟨h, hx⟩]; exact rfl
      have m0 : 0 ≤ t % (2 * n) := Int.emod_nonneg _ (by omega)
      have m1 : t % (2 * n) ≤ 2 * n := Int.le_of_lt (Int.emod_lt_of_pos _ (by omega))
      have hb := (leastF_spec h m1).2.1
      go_enter Try.func35, Try.ntmps35
      go_wp2_with (first | (go_at_call 16; refine (swingOkI_any _ _ _).mono ?_; rintro e w' ⟨rfl, rfl⟩) | (go_at_call 44; refine (within_any _ _ _ _).mono ?_; rintro e w' ⟨rfl, rfl⟩) | (go_at_call 53; refine (straightI_any _ _ _ _ _ h (leastF_spec h m1)).mono ?_; rintro e w' ⟨rfl, rfl⟩))
      go_ret
      exact ⟨ret_int H.out, 0, rfl⟩
    · have hx : inB t 0 1000000 = false := by simpa using hx
      have H : Hid (-1 = stTmF n s t) := by unfold stTmF; rw [hx]; simp [Hid]
      go_enter Try.func35, Try.ntmps35
      go_wp2_with (first | (go_at_call 16; refine (swingOkI_any _ _ _).mono ?_; rintro e w' ⟨rfl, rfl⟩) | (go_at_call 44; refine (within_any _ _ _ _).mono ?_; rintro e w' ⟨rfl, rfl⟩))
      go_ret
      exact ⟨ret_int H.out, 0, rfl⟩
  · have h : swB n s = false := by simpa using h
    have H : Hid (-1 = stTmF n s t) := by unfold stTmF; rw [h]; simp [Hid]
    go_enter Try.func35, Try.ntmps35
    go_wp2_with (first | (go_at_call 16; refine (swingOkI_any _ _ _).mono ?_; rintro e w' ⟨rfl, rfl⟩))
    go_ret
    exact ⟨ret_int H.out, 0, rfl⟩

def halfF (n s : Int) : Int := if swB n s = true then s else -1
theorem halfS_any (n s : Int) (w : World) :
    Calls Try.prog 23 #[.int .i64 n, .int .i64 s] w fun e w' => e = .returned (.int .i64 (halfF n s)) ∧ w = w' := by
  by_cases h : swB n s = true
  · have H : Hid (s = halfF n s) := by unfold halfF; rw [if_pos h]; exact rfl
    go_enter Try.func23, Try.ntmps23
    go_wp2_with (go_at_call 15; refine (swingOkS_any _ _ _).mono ?_; rintro e w' ⟨rfl, rfl⟩)
    go_ret
    exact ⟨ret_int H.out, rfl⟩
  · have h : swB n s = false := by simpa using h
    have H : Hid (-1 = halfF n s) := by unfold halfF; rw [h]; exact rfl
    go_enter Try.func23, Try.ntmps23
    go_wp2_with (go_at_call 15; refine (swingOkS_any _ _ _).mono ?_; rintro e w' ⟨rfl, rfl⟩)
    go_ret
    exact ⟨ret_int H.out, rfl⟩
theorem half_eq (n s : Int) : swPlF n s n = halfF n s := by
  unfold swPlF halfF
  by_cases h : swB n s = true
  · have h' := swB_iff.1 h
    rw [if_pos ⟨h, inB_iff.2 ⟨by omega, by omega⟩⟩, if_pos h, swp_mid h]
  · rw [if_neg (fun k => h k.1), if_neg h]
theorem halfI_any (n s : Int) (w : World) :
    Calls Try.prog 24 #[.int .i64 n, .int .i64 s] w fun e w' => e = .returned (.int .i64 (halfF n s)) ∧ w = w' := by
  go_enter Try.func24, Try.ntmps24
  go_wp2_with (go_at_call 29; refine (swPlI_any _ _ _ _).mono ?_; rintro e w' ⟨rfl, rfl⟩)
  go_ret
  exact ⟨ret_int (half_eq n s), rfl⟩
end Go.Proofs.Ytcladodjoneanaa
