/- Contracts of the functions that find the nearest multiple of a grid. -/
import Derived.Test.YtpiaeiihacobnaaInts
namespace Go.Proofs.Ytpiaeiihacobnaa
open Go.RowKit

/-- The nearest multiple of g, the lesser one of two. -/
def nearF (t g : Int) : Int := (t + (g - 1) / 2) / g * g
theorem near_eq {t g : Int} (_hg : 1 ≤ g) : (2 * t + g - 1) / (2 * g) = (t + (g - 1) / 2) / g := by
  rw [← Int.ediv_ediv_of_nonneg (by omega : (0 : Int) ≤ 2)]
  congr 1
  omega
theorem near_bd {t g : Int} (hg : 1 ≤ g) (hg2 : g ≤ 1000) (h0 : 0 ≤ t) (h1 : t ≤ 100000) : 0 ≤ (t + (g - 1) / 2) / g ∧ (t + (g - 1) / 2) / g ≤ 100500 ∧ 0 ≤ nearF t g ∧ nearF t g ≤ 100500 := by
  have a0 : 0 ≤ (t + (g - 1) / 2) / g := Int.ediv_nonneg (by omega) (by omega)
  have a1 : (t + (g - 1) / 2) / g ≤ t + (g - 1) / 2 := Int.ediv_le_self _ (by omega)
  have a2 : (t + (g - 1) / 2) / g * g ≤ t + (g - 1) / 2 := Int.ediv_mul_le _ (by omega)
  have a3 : 0 ≤ (t + (g - 1) / 2) / g * g := Int.mul_nonneg a0 (by omega)
  unfold nearF
  omega

theorem nearS_any (t g : Int) (w : World) (hg : 1 ≤ g) (hg2 : g ≤ 1000) (h0 : 0 ≤ t) (h1 : t ≤ 100000) :
    Calls Try.prog 46 #[.int .i64 t, .int .i64 g] w fun e w' => e = .returned (.int .i64 (nearF t g)) ∧ w = w' := by
  obtain ⟨b0, b1, b2, b3⟩ := near_bd hg hg2 h0 h1
  unfold nearF at b2 b3
  go_enter Try.func46, Try.ntmps46
  go_wp2
  go_ret
  exact ⟨rfl, rfl⟩
theorem nearI_any (t g : Int) (w : World) (hg : 1 ≤ g) (hg2 : g ≤ 1000) (h0 : 0 ≤ t) (h1 : t ≤ 100000) :
    Calls Try.prog 51 #[.int .i64 t, .int .i64 g] w fun e w' => e = .returned (.int .i64 (nearF t g)) ∧ w = w' := by
  obtain ⟨b0, b1, b2, b3⟩ := near_bd hg hg2 h0 h1
  unfold nearF at b2 b3
  rw [← near_eq hg] at b0 b1 b2 b3
  have H : Hid ((2 * t + g - 1) / (2 * g) * g = nearF t g) := by unfold nearF; rw [near_eq hg]; exact rfl
  go_enter Try.func51, Try.ntmps51
  go_wp2
  go_ret
  exact ⟨ret_int H.out, rfl⟩

/-- The grid is valid. -/
def gridB (g : Int) : Bool := inB g 1 1000
theorem gridS_any (g : Int) (w : World) : Calls Try.prog 54 #[.int .i64 g] w fun e w' => e = .returned (.bool (inB g 1 1000)) ∧ w = w' := by
  go_enter Try.func54, Try.ntmps54
  go_wp2_with (go_at_call 41; refine (l01In_any _ _ _ _).mono ?_; rintro e w' ⟨rfl, rfl⟩)
  go_ret
  exact ⟨rfl, rfl⟩

/-- NearestTick. -/
def tickF (t g : Int) : Int := if inB g 1 1000 = true ∧ inB t 0 100000 = true then nearF t g else -1
theorem tickI_any (t g : Int) (w : World) :
    Calls Try.prog 38 #[.int .i64 t, .int .i64 g] w fun e w' => e = .returned (.int .i64 (tickF t g)) ∧ w = w' := by
  by_cases h : inB g 1 1000 = true
  · have h' := inB_iff.1 h
    by_cases hx : inB t 0 100000 = true
    · have hx' := inB_iff.1 hx
      have H : Hid (nearF t g = tickF t g) := by unfold tickF; rw [if_pos ⟨h, hx⟩]; exact rfl
      go_enter Try.func38, Try.ntmps38
      go_wp2_with (first | (go_at_call 50; refine (within_any _ _ _ _).mono ?_; rintro e w' ⟨rfl, rfl⟩) | (go_at_call 50; refine (within_any _ _ _ _).mono ?_; rintro e w' ⟨rfl, rfl⟩) | (go_at_call 51; refine (nearI_any _ _ _ h'.1 h'.2 hx'.1 hx'.2).mono ?_; rintro e w' ⟨rfl, rfl⟩))
      go_ret
      exact ⟨ret_int H.out, rfl⟩
    · have hx : inB t 0 100000 = false := by simpa using hx
      have H : Hid (-1 = tickF t g) := by unfold tickF; rw [hx]; simp [Hid]
      go_enter Try.func38, Try.ntmps38
      go_wp2_with (first | (go_at_call 50; refine (within_any _ _ _ _).mono ?_; rintro e w' ⟨rfl, rfl⟩) | (go_at_call 50; refine (within_any _ _ _ _).mono ?_; rintro e w' ⟨rfl, rfl⟩))
      go_ret
      exact ⟨ret_int H.out, rfl⟩
  · have h : inB g 1 1000 = false := by simpa using h
    have H : Hid (-1 = tickF t g) := by unfold tickF; rw [h]; simp [Hid]
    go_enter Try.func38, Try.ntmps38
    go_wp2_with (first | (go_at_call 50; refine (within_any _ _ _ _).mono ?_; rintro e w' ⟨rfl, rfl⟩))
    go_ret
    exact ⟨ret_int H.out, rfl⟩
end Go.Proofs.Ytpiaeiihacobnaa
