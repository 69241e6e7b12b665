/- Contracts of the swing functions. -/
import Derived.Test.YtcladodjoneanaaInts
namespace Go.Proofs.Ytcladodjoneanaa
open Go.RowKit

/-- The swing (n, s) is valid. -/
def swB (n s : Int) : Bool := inB n 1 240 && inB s 1 (2 * n - 1)
theorem swB_iff {n s : Int} : swB n s = true ↔ (1 ≤ n ∧ n ≤ 240) ∧ 1 ≤ s ∧ s ≤ 2 * n - 1 := by simp [swB, inB]

theorem swB_ge {n s : Int} (h : inB n 1 240 = true) : inB s 1 (2 * n - 1) = swB n s := by simp [swB, h]
theorem swB_lt {n s : Int} (h : inB n 1 240 = false) : false = swB n s := by simp [swB, h]

theorem swingOkS_any (n s : Int) (w : World) :
    Calls Try.prog 15 #[.int .i64 n, .int .i64 s] w fun e w' => e = .returned (.bool (swB n s)) ∧ w = w' := by
  by_cases h : inB n 1 240 = true
  · have h' := inB_iff.1 h
    go_enter Try.func15, Try.ntmps15
    go_wp2_with (go_at_call 43; refine (l01In_any _ _ _ _).mono ?_; rintro e w' ⟨rfl, rfl⟩)
    go_ret
    exact ⟨ret_bool (swB_ge h), rfl⟩
  · have h' : inB n 1 240 = false := by simpa using h
    clear h
    go_enter Try.func15, Try.ntmps15
    go_wp2_with (go_at_call 43; refine (l01In_any _ _ _ _).mono ?_; rintro e w' ⟨rfl, rfl⟩)
    go_ret
    exact ⟨ret_bool (swB_lt h'), rfl⟩

theorem swingOkI_any (n s : Int) (w : World) :
    Calls Try.prog 16 #[.int .i64 n, .int .i64 s] w fun e w' => e = .returned (.bool (swB n s)) ∧ w = w' := by
  by_cases h : inB n 1 240 = true
  · have h' := inB_iff.1 h
    go_enter Try.func16, Try.ntmps16
    go_wp2_with (go_at_call 44; refine (within_any _ _ _ _).mono ?_; rintro e w' ⟨rfl, rfl⟩)
    go_ret
    exact ⟨ret_bool (swB_ge h), rfl⟩
  · have h' : inB n 1 240 = false := by simpa using h
    clear h
    go_enter Try.func16, Try.ntmps16
    go_wp2_with (go_at_call 44; refine (within_any _ _ _ _).mono ?_; rintro e w' ⟨rfl, rfl⟩)
    go_ret
    exact ⟨ret_bool (swB_lt h'), rfl⟩

theorem isStraightS_any (n s : Int) (w : World) :
    Calls Try.prog 17 #[.int .i64 n, .int .i64 s] w fun e w' => e = .returned (.bool (swB n s && (s == n))) ∧ w = w' := by
  go_enter Try.func17, Try.ntmps17
  go_wp2_with (go_at_call 15; refine (swingOkS_any _ _ _).mono ?_; rintro e w' ⟨rfl, rfl⟩)
  all_goals
    go_ret
    exact ⟨ret_bool (by simp [*]), rfl⟩

theorem isStraightI_any (n s : Int) (w : World) :
    Calls Try.prog 18 #[.int .i64 n, .int .i64 s] w fun e w' => e = .returned (.bool (swB n s && (s == n))) ∧ w = w' := by
  go_enter Try.func18, Try.ntmps18
  go_wp2_with (go_at_call 16; refine (swingOkI_any _ _ _).mono ?_; rintro e w' ⟨rfl, rfl⟩)
  all_goals
    go_ret
    exact ⟨ret_bool (by simp [*]), rfl⟩

def oppF (n s : Int) : Int := if swB n s = true then 2 * n - s else -1

theorem oppS_any (n s : Int) (w : World) :
    Calls Try.prog 19 #[.int .i64 n, .int .i64 s] w fun e w' => e = .returned (.int .i64 (oppF n s)) ∧ w = w' := by
  by_cases h : swB n s = true
  · have h' := swB_iff.1 h
    go_enter Try.func19, Try.ntmps19
    go_wp2_with (go_at_call 15; refine (swingOkS_any _ _ _).mono ?_; rintro e w' ⟨rfl, rfl⟩)
    go_ret
    exact ⟨ret_int (by rw [oppF, if_pos h]), rfl⟩
  · have h' : swB n s = false := by simpa using h
    go_enter Try.func19, Try.ntmps19
    go_wp2_with (go_at_call 15; refine (swingOkS_any _ _ _).mono ?_; rintro e w' ⟨rfl, rfl⟩)
    go_ret
    exact ⟨ret_int (by rw [oppF, h']; rfl), rfl⟩

theorem oppI_any (n s : Int) (w : World) :
    Calls Try.prog 20 #[.int .i64 n, .int .i64 s] w fun e w' => e = .returned (.int .i64 (oppF n s)) ∧ w = w' := by
  by_cases h : swB n s = true
  · have h' := swB_iff.1 h
    go_enter Try.func20, Try.ntmps20
    go_wp2_with (go_at_call 16; refine (swingOkI_any _ _ _).mono ?_; rintro e w' ⟨rfl, rfl⟩)
    go_ret
    exact ⟨ret_int (by rw [oppF, if_pos h]), rfl⟩
  · have h' : swB n s = false := by simpa using h
    go_enter Try.func20, Try.ntmps20
    go_wp2_with (go_at_call 16; refine (swingOkI_any _ _ _).mono ?_; rintro e w' ⟨rfl, rfl⟩)
    go_ret
    exact ⟨ret_int (by rw [oppF, h']; rfl), rfl⟩

/-- The place for a straight one. -/
def swp (n s x : Int) : Int := if x ≤ n then x * s / n else s + (x - n) * (2 * n - s) / n

theorem mul_bd {a b A B : Int} (h0 : 0 ≤ a) (h1 : a ≤ A) (k0 : 0 ≤ b) (k1 : b ≤ B) : 0 ≤ a * b ∧ a * b ≤ A * B :=
  ⟨Int.mul_nonneg h0 k0, Int.mul_le_mul h1 k1 k0 (by omega)⟩

theorem div_bd {a n A : Int} (hn : 1 ≤ n) (h0 : 0 ≤ a) (h1 : a ≤ A) : 0 ≤ a / n ∧ a / n ≤ A :=
  ⟨Int.ediv_nonneg h0 (by omega), Int.le_trans (Int.ediv_le_self _ h0) h1⟩

theorem placeS_any (n s x : Int) (w : World) (h : swB n s = true) (h0 : 0 ≤ x) (h1 : x ≤ 2 * n) :
    Calls Try.prog 50 #[.int .i64 n, .int .i64 s, .int .i64 x] w fun e w' => e = .returned (.int .i64 (swp n s x)) ∧ w = w' := by
  have h' := swB_iff.1 h
  by_cases hx : x ≤ n
  · have hm := mul_bd (a := x) (b := s) (A := 480) (B := 480) h0 (by omega) (by omega) (by omega)
    have H : Hid (swp n s x = x * s / n) := by unfold swp; rw [if_pos hx]; exact rfl
    clear h
    go_enter Try.func50, Try.ntmps50
    go_wp2
    go_ret
    exact ⟨ret_int H.out.symm, rfl⟩
  · have hm := mul_bd (a := x - n) (b := 2 * n - s) (A := 480) (B := 480) (by omega) (by omega) (by omega) (by omega)
    have hd := div_bd (a := (x - n) * (2 * n - s)) (n := n) (by omega) hm.1 hm.2
    have H : Hid (swp n s x = s + (x - n) * (2 * n - s) / n) := by unfold swp; rw [if_neg hx]; exact rfl
    clear h
    go_enter Try.func50, Try.ntmps50
    go_wp2
    go_ret
    exact ⟨ret_int H.out.symm, rfl⟩

theorem placeI_any (n s x : Int) (w : World) (h : swB n s = true) (h0 : 0 ≤ x) (h1 : x ≤ 2 * n) :
    Calls Try.prog 51 #[.int .i64 n, .int .i64 s, .int .i64 x] w fun e w' => e = .returned (.int .i64 (swp n s x)) ∧ w = w' := by
  have h' := swB_iff.1 h
  by_cases hx : x ≤ n
  · have hm := mul_bd (a := x) (b := s) (A := 480) (B := 480) h0 (by omega) (by omega) (by omega)
    have H : Hid (swp n s x = x * s / n) := by unfold swp; rw [if_pos hx]; exact rfl
    clear h
    go_enter Try.func51, Try.ntmps51
    go_wp2
    go_ret
    exact ⟨ret_int H.out.symm, rfl⟩
  · have hm := mul_bd (a := x - n) (b := 2 * n - s) (A := 480) (B := 480) (by omega) (by omega) (by omega) (by omega)
    have hd := div_bd (a := (x - n) * (2 * n - s)) (n := n) (by omega) hm.1 hm.2
    have H : Hid (swp n s x = s + (x - n) * (2 * n - s) / n) := by unfold swp; rw [if_neg hx]; exact rfl
    clear h
    go_enter Try.func51, Try.ntmps51
    go_wp2
    go_ret
    exact ⟨ret_int H.out.symm, rfl⟩

theorem swp_bd {n s x : Int} (h : swB n s = true) (h0 : 0 ≤ x) (h1 : x ≤ 2 * n) : 0 ≤ swp n s x ∧ swp n s x ≤ 2 * n := by
  have h' := swB_iff.1 h
  unfold swp
  by_cases hx : x ≤ n
  · rw [if_pos hx]
    refine ⟨Int.ediv_nonneg (Int.mul_nonneg h0 (by omega)) (by omega), ?_⟩
    have : x * s ≤ n * s := Int.mul_le_mul_of_nonneg_right hx (by omega)
    have h2 : x * s / n ≤ n * s / n := Int.ediv_le_ediv (by omega) this
    rw [Int.mul_ediv_cancel_left s (by omega)] at h2
    omega
  · rw [if_neg hx]
    have a1 : 0 ≤ (x - n) * (2 * n - s) / n := Int.ediv_nonneg (Int.mul_nonneg (by omega) (by omega)) (by omega)
    have : (x - n) * (2 * n - s) ≤ n * (2 * n - s) := Int.mul_le_mul_of_nonneg_right (by omega) (by omega)
    have h2 : (x - n) * (2 * n - s) / n ≤ n * (2 * n - s) / n := Int.ediv_le_ediv (by omega) this
    rw [Int.mul_ediv_cancel_left _ (by omega)] at h2
    omega
theorem swp_end {n s : Int} (h : swB n s = true) : swp n s (2 * n) = 2 * n := by
  have h' := swB_iff.1 h
  unfold swp
  rw [if_neg (by omega), show 2 * n - n = n by omega, Int.mul_ediv_cancel_left _ (by omega)]
  omega
theorem swp_mid {n s : Int} (h : swB n s = true) : swp n s n = s := by
  have h' := swB_iff.1 h
  unfold swp
  rw [if_pos (by omega), Int.mul_ediv_cancel_left _ (by omega)]

/-- z is the least straight place that reaches y. -/
def LeastPl (n s y : Int) (z : Nat) : Prop := y ≤ swp n s z ∧ (z : Int) ≤ 2 * n ∧ ∀ x : Nat, x < z → swp n s x < y

theorem leastPl_ex {n s y : Int} (h : swB n s = true) (hy : y ≤ 2 * n) : ∃ z, LeastPl n s y z := by
  have h' := swB_iff.1 h
  have hex : ∃ z : Nat, y ≤ swp n s z := ⟨(2 * n).toNat, by rw [show (((2 * n).toNat : Nat) : Int) = 2 * n by omega, swp_end h]; exact hy⟩
  obtain ⟨z, hz, hm⟩ : ∃ z : Nat, y ≤ swp n s z ∧ ∀ x : Nat, x < z → ¬ y ≤ swp n s x := by
    obtain ⟨z0, hz0⟩ := hex
    induction z0 using Nat.strongRecOn with
    | _ k ih =>
      by_cases hb : ∃ x : Nat, x < k ∧ y ≤ swp n s x
      · obtain ⟨x, hx, hy⟩ := hb
        exact ih x hx hy
      · exact ⟨k, hz0, fun x hx hy => hb ⟨x, hx, hy⟩⟩
  refine ⟨z, hz, ?_, fun x hx => by have := hm x hx; omega⟩
  by_cases hle : (z : Int) ≤ 2 * n
  · exact hle
  · exact absurd (show y ≤ swp n s ((2 * n).toNat : Nat) by rw [show (((2 * n).toNat : Nat) : Int) = 2 * n by omega, swp_end h]; exact hy) (hm _ (by omega))
theorem leastPl_uniq {n s y : Int} {z z' : Nat} (h : LeastPl n s y z) (h' : LeastPl n s y z') : z = z' := by
  rcases Nat.lt_trichotomy z z' with hlt | he | hgt
  · have := h'.2.2 z hlt; have := h.1; omega
  · exact he
  · have := h.2.2 z' hgt; have := h'.1; omega

theorem straightS_any (n s y : Int) (z : Nat) (w : World) (h : swB n s = true) (hz : LeastPl n s y z) :
    Calls Try.prog 52 #[.int .i64 n, .int .i64 s, .int .i64 y] w fun e w' => e = .returned (.int .i64 z) ∧ w = w' := by
  have h' := swB_iff.1 h
  have H := Lib.hid h
  have HZ := Lib.hid hz
  clear h hz
  have hzn : (z : Int) ≤ 2 * n := HZ.out.2.1
  go_enter Try.func52, Try.ntmps52
  go_wp2_with fail
  go_loop [7] (fun x => ∃ k : Nat, k ≤ z ∧ x = .int .i64 k) (fun x => z - (intOf x).toNat)
  case atStart => exact ⟨0, Nat.zero_le _, rfl⟩
  case round =>
    obtain ⟨k, hk, rfl⟩ := hrel
    by_cases hlt : k < z
    · have hb := HZ.out.2.2 k hlt
      go_wp2_with (go_at_call 50; refine (placeS_any _ _ _ _ H.out (by omega) (by omega)).mono ?_; rintro e w' ⟨rfl, rfl⟩)
      go_round
      case rel => exact ⟨k + 1, by omega, by go_num⟩
      case measure => simp [intOf]; omega
    · obtain rfl : k = z := by omega
      have hb := HZ.out.1
      go_wp2_with (go_at_call 50; refine (placeS_any _ _ _ _ H.out (by omega) (by omega)).mono ?_; rintro e w' ⟨rfl, rfl⟩)
      go_ret
      exact ⟨rfl, rfl⟩
theorem straightI_any (n s y : Int) (z : Nat) (w : World) (h : swB n s = true) (hz : LeastPl n s y z) :
    Calls Try.prog 53 #[.int .i64 n, .int .i64 s, .int .i64 y] w fun e w' => e = .returned (.int .i64 z) ∧ w = w' := by
  have h' := swB_iff.1 h
  have H := Lib.hid h
  have HZ := Lib.hid hz
  clear h hz
  have hzn : (z : Int) ≤ 2 * n := HZ.out.2.1
  go_enter Try.func53, Try.ntmps53
  go_wp2_with fail
  go_loop [7] (fun x => ∃ k : Nat, k ≤ z ∧ x = .int .i64 k) (fun x => z - (intOf x).toNat)
  case atStart => exact ⟨0, Nat.zero_le _, rfl⟩
  case round =>
    obtain ⟨k, hk, rfl⟩ := hrel
    by_cases hlt : k < z
    · have hb := HZ.out.2.2 k hlt
      go_wp2_with (go_at_call 51; refine (placeI_any _ _ _ _ H.out (by omega) (by omega)).mono ?_; rintro e w' ⟨rfl, rfl⟩)
      go_round
      case rel => exact ⟨k + 1, by omega, by go_num⟩
      case measure => simp [intOf]; omega
    · obtain rfl : k = z := by omega
      have hb := HZ.out.1
      go_wp2_with (go_at_call 51; refine (placeI_any _ _ _ _ H.out (by omega) (by omega)).mono ?_; rintro e w' ⟨rfl, rfl⟩)
      go_ret
      exact ⟨rfl, rfl⟩
end Go.Proofs.Ytcladodjoneanaa
