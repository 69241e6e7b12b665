/- Contracts of RatioOk, and of the laws' copy of a ratio. -/
import Derived.Test.YtoobffhchbgkjaaGcd
namespace Go.Proofs.Ytoobffhchbgkjaa
open Go.RowKit

/-- RatioOk. -/
def ratB (t b : Int) : Bool := inB t (-1000000000000) 1000000000000 && (inB b 1 1000000000000 && (gcdF (max t (-t)) b == 1))

theorem ratioS_any (t b : Int) (w : World) :
    Calls Try.prog 57 #[.agg #[.int .i64 t, .int .i64 b]] w fun e w' => e = .returned (.bool (ratB t b)) ∧ Ext w w' := by
  by_cases h1 : inB t (-1000000000000) 1000000000000 = true
  · have h1' := inB_iff.1 h1
    by_cases h2 : inB b 1 1000000000000 = true
    · have h2' := inB_iff.1 h2
      by_cases h0 : 0 ≤ t
      · have H : Hid ((gcdF t b == 1) = ratB t b) := by unfold ratB; rw [h1, h2, show max t (-t) = t by omega]; simp [Hid]
        go_enter Try.func57, Try.ntmps57
        go_wp2_with (first | (go_at_call 41; refine (l01In_any _ _ _ _).mono ?_; rintro e w' ⟨rfl, rfl⟩) | (go_at_call 61; refine (gcdS_q _ _ _ (by omega) (by omega)).mono ?_; rintro e w' ⟨rfl, k, rfl⟩))
        go_ret
        exact ⟨ret_bool H.out, ((Ext.refl w).alloc _).drewN _⟩
      · have H : Hid ((gcdF (-t) b == 1) = ratB t b) := by unfold ratB; rw [h1, h2, show max t (-t) = -t by omega]; simp [Hid]
        have h0' : t < 0 := by omega
        clear h0
        go_enter Try.func57, Try.ntmps57
        go_wp2_with (first | (go_at_call 41; refine (l01In_any _ _ _ _).mono ?_; rintro e w' ⟨rfl, rfl⟩) | (go_at_call 61; refine (gcdS_q _ _ _ (by omega) (by omega)).mono ?_; rintro e w' ⟨rfl, k, rfl⟩))
        go_ret
        exact ⟨ret_bool H.out, ((Ext.refl w).alloc _).drewN _⟩
    · have h2 : inB b 1 1000000000000 = false := by simpa using h2
      have H : Hid (false = ratB t b) := by unfold ratB; rw [h1, h2]; simp [Hid]
      go_enter Try.func57, Try.ntmps57
      go_wp2_with (go_at_call 41; refine (l01In_any _ _ _ _).mono ?_; rintro e w' ⟨rfl, rfl⟩)
      go_ret
      exact ⟨ret_bool H.out, (Ext.refl w).alloc _⟩
  · have h1 : inB t (-1000000000000) 1000000000000 = false := by simpa using h1
    have H : Hid (false = ratB t b) := by unfold ratB; rw [h1]; simp [Hid]
    go_enter Try.func57, Try.ntmps57
    go_wp2_with (go_at_call 41; refine (l01In_any _ _ _ _).mono ?_; rintro e w' ⟨rfl, rfl⟩)
    go_ret
    exact ⟨ret_bool H.out, (Ext.refl w).alloc _⟩
theorem ratioI_any (t b : Int) (w : World) :
    Calls Try.prog 39 #[.agg #[.int .i64 t, .int .i64 b]] w fun e w' => e = .returned (.bool (ratB t b)) ∧ Ext w w' := by
  by_cases h1 : inB t (-1000000000000) 1000000000000 = true
  · have h1' := inB_iff.1 h1
    by_cases h2 : inB b 1 1000000000000 = true
    · have h2' := inB_iff.1 h2
      by_cases h0 : 0 ≤ t
      · have H : Hid ((gcdF t b == 1) = ratB t b) := by unfold ratB; rw [h1, h2, show max t (-t) = t by omega]; simp [Hid]
        go_enter Try.func39, Try.ntmps39
        go_wp2_with (first | (go_at_call 43; refine (within_any _ _ _ _).mono ?_; rintro e w' ⟨rfl, rfl⟩) | (go_at_call 51; refine (gcdI_q _ _ _ (by omega) (by omega)).mono ?_; rintro e w' ⟨rfl, k, rfl⟩))
        go_ret
        exact ⟨ret_bool H.out, ((Ext.refl w).alloc _).drewN _⟩
      · have H : Hid ((gcdF (-t) b == 1) = ratB t b) := by unfold ratB; rw [h1, h2, show max t (-t) = -t by omega]; simp [Hid]
        have h0' : t < 0 := by omega
        clear h0
        go_enter Try.func39, Try.ntmps39
        go_wp2_with (first | (go_at_call 43; refine (within_any _ _ _ _).mono ?_; rintro e w' ⟨rfl, rfl⟩) | (go_at_call 51; refine (gcdI_q _ _ _ (by omega) (by omega)).mono ?_; rintro e w' ⟨rfl, k, rfl⟩))
        go_ret
        exact ⟨ret_bool H.out, ((Ext.refl w).alloc _).drewN _⟩
    · have h2 : inB b 1 1000000000000 = false := by simpa using h2
      have H : Hid (false = ratB t b) := by unfold ratB; rw [h1, h2]; simp [Hid]
      go_enter Try.func39, Try.ntmps39
      go_wp2_with (go_at_call 43; refine (within_any _ _ _ _).mono ?_; rintro e w' ⟨rfl, rfl⟩)
      go_ret
      exact ⟨ret_bool H.out, (Ext.refl w).alloc _⟩
  · have h1 : inB t (-1000000000000) 1000000000000 = false := by simpa using h1
    have H : Hid (false = ratB t b) := by unfold ratB; rw [h1]; simp [Hid]
    go_enter Try.func39, Try.ntmps39
    go_wp2_with (go_at_call 43; refine (within_any _ _ _ _).mono ?_; rintro e w' ⟨rfl, rfl⟩)
    go_ret
    exact ⟨ret_bool H.out, (Ext.refl w).alloc _⟩
end Go.Proofs.Ytoobffhchbgkjaa
