/- The number of ones of a number: contract of bits.OnesCount below 4096. -/
import Derived.Test.YtnhppeknkeblfaaAt
namespace Go.Proofs.Ytnhppeknkeblfaa
open Go.RowKit

def oc1 (c : Int) : Int := IntKind.u64.wrap (bits .and .u64 (c / 2) 6148914691236517205 + bits .and .u64 c 6148914691236517205)
def oc2 (c : Int) : Int := IntKind.u64.wrap (bits .and .u64 (c / 4) 3689348814741910323 + bits .and .u64 c 3689348814741910323)
def oc3 (c : Int) : Int := bits .and .u64 (IntKind.u64.wrap (c / 16 + c)) 1085102592571150095
def oc4 (c : Int) : Int := IntKind.u64.wrap (c + c / 256)
def oc5 (c : Int) : Int := IntKind.u64.wrap (c + c / 65536)
def oc6 (c : Int) : Int := IntKind.u64.wrap (c + c / 4294967296)
def ocF (c : Int) : Int := bits .and .i64 (wrap64 (oc6 (oc5 (oc4 (oc3 (oc2 (oc1 c))))))) 127
def popN : Nat → Nat → Nat
  | 0, _ => 0
  | f + 1, c => c % 2 + popN f (c / 2)
theorem oc_pop : ∀ i j : Fin 64, ocF ((i.val * 64 + j.val : Nat) : Int) = (popN 12 (i.val * 64 + j.val) : Nat) := by decide +kernel
theorem oc_eq {c : Nat} (hc : c < 4096) : ocF c = (popN 12 c : Nat) := by
  have := oc_pop ⟨c / 64, by omega⟩ ⟨c % 64, by omega⟩
  rwa [show c / 64 * 64 + c % 64 = c by omega] at this
theorem atL_succ (n c : Nat) : (atL (n + 1) c).length = (atL n (c / 2)).length + c % 2 := by
  unfold atL
  rw [setL_succ]
  have e : setL n (atP (n + 1) c) = setL n (atP n (c / 2)) := setL_congr fun p hp => by
    unfold atP
    rw [Nat.div_div_eq_div_mul, show n + 1 - 1 - p = (n - 1 - p) + 1 by omega, Nat.pow_succ, Nat.mul_comm]
  have e2 : atP (n + 1) c n = decide (c % 2 = 1) := by
    unfold atP
    rw [show n + 1 - 1 - n = 0 by omega]
    simp
  rw [e, e2]
  rcases Nat.mod_two_eq_zero_or_one c with h | h <;> simp [h]
theorem pop_len : ∀ n c : Nat, c < 2 ^ n → ∀ f, n ≤ f → popN f c = (atL n c).length
  | 0, c, h, f, _ => by
    have : c = 0 := by simpa using h
    subst this
    have hz : ∀ f, popN f 0 = 0 := fun f => by
      induction f with
      | zero => rfl
      | succ f ih => simp [popN, ih]
    rw [hz]
    rfl
  | n + 1, c, h, f, hf => by
    obtain ⟨g, rfl⟩ : ∃ g, f = g + 1 := ⟨f - 1, by omega⟩
    rw [popN, atL_succ, pop_len n (c / 2) (by rw [Nat.pow_succ] at h; omega) g (by omega)]
    omega
theorem ones64_any (c : Nat) (w : World) (hc : c < 4096) :
    Calls Try.prog 64 #[.int .u64 c] w fun e w' => e = .returned (.int .i64 (popN 12 c : Nat)) ∧ w' = w := by
  rw [← oc_eq hc]
  go_enter Try.func64, Try.ntmps64
  go_wp2
  go_ret
  refine ⟨ret_int ?_, rfl⟩
  generalize h1 : IntKind.u64.wrap (bits .and .u64 ((c : Int) / 2) 6148914691236517205 + bits .and .u64 c 6148914691236517205) = s1
  have e1 : oc1 c = s1 := h1
  generalize h2 : IntKind.u64.wrap (bits .and .u64 (s1 / 4) 3689348814741910323 + bits .and .u64 s1 3689348814741910323) = s2
  have e2 : oc2 s1 = s2 := h2
  generalize h3 : bits .and .u64 (IntKind.u64.wrap (s2 / 16 + s2)) 1085102592571150095 = s3
  have e3 : oc3 s2 = s3 := h3
  unfold ocF
  rw [e1, e2, e3]
  clear e1 e2 e3 h1 h2 h3

  rfl
theorem ones_any (n c : Nat) (w : World) (hn : n ≤ 12) (hc : c < 2 ^ n) :
    Calls Try.prog 47 #[.int .u64 c] w fun e w' => e = .returned (.int .i64 ((atL n c).length : Nat)) ∧ w' = w := by
  have hc2 : c < 4096 := Nat.lt_of_lt_of_le hc (Nat.pow_le_pow_right (by decide) hn)
  rw [← pop_len n c hc 12 hn]
  have C := Lib.hid (ones64_any c w hc2)
  clear hn hc
  go_enter Try.func47, Try.ntmps47
  go_wp2_with fail
  refine C.out.mono ?_
  rintro e w' ⟨rfl, rfl⟩
  go_wp2_with fail
  go_ret
  exact ⟨rfl, rfl⟩
end Go.Proofs.Ytnhppeknkeblfaa
