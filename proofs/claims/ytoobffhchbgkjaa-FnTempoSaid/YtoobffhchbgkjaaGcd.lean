/- Contracts of the two functions that return the greatest common divisor. -/
import Derived.Test.YtoobffhchbgkjaaInts
namespace Go.Proofs.Ytoobffhchbgkjaa
open Go.RowKit

theorem gcd_step {a b : Nat} (_hb : 0 < b) : Nat.gcd b (a % b) = Nat.gcd a b := by
  rw [Nat.gcd_comm a b, Nat.gcd_rec b a, Nat.gcd_comm]

theorem gcdS_any (a b : Nat) (w : World) (ha : a ≤ 9223372036854775807) (hb : b ≤ 9223372036854775807) :
    Calls Try.prog 61 #[.int .i64 (a : Int), .int .i64 (b : Int)] w fun e w' => e = .returned (.int .i64 (Nat.gcd a b : Nat)) ∧ w = w' := by
  obtain ⟨G, hG⟩ : ∃ G, G = Nat.gcd a b := ⟨_, rfl⟩
  rw [← hG]
  have HG := Lib.hid hG
  clear hG
  go_enter Try.func61, Try.ntmps61
  go_wp2
  go_loop [0, 1] (fun x y => ∃ p q : Nat, p ≤ 9223372036854775807 ∧ q ≤ b ∧ Hid (G = Nat.gcd p q) ∧ x = .int .i64 (p : Int) ∧ y = .int .i64 (q : Int)) (fun _ y => (intOf y).toNat)
  case atStart => exact ⟨a, b, ha, Nat.le_refl _, HG, rfl, rfl⟩
  case round =>
    obtain ⟨p, q, hp, hq, HI, rfl, rfl⟩ := hrel
    by_cases hlt : 0 < q
    · have hm : p % q < q := Nat.mod_lt _ hlt
      have hm0 : ((p : Int) % (q : Int)) = ((p % q : Nat) : Int) := by omega
      have HM := Lib.hid hm0
      clear hm0
      go_wp2
      go_round
      case rel => exact ⟨q, p % q, by omega, by omega, HI.out.trans (gcd_step hlt).symm, rfl, by rw [HM.out]⟩
      case measure => simp only [intOf]; have := HM.out; omega
    · obtain rfl : q = 0 := by omega
      go_wp2
      go_ret
      exact ⟨ret_int (by rw [HI.out, Nat.gcd_zero_right]), rfl⟩

theorem gcdI_any (a b : Nat) (w : World) (ha : a ≤ 9223372036854775807) (hb : b ≤ 9223372036854775807) :
    Calls Try.prog 51 #[.int .i64 (a : Int), .int .i64 (b : Int)] w fun e w' => e = .returned (.int .i64 (Nat.gcd a b : Nat)) ∧ ∃ k, w' = w.drewN k := by
  obtain ⟨G, hG⟩ : ∃ G, G = Nat.gcd a b := ⟨_, rfl⟩
  rw [← hG]
  have HG := Lib.hid hG
  clear hG
  go_enter Try.func51, Try.ntmps51
  go_wp2
  go_loopw [0, 1] (fun x y wr => ∃ p q k : Nat, p ≤ 9223372036854775807 ∧ q ≤ b ∧ Hid (G = Nat.gcd p q) ∧ x = .int .i64 (p : Int) ∧ y = .int .i64 (q : Int) ∧ wr = w.drewN k) (fun _ y _ => (intOf y).toNat)
  case atStart => exact ⟨a, b, 0, ha, Nat.le_refl _, HG, rfl, rfl, rfl⟩
  case round =>
    obtain ⟨p, q, k, hp, hq, HI, rfl, rfl, rfl⟩ := hrel
    by_cases hlt : 0 < q
    · have hm : p % q < q := Nat.mod_lt _ hlt
      have hm0 : ((p : Int) % (q : Int)) = ((p % q : Nat) : Int) := by omega
      have HM := Lib.hid hm0
      clear hm0
      go_wp2
      go_quiet (fail)
      go_wp2
      go_roundw
      case rel => exact ⟨q, p % q, k + _, by omega, by omega, HI.out.trans (gcd_step hlt).symm, rfl, by rw [HM.out], World.drewN_drewN _ _ _⟩
      case measure => simp only [intOf]; have := HM.out; omega
    · obtain rfl : q = 0 := by omega
      go_wp2
      go_ret
      exact ⟨ret_int (by rw [HI.out, Nat.gcd_zero_right]), k, rfl⟩

/-- The greatest common divisor of two numbers of at least 0. -/
def gcdF (a b : Int) : Int := (Nat.gcd a.toNat b.toNat : Nat)
theorem gcdS_i (a b : Int) (w : World) (ha : 0 ≤ a ∧ a ≤ 9223372036854775807) (hb : 0 ≤ b ∧ b ≤ 9223372036854775807) :
    Calls Try.prog 61 #[.int .i64 a, .int .i64 b] w fun e w' => e = .returned (.int .i64 (gcdF a b)) ∧ w = w' := by
  obtain ⟨n, rfl⟩ := Int.eq_ofNat_of_zero_le ha.1
  obtain ⟨m, rfl⟩ := Int.eq_ofNat_of_zero_le hb.1
  exact gcdS_any n m w (by omega) (by omega)
theorem gcdS_q (a b : Int) (w : World) (ha : 0 ≤ a ∧ a ≤ 9223372036854775807) (hb : 0 ≤ b ∧ b ≤ 9223372036854775807) :
    Calls Try.prog 61 #[.int .i64 a, .int .i64 b] w fun e w' => e = .returned (.int .i64 (gcdF a b)) ∧ ∃ k, w' = w.drewN k :=
  (gcdS_i a b w ha hb).mono fun _ _ ⟨h1, h2⟩ => ⟨h1, 0, h2.symm⟩
theorem gcdI_q (a b : Int) (w : World) (ha : 0 ≤ a ∧ a ≤ 9223372036854775807) (hb : 0 ≤ b ∧ b ≤ 9223372036854775807) :
    Calls Try.prog 51 #[.int .i64 a, .int .i64 b] w fun e w' => e = .returned (.int .i64 (gcdF a b)) ∧ ∃ k, w' = w.drewN k := by
  obtain ⟨n, rfl⟩ := Int.eq_ofNat_of_zero_le ha.1
  obtain ⟨m, rfl⟩ := Int.eq_ofNat_of_zero_le hb.1
  exact gcdI_any n m w (by omega) (by omega)
end Go.Proofs.Ytoobffhchbgkjaa
