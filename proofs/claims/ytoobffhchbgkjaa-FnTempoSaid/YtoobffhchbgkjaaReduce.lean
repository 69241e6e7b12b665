/- Plain: fractions in lowest terms. -/
import Derived.Test.YtoobffhchbgkjaaGcd
namespace Go.Proofs.Ytoobffhchbgkjaa

theorem red_nat {x y a b : Nat} (hy : 0 < y) (hb : 0 < b) (h : x * b = a * y) : x / Nat.gcd x y = a / Nat.gcd a b ∧ y / Nat.gcd x y = b / Nat.gcd a b := by
  have hg : 0 < Nat.gcd x y := Nat.gcd_pos_of_pos_right _ hy
  have hh : 0 < Nat.gcd a b := Nat.gcd_pos_of_pos_right _ hb
  have c1 : Nat.Coprime (x / Nat.gcd x y) (y / Nat.gcd x y) := Nat.coprime_div_gcd_div_gcd hg
  have c2 : Nat.Coprime (a / Nat.gcd a b) (b / Nat.gcd a b) := Nat.coprime_div_gcd_div_gcd hh
  have ex : x = Nat.gcd x y * (x / Nat.gcd x y) := (Nat.mul_div_cancel' (Nat.gcd_dvd_left x y)).symm
  have ey : y = Nat.gcd x y * (y / Nat.gcd x y) := (Nat.mul_div_cancel' (Nat.gcd_dvd_right x y)).symm
  have ea : a = Nat.gcd a b * (a / Nat.gcd a b) := (Nat.mul_div_cancel' (Nat.gcd_dvd_left a b)).symm
  have eb : b = Nat.gcd a b * (b / Nat.gcd a b) := (Nat.mul_div_cancel' (Nat.gcd_dvd_right a b)).symm
  generalize hgd : Nat.gcd x y = g at *
  generalize hhd : Nat.gcd a b = k at *
  generalize hx' : x / g = x' at *
  generalize hy' : y / g = y' at *
  generalize ha' : a / k = a' at *
  generalize hb' : b / k = b' at *
  have key : x' * b' = a' * y' := by
    have : (g * k) * (x' * b') = (g * k) * (a' * y') := by
      calc (g * k) * (x' * b') = (g * x') * (k * b') := by ac_rfl
        _ = x * b := by rw [← ex, ← eb]
        _ = a * y := h
        _ = (k * a') * (g * y') := by rw [← ea, ← ey]
        _ = (g * k) * (a' * y') := by ac_rfl
    exact Nat.eq_of_mul_eq_mul_left (Nat.mul_pos hg hh) this
  have d1 : y' ∣ b' := Nat.Coprime.dvd_of_dvd_mul_left c1.symm ⟨a', by rw [key]; ac_rfl⟩
  have d2 : b' ∣ y' := Nat.Coprime.dvd_of_dvd_mul_left c2.symm ⟨x', by rw [← key]; ac_rfl⟩
  have e : y' = b' := Nat.dvd_antisymm d1 d2
  subst e
  have hy'0 : 0 < y' := by
    rcases Nat.eq_zero_or_pos y' with h0 | h0
    · rw [h0, Nat.mul_zero] at ey; omega
    · exact h0
  exact ⟨Nat.eq_of_mul_eq_mul_right hy'0 key, rfl⟩

theorem mul_bd' {a b A B : Int} (h0 : 0 ≤ a) (h1 : a ≤ A) (k0 : 0 ≤ b) (k1 : b ≤ B) : 0 ≤ a * b ∧ a * b ≤ A * B :=
  ⟨Int.mul_nonneg h0 k0, Int.mul_le_mul h1 k1 k0 (by omega)⟩

/-- The fraction u / 3, in lowest terms: above, below. -/
def topF (u : Int) : Int := u / gcdF u 3
def botF (u : Int) : Int := 3 / gcdF u 3

theorem gcdF_pos {a b : Int} (hb : 1 ≤ b) : 1 ≤ gcdF a b := by
  have := Nat.gcd_pos_of_pos_right a.toNat (show 0 < b.toNat by omega)
  unfold gcdF
  omega
theorem red_int {x y a b : Int} (hx : 0 ≤ x) (hy : 1 ≤ y) (ha : 0 ≤ a) (hb : 1 ≤ b) (h : x * b = a * y) : x / gcdF x y = a / gcdF a b ∧ y / gcdF x y = b / gcdF a b := by
  obtain ⟨x, rfl⟩ := Int.eq_ofNat_of_zero_le hx
  obtain ⟨y, rfl⟩ := Int.eq_ofNat_of_zero_le (show 0 ≤ y by omega)
  obtain ⟨a, rfl⟩ := Int.eq_ofNat_of_zero_le ha
  obtain ⟨b, rfl⟩ := Int.eq_ofNat_of_zero_le (show 0 ≤ b by omega)
  have := red_nat (x := x) (y := y) (a := a) (b := b) (by omega) (by omega) (by exact_mod_cast h)
  unfold gcdF
  simp only [Int.toNat_natCast]
  constructor
  · exact_mod_cast this.1
  · exact_mod_cast this.2
theorem gcd_red {x y : Int} (hx : 0 ≤ x) (hy : 1 ≤ y) : gcdF (x / gcdF x y) (y / gcdF x y) = 1 ∧ 0 ≤ x / gcdF x y ∧ x / gcdF x y ≤ x ∧ 1 ≤ y / gcdF x y ∧ y / gcdF x y ≤ y := by
  obtain ⟨x, rfl⟩ := Int.eq_ofNat_of_zero_le hx
  obtain ⟨y, rfl⟩ := Int.eq_ofNat_of_zero_le (show 0 ≤ y by omega)
  have hg : 0 < Nat.gcd x y := Nat.gcd_pos_of_pos_right _ (by omega)
  have hc : Nat.gcd (x / Nat.gcd x y) (y / Nat.gcd x y) = 1 := Nat.coprime_div_gcd_div_gcd hg
  have e1 : gcdF (x : Int) (y : Int) = (Nat.gcd x y : Nat) := by simp [gcdF]
  rw [e1]
  have ex : (x : Int) / (Nat.gcd x y : Nat) = ((x / Nat.gcd x y : Nat) : Int) := by simp
  have ey : (y : Int) / (Nat.gcd x y : Nat) = ((y / Nat.gcd x y : Nat) : Int) := by simp
  rw [ex, ey]
  have b1 : x / Nat.gcd x y ≤ x := Nat.div_le_self _ _
  have b2 : y / Nat.gcd x y ≤ y := Nat.div_le_self _ _
  have b3 : 0 < y / Nat.gcd x y := Nat.div_pos (Nat.le_of_dvd (by omega) (Nat.gcd_dvd_right x y)) hg
  clear ex ey e1
  generalize x / Nat.gcd x y = X at *
  generalize y / Nat.gcd x y = Y at *
  refine ⟨?_, by omega, by omega, by omega, by omega⟩
  unfold gcdF
  rw [Int.toNat_natCast, Int.toNat_natCast, hc]
  rfl
theorem topF_bd {u : Int} (hu : 0 ≤ u) : gcdF (topF u) (botF u) = 1 ∧ 0 ≤ topF u ∧ topF u ≤ u ∧ 1 ≤ botF u ∧ botF u ≤ 3 := gcd_red hu (by omega)
theorem topF_cross {u : Int} (hu : 0 ≤ u) : topF u * 3 = u * botF u := by
  obtain ⟨u, rfl⟩ := Int.eq_ofNat_of_zero_le hu
  have hg : 0 < Nat.gcd u 3 := Nat.gcd_pos_of_pos_right _ (by omega)
  have e1 : gcdF (u : Int) 3 = (Nat.gcd u 3 : Nat) := by simp [gcdF]
  unfold topF botF
  rw [e1]
  have eu : u = Nat.gcd u 3 * (u / Nat.gcd u 3) := (Nat.mul_div_cancel' (Nat.gcd_dvd_left u 3)).symm
  have e3 : 3 = Nat.gcd u 3 * (3 / Nat.gcd u 3) := (Nat.mul_div_cancel' (Nat.gcd_dvd_right u 3)).symm
  have : u / Nat.gcd u 3 * 3 = u * (3 / Nat.gcd u 3) := by
    generalize Nat.gcd u 3 = g at *
    calc u / g * 3 = u / g * (g * (3 / g)) := by rw [← e3]
      _ = (g * (u / g)) * (3 / g) := by ac_rfl
      _ = u * (3 / g) := by rw [← eu]
  exact_mod_cast this
/-- Two of these fractions are equal if and only if what stands above them is. -/
theorem topF_inj {u v : Int} (hu : 0 ≤ u) (hv : 0 ≤ v) : (topF u = topF v ∧ botF u = botF v) ↔ u = v := by
  constructor
  · rintro ⟨h1, h2⟩
    have a := topF_cross hu
    have b := topF_cross hv
    have p := (topF_bd hv).2.2.2.1
    rw [h1, h2] at a
    have : u * botF v = v * botF v := by rw [← a, ← b]
    exact Int.eq_of_mul_eq_mul_right (by omega) this
  · rintro rfl
    exact ⟨rfl, rfl⟩
end Go.Proofs.Ytoobffhchbgkjaa
