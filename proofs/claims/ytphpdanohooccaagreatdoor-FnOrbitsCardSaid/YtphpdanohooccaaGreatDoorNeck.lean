/- Contracts of choose, necklaces, CountNecklaces. -/
import Derived.Test.YtphpdanohooccaaGreatDoorInts
namespace Go.Proofs.YtphpdanohooccaaGreatDoor
open Go.RowKit

def chA (n : Nat) : Nat → Nat
  | 0 => 1
  | i + 1 => chA n i * (n - i) / (i + 1)
def chB (n k : Nat) : Nat → Nat
  | 0 => 1
  | i + 1 => chB n k i * (n - k + (i + 1)) / (i + 1)
def chF (n k : Nat) : Nat := if n < k then 0 else chA n k
theorem chA_le : ∀ n i : Nat, n ≤ 24 → i ≤ 24 → chA n i ≤ 10000000 := by
  have h : ∀ (n i : Fin 25), chA n.val i.val ≤ 10000000 := by decide +kernel
  exact fun n i h1 h2 => h ⟨n, by omega⟩ ⟨i, by omega⟩
theorem chB_le : ∀ n k i : Nat, n ≤ 24 → k ≤ n → i ≤ k → chB n k i ≤ 10000000 := by
  have h : ∀ (n k i : Fin 25), (decide (k.val ≤ n.val) = true → decide (i.val ≤ k.val) = true → chB n.val k.val i.val ≤ 10000000) := by decide +kernel
  exact fun n k i h1 h2 h3 => h ⟨n, by omega⟩ ⟨k, by omega⟩ ⟨i, by omega⟩ (by simpa using h2) (by simpa using h3)
theorem chB_end : ∀ n k : Nat, n ≤ 24 → k ≤ n → chB n k k = chA n k := by
  have h : ∀ (n k : Fin 25), (decide (k.val ≤ n.val) = true → chB n.val k.val k.val = chA n.val k.val) := by decide +kernel
  exact fun n k h1 h2 => h ⟨n, by omega⟩ ⟨k, by omega⟩ (by simpa using h2)
theorem chF_le (n k : Nat) (h : n ≤ 24) : chF n k ≤ 10000000 := by
  unfold chF
  split
  · omega
  · exact chA_le n k h (by omega)

theorem mul_le_big (c m : Nat) (hc : c ≤ 10000000) (hm : m ≤ 100) : c * m ≤ 1000000000 := by
  have := Nat.mul_le_mul hc hm
  omega

set_option maxHeartbeats 400000 in
theorem chI_any (n k : Nat) (w : World) (hn : n ≤ 24) (hk : k ≤ 1000) :
    Calls Tryz.prog 39 #[.int .i64 n, .int .i64 k] w fun e w' => e = .returned (.int .i64 (chF n k : Nat)) ∧ w = w' := by
  obtain ⟨R, hR⟩ : ∃ R, R = chF n k := ⟨_, rfl⟩
  rw [← hR]
  have HR := Lib.hid hR
  clear hR
  by_cases hnk : n < k
  · have HZ : Hid (R = 0) := by rw [HR.out]; unfold chF; rw [if_pos hnk]; exact rfl
    go_enter Tryz.func39, Tryz.ntmps39
    go_wp2_with fail
    go_ret
    exact ⟨ret_int (by rw [HZ.out]; rfl), rfl⟩
  have HZ : Hid (R = chA n k) := by rw [HR.out]; unfold chF; rw [if_neg hnk]; exact rfl
  go_enter Tryz.func39, Tryz.ntmps39
  go_wp2_with fail
  go_loop [5, 11] (fun o i => ∃ i' c : Nat, i' ≤ k ∧ i = .int .i64 i' ∧ o = .int .i64 c ∧ c ≤ 10000000 ∧ Hid (c = chA n i')) (fun _ i => k - (intOf i).toNat)
  case atStart => exact ⟨0, 1, by omega, rfl, rfl, by omega, rfl⟩
  case round =>
    obtain ⟨i, c, hi, rfl, rfl, hc, HC⟩ := hrel
    by_cases hlt : i < k
    · obtain ⟨d, hd⟩ : ∃ d, d = chA n (i + 1) := ⟨_, rfl⟩
      have hdl : d ≤ 10000000 := by rw [hd]; exact chA_le n _ hn (by omega)
      obtain ⟨p, hp⟩ : ∃ p, p = c * (n - i) := ⟨_, rfl⟩
      have hpl : p ≤ 1000000000 := by rw [hp]; exact mul_le_big _ _ hc (by omega)
      have HD := Lib.hid hd
      have hpd : p / (i + 1) = d := by rw [hd, chA, hp, ← HC.out]
      have hw : IntKind.i64.wrap ((c : Int) * ((n : Int) - i)) = (p : Int) := by
        rw [show (n : Int) - i = ((n - i : Nat) : Int) by omega, ← Int.natCast_mul, ← hp]
        exact IntWalk.i64_in _ (by omega)
      have hq : (p : Int) / ((i : Int) + 1) = d := by rw [← hpd]; simp
      clear hd hp hpd HC
      go_wp2_with fail
      go_round
      case rel => exact ⟨i + 1, d, by omega, by go_num, rfl, hdl, HD.out⟩
      case measure => simp [intOf]; omega
    · obtain rfl : i = k := by omega
      go_wp2_with fail
      go_ret
      exact ⟨ret_int (by rw [HZ.out, HC.out]), rfl⟩


/-- The sum over the first t rotations. -/
def nkI (n k : Nat) : Nat → Nat
  | 0 => 0
  | t + 1 => nkI n k t + (if k % (n / Nat.gcd n t) = 0 then chF (Nat.gcd n t) (k / (n / Nat.gcd n t)) else 0)
def fxF (n k l : Nat) : Nat := if k % l = 0 then chF (n / l) (k / l) else 0
def nkS (n k : Nat) : Nat → Nat
  | 0 => 0
  | t + 1 => nkS n k t + fxF n k (n / Nat.gcd t n)
theorem gcd_parts (n t : Nat) (h : 1 ≤ n) : ∃ g l : Nat, g = Nat.gcd n t ∧ l = n / g ∧ 1 ≤ g ∧ g ≤ n ∧ 1 ≤ l ∧ l ≤ n ∧ n / l = g := by
  have hg : 0 < Nat.gcd n t := Nat.gcd_pos_of_pos_left _ h
  have hle := Nat.gcd_le_left t h
  have hdv := Nat.gcd_dvd_left n t
  refine ⟨_, _, rfl, rfl, hg, hle, Nat.div_pos hle hg, Nat.div_le_self _ _, ?_⟩
  obtain ⟨c, hc⟩ := hdv
  generalize Nat.gcd n t = g at *
  subst hc
  rw [Nat.mul_div_cancel_left _ hg]
  have hc0 : 0 < c := Nat.pos_of_ne_zero (by rintro rfl; simp at h)
  exact Nat.mul_div_cancel _ hc0
theorem fxF_le (n k l : Nat) (h : n ≤ 24) : fxF n k l ≤ 10000000 := by
  unfold fxF
  split
  · exact chF_le _ _ (Nat.le_trans (Nat.div_le_self _ _) h)
  · omega
theorem nk_eq (n k t : Nat) (h : 1 ≤ n) : nkI n k t = nkS n k t := by
  induction t with
  | zero => rfl
  | succ t ih =>
    obtain ⟨g, l, hg, hl, _, _, _, _, he⟩ := gcd_parts n t h
    rw [nkI, nkS, ih, Nat.gcd_comm t n, ← hg, ← hl, fxF, he]
theorem nkS_le (n k t : Nat) (h : n ≤ 24) : nkS n k t ≤ 10000000 * t := by
  induction t with
  | zero => simp [nkS]
  | succ t ih => have := fxF_le n k (n / Nat.gcd t n) h; rw [nkS]; omega
def okNK (n k : Int) : Bool := inB n 1 24 && inB k 0 n
def nkF (n k : Int) : Int := if okNK n k = true then (nkS n.toNat k.toNat n.toNat / n.toNat : Nat) else -1
theorem cast_div (a b : Nat) : (a : Int) / (b : Int) = ((a / b : Nat) : Int) := (Int.natCast_ediv a b).symm
theorem cast_mod (a b : Nat) : (a : Int) % (b : Int) = ((a % b : Nat) : Int) := (Int.natCast_emod a b).symm

set_option maxHeartbeats 1000000 in
theorem necks_any (n k : Nat) (w : World) (hn : 1 ≤ n ∧ n ≤ 24) (hk : k ≤ n) :
    Calls Tryz.prog 37 #[.int .i64 n, .int .i64 k] w fun e w' => e = .returned (.int .i64 (nkS n k n / n : Nat)) ∧ ∃ q, w' = w.drewN q := by
  obtain ⟨R, hR⟩ : ∃ R, R = nkS n k n / n := ⟨_, rfl⟩
  rw [← hR]
  have HR := Lib.hid hR
  clear hR
  go_enter Tryz.func37, Tryz.ntmps37
  go_wp2_with fail
  go_loopw [5, 10] (fun o i wr => ∃ t c q : Nat, t ≤ n ∧ i = .int .i64 t ∧ o = .int .i64 c ∧ c ≤ 10000000 * t ∧ Hid (c = nkI n k t) ∧ wr = w.drewN q) (fun _ i _ => n - (intOf i).toNat)
  case atStart => exact ⟨0, 0, 0, by omega, rfl, rfl, by omega, rfl, rfl⟩
  case round =>
    obtain ⟨t, c, q, ht, rfl, rfl, hc, HC, rfl⟩ := hrel
    by_cases hlt : t < n
    · obtain ⟨g, l, hg, hl, hg1, hgn, hl1, hln, he⟩ := gcd_parts n t hn.1
      have CG : Hid (∀ w : World, Calls Tryz.prog 68 #[.int .i64 n, .int .i64 t] w fun e w' => e = .returned (.int .i64 (g : Nat)) ∧ ∃ k, w' = w.drewN k) := fun w => by rw [hg]; exact gcdI_any n t w (by omega) (by omega)
      have hql : (n : Int) / (g : Int) = (l : Int) := by rw [cast_div, hl]
      have HN : Hid (nkI n k (t + 1) = nkI n k t + (if k % l = 0 then chF g (k / l) else 0)) := by rw [nkI, ← hg, ← hl]; exact rfl
      obtain ⟨m, hm⟩ : ∃ m, m = k % l := ⟨_, rfl⟩
      obtain ⟨d, hd⟩ : ∃ d, d = k / l := ⟨_, rfl⟩
      have hml : (k : Int) % (l : Int) = (m : Int) := by rw [cast_mod, hm]
      have hdl : (k : Int) / (l : Int) = (d : Int) := by rw [cast_div, hd]
      have hdk : d ≤ k := by rw [hd]; exact Nat.div_le_self _ _
      rw [← hm, ← hd] at HN
      clear hg hl he hm hd
      go_wp2_with fail
      refine (CG.out _).mono ?_
      rintro e w2 ⟨rfl, q2, rfl⟩
      by_cases hm0 : m = 0
      · subst hm0
        obtain ⟨v, hv⟩ : ∃ v, v = chF g d := ⟨_, rfl⟩
        have hvl : v ≤ 10000000 := by rw [hv]; exact chF_le _ _ (by omega)
        have CC : Hid (∀ w : World, Calls Tryz.prog 39 #[.int .i64 g, .int .i64 d] w fun e w' => e = .returned (.int .i64 (v : Nat)) ∧ w = w') := fun w => by rw [hv]; exact chI_any g d w (by omega) (by omega)
        have HN2 : Hid (c + v = nkI n k (t + 1)) := by rw [HN.out, ← HC.out, if_pos rfl, ← hv]; exact rfl
        clear hv
        go_wp2_with fail
        refine (CC.out _).mono ?_
        rintro e w3 ⟨rfl, rfl⟩
        go_wp2_with fail
        go_roundw
        case rel => exact ⟨t + 1, c + v, q + q2, by omega, by go_num, by go_num, by omega, HN2.out, rfl⟩
        case measure => simp [intOf]; omega
      · have hm1 : ((m : Int) == 0) = false := by rw [beq_eq_false_iff_ne]; omega
        have HN2 : Hid (c = nkI n k (t + 1)) := by rw [HN.out, ← HC.out, if_neg hm0]; exact rfl
        go_wp2_with fail
        go_roundw
        case rel => exact ⟨t + 1, c, q + q2, by omega, by go_num, rfl, by omega, HN2.out, rfl⟩
        case measure => simp [intOf]; omega
    · obtain rfl : t = n := by omega
      have hq : (c : Int) / (t : Int) = (R : Int) := by rw [cast_div, HR.out, HC.out, nk_eq t k t hn.1]
      have hR : R ≤ 1000000000 := by
        rw [HR.out]
        have := nkS_le t k t hn.2
        exact Nat.le_trans (Nat.div_le_self _ _) (by omega)
      go_wp2_with fail
      go_ret
      exact ⟨rfl, q, rfl⟩



set_option maxHeartbeats 400000 in
theorem nkI_any (n k : Int) (w : World) : Calls Tryz.prog 11 #[.int .i64 n, .int .i64 k] w fun e w' => e = .returned (.int .i64 (nkF n k)) ∧ Ext w w' := by
  obtain ⟨R, hR⟩ : ∃ R, R = nkF n k := ⟨_, rfl⟩
  rw [← hR]
  have HR := Lib.hid hR
  clear hR
  by_cases h1 : inB n 1 24 = true
  · by_cases h2 : inB k 0 n = true
    · have HV : Hid (R = (nkS n.toNat k.toNat n.toNat / n.toNat : Nat)) := by rw [HR.out]; unfold nkF okNK; rw [h1, h2]; exact rfl
      have g1 := inB_iff.1 h1
      have g2 := inB_iff.1 h2
      have CN : Hid (∀ w : World, Calls Tryz.prog 37 #[.int .i64 n, .int .i64 k] w fun e w' => e = .returned (.int .i64 R) ∧ ∃ q, w' = w.drewN q) := fun w => by
        rw [HV.out]
        obtain ⟨N, rfl⟩ := Int.eq_ofNat_of_zero_le (show 0 ≤ n by omega)
        obtain ⟨K, rfl⟩ := Int.eq_ofNat_of_zero_le (show 0 ≤ k by omega)
        exact necks_any N K w (by omega) (by omega)
      clear HR HV
      go_enter Tryz.func11, Tryz.ntmps11
      go_wp2_with fail
      refine (within_any _ _ _ _).mono ?_
      rintro e w1 ⟨rfl, rfl⟩
      rw [h1]
      go_wp2_with fail
      refine (within_any _ _ _ _).mono ?_
      rintro e w1 ⟨rfl, rfl⟩
      rw [h2]
      go_wp2_with fail
      refine (CN.out _).mono ?_
      rintro e w1 ⟨rfl, q, rfl⟩
      go_wp2_with fail
      go_ret
      exact ⟨rfl, (Ext.refl _).drewN _⟩
    · have h2 : inB k 0 n = false := by simpa using h2
      have HV : Hid (R = -1) := by rw [HR.out]; unfold nkF okNK; rw [h1, h2]; exact rfl
      go_enter Tryz.func11, Tryz.ntmps11
      go_wp2_with fail
      refine (within_any _ _ _ _).mono ?_
      rintro e w1 ⟨rfl, rfl⟩
      rw [h1]
      go_wp2_with fail
      refine (within_any _ _ _ _).mono ?_
      rintro e w1 ⟨rfl, rfl⟩
      rw [h2]
      go_wp2_with fail
      go_ret
      exact ⟨ret_int HV.out.symm, Ext.refl _⟩
  · have h1 : inB n 1 24 = false := by simpa using h1
    have HV : Hid (R = -1) := by rw [HR.out]; unfold nkF okNK; rw [h1]; exact rfl
    go_enter Tryz.func11, Tryz.ntmps11
    go_wp2_with fail
    refine (within_any _ _ _ _).mono ?_
    rintro e w1 ⟨rfl, rfl⟩
    rw [h1]
    go_wp2_with fail
    go_ret
    exact ⟨ret_int HV.out.symm, Ext.refl _⟩

end Go.Proofs.YtphpdanohooccaaGreatDoor

/- Contracts of CountBracelets. -/
namespace Go.Proofs.YtphpdanohooccaaGreatDoor
open Go.RowKit

/-- How many of the first p pulses a mirror leaves. -/
def fixC (n a : Nat) : Nat → Nat
  | 0 => 0
  | p + 1 => fixC n a p + (if (a + n - p) % n = p then 1 else 0)
theorem fixC_le (n a p : Nat) : fixC n a p ≤ p := by
  induction p with
  | zero => exact Nat.le_refl _
  | succ p ih => rw [fixC]; split <;> omega
/-- The sum over the first s numbers of single pulses. -/
def misF (f q k : Nat) : Nat → Nat
  | 0 => 0
  | s + 1 => misF f q k s + (if s ≤ k ∧ (k - s) % 2 = 0 then chF f s * chF q ((k - s) / 2) else 0)
theorem ch2_le (f q a b : Nat) (hf : f ≤ 24) (hq : q ≤ 24) : chF f a * chF q b ≤ 100000000000000 := Nat.mul_le_mul (chF_le f a hf) (chF_le q b hq)
theorem misF_le (f q k s : Nat) (hf : f ≤ 24) (hq : q ≤ 24) : misF f q k s ≤ 100000000000000 * s := by
  induction s with
  | zero => simp [misF]
  | succ s ih =>
    rw [misF]
    have := ch2_le f q s ((k - s) / 2) hf hq
    split <;> omega
theorem misF_stop (f q k d : Nat) : misF f q k (k + 1 + d) = misF f q k (k + 1) := by
  induction d with
  | zero => rfl
  | succ d ih => rw [← Nat.add_assoc, misF, ih, if_neg (by omega)]; rfl
def mirA (n k : Nat) : Nat → Nat
  | 0 => 0
  | a + 1 => mirA n k a + misF (fixC n a n) ((n - fixC n a n) / 2) k (fixC n a n + 1)
theorem mirA_le (n k a : Nat) (hn : n ≤ 24) : mirA n k a ≤ 2500000000000000 * a := by
  induction a with
  | zero => simp [mirA]
  | succ a ih =>
    have h1 := fixC_le n a n
    have h2 := misF_le (fixC n a n) ((n - fixC n a n) / 2) k (fixC n a n + 1) (by omega) (by omega)
    rw [mirA]
    omega
def brI (n k : Nat) : Nat := (nkS n k n / n * n + mirA n k n) / (2 * n)
def brS (n k : Nat) : Nat := (nkS n k n + if n % 2 = 1 then n * misF 1 ((n - 1) / 2) k 2 else n / 2 * (misF 0 (n / 2) k 1 + misF 2 (n / 2 - 1) k 3)) / (2 * n)
theorem br_eq : ∀ n k : Nat, n ≤ 24 → k ≤ n → brI n k = brS n k := by
  have h : ∀ (n k : Fin 25), (decide (k.val ≤ n.val) = true → brI n.val k.val = brS n.val k.val) := by decide +kernel
  exact fun n k h1 h2 => h ⟨n, by omega⟩ ⟨k, by omega⟩ (by simpa using h2)
def brF (n k : Int) : Int := if okNK n k = true then (brI n.toNat k.toNat : Nat) else -1
theorem mod_cast' (a p n : Nat) (h : p ≤ n) : ((a : Int) - p) % (n : Int) = (((a + n - p) % n : Nat) : Int) := by
  have e : ((a + n - p : Nat) : Int) = (a : Int) - p + n * 1 := by omega
  rw [Int.natCast_emod, e, Int.add_mul_emod_self_left]

set_option maxHeartbeats 4000000 in
theorem brI_any (n k : Int) (w : World) : Calls Tryz.prog 12 #[.int .i64 n, .int .i64 k] w fun e w' => e = .returned (.int .i64 (brF n k)) ∧ Ext w w' := by
  obtain ⟨R, hR⟩ : ∃ R, R = brF n k := ⟨_, rfl⟩
  rw [← hR]
  have HR := Lib.hid hR
  clear hR
  by_cases h1 : inB n 1 24 = true
  · by_cases h2 : inB k 0 n = true
    · have HV : Hid (R = (brI n.toNat k.toNat : Nat)) := by rw [HR.out]; unfold brF okNK; rw [h1, h2]; exact rfl
      have g1 := inB_iff.1 h1
      have g2 := inB_iff.1 h2
      obtain ⟨N, rfl⟩ := Int.eq_ofNat_of_zero_le (show 0 ≤ n by omega)
      obtain ⟨K, rfl⟩ := Int.eq_ofNat_of_zero_le (show 0 ≤ k by omega)
      have HI := Lib.hid h1
      have HJ := Lib.hid h2
      clear h1 h2 HR
      have hN : N ≤ 24 := by omega
      go_enter Tryz.func12, Tryz.ntmps12
      go_wp2_with fail
      refine (within_any _ _ _ _).mono ?_
      rintro e w1 ⟨rfl, rfl⟩
      rw [HI.out]
      go_wp2_with fail
      refine (within_any _ _ _ _).mono ?_
      rintro e w1 ⟨rfl, rfl⟩
      rw [HJ.out]
      go_wp2_with fail
      go_loopw [5, 20] (fun o i wr => ∃ a c q : Nat, a ≤ N ∧ i = .int .i64 a ∧ o = .int .i64 c ∧ c ≤ 2500000000000000 * a ∧ Hid (c = mirA N K a) ∧ wr = w.drewN q) (fun _ i _ => N - (intOf i).toNat)
      case atStart => exact ⟨0, 0, 0, by omega, rfl, rfl, by omega, rfl, rfl⟩
      case round =>
        obtain ⟨a, c, q, ha, rfl, rfl, hc, HC, rfl⟩ := hrel
        by_cases hlt : a < N
        · go_wp2_with fail
          go_loopw [7, 24] (fun o i wr => ∃ p f q : Nat, p ≤ N ∧ i = .int .i64 p ∧ o = .int .i64 f ∧ f ≤ p ∧ Hid (f = fixC N a p) ∧ wr = w.drewN q) (fun _ i _ => N - (intOf i).toNat)
          case atStart => exact ⟨0, 0, q, by omega, rfl, rfl, by omega, rfl, rfl⟩
          case round =>
            obtain ⟨p, f, q3, hp, rfl, rfl, hf, HF, rfl⟩ := hrel
            by_cases hpn : p < N
            · obtain ⟨m, hm⟩ : ∃ m, m = (a + N - p) % N := ⟨_, rfl⟩
              have CM : Hid (∀ W : World, Calls Tryz.prog 38 #[.int .i64 ((a : Int) - p), .int .i64 N] W fun e w' => e = .returned (.int .i64 (m : Nat)) ∧ ∃ q, w' = W.drewN q) := fun W => by
                rw [hm, ← mod_cast' a p N (by omega)]
                exact modI_any _ _ W (by omega) (by omega)
              have HN : Hid (fixC N a (p + 1) = f + (if m = p then 1 else 0)) := by rw [fixC, ← hm, ← HF.out]; exact rfl
              clear hm HF
              go_wp2_with fail
              refine (CM.out _).mono ?_
              rintro e w2 ⟨rfl, q2, rfl⟩
              by_cases hmp : m = p
              · have HN2 : Hid (f + 1 = fixC N a (p + 1)) := by rw [HN.out, if_pos hmp]; exact rfl
                subst hmp
                go_wp2_with fail
                go_roundw
                case rel => exact ⟨m + 1, f + 1, q3 + q2, by omega, by go_num, by go_num, by omega, HN2.out, by simp⟩
                case measure => simp [intOf]; omega
              · have HN2 : Hid (f = fixC N a (p + 1)) := by rw [HN.out, if_neg hmp]; exact rfl
                have hmp2 : ((m : Int) == p) = false := by rw [beq_eq_false_iff_ne]; omega
                go_wp2_with fail
                go_roundw
                case rel => exact ⟨p + 1, f, q3 + q2, by omega, by go_num, rfl, by omega, HN2.out, by simp⟩
                case measure => simp [intOf]; omega
            · obtain rfl : p = N := by omega
              obtain ⟨Q, hQ⟩ : ∃ Q, Q = (p - f) / 2 := ⟨_, rfl⟩
              have HNA : Hid (mirA p K (a + 1) = c + misF f Q K (f + 1)) := by rw [mirA, ← HC.out, ← HF.out, ← hQ]; exact rfl
              have hq2 : ((p : Int) - f) / 2 = (Q : Int) := by omega
              have hQn : Q ≤ p := by omega
              clear hQ HC HF
              go_wp2_with fail
              go_loop [5, 39] (fun o i => ∃ s v : Nat, s ≤ f + 1 ∧ i = .int .i64 s ∧ o = .int .i64 v ∧ v ≤ 2500000000000000 * a + 100000000000000 * s ∧ Hid (v = c + misF f Q K s)) (fun _ i => f + 1 - (intOf i).toNat)
              case atStart => exact ⟨0, c, by omega, rfl, rfl, by omega, rfl⟩
              case round =>
                obtain ⟨s, v, hs, rfl, rfl, hv, HVV⟩ := hrel
                by_cases hsf : s < f + 1
                · by_cases hsk : s ≤ K
                  · obtain ⟨m, hm⟩ : ∃ m, m = (K - s) % 2 := ⟨_, rfl⟩
                    obtain ⟨d, hd⟩ : ∃ d, d = (K - s) / 2 := ⟨_, rfl⟩
                    have hm2 : ((K : Int) - s) % 2 = (m : Int) := by omega
                    have hd2 : ((K : Int) - s) / 2 = (d : Int) := by omega
                    have hdl : d ≤ K := by omega
                    have HNS : Hid (misF f Q K (s + 1) = misF f Q K s + (if m = 0 then chF f s * chF Q d else 0)) := by rw [misF, ← hm, ← hd]; simp [hsk, Hid]
                    have hm1 : m ≤ 1 := by omega
                    clear hm hd
                    by_cases hm0 : m = 0
                    · subst hm0
                      obtain ⟨x, hx⟩ : ∃ x, x = chF f s := ⟨_, rfl⟩
                      obtain ⟨y, hy⟩ : ∃ y, y = chF Q d := ⟨_, rfl⟩
                      obtain ⟨z, hz⟩ : ∃ z, z = x * y := ⟨_, rfl⟩
                      have hzl : z ≤ 100000000000000 := by rw [hz, hx, hy]; exact ch2_le _ _ _ _ (by omega) (by omega)
                      have C1 : Hid (∀ w : World, Calls Tryz.prog 39 #[.int .i64 f, .int .i64 s] w fun e w' => e = .returned (.int .i64 (x : Nat)) ∧ w = w') := fun w => by rw [hx]; exact chI_any f s w (by omega) (by omega)
                      have C2 : Hid (∀ w : World, Calls Tryz.prog 39 #[.int .i64 Q, .int .i64 d] w fun e w' => e = .returned (.int .i64 (y : Nat)) ∧ w = w') := fun w => by rw [hy]; exact chI_any Q d w (by omega) (by omega)
                      have HN2 : Hid (v + z = c + misF f Q K (s + 1)) := by rw [HNS.out, if_pos rfl, HVV.out, hz, hx, hy, Nat.add_assoc]; exact rfl
                      have hw : IntKind.i64.wrap ((x : Int) * y) = (z : Int) := by
                        rw [hz, Int.natCast_mul]
                        exact IntWalk.i64_in _ (by rw [← Int.natCast_mul, ← hz]; omega)
                      clear hx hy hz HNS HVV
                      go_wp2_with fail
                      refine (C1.out _).mono ?_
                      rintro e w2 ⟨rfl, rfl⟩
                      go_wp2_with fail
                      refine (C2.out _).mono ?_
                      rintro e w2 ⟨rfl, rfl⟩
                      go_wp2_with fail
                      go_round
                      case rel => exact ⟨s + 1, v + z, by omega, by go_num, by go_num, by omega, HN2.out⟩
                      case measure => simp [intOf]; omega
                    · obtain rfl : m = 1 := by omega
                      have HN2 : Hid (v = c + misF f Q K (s + 1)) := by rw [HNS.out, if_neg hm0, HVV.out]; exact rfl
                      clear HNS HVV hm0
                      go_wp2_with fail
                      go_round
                      case rel => exact ⟨s + 1, v, by omega, by go_num, rfl, by omega, HN2.out⟩
                      case measure => simp [intOf]; omega
                  · have HN2 : Hid (v = c + misF f Q K (s + 1)) := by rw [misF, if_neg (by omega), HVV.out]; exact rfl
                    clear HVV
                    go_wp2_with fail
                    go_round
                    case rel => exact ⟨s + 1, v, by omega, by go_num, rfl, by omega, HN2.out⟩
                    case measure => simp [intOf]; omega
                · have hv4 : v ≤ 2500000000000000 * a + 2500000000000000 := Nat.le_trans hv (Nat.add_le_add_left (Nat.le_trans (Nat.mul_le_mul_left 100000000000000 (show s ≤ 25 by omega)) (by decide)) _)
                  have HV4 := Lib.hid hv4
                  clear hv hv4
                  obtain rfl : s = f + 1 := by omega
                  go_wp2_with fail
                  go_roundw
                  case rel => exact ⟨a + 1, v, q3, by omega, by go_num, rfl, HV4.out, (HVV.out.trans HNA.out.symm), rfl⟩
                  case measure => simp [intOf]; omega
        · obtain rfl : a = N := by omega
          have CN : Hid (∀ w : World, Calls Tryz.prog 37 #[.int .i64 a, .int .i64 K] w fun e w' => e = .returned (.int .i64 (nkS a K a / a : Nat)) ∧ ∃ q, w' = w.drewN q) := fun w => necks_any a K w (by omega) (by omega)
          obtain ⟨x, hx⟩ : ∃ x, x = nkS a K a / a := ⟨_, rfl⟩
          rw [← hx] at CN
          have hxl : x ≤ 240000000 := by
            rw [hx]
            have := nkS_le a K a (by omega)
            exact Nat.le_trans (Nat.div_le_self _ _) (by omega)
          obtain ⟨y, hy⟩ : ∃ y, y = x * a := ⟨_, rfl⟩
          have hyl : y ≤ 5760000000 := by rw [hy]; exact Nat.le_trans (Nat.mul_le_mul hxl hN) (by omega)
          have hw : IntKind.i64.wrap ((x : Int) * a) = (y : Int) := by
            rw [hy, Int.natCast_mul]
            exact IntWalk.i64_in _ (by rw [← Int.natCast_mul, ← hy]; omega)
          obtain ⟨z, hz⟩ : ∃ z, z = (y + c) / (2 * a) := ⟨_, rfl⟩
          have hz2 : ((y : Int) + c) / (2 * a) = (z : Int) := by rw [hz]; simp
          have hzl : z ≤ y + c := by rw [hz]; exact Nat.div_le_self _ _
          have HZ : Hid (R = (z : Nat)) := by rw [HV.out, hz, hy, hx, HC.out]; exact rfl
          clear hx hy hz HC HV
          go_wp2_with fail
          refine (CN.out _).mono ?_
          rintro e w2 ⟨rfl, q2, rfl⟩
          go_wp2_with fail
          go_ret
          exact ⟨ret_int (hz2.trans HZ.out.symm), (Ext.refl _).drewN _⟩
    · have h2 : inB k 0 n = false := by simpa using h2
      have HV : Hid (R = -1) := by rw [HR.out]; unfold brF okNK; rw [h1, h2]; exact rfl
      go_enter Tryz.func12, Tryz.ntmps12
      go_wp2_with fail
      refine (within_any _ _ _ _).mono ?_
      rintro e w1 ⟨rfl, rfl⟩
      rw [h1]
      go_wp2_with fail
      refine (within_any _ _ _ _).mono ?_
      rintro e w1 ⟨rfl, rfl⟩
      rw [h2]
      go_wp2_with fail
      go_ret
      exact ⟨ret_int HV.out.symm, Ext.refl _⟩
  · have h1 : inB n 1 24 = false := by simpa using h1
    have HV : Hid (R = -1) := by rw [HR.out]; unfold brF okNK; rw [h1]; exact rfl
    go_enter Tryz.func12, Tryz.ntmps12
    go_wp2_with fail
    refine (within_any _ _ _ _).mono ?_
    rintro e w1 ⟨rfl, rfl⟩
    rw [h1]
    go_wp2_with fail
    go_ret
    exact ⟨ret_int HV.out.symm, Ext.refl _⟩


end Go.Proofs.YtphpdanohooccaaGreatDoor
