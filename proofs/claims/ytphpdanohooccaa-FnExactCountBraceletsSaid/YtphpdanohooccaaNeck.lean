/- Contracts of choose, necklaces, CountNecklaces. -/
import Derived.Test.YtphpdanohooccaaGcd
namespace Go.Proofs.Ytphpdanohooccaa
open Go.RowKit

def chA (n : Nat) : Nat → Nat
  | 0 => 1
  | i + 1 => chA n i * (n - i) / (i + 1)
def chB (n k : Nat) : Nat → Nat
  | 0 => 1
  | i + 1 => chB n k i * (n - k + (i + 1)) / (i + 1)
def chF (n k : Nat) : Nat := if n < k then 0 else chA n k
theorem chA_le : ∀ n i : Nat, n ≤ 24 → i ≤ 24 → chA n i ≤ 10000000 := by
  have h : ∀ (n i : Fin 25), chA n.val i.val ≤ 10000000 := by decide +kernel
  exact fun n i h1 h2 => h ⟨n, by omega⟩ ⟨i, by omega⟩
theorem chB_le : ∀ n k i : Nat, n ≤ 24 → k ≤ n → i ≤ k → chB n k i ≤ 10000000 := by
  have h : ∀ (n k i : Fin 25), (decide (k.val ≤ n.val) = true → decide (i.val ≤ k.val) = true → chB n.val k.val i.val ≤ 10000000) := by decide +kernel
  exact fun n k i h1 h2 h3 => h ⟨n, by omega⟩ ⟨k, by omega⟩ ⟨i, by omega⟩ (by simpa using h2) (by simpa using h3)
theorem chB_end : ∀ n k : Nat, n ≤ 24 → k ≤ n → chB n k k = chA n k := by
  have h : ∀ (n k : Fin 25), (decide (k.val ≤ n.val) = true → chB n.val k.val k.val = chA n.val k.val) := by decide +kernel
  exact fun n k h1 h2 => h ⟨n, by omega⟩ ⟨k, by omega⟩ (by simpa using h2)
theorem chF_le (n k : Nat) (h : n ≤ 24) : chF n k ≤ 10000000 := by
  unfold chF
  split
  · omega
  · exact chA_le n k h (by omega)

theorem mul_le_big (c m : Nat) (hc : c ≤ 10000000) (hm : m ≤ 100) : c * m ≤ 1000000000 := by
  have := Nat.mul_le_mul hc hm
  omega

set_option maxHeartbeats 400000 in
theorem chI_any (n k : Nat) (w : World) (hn : n ≤ 24) (hk : k ≤ 1000) :
    Calls Try.prog 47 #[.int .i64 n, .int .i64 k] w fun e w' => e = .returned (.int .i64 (chF n k : Nat)) ∧ w = w' := by
  obtain ⟨R, hR⟩ : ∃ R, R = chF n k := ⟨_, rfl⟩
  rw [← hR]
  have HR := Lib.hid hR
  clear hR
  by_cases hnk : n < k
  · have HZ : Hid (R = 0) := by rw [HR.out]; unfold chF; rw [if_pos hnk]; exact rfl
    go_enter Try.func47, Try.ntmps47
    go_wp2_with fail
    go_ret
    exact ⟨ret_int (by rw [HZ.out]; rfl), rfl⟩
  have HZ : Hid (R = chA n k) := by rw [HR.out]; unfold chF; rw [if_neg hnk]; exact rfl
  go_enter Try.func47, Try.ntmps47
  go_wp2_with fail
  go_loop [5, 11] (fun o i => ∃ i' c : Nat, i' ≤ k ∧ i = .int .i64 i' ∧ o = .int .i64 c ∧ c ≤ 10000000 ∧ Hid (c = chA n i')) (fun _ i => k - (intOf i).toNat)
  case atStart => exact ⟨0, 1, by omega, rfl, rfl, by omega, rfl⟩
  case round =>
    obtain ⟨i, c, hi, rfl, rfl, hc, HC⟩ := hrel
    by_cases hlt : i < k
    · obtain ⟨d, hd⟩ : ∃ d, d = chA n (i + 1) := ⟨_, rfl⟩
      have hdl : d ≤ 10000000 := by rw [hd]; exact chA_le n _ hn (by omega)
      obtain ⟨p, hp⟩ : ∃ p, p = c * (n - i) := ⟨_, rfl⟩
      have hpl : p ≤ 1000000000 := by rw [hp]; exact mul_le_big _ _ hc (by omega)
      have HD := Lib.hid hd
      have hpd : p / (i + 1) = d := by rw [hd, chA, hp, ← HC.out]
      have hw : IntKind.i64.wrap ((c : Int) * ((n : Int) - i)) = (p : Int) := by
        rw [show (n : Int) - i = ((n - i : Nat) : Int) by omega, ← Int.natCast_mul, ← hp]
        exact IntWalk.i64_in _ (by omega)
      have hq : (p : Int) / ((i : Int) + 1) = d := by rw [← hpd]; simp
      clear hd hp hpd HC
      go_wp2_with fail
      go_round
      case rel => exact ⟨i + 1, d, by omega, by go_num, rfl, hdl, HD.out⟩
      case measure => simp [intOf]; omega
    · obtain rfl : i = k := by omega
      go_wp2_with fail
      go_ret
      exact ⟨ret_int (by rw [HZ.out, HC.out]), rfl⟩

set_option maxHeartbeats 400000 in
theorem chS_any (n k : Nat) (w : World) (hn : n ≤ 24) (hk : k ≤ 1000) :
    Calls Try.prog 70 #[.int .i64 n, .int .i64 k] w fun e w' => e = .returned (.int .i64 (chF n k : Nat)) ∧ w = w' := by
  obtain ⟨R, hR⟩ : ∃ R, R = chF n k := ⟨_, rfl⟩
  rw [← hR]
  have HR := Lib.hid hR
  clear hR
  have hk0 : ¬ (k : Int) < 0 := by omega
  by_cases hnk : n < k
  · have HZ : Hid (R = 0) := by rw [HR.out]; unfold chF; rw [if_pos hnk]; exact rfl
    go_enter Try.func70, Try.ntmps70
    go_wp2_with fail
    go_ret
    exact ⟨ret_int (by rw [HZ.out]; rfl), rfl⟩
  have HZ : Hid (R = chB n k k) := by rw [HR.out, chB_end n k hn (by omega)]; unfold chF; rw [if_neg hnk]; exact rfl
  go_enter Try.func70, Try.ntmps70
  go_wp2_with fail
  go_loop [5, 6] (fun o i => ∃ i' c : Nat, i' ≤ k ∧ i = .int .i64 ((i' : Int) + 1) ∧ o = .int .i64 c ∧ c ≤ 10000000 ∧ Hid (c = chB n k i')) (fun _ i => k + 1 - (intOf i).toNat)
  case atStart => exact ⟨0, 1, by omega, rfl, rfl, by omega, rfl⟩
  case round =>
    obtain ⟨i, c, hi, rfl, rfl, hc, HC⟩ := hrel
    by_cases hlt : i < k
    · obtain ⟨d, hd⟩ : ∃ d, d = chB n k (i + 1) := ⟨_, rfl⟩
      have hdl : d ≤ 10000000 := by rw [hd]; exact chB_le n k _ hn (by omega) (by omega)
      obtain ⟨p, hp⟩ : ∃ p, p = c * (n - k + (i + 1)) := ⟨_, rfl⟩
      have hpl : p ≤ 1000000000 := by rw [hp]; exact mul_le_big _ _ hc (by omega)
      have HD := Lib.hid hd
      have hpd : p / (i + 1) = d := by rw [hd, chB, hp, ← HC.out]
      have hw : IntKind.i64.wrap ((c : Int) * ((n : Int) - k + (i + 1))) = (p : Int) := by
        rw [show (n : Int) - k + (i + 1) = ((n - k + (i + 1) : Nat) : Int) by omega, ← Int.natCast_mul, ← hp]
        exact IntWalk.i64_in _ (by omega)
      have hq : (p : Int) / ((i : Int) + 1) = d := by rw [← hpd]; simp
      clear hd hp hpd HC
      go_wp2_with fail
      go_round
      case rel => exact ⟨i + 1, d, by omega, by go_num, rfl, hdl, HD.out⟩
      case measure => simp [intOf]; omega
    · obtain rfl : i = k := by omega
      go_wp2_with fail
      go_ret
      exact ⟨ret_int (by rw [HZ.out, HC.out]), rfl⟩

/-- The sum over the first t rotations. -/
def nkI (n k : Nat) : Nat → Nat
  | 0 => 0
  | t + 1 => nkI n k t + (if k % (n / Nat.gcd n t) = 0 then chF (Nat.gcd n t) (k / (n / Nat.gcd n t)) else 0)
def fxF (n k l : Nat) : Nat := if k % l = 0 then chF (n / l) (k / l) else 0
def nkS (n k : Nat) : Nat → Nat
  | 0 => 0
  | t + 1 => nkS n k t + fxF n k (n / Nat.gcd t n)
theorem gcd_parts (n t : Nat) (h : 1 ≤ n) : ∃ g l : Nat, g = Nat.gcd n t ∧ l = n / g ∧ 1 ≤ g ∧ g ≤ n ∧ 1 ≤ l ∧ l ≤ n ∧ n / l = g := by
  have hg : 0 < Nat.gcd n t := Nat.gcd_pos_of_pos_left _ h
  have hle := Nat.gcd_le_left t h
  have hdv := Nat.gcd_dvd_left n t
  refine ⟨_, _, rfl, rfl, hg, hle, Nat.div_pos hle hg, Nat.div_le_self _ _, ?_⟩
  obtain ⟨c, hc⟩ := hdv
  generalize Nat.gcd n t = g at *
  subst hc
  rw [Nat.mul_div_cancel_left _ hg]
  have hc0 : 0 < c := Nat.pos_of_ne_zero (by rintro rfl; simp at h)
  exact Nat.mul_div_cancel _ hc0
theorem fxF_le (n k l : Nat) (h : n ≤ 24) : fxF n k l ≤ 10000000 := by
  unfold fxF
  split
  · exact chF_le _ _ (Nat.le_trans (Nat.div_le_self _ _) h)
  · omega
theorem nk_eq (n k t : Nat) (h : 1 ≤ n) : nkI n k t = nkS n k t := by
  induction t with
  | zero => rfl
  | succ t ih =>
    obtain ⟨g, l, hg, hl, _, _, _, _, he⟩ := gcd_parts n t h
    rw [nkI, nkS, ih, Nat.gcd_comm t n, ← hg, ← hl, fxF, he]
theorem nkS_le (n k t : Nat) (h : n ≤ 24) : nkS n k t ≤ 10000000 * t := by
  induction t with
  | zero => simp [nkS]
  | succ t ih => have := fxF_le n k (n / Nat.gcd t n) h; rw [nkS]; omega
def okNK (n k : Int) : Bool := inB n 1 24 && inB k 0 n
def nkF (n k : Int) : Int := if okNK n k = true then (nkS n.toNat k.toNat n.toNat / n.toNat : Nat) else -1
theorem cast_div (a b : Nat) : (a : Int) / (b : Int) = ((a / b : Nat) : Int) := (Int.natCast_ediv a b).symm
theorem cast_mod (a b : Nat) : (a : Int) % (b : Int) = ((a % b : Nat) : Int) := (Int.natCast_emod a b).symm

set_option maxHeartbeats 1000000 in
theorem necks_any (n k : Nat) (w : World) (hn : 1 ≤ n ∧ n ≤ 24) (hk : k ≤ n) :
    Calls Try.prog 44 #[.int .i64 n, .int .i64 k] w fun e w' => e = .returned (.int .i64 (nkS n k n / n : Nat)) ∧ ∃ q, w' = w.drewN q := by
  obtain ⟨R, hR⟩ : ∃ R, R = nkS n k n / n := ⟨_, rfl⟩
  rw [← hR]
  have HR := Lib.hid hR
  clear hR
  go_enter Try.func44, Try.ntmps44
  go_wp2_with fail
  go_loopw [5, 10] (fun o i wr => ∃ t c q : Nat, t ≤ n ∧ i = .int .i64 t ∧ o = .int .i64 c ∧ c ≤ 10000000 * t ∧ Hid (c = nkI n k t) ∧ wr = w.drewN q) (fun _ i _ => n - (intOf i).toNat)
  case atStart => exact ⟨0, 0, 0, by omega, rfl, rfl, by omega, rfl, rfl⟩
  case round =>
    obtain ⟨t, c, q, ht, rfl, rfl, hc, HC, rfl⟩ := hrel
    by_cases hlt : t < n
    · obtain ⟨g, l, hg, hl, hg1, hgn, hl1, hln, he⟩ := gcd_parts n t hn.1
      have CG : Hid (∀ w : World, Calls Try.prog 69 #[.int .i64 n, .int .i64 t] w fun e w' => e = .returned (.int .i64 (g : Nat)) ∧ ∃ k, w' = w.drewN k) := fun w => by rw [hg]; exact gcdI_any n t w (by omega) (by omega)
      have hql : (n : Int) / (g : Int) = (l : Int) := by rw [cast_div, hl]
      have HN : Hid (nkI n k (t + 1) = nkI n k t + (if k % l = 0 then chF g (k / l) else 0)) := by rw [nkI, ← hg, ← hl]; exact rfl
      obtain ⟨m, hm⟩ : ∃ m, m = k % l := ⟨_, rfl⟩
      obtain ⟨d, hd⟩ : ∃ d, d = k / l := ⟨_, rfl⟩
      have hml : (k : Int) % (l : Int) = (m : Int) := by rw [cast_mod, hm]
      have hdl : (k : Int) / (l : Int) = (d : Int) := by rw [cast_div, hd]
      have hdk : d ≤ k := by rw [hd]; exact Nat.div_le_self _ _
      rw [← hm, ← hd] at HN
      clear hg hl he hm hd
      go_wp2_with fail
      refine (CG.out _).mono ?_
      rintro e w2 ⟨rfl, q2, rfl⟩
      by_cases hm0 : m = 0
      · subst hm0
        obtain ⟨v, hv⟩ : ∃ v, v = chF g d := ⟨_, rfl⟩
        have hvl : v ≤ 10000000 := by rw [hv]; exact chF_le _ _ (by omega)
        have CC : Hid (∀ w : World, Calls Try.prog 47 #[.int .i64 g, .int .i64 d] w fun e w' => e = .returned (.int .i64 (v : Nat)) ∧ w = w') := fun w => by rw [hv]; exact chI_any g d w (by omega) (by omega)
        have HN2 : Hid (c + v = nkI n k (t + 1)) := by rw [HN.out, ← HC.out, if_pos rfl, ← hv]; exact rfl
        clear hv
        go_wp2_with fail
        refine (CC.out _).mono ?_
        rintro e w3 ⟨rfl, rfl⟩
        go_wp2_with fail
        go_roundw
        case rel => exact ⟨t + 1, c + v, q + q2, by omega, by go_num, by go_num, by omega, HN2.out, rfl⟩
        case measure => simp [intOf]; omega
      · have hm1 : ((m : Int) == 0) = false := by rw [beq_eq_false_iff_ne]; omega
        have HN2 : Hid (c = nkI n k (t + 1)) := by rw [HN.out, ← HC.out, if_neg hm0]; exact rfl
        go_wp2_with fail
        go_roundw
        case rel => exact ⟨t + 1, c, q + q2, by omega, by go_num, rfl, by omega, HN2.out, rfl⟩
        case measure => simp [intOf]; omega
    · obtain rfl : t = n := by omega
      have hq : (c : Int) / (t : Int) = (R : Int) := by rw [cast_div, HR.out, HC.out, nk_eq t k t hn.1]
      have hR : R ≤ 1000000000 := by
        rw [HR.out]
        have := nkS_le t k t hn.2
        exact Nat.le_trans (Nat.div_le_self _ _) (by omega)
      go_wp2_with fail
      go_ret
      exact ⟨rfl, q, rfl⟩

set_option maxHeartbeats 1000000 in
theorem fx_any (n k l : Nat) (w : World) (hn : n ≤ 24) (hk : k ≤ 1000) (hl : 1 ≤ l) (hl2 : l ≤ 1000) :
    Calls Try.prog 43 #[.int .i64 n, .int .i64 k, .int .i64 l] w fun e w' => e = .returned (.int .i64 (fxF n k l : Nat)) ∧ ∃ q, w' = w.drewN q := by
  obtain ⟨R, hR⟩ : ∃ R, R = fxF n k l := ⟨_, rfl⟩
  rw [← hR]
  obtain ⟨m, hm⟩ : ∃ m, m = k % l := ⟨_, rfl⟩
  obtain ⟨d, hd⟩ : ∃ d, d = k / l := ⟨_, rfl⟩
  obtain ⟨g, hg⟩ : ∃ g, g = n / l := ⟨_, rfl⟩
  have hml : (k : Int) % (l : Int) = (m : Int) := by rw [cast_mod, hm]
  have hdl : (k : Int) / (l : Int) = (d : Int) := by rw [cast_div, hd]
  have hgl : (n : Int) / (l : Int) = (g : Int) := by rw [cast_div, hg]
  have hdk : d ≤ k := by rw [hd]; exact Nat.div_le_self _ _
  have hgn : g ≤ n := by rw [hg]; exact Nat.div_le_self _ _
  have HR : Hid (R = if m = 0 then chF g d else 0) := by rw [hR, fxF, ← hm, ← hd, ← hg]; exact rfl
  have hl0 : ¬ (l : Int) = 0 := by omega
  clear hR hm hd hg
  by_cases hm0 : m = 0
  · subst hm0
    have CC : Hid (∀ w : World, Calls Try.prog 70 #[.int .i64 g, .int .i64 d] w fun e w' => e = .returned (.int .i64 (R : Nat)) ∧ w = w') := fun w => by rw [HR.out, if_pos rfl]; exact chS_any g d w (by omega) (by omega)
    clear HR
    go_enter Try.func43, Try.ntmps43
    go_wp2_with fail
    go_quiet ((go_at_call 70; exact quiet_same (CC.out _)))
    go_wp2_with fail
    go_ret
    exact ⟨rfl, _, rfl⟩
  · have hm1 : ((m : Int) == 0) = false := by rw [beq_eq_false_iff_ne]; omega
    have HZ : Hid (R = 0) := by rw [HR.out, if_neg hm0]; exact rfl
    clear HR
    go_enter Try.func43, Try.ntmps43
    go_wp2_with fail
    go_ret
    exact ⟨ret_int (by rw [HZ.out]; rfl), 0, rfl⟩

theorem ok06_any (k n : Int) (w : World) : Calls Try.prog 42 #[.int .i64 k, .int .i64 n] w fun e w' => e = .returned (.bool (okNK n k)) ∧ w = w' := by
  obtain ⟨b1, h1⟩ : ∃ b1, b1 = inB n 1 24 := ⟨_, rfl⟩
  obtain ⟨b2, h2⟩ : ∃ b2, b2 = inB k 0 n := ⟨_, rfl⟩
  have C1 : Hid (∀ w : World, Calls Try.prog 38 #[.int .i64 n, .int .i64 1, .int .i64 24] w fun e w' => e = .returned (.bool b1) ∧ w = w') := fun w => by rw [h1]; exact l01In_any _ _ _ w
  have C2 : Hid (∀ w : World, Calls Try.prog 38 #[.int .i64 k, .int .i64 0, .int .i64 n] w fun e w' => e = .returned (.bool b2) ∧ w = w') := fun w => by rw [h2]; exact l01In_any _ _ _ w
  unfold okNK
  rw [← h1, ← h2]
  clear h1 h2
  go_enter Try.func42, Try.ntmps42
  go_wp2_with fail
  refine (C1.out _).mono ?_
  rintro e w1 ⟨rfl, rfl⟩
  cases b1
  · go_wp2_with fail
    go_ret
    exact ⟨rfl, rfl⟩
  go_wp2_with fail
  refine (C2.out _).mono ?_
  rintro e w1 ⟨rfl, rfl⟩
  go_wp2_with fail
  go_ret
  exact ⟨rfl, rfl⟩

set_option maxHeartbeats 400000 in
theorem nkI_any (n k : Int) (w : World) : Calls Try.prog 17 #[.int .i64 n, .int .i64 k] w fun e w' => e = .returned (.int .i64 (nkF n k)) ∧ Ext w w' := by
  obtain ⟨R, hR⟩ : ∃ R, R = nkF n k := ⟨_, rfl⟩
  rw [← hR]
  have HR := Lib.hid hR
  clear hR
  by_cases h1 : inB n 1 24 = true
  · by_cases h2 : inB k 0 n = true
    · have HV : Hid (R = (nkS n.toNat k.toNat n.toNat / n.toNat : Nat)) := by rw [HR.out]; unfold nkF okNK; rw [h1, h2]; exact rfl
      have g1 := inB_iff.1 h1
      have g2 := inB_iff.1 h2
      have CN : Hid (∀ w : World, Calls Try.prog 44 #[.int .i64 n, .int .i64 k] w fun e w' => e = .returned (.int .i64 R) ∧ ∃ q, w' = w.drewN q) := fun w => by
        rw [HV.out]
        obtain ⟨N, rfl⟩ := Int.eq_ofNat_of_zero_le (show 0 ≤ n by omega)
        obtain ⟨K, rfl⟩ := Int.eq_ofNat_of_zero_le (show 0 ≤ k by omega)
        exact necks_any N K w (by omega) (by omega)
      clear HR HV
      go_enter Try.func17, Try.ntmps17
      go_wp2_with fail
      refine (within_any _ _ _ _).mono ?_
      rintro e w1 ⟨rfl, rfl⟩
      rw [h1]
      go_wp2_with fail
      refine (within_any _ _ _ _).mono ?_
      rintro e w1 ⟨rfl, rfl⟩
      rw [h2]
      go_wp2_with fail
      refine (CN.out _).mono ?_
      rintro e w1 ⟨rfl, q, rfl⟩
      go_wp2_with fail
      go_ret
      exact ⟨rfl, (Ext.refl _).drewN _⟩
    · have h2 : inB k 0 n = false := by simpa using h2
      have HV : Hid (R = -1) := by rw [HR.out]; unfold nkF okNK; rw [h1, h2]; exact rfl
      go_enter Try.func17, Try.ntmps17
      go_wp2_with fail
      refine (within_any _ _ _ _).mono ?_
      rintro e w1 ⟨rfl, rfl⟩
      rw [h1]
      go_wp2_with fail
      refine (within_any _ _ _ _).mono ?_
      rintro e w1 ⟨rfl, rfl⟩
      rw [h2]
      go_wp2_with fail
      go_ret
      exact ⟨ret_int HV.out.symm, Ext.refl _⟩
  · have h1 : inB n 1 24 = false := by simpa using h1
    have HV : Hid (R = -1) := by rw [HR.out]; unfold nkF okNK; rw [h1]; exact rfl
    go_enter Try.func17, Try.ntmps17
    go_wp2_with fail
    refine (within_any _ _ _ _).mono ?_
    rintro e w1 ⟨rfl, rfl⟩
    rw [h1]
    go_wp2_with fail
    go_ret
    exact ⟨ret_int HV.out.symm, Ext.refl _⟩

set_option maxHeartbeats 1000000 in
theorem nkS_any (n k : Int) (w : World) : Calls Try.prog 16 #[.int .i64 n, .int .i64 k] w fun e w' => e = .returned (.int .i64 (nkF n k)) ∧ Ext w w' := by
  obtain ⟨b, hb⟩ : ∃ b, b = okNK n k := ⟨_, rfl⟩
  have CO : Hid (∀ w : World, Calls Try.prog 42 #[.int .i64 k, .int .i64 n] w fun e w' => e = .returned (.bool b) ∧ w = w') := fun w => by rw [hb]; exact ok06_any k n w
  cases b
  · have HV : Hid (nkF n k = -1) := by unfold nkF; rw [← hb]; exact rfl
    clear hb
    go_enter Try.func16, Try.ntmps16
    go_wp2_with fail
    refine (CO.out _).mono ?_
    rintro e w1 ⟨rfl, rfl⟩
    go_wp2_with fail
    go_ret
    exact ⟨ret_int HV.out.symm, Ext.refl _⟩
  · have hok : okNK n k = true := hb.symm
    have h' := hok
    unfold okNK at h'
    rw [Bool.and_eq_true] at h'
    have g1 := inB_iff.1 h'.1
    have g2 := inB_iff.1 h'.2
    obtain ⟨N, rfl⟩ := Int.eq_ofNat_of_zero_le (show 0 ≤ n by omega)
    obtain ⟨K, rfl⟩ := Int.eq_ofNat_of_zero_le (show 0 ≤ k by omega)
    obtain ⟨R, hR⟩ : ∃ R, R = nkS N K N / N := ⟨_, rfl⟩
    have HV : Hid (nkF (N : Int) (K : Int) = (R : Nat)) := by unfold nkF; rw [if_pos hok, hR]; exact rfl
    have HR := Lib.hid hR
    rw [HV.out]
    clear hb hok h' hR HV
    have hR : R ≤ 1000000000 := by
      rw [HR.out]
      have := nkS_le N K N (by omega)
      exact Nat.le_trans (Nat.div_le_self _ _) (by omega)
    go_enter Try.func16, Try.ntmps16
    go_wp2_with fail
    refine (CO.out _).mono ?_
    rintro e w1 ⟨rfl, rfl⟩
    go_wp2_with fail
    go_loopw [5, 6] (fun o i wr => ∃ t c q : Nat, t ≤ N ∧ i = .int .i64 t ∧ o = .int .i64 c ∧ c ≤ 10000000 * t ∧ Hid (c = nkS N K t) ∧ wr = w.drewN q) (fun _ i _ => N - (intOf i).toNat)
    case atStart => exact ⟨0, 0, 0, by omega, rfl, rfl, by omega, rfl, rfl⟩
    case round =>
      obtain ⟨t, c, q, ht, rfl, rfl, hc, HC, rfl⟩ := hrel
      by_cases hlt : t < N
      · obtain ⟨g, l, hg, hl, hg1, hgn, hl1, hln, he⟩ := gcd_parts N t (by omega)
        have CG : Hid (∀ w : World, Calls Try.prog 39 #[.int .i64 t, .int .i64 N] w fun e w' => e = .returned (.int .i64 (g : Nat)) ∧ w = w') := fun w => by rw [hg, Nat.gcd_comm]; exact gcdS_any t N w (by omega) (by omega)
        have hql : (N : Int) / (g : Int) = (l : Int) := by rw [cast_div, hl]
        obtain ⟨v, hv⟩ : ∃ v, v = fxF N K l := ⟨_, rfl⟩
        have hvl : v ≤ 10000000 := by rw [hv]; exact fxF_le _ _ _ (by omega)
        have CF : Hid (∀ w : World, Calls Try.prog 43 #[.int .i64 N, .int .i64 K, .int .i64 l] w fun e w' => e = .returned (.int .i64 (v : Nat)) ∧ ∃ q, w' = w.drewN q) := fun w => by rw [hv]; exact fx_any N K l w (by omega) (by omega) (by omega) (by omega)
        have HN : Hid (c + v = nkS N K (t + 1)) := by rw [nkS, Nat.gcd_comm t N, ← hg, ← hl, ← hv, ← HC.out]; exact rfl
        clear hg hl he hv HC
        go_wp2_with fail
        refine (CG.out _).mono ?_
        rintro e w2 ⟨rfl, rfl⟩
        go_wp2_with fail
        refine (CF.out _).mono ?_
        rintro e w3 ⟨rfl, q2, rfl⟩
        go_wp2_with fail
        go_roundw
        case rel => exact ⟨t + 1, c + v, q + q2, by omega, by go_num, by go_num, by omega, HN.out, by simp⟩
        case measure => simp [intOf]; omega
      · obtain rfl : t = N := by omega
        have hq : (c : Int) / (t : Int) = (R : Int) := by rw [cast_div, HR.out, HC.out]
        go_wp2_with fail
        go_ret
        exact ⟨rfl, (Ext.refl _).drewN _⟩
end Go.Proofs.Ytphpdanohooccaa
