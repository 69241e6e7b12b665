/- Contracts of CountBracelets. -/
import Derived.Test.YtphpdanohooccaaNeck
import Derived.Test.YtphpdanohooccaaMod
namespace Go.Proofs.Ytphpdanohooccaa
open Go.RowKit

/-- How many of the first p pulses a mirror leaves. -/
def fixC (n a : Nat) : Nat → Nat
  | 0 => 0
  | p + 1 => fixC n a p + (if (a + n - p) % n = p then 1 else 0)
theorem fixC_le (n a p : Nat) : fixC n a p ≤ p := by
  induction p with
  | zero => exact Nat.le_refl _
  | succ p ih => rw [fixC]; split <;> omega
/-- The sum over the first s numbers of single pulses. -/
def misF (f q k : Nat) : Nat → Nat
  | 0 => 0
  | s + 1 => misF f q k s + (if s ≤ k ∧ (k - s) % 2 = 0 then chF f s * chF q ((k - s) / 2) else 0)
theorem ch2_le (f q a b : Nat) (hf : f ≤ 24) (hq : q ≤ 24) : chF f a * chF q b ≤ 100000000000000 := Nat.mul_le_mul (chF_le f a hf) (chF_le q b hq)
theorem misF_le (f q k s : Nat) (hf : f ≤ 24) (hq : q ≤ 24) : misF f q k s ≤ 100000000000000 * s := by
  induction s with
  | zero => simp [misF]
  | succ s ih =>
    rw [misF]
    have := ch2_le f q s ((k - s) / 2) hf hq
    split <;> omega
theorem misF_stop (f q k d : Nat) : misF f q k (k + 1 + d) = misF f q k (k + 1) := by
  induction d with
  | zero => rfl
  | succ d ih => rw [← Nat.add_assoc, misF, ih, if_neg (by omega)]; rfl
def mirA (n k : Nat) : Nat → Nat
  | 0 => 0
  | a + 1 => mirA n k a + misF (fixC n a n) ((n - fixC n a n) / 2) k (fixC n a n + 1)
theorem mirA_le (n k a : Nat) (hn : n ≤ 24) : mirA n k a ≤ 2500000000000000 * a := by
  induction a with
  | zero => simp [mirA]
  | succ a ih =>
    have h1 := fixC_le n a n
    have h2 := misF_le (fixC n a n) ((n - fixC n a n) / 2) k (fixC n a n + 1) (by omega) (by omega)
    rw [mirA]
    omega
def brI (n k : Nat) : Nat := (nkS n k n / n * n + mirA n k n) / (2 * n)
def brS (n k : Nat) : Nat := (nkS n k n + if n % 2 = 1 then n * misF 1 ((n - 1) / 2) k 2 else n / 2 * (misF 0 (n / 2) k 1 + misF 2 (n / 2 - 1) k 3)) / (2 * n)
theorem br_eq : ∀ n k : Nat, n ≤ 24 → k ≤ n → brI n k = brS n k := by
  have h : ∀ (n k : Fin 25), (decide (k.val ≤ n.val) = true → brI n.val k.val = brS n.val k.val) := by decide +kernel
  exact fun n k h1 h2 => h ⟨n, by omega⟩ ⟨k, by omega⟩ (by simpa using h2)
def brF (n k : Int) : Int := if okNK n k = true then (brI n.toNat k.toNat : Nat) else -1
theorem mod_cast' (a p n : Nat) (h : p ≤ n) : ((a : Int) - p) % (n : Int) = (((a + n - p) % n : Nat) : Int) := by
  have e : ((a + n - p : Nat) : Int) = (a : Int) - p + n * 1 := by omega
  rw [Int.natCast_emod, e, Int.add_mul_emod_self_left]

set_option maxHeartbeats 4000000 in
theorem brI_any (n k : Int) (w : World) : Calls Try.prog 19 #[.int .i64 n, .int .i64 k] w fun e w' => e = .returned (.int .i64 (brF n k)) ∧ Ext w w' := by
  obtain ⟨R, hR⟩ : ∃ R, R = brF n k := ⟨_, rfl⟩
  rw [← hR]
  have HR := Lib.hid hR
  clear hR
  by_cases h1 : inB n 1 24 = true
  · by_cases h2 : inB k 0 n = true
    · have HV : Hid (R = (brI n.toNat k.toNat : Nat)) := by rw [HR.out]; unfold brF okNK; rw [h1, h2]; exact rfl
      have g1 := inB_iff.1 h1
      have g2 := inB_iff.1 h2
      obtain ⟨N, rfl⟩ := Int.eq_ofNat_of_zero_le (show 0 ≤ n by omega)
      obtain ⟨K, rfl⟩ := Int.eq_ofNat_of_zero_le (show 0 ≤ k by omega)
      have HI := Lib.hid h1
      have HJ := Lib.hid h2
      clear h1 h2 HR
      have hN : N ≤ 24 := by omega
      go_enter Try.func19, Try.ntmps19
      go_wp2_with fail
      refine (within_any _ _ _ _).mono ?_
      rintro e w1 ⟨rfl, rfl⟩
      rw [HI.out]
      go_wp2_with fail
      refine (within_any _ _ _ _).mono ?_
      rintro e w1 ⟨rfl, rfl⟩
      rw [HJ.out]
      go_wp2_with fail
      go_loopw [5, 20] (fun o i wr => ∃ a c q : Nat, a ≤ N ∧ i = .int .i64 a ∧ o = .int .i64 c ∧ c ≤ 2500000000000000 * a ∧ Hid (c = mirA N K a) ∧ wr = w.drewN q) (fun _ i _ => N - (intOf i).toNat)
      case atStart => exact ⟨0, 0, 0, by omega, rfl, rfl, by omega, rfl, rfl⟩
      case round =>
        obtain ⟨a, c, q, ha, rfl, rfl, hc, HC, rfl⟩ := hrel
        by_cases hlt : a < N
        · go_wp2_with fail
          go_loopw [7, 24] (fun o i wr => ∃ p f q : Nat, p ≤ N ∧ i = .int .i64 p ∧ o = .int .i64 f ∧ f ≤ p ∧ Hid (f = fixC N a p) ∧ wr = w.drewN q) (fun _ i _ => N - (intOf i).toNat)
          case atStart => exact ⟨0, 0, q, by omega, rfl, rfl, by omega, rfl, rfl⟩
          case round =>
            obtain ⟨p, f, q3, hp, rfl, rfl, hf, HF, rfl⟩ := hrel
            by_cases hpn : p < N
            · obtain ⟨m, hm⟩ : ∃ m, m = (a + N - p) % N := ⟨_, rfl⟩
              have CM : Hid (∀ W : World, Calls Try.prog 46 #[.int .i64 ((a : Int) - p), .int .i64 N] W fun e w' => e = .returned (.int .i64 (m : Nat)) ∧ ∃ q, w' = W.drewN q) := fun W => by
                rw [hm, ← mod_cast' a p N (by omega)]
                exact modI_any _ _ W (by omega) (by omega)
              have HN : Hid (fixC N a (p + 1) = f + (if m = p then 1 else 0)) := by rw [fixC, ← hm, ← HF.out]; exact rfl
              clear hm HF
              go_wp2_with fail
              refine (CM.out _).mono ?_
              rintro e w2 ⟨rfl, q2, rfl⟩
              by_cases hmp : m = p
              · have HN2 : Hid (f + 1 = fixC N a (p + 1)) := by rw [HN.out, if_pos hmp]; exact rfl
                subst hmp
                go_wp2_with fail
                go_roundw
                case rel => exact ⟨m + 1, f + 1, q3 + q2, by omega, by go_num, by go_num, by omega, HN2.out, by simp⟩
                case measure => simp [intOf]; omega
              · have HN2 : Hid (f = fixC N a (p + 1)) := by rw [HN.out, if_neg hmp]; exact rfl
                have hmp2 : ((m : Int) == p) = false := by rw [beq_eq_false_iff_ne]; omega
                go_wp2_with fail
                go_roundw
                case rel => exact ⟨p + 1, f, q3 + q2, by omega, by go_num, rfl, by omega, HN2.out, by simp⟩
                case measure => simp [intOf]; omega
            · obtain rfl : p = N := by omega
              obtain ⟨Q, hQ⟩ : ∃ Q, Q = (p - f) / 2 := ⟨_, rfl⟩
              have HNA : Hid (mirA p K (a + 1) = c + misF f Q K (f + 1)) := by rw [mirA, ← HC.out, ← HF.out, ← hQ]; exact rfl
              have hq2 : ((p : Int) - f) / 2 = (Q : Int) := by omega
              have hQn : Q ≤ p := by omega
              clear hQ HC HF
              go_wp2_with fail
              go_loop [5, 39] (fun o i => ∃ s v : Nat, s ≤ f + 1 ∧ i = .int .i64 s ∧ o = .int .i64 v ∧ v ≤ 2500000000000000 * a + 100000000000000 * s ∧ Hid (v = c + misF f Q K s)) (fun _ i => f + 1 - (intOf i).toNat)
              case atStart => exact ⟨0, c, by omega, rfl, rfl, by omega, rfl⟩
              case round =>
                obtain ⟨s, v, hs, rfl, rfl, hv, HVV⟩ := hrel
                by_cases hsf : s < f + 1
                · by_cases hsk : s ≤ K
                  · obtain ⟨m, hm⟩ : ∃ m, m = (K - s) % 2 := ⟨_, rfl⟩
                    obtain ⟨d, hd⟩ : ∃ d, d = (K - s) / 2 := ⟨_, rfl⟩
                    have hm2 : ((K : Int) - s) % 2 = (m : Int) := by omega
                    have hd2 : ((K : Int) - s) / 2 = (d : Int) := by omega
                    have hdl : d ≤ K := by omega
                    have HNS : Hid (misF f Q K (s + 1) = misF f Q K s + (if m = 0 then chF f s * chF Q d else 0)) := by rw [misF, ← hm, ← hd]; simp [hsk, Hid]
                    have hm1 : m ≤ 1 := by omega
                    clear hm hd
                    by_cases hm0 : m = 0
                    · subst hm0
                      obtain ⟨x, hx⟩ : ∃ x, x = chF f s := ⟨_, rfl⟩
                      obtain ⟨y, hy⟩ : ∃ y, y = chF Q d := ⟨_, rfl⟩
                      obtain ⟨z, hz⟩ : ∃ z, z = x * y := ⟨_, rfl⟩
                      have hzl : z ≤ 100000000000000 := by rw [hz, hx, hy]; exact ch2_le _ _ _ _ (by omega) (by omega)
                      have C1 : Hid (∀ w : World, Calls Try.prog 47 #[.int .i64 f, .int .i64 s] w fun e w' => e = .returned (.int .i64 (x : Nat)) ∧ w = w') := fun w => by rw [hx]; exact chI_any f s w (by omega) (by omega)
                      have C2 : Hid (∀ w : World, Calls Try.prog 47 #[.int .i64 Q, .int .i64 d] w fun e w' => e = .returned (.int .i64 (y : Nat)) ∧ w = w') := fun w => by rw [hy]; exact chI_any Q d w (by omega) (by omega)
                      have HN2 : Hid (v + z = c + misF f Q K (s + 1)) := by rw [HNS.out, if_pos rfl, HVV.out, hz, hx, hy, Nat.add_assoc]; exact rfl
                      have hw : IntKind.i64.wrap ((x : Int) * y) = (z : Int) := by
                        rw [hz, Int.natCast_mul]
                        exact IntWalk.i64_in _ (by rw [← Int.natCast_mul, ← hz]; omega)
                      clear hx hy hz HNS HVV
                      go_wp2_with fail
                      refine (C1.out _).mono ?_
                      rintro e w2 ⟨rfl, rfl⟩
                      go_wp2_with fail
                      refine (C2.out _).mono ?_
                      rintro e w2 ⟨rfl, rfl⟩
                      go_wp2_with fail
                      go_round
                      case rel => exact ⟨s + 1, v + z, by omega, by go_num, by go_num, by omega, HN2.out⟩
                      case measure => simp [intOf]; omega
                    · obtain rfl : m = 1 := by omega
                      have HN2 : Hid (v = c + misF f Q K (s + 1)) := by rw [HNS.out, if_neg hm0, HVV.out]; exact rfl
                      clear HNS HVV hm0
                      go_wp2_with fail
                      go_round
                      case rel => exact ⟨s + 1, v, by omega, by go_num, rfl, by omega, HN2.out⟩
                      case measure => simp [intOf]; omega
                  · have HN2 : Hid (v = c + misF f Q K (s + 1)) := by rw [misF, if_neg (by omega), HVV.out]; exact rfl
                    clear HVV
                    go_wp2_with fail
                    go_round
                    case rel => exact ⟨s + 1, v, by omega, by go_num, rfl, by omega, HN2.out⟩
                    case measure => simp [intOf]; omega
                · have hv4 : v ≤ 2500000000000000 * a + 2500000000000000 := Nat.le_trans hv (Nat.add_le_add_left (Nat.le_trans (Nat.mul_le_mul_left 100000000000000 (show s ≤ 25 by omega)) (by decide)) _)
                  have HV4 := Lib.hid hv4
                  clear hv hv4
                  obtain rfl : s = f + 1 := by omega
                  go_wp2_with fail
                  go_roundw
                  case rel => exact ⟨a + 1, v, q3, by omega, by go_num, rfl, HV4.out, (HVV.out.trans HNA.out.symm), rfl⟩
                  case measure => simp [intOf]; omega
        · obtain rfl : a = N := by omega
          have CN : Hid (∀ w : World, Calls Try.prog 44 #[.int .i64 a, .int .i64 K] w fun e w' => e = .returned (.int .i64 (nkS a K a / a : Nat)) ∧ ∃ q, w' = w.drewN q) := fun w => necks_any a K w (by omega) (by omega)
          obtain ⟨x, hx⟩ : ∃ x, x = nkS a K a / a := ⟨_, rfl⟩
          rw [← hx] at CN
          have hxl : x ≤ 240000000 := by
            rw [hx]
            have := nkS_le a K a (by omega)
            exact Nat.le_trans (Nat.div_le_self _ _) (by omega)
          obtain ⟨y, hy⟩ : ∃ y, y = x * a := ⟨_, rfl⟩
          have hyl : y ≤ 5760000000 := by rw [hy]; exact Nat.le_trans (Nat.mul_le_mul hxl hN) (by omega)
          have hw : IntKind.i64.wrap ((x : Int) * a) = (y : Int) := by
            rw [hy, Int.natCast_mul]
            exact IntWalk.i64_in _ (by rw [← Int.natCast_mul, ← hy]; omega)
          obtain ⟨z, hz⟩ : ∃ z, z = (y + c) / (2 * a) := ⟨_, rfl⟩
          have hz2 : ((y : Int) + c) / (2 * a) = (z : Int) := by rw [hz]; simp
          have hzl : z ≤ y + c := by rw [hz]; exact Nat.div_le_self _ _
          have HZ : Hid (R = (z : Nat)) := by rw [HV.out, hz, hy, hx, HC.out]; exact rfl
          clear hx hy hz HC HV
          go_wp2_with fail
          refine (CN.out _).mono ?_
          rintro e w2 ⟨rfl, q2, rfl⟩
          go_wp2_with fail
          go_ret
          exact ⟨ret_int (hz2.trans HZ.out.symm), (Ext.refl _).drewN _⟩
    · have h2 : inB k 0 n = false := by simpa using h2
      have HV : Hid (R = -1) := by rw [HR.out]; unfold brF okNK; rw [h1, h2]; exact rfl
      go_enter Try.func19, Try.ntmps19
      go_wp2_with fail
      refine (within_any _ _ _ _).mono ?_
      rintro e w1 ⟨rfl, rfl⟩
      rw [h1]
      go_wp2_with fail
      refine (within_any _ _ _ _).mono ?_
      rintro e w1 ⟨rfl, rfl⟩
      rw [h2]
      go_wp2_with fail
      go_ret
      exact ⟨ret_int HV.out.symm, Ext.refl _⟩
  · have h1 : inB n 1 24 = false := by simpa using h1
    have HV : Hid (R = -1) := by rw [HR.out]; unfold brF okNK; rw [h1]; exact rfl
    go_enter Try.func19, Try.ntmps19
    go_wp2_with fail
    refine (within_any _ _ _ _).mono ?_
    rintro e w1 ⟨rfl, rfl⟩
    rw [h1]
    go_wp2_with fail
    go_ret
    exact ⟨ret_int HV.out.symm, Ext.refl _⟩

set_option maxHeartbeats 1000000 in
theorem mirS_any (q f k : Nat) (w : World) (hq : q ≤ 24) (hf : f ≤ 24) (hk : k ≤ 24) :
    Calls Try.prog 45 #[.int .i64 q, .int .i64 f, .int .i64 k] w fun e w' => e = .returned (.int .i64 (misF f q k (f + 1) : Nat)) ∧ w = w' := by
  obtain ⟨R, hR⟩ : ∃ R, R = misF f q k (f + 1) := ⟨_, rfl⟩
  rw [← hR]
  have HR := Lib.hid hR
  clear hR
  go_enter Try.func45, Try.ntmps45
  go_wp2_with fail
  go_loop [7, 8] (fun o i => ∃ s v : Nat, s ≤ f + 1 ∧ s ≤ k + 1 ∧ i = .int .i64 s ∧ o = .int .i64 v ∧ v ≤ 100000000000000 * s ∧ Hid (v = misF f q k s)) (fun _ i => f + 1 - (intOf i).toNat)
  case atStart => exact ⟨0, 0, by omega, by omega, rfl, rfl, by omega, rfl⟩
  case round =>
    obtain ⟨s, v, hs, hsk1, rfl, rfl, hv, HVV⟩ := hrel
    by_cases hsf : s ≤ f
    · by_cases hsk : s ≤ k
      · obtain ⟨m, hm⟩ : ∃ m, m = (k - s) % 2 := ⟨_, rfl⟩
        obtain ⟨d, hd⟩ : ∃ d, d = (k - s) / 2 := ⟨_, rfl⟩
        have hm2 : ((k : Int) - s) % 2 = (m : Int) := by omega
        have hd2 : ((k : Int) - s) / 2 = (d : Int) := by omega
        have hdl : d ≤ k := by omega
        have HNS : Hid (misF f q k (s + 1) = misF f q k s + (if m = 0 then chF f s * chF q d else 0)) := by rw [misF, ← hm, ← hd]; simp [hsk, Hid]
        have hm1 : m ≤ 1 := by omega
        clear hm hd
        by_cases hm0 : m = 0
        · subst hm0
          obtain ⟨x, hx⟩ : ∃ x, x = chF f s := ⟨_, rfl⟩
          obtain ⟨y, hy⟩ : ∃ y, y = chF q d := ⟨_, rfl⟩
          obtain ⟨z, hz⟩ : ∃ z, z = x * y := ⟨_, rfl⟩
          have hzl : z ≤ 100000000000000 := by rw [hz, hx, hy]; exact ch2_le _ _ _ _ (by omega) (by omega)
          have C1 : Hid (∀ w : World, Calls Try.prog 70 #[.int .i64 f, .int .i64 s] w fun e w' => e = .returned (.int .i64 (x : Nat)) ∧ w = w') := fun w => by rw [hx]; exact chS_any f s w (by omega) (by omega)
          have C2 : Hid (∀ w : World, Calls Try.prog 70 #[.int .i64 q, .int .i64 d] w fun e w' => e = .returned (.int .i64 (y : Nat)) ∧ w = w') := fun w => by rw [hy]; exact chS_any q d w (by omega) (by omega)
          have HN2 : Hid (v + z = misF f q k (s + 1)) := by rw [HNS.out, if_pos rfl, HVV.out, hz, hx, hy]; exact rfl
          have hw : IntKind.i64.wrap ((x : Int) * y) = (z : Int) := by
            rw [hz, Int.natCast_mul]
            exact IntWalk.i64_in _ (by rw [← Int.natCast_mul, ← hz]; omega)
          clear hx hy hz HNS HVV
          go_wp2_with fail
          refine (C1.out _).mono ?_
          rintro e w2 ⟨rfl, rfl⟩
          go_wp2_with fail
          refine (C2.out _).mono ?_
          rintro e w2 ⟨rfl, rfl⟩
          go_wp2_with fail
          go_round
          case rel => exact ⟨s + 1, v + z, by omega, by omega, by go_num, by go_num, by omega, HN2.out⟩
          case measure => simp [intOf]; omega
        · obtain rfl : m = 1 := by omega
          have HN2 : Hid (v = misF f q k (s + 1)) := by rw [HNS.out, if_neg hm0, HVV.out]; exact rfl
          clear HNS HVV hm0
          go_wp2_with fail
          go_round
          case rel => exact ⟨s + 1, v, by omega, by omega, by go_num, rfl, by omega, HN2.out⟩
          case measure => simp [intOf]; omega
      · obtain rfl : s = k + 1 := by omega
        have HZ : Hid (v = R) := by
          rw [HR.out, show f + 1 = k + 1 + (f - k) by omega, misF_stop]
          exact HVV.out
        go_wp2_with fail
        go_ret
        exact ⟨ret_int (by rw [HZ.out]), rfl⟩
    · obtain rfl : s = f + 1 := by omega
      go_wp2_with fail
      go_ret
      exact ⟨ret_int (by rw [HVV.out, HR.out]), rfl⟩

set_option maxHeartbeats 2000000 in
theorem brS_any (n k : Int) (w : World) : Calls Try.prog 18 #[.int .i64 n, .int .i64 k] w fun e w' => e = .returned (.int .i64 (brF n k)) ∧ Ext w w' := by
  obtain ⟨b, hb⟩ : ∃ b, b = okNK n k := ⟨_, rfl⟩
  have CO : Hid (∀ w : World, Calls Try.prog 42 #[.int .i64 k, .int .i64 n] w fun e w' => e = .returned (.bool b) ∧ w = w') := fun w => by rw [hb]; exact ok06_any k n w
  cases b
  · have HV : Hid (brF n k = -1) := by unfold brF; rw [← hb]; exact rfl
    clear hb
    go_enter Try.func18, Try.ntmps18
    go_wp2_with fail
    refine (CO.out _).mono ?_
    rintro e w1 ⟨rfl, rfl⟩
    go_wp2_with fail
    go_ret
    exact ⟨ret_int HV.out.symm, Ext.refl _⟩
  · have hok : okNK n k = true := hb.symm
    have h' := hok
    unfold okNK at h'
    rw [Bool.and_eq_true] at h'
    have g1 := inB_iff.1 h'.1
    have g2 := inB_iff.1 h'.2
    obtain ⟨N, rfl⟩ := Int.eq_ofNat_of_zero_le (show 0 ≤ n by omega)
    obtain ⟨K, rfl⟩ := Int.eq_ofNat_of_zero_le (show 0 ≤ k by omega)
    have HV : Hid (brF (N : Int) (K : Int) = (brS N K : Nat)) := by unfold brF; rw [if_pos hok, ← br_eq N K (by omega) (by omega)]; exact rfl
    obtain ⟨R, hR⟩ : ∃ R, R = brS N K := ⟨_, rfl⟩
    rw [HV.out, ← hR]
    have HR := Lib.hid hR
    clear hb hok h' hR HV
    go_enter Try.func18, Try.ntmps18
    go_wp2_with fail
    refine (CO.out _).mono ?_
    rintro e w1 ⟨rfl, rfl⟩
    go_wp2_with fail
    go_loopw [5, 6] (fun o i wr => ∃ t c q : Nat, t ≤ N ∧ i = .int .i64 t ∧ o = .int .i64 c ∧ c ≤ 10000000 * t ∧ Hid (c = nkS N K t) ∧ wr = w.drewN q) (fun _ i _ => N - (intOf i).toNat)
    case atStart => exact ⟨0, 0, 0, by omega, rfl, rfl, by omega, rfl, rfl⟩
    case round =>
      obtain ⟨t, c, q, ht, rfl, rfl, hc, HC, rfl⟩ := hrel
      by_cases hlt : t < N
      · obtain ⟨g, l, hg, hl, hg1, hgn, hl1, hln, he⟩ := gcd_parts N t (by omega)
        have CG : Hid (∀ w : World, Calls Try.prog 39 #[.int .i64 t, .int .i64 N] w fun e w' => e = .returned (.int .i64 (g : Nat)) ∧ w = w') := fun w => by rw [hg, Nat.gcd_comm]; exact gcdS_any t N w (by omega) (by omega)
        have hql : (N : Int) / (g : Int) = (l : Int) := by rw [cast_div, hl]
        obtain ⟨v, hv⟩ : ∃ v, v = fxF N K l := ⟨_, rfl⟩
        have hvl : v ≤ 10000000 := by rw [hv]; exact fxF_le _ _ _ (by omega)
        have CF : Hid (∀ w : World, Calls Try.prog 43 #[.int .i64 N, .int .i64 K, .int .i64 l] w fun e w' => e = .returned (.int .i64 (v : Nat)) ∧ ∃ q, w' = w.drewN q) := fun w => by rw [hv]; exact fx_any N K l w (by omega) (by omega) (by omega) (by omega)
        have HN : Hid (c + v = nkS N K (t + 1)) := by rw [nkS, Nat.gcd_comm t N, ← hg, ← hl, ← hv, ← HC.out]; exact rfl
        clear hg hl he hv HC
        go_wp2_with fail
        refine (CG.out _).mono ?_
        rintro e w2 ⟨rfl, rfl⟩
        go_wp2_with fail
        refine (CF.out _).mono ?_
        rintro e w3 ⟨rfl, q2, rfl⟩
        go_wp2_with fail
        go_roundw
        case rel => exact ⟨t + 1, c + v, q + q2, by omega, by go_num, by go_num, by omega, HN.out, by simp⟩
        case measure => simp [intOf]; omega
      · obtain rfl : t = N := by omega
        by_cases hodd : t % 2 = 1
        · obtain ⟨p, hp⟩ : ∃ p, p = (t - 1) / 2 := ⟨_, rfl⟩
          have hp2 : ((t : Int) - 1) / 2 = (p : Int) := by omega
          have ho2 : (t : Int) % 2 = 1 := by omega
          obtain ⟨x, hx⟩ : ∃ x, x = misF 1 p K 2 := ⟨_, rfl⟩
          have hxl : x ≤ 200000000000000 := by rw [hx]; exact misF_le 1 p K 2 (by omega) (by omega)
          have CM : Hid (∀ w : World, Calls Try.prog 45 #[.int .i64 p, .int .i64 1, .int .i64 K] w fun e w' => e = .returned (.int .i64 (x : Nat)) ∧ w = w') := fun w => by rw [hx]; exact mirS_any p 1 K w (by omega) (by omega) (by omega)
          obtain ⟨y, hy⟩ : ∃ y, y = t * x := ⟨_, rfl⟩
          have hyl : y ≤ 4800000000000000 := by rw [hy]; exact Nat.le_trans (Nat.mul_le_mul (show t ≤ 24 by omega) hxl) (by omega)
          have hw : IntKind.i64.wrap ((t : Int) * x) = (y : Int) := by
            rw [hy, Int.natCast_mul]
            exact IntWalk.i64_in _ (by rw [← Int.natCast_mul, ← hy]; omega)
          obtain ⟨z, hz⟩ : ∃ z, z = (c + y) / (2 * t) := ⟨_, rfl⟩
          have hz2 : ((c : Int) + y) / (2 * t) = (z : Int) := by rw [hz]; simp
          have hzl : z ≤ c + y := by rw [hz]; exact Nat.div_le_self _ _
          have HZ : Hid (R = z) := by rw [HR.out, hz, hy, hx, hp, HC.out]; simp [brS, hodd, Hid]
          clear hp hx hy hz HC HR
          go_wp2_with fail
          refine (CM.out _).mono ?_
          rintro e w2 ⟨rfl, rfl⟩
          go_wp2_with fail
          go_ret
          exact ⟨ret_int (by rw [HZ.out, ← hz2]), (Ext.refl _).drewN _⟩
        · obtain ⟨h, hh⟩ : ∃ h, h = t / 2 := ⟨_, rfl⟩
          have hh2 : (t : Int) / 2 = (h : Int) := by omega
          have ho2 : (t : Int) % 2 = 0 := by omega
          have hh1 : 1 ≤ h := by omega
          obtain ⟨x, hx⟩ : ∃ x, x = misF 0 h K 1 := ⟨_, rfl⟩
          have hxl : x ≤ 100000000000000 := by rw [hx]; exact misF_le 0 h K 1 (by omega) (by omega)
          have CM : Hid (∀ w : World, Calls Try.prog 45 #[.int .i64 h, .int .i64 0, .int .i64 K] w fun e w' => e = .returned (.int .i64 (x : Nat)) ∧ w = w') := fun w => by rw [hx]; exact mirS_any h 0 K w (by omega) (by omega) (by omega)
          obtain ⟨u, hu⟩ : ∃ u, u = misF 2 (h - 1) K 3 := ⟨_, rfl⟩
          have hul : u ≤ 300000000000000 := by rw [hu]; exact misF_le 2 (h - 1) K 3 (by omega) (by omega)
          have CU : Hid (∀ w : World, Calls Try.prog 45 #[.int .i64 ((h : Int) - 1), .int .i64 2, .int .i64 K] w fun e w' => e = .returned (.int .i64 (u : Nat)) ∧ w = w') := fun w => by rw [hu, show (h : Int) - 1 = ((h - 1 : Nat) : Int) by omega]; exact mirS_any (h - 1) 2 K w (by omega) (by omega) (by omega)
          obtain ⟨y, hy⟩ : ∃ y, y = h * (x + u) := ⟨_, rfl⟩
          have hyl : y ≤ 9600000000000000 := by rw [hy]; exact Nat.le_trans (Nat.mul_le_mul (show h ≤ 24 by omega) (show x + u ≤ 400000000000000 by omega)) (by omega)
          have hw : IntKind.i64.wrap ((h : Int) * ((x : Int) + u)) = (y : Int) := by
            rw [hy, Int.natCast_mul, Int.natCast_add]
            exact IntWalk.i64_in _ (by rw [← Int.natCast_add, ← Int.natCast_mul, ← hy]; omega)
          obtain ⟨z, hz⟩ : ∃ z, z = (c + y) / (2 * t) := ⟨_, rfl⟩
          have hz2 : ((c : Int) + y) / (2 * t) = (z : Int) := by rw [hz]; simp
          have hzl : z ≤ c + y := by rw [hz]; exact Nat.div_le_self _ _
          have HZ : Hid (R = z) := by rw [HR.out, hz, hy, hx, hu, hh, HC.out]; simp [brS, hodd, Hid]
          clear hh hx hy hz hu HC HR
          go_wp2_with fail
          refine (CM.out _).mono ?_
          rintro e w2 ⟨rfl, rfl⟩
          go_wp2_with fail
          refine (CU.out _).mono ?_
          rintro e w2 ⟨rfl, rfl⟩
          go_wp2_with fail
          go_ret
          exact ⟨ret_int (by rw [HZ.out, ← hz2]), (Ext.refl _).drewN _⟩
end Go.Proofs.Ytphpdanohooccaa
