/- FnSwing, the walk. -/
import Derived.Test.YtcladodjoneanaaRow
import Derived.Test.YtcladodjoneanaaOwn
import Derived.Test.YtcladodjoneanaaSwingTimes
import Derived.Test.YtcladodjoneanaaCur
import Derived.Test.YtcladodjoneanaaApp
namespace Go.Proofs.Ytcladodjoneanaa
open Go.ChangeShapes Go.WideShapes Go.ChangeAt Go.RowKit Go.Joins

theorem swp_zero {n s : Int} (h : swB n s = true) : swp n s 0 = 0 := by
  have h' := swB_iff.1 h
  unfold swp
  rw [if_pos (by omega), Int.zero_mul, Int.zero_ediv]
theorem swp_self {n x : Int} (h1 : 1 ≤ n) : swp n n x = x := by
  unfold swp
  split
  · exact Int.mul_ediv_cancel _ (by omega)
  · rw [show 2 * n - n = n by omega, Int.mul_ediv_cancel _ (by omega)]
    omega
theorem div_mono {a b n : Int} (hn : 1 ≤ n) (h : a ≤ b) : a / n ≤ b / n := Int.ediv_le_ediv (by omega) h
theorem swp_mono1 {n s x : Int} (h : swB n s = true) : swp n s x ≤ swp n s (x + 1) := by
  have h' := swB_iff.1 h
  have e1 : (x + 1) * s = x * s + s := by rw [Int.add_mul, Int.one_mul]
  have e2 : (x + 1 - n) * (2 * n - s) = (x - n) * (2 * n - s) + (2 * n - s) := by rw [show x + 1 - n = (x - n) + 1 by omega, Int.add_mul, Int.one_mul]
  unfold swp
  by_cases h1 : x + 1 ≤ n
  · rw [if_pos (by omega), if_pos h1]
    exact div_mono h'.1.1 (by omega)
  · rw [if_neg h1]
    by_cases h2 : x ≤ n
    · obtain rfl : x = n := by omega
      rw [if_pos h2, Int.mul_comm, Int.mul_ediv_cancel _ (by omega)]
      have : 0 ≤ (x + 1 - x) * (2 * x - s) / x := Int.ediv_nonneg (Int.mul_nonneg (by omega) (by omega)) (by omega)
      omega
    · rw [if_neg h2]
      have := div_mono (a := (x - n) * (2 * n - s)) (b := (x + 1 - n) * (2 * n - s)) h'.1.1 (by omega)
      omega
theorem swp_mono {n s : Int} (h : swB n s = true) (x : Int) (d : Nat) : swp n s x ≤ swp n s (x + d) := by
  induction d with
  | zero => simp
  | succ d ih =>
    have := swp_mono1 (x := x + d) h
    rw [show x + ((d + 1 : Nat) : Int) = x + d + 1 by omega]
    omega
theorem plF_of {n s x : Int} (h : swB n s = true) (h0 : 0 ≤ x) (h1 : x ≤ 2 * n) : swPlF n s x = swp n s x := by
  unfold swPlF
  rw [if_pos ⟨h, inB_iff.2 ⟨h0, h1⟩⟩]
theorem stF_of {n s x : Int} (h : swB n s = true) (h0 : 0 ≤ x) (h1 : x ≤ 2 * n) : stPlF n s x = leastF n s x := by
  unfold stPlF
  rw [if_pos ⟨h, inB_iff.2 ⟨h0, h1⟩⟩]
theorem least_le {n s x : Int} (h : swB n s = true) (h0 : 0 ≤ x) (h1 : x ≤ 2 * n) : (leastF n s (swp n s x) : Int) ≤ x := by
  have hb := swp_bd h h0 h1
  have hs := leastF_spec h hb.2
  obtain ⟨X, rfl⟩ := Int.eq_ofNat_of_zero_le h0
  by_cases hle : leastF n s (swp n s X) ≤ X
  · omega
  · have := hs.2.2 X (by omega)
    omega

theorem qn_eq (n v : Int) : v - v % (2 * n) = v / (2 * n) * 2 * n := by
  have h1 := Int.mul_ediv_add_emod v (2 * n)
  have h2 : v / (2 * n) * 2 * n = 2 * n * (v / (2 * n)) := by rw [Int.mul_assoc, Int.mul_comm (v / (2 * n))]
  omega

set_option maxHeartbeats 8000000 in
set_option maxRecDepth 100000 in
theorem core_FnSwing (w : World) (A0 : Option Addr) (c0 l : Nat) (hl : l ≤ 1048576)
    (CN : Hid (∀ (m : Int) (W : World), 0 ≤ m → m ≤ 1000 → Ext w W → Calls Try.prog 42 #[.slice A0 l c0, .int .i64 m] W (RetNum W))) :
    Calls Try.prog 14 #[.slice A0 l c0] w fun e w' => e = .returned (.bool true) ∧ Ext w w' := by
  go_enter Try.func14, Try.ntmps14
  dsimp only [List.append]
  go_wp2_with fail
  refine (CN.out _ _ (by omega) (by omega) (Ext.refl w)).mono ?_
  rintro e w1 ⟨a, rfl, ha, he1⟩
  have E1 := Lib.hid he1
  clear he1
  obtain ⟨n, hn⟩ : ∃ n : Int, n = 1 + (a : Int) % 60 := ⟨_, rfl⟩
  have hn1 : 1 ≤ n ∧ n ≤ 60 := by omega
  have hn' := hn.symm
  clear hn
  go_wp2_with fail
  clear hn' ha
  refine (CN.out _ _ (by omega) (by omega) E1.out).mono ?_
  rintro e w2 ⟨b, rfl, hb, he2⟩
  have E2 := Lib.hid (E1.out.trans he2)
  clear he2 E1
  have hm0 := Int.emod_nonneg (b : Int) (show 2 * n - 1 ≠ 0 by omega)
  have hm1 := Int.emod_lt_of_pos (b : Int) (show 0 < 2 * n - 1 by omega)
  obtain ⟨s, hs⟩ : ∃ s : Int, s = 1 + (b : Int) % (2 * n - 1) := ⟨_, rfl⟩
  have hs1 : 1 ≤ s ∧ s ≤ 2 * n - 1 := by omega
  have hs' := hs.symm
  clear hs
  go_wp2_with fail
  clear hs' hb hm0 hm1
  refine (CN.out _ _ (by omega) (by omega) E2.out).mono ?_
  rintro e w3 ⟨c, rfl, hc, he3⟩
  have E3 := Lib.hid (E2.out.trans he3)
  clear he3 E2
  have hm0 := Int.emod_nonneg (c : Int) (show 2 * n + 1 ≠ 0 by omega)
  have hm1 := Int.emod_lt_of_pos (c : Int) (show 0 < 2 * n + 1 by omega)
  obtain ⟨x, hx⟩ : ∃ x : Int, x = (c : Int) % (2 * n + 1) := ⟨_, rfl⟩
  have hx1 : 0 ≤ x ∧ x ≤ 2 * n := by omega
  have hx' := hx.symm
  clear hx
  have h : swB n s = true := swB_iff.2 ⟨by omega, by omega⟩
  have H := Lib.hid h
  -- the numbers
  have CP : Hid (∀ (v : Int) (W : World), 0 ≤ v → v ≤ 2 * n → Calls Try.prog 29 #[.int .i64 n, .int .i64 s, .int .i64 v] W fun e w' => e = .returned (.int .i64 (swp n s v)) ∧ W = w') := fun v W h0 h1 => by
    rw [← plF_of h h0 h1]; exact swPlI_any n s v W
  have CT : Hid (∀ (v : Int) (W : World), 0 ≤ v → v ≤ 2 * n → Calls Try.prog 33 #[.int .i64 n, .int .i64 s, .int .i64 v] W fun e w' => e = .returned (.int .i64 (leastF n s v)) ∧ W = w') := fun v W h0 h1 => by
    rw [← stF_of h h0 h1]; exact stPlI_any n s v W
  have CO : Hid (∀ W : World, Calls Try.prog 16 #[.int .i64 n, .int .i64 s] W fun e w' => e = .returned (.bool true) ∧ W = w') := fun W => by rw [← h]; exact swingOkI_any n s W
  have CH : Hid (∀ W : World, Calls Try.prog 24 #[.int .i64 n, .int .i64 s] W fun e w' => e = .returned (.int .i64 s) ∧ W = w') := fun W => by
    have := halfI_any n s W
    unfold halfF at this
    rwa [if_pos h] at this
  have CN2 : Hid (∀ (v : Int) (W : World), 0 ≤ v → v ≤ 2 * n → Calls Try.prog 29 #[.int .i64 n, .int .i64 n, .int .i64 v] W fun e w' => e = .returned (.int .i64 v) ∧ W = w') := fun v W h0 h1 => by
    have h2 : swB n n = true := swB_iff.2 ⟨by omega, by omega⟩
    have h3 := plF_of h2 h0 h1
    rw [swp_self (by omega)] at h3
    have h4 := swPlI_any n n v W
    rwa [h3] at h4
  have CU : Hid (∀ (v : Int) (W : World), 0 ≤ v → v ≤ 1000000 → Calls Try.prog 31 #[.int .i64 n, .int .i64 s, .int .i64 v] W fun e w' => e = .returned (.int .i64 (v / (2 * n) * 2 * n + swp n s (v % (2 * n)))) ∧ Ext W w') := fun v W h0 h1 => by
    have h4 := swTmI_any n s v W
    have h5 : swTmF n s v = v / (2 * n) * 2 * n + swp n s (v % (2 * n)) := by
      unfold swTmF
      rw [if_pos ⟨h, inB_iff.2 ⟨h0, h1⟩⟩, qn_eq n v]
    rw [h5] at h4
    exact h4.mono fun _ _ ⟨h6, k, h7⟩ => ⟨h6, by rw [h7]; exact (Ext.refl _).drewN _⟩
  have CV : Hid (∀ (v : Int) (W : World), 0 ≤ v → v ≤ 1000000 → Calls Try.prog 35 #[.int .i64 n, .int .i64 s, .int .i64 v] W fun e w' => e = .returned (.int .i64 (v / (2 * n) * 2 * n + leastF n s (v % (2 * n)))) ∧ Ext W w') := fun v W h0 h1 => by
    have h4 := stTmI_any n s v W
    have h5 : stTmF n s v = v / (2 * n) * 2 * n + leastF n s (v % (2 * n)) := by
      unfold stTmF
      rw [if_pos ⟨h, inB_iff.2 ⟨h0, h1⟩⟩, qn_eq n v]
    rw [h5] at h4
    exact h4.mono fun _ _ ⟨h6, k, h7⟩ => ⟨h6, by rw [h7]; exact (Ext.refl _).drewN _⟩
  have CL : Hid (∀ (v u : Int) (A : Option Addr) (W : World), 0 ≤ v → v ≤ 1000000 → u = v / (2 * n) * 2 * n + swp n s (v % (2 * n)) → RdI W A [v, 0, 2 * n] → Calls Try.prog 38 #[.int .i64 n, .int .i64 s, .slice A 3 3] W (RetI W [u, 0, 2 * n])) := fun v u A W h0 h1 hu h2 => by
    have h4 := swTmsI_any n s A 3 [v, 0, 2 * n] W h2 (by simp)
    have e1 : swTmF n s v = u := by
      unfold swTmF
      rw [if_pos ⟨h, inB_iff.2 ⟨h0, h1⟩⟩, qn_eq n v, hu]
    have e2 : swTmF n s 0 = 0 := by
      unfold swTmF
      rw [if_pos ⟨h, inB_iff.2 (by omega)⟩, Int.zero_emod, swp_zero h]
      rfl
    have e3 : swTmF n s (2 * n) = 2 * n := by
      unfold swTmF
      rw [if_pos ⟨h, inB_iff.2 (by omega)⟩, Int.emod_self, swp_zero h]
      omega
    have hb := swp_bd h (Int.emod_nonneg v (show 2 * n ≠ 0 by omega)) (Int.le_of_lt (Int.emod_lt_of_pos v (show 0 < 2 * n by omega)))
    have hq : 0 ≤ v / (2 * n) * 2 * n := Int.mul_nonneg (Int.mul_nonneg (Int.ediv_nonneg h0 (by omega)) (by omega)) (by omega)
    have h5 : swTmsF n s [v, 0, 2 * n] = [u, 0, 2 * n] := by
      unfold swTmsF
      rw [if_pos]
      · simp [e1, e2, e3]
      · refine ⟨by simp, fun t ht => ?_⟩
        simp only [List.mem_cons, List.not_mem_nil, or_false] at ht
        rcases ht with rfl | rfl | rfl
        · rw [e1, hu]; omega
        · rw [e2]; omega
        · rw [e3]; omega
    rw [h5] at h4
    exact h4
  have CP2 : Hid (∀ W : World, Calls Try.prog 20 #[.int .i64 n, .int .i64 s] W fun e w' => e = .returned (.int .i64 (2 * n - s)) ∧ W = w') := fun W => by
    have := oppI_any n s W
    unfold oppF at this
    rwa [if_pos h] at this
  have CP3 : Hid (∀ W : World, Calls Try.prog 20 #[.int .i64 n, .int .i64 (2 * n - s)] W fun e w' => e = .returned (.int .i64 s) ∧ W = w') := fun W => by
    have h2 : swB n (2 * n - s) = true := swB_iff.2 ⟨by omega, by omega⟩
    have := oppI_any n (2 * n - s) W
    unfold oppF at this
    rw [if_pos h2] at this
    rwa [show 2 * n - (2 * n - s) = s by omega] at this
  have CO2 : Hid (∀ W : World, Calls Try.prog 16 #[.int .i64 n, .int .i64 (2 * n - s)] W fun e w' => e = .returned (.bool true) ∧ W = w') := fun W => by
    have h2 : swB n (2 * n - s) = true := swB_iff.2 ⟨by omega, by omega⟩
    rw [← h2]
    exact swingOkI_any n _ W
  have CS2 : Hid (∀ W : World, Calls Try.prog 18 #[.int .i64 n, .int .i64 s] W fun e w' => e = .returned (.bool (s == n)) ∧ W = w') := fun W => by
    have := isStraightI_any n s W
    rwa [h, Bool.true_and] at this
  have HMO : Hid (∀ v : Int, swp n s (v - 1) ≤ swp n s v) := fun v => by
    have := swp_mono1 (x := v - 1) h
    rwa [show v - 1 + 1 = v by omega] at this
  clear h
  obtain ⟨y, hy⟩ : ∃ y, y = swp n s x := ⟨_, rfl⟩
  have hyb : 0 ≤ y ∧ y ≤ 2 * n := by rw [hy]; exact swp_bd H.out hx1.1 hx1.2
  have C1 : Hid (∀ W : World, Calls Try.prog 29 #[.int .i64 n, .int .i64 s, .int .i64 x] W fun e w' => e = .returned (.int .i64 y) ∧ W = w') := fun W => by rw [hy]; exact CP.out x W hx1.1 hx1.2
  have HZS := Lib.hid (leastF_spec H.out hx1.2)
  obtain ⟨z, hz⟩ : ∃ z, z = leastF n s x := ⟨_, rfl⟩
  have C2 : Hid (∀ W : World, Calls Try.prog 33 #[.int .i64 n, .int .i64 s, .int .i64 x] W fun e w' => e = .returned (.int .i64 z) ∧ W = w') := fun W => by rw [hz]; exact CT.out x W hx1.1 hx1.2
  rw [← hz] at HZS
  have hzb : (z : Int) ≤ 2 * n := HZS.out.2.1
  obtain ⟨p, hp⟩ : ∃ p, p = swp n s z := ⟨_, rfl⟩
  have C3 : Hid (∀ W : World, Calls Try.prog 29 #[.int .i64 n, .int .i64 s, .int .i64 z] W fun e w' => e = .returned (.int .i64 p) ∧ W = w') := fun W => by rw [hp]; exact CP.out z W (by omega) hzb
  have hpx : x ≤ p := by rw [hp]; exact HZS.out.1
  obtain ⟨q, hq⟩ : ∃ q, q = swp n s ((z : Int) - 1) := ⟨_, rfl⟩
  have C4 : Hid (0 < z → ∀ W : World, Calls Try.prog 29 #[.int .i64 n, .int .i64 s, .int .i64 ((z : Int) - 1)] W fun e w' => e = .returned (.int .i64 q) ∧ W = w') := fun h0 W => by rw [hq]; exact CP.out _ W (by omega) (by omega)
  have hqx : 0 < z → q < x := fun h0 => by
    have := HZS.out.2.2 (z - 1) (by omega)
    rw [hq, show (z : Int) - 1 = ((z - 1 : Nat) : Int) by omega]
    exact this
  obtain ⟨r, hr⟩ : ∃ r, r = leastF n s y := ⟨_, rfl⟩
  have C5 : Hid (∀ W : World, Calls Try.prog 33 #[.int .i64 n, .int .i64 s, .int .i64 y] W fun e w' => e = .returned (.int .i64 r) ∧ W = w') := fun W => by rw [hr]; exact CT.out y W hyb.1 hyb.2
  have hrx : (r : Int) ≤ x := by rw [hr, hy]; exact least_le H.out hx1.1 hx1.2
  have C6 : Hid (∀ W : World, Calls Try.prog 29 #[.int .i64 n, .int .i64 s, .int .i64 n] W fun e w' => e = .returned (.int .i64 s) ∧ W = w') := fun W => by
    have := CP.out n W (by omega) (by omega)
    rwa [swp_mid H.out] at this
  have C7 : Hid (∀ W : World, Calls Try.prog 29 #[.int .i64 n, .int .i64 s, .int .i64 0] W fun e w' => e = .returned (.int .i64 0) ∧ W = w') := fun W => by
    have := CP.out 0 W (by omega) (by omega)
    rwa [swp_zero H.out] at this
  have C8 : Hid (∀ W : World, Calls Try.prog 29 #[.int .i64 n, .int .i64 s, .int .i64 (2 * n)] W fun e w' => e = .returned (.int .i64 (2 * n)) ∧ W = w') := fun W => by
    have := CP.out (2 * n) W (by omega) (by omega)
    rwa [swp_end H.out] at this
  have HQX := Lib.hid hqx
  have HP0 : Hid (z = 0 → p = 0) := fun h => by rw [hp, h]; exact swp_zero H.out
  have HY0 : Hid (x = 0 → y = 0) := fun h => by rw [hy, h]; exact swp_zero H.out
  clear hy hz hp hq hqx hr HZS
  have bb1 : decide (y < 0) = false := decide_eq_false (by omega)
  have bb2 : decide (2 * n < y) = false := decide_eq_false (by omega)
  have bb5 : decide (p < x) = false := decide_eq_false (by omega)
  have bb7 : decide (x < (r : Int)) = false := decide_eq_false (by omega)
  by_cases hz0 : 0 < z
  · have hz0 := hz0
    have bb3 : decide ((z : Int) < 0) = false := decide_eq_false (by omega)
    have bb4 : decide (2 * n < (z : Int)) = false := decide_eq_false (by omega)
    have bb6 : decide (x ≤ q) = false := decide_eq_false (by have := HQX.out hz0; omega)
    have bb8 : decide (0 < (z : Int)) = true := decide_eq_true (by omega)
    go_wp2_with fail
    rw [hx']
    clear hx' hc hm0 hm1
    refine (C1.out _).mono ?_
    rintro e w4 ⟨rfl, rfl⟩
    go_wp2_with fail
    refine (C2.out _).mono ?_
    rintro e w4 ⟨rfl, rfl⟩
    go_wp2_with fail
    refine (CO.out _).mono ?_
    rintro e w4 ⟨rfl, rfl⟩
    go_wp2_with fail
    refine (C3.out _).mono ?_
    rintro e w4 ⟨rfl, rfl⟩
    have hqx := HQX.out hz0
    have C4' := Lib.hid (C4.out hz0)
    have hz1 : (0 : Int) < z := by omega
    go_wp2_with fail
    refine (C4'.out _).mono ?_
    rintro e w4 ⟨rfl, rfl⟩
    go_wp2_with fail
    refine (C5.out _).mono ?_
    rintro e w4 ⟨rfl, rfl⟩
    go_wp2_with fail
    refine (C6.out _).mono ?_
    rintro e w4 ⟨rfl, rfl⟩
    go_wp2_with fail
    refine (CH.out _).mono ?_
    rintro e w4 ⟨rfl, rfl⟩
    go_wp2_with fail
    refine (C7.out _).mono ?_
    rintro e w4 ⟨rfl, rfl⟩
    go_wp2_with fail
    refine (C8.out _).mono ?_
    rintro e w4 ⟨rfl, rfl⟩
    go_wp2_with fail
    clear C1 C2 C3 C4 C5 C6 C7 C8 CO HQX hpx hrx bb1 bb2 bb3 bb4 bb5 bb6 bb7 bb8 HP0 HY0
    go_loop [8] (fun i => ∃ k : Nat, 1 ≤ k ∧ (k : Int) ≤ 2 * n + 1 ∧ i = .int .i64 k) (fun i => (2 * n + 1 - intOf i).toNat)
    case atStart => exact ⟨1, by omega, by omega, rfl⟩
    case round =>
      obtain ⟨k, hk1, hk2, rfl⟩ := hrel
      by_cases hk : (k : Int) ≤ 2 * n
      · have D1 := Lib.hid fun W => CP.out k W (by omega) hk
        have D2 := Lib.hid fun W => CP.out ((k : Int) - 1) W (by omega) (by omega)
        have D3 := Lib.hid fun W => CN2.out k W (by omega) hk
        have hmo := HMO.out k
        obtain ⟨p1, hp1⟩ : ∃ p1, p1 = swp n s k := ⟨_, rfl⟩
        obtain ⟨p0, hp0⟩ : ∃ p0, p0 = swp n s ((k : Int) - 1) := ⟨_, rfl⟩
        rw [← hp1] at D1 hmo
        rw [← hp0] at D2 hmo
        clear hp1 hp0
        go_wp2_with fail
        refine (D1.out _).mono ?_
        rintro e w4 ⟨rfl, rfl⟩
        go_wp2_with fail
        refine (D2.out _).mono ?_
        rintro e w4 ⟨rfl, rfl⟩
        go_wp2_with fail
        refine (D3.out _).mono ?_
        rintro e w4 ⟨rfl, rfl⟩
        go_wp2_with fail
        go_round
        case rel => exact ⟨k + 1, by omega, by omega, by go_num⟩
        case measure => simp [intOf]; omega
      · have hk3 : 2 * n < (k : Int) := by omega
        go_wp2_with fail
        refine (CN.out _ _ (by omega) (by omega) E3.out).mono ?_
        rintro e w5 ⟨d, rfl, hd, he5⟩
        have E5 := Lib.hid (E3.out.trans he5)
        clear he5 E3
        obtain ⟨T, hT⟩ : ∃ T : Int, T = (d : Int) % 5000 := ⟨_, rfl⟩
        have hT1 : 0 ≤ T ∧ T ≤ 4999 := by omega
        have hT' := hT.symm
        clear hT
        have hm0 := Int.emod_nonneg T (show 2 * n ≠ 0 by omega)
        have hm1 := Int.emod_lt_of_pos T (show 0 < 2 * n by omega)
        obtain ⟨r2, hr2⟩ : ∃ r2, r2 = T % (2 * n) := ⟨_, rfl⟩
        obtain ⟨q2, hq2⟩ : ∃ q2, q2 = T / (2 * n) := ⟨_, rfl⟩
        have hq0 : 0 ≤ q2 := by rw [hq2]; exact Int.ediv_nonneg hT1.1 (by omega)
        have hqn : q2 * 2 * n = T - r2 := by rw [hq2, hr2]; exact (qn_eq n T).symm
        have hq3 : q2 ≤ 4999 := by rw [hq2]; exact Int.le_trans (Int.ediv_le_self _ hT1.1) hT1.2
        obtain ⟨pr, hpr⟩ : ∃ pr, pr = swp n s r2 := ⟨_, rfl⟩
        have hprb : 0 ≤ pr ∧ pr ≤ 2 * n := by rw [hpr]; exact swp_bd H.out (by omega) (by omega)
        obtain ⟨zr, hzr⟩ : ∃ zr, zr = leastF n s r2 := ⟨_, rfl⟩
        have hzrb : (zr : Int) ≤ 2 * n := by rw [hzr]; exact (leastF_spec H.out (by omega)).2.1
        obtain ⟨Q, hQ⟩ : ∃ Q, Q = q2 * 2 * n := ⟨_, rfl⟩
        obtain ⟨u, hu⟩ : ∃ u, u = Q + pr := ⟨_, rfl⟩
        obtain ⟨v, hv⟩ : ∃ v : Int, v = Q + zr := ⟨_, rfl⟩
        have D1 : Hid (∀ W : World, Calls Try.prog 31 #[.int .i64 n, .int .i64 s, .int .i64 T] W fun e w' => e = .returned (.int .i64 u) ∧ Ext W w') := fun W => by
          have := CU.out T W hT1.1 (by omega)
          rwa [← hr2, ← hq2, ← hpr, ← hQ, ← hu] at this
        have D2 : Hid (∀ W : World, Calls Try.prog 35 #[.int .i64 n, .int .i64 s, .int .i64 T] W fun e w' => e = .returned (.int .i64 v) ∧ Ext W w') := fun W => by
          have := CV.out T W hT1.1 (by omega)
          rwa [← hr2, ← hq2, ← hzr, ← hQ, ← hv] at this
        have D3 : Hid (∀ (A : Option Addr) (W : World), RdI W A [T, 0, 2 * n] → Calls Try.prog 38 #[.int .i64 n, .int .i64 s, .slice A 3 3] W (RetI W [u, 0, 2 * n])) := fun A W h2 => CL.out T u A W hT1.1 (by omega) (by rw [← hr2, ← hq2, ← hpr, ← hQ, ← hu]) h2
        have D4 : Hid (∀ W : World, Calls Try.prog 29 #[.int .i64 n, .int .i64 s, .int .i64 r2] W fun e w' => e = .returned (.int .i64 pr) ∧ W = w') := fun W => by rw [hpr]; exact CP.out r2 W (by omega) (by omega)
        have D5 : Hid (∀ W : World, Calls Try.prog 33 #[.int .i64 n, .int .i64 s, .int .i64 r2] W fun e w' => e = .returned (.int .i64 zr) ∧ W = w') := fun W => by rw [hzr]; exact CT.out r2 W (by omega) (by omega)
        have k2 : T.tdiv (2 * n) = q2 := by rw [hq2]; exact Int.tdiv_eq_ediv_of_nonneg hT1.1
        have k3 : T.tmod (2 * n) = r2 := by rw [hr2]; exact Int.tmod_eq_emod_of_nonneg hT1.1
        have k1 : wrap64 q2 = q2 := IntWalk.wrap64_in _ (by omega)
        have k4 : wrap64 (q2 * 2) = q2 * 2 := IntWalk.wrap64_in _ (by omega)
        have k5 : wrap64 (q2 * 2 * n) = Q := by rw [hQ]; exact IntWalk.wrap64_in _ (by omega)
        have k6 : wrap64 (Q + pr) = u := by rw [hu]; exact IntWalk.wrap64_in _ (by omega)
        have k7 : wrap64 (Q + zr) = v := by rw [hv]; exact IntWalk.wrap64_in _ (by omega)
        have HK := Lib.hid (And.intro k1 (And.intro k2 (And.intro k3 (And.intro k4 (And.intro k5 (And.intro k6 k7))))))
        clear hr2 hq2 hqn hpr hzr hQ hu hv k1 k2 k3 k4 k5 k6 k7 hm0 hm1 CU CV CL CP CT HMO H hq0 hq3 hprb hzrb
        go_wp2_with fail
        rw [hT']
        clear hT' hd
        refine (D1.out _).mono ?_
        rintro e w6 ⟨rfl, e6⟩
        have E6 := Lib.hid (E5.out.trans e6)
        clear e6
        go_wp2_with fail
        refine (D2.out _).mono ?_
        rintro e w7 ⟨rfl, e7⟩
        have E7 := Lib.hid (E6.out.trans e7)
        clear e7
        go_wp2_with fail
        refine (D3.out (some ⟨w7.heap.size, 0, none⟩) _ (RdI.built w7 [T, 0, 2 * n])).mono ?_
        rintro e w8 ⟨A', c', rfl, ho, he8⟩
        have E8 := Lib.hid ((E7.out.alloc _).trans he8)
        have HO8 := Lib.hid ho
        clear ho he8
        obtain ⟨b0, o0, hA, g0⟩ := HO8.out.rd.at_ 0 (by simp)
        subst hA
        obtain ⟨b1, o1, hA, g1⟩ := HO8.out.rd.at_ 1 (by simp)
        injection hA with hA
        injection hA with hA hB _
        subst hA hB
        obtain ⟨b1, o1, hA, g2⟩ := HO8.out.rd.at_ 2 (by simp)
        injection hA with hA
        injection hA with hA hB _
        subst hA hB
        have g0' : w8.cell? ⟨b0, o0, none⟩ = some (.int .i64 u) := g0
        have g1' : w8.cell? ⟨b0, o0 + 1, none⟩ = some (.int .i64 0) := g1
        have g2' : w8.cell? ⟨b0, o0 + 2, none⟩ = some (.int .i64 (2 * n)) := g2
        clear g0 g1 g2 HO8
        obtain ⟨k1, k2, k3, k4, k5, k6, k7⟩ := HK.out
        go_wp2_with fail
        go_quiet ((first | (go_at_call 29; exact quiet_same (D4.out _)) | (go_at_call 33; exact quiet_same (D5.out _))))
        clear k1 k2 k3 k4 k5 k6 k7 g0' g1' g2'
        have E9 := Lib.hid (E8.out.drewN nq)
        obtain ⟨w9, hw9⟩ : ∃ w9, w9 = w8.drewN nq := ⟨_, rfl⟩
        rw [← hw9] at E9 ⊢
        clear hw9 D1 D2 D3 D4 D5 E8
        go_wp2_with fail
        refine (CP2.out _).mono ?_
        rintro e w10 ⟨rfl, rfl⟩
        go_wp2_with fail
        refine (CO2.out _).mono ?_
        rintro e w10 ⟨rfl, rfl⟩
        go_wp2_with fail
        refine (CS2.out _).mono ?_
        rintro e w10 ⟨rfl, rfl⟩
        by_cases hsn : s = n
        · subst hsn
          go_wp2_with fail
          refine (CP3.out _).mono ?_
          rintro e w10 ⟨rfl, rfl⟩
          go_wp2_with fail
          go_ret
          exact ⟨rfl, E9.out⟩
        · have hsn2 : (s == n) = false := by simpa using hsn
          go_wp2_with fail
          refine (CP3.out _).mono ?_
          rintro e w10 ⟨rfl, rfl⟩
          go_wp2_with fail
          go_ret
          exact ⟨rfl, E9.out⟩
  · have hz0 := hz0
    have hz1 : z = 0 := by omega
    subst hz1
    have hp0 : p = 0 := by have := CP.out 0; exact HP0.out rfl
    subst hp0
    have hx0 : x = 0 := by omega
    subst hx0
    have hy0 : y = 0 := HY0.out rfl
    subst hy0
    have hr0 : r = 0 := by omega
    subst hr0
    have C1z : Hid (∀ W : World, Calls Try.prog 29 #[.int .i64 n, .int .i64 s, .int .i64 0] W fun e w' => e = .returned (.int .i64 0) ∧ W = w') := fun W => C7.out W
    have C2z : Hid (∀ W : World, Calls Try.prog 33 #[.int .i64 n, .int .i64 s, .int .i64 0] W fun e w' => e = .returned (.int .i64 0) ∧ W = w') := fun W => C2.out W
    have bb4 : decide (2 * n < 0) = false := decide_eq_false (by omega)
    have hn20 : 0 ≤ 2 * n := by omega
    clear C1 C2 C3 C4 C5 HQX hz0 hzb hpx hrx hyb bb1 bb2 bb5 bb7
    have C1 := C1z
    have C2 := C2z
    have C3 := C1z
    have C5 := C2z
    clear C1z C2z
    go_wp2_with fail
    rw [hx']
    clear hx' hc hm0 hm1
    refine (C1.out _).mono ?_
    rintro e w4 ⟨rfl, rfl⟩
    go_wp2_with fail
    refine (C2.out _).mono ?_
    rintro e w4 ⟨rfl, rfl⟩
    go_wp2_with fail
    refine (CO.out _).mono ?_
    rintro e w4 ⟨rfl, rfl⟩
    go_wp2_with fail
    refine (C3.out _).mono ?_
    rintro e w4 ⟨rfl, rfl⟩
    go_wp2_with fail
    refine (C5.out _).mono ?_
    rintro e w4 ⟨rfl, rfl⟩
    go_wp2_with fail
    refine (C6.out _).mono ?_
    rintro e w4 ⟨rfl, rfl⟩
    go_wp2_with fail
    refine (CH.out _).mono ?_
    rintro e w4 ⟨rfl, rfl⟩
    go_wp2_with fail
    refine (C7.out _).mono ?_
    rintro e w4 ⟨rfl, rfl⟩
    go_wp2_with fail
    refine (C8.out _).mono ?_
    rintro e w4 ⟨rfl, rfl⟩
    go_wp2_with fail
    clear C1 C2 C3 C5 C6 C7 C8 CO bb4 HP0 HY0
    go_loop [8] (fun i => ∃ k : Nat, 1 ≤ k ∧ (k : Int) ≤ 2 * n + 1 ∧ i = .int .i64 k) (fun i => (2 * n + 1 - intOf i).toNat)
    case atStart => exact ⟨1, by omega, by omega, rfl⟩
    case round =>
      obtain ⟨k, hk1, hk2, rfl⟩ := hrel
      by_cases hk : (k : Int) ≤ 2 * n
      · have D1 := Lib.hid fun W => CP.out k W (by omega) hk
        have D2 := Lib.hid fun W => CP.out ((k : Int) - 1) W (by omega) (by omega)
        have D3 := Lib.hid fun W => CN2.out k W (by omega) hk
        have hmo := HMO.out k
        obtain ⟨p1, hp1⟩ : ∃ p1, p1 = swp n s k := ⟨_, rfl⟩
        obtain ⟨p0, hp0⟩ : ∃ p0, p0 = swp n s ((k : Int) - 1) := ⟨_, rfl⟩
        rw [← hp1] at D1 hmo
        rw [← hp0] at D2 hmo
        clear hp1 hp0
        go_wp2_with fail
        refine (D1.out _).mono ?_
        rintro e w4 ⟨rfl, rfl⟩
        go_wp2_with fail
        refine (D2.out _).mono ?_
        rintro e w4 ⟨rfl, rfl⟩
        go_wp2_with fail
        refine (D3.out _).mono ?_
        rintro e w4 ⟨rfl, rfl⟩
        go_wp2_with fail
        go_round
        case rel => exact ⟨k + 1, by omega, by omega, by go_num⟩
        case measure => simp [intOf]; omega
      · have hk3 : 2 * n < (k : Int) := by omega
        go_wp2_with fail
        refine (CN.out _ _ (by omega) (by omega) E3.out).mono ?_
        rintro e w5 ⟨d, rfl, hd, he5⟩
        have E5 := Lib.hid (E3.out.trans he5)
        clear he5 E3
        obtain ⟨T, hT⟩ : ∃ T : Int, T = (d : Int) % 5000 := ⟨_, rfl⟩
        have hT1 : 0 ≤ T ∧ T ≤ 4999 := by omega
        have hT' := hT.symm
        clear hT
        have hm0 := Int.emod_nonneg T (show 2 * n ≠ 0 by omega)
        have hm1 := Int.emod_lt_of_pos T (show 0 < 2 * n by omega)
        obtain ⟨r2, hr2⟩ : ∃ r2, r2 = T % (2 * n) := ⟨_, rfl⟩
        obtain ⟨q2, hq2⟩ : ∃ q2, q2 = T / (2 * n) := ⟨_, rfl⟩
        have hq0 : 0 ≤ q2 := by rw [hq2]; exact Int.ediv_nonneg hT1.1 (by omega)
        have hqn : q2 * 2 * n = T - r2 := by rw [hq2, hr2]; exact (qn_eq n T).symm
        have hq3 : q2 ≤ 4999 := by rw [hq2]; exact Int.le_trans (Int.ediv_le_self _ hT1.1) hT1.2
        obtain ⟨pr, hpr⟩ : ∃ pr, pr = swp n s r2 := ⟨_, rfl⟩
        have hprb : 0 ≤ pr ∧ pr ≤ 2 * n := by rw [hpr]; exact swp_bd H.out (by omega) (by omega)
        obtain ⟨zr, hzr⟩ : ∃ zr, zr = leastF n s r2 := ⟨_, rfl⟩
        have hzrb : (zr : Int) ≤ 2 * n := by rw [hzr]; exact (leastF_spec H.out (by omega)).2.1
        obtain ⟨Q, hQ⟩ : ∃ Q, Q = q2 * 2 * n := ⟨_, rfl⟩
        obtain ⟨u, hu⟩ : ∃ u, u = Q + pr := ⟨_, rfl⟩
        obtain ⟨v, hv⟩ : ∃ v : Int, v = Q + zr := ⟨_, rfl⟩
        have D1 : Hid (∀ W : World, Calls Try.prog 31 #[.int .i64 n, .int .i64 s, .int .i64 T] W fun e w' => e = .returned (.int .i64 u) ∧ Ext W w') := fun W => by
          have := CU.out T W hT1.1 (by omega)
          rwa [← hr2, ← hq2, ← hpr, ← hQ, ← hu] at this
        have D2 : Hid (∀ W : World, Calls Try.prog 35 #[.int .i64 n, .int .i64 s, .int .i64 T] W fun e w' => e = .returned (.int .i64 v) ∧ Ext W w') := fun W => by
          have := CV.out T W hT1.1 (by omega)
          rwa [← hr2, ← hq2, ← hzr, ← hQ, ← hv] at this
        have D3 : Hid (∀ (A : Option Addr) (W : World), RdI W A [T, 0, 2 * n] → Calls Try.prog 38 #[.int .i64 n, .int .i64 s, .slice A 3 3] W (RetI W [u, 0, 2 * n])) := fun A W h2 => CL.out T u A W hT1.1 (by omega) (by rw [← hr2, ← hq2, ← hpr, ← hQ, ← hu]) h2
        have D4 : Hid (∀ W : World, Calls Try.prog 29 #[.int .i64 n, .int .i64 s, .int .i64 r2] W fun e w' => e = .returned (.int .i64 pr) ∧ W = w') := fun W => by rw [hpr]; exact CP.out r2 W (by omega) (by omega)
        have D5 : Hid (∀ W : World, Calls Try.prog 33 #[.int .i64 n, .int .i64 s, .int .i64 r2] W fun e w' => e = .returned (.int .i64 zr) ∧ W = w') := fun W => by rw [hzr]; exact CT.out r2 W (by omega) (by omega)
        have k2 : T.tdiv (2 * n) = q2 := by rw [hq2]; exact Int.tdiv_eq_ediv_of_nonneg hT1.1
        have k3 : T.tmod (2 * n) = r2 := by rw [hr2]; exact Int.tmod_eq_emod_of_nonneg hT1.1
        have k1 : wrap64 q2 = q2 := IntWalk.wrap64_in _ (by omega)
        have k4 : wrap64 (q2 * 2) = q2 * 2 := IntWalk.wrap64_in _ (by omega)
        have k5 : wrap64 (q2 * 2 * n) = Q := by rw [hQ]; exact IntWalk.wrap64_in _ (by omega)
        have k6 : wrap64 (Q + pr) = u := by rw [hu]; exact IntWalk.wrap64_in _ (by omega)
        have k7 : wrap64 (Q + zr) = v := by rw [hv]; exact IntWalk.wrap64_in _ (by omega)
        have HK := Lib.hid (And.intro k1 (And.intro k2 (And.intro k3 (And.intro k4 (And.intro k5 (And.intro k6 k7))))))
        clear hr2 hq2 hqn hpr hzr hQ hu hv k1 k2 k3 k4 k5 k6 k7 hm0 hm1 CU CV CL CP CT HMO H hq0 hq3 hprb hzrb
        go_wp2_with fail
        rw [hT']
        clear hT' hd
        refine (D1.out _).mono ?_
        rintro e w6 ⟨rfl, e6⟩
        have E6 := Lib.hid (E5.out.trans e6)
        clear e6
        go_wp2_with fail
        refine (D2.out _).mono ?_
        rintro e w7 ⟨rfl, e7⟩
        have E7 := Lib.hid (E6.out.trans e7)
        clear e7
        go_wp2_with fail
        refine (D3.out (some ⟨w7.heap.size, 0, none⟩) _ (RdI.built w7 [T, 0, 2 * n])).mono ?_
        rintro e w8 ⟨A', c', rfl, ho, he8⟩
        have E8 := Lib.hid ((E7.out.alloc _).trans he8)
        have HO8 := Lib.hid ho
        clear ho he8
        obtain ⟨b0, o0, hA, g0⟩ := HO8.out.rd.at_ 0 (by simp)
        subst hA
        obtain ⟨b1, o1, hA, g1⟩ := HO8.out.rd.at_ 1 (by simp)
        injection hA with hA
        injection hA with hA hB _
        subst hA hB
        obtain ⟨b1, o1, hA, g2⟩ := HO8.out.rd.at_ 2 (by simp)
        injection hA with hA
        injection hA with hA hB _
        subst hA hB
        have g0' : w8.cell? ⟨b0, o0, none⟩ = some (.int .i64 u) := g0
        have g1' : w8.cell? ⟨b0, o0 + 1, none⟩ = some (.int .i64 0) := g1
        have g2' : w8.cell? ⟨b0, o0 + 2, none⟩ = some (.int .i64 (2 * n)) := g2
        clear g0 g1 g2 HO8
        obtain ⟨k1, k2, k3, k4, k5, k6, k7⟩ := HK.out
        go_wp2_with fail
        go_quiet ((first | (go_at_call 29; exact quiet_same (D4.out _)) | (go_at_call 33; exact quiet_same (D5.out _))))
        clear k1 k2 k3 k4 k5 k6 k7 g0' g1' g2'
        have E9 := Lib.hid (E8.out.drewN nq)
        obtain ⟨w9, hw9⟩ : ∃ w9, w9 = w8.drewN nq := ⟨_, rfl⟩
        rw [← hw9] at E9 ⊢
        clear hw9 D1 D2 D3 D4 D5 E8
        go_wp2_with fail
        refine (CP2.out _).mono ?_
        rintro e w10 ⟨rfl, rfl⟩
        go_wp2_with fail
        refine (CO2.out _).mono ?_
        rintro e w10 ⟨rfl, rfl⟩
        go_wp2_with fail
        refine (CS2.out _).mono ?_
        rintro e w10 ⟨rfl, rfl⟩
        by_cases hsn : s = n
        · subst hsn
          go_wp2_with fail
          refine (CP3.out _).mono ?_
          rintro e w10 ⟨rfl, rfl⟩
          go_wp2_with fail
          go_ret
          exact ⟨rfl, E9.out⟩
        · have hsn2 : (s == n) = false := by simpa using hsn
          go_wp2_with fail
          refine (CP3.out _).mono ?_
          rintro e w10 ⟨rfl, rfl⟩
          go_wp2_with fail
          go_ret
          exact ⟨rfl, E9.out⟩
end Go.Proofs.Ytcladodjoneanaa
