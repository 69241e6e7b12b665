/- FnTempo: the law's walk. -/
import Derived.Test.YtoobffhchbgkjaaFtA
import Derived.Deep.CutRange
namespace Go.Proofs.Ytoobffhchbgkjaa
open Go.RowKit

theorem RetTime.out {w w' : World} {t b : Int} {ok : Bool} {e : Ending} (h : RetTime w t b ok e w') : e = .returned (.tuple #[.agg #[.int .i64 t, .int .i64 b], .bool ok]) ∧ Ext w w' := h

theorem ft_nums {C D g : Nat} (hC : C ≤ 12) (hD : D ≤ 12) : ∃ Qn St : Nat, St ≤ 144 ∧ C / g * D = St ∧ (C : Int).tdiv (g : Int) = (Qn : Int) ∧ wrap64 (Qn : Int) = (Qn : Int) ∧ IntKind.i64.wrap (Qn : Int) = (Qn : Int) ∧ wrap64 ((Qn : Int) * (D : Int)) = (St : Int) := by
  obtain ⟨Qn, hQn⟩ : ∃ Q, Q = C / g := ⟨_, rfl⟩
  obtain ⟨St, hSt⟩ : ∃ S, S = Qn * D := ⟨_, rfl⟩
  have hQb : Qn ≤ 12 := by rw [hQn]; exact Nat.le_trans (Nat.div_le_self _ _) hC
  have hSb : St ≤ 144 := by rw [hSt]; exact Nat.mul_le_mul hQb hD
  have k8 : (C : Int).tdiv (g : Int) = (Qn : Int) := by rw [hQn, Int.tdiv_eq_ediv_of_nonneg (Int.natCast_nonneg _)]; simp
  refine ⟨Qn, St, hSb, by rw [← hQn, ← hSt], k8, ?_, ?_, ?_⟩
  · exact IntWalk.wrap64_in _ (by clear k8 hQn hSt; omega)
  · exact IntWalk.i64_in _ (by clear k8 hQn hSt; omega)
  · rw [← Int.natCast_mul, ← hSt]
    exact IntWalk.wrap64_in _ (by clear k8 hQn hSt; omega)

set_option maxRecDepth 100000 in
set_option maxHeartbeats 8000000 in
theorem core_FnTempo (w : World) (A0 : Option Addr) (c0 l0 : Nat) (hl0 : l0 ≤ 1048576)
    (CN : Hid (∀ (m : Int) (W : World), 0 ≤ m → m ≤ 1000 → Ext w W → Calls Try.prog 38 #[.slice A0 l0 c0, .int .i64 m] W (RetNum W)))
    (CT : Hid (∀ (m : Int) (W : World), 0 ≤ m → m ≤ 1000 → Ext w W → Calls Try.prog 37 #[.slice A0 l0 c0, .int .i64 m] W (RetDrawP W))) :
    Calls Try.prog 11 #[.slice A0 l0 c0] w fun e w' => e = .returned (.bool true) ∧ Ext w w' := by
  go_enter Try.func11, Try.ntmps11
  try dsimp only [List.append]
  go_wp2_with fail
  refine (CT.out _ _ (by omega) (by omega) (Ext.refl w)).mono ?_
  rintro e w1 ⟨B, d, ys, rfl, ho, hok, he⟩
  have E1 := Lib.hid he
  have OY := Lib.hid ho
  have HOK := Lib.hid hok
  obtain ⟨l, hl⟩ : ∃ l, l = ys.length := ⟨_, rfl⟩
  obtain ⟨n, hn⟩ : ∃ n, n = beatsF ys := ⟨_, rfl⟩
  have hps := hok.passes
  have htb := hok.ok
  have hnb := hok.beats
  rw [← hn] at hnb
  have hl4 : 1 ≤ l ∧ l ≤ 4 := by rw [hl]; exact hok.1
  have D1 : Hid (∀ V : World, Ext w1 V → Calls Try.prog 18 #[.slice B l d] V fun e w' => e = .returned (.int .i64 n) ∧ Ext V w') := fun V h => by
    have h1 := ctI_any B d ys V (OY.out.ext h).rd (by omega)
    rwa [show ctF ys = n by unfold ctF; rw [if_pos htb, hn], ← hl] at h1
  have D2 : Hid (∀ V : World, Ext w1 V → Calls Try.prog 15 #[.slice B l d] V fun e w' => e = .returned (.bool true) ∧ Ext V w') := fun V h => by
    have h1 := tempoI_any B d ys V (OY.out.ext h).rd (by omega)
    rwa [htb, ← hl] at h1
  have D3 : Hid (∀ (k : Int) (V : World), 0 ≤ k → k ≤ n → Ext w1 V → Calls Try.prog 30 #[.slice B l d, .int .i64 k] V (RetTime V (topF (50 * unitsF ys k)) (botF (50 * unitsF ys k)) true)) := fun k V h0 h2 h => by
    have h1 := toI_any B d ys k V (OY.out.ext h).rd (by omega)
    have h3 : toOk ys k = true := by unfold toOk; rw [htb, inB_iff.2 (by omega)]; rfl
    have h4 : toT ys k = topF (50 * unitsF ys k) := by unfold toT; rw [if_pos h3]
    have h5 : toBt ys k = botF (50 * unitsF ys k) := by unfold toBt; rw [if_pos h3]
    rwa [h3, h4, h5, ← hl] at h1
  have D4 : Hid (∀ (t : Int) (V : World), Ext w1 V → Calls Try.prog 28 #[.slice B l d, .int .i64 t] V fun e w' => e = .returned (.int .i64 (beF ys t)) ∧ Ext V w') := fun t V h => by
    have h1 := beI_any B d ys t V (OY.out.ext h).rd (by omega)
    rwa [← hl] at h1
  have D5 : Hid (∀ (k : Int) (V : World), Ext w1 V → Calls Try.prog 24 #[.slice B l d, .int .i64 k] V (RetPPB V (spF1 ys k) (spF2 ys k) (spB ys k))) := fun k V h => by
    have h1 := spI_any B d ys k V (OY.out.ext h).rd (by omega)
    rwa [← hl] at h1
  have D6 : Hid (∀ (V : World), Ext w1 V → Calls Try.prog 20 #[.slice B l d, .int .i64 2] V (RetP0B V (scF ys 2) (scB ys 2))) := fun V h => by
    have h1 := scI_any B d ys 2 V (OY.out.ext h).rd (by omega)
    rwa [← hl] at h1
  have D7 : Hid (∀ (B2 : Option Addr) (d2 : Nat) (V : World), Ext w1 V → RdP V B2 ys.reverse → Calls Try.prog 26 #[.slice B l d, .slice B2 l d2] V fun e w' => e = .returned (.bool true) ∧ Ext V w') := fun B2 d2 V h h2 => by
    have h1 := smI_any B d ys B2 d2 ys.reverse V (OY.out.ext h).rd (by omega) h2 (by rw [List.length_reverse]; omega)
    rwa [sm_rev hok, List.length_reverse, ← hl] at h1
  have DR : Hid (∀ (u : Int) (V : World), 0 ≤ u → u ≤ 1000000000000 → Calls Try.prog 39 #[.agg #[.int .i64 (topF u), .int .i64 (botF u)]] V fun e w' => e = .returned (.bool true) ∧ Ext V w') := fun u V h0 h1 => by
    have h2 := ratioI_any (topF u) (botF u) V
    rwa [ratB_top h0 h1] at h2
  have hU : ∀ k, 0 ≤ k → 0 ≤ 50 * unitsF ys k ∧ 50 * unitsF ys k ≤ 36000000 := fun k hk => by
    have := unitsF_bd hps k hk
    omega
  rw [← hl]
  have HL := Lib.hid hl
  have HN := Lib.hid hn
  -- the whole time
  obtain ⟨T1, hT1⟩ : ∃ T, T = topF (50 * unitsF ys n) := ⟨_, rfl⟩
  obtain ⟨B1, hB1⟩ : ∃ T, T = botF (50 * unitsF ys n) := ⟨_, rfl⟩
  have hu1 := hU n (by omega)
  have hF1 : Frac (50 * unitsF ys n) T1 B1 := by rw [hT1, hB1]; exact frac_of hu1.1
  have D3n : Hid (∀ V : World, Ext w1 V → Calls Try.prog 30 #[.slice B l d, .int .i64 n] V (RetTime V T1 B1 true)) := fun V h => by
    rw [hT1, hB1]; exact D3.out n V (by omega) (Int.le_refl _) h
  have DR1 : Hid (∀ V : World, Calls Try.prog 39 #[.agg #[.int .i64 T1, .int .i64 B1]] V fun e w' => e = .returned (.bool true) ∧ Ext V w') := fun V => by
    rw [hT1, hB1]; exact DR.out _ V hu1.1 (by omega)
  have hb1 : (0 ≤ T1 ∧ T1 ≤ 36000000) ∧ (1 ≤ B1 ∧ B1 ≤ 3) := ⟨⟨hF1.nn, by have := hF1.le; omega⟩, hF1.lo, hF1.hi⟩
  have HF1 := Lib.hid hF1
  have HU := Lib.hid hU
  clear he ho hl hn hps htb hT1 hB1 hF1 hU hu1 CT hok
  go_wp2_with fail
  refine (D1.out _ (Ext.refl _)).mono ?_
  rintro e w2 ⟨rfl, e2⟩
  have X2 := Lib.hid e2
  clear e2
  go_wp2_with fail
  refine (D2.out _ X2.out).mono ?_
  rintro e w3 ⟨rfl, e3⟩
  have X3 := Lib.hid (X2.out.trans e3)
  clear e3 X2
  go_wp2_with fail
  refine (D3n.out _ X3.out).mono ?_
  intro e w4 hret
  obtain ⟨rfl, e4⟩ := hret.out
  have X4 := Lib.hid ((X3.out.trans e4).alloc (.cells #[.int .i64 T1, .int .i64 B1] 38))
  have HB4 := Lib.hid (Blk2.new w4 38 (.int .i64 T1) (.int .i64 B1))
  clear e4 hret X3
  go_wp2_with fail
  refine (CN.out _ _ (by omega) (by omega) (E1.out.trans X4.out)).mono ?_
  rintro e w5 ⟨a, rfl, ha, e5⟩
  have X5 := Lib.hid (X4.out.trans e5)
  have HB5 := Lib.hid (HB4.out.ext e5)
  obtain ⟨K, hK⟩ : ∃ K, K = (a : Int) % (n + 1) := ⟨_, rfl⟩
  have hKb : 0 ≤ K ∧ K ≤ n := by
    have h1 := Int.emod_nonneg (a : Int) (show n + 1 ≠ 0 by omega)
    have h2 := Int.emod_lt_of_pos (a : Int) (show 0 < n + 1 by omega)
    omega
  have HK := Lib.hid hK
  clear e5 X4 HB4 hK
  go_wp2_with fail
  try rw [← HK.out]
  clear ha HK
  obtain ⟨T2, hT2⟩ : ∃ T, T = topF (50 * unitsF ys K) := ⟨_, rfl⟩
  obtain ⟨B2, hB2⟩ : ∃ T, T = botF (50 * unitsF ys K) := ⟨_, rfl⟩
  have hu2 := HU.out K (by omega)
  have hF2 : Frac (50 * unitsF ys K) T2 B2 := by rw [hT2, hB2]; exact frac_of hu2.1
  have D3k : Hid (∀ V : World, Ext w1 V → Calls Try.prog 30 #[.slice B l d, .int .i64 K] V (RetTime V T2 B2 true)) := fun V h => by
    rw [hT2, hB2]; exact D3.out K V (by omega) (by omega) h
  have DR2 : Hid (∀ V : World, Calls Try.prog 39 #[.agg #[.int .i64 T2, .int .i64 B2]] V fun e w' => e = .returned (.bool true) ∧ Ext V w') := fun V => by
    rw [hT2, hB2]; exact DR.out _ V hu2.1 (by omega)
  have hb2 : (0 ≤ T2 ∧ T2 ≤ 36000000) ∧ (1 ≤ B2 ∧ B2 ≤ 3) := ⟨⟨hF2.nn, by have := hF2.le; omega⟩, hF2.lo, hF2.hi⟩
  have hup := hF2.up
  have hge := beF_ge (t := (T2 + B2 - 1) / B2) (k := K) HOK.out.passes HOK.out.ok (by omega) (by rw [← HN.out]; omega) hup.1
  have hge2 := beF_up (t := (T2 + B2 - 1) / B2) HOK.out.passes HOK.out.ok (by omega)
  rw [← HN.out] at hge2
  obtain ⟨b1, hbe1⟩ : ∃ b, b = beF ys ((T2 + B2 - 1) / B2) := ⟨_, rfl⟩
  have D4a : Hid (∀ (t : Int) (V : World), t = (T2 + B2 - 1) / B2 → Ext w1 V → Calls Try.prog 28 #[.slice B l d, .int .i64 t] V fun e w' => e = .returned (.int .i64 b1) ∧ Ext V w') := fun t V ht h => by
    rw [hbe1, ht]; exact D4.out _ V h
  rw [← hbe1] at hge hge2
  have DLT : Hid (0 < K → ∃ b2, (0 ≤ b2 ∧ b2 < K) ∧ ∀ (t : Int) (V : World), t = (T2 - 1) / B2 → Ext w1 V → Calls Try.prog 28 #[.slice B l d, .int .i64 t] V fun e w' => e = .returned (.int .i64 b2) ∧ Ext V w') := fun hk => by
    have hpos := units_pos (xs := ys) HOK.out.passes (by rw [← HL.out]; omega) (b := K) (by omega)
    have hdn := hF2.down (by omega)
    have h1 := beF_lt (t := (T2 - 1) / B2) (k := K) HOK.out.passes HOK.out.ok (by omega) hdn.2.1
    have h2 := beF_up (t := (T2 - 1) / B2) HOK.out.passes HOK.out.ok (by omega)
    exact ⟨_, ⟨h2.1, h1⟩, fun t V ht h => by rw [ht]; exact D4.out _ V h⟩
  have HPT : Hid (0 < K → 1 ≤ T2) := fun hk => by
    have hpos := units_pos (xs := ys) HOK.out.passes (by rw [← HL.out]; omega) (b := K) (by omega)
    exact (hF2.down (by omega)).1
  have HF2 := Lib.hid hF2
  have HT2 := Lib.hid hT2
  have HB2 := Lib.hid hB2
  clear hT2 hB2 hu2 hF2 hup hbe1
  refine (D3k.out _ X5.out).mono ?_
  intro e w6 hret
  obtain ⟨rfl, e6⟩ := hret.out
  have X6 := Lib.hid ((X5.out.trans e6).alloc (.cells #[.int .i64 T2, .int .i64 B2] 38))
  have HB6 := Lib.hid (Blk2.ext HB5.out (e6.alloc (.cells #[.int .i64 T2, .int .i64 B2] 38)))
  have HC6 := Lib.hid (Blk2.new w6 38 (.int .i64 T2) (.int .i64 B2))
  clear e6 hret X5 HB5
  obtain ⟨V6, hV6⟩ : ∃ V, V = w6.alloc (.cells #[.int .i64 T2, .int .i64 B2] 38) := ⟨_, rfl⟩
  rw [← hV6] at X6 HB6 HC6
  have HV6 := Lib.hid hV6
  clear hV6
  go_upto_region 10 with fail
  try rw [← HV6.out]
  go_cut [113] from 62 to 113 (fun s113 wx => s113 = .bool false ∧ Hid (Ext V6 wx))
  case first =>
    have hT0 : decide (T2 < 0) = false := decide_eq_false (by omega)
    have hbK : decide (b1 < K) = false := decide_eq_false (by omega)
    have h3 := HF2.out.three
    obtain ⟨q0, q1, _, _⟩ := HB6.out.cells
    go_wp2_with fail
    refine (DR1.out _).mono ?_
    rintro e v1 ⟨rfl, f1⟩
    have Y1 := Lib.hid f1
    have HC7 := Lib.hid (HC6.out.ext f1)
    clear f1 q0 q1
    obtain ⟨q0, q1, _, _⟩ := HC7.out.cells
    go_wp2_with fail
    refine (DR2.out _).mono ?_
    rintro e v2 ⟨rfl, f2⟩
    have Y2 := Lib.hid (Y1.out.trans f2)
    have HC8 := Lib.hid (HC7.out.ext f2)
    clear f2 q0 q1
    rcases h3 with h3 | h3 | h3 <;> subst h3
    all_goals
      obtain ⟨q0, q1, _, _⟩ := HC8.out.cells
      go_wp2_with fail
      refine (D4a.out _ _ (by first | rfl | omega) (X6.out.trans Y2.out)).mono ?_
      rintro e v3 ⟨rfl, f3⟩
      have Y3 := Lib.hid (Y2.out.trans f3)
      have HC9 := Lib.hid (HC8.out.ext f3)
      clear f3 q0 q1
      obtain ⟨q0, q1, _, _⟩ := HC9.out.cells
      by_cases hk : 0 < K
      · obtain ⟨b2, hb2b, D4b⟩ := DLT.out hk
        have hT2 := HPT.out hk
        have D4b' := Lib.hid D4b
        have hbK2 : decide (K ≤ b2) = false := decide_eq_false (by omega)
        clear D4b
        go_wp2_with fail
        refine (D4b'.out _ _ (by first | rfl | omega) (X6.out.trans Y3.out)).mono ?_
        rintro e v4 ⟨rfl, f4⟩
        have Y4 := Lib.hid (Y3.out.trans f4)
        clear f4
        go_wp2_with fail
        go_meet
        exact ⟨rfl, Y4⟩
      · go_wp2_with fail
        go_meet
        exact ⟨rfl, Y3⟩
  case rest =>
    obtain ⟨rfl, HX⟩ := hcut
    have HB7 := Lib.hid (HB6.out.ext HX.out)
    have HC7 := Lib.hid (HC6.out.ext HX.out)
    have X7 := Lib.hid (X6.out.trans HX.out)
    clear HX HB6 HC6 X6 HV6 D4a DR1 DR2 DLT HPT hge hge2 D3n D3k D1 D2
    go_wp2_with fail
    refine (D5.out K _ X7.out).mono ?_
    rintro e w8 ⟨v0, v1, L0, U0, L1, U1, rfl, o0, o1, _, e8⟩
    obtain ⟨A2, c2, rfl, r2⟩ := o0.rd
    obtain ⟨A3, c3, rfl, r3⟩ := o1.rd
    have X8 := Lib.hid (X7.out.trans e8)
    have HB8 := Lib.hid (HB7.out.ext e8)
    have HC8 := Lib.hid (HC7.out.ext e8)
    have R2 := Lib.hid r2
    have R3 := Lib.hid r3
    have hsp : spB ys K = (decide (0 < K) && decide (K < n)) := by rw [spB_eq HOK.out, HN.out]
    rw [hsp]
    obtain ⟨n2, hn2⟩ : ∃ m, m = (spF1 ys K).length := ⟨_, rfl⟩
    obtain ⟨n3, hn3⟩ : ∃ m, m = (spF2 ys K).length := ⟨_, rfl⟩
    rw [← hn2, ← hn3]
    have HN2 := Lib.hid hn2
    have HN3 := Lib.hid hn3
    clear e8 o0 o1 r2 r3 hsp hn2 hn3 X7 HB7 HC7 D5
    obtain ⟨sp, hsp⟩ : ∃ sp, sp = (decide (0 < K) && decide (K < n)) := ⟨_, rfl⟩
    have HSP := Lib.hid hsp
    rw [← hsp]
    clear hsp
    go_upto_region 13 with fail
    go_cut [129] from 121 to 129 (fun s129 wx => s129 = .bool false ∧ wx = w8)
    case first =>
      by_cases hk : 0 < K
      · by_cases hk2 : K < n
        · have hs : sp = true := by rw [HSP.out, decide_eq_true hk, decide_eq_true hk2]; rfl
          subst hs
          go_wp2_with fail
          go_meet
          exact ⟨rfl, rfl⟩
        · have hs : sp = false := by rw [HSP.out, decide_eq_false hk2, Bool.and_false]
          subst hs
          go_wp2_with fail
          go_meet
          exact ⟨rfl, rfl⟩
      · have hs : sp = false := by rw [HSP.out, decide_eq_false hk]; rfl
        subst hs
        go_wp2_with fail
        go_meet
        exact ⟨rfl, rfl⟩
    case rest =>
      obtain ⟨rfl, hwc⟩ := hcut
      have hwc := hwc.symm
      subst hwc
      go_upto_if 130 with fail
      go_cut [] from 131 to 183 (fun wx => Hid (Ext w8 wx))
      case first =>
        cases sp with
        | false =>
          go_wp2_with fail
          go_meet
          exact Ext.refl _
        | true =>
          have hk : 0 < K ∧ K < n := by
            have h1 := HSP.out.symm
            rw [Bool.and_eq_true, decide_eq_true_eq, decide_eq_true_eq] at h1
            exact h1
          have hf := split_facts HOK.out hk.1 (by rw [← HN.out]; exact hk.2)
          rw [← HN.out] at hf
          obtain ⟨⟨t1, t2, t3⟩, l2, ⟨t4, t5, t6⟩, l3, hV0⟩ := hf
          obtain ⟨T3, hT3⟩ : ∃ T, T = topF (50 * (unitsF ys n - unitsF ys K)) := ⟨_, rfl⟩
          obtain ⟨B3, hB3⟩ : ∃ T, T = botF (50 * (unitsF ys n - unitsF ys K)) := ⟨_, rfl⟩
          have hF3 : Frac (50 * (unitsF ys n - unitsF ys K)) T3 B3 := by rw [hT3, hB3]; exact frac_of (by omega)
          have hu1 := HU.out n (by omega)
          have hu2 := HU.out K (by omega)
          have hsum := Frac.sum HF2.out hF3 HF1.out (by omega)
          have hb3 : (0 ≤ T3 ∧ T3 ≤ 36000000) ∧ (1 ≤ B3 ∧ B3 ≤ 3) := ⟨⟨hF3.nn, by have := hF3.le; omega⟩, hF3.lo, hF3.hi⟩
          have D9 : Hid (∀ V : World, Ext w8 V → Calls Try.prog 30 #[.slice A2 n2 c2, .int .i64 K] V (RetTime V T2 B2 true)) := fun V h => by
            have h1 := toI_any A2 c2 (spF1 ys K) K V (R2.out.ext h) (by omega)
            rwa [t1, t2, t3, ← HT2.out, ← HB2.out, ← HN2.out] at h1
          have D10 : Hid (∀ V : World, Ext w8 V → Calls Try.prog 30 #[.slice A3 n3 c3, .int .i64 (n - K)] V (RetTime V T3 B3 true)) := fun V h => by
            have h1 := toI_any A3 c3 (spF2 ys K) (n - K) V (R3.out.ext h) (by omega)
            rwa [t4, t5, t6, ← hT3, ← hB3, ← HN3.out] at h1
          have m1 := mul3 hb2.1.1 hb2.1.2 hb3.2.1 hb3.2.2
          have m2 := mul3 m1.1 m1.2 hb1.2.1 hb1.2.2
          have m3 := mul3 hb3.1.1 hb3.1.2 hb2.2.1 hb2.2.2
          have m4 := mul3 m3.1 m3.2 hb1.2.1 hb1.2.2
          have m5 := mul3 hb1.1.1 hb1.1.2 hb2.2.1 hb2.2.2
          have m6 := mul3 m5.1 m5.2 hb3.2.1 hb3.2.2
          have hne : (T2 * B3 * B1 + T3 * B2 * B1 != T1 * B2 * B3) = false := by simp [hsum]
          clear t1 t2 t3 l2 t4 t5 t6 l3 hV0 hT3 hB3 hF3 hu1 hu2 hsum
          go_wp2_with fail
          refine (D9.out _ (Ext.refl _)).mono ?_
          intro e v1 hret
          obtain ⟨rfl, f1⟩ := hret.out
          have Y1 : Hid (Ext w8 (v1.alloc (.cells #[.int .i64 T2, .int .i64 B2] 38))) := f1.alloc _
          have HD1 := Lib.hid (Blk2.new v1 38 (.int .i64 T2) (.int .i64 B2))
          clear f1 hret
          go_wp2_with fail
          refine (D10.out _ Y1.out).mono ?_
          intro e v2 hret
          obtain ⟨rfl, f2⟩ := hret.out
          have Y2 : Hid (Ext w8 (v2.alloc (.cells #[.int .i64 T3, .int .i64 B3] 38))) := (Y1.out.trans f2).alloc _
          have HE2 := Lib.hid (Blk2.new v2 38 (.int .i64 T3) (.int .i64 B3))
          have HD2 : Hid (Blk2 (v2.alloc (.cells #[.int .i64 T3, .int .i64 B3] 38)) _ _ _ _) := HD1.out.ext (f2.alloc (.cells #[.int .i64 T3, .int .i64 B3] 38))
          have HB9 := Lib.hid (HB8.out.ext Y2.out)
          have HC9 := Lib.hid (HC8.out.ext Y2.out)
          clear f2 hret HD1 Y1
          obtain ⟨a0, a1, _, _⟩ := HB9.out.cells
          obtain ⟨b0, b4, _, _⟩ := HC9.out.cells
          obtain ⟨d0, d1, _, _⟩ := HD2.out.cells
          obtain ⟨e0, e1, _, _⟩ := HE2.out.cells
          go_wp2_with fail
          go_meet
          exact Y2
      case rest =>
        have X9 := Lib.hid (X8.out.trans hcut.out)
        have HB9 := Lib.hid (HB8.out.ext hcut.out)
        obtain ⟨w9, hw9⟩ : ∃ w9, w9 = wc := ⟨_, rfl⟩
        rw [← hw9] at X9 HB9 ⊢
        clear hcut hw9 HC8 HB8 R2 R3 HN2 HN3 HSP X8 D3 D4
        go_wp2_with fail
        go_loopw [17, 187] (fun v i wr => ∃ (k : Nat) (A' : Option Addr) (c' : Nat), k ≤ l ∧ i = .int .i64 k ∧ v = .slice A' k c' ∧ Hid (A' ≠ none) ∧ Hid (OwP wr w9.heap.size A' c' (ys.take k).reverse) ∧ Hid (Ext w9 wr)) (fun _ i _ => l - (intOf i).toNat)
        case atStart => exact ⟨0, _, 0, Nat.zero_le _, rfl, rfl, by simp [Hid], OwP.empty w9, (Ext.refl _).alloc _⟩
        case round =>
          obtain ⟨k, A', c', hk, rfl, rfl, HNN, HO, HE⟩ := hrel
          by_cases hlt : k < l
          · have hkx : k < ys.length := by rw [← HL.out]; exact hlt
            obtain ⟨b, o, hA, hc, hc2⟩ := (OY.out.ext (X9.out.trans HE.out)).rd.at_ k hkx
            subst hA
            obtain ⟨⟨x, y⟩, hx⟩ : ∃ x, x = ys.getD k (0, 0) := ⟨_, rfl⟩
            rw [← hx] at hc hc2
            simp only [] at hc hc2
            have HRV : Hid ((ys.take (k + 1)).reverse = (x, y) :: (ys.take k).reverse) := by rw [take_snocP ys k hkx, List.reverse_append, ← hx]; exact rfl
            have HRL : Hid ((ys.take k).reverse.length = k) := by rw [List.length_reverse, List.length_take]; exact (by omega : min k ys.length = k)
            clear hx hkx
            go_wp2_with (at_builtin; refine app_pairs w9 _ rfl _ _ rfl _ _ A' c' k _ _ rfl rfl (by simp) HRL.out (HO.out.ext ((Ext.refl _).alloc _)).rd HNN.out (HE.out.alloc _) (by omega) ?_; intro A4 c4 w2 h1 h2 h3; have HO2 := Lib.hid h1; have HE2 := Lib.hid h2; have HN4 := Lib.hid h3; clear h1 h2 h3)
            go_roundw
            case rel => exact ⟨k + 1, A4, c4, by omega, by go_num, rfl, HN4, by rw [HRV.out]; exact HO2, HE2⟩
            case measure => simp [intOf]; omega
          · obtain rfl : k = l := by omega
            have ho := HO.out
            rw [take_allP ys k HL.out] at ho
            have HO9 := Lib.hid ho
            have X10 := Lib.hid (X9.out.trans HE.out)
            have HB10 := Lib.hid (HB9.out.ext HE.out)
            obtain ⟨w10, hw10⟩ : ∃ w10, w10 = wr := ⟨_, rfl⟩
            rw [← hw10] at X10 HB10 HO9 ⊢
            clear ho HO HNN HE hw10 X9 HB9
            go_wp2_with fail
            refine (D6.out _ X10.out).mono ?_
            rintro e w11 ⟨A5, c5, rfl, o5, e11⟩
            have X11 := Lib.hid (X10.out.trans e11)
            have HB11 := Lib.hid (HB10.out.ext e11)
            have HO11 := Lib.hid (HO9.out.ext e11)
            have O5 := Lib.hid o5
            obtain ⟨sc, hsc⟩ : ∃ sc, sc = scB ys 2 := ⟨_, rfl⟩
            obtain ⟨n5, hn5⟩ : ∃ m, m = (scF ys 2).length := ⟨_, rfl⟩
            rw [← hsc, ← hn5]
            have HSC := Lib.hid hsc
            have HN5 := Lib.hid hn5
            clear e11 o5 X10 HB10 HO9 hsc hn5
            go_upto_if 201 with fail
            go_cut [] from 202 to 223 (fun wx => Hid (Ext w11 wx))
            case first =>
              cases sc with
              | false =>
                go_wp2_with fail
                go_meet
                exact Ext.refl _
              | true =>
                obtain ⟨U, hU0, ⟨t1, t2, t3⟩, hlen, h2⟩ := scale_time HOK.out HSC.out.symm
                rw [← HN.out] at t1 t2 t3 h2
                obtain ⟨T4, hT4⟩ : ∃ T, T = topF (50 * U) := ⟨_, rfl⟩
                obtain ⟨B4, hB4⟩ : ∃ T, T = botF (50 * U) := ⟨_, rfl⟩
                have hF4 : Frac (50 * U) T4 B4 := by rw [hT4, hB4]; exact frac_of (by omega)
                have hu1 := HU.out n (by omega)
                have htw := Frac.twice hF4 HF1.out (by omega)
                have hb4 : (0 ≤ T4 ∧ T4 ≤ 36000000) ∧ (1 ≤ B4 ∧ B4 ≤ 3) := ⟨⟨hF4.nn, by have := hF4.le; omega⟩, hF4.lo, hF4.hi⟩
                have D11 : Hid (∀ V : World, Ext w11 V → Calls Try.prog 30 #[.slice A5 n5 c5, .int .i64 n] V (RetTime V T4 B4 true)) := fun V h => by
                  have h1 := toI_any A5 c5 (scF ys 2) n V (O5.out.ext h).rd (by rw [hlen]; have := HL.out; omega)
                  rwa [t1, t2, t3, ← hT4, ← hB4, ← HN5.out] at h1
                have m1 := mul3 (T := 2 * T4) (M := 72000000) (by omega) (by omega) hb1.2.1 hb1.2.2
                have m2 := mul3 hb1.1.1 hb1.1.2 hb4.2.1 hb4.2.2
                have hne : (2 * T4 * B1 != T1 * B4) = false := by simp [htw]
                clear t1 t2 t3 hlen h2 hT4 hB4 hF4 hu1 htw hU0
                go_wp2_with fail
                refine (D11.out _ (Ext.refl _)).mono ?_
                intro e v1 hret
                obtain ⟨rfl, f1⟩ := hret.out
                have Y1 : Hid (Ext w11 (v1.alloc (.cells #[.int .i64 T4, .int .i64 B4] 38))) := f1.alloc _
                have HD1 := Lib.hid (Blk2.new v1 38 (.int .i64 T4) (.int .i64 B4))
                have HB12 := Lib.hid (HB11.out.ext Y1.out)
                clear f1 hret
                obtain ⟨a0, a1, _, _⟩ := HB12.out.cells
                obtain ⟨d0, d1, _, _⟩ := HD1.out.cells
                go_wp2_with fail
                go_meet
                exact Y1
            case rest =>
              have X12 := Lib.hid (X11.out.trans hcut.out)
              have HO12 := Lib.hid (HO11.out.ext hcut.out)
              obtain ⟨w12, hw12⟩ : ∃ w12, w12 = wc := ⟨_, rfl⟩
              rw [← hw12] at X12 HO12 ⊢
              clear hcut hw12 HB11 HO11 X11 HSC HN5 O5 D6 HU HF1 HF2 HT2 HB2 hb1 hb2
              go_wp2_with fail
              refine (CN.out _ _ (by omega) (by omega) (E1.out.trans X12.out)).mono ?_
              rintro e v1 ⟨a1, rfl, ha1, f1⟩
              have Y1 := Lib.hid f1
              clear f1
              go_wp2_with fail
              refine (CN.out _ _ (by omega) (by omega) (E1.out.trans (X12.out.trans Y1.out))).mono ?_
              rintro e v2 ⟨a2, rfl, ha2, f2⟩
              have Y2 := Lib.hid (Y1.out.trans f2)
              clear f2 Y1
              go_wp2_with fail
              refine (CN.out _ _ (by omega) (by omega) (E1.out.trans (X12.out.trans Y2.out))).mono ?_
              rintro e v3 ⟨a3, rfl, ha3, f3⟩
              have Y3 := Lib.hid (Y2.out.trans f3)
              clear f3 Y2
              go_wp2_with fail
              refine (CN.out _ _ (by omega) (by omega) (E1.out.trans (X12.out.trans Y3.out))).mono ?_
              rintro e v4 ⟨a4, rfl, ha4, f4⟩
              have Y4 := Lib.hid (Y3.out.trans f4)
              clear f4 Y3
              obtain ⟨C, hC⟩ : ∃ C : Nat, C = 1 + a1 % 12 := ⟨_, rfl⟩
              obtain ⟨D, hD⟩ : ∃ D : Nat, D = 1 + a2 % 12 := ⟨_, rfl⟩
              obtain ⟨E, hE⟩ : ∃ E : Nat, E = a3 % 12 := ⟨_, rfl⟩
              obtain ⟨F, hF⟩ : ∃ F : Nat, F = a4 % 12 := ⟨_, rfl⟩
              have hC' : (1 : Int) + (a1 : Int) % 12 = C := by omega
              have hD' : (1 : Int) + (a2 : Int) % 12 = D := by omega
              have hE' : (a3 : Int) % 12 = E := by omega
              have hF' : (a4 : Int) % 12 = F := by omega
              have hCb : 1 ≤ C ∧ C ≤ 12 := by omega
              have hDb : 1 ≤ D ∧ D ≤ 12 := by omega
              have hEb : E < 12 := by omega
              have hFb : F < 12 := by omega
              clear hC hD hE hF
              go_wp2_with fail
              try rw [hC']
              try rw [hD']
              try rw [hE']
              try rw [hF']
              clear hC' hD' hE' hF' ha1 ha2 ha3 ha4
              obtain ⟨M, hM⟩ : ∃ M, M = meetL (C : Int) D F 300 20001 E := ⟨_, rfl⟩
              obtain ⟨L, hL⟩ : ∃ L, L = M.length := ⟨_, rfl⟩
              have CMT : Hid (∀ V : World, Calls Try.prog 33 #[.int .i64 C, .int .i64 E, .int .i64 D, .int .i64 F, .int .i64 300] V (RetI V M)) := fun V => by
                have h1 := meetI_any (C : Int) E D F 300 V
                have h2 : meetF (C : Int) E D F 300 = M := by
                  unfold meetF
                  have h3 : meetB (C : Int) E D F 300 = true := by
                    unfold meetB
                    rw [inB_iff.2 (by omega), inB_iff.2 (by omega), inB_iff.2 (by omega), inB_iff.2 (by omega), inB_iff.2 (by omega)]
                    rfl
                  rw [if_pos h3, hM]
                rwa [h2] at h1
              have hL2 : L ≤ 20001 := by rw [hL, hM]; exact meetL_len _ _ _ _ _ _
              obtain ⟨g, hg⟩ : ∃ g, g = Nat.gcd C D := ⟨_, rfl⟩
              have hgb : 1 ≤ g ∧ g ≤ 12 := by
                rw [hg]
                exact ⟨Nat.gcd_pos_of_pos_left _ (by omega), Nat.le_trans (Nat.gcd_le_left _ (by omega)) hCb.2⟩
              have CG : Hid (∀ V : World, Calls Try.prog 40 #[.int .i64 C, .int .i64 D] V fun e w' => e = .returned (.int .i64 g) ∧ V = w') := fun V => by
                rw [hg]; exact gcdL_any C D V (by omega) (by omega)
              have HM := Lib.hid hM
              have HLL := Lib.hid hL
              have HG := Lib.hid hg
              clear hM hL hg
              refine (CMT.out _).mono ?_
              rintro e v5 ⟨AM, cM, rfl, oM, f5⟩
              have Y5 := Lib.hid (Y4.out.trans f5)
              have OM := Lib.hid oM
              rw [← HLL.out]
              clear oM f5 Y4 CMT
              go_wp2_with fail
              go_loopw [245] (fun i wr => ∃ k : Nat, k ≤ L ∧ i = .int .i64 k ∧ Hid (Ext v5 wr)) (fun i _ => L - (intOf i).toNat)
              case atStart => exact ⟨0, Nat.zero_le _, rfl, Ext.refl _⟩
              case round =>
                obtain ⟨q, hq, rfl, HE⟩ := hrel
                by_cases hlt2 : q < L
                · have hqm : q < M.length := by rw [← HLL.out]; exact hlt2
                  obtain ⟨bm, om, hAM, hc⟩ := (OM.out.ext HE.out).rd.at_ q hqm
                  subst hAM
                  obtain ⟨j, hj, g1, g2, g3⟩ := meet_mem 20001 (E : Int) _ (by have := getD_mem M q 0 hqm; rw [HM.out] at this; exact this)
                  rw [← HM.out] at hj g1 g2 g3
                  have hprev : 0 < q → ∃ p, wr.cell? ⟨bm, om + (q - 1), none⟩ = some (.int .i64 p) ∧ M.getD q 0 - p = ((C / g * D : Nat) : Int) := fun h0 => by
                    obtain ⟨b', o', e', hc'⟩ := (OM.out.ext HE.out).rd.at_ (q - 1) (by omega)
                    injection e' with e'
                    injection e' with e1 e2 _
                    subst e1 e2
                    refine ⟨_, hc', ?_⟩
                    have h1 := meet_step (c := C) (d := D) (g := g) (e := E) (f := F) (i := q - 1) hCb.1 hDb.1 HG.out (by rw [← HM.out]; omega) (by omega)
                    rw [← HM.out, show q - 1 + 1 = q by omega] at h1
                    exact h1
                  obtain ⟨t, ht⟩ : ∃ t, t = M.getD q 0 := ⟨_, rfl⟩
                  rw [← ht] at hc hj g1 g2 g3 hprev
                  have hjC : 0 ≤ (j : Int) * C := Int.mul_nonneg (by omega) (by omega)
                  have h1 : decide (t < (E : Int)) = false := decide_eq_false (by omega)
                  have h2 : decide (t < (F : Int)) = false := decide_eq_false (by omega)
                  have k1 : wrap64 (t - (E : Int)) = t - E := IntWalk.wrap64_in _ (by omega)
                  have k2 : wrap64 (t - (F : Int)) = t - F := IntWalk.wrap64_in _ (by omega)
                  have k3 : (t - (E : Int)).tmod C = 0 := by
                    rw [Int.tmod_eq_emod_of_nonneg (by omega), show t - (E : Int) = (j : Int) * C by omega]
                    exact Int.mul_emod_left _ _
                  have k4 : (t - (F : Int)).tmod D = 0 := by rw [Int.tmod_eq_emod_of_nonneg (by omega)]; exact g3
                  have k5 : ¬ C = 0 := by omega
                  have k6 : ¬ D = 0 := by omega
                  have htb : 0 ≤ t ∧ t ≤ 300 := by omega
                  clear hj g1 g2 g3 hjC ht hqm
                  by_cases h0 : 0 < q
                  · obtain ⟨p, hcp, hst⟩ := hprev h0
                    obtain ⟨Qn, St, hSb, hst2, k8, k9, k10, k11⟩ := ft_nums (g := g) hCb.2 hDb.2
                    rw [hst2] at hst
                    have k7 : wrap64 (t - p) = (St : Int) := by rw [hst]; exact IntWalk.wrap64_in _ (by clear k8 k9 k10 k11 hst k1 k2 k3 k4; omega)
                    have k12 : ¬ g = 0 := by omega
                    have k13 : ((q : Int) - 1).toNat = q - 1 := by omega
                    have k14 : (q : Int) - 1 < L := by omega
                    have k15 : decide (0 < q) = true := decide_eq_true h0
                    have k16 : wrap64 ((q : Int) - 1) = (q : Int) - 1 := IntWalk.wrap64_in _ (by omega)
                    have k17 : (0 : Int) ≤ (q : Int) - 1 := by omega
                    clear hst2 hSb hst hprev
                    go_wp2_with fail
                    go_quiet ((go_at_call 40; exact quiet_same (CG.out _)))
                    clear k1 k2 k3 k4 k5 k6 k7 k8 k9 k10 k11 k12 k13 k14 k15 k16 k17 h1 h2 hc hcp
                    have HE2 := Lib.hid (HE.out.drewN nq)
                    obtain ⟨w20, hw20⟩ : ∃ w20, w20 = wr.drewN nq := ⟨_, rfl⟩
                    rw [← hw20] at HE2 ⊢
                    clear hw20
                    go_wp2_with fail
                    go_roundw
                    case rel => exact ⟨q + 1, by omega, by go_num, HE2⟩
                    case measure => simp [intOf]; omega
                  · have hq0 : q = 0 := by omega
                    subst hq0
                    simp only [Nat.add_zero] at hc
                    clear hprev
                    go_wp2_with fail
                    go_quiet ((go_at_call 40; exact quiet_same (CG.out _)))
                    clear k1 k2 k3 k4 k5 k6 h1 h2 hc
                    have HE2 := Lib.hid (HE.out.drewN nq)
                    obtain ⟨w20, hw20⟩ : ∃ w20, w20 = wr.drewN nq := ⟨_, rfl⟩
                    rw [← hw20] at HE2 ⊢
                    clear hw20
                    go_wp2_with fail
                    go_roundw
                    case rel => exact ⟨0 + 1, by omega, by go_num, HE2⟩
                    case measure => simp [intOf]; omega
                · obtain rfl : q = L := by omega
                  have hsome := meet_some (c := C) (d := D) (e := E) (f := F) hCb hDb hEb hFb
                  rw [← HM.out, ← HLL.out, ← HG.out] at hsome
                  have HFIN : Hid ((decide (0 < q) == (((E : Int) - F).tmod g == 0)) = true) := by
                    have h1 : (((E : Int) - F).tmod g == 0) = decide (((E : Int) - F) % g = 0) := by
                      have h2 : (((E : Int) - F) % g = 0) ↔ (((E : Int) - F).tmod g = 0) := by rw [← Int.dvd_iff_emod_eq_zero, Int.dvd_iff_tmod_eq_zero]
                      rw [Bool.eq_iff_iff, beq_iff_eq, decide_eq_true_eq, h2]
                    rw [h1, ← hsome]
                    exact beq_self_eq_true _
                  have k12 : ¬ g = 0 := by omega
                  have Y6 := Lib.hid (Y5.out.trans HE.out)
                  clear hsome
                  go_wp2_with fail
                  refine (D7.out A' c' _ (X12.out.trans Y6.out) (HO12.out.ext Y6.out).rd).mono ?_
                  rintro e v6 ⟨rfl, f6⟩
                  have Y7 := Lib.hid (Y6.out.trans f6)
                  clear f6
                  go_wp2_with fail
                  refine (CG.out _).mono ?_
                  rintro e v7 ⟨rfl, rfl⟩
                  go_wp2_with fail
                  go_ret
                  exact ⟨ret_bool HFIN.out, E1.out.trans (X12.out.trans Y7.out)⟩
end Go.Proofs.Ytoobffhchbgkjaa
