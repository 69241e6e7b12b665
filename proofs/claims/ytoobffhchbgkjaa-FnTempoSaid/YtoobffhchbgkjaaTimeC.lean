/- Contracts of BeatAt. -/
import Derived.Test.YtoobffhchbgkjaaTimeB
namespace Go.Proofs.Ytoobffhchbgkjaa
open Go.RowKit

theorem unitsF_mono {xs : List (Int × Int)} (hp : Passes xs) : ∀ b d : Int, b ≤ d → unitsF xs b ≤ unitsF xs d := by
  induction xs with
  | nil => intro b d _; exact Int.le_refl _
  | cons q xs ih =>
    intro b d hbd
    have h1 := hp q (by simp)
    have := ih (fun r hr => hp r (by simp [hr])) (b - min b q.1) (d - min d q.1) (by omega)
    have h9 : 0 ≤ 3600 / q.2 := Int.ediv_nonneg (by omega) (by omega)
    have : min b q.1 * (3600 / q.2) ≤ min d q.1 * (3600 / q.2) := Int.mul_le_mul_of_nonneg_right (by omega) h9
    simp only [unitsF]
    omega
theorem unitsF_zero {xs : List (Int × Int)} (hp : Passes xs) : unitsF xs 0 = 0 := by
  induction xs with
  | nil => rfl
  | cons q xs ih =>
    have h1 := hp q (by simp)
    have := ih (fun r hr => hp r (by simp [hr]))
    simp only [unitsF]
    rw [show min 0 q.1 = 0 by omega, Int.zero_mul, Int.sub_zero, this]
    rfl

/-- The greatest beat whose time is not behind t. -/
def BeatIs (xs : List (Int × Int)) (t b : Int) : Prop := 0 ≤ b ∧ b ≤ beatsF xs ∧ 50 * unitsF xs b ≤ 3 * t ∧ (b < beatsF xs → 3 * t < 50 * unitsF xs (b + 1))
theorem BeatIs.uniq {xs : List (Int × Int)} {t b d : Int} (hp : Passes xs) (h : BeatIs xs t b) (k : BeatIs xs t d) : b = d := by
  obtain ⟨h1, h2, h3, h4⟩ := h
  obtain ⟨k1, k2, k3, k4⟩ := k
  rcases Int.lt_trichotomy b d with hlt | rfl | hlt
  · have := unitsF_mono hp (b + 1) d (by omega); have := h4 (by omega); omega
  · rfl
  · have := unitsF_mono hp (d + 1) b (by omega); have := k4 (by omega); omega
open Classical in
noncomputable def beF (xs : List (Int × Int)) (t : Int) : Int := if tempoB xs = true ∧ inB t 0 1000000000 = true then (if h : ∃ b, BeatIs xs t b then h.choose else 0) else -1
theorem beF_is {xs : List (Int × Int)} {t b : Int} (hp : Passes xs) (h1 : tempoB xs = true) (h2 : inB t 0 1000000000 = true) (h : BeatIs xs t b) : beF xs t = b := by
  unfold beF
  rw [if_pos ⟨h1, h2⟩, dif_pos ⟨b, h⟩]
  exact BeatIs.uniq hp (Exists.choose_spec (⟨b, h⟩ : ∃ b, BeatIs xs t b)) h
theorem beF_no1 {xs : List (Int × Int)} {t : Int} (h1 : tempoB xs = false) : beF xs t = -1 := by
  unfold beF
  rw [if_neg (by simp [h1])]
theorem beF_no2 {xs : List (Int × Int)} {t : Int} (h1 : inB t 0 1000000000 = false) : beF xs t = -1 := by
  unfold beF
  rw [if_neg (by simp [h1])]

/-- A time as a fraction is not behind t if and only if its units are not. -/
theorem top_le {u t : Int} (hu : 0 ≤ u) : topF u ≤ t * botF u ↔ u ≤ 3 * t := by
  have hc := topF_cross hu
  have hb := (topF_bd hu).2.2.2.1
  generalize topF u = T at *
  generalize botF u = B at *
  constructor
  · intro h
    have : u * B ≤ (3 * t) * B := by rw [← hc, Int.mul_assoc 3 t B]; omega
    exact Int.le_of_mul_le_mul_right this (by omega)
  · intro h
    have : u * B ≤ (3 * t) * B := Int.mul_le_mul_of_nonneg_right h (by omega)
    rw [← hc, Int.mul_assoc 3 t B] at this
    omega

set_option maxHeartbeats 2000000 in
theorem beS_any (A : Option Addr) (c : Nat) (xs : List (Int × Int)) (t : Int) (w : World) (hr : RdP w A xs) (hn : xs.length ≤ 1048576) :
    Calls Try.prog 27 #[.slice A xs.length c, .int .i64 t] w fun e w' => e = .returned (.int .i64 (beF xs t)) ∧ Ext w w' := by
  have CT := Lib.hid (tempoS_any A c xs w hr hn)
  have HR := Lib.hid hr
  by_cases hok : tempoB xs = true
  · have hps : Passes xs := (tempoB_iff hok).2
    have h8 := (tempoB_iff hok).1.2
    rw [hok] at CT
    by_cases ht : inB t 0 1000000000 = true
    · have ht' := inB_iff.1 ht
      obtain ⟨C, hC, CB⟩ : ∃ R, R = beatsF xs ∧ Hid (∀ w, RdP w A xs → Calls Try.prog _ #[.slice A xs.length c] w fun e w' => e = .returned (.int .i64 R) ∧ Ext w w') := ⟨_, rfl, fun w h => beatsS_any A c xs w h hn hps⟩
      have hCb := beatsF_bd hps
      rw [← hC] at hCb
      have hC1 : 0 ≤ C := hCb.1
      have hC2 : C ≤ 8000 := by omega
      have CL : Hid (∀ (d : Int) w, RdP w A xs → 0 ≤ d → d ≤ C → Calls Try.prog _ #[.slice A xs.length c, .int .i64 d] w (RetTime w (topF (50 * unitsF xs d)) (botF (50 * unitsF xs d)) true)) := fun d w h h0 h1 => l20Time_any A c xs d w h h8 hps h0 (by omega)
      have HBE : Hid (∀ b, BeatIs xs t b → beF xs t = b) := fun b h => beF_is hps hok ht h
      have HC := Lib.hid hC
      have HP := Lib.hid hps
      have HZ : Hid (50 * unitsF xs 0 ≤ 3 * t) := by rw [unitsF_zero hps]; exact (by omega : (50 : Int) * 0 ≤ 3 * t)
      obtain ⟨n, hnn⟩ : ∃ n, n = xs.length := ⟨_, rfl⟩
      have HL : Hid (n = xs.length ∧ n ≤ 8) := ⟨hnn, by omega⟩
      rw [← hnn] at CT CB CL ⊢
      clear hCb hC hr hn hok hps h8 hnn
      go_enter Try.func27, Try.ntmps27
      go_wp2_with fail
      refine CT.out.mono ?_
      rintro e w1 ⟨rfl, he⟩
      have HX := Lib.hid he
      clear he
      go_wp2_with fail
      refine (l01In_any _ _ _ _).mono ?_
      rintro e w2 ⟨rfl, rfl⟩
      go_wp2_with fail
      refine (CB.out _ (HR.out.ext HX.out)).mono ?_
      rintro e w2 ⟨rfl, he⟩
      have HX2 := Lib.hid (HX.out.trans he)
      clear he
      go_wp2_with fail
      go_loopw [5, 6] (fun l h wr => ∃ lo hi : Int, l = .int .i64 lo ∧ h = .int .i64 hi ∧ 0 ≤ lo ∧ lo ≤ hi ∧ hi ≤ C ∧ Hid (50 * unitsF xs lo ≤ 3 * t) ∧ Hid (hi < C → 3 * t < 50 * unitsF xs (hi + 1)) ∧ Hid (Ext w wr)) (fun l h _ => (intOf h - intOf l).toNat)
      case atStart => exact ⟨0, C, rfl, rfl, by omega, by omega, by omega, HZ, fun h => absurd h (by omega), HX2.out⟩
      case round =>
        obtain ⟨lo, hi, rfl, rfl, h0, h1, h2, HLO, HHI, HE⟩ := hrel
        by_cases hlt : lo < hi
        · have hm : Int.tdiv (lo + hi + 1) 2 = (lo + hi + 1) / 2 := Int.tdiv_eq_ediv_of_nonneg (by omega)
          obtain ⟨m, hmm⟩ : ∃ m, m = (lo + hi + 1) / 2 := ⟨_, rfl⟩
          have m1 : lo < m := by omega
          have m2 : m ≤ hi := by omega
          obtain ⟨u, hu⟩ : ∃ u, u = 50 * unitsF xs m := ⟨_, rfl⟩
          have hub := unitsF_bd HP.out m (by omega)
          have hu0 : 0 ≤ u := by omega
          have hu1 : u ≤ 72000000 := by have := HL.out; omega
          have htb := topF_bd hu0
          have htl := top_le (t := t) hu0
          have CM := Lib.hid (fun w h => CL.out m w h (by omega) (by omega))
          rw [← hu] at CM
          obtain ⟨T, hT⟩ : ∃ T, T = topF u := ⟨_, rfl⟩
          obtain ⟨B, hB⟩ : ∃ B, B = botF u := ⟨_, rfl⟩
          rw [← hT, ← hB] at CM htb htl
          have b1 : 0 ≤ T ∧ T ≤ 72000000 := by omega
          have b2 : 1 ≤ B ∧ B ≤ 3 := htb.2.2.2
          have b3 := mul_bd' ht'.1 ht'.2 (show 0 ≤ B by omega) b2.2
          have HTL := Lib.hid htl
          have HU := Lib.hid hu
          have HMM := Lib.hid hmm
          clear hub htb htl hu hT hB hu0 hu1
          by_cases hle : T ≤ t * B
          · go_wp2_with fail
            try rw [hm]
            try rw [← hmm]
            refine (CM.out _ (HR.out.ext HE.out)).mono ?_
            rintro e w3 ⟨rfl, he⟩
            have HE2 := Lib.hid (HE.out.trans he)
            clear he
            go_wp2_with fail
            go_roundw
            case rel => exact ⟨m, hi, by rw [HMM.out], rfl, by omega, by omega, by omega, by rw [← HU.out]; exact HTL.out.1 hle, HHI, HE2.out.alloc _⟩
            case measure => simp [intOf]; omega
          · go_wp2_with fail
            try rw [hm]
            try rw [← hmm]
            refine (CM.out _ (HR.out.ext HE.out)).mono ?_
            rintro e w3 ⟨rfl, he⟩
            have HE2 := Lib.hid (HE.out.trans he)
            clear he
            go_wp2_with fail
            go_roundw
            case rel => exact ⟨lo, m - 1, rfl, by rw [HMM.out], by omega, by omega, by omega, HLO, fun _ => by rw [show m - 1 + 1 = m by omega, ← HU.out]; exact Int.not_le.1 fun h => absurd (HTL.out.2 h) (by omega), HE2.out.alloc _⟩
            case measure => simp [intOf]; omega
        · obtain rfl : lo = hi := by omega
          go_wp2_with fail
          go_ret
          exact ⟨ret_int (HBE.out lo ⟨h0, by rw [← HC.out]; exact h2, HLO.out, fun h => HHI.out (by rw [HC.out]; exact h)⟩).symm, HE.out⟩
    · have ht : inB t 0 1000000000 = false := by simpa using ht
      rw [beF_no2 ht]
      obtain ⟨n, hnn⟩ : ∃ n, n = xs.length := ⟨_, rfl⟩
      rw [← hnn] at CT ⊢
      clear hr hn hok hps h8 hnn
      go_enter Try.func27, Try.ntmps27
      go_wp2_with fail
      refine CT.out.mono ?_
      rintro e w1 ⟨rfl, he⟩
      have HX := Lib.hid he
      clear he
      go_wp2_with fail
      refine (l01In_any _ _ _ _).mono ?_
      rintro e w2 ⟨rfl, rfl⟩
      go_wp2_with fail
      go_ret
      exact ⟨rfl, HX.out⟩
  · have hok : tempoB xs = false := by simpa using hok
    rw [beF_no1 hok]
    rw [hok] at CT
    obtain ⟨n, hnn⟩ : ∃ n, n = xs.length := ⟨_, rfl⟩
    rw [← hnn] at CT ⊢
    clear hr hn hok hnn
    go_enter Try.func27, Try.ntmps27
    go_wp2_with fail
    refine CT.out.mono ?_
    rintro e w1 ⟨rfl, he⟩
    have HX := Lib.hid he
    clear he
    go_wp2_with fail
    go_ret
    exact ⟨rfl, HX.out⟩

set_option maxHeartbeats 2000000 in
theorem beI_any (A : Option Addr) (c : Nat) (xs : List (Int × Int)) (t : Int) (w : World) (hr : RdP w A xs) (hn : xs.length ≤ 1048576) :
    Calls Try.prog 28 #[.slice A xs.length c, .int .i64 t] w fun e w' => e = .returned (.int .i64 (beF xs t)) ∧ Ext w w' := by
  have CT := Lib.hid (tempoI_any A c xs w hr hn)
  have HR := Lib.hid hr
  by_cases hok : tempoB xs = true
  · have hps : Passes xs := (tempoB_iff hok).2
    have h8 := (tempoB_iff hok).1.2
    rw [hok] at CT
    by_cases ht : inB t 0 1000000000 = true
    · have ht' := inB_iff.1 ht
      obtain ⟨C, hC, CB⟩ : ∃ R, R = beatsF xs ∧ Hid (∀ w, RdP w A xs → Calls Try.prog _ #[.slice A xs.length c] w fun e w' => e = .returned (.int .i64 R) ∧ Ext w w') := ⟨_, rfl, fun w h => beatsI_any A c xs w h hn hps⟩
      have hCb := beatsF_bd hps
      rw [← hC] at hCb
      have hC1 : 0 ≤ C := hCb.1
      have hC2 : C ≤ 8000 := by omega
      have CU : Hid (∀ (d : Int) w, RdP w A xs → 0 ≤ d → d ≤ C → Calls Try.prog _ #[.slice A xs.length c, .int .i64 d] w fun e w' => e = .returned (.int .i64 (unitsF xs d)) ∧ Ext w w') := fun d w h h0 h1 => units_any A c xs d w h hn hps h0 (by omega)
      have HBE : Hid (∀ b, BeatIs xs t b → beF xs t = b) := fun b h => beF_is hps hok ht h
      have HC := Lib.hid hC
      have HP := Lib.hid hps
      have HZ : Hid (50 * unitsF xs 0 ≤ 3 * t) := by rw [unitsF_zero hps]; exact (by omega : (50 : Int) * 0 ≤ 3 * t)
      obtain ⟨n, hnn⟩ : ∃ n, n = xs.length := ⟨_, rfl⟩
      have HL : Hid (n = xs.length ∧ n ≤ 8) := ⟨hnn, by omega⟩
      rw [← hnn] at CT CB CU ⊢
      clear hCb hC hr hn hok hps h8 hnn
      go_enter Try.func28, Try.ntmps28
      go_wp2_with fail
      refine CT.out.mono ?_
      rintro e w1 ⟨rfl, he⟩
      have HX := Lib.hid he
      clear he
      go_wp2_with fail
      refine (within_any _ _ _ _).mono ?_
      rintro e w2 ⟨rfl, rfl⟩
      go_wp2_with fail
      go_loopw [5] (fun l wr => ∃ lo : Int, l = .int .i64 lo ∧ 0 ≤ lo ∧ lo ≤ C ∧ Hid (50 * unitsF xs lo ≤ 3 * t) ∧ Hid (Ext w wr)) (fun l _ => (C - intOf l).toNat)
      case atStart => exact ⟨0, rfl, by omega, by omega, HZ, HX.out⟩
      case round =>
        obtain ⟨lo, rfl, h0, h1, HLO, HE⟩ := hrel
        by_cases hlt : lo < C
        · obtain ⟨u, hu⟩ : ∃ u, u = unitsF xs (lo + 1) := ⟨_, rfl⟩
          have hub := unitsF_bd HP.out (lo + 1) (by omega)
          rw [← hu] at hub
          have hu0 : 0 ≤ u := hub.1
          have hu1 : u ≤ 1440000 := by have := HL.out; omega
          have CM := Lib.hid (fun w h => CU.out (lo + 1) w h (by omega) (by omega))
          rw [← hu] at CM
          have HU := Lib.hid hu
          clear hub hu
          by_cases hle : 50 * u ≤ 3 * t
          · go_wp2_with fail
            refine (CB.out _ (HR.out.ext HE.out)).mono ?_
            rintro e w2 ⟨rfl, he⟩
            have HE1 := Lib.hid (HE.out.trans he)
            clear he
            go_wp2_with fail
            refine (CM.out _ (HR.out.ext HE1.out)).mono ?_
            rintro e w3 ⟨rfl, he⟩
            have HE2 := Lib.hid (HE1.out.trans he)
            clear he
            go_wp2_with fail
            go_roundw
            case rel => exact ⟨lo + 1, rfl, by omega, by omega, by rw [← HU.out]; exact hle, HE2.out⟩
            case measure => simp [intOf]; omega
          · go_wp2_with fail
            refine (CB.out _ (HR.out.ext HE.out)).mono ?_
            rintro e w2 ⟨rfl, he⟩
            have HE1 := Lib.hid (HE.out.trans he)
            clear he
            go_wp2_with fail
            refine (CM.out _ (HR.out.ext HE1.out)).mono ?_
            rintro e w3 ⟨rfl, he⟩
            have HE2 := Lib.hid (HE1.out.trans he)
            clear he
            go_wp2_with fail
            go_ret
            exact ⟨ret_int (HBE.out lo ⟨h0, by rw [← HC.out]; exact h1, HLO.out, fun _ => by rw [← HU.out]; omega⟩).symm, HE2.out⟩
        · obtain rfl : lo = C := by omega
          go_wp2_with fail
          refine (CB.out _ (HR.out.ext HE.out)).mono ?_
          rintro e w2 ⟨rfl, he⟩
          have HE1 := Lib.hid (HE.out.trans he)
          clear he
          go_wp2_with fail
          go_ret
          exact ⟨ret_int (HBE.out lo ⟨h0, by rw [← HC.out]; exact Int.le_refl _, HLO.out, fun h => absurd h (by rw [← HC.out]; omega)⟩).symm, HE1.out⟩
    · have ht : inB t 0 1000000000 = false := by simpa using ht
      rw [beF_no2 ht]
      obtain ⟨n, hnn⟩ : ∃ n, n = xs.length := ⟨_, rfl⟩
      rw [← hnn] at CT ⊢
      clear hr hn hok hps h8 hnn
      go_enter Try.func28, Try.ntmps28
      go_wp2_with fail
      refine CT.out.mono ?_
      rintro e w1 ⟨rfl, he⟩
      have HX := Lib.hid he
      clear he
      go_wp2_with fail
      refine (within_any _ _ _ _).mono ?_
      rintro e w2 ⟨rfl, rfl⟩
      go_wp2_with fail
      go_ret
      exact ⟨rfl, HX.out⟩
  · have hok : tempoB xs = false := by simpa using hok
    rw [beF_no1 hok]
    rw [hok] at CT
    obtain ⟨n, hnn⟩ : ∃ n, n = xs.length := ⟨_, rfl⟩
    rw [← hnn] at CT ⊢
    clear hr hn hok hnn
    go_enter Try.func28, Try.ntmps28
    go_wp2_with fail
    refine CT.out.mono ?_
    rintro e w1 ⟨rfl, he⟩
    have HX := Lib.hid he
    clear he
    go_wp2_with fail
    go_ret
    exact ⟨rfl, HX.out⟩
end Go.Proofs.Ytoobffhchbgkjaa
