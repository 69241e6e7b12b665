/- Contracts of SyncopationOf. -/
import Derived.Test.YtedfmjijemcpaaaSy
namespace Go.Proofs.Ytedfmjijemcpaaa
open Go.RowKit

/-- Numbers of one look ahead. -/
theorem look_nums {N P k : Nat} (h1 : 1 ≤ N) (_h2 : N ≤ 24) (_h3 : P < N) (_h4 : k ≤ 47) : ∃ q : Nat, q < N ∧ ((P : Int) + ((k : Nat) : Int)) % (N : Int) = (q : Int) ∧ ((P : Int) + ((k : Nat) : Int)).tmod (N : Int) = (q : Int) := by
  have e : ((P : Int) + (k : Int)) % (N : Int) = (((P + k) % N : Nat) : Int) := by rw [← Int.natCast_add, ← Int.natCast_emod]
  refine ⟨(P + k) % N, Nat.mod_lt _ (by omega), e, ?_⟩
  rw [Int.tmod_eq_emod_of_nonneg (by omega), e]

set_option maxHeartbeats 4000000 in
theorem synI_any (A : Option Addr) (c : Nat) (n : Int) (bs : List Int) (B : Option Addr) (d : Nat) (xs : List Int) (w : World) (hr : RdI w A bs) (hv : rhyB n bs = true) (hm : RdI w B xs) (hx : metB xs = true) (hn : n = prodF xs) (hcap : xs.length ≤ d) (hcm : d ≤ maxLen) :
    Calls Try.prog 10 #[.agg #[.int .i64 n, .slice A bs.length c], .slice B xs.length d] w fun e w' => e = .returned (.int .i64 (syP n bs xs bs.length)) ∧ Ext w w' := by
  have hvi := rhyB_iff hv
  have hl24 := rhyB_len hv
  have hxi := metB_iff hx
  obtain ⟨N, hN⟩ := Int.eq_ofNat_of_zero_le (show 0 ≤ n by omega)
  have hN24 : 1 ≤ N ∧ N ≤ 24 := by omega
  have CF : Hid (∀ V : World, Ext w V → Calls Try.prog 34 #[.agg #[.int .i64 n, .slice A bs.length c], .slice B xs.length d] V fun e w' => e = .returned (.bool true) ∧ Ext V w') := fun V h => fitI_any A c n bs B d xs V (hr.ext h) hv (hm.ext h) hx hn
  have CW : Hid (∀ V : World, Ext w V → Calls Try.prog 30 #[.slice B xs.length d] V (RetI V (wtL xs xs.length N))) := fun V h => by
    have := weights_any B d xs V (hm.ext h) hx hcap hcm
    rwa [← hn, hN, Int.toNat_natCast] at this
  have CS : Hid (∀ V : World, Ext w V → Calls Try.prog 35 #[.agg #[.int .i64 n, .slice A bs.length c]] V (RetI V (stepsF n bs))) := fun V h => stepsI_any A c n bs V (hr.ext h) hv (by omega)
  have HV : Hid (∀ j, j < bs.length → 0 ≤ bs.getD j 0 ∧ bs.getD j 0 ≤ n - 1) := fun j hj => (hvi.2 j hj).1
  have HST : Hid (∀ j, j < bs.length → 1 ≤ stJ n bs j ∧ stJ n bs j ≤ 47) := fun j hj => stJ_bd hv hj
  have HR := Lib.hid hr
  subst hN
  obtain ⟨l, hll⟩ : ∃ l, l = bs.length := ⟨_, rfl⟩
  obtain ⟨m, hmm⟩ : ∃ m, m = xs.length := ⟨_, rfl⟩
  have HL := Lib.hid hll
  have HM := Lib.hid hmm
  have hl9 : l ≤ 24 := by omega
  have hm5 : m ≤ 5 := by omega
  rw [← hll, ← hmm] at CF
  rw [← hmm] at CW
  rw [← hll] at CS
  rw [← hll, ← hmm]
  have HX0 : Hid (Ext w (w.alloc (.cells #[.int .i64 N, .slice A l c] 29))) := (Ext.refl w).alloc _
  have HG0 := Lib.hid (Bx2.new w 29 (.int .i64 N) (.slice A l c))
  clear hr hv hm hx hn hcap hcm hvi hl24 hxi hll hmm
  go_enter Try.func10, Try.ntmps10
  obtain ⟨q0, q1, _, _⟩ := HG0.out.cells
  go_wp2_with fail
  refine (CF.out _ HX0.out).mono ?_
  rintro e w1 ⟨rfl, e1⟩
  have X1 := Lib.hid (HX0.out.trans e1)
  have HG1 := Lib.hid (HG0.out.ext e1)
  clear e1 q0 q1 HG0
  go_wp2_with fail
  refine (CW.out _ X1.out).mono ?_
  rintro e w2 ⟨WA, wc, rfl, ow, e2⟩
  have X2 := Lib.hid (X1.out.trans e2)
  have HG2 := Lib.hid (HG1.out.ext e2)
  have OW2 := Lib.hid ow
  have HWL := Lib.hid (wtL_len xs m N)
  rw [HWL.out]
  clear e2 ow X1 HG1
  obtain ⟨q0, q1, _, _⟩ := HG2.out.cells
  go_wp2_with fail
  refine (CS.out _ X2.out).mono ?_
  rintro e w3 ⟨SA, sc, rfl, os, e3⟩
  have X3 := Lib.hid (X2.out.trans e3)
  have HG3 := Lib.hid (HG2.out.ext e3)
  have OW3 := Lib.hid (OW2.out.ext e3)
  have OS3 := Lib.hid os
  have HSL := Lib.hid (stP_len N bs bs.length)
  have HSL2 : Hid ((stepsF N bs).length = l) := by rw [HL.out]; exact HSL.out
  rw [HSL2.out]
  have HR3 := Lib.hid (HR.out.ext X3.out)
  clear e3 os X2 HG2 OW2 q0 q1 HSL CF CW CS
  obtain ⟨q0, q1, _, _⟩ := HG3.out.cells
  go_wp2_with fail
  go_loop [6, 21] (fun s i => ∃ k : Nat, k ≤ l ∧ i = .int .i64 k ∧ s = .int .i64 (syP N bs xs k)) (fun _ i => l - (intOf i).toNat)
  case atStart => exact ⟨0, Nat.zero_le _, rfl, rfl⟩
  case round =>
    obtain ⟨k, hk, rfl, rfl⟩ := hrel
    by_cases hlt : k < l
    · have hkx : k < bs.length := by rw [← HL.out]; exact hlt
      obtain ⟨b, o, hA, hc⟩ := HR3.out.at_ k hkx
      obtain ⟨sb, so, hSA, hsc⟩ := OS3.out.rd.at_ k (by rw [HSL2.out]; exact hlt)
      have hse : (stepsF N bs).getD k 0 = stJ N bs k := by unfold stepsF stP; simp [List.getD, hkx]
      rw [hse] at hsc
      have hpb := HV.out k hkx
      have hsb := HST.out k hkx
      have HSI : Hid (syP N bs xs (k + 1) = syP N bs xs k + max 0 (moK xs N (bs.getD k 0) ((stJ N bs k).toNat - 1) - wtF xs (bs.getD k 0))) := rfl
      obtain ⟨P, hP⟩ := Int.eq_ofNat_of_zero_le hpb.1
      obtain ⟨S, hS⟩ := Int.eq_ofNat_of_zero_le (show 0 ≤ stJ N bs k by omega)
      rw [hP] at hc hpb HSI
      rw [hS] at hsc hsb HSI
      rw [Int.toNat_natCast] at HSI
      have hPN : P < N := by omega
      have hS47 : 1 ≤ S ∧ S ≤ 47 := by omega
      have hsy := syP_bd N bs xs k
      have hsyb : xs.length * (k : Int) ≤ 5 * 24 := Int.mul_le_mul (by have := HM.out; omega) (by omega) (by omega) (by omega)
      obtain ⟨T, hT⟩ : ∃ T, T = syP N bs xs k := ⟨_, rfl⟩
      rw [← hT] at hsy HSI ⊢
      have hTb : 0 ≤ T ∧ T ≤ 120 := by omega
      have HCW : Hid (∀ q : Nat, q < N → ∃ wb wo, WA = some ⟨wb, wo, none⟩ ∧ w3.cell? ⟨wb, wo + q, none⟩ = some (.int .i64 (wtF xs q))) := fun q hq => by
        obtain ⟨wb, wo, e, h⟩ := OW3.out.rd.at_ q (by rw [HWL.out]; exact hq)
        rw [wtL_get hq] at h
        exact ⟨wb, wo, e, by unfold wtF; rw [← HM.out]; exact h⟩
      subst hA hSA
      clear hse hP hS hT hsy hsyb hkx hpb hsb
      go_wp2_with fail
      go_loop [10, 11] (fun g i => ∃ j : Nat, 1 ≤ j ∧ j ≤ S ∧ i = .int .i64 j ∧ g = .int .i64 (moK xs N P (j - 1))) (fun _ i => S - (intOf i).toNat)
      case atStart => exact ⟨1, Nat.le_refl _, hS47.1, rfl, rfl⟩
      case round =>
        obtain ⟨j, hj1, hj2, rfl, rfl⟩ := hrel
        have hmb := moK_bd xs N P (j - 1)
        obtain ⟨M, hM⟩ : ∃ M, M = moK xs N P (j - 1) := ⟨_, rfl⟩
        have HMJ := Lib.hid hM
        rw [← hM] at hmb ⊢
        have hmb5 : 0 ≤ M ∧ M ≤ 5 := by have := HM.out; omega
        clear hM hmb
        by_cases hlt2 : j < S
        · obtain ⟨q, hq, hq1, hq2⟩ := look_nums (P := P) (k := j) hN24.1 hN24.2 hPN (by omega)
          obtain ⟨wb, wo, hWA, hcw⟩ := HCW.out q hq
          have HNX : Hid (moK xs N P (j + 1 - 1) = max M (wtF xs q)) := by
            rw [show j + 1 - 1 = (j - 1) + 1 by omega, moK, ← HMJ.out, show j - 1 + 1 = j by omega, hq1]; exact rfl
          have hwb := wtK_bd xs (q : Int) xs.length
          obtain ⟨v, hv⟩ : ∃ v, v = wtF xs q := ⟨_, rfl⟩
          rw [← hv] at hcw HNX
          have hvb : 0 ≤ v ∧ v ≤ 5 := by have := HM.out; unfold wtF at hv; omega
          have HWA := Lib.hid hWA
          subst hWA
          have hn0 : ¬ N = 0 := by omega
          have hqi : (q : Int) < N := by omega
          clear hv hwb
          go_wp2_with fail
          go_round
          case rel => exact ⟨j + 1, by omega, by omega, by go_num, by rw [HNX.out]; exact congrArg (Value.int .i64) (by split <;> omega)⟩
          case measure => simp [intOf]; omega
        · obtain rfl : j = S := by omega
          obtain ⟨wb, wo, hWA, hcw⟩ := HCW.out P hPN
          have hwb := wtK_bd xs (P : Int) xs.length
          have HFN : Hid (syP N bs xs (k + 1) = T + max 0 (M - wtF xs P)) := by rw [HSI.out, ← HMJ.out]; exact rfl
          obtain ⟨v, hv⟩ : ∃ v, v = wtF xs P := ⟨_, rfl⟩
          rw [← hv] at hcw HFN
          have hvb : 0 ≤ v ∧ v ≤ 5 := by have := HM.out; unfold wtF at hv; omega
          have HWA := Lib.hid hWA
          subst hWA
          clear hv hwb
          go_wp2_with fail
          go_round
          case rel => exact ⟨k + 1, by omega, by go_num, by rw [HFN.out]; exact congrArg (Value.int .i64) (by split <;> omega)⟩
          case measure => simp [intOf]; omega
    · obtain rfl : k = l := by omega
      go_wp2_with fail
      go_ret
      exact ⟨rfl, X3.out⟩

set_option maxHeartbeats 4000000 in
theorem synS_any (A : Option Addr) (c : Nat) (n : Int) (bs : List Int) (B : Option Addr) (d : Nat) (xs : List Int) (w : World) (hr : RdI w A bs) (hv : rhyB n bs = true) (hm : RdI w B xs) (hx : metB xs = true) (hn : n = prodF xs) (hcap : xs.length ≤ d) (hcm : d ≤ maxLen) :
    Calls Try.prog 44 #[.agg #[.int .i64 n, .slice A bs.length c], .slice B xs.length d] w fun e w' => e = .returned (.int .i64 (syP n bs xs bs.length)) ∧ Ext w w' := by
  have hvi := rhyB_iff hv
  have hl24 := rhyB_len hv
  have hxi := metB_iff hx
  obtain ⟨N, hN⟩ := Int.eq_ofNat_of_zero_le (show 0 ≤ n by omega)
  have hN24 : 1 ≤ N ∧ N ≤ 24 := by omega
  have CF : Hid (∀ V : World, Ext w V → Calls Try.prog 57 #[.agg #[.int .i64 n, .slice A bs.length c], .slice B xs.length d] V fun e w' => e = .returned (.bool true) ∧ Ext V w') := fun V h => fitS_any A c n bs B d xs V (hr.ext h) hv (hm.ext h) hx hn
  have CW : Hid (∀ V : World, Ext w V → Calls Try.prog 58 #[.slice B xs.length d] V (RetI V (wtL xs xs.length N))) := fun V h => by
    have := wofS_any B d xs V (hm.ext h) hx hcap hcm
    rwa [← hn, hN, Int.toNat_natCast] at this
  have CS : Hid (∀ V : World, Ext w V → Calls Try.prog 59 #[.agg #[.int .i64 n, .slice A bs.length c]] V (RetI V (stepsF n bs))) := fun V h => stepsS_any A c n bs V (hr.ext h) hv (by omega)
  have HV : Hid (∀ j, j < bs.length → 0 ≤ bs.getD j 0 ∧ bs.getD j 0 ≤ n - 1) := fun j hj => (hvi.2 j hj).1
  have HST : Hid (∀ j, j < bs.length → 1 ≤ stJ n bs j ∧ stJ n bs j ≤ 47) := fun j hj => stJ_bd hv hj
  have HR := Lib.hid hr
  subst hN
  obtain ⟨l, hll⟩ : ∃ l, l = bs.length := ⟨_, rfl⟩
  obtain ⟨m, hmm⟩ : ∃ m, m = xs.length := ⟨_, rfl⟩
  have HL := Lib.hid hll
  have HM := Lib.hid hmm
  have hl9 : l ≤ 24 := by omega
  have hm5 : m ≤ 5 := by omega
  rw [← hll, ← hmm] at CF
  rw [← hmm] at CW
  rw [← hll] at CS
  rw [← hll, ← hmm]
  have HX0 : Hid (Ext w (w.alloc (.cells #[.int .i64 N, .slice A l c] 29))) := (Ext.refl w).alloc _
  have HG0 := Lib.hid (Bx2.new w 29 (.int .i64 N) (.slice A l c))
  clear hr hv hm hx hn hcap hcm hvi hl24 hxi hll hmm
  go_enter Try.func44, Try.ntmps44
  obtain ⟨q0, q1, _, _⟩ := HG0.out.cells
  go_wp2_with fail
  refine (CF.out _ HX0.out).mono ?_
  rintro e w1 ⟨rfl, e1⟩
  have X1 := Lib.hid (HX0.out.trans e1)
  have HG1 := Lib.hid (HG0.out.ext e1)
  clear e1 q0 q1 HG0
  go_wp2_with fail
  refine (CW.out _ X1.out).mono ?_
  rintro e w2 ⟨WA, wc, rfl, ow, e2⟩
  have X2 := Lib.hid (X1.out.trans e2)
  have HG2 := Lib.hid (HG1.out.ext e2)
  have OW2 := Lib.hid ow
  have HWL := Lib.hid (wtL_len xs m N)
  rw [HWL.out]
  clear e2 ow X1 HG1
  obtain ⟨q0, q1, _, _⟩ := HG2.out.cells
  go_wp2_with fail
  refine (CS.out _ X2.out).mono ?_
  rintro e w3 ⟨SA, sc, rfl, os, e3⟩
  have X3 := Lib.hid (X2.out.trans e3)
  have HG3 := Lib.hid (HG2.out.ext e3)
  have OW3 := Lib.hid (OW2.out.ext e3)
  have OS3 := Lib.hid os
  have HSL := Lib.hid (stP_len N bs bs.length)
  have HSL2 : Hid ((stepsF N bs).length = l) := by rw [HL.out]; exact HSL.out
  rw [HSL2.out]
  have HR3 := Lib.hid (HR.out.ext X3.out)
  clear e3 os X2 HG2 OW2 q0 q1 HSL CF CW CS
  obtain ⟨q0, q1, _, _⟩ := HG3.out.cells
  go_wp2_with fail
  go_loop [7, 23] (fun s i => ∃ k : Nat, k ≤ l ∧ i = .int .i64 k ∧ s = .int .i64 (syP N bs xs k)) (fun _ i => l - (intOf i).toNat)
  case atStart => exact ⟨0, Nat.zero_le _, rfl, rfl⟩
  case round =>
    obtain ⟨k, hk, rfl, rfl⟩ := hrel
    by_cases hlt : k < l
    · have hkx : k < bs.length := by rw [← HL.out]; exact hlt
      obtain ⟨b, o, hA, hc⟩ := HR3.out.at_ k hkx
      obtain ⟨sb, so, hSA, hsc⟩ := OS3.out.rd.at_ k (by rw [HSL2.out]; exact hlt)
      have hse : (stepsF N bs).getD k 0 = stJ N bs k := by unfold stepsF stP; simp [List.getD, hkx]
      rw [hse] at hsc
      have hpb := HV.out k hkx
      have hsb := HST.out k hkx
      have HSI : Hid (syP N bs xs (k + 1) = syP N bs xs k + max 0 (moK xs N (bs.getD k 0) ((stJ N bs k).toNat - 1) - wtF xs (bs.getD k 0))) := rfl
      obtain ⟨P, hP⟩ := Int.eq_ofNat_of_zero_le hpb.1
      obtain ⟨S, hS⟩ := Int.eq_ofNat_of_zero_le (show 0 ≤ stJ N bs k by omega)
      rw [hP] at hc hpb HSI
      rw [hS] at hsc hsb HSI
      rw [Int.toNat_natCast] at HSI
      have hPN : P < N := by omega
      have hS47 : 1 ≤ S ∧ S ≤ 47 := by omega
      have hsy := syP_bd N bs xs k
      have hsyb : xs.length * (k : Int) ≤ 5 * 24 := Int.mul_le_mul (by have := HM.out; omega) (by omega) (by omega) (by omega)
      obtain ⟨T, hT⟩ : ∃ T, T = syP N bs xs k := ⟨_, rfl⟩
      rw [← hT] at hsy HSI ⊢
      have hTb : 0 ≤ T ∧ T ≤ 120 := by omega
      have HCW : Hid (∀ q : Nat, q < N → ∃ wb wo, WA = some ⟨wb, wo, none⟩ ∧ w3.cell? ⟨wb, wo + q, none⟩ = some (.int .i64 (wtF xs q))) := fun q hq => by
        obtain ⟨wb, wo, e, h⟩ := OW3.out.rd.at_ q (by rw [HWL.out]; exact hq)
        rw [wtL_get hq] at h
        exact ⟨wb, wo, e, by unfold wtF; rw [← HM.out]; exact h⟩
      subst hA hSA
      clear hse hP hS hT hsy hsyb hkx hpb hsb
      go_wp2_with fail
      go_loop [10, 11] (fun g i => ∃ j : Nat, 1 ≤ j ∧ j ≤ S ∧ i = .int .i64 j ∧ g = .int .i64 (moK xs N P (j - 1))) (fun _ i => S - (intOf i).toNat)
      case atStart => exact ⟨1, Nat.le_refl _, hS47.1, rfl, rfl⟩
      case round =>
        obtain ⟨j, hj1, hj2, rfl, rfl⟩ := hrel
        have hmb := moK_bd xs N P (j - 1)
        obtain ⟨M, hM⟩ : ∃ M, M = moK xs N P (j - 1) := ⟨_, rfl⟩
        have HMJ := Lib.hid hM
        rw [← hM] at hmb ⊢
        have hmb5 : 0 ≤ M ∧ M ≤ 5 := by have := HM.out; omega
        clear hM hmb
        by_cases hlt2 : j < S
        · obtain ⟨q, hq, hq1, hq2⟩ := look_nums (P := P) (k := j) hN24.1 hN24.2 hPN (by omega)
          obtain ⟨wb, wo, hWA, hcw⟩ := HCW.out q hq
          have HNX : Hid (moK xs N P (j + 1 - 1) = max M (wtF xs q)) := by
            rw [show j + 1 - 1 = (j - 1) + 1 by omega, moK, ← HMJ.out, show j - 1 + 1 = j by omega, hq1]; exact rfl
          have hwb := wtK_bd xs (q : Int) xs.length
          obtain ⟨v, hv⟩ : ∃ v, v = wtF xs q := ⟨_, rfl⟩
          rw [← hv] at hcw HNX
          have hvb : 0 ≤ v ∧ v ≤ 5 := by have := HM.out; unfold wtF at hv; omega
          have HWA := Lib.hid hWA
          subst hWA
          have hn0 : ¬ N = 0 := by omega
          have hqi : (q : Int) < N := by omega
          clear hv hwb
          go_wp2_with fail
          go_round
          case rel => exact ⟨j + 1, by omega, by omega, by go_num, by rw [HNX.out]; exact congrArg (Value.int .i64) (by split <;> omega)⟩
          case measure => simp [intOf]; omega
        · obtain rfl : j = S := by omega
          obtain ⟨wb, wo, hWA, hcw⟩ := HCW.out P hPN
          have hwb := wtK_bd xs (P : Int) xs.length
          have HFN : Hid (syP N bs xs (k + 1) = T + max 0 (M - wtF xs P)) := by rw [HSI.out, ← HMJ.out]; exact rfl
          obtain ⟨v, hv⟩ : ∃ v, v = wtF xs P := ⟨_, rfl⟩
          rw [← hv] at hcw HFN
          have hvb : 0 ≤ v ∧ v ≤ 5 := by have := HM.out; unfold wtF at hv; omega
          have HWA := Lib.hid hWA
          subst hWA
          clear hv hwb
          go_wp2_with fail
          go_round
          case rel => exact ⟨k + 1, by omega, by go_num, by rw [HFN.out]; exact congrArg (Value.int .i64) (by split <;> omega)⟩
          case measure => simp [intOf]; omega
    · obtain rfl : k = l := by omega
      go_wp2_with fail
      go_ret
      exact ⟨rfl, X3.out⟩
end Go.Proofs.Ytedfmjijemcpaaa
