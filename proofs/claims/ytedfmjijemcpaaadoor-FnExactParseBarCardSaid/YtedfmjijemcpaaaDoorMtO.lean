/- Meters: contracts of the products, of MeterOk, of l18Unit. -/
import Derived.Test.YtedfmjijemcpaaaDoorMtP
namespace Go.Proofs.YtedfmjijemcpaaaDoor
open Go.RowKit

set_option maxHeartbeats 1000000 in
theorem prodI_any (A : Option Addr) (c : Nat) (xs : List Int) (w : World) (hr : RdI w A xs) (hl : xs.length ≤ 5) (h27 : In27 xs) :
    Calls Tryd.prog 37 #[.slice A xs.length c] w fun e w' => e = .returned (.int .i64 (prodF xs)) ∧ w = w' := by
  obtain ⟨l, hll⟩ : ∃ l, l = xs.length := ⟨_, rfl⟩
  obtain ⟨R, hR⟩ : ∃ R, R = prodF xs := ⟨_, rfl⟩
  have HR := Lib.hid hr
  have HP := Lib.hid hR
  have HL := Lib.hid hll
  have H27 := Lib.hid h27
  rw [← hll, ← hR]
  rw [← hll] at hl
  clear hr hR hll h27
  go_enter Tryd.func37, Tryd.ntmps37
  go_wp2_with fail
  go_loop [3, 8] (fun s i => ∃ (k : Nat) (t : Int), k ≤ l ∧ i = .int .i64 k ∧ s = .int .i64 t ∧ Hid (t = prodF (xs.take k))) (fun _ i => l - (intOf i).toNat)
  case atStart => exact ⟨0, 1, Nat.zero_le _, rfl, rfl, rfl⟩
  case round =>
    obtain ⟨k, t, hk, rfl, rfl, HT⟩ := hrel
    by_cases hlt : k < l
    · have hkx : k < xs.length := by rw [← HL.out]; exact hlt
      obtain ⟨b, o, hA, hc⟩ := HR.out.at_ k hkx
      subst hA
      obtain ⟨x, hx⟩ : ∃ x, x = xs.getD k 0 := ⟨_, rfl⟩
      rw [← hx] at hc
      have hx27 := H27.out x (by rw [hx]; exact mem_getD hkx)
      have htb := prodF_bd4 (H27.out.take k) (by rw [List.length_take]; omega)
      rw [← HT.out] at htb
      have hm := Int.mul_le_mul htb.2 hx27.2 (by omega) (by omega)
      have hm0 : 0 ≤ t * x := Int.mul_nonneg (by omega) (by omega)
      have HN : Hid (t * x = prodF (xs.take (k + 1))) := by rw [take_snoc xs k hkx, prodF_snoc, ← HT.out, ← hx]; exact rfl
      clear hx hkx
      go_wp2_with fail
      go_round
      case rel => exact ⟨k + 1, t * x, by omega, by go_num, rfl, HN.out⟩
      case measure => simp [intOf]; omega
    · obtain rfl : k = l := by omega
      have HV : Hid (t = R) := by rw [HT.out, HP.out, HL.out, List.take_length]; exact rfl
      go_wp2_with fail
      go_ret
      exact ⟨ret_int HV.out, rfl⟩

theorem metS_any (A : Option Addr) (c : Nat) (xs : List Int) (w : World) (hr : RdI w A xs) (hn : xs.length ≤ 4194304) :
    Calls Tryd.prog 25 #[.slice A xs.length c] w fun e w' => e = .returned (.bool (metB xs)) ∧ w = w' := by
  obtain ⟨n, hnn⟩ : ∃ n, n = xs.length := ⟨_, rfl⟩
  obtain ⟨B, hB⟩ : ∃ B, B = metB xs := ⟨_, rfl⟩
  rw [← hB, ← hnn]
  rw [← hnn] at hn
  have HN := Lib.hid hnn
  have HB := Lib.hid hB
  have HR := Lib.hid hr
  clear hnn hB hr
  by_cases hlen : inB n 1 5 = true
  · have h5 := inB_iff.1 hlen
    go_enter Tryd.func25, Tryd.ntmps25
    go_wp2_with (go_at_call 30; refine (l01In_any _ _ _ _).mono ?_; rintro e w' ⟨rfl, rfl⟩)
    go_loop [3, 12] (fun s i => ∃ (k : Nat) (t : Int), k ≤ n ∧ i = .int .i64 k ∧ s = .int .i64 t ∧ Hid (∀ j, j < k → inB (xs.getD j 0) 2 7 = true) ∧ Hid (t = prodF (xs.take k)) ∧ (1 ≤ t ∧ t ≤ 16807)) (fun _ i => n - (intOf i).toNat)
    case atStart => exact ⟨0, 1, Nat.zero_le _, rfl, rfl, fun j hj => absurd hj (by omega), rfl, by omega⟩
    case round =>
      obtain ⟨k, t, hk, rfl, rfl, HJ, HT, ht⟩ := hrel
      by_cases hlt : k < n
      · have hkx : k < xs.length := by rw [← HN.out]; exact hlt
        obtain ⟨b, o, hA, hc⟩ := HR.out.at_ k hkx
        subst hA
        obtain ⟨x, hx⟩ : ∃ x, x = xs.getD k 0 := ⟨_, rfl⟩
        rw [← hx] at hc
        have hm : x ∈ xs := by rw [hx]; exact mem_getD hkx
        have hin : In27 (xs.take k) := fun y hy => by
          have : allB (xs.take k) 2 7 = true := allB_take (k := k) (fun j hj => by
            have e : (xs.take k).getD j 0 = xs.getD j 0 := by simp [List.getD, hj]
            rw [e]; exact HJ.out j hj) (by rw [List.length_take]; omega)
          exact allB_iff.1 this y hy
        have ht4 := prodF_bd4 hin (by rw [List.length_take]; omega)
        rw [← HT.out] at ht4
        have HX := Lib.hid hx
        have HK := Lib.hid hkx
        have HM := Lib.hid hm
        clear hx hkx hm hin
        by_cases h1 : inB x 2 7 = true
        · have hx27 := inB_iff.1 h1
          have hm1 := Int.mul_le_mul ht4.2 hx27.2 (by omega) (by omega)
          have hm2 := Int.mul_le_mul ht4.1 (show (1 : Int) ≤ x by omega) (by omega) (by omega)
          have hm0 : 0 ≤ t * x := Int.mul_nonneg (by omega) (by omega)
          go_wp2_with (go_at_call 30; refine (l01In_any _ _ _ _).mono ?_; rintro e w' ⟨rfl, rfl⟩)
          go_round
          case rel =>
            refine ⟨k + 1, t * x, by omega, by go_num, rfl, ?_, ?_, by omega⟩
            · refine Lib.hid fun j hj => ?_
              rcases Nat.lt_succ_iff_lt_or_eq.1 hj with h2 | h2
              · exact HJ.out j h2
              · rw [h2, ← HX.out]; exact h1
            · refine Lib.hid ?_
              rw [take_snoc xs k HK.out, prodF_snoc, ← HT.out, ← HX.out]
          case measure => simp [intOf]; omega
        · have h1 : inB x 2 7 = false := by simpa using h1
          have HBF : Hid (B = false) := by rw [HB.out]; unfold metB; rw [allB_bad HM.out h1]; simp [Hid]
          go_wp2_with (go_at_call 30; refine (l01In_any _ _ _ _).mono ?_; rintro e w' ⟨rfl, rfl⟩)
          go_ret
          exact ⟨ret_bool HBF.out.symm, rfl⟩
      · obtain rfl : k = n := by omega
        have HBV : Hid (B = decide (t ≤ 24)) := by
          have h2 : allB xs 2 7 = true := allB_take HJ.out HN.out
          rw [HB.out]
          unfold metB
          rw [← HN.out, hlen, h2, Bool.true_and, Bool.true_and, HT.out, HN.out, List.take_length]
          exact rfl
        by_cases h24 : t ≤ 24
        · go_wp2_with fail
          go_ret
          exact ⟨ret_bool (by rw [HBV.out]; simp [h24]), rfl⟩
        · go_wp2_with fail
          go_ret
          exact ⟨ret_bool (by rw [HBV.out]; simp [h24]), rfl⟩
  · have hlen : inB n 1 5 = false := by simpa using hlen
    have HBF : Hid (B = false) := by rw [HB.out]; unfold metB; rw [← HN.out, hlen]; exact rfl
    go_enter Tryd.func25, Tryd.ntmps25
    go_wp2_with (go_at_call 30; refine (l01In_any _ _ _ _).mono ?_; rintro e w' ⟨rfl, rfl⟩)
    go_ret
    exact ⟨ret_bool HBF.out.symm, rfl⟩

theorem metI_any (A : Option Addr) (c : Nat) (xs : List Int) (w : World) (hr : RdI w A xs) (hn : xs.length ≤ 1048576) :
    Calls Tryd.prog 26 #[.slice A xs.length c] w fun e w' => e = .returned (.bool (metB xs)) ∧ Ext w w' := by
  have HB : Hid (metB xs = (inB xs.length 1 5 && (allB xs 2 7 && decide (prodF xs ≤ 24)))) := rfl
  have CA := Lib.hid (allWithin_any A c xs 2 7 w hr (by omega))
  have CP : Hid (inB xs.length 1 5 = true → allB xs 2 7 = true → ∀ V : World, Ext w V → Calls Tryd.prog 37 #[.slice A xs.length c] V fun e w' => e = .returned (.int .i64 (prodF xs)) ∧ V = w') := fun h1 h2 V he => by
    have := inB_iff.1 h1
    exact prodI_any A c xs V (hr.ext he) (by omega) (allB_iff.1 h2)
  rw [HB.out]
  obtain ⟨n, hnn⟩ : ∃ n, n = xs.length := ⟨_, rfl⟩
  obtain ⟨P, hP⟩ : ∃ P, P = prodF xs := ⟨_, rfl⟩
  obtain ⟨b2, hb2⟩ : ∃ b, b = allB xs 2 7 := ⟨_, rfl⟩
  rw [← hnn, ← hP, ← hb2] at CP
  rw [← hnn, ← hb2] at CA
  rw [← hnn, ← hP, ← hb2]
  rw [← hnn] at hn
  obtain ⟨b1, hb1⟩ : ∃ b, b = inB n 1 5 := ⟨_, rfl⟩
  have HB1 := Lib.hid hb1
  rw [← hb1] at CP ⊢
  clear hr hnn hP hb2 HB hb1
  go_enter Tryd.func26, Tryd.ntmps26
  go_wp2_with fail
  refine (within_any _ _ _ _).mono ?_
  rintro e w1 ⟨rfl, rfl⟩
  rw [← HB1.out]
  cases b1 with
  | false =>
    go_wp2_with fail
    go_ret
    exact ⟨rfl, Ext.refl _⟩
  | true =>
    go_wp2_with fail
    refine CA.out.mono ?_
    rintro e w2 ⟨rfl, e2⟩
    have X2 := Lib.hid e2
    clear e2
    cases b2 with
    | false =>
      go_wp2_with fail
      go_ret
      exact ⟨rfl, X2.out⟩
    | true =>
      go_wp2_with fail
      refine (CP.out (by trivial) (by trivial) _ X2.out).mono ?_
      rintro e w3 ⟨rfl, rfl⟩
      by_cases h24 : P ≤ 24
      · go_wp2_with fail
        go_ret
        exact ⟨ret_bool (by simp [h24]), X2.out⟩
      · go_wp2_with fail
        go_ret
        exact ⟨ret_bool (by simp), X2.out⟩

/-- A part of what a slice reads as. -/
theorem RdI.drop {w : World} {A : Option Addr} {xs : List Int} (h : RdI w A xs) (k : Nat) (hk : k < xs.length) : ∃ b o, A = some ⟨b, o, none⟩ ∧ RdI w (some ⟨b, o + k, none⟩) (xs.drop k) := by
  obtain ⟨b, o, rfl, hc⟩ := h.2 (by omega)
  refine ⟨b, o, rfl, by simp, fun _ => ⟨b, o + k, rfl, fun j u hu => ?_⟩⟩
  have := hc (k + j) u (by rw [← hu, List.getElem?_map, List.getElem?_map, List.getElem?_drop])
  rw [Nat.add_assoc]
  exact this
theorem RdI.take {w : World} {A : Option Addr} {xs : List Int} (h : RdI w A xs) (k : Nat) (hk : k ≤ xs.length) : RdI w A (xs.take k) := by
  refine ⟨by simp, fun h0 => ?_⟩
  rw [List.length_take] at h0
  obtain ⟨b, o, e, hc⟩ := h.2 (by omega)
  refine ⟨b, o, e, fun j u hu => hc j u ?_⟩
  have hj : j < k := by
    have := (List.getElem?_eq_some_iff.1 hu).1
    simp at this
    omega
  rw [← hu, List.getElem?_map, List.getElem?_map, List.getElem?_take, if_pos hj]

end Go.Proofs.YtedfmjijemcpaaaDoor
