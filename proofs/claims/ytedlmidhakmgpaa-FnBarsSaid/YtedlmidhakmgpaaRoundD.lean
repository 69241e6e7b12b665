/- Contracts of IsRoundBar, CountRoundBars. -/
import Derived.Test.YtedlmidhakmgpaaRoundC
import Derived.Test.YtedlmidhakmgpaaBarsC
import Derived.Test.YtedlmidhakmgpaaBarB
namespace Go.Proofs.Ytedlmidhakmgpaa
open Go.RowKit

theorem OwnS.rdc {w : World} {L U : Nat} {v : Value} {xs : List Int} (h : OwnS w L U v xs) : ∃ A c, v = .slice A xs.length c ∧ RdI w A xs ∧ xs.length ≤ c := by
  obtain ⟨A, c, rfl, ho, _⟩ := h
  obtain ⟨A', c', e, h1, _⟩ := own_form ho
  injection e with _ _ e
  exact ⟨A, c, rfl, ho.rd, by omega⟩

def rbB (xs : List Int) : Bool := barB xs && roundB xs
theorem rbS_any (A : Option Addr) (c : Nat) (xs : List Int) (w : World) (hr : RdI w A xs) (hn : xs.length ≤ 1048576) (hc : xs.length ≤ c) :
    Calls Try.prog 35 #[.slice A xs.length c] w fun e w' => e = .returned (.bool (rbB xs)) ∧ Ext w w' := by
  have HR := Lib.hid hr
  have CB : Hid (∀ w, RdI w A xs → Calls Try.prog _ #[.slice A xs.length c] w fun e w' => e = .returned (.bool (barB xs)) ∧ Ext w w') := fun w h => barS_ext A c xs w h (by omega)
  by_cases hb : barB xs = true
  · have h12 := (barB_iff hb).1
    have CR : Hid (∀ w, RdI w A xs → Calls Try.prog _ #[.slice A xs.length c] w fun e w' => e = .returned (.bool (roundB xs)) ∧ Ext w w') := fun w h => roundS_any A c xs w h hc (by omega)
    have e : rbB xs = roundB xs := by unfold rbB; rw [hb]; rfl
    rw [e]
    obtain ⟨R, hR⟩ : ∃ R, R = roundB xs := ⟨_, rfl⟩
    obtain ⟨n, hnn⟩ : ∃ n, n = xs.length := ⟨_, rfl⟩
    rw [hb, ← hnn] at CB
    rw [← hR, ← hnn] at CR
    rw [← hR, ← hnn]
    clear e hr hn hc hb h12 hR hnn
    go_enter Try.func35, Try.ntmps35
    go_wp2_with fail
    refine (CB.out _ HR.out).mono ?_
    rintro e w1 ⟨rfl, he⟩
    have HX := Lib.hid he
    clear he
    go_wp2_with fail
    refine (CR.out _ (HR.out.ext HX.out)).mono ?_
    rintro e w2 ⟨rfl, he⟩
    have HX2 := Lib.hid (HX.out.trans he)
    clear he
    go_wp2_with fail
    go_ret
    exact ⟨ret_bool (by simp), HX2.out⟩
  · have hb : barB xs = false := by simpa using hb
    have e : rbB xs = false := by unfold rbB; rw [hb]; rfl
    rw [e]
    obtain ⟨n, hnn⟩ : ∃ n, n = xs.length := ⟨_, rfl⟩
    rw [hb, ← hnn] at CB
    rw [← hnn]
    clear e hr hn hc hb hnn
    go_enter Try.func35, Try.ntmps35
    go_wp2_with fail
    refine (CB.out _ HR.out).mono ?_
    rintro e w1 ⟨rfl, he⟩
    have HX := Lib.hid he
    clear he
    go_wp2_with fail
    go_ret
    exact ⟨rfl, HX.out⟩
theorem rbI_any (A : Option Addr) (c : Nat) (xs : List Int) (w : World) (hr : RdI w A xs) (hn : xs.length ≤ 1048576) (hc : xs.length ≤ c) :
    Calls Try.prog 36 #[.slice A xs.length c] w fun e w' => e = .returned (.bool (rbB xs)) ∧ Ext w w' := by
  have HR := Lib.hid hr
  have CB : Hid (∀ w, RdI w A xs → Calls Try.prog _ #[.slice A xs.length c] w fun e w' => e = .returned (.bool (barB xs)) ∧ Ext w w') := fun w h => barI_any A c xs w h (by omega)
  by_cases hb : barB xs = true
  · have h12 := (barB_iff hb).1
    have CR : Hid (∀ w, RdI w A xs → Calls Try.prog _ #[.slice A xs.length c] w fun e w' => e = .returned (.bool (roundB xs)) ∧ Ext w w') := fun w h => roundI_any A c xs w h hc (by omega)
    have e : rbB xs = roundB xs := by unfold rbB; rw [hb]; rfl
    rw [e]
    obtain ⟨R, hR⟩ : ∃ R, R = roundB xs := ⟨_, rfl⟩
    obtain ⟨n, hnn⟩ : ∃ n, n = xs.length := ⟨_, rfl⟩
    rw [hb, ← hnn] at CB
    rw [← hR, ← hnn] at CR
    rw [← hR, ← hnn]
    clear e hr hn hc hb h12 hR hnn
    go_enter Try.func36, Try.ntmps36
    go_wp2_with fail
    refine (CB.out _ HR.out).mono ?_
    rintro e w1 ⟨rfl, he⟩
    have HX := Lib.hid he
    clear he
    go_wp2_with fail
    refine (CR.out _ (HR.out.ext HX.out)).mono ?_
    rintro e w2 ⟨rfl, he⟩
    have HX2 := Lib.hid (HX.out.trans he)
    clear he
    go_wp2_with fail
    go_ret
    exact ⟨ret_bool (by simp), HX2.out⟩
  · have hb : barB xs = false := by simpa using hb
    have e : rbB xs = false := by unfold rbB; rw [hb]; rfl
    rw [e]
    obtain ⟨n, hnn⟩ : ∃ n, n = xs.length := ⟨_, rfl⟩
    rw [hb, ← hnn] at CB
    rw [← hnn]
    clear e hr hn hc hb hnn
    go_enter Try.func36, Try.ntmps36
    go_wp2_with fail
    refine (CB.out _ HR.out).mono ?_
    rintro e w1 ⟨rfl, he⟩
    have HX := Lib.hid he
    clear he
    go_wp2_with fail
    go_ret
    exact ⟨rfl, HX.out⟩

theorem listS_any (n : Nat) (hn : n ≤ 16) (h1 : 1 ≤ n) (w : World) : Calls Try.prog 19 #[.int .i64 n] w (RetSS w (barsL n)) := by
  have := boS_any n w
  have e : boF n = barsL n := by unfold boF; rw [if_pos (inB_iff.2 ⟨by omega, by omega⟩)]; rfl
  rw [e] at this
  exact this
theorem listI_any (n : Nat) (hn : n ≤ 16) (_h1 : 1 ≤ n) (w : World) : Calls Try.prog 49 #[.int .i64 n, .slice none 0 0] w (RetSS w (barsL n)) := by
  have := barsFrom_any n (by omega) none 0 [] w (Rd.nil _ _ _) (by simp; omega)
  simpa using this

/-- The number of round ones. -/
def crF (n : Int) : Int := if inB n 1 16 = true then ((barsL n.toNat).filter roundB).length else -1

set_option maxHeartbeats 1000000 in
theorem crS_any (n : Int) (w : World) : Calls Try.prog 33 #[.int .i64 n] w fun e w' => e = .returned (.int .i64 (crF n)) ∧ Ext w w' := by
  by_cases h : inB n 1 16 = true
  · have e : crF n = ((barsL n.toNat).filter roundB).length := by unfold crF; rw [if_pos h]
    rw [e]
    have h' := inB_iff.1 h
    obtain ⟨N, rfl⟩ := Int.eq_ofNat_of_zero_le (show 0 ≤ n by omega)
    have hN : N ≤ 16 := by omega
    have CB := Lib.hid (listS_any N hN (by omega) w)
    rw [Int.toNat_natCast]
    obtain ⟨L, hL⟩ : ∃ L, L = barsL N := ⟨_, rfl⟩
    have HIN : Hid (∀ b ∈ L, b.length ≤ 12) := by rw [hL]; exact barsL_in N (by omega)
    have hlen := barsL_len N (by omega)
    rw [← hL] at CB hlen ⊢
    clear e h' hL
    go_enter Try.func33, Try.ntmps33
    go_wp2_with fail
    refine (l01In_any _ _ _ _).mono ?_
    rintro e w1 ⟨rfl, rfl⟩
    go_wp2_with fail
    refine CB.out.mono ?_
    rintro e w2 ⟨v, rfl, ho, he⟩
    obtain ⟨A, c, l, vs, rfl, hll, _, _⟩ := ho.parts
    have HO := Lib.hid ho
    have HE := Lib.hid he
    have HL := Lib.hid hll
    have hlb : l ≤ 1000 := by omega
    clear ho he hll hlen
    go_wp2_with fail
    go_loopw [3, 12] (fun s i wr => ∃ (k t : Nat), k ≤ l ∧ i = .int .i64 k ∧ s = .int .i64 t ∧ t ≤ k ∧ Hid (t = ((L.take k).filter roundB).length) ∧ Hid (Ext w wr) ∧ Hid (Ext w2 wr)) (fun _ i _ => l - (intOf i).toNat)
    case atStart => exact ⟨0, 0, Nat.zero_le _, rfl, rfl, by omega, rfl, HE.out, Ext.refl w2⟩
    case round =>
      obtain ⟨k, t, hk, rfl, rfl, ht, HT, HEr, HE2⟩ := hrel
      by_cases hlt : k < l
      · have hkx : k < L.length := by rw [← HL.out]; exact hlt
        obtain ⟨b1, o1, A1, c1, L1, M1, hA1, hc1, ho1, _⟩ := (HO.out.ext HE2.out).at_ k hkx
        subst hA1
        obtain ⟨_, _, e1, r1, hcap⟩ := ho1.rdc
        injection e1 with e11 _ e13
        subst e11 e13
        have hb12 := HIN.out (L.getD k []) (by simp [List.getD, hkx])
        have CR := Lib.hid (roundS_any _ _ (L.getD k []) wr r1 hcap (by omega))
        obtain ⟨B, hB⟩ : ∃ B, B = roundB (L.getD k []) := ⟨_, rfl⟩
        obtain ⟨q, hq⟩ : ∃ q, q = (L.getD k []).length := ⟨_, rfl⟩
        have HTN : Hid (t + (if B = true then 1 else 0) = ((L.take (k + 1)).filter roundB).length) := by
          rw [takeSS_snoc L k hkx, List.filter_append, List.length_append, ← HT.out, hB]
          congr 1
          simp only [List.filter_cons, List.filter_nil]
          split <;> simp
        rw [← hB] at CR
        rw [← hq] at hc1 CR
        clear ho1 r1 hcap hb12 hB hq hkx
        cases B with
        | true =>
          go_wp2_with fail
          refine CR.out.mono ?_
          rintro e w3 ⟨rfl, he⟩
          have HEr2 := Lib.hid (HEr.out.trans he)
          have HE22 := Lib.hid (HE2.out.trans he)
          clear he
          go_wp2_with fail
          go_roundw
          case rel => exact ⟨k + 1, t + 1, by omega, by go_num, by go_num, by omega, (by have := HTN.out; simp at this; exact this), HEr2.out, HE22.out⟩
          case measure => simp [intOf]; omega
        | false =>
          go_wp2_with fail
          refine CR.out.mono ?_
          rintro e w3 ⟨rfl, he⟩
          have HEr2 := Lib.hid (HEr.out.trans he)
          have HE22 := Lib.hid (HE2.out.trans he)
          clear he
          go_wp2_with fail
          go_roundw
          case rel => exact ⟨k + 1, t, by omega, by go_num, rfl, by omega, (by have := HTN.out; simp at this; exact this), HEr2.out, HE22.out⟩
          case measure => simp [intOf]; omega
      · obtain rfl : k = l := by omega
        have HT2 : Hid (t = (L.filter roundB).length) := by rw [HT.out, HL.out]; simp [Hid]
        clear HT
        go_wp2
        go_ret
        exact ⟨ret_int (by rw [HT2.out]), HEr.out⟩
  · have h : inB n 1 16 = false := by simpa using h
    have e : crF n = -1 := by unfold crF; rw [h]; rfl
    rw [e]
    clear e
    go_enter Try.func33, Try.ntmps33
    go_wp2_with fail
    refine (l01In_any _ _ _ _).mono ?_
    rintro e w1 ⟨rfl, rfl⟩
    go_wp2_with fail
    go_ret
    exact ⟨rfl, Ext.refl _⟩
set_option maxHeartbeats 1000000 in
theorem crI_any (n : Int) (w : World) : Calls Try.prog 34 #[.int .i64 n] w fun e w' => e = .returned (.int .i64 (crF n)) ∧ Ext w w' := by
  by_cases h : inB n 1 16 = true
  · have e : crF n = ((barsL n.toNat).filter roundB).length := by unfold crF; rw [if_pos h]
    rw [e]
    have h' := inB_iff.1 h
    obtain ⟨N, rfl⟩ := Int.eq_ofNat_of_zero_le (show 0 ≤ n by omega)
    have hN : N ≤ 16 := by omega
    have CB := Lib.hid (listI_any N hN (by omega) w)
    rw [Int.toNat_natCast]
    obtain ⟨L, hL⟩ : ∃ L, L = barsL N := ⟨_, rfl⟩
    have HIN : Hid (∀ b ∈ L, b.length ≤ 12) := by rw [hL]; exact barsL_in N (by omega)
    have hlen := barsL_len N (by omega)
    rw [← hL] at CB hlen ⊢
    clear e h' hL
    go_enter Try.func34, Try.ntmps34
    go_wp2_with fail
    refine (within_any _ _ _ _).mono ?_
    rintro e w1 ⟨rfl, rfl⟩
    go_wp2_with fail
    refine CB.out.mono ?_
    rintro e w2 ⟨v, rfl, ho, he⟩
    obtain ⟨A, c, l, vs, rfl, hll, _, _⟩ := ho.parts
    have HO := Lib.hid ho
    have HE := Lib.hid he
    have HL := Lib.hid hll
    have hlb : l ≤ 1000 := by omega
    clear ho he hll hlen
    go_wp2_with fail
    go_loopw [3, 12] (fun s i wr => ∃ (k t : Nat), k ≤ l ∧ i = .int .i64 k ∧ s = .int .i64 t ∧ t ≤ k ∧ Hid (t = ((L.take k).filter roundB).length) ∧ Hid (Ext w wr) ∧ Hid (Ext w2 wr)) (fun _ i _ => l - (intOf i).toNat)
    case atStart => exact ⟨0, 0, Nat.zero_le _, rfl, rfl, by omega, rfl, HE.out, Ext.refl w2⟩
    case round =>
      obtain ⟨k, t, hk, rfl, rfl, ht, HT, HEr, HE2⟩ := hrel
      by_cases hlt : k < l
      · have hkx : k < L.length := by rw [← HL.out]; exact hlt
        obtain ⟨b1, o1, A1, c1, L1, M1, hA1, hc1, ho1, _⟩ := (HO.out.ext HE2.out).at_ k hkx
        subst hA1
        obtain ⟨_, _, e1, r1, hcap⟩ := ho1.rdc
        injection e1 with e11 _ e13
        subst e11 e13
        have hb12 := HIN.out (L.getD k []) (by simp [List.getD, hkx])
        have CR := Lib.hid (roundI_any _ _ (L.getD k []) wr r1 hcap (by omega))
        obtain ⟨B, hB⟩ : ∃ B, B = roundB (L.getD k []) := ⟨_, rfl⟩
        obtain ⟨q, hq⟩ : ∃ q, q = (L.getD k []).length := ⟨_, rfl⟩
        have HTN : Hid (t + (if B = true then 1 else 0) = ((L.take (k + 1)).filter roundB).length) := by
          rw [takeSS_snoc L k hkx, List.filter_append, List.length_append, ← HT.out, hB]
          congr 1
          simp only [List.filter_cons, List.filter_nil]
          split <;> simp
        rw [← hB] at CR
        rw [← hq] at hc1 CR
        clear ho1 r1 hcap hb12 hB hq hkx
        cases B with
        | true =>
          go_wp2_with fail
          refine CR.out.mono ?_
          rintro e w3 ⟨rfl, he⟩
          have HEr2 := Lib.hid (HEr.out.trans he)
          have HE22 := Lib.hid (HE2.out.trans he)
          clear he
          go_wp2_with fail
          go_roundw
          case rel => exact ⟨k + 1, t + 1, by omega, by go_num, by go_num, by omega, (by have := HTN.out; simp at this; exact this), HEr2.out, HE22.out⟩
          case measure => simp [intOf]; omega
        | false =>
          go_wp2_with fail
          refine CR.out.mono ?_
          rintro e w3 ⟨rfl, he⟩
          have HEr2 := Lib.hid (HEr.out.trans he)
          have HE22 := Lib.hid (HE2.out.trans he)
          clear he
          go_wp2_with fail
          go_roundw
          case rel => exact ⟨k + 1, t, by omega, by go_num, rfl, by omega, (by have := HTN.out; simp at this; exact this), HEr2.out, HE22.out⟩
          case measure => simp [intOf]; omega
      · obtain rfl : k = l := by omega
        have HT2 : Hid (t = (L.filter roundB).length) := by rw [HT.out, HL.out]; simp [Hid]
        clear HT
        go_wp2
        go_ret
        exact ⟨ret_int (by rw [HT2.out]), HEr.out⟩
  · have h : inB n 1 16 = false := by simpa using h
    have e : crF n = -1 := by unfold crF; rw [h]; rfl
    rw [e]
    clear e
    go_enter Try.func34, Try.ntmps34
    go_wp2_with fail
    refine (within_any _ _ _ _).mono ?_
    rintro e w1 ⟨rfl, rfl⟩
    go_wp2_with fail
    go_ret
    exact ⟨rfl, Ext.refl _⟩
end Go.Proofs.Ytedlmidhakmgpaa
