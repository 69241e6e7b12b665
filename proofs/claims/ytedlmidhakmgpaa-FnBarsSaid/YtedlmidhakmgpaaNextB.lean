/- Contracts of slices.Equal, IndexFunc over slices of ints; impl.NextBar. -/
import Derived.Test.YtedlmidhakmgpaaNext
import Derived.Test.YtedlmidhakmgpaaBarB
namespace Go.Proofs.Ytedlmidhakmgpaa
open Go.RowKit

set_option maxHeartbeats 1000000 in
theorem equal_any (A B : Option Addr) (c d : Nat) (xs ys : List Int) (w : World) (ha : RdI w A xs) (hb : RdI w B ys) (hn : xs.length ≤ 9223372036854775807) (_hm : ys.length ≤ 9223372036854775807) :
    Calls Try.prog 61 #[.slice A xs.length c, .slice B ys.length d] w fun e w' => e = .returned (.bool (decide (xs = ys))) ∧ Ext w w' := by
  by_cases hl : xs.length = ys.length
  · obtain ⟨n, hnn⟩ : ∃ n, n = xs.length := ⟨_, rfl⟩
    rw [← hl, ← hnn]
    rw [← hnn] at hn
    have hmm : n = ys.length := by rw [hnn, hl]
    obtain ⟨R, hR⟩ : ∃ R, R = decide (xs = ys) := ⟨_, rfl⟩
    rw [← hR]
    have HN := Lib.hid hnn
    have HM := Lib.hid hmm
    have HA := Lib.hid ha
    have HB := Lib.hid hb
    have HR := Lib.hid hR
    clear hnn hmm ha hb hl hR
    go_enter Try.func61, Try.ntmps61
    go_wp2
    go_loopw [13] (fun i wr => ∃ k : Nat, k ≤ n ∧ i = .int .i64 k ∧ Hid (∀ j, j < k → xs.getD j 0 = ys.getD j 0) ∧ Hid (Ext w wr)) (fun i _ => n - (intOf i).toNat)
    case atStart => exact ⟨0, Nat.zero_le _, rfl, fun j hj => absurd hj (by omega), Ext.refl w⟩
    case round =>
      obtain ⟨k, hk, rfl, HJ, HE⟩ := hrel
      by_cases hlt : k < n
      · have hkx : k < xs.length := by rw [← HN.out]; exact hlt
        have hky : k < ys.length := by rw [← HM.out]; exact hlt
        obtain ⟨b, o, hA, hc⟩ := (HA.out.ext HE.out).at_ k hkx
        subst hA
        obtain ⟨b2, o2, hB, hc2⟩ := (HB.out.ext HE.out).at_ k hky
        subst hB
        obtain ⟨x, hx⟩ : ∃ x, x = xs.getD k 0 := ⟨_, rfl⟩
        obtain ⟨y, hy⟩ : ∃ y, y = ys.getD k 0 := ⟨_, rfl⟩
        rw [← hx] at hc
        rw [← hy] at hc2
        have HX := Lib.hid hx
        have HY := Lib.hid hy
        clear hx hy hkx hky
        by_cases hxy : x = y
        · subst hxy
          go_wp2
          go_quiet (fail)
          go_wp2
          go_roundw
          case rel =>
            refine ⟨k + 1, by omega, by go_num, fun j hj => ?_, HE.out.drewN _⟩
            by_cases hjk : j < k
            · exact HJ.out j hjk
            · obtain rfl : j = k := by omega
              rw [← HX.out, ← HY.out]
          case measure => simp [intOf]; omega
        · have HRF : Hid (R = false) := by
            rw [HR.out]
            refine (decide_eq_false fun e => hxy ?_ : decide (xs = ys) = false)
            rw [HX.out, HY.out, e]
          have hne : (x != y) = true := by simpa using hxy
          go_wp2
          go_quiet (fail)
          go_wp2
          go_ret
          exact ⟨ret_bool HRF.out.symm, HE.out.drewN _⟩
      · obtain rfl : k = n := by omega
        have HRT : Hid (R = true) := by
          rw [HR.out]
          refine (decide_eq_true ?_ : decide (xs = ys) = true)
          apply List.ext_getElem
          · rw [← HN.out, HM.out]
          · intro j h1 h2
            have := HJ.out j (by rw [HN.out]; exact h1)
            simpa [List.getD, h1, h2] using this
        go_wp2
        go_ret
        exact ⟨ret_bool HRT.out.symm, HE.out⟩
  · have e : decide (xs = ys) = false := decide_eq_false fun e => hl (by rw [e])
    rw [e]
    have hl2 : ¬ (xs.length : Int) = ys.length := by omega
    obtain ⟨n, hnn⟩ : ∃ n, n = xs.length := ⟨_, rfl⟩
    obtain ⟨m, hmm⟩ : ∃ m, m = ys.length := ⟨_, rfl⟩
    rw [← hnn, ← hmm] at hl2 ⊢
    rw [← hnn] at hn
    clear e hl ha hb hnn hmm
    go_enter Try.func61, Try.ntmps61
    go_wp2
    go_ret
    exact ⟨rfl, Ext.refl w⟩

theorem OwnSS.own_at {w : World} {L U : Nat} {A : Option Addr} {n c : Nat} {xss : List (List Int)} (h : OwnSS w L U (.slice A n c) xss) (k : Nat) (hk : k < xss.length) :
    ∃ b o A' c', A = some ⟨b, o, none⟩ ∧ w.cell? ⟨b, o + k, none⟩ = some (.slice A' (xss.getD k []).length c') ∧ OwI w L A' c' (xss.getD k []) := by
  obtain ⟨A1, c1, vs, e, ho, hb, hi⟩ := h
  injection e with e1 e2 e3
  subst e1 e3
  have hl := hi.len
  obtain ⟨b, o, u, hA, hu, hc⟩ := ho.rd.one k (by omega)
  obtain ⟨v, L', M', hv, h1, h2, ⟨A', c', rfl, hoi, _, _⟩, _⟩ := hi.pick k hk
  have hu2 : u = .slice A' (xss.getD k []).length c' := by rw [hu] at hv; injection hv
  rw [hu2] at hc
  exact ⟨b, o, A', c', hA, hc, hoi.lower h1⟩

/-- The closure: is the other one the bar? -/
theorem nextClos_any (A B : Option Addr) (c d g : Nat) (xs ys : List Int) (w : World) (hg : w.cell? ⟨g, 0, none⟩ = some (.slice B ys.length d)) (ha : RdI w A xs) (hb : RdI w B ys) (hn : xs.length ≤ 9223372036854775807) (hm : ys.length ≤ 9223372036854775807) :
    Calls Try.prog 60 #[.slice A xs.length c, .pointer (some ⟨g, 0, none⟩)] w fun e w' => e = .returned (.bool (decide (xs = ys))) ∧ Ext w w' := by
  have CE := Lib.hid (equal_any A B c d xs ys w ha hb hn hm)
  obtain ⟨R, hR⟩ : ∃ R, R = decide (xs = ys) := ⟨_, rfl⟩
  obtain ⟨n, hnn⟩ : ∃ n, n = xs.length := ⟨_, rfl⟩
  obtain ⟨m, hmm⟩ : ∃ m, m = ys.length := ⟨_, rfl⟩
  rw [← hR, ← hnn, ← hmm] at CE
  rw [← hR, ← hnn]
  rw [← hmm] at hg
  clear ha hb hn hm hR hnn hmm
  go_enter Try.func60, Try.ntmps60
  go_wp2_with fail
  refine CE.out.mono ?_
  rintro e w1 ⟨rfl, he⟩
  have HE := Lib.hid he
  clear he
  go_wp2_with fail
  go_ret
  exact ⟨rfl, HE.out⟩

set_option maxHeartbeats 1000000 in
/-- The place of a bar that stands in the list. -/
theorem nextIdx_any (A B : Option Addr) (n c d g L0 U0 : Nat) (xss : List (List Int)) (ys : List Int) (w : World) (h : OwnSS w L0 U0 (.slice A n c) xss) (hg : w.cell? ⟨g, 0, none⟩ = some (.slice B ys.length d)) (hb : RdI w B ys)
    (hm : ys.length ≤ 1000) (hin : ys ∈ xss) (hlen : ∀ b ∈ xss, b.length ≤ 1000) :
    Calls Try.prog 59 #[.slice A n c, .func (.func 60) #[] #[.pointer (some ⟨g, 0, none⟩)]] w fun e w' => ∃ k : Nat, e = .returned (.int .i64 k) ∧ k < n ∧ Hid (xss.getD k [] = ys) ∧ Ext w w' := by
  have hcap := h.cap
  have HN := Lib.hid hcap.1
  have hn := hcap.2
  have HO := Lib.hid h
  have HG := Lib.hid hg
  have HB := Lib.hid hb
  have HIN := Lib.hid hin
  have HLEN := Lib.hid hlen
  clear h hg hb hin hlen hcap
  go_enter Try.func59, Try.ntmps59
  go_wp2
  go_loopw [8] (fun i wr => ∃ k : Nat, k ≤ n ∧ i = .int .i64 k ∧ Hid (∀ j, j < k → xss.getD j [] ≠ ys) ∧ Hid (Ext w wr)) (fun i _ => n - (intOf i).toNat)
  case atStart => exact ⟨0, Nat.zero_le _, rfl, fun j hj => absurd hj (by omega), Ext.refl w⟩
  case round =>
    obtain ⟨k, hk, rfl, HJ, HE⟩ := hrel
    by_cases hlt : k < n
    · have hkx : k < xss.length := by rw [← HN.out]; exact hlt
      obtain ⟨b1, o1, A1, c1, hA1, hc1, ho1⟩ := (HO.out.ext HE.out).own_at k hkx
      subst hA1
      have hb12 := HLEN.out (xss.getD k []) (by simp [List.getD, hkx])
      have CC := Lib.hid (nextClos_any A1 B c1 d g (xss.getD k []) ys wr (HE.out.cell HG.out) ho1.rd (HB.out.ext HE.out) (by omega) (by omega))
      obtain ⟨q, hq⟩ : ∃ q, q = (xss.getD k []).length := ⟨_, rfl⟩
      rw [← hq] at hc1 CC
      by_cases he : xss.getD k [] = ys
      · rw [decide_eq_true he] at CC
        have HEQ := Lib.hid he
        clear ho1 hb12 hq he hkx
        go_wp2_with fail
        refine CC.out.mono ?_
        rintro e w1 ⟨rfl, he⟩
        have HX := Lib.hid (HE.out.trans he)
        clear he
        go_wp2_with fail
        go_ret
        exact ⟨k, rfl, hlt, HEQ, HX.out⟩
      · rw [decide_eq_false he] at CC
        have HNE : Hid (xss.getD k [] ≠ ys) := he
        clear ho1 hb12 hq he hkx
        go_wp2_with fail
        refine CC.out.mono ?_
        rintro e w1 ⟨rfl, he⟩
        have HX := Lib.hid (HE.out.trans he)
        clear he
        go_wp2_with fail
        go_roundw
        case rel =>
          refine ⟨k + 1, by omega, by go_num, fun j hj => ?_, HX.out⟩
          by_cases hjk : j < k
          · exact HJ.out j hjk
          · obtain rfl : j = k := by omega
            exact HNE.out
        case measure => simp [intOf]; omega
    · exfalso
      obtain ⟨j, hj, e⟩ := List.mem_iff_getElem.1 HIN.out
      exact HJ.out j (by have := HN.out; omega) (by simpa [List.getD, hj] using e)
end Go.Proofs.Ytedlmidhakmgpaa
