/- Contract of slices.Equal at []int. -/
import Derived.Test.YtnhppeknkeblfaaOwn
namespace Go.Proofs.Ytnhppeknkeblfaa
open Go.RowKit

set_option maxHeartbeats 1000000 in
theorem equal_any (A B : Option Addr) (c d : Nat) (xs ys : List Int) (w : World) (ha : RdI w A xs) (hb : RdI w B ys) (hn : xs.length ≤ 9223372036854775807) (_hm : ys.length ≤ 9223372036854775807) :
    Calls Try.prog 62 #[.slice A xs.length c, .slice B ys.length d] w fun e w' => e = .returned (.bool (decide (xs = ys))) ∧ Ext w w' := by
  by_cases hl : xs.length = ys.length
  · obtain ⟨n, hnn⟩ : ∃ n, n = xs.length := ⟨_, rfl⟩
    rw [← hl, ← hnn]
    rw [← hnn] at hn
    have hmm : n = ys.length := by rw [hnn, hl]
    obtain ⟨R, hR⟩ : ∃ R, R = decide (xs = ys) := ⟨_, rfl⟩
    rw [← hR]
    have HN := Lib.hid hnn
    have HM := Lib.hid hmm
    have HA := Lib.hid ha
    have HB := Lib.hid hb
    have HR := Lib.hid hR
    clear hnn hmm ha hb hl hR
    go_enter Try.func62, Try.ntmps62
    go_wp2
    go_loopw [13] (fun i wr => ∃ k : Nat, k ≤ n ∧ i = .int .i64 k ∧ Hid (∀ j, j < k → xs.getD j 0 = ys.getD j 0) ∧ Hid (Ext w wr)) (fun i _ => n - (intOf i).toNat)
    case atStart => exact ⟨0, Nat.zero_le _, rfl, fun j hj => absurd hj (by omega), Ext.refl w⟩
    case round =>
      obtain ⟨k, hk, rfl, HJ, HE⟩ := hrel
      by_cases hlt : k < n
      · have hkx : k < xs.length := by rw [← HN.out]; exact hlt
        have hky : k < ys.length := by rw [← HM.out]; exact hlt
        obtain ⟨b, o, hA, hc⟩ := (HA.out.ext HE.out).at_ k hkx
        subst hA
        obtain ⟨b2, o2, hB, hc2⟩ := (HB.out.ext HE.out).at_ k hky
        subst hB
        obtain ⟨x, hx⟩ : ∃ x, x = xs.getD k 0 := ⟨_, rfl⟩
        obtain ⟨y, hy⟩ : ∃ y, y = ys.getD k 0 := ⟨_, rfl⟩
        rw [← hx] at hc
        rw [← hy] at hc2
        have HX := Lib.hid hx
        have HY := Lib.hid hy
        clear hx hy hkx hky
        by_cases hxy : x = y
        · subst hxy
          go_wp2
          go_quiet (fail)
          go_wp2
          go_roundw
          case rel =>
            refine ⟨k + 1, by omega, by go_num, fun j hj => ?_, HE.out.drewN _⟩
            by_cases hjk : j < k
            · exact HJ.out j hjk
            · obtain rfl : j = k := by omega
              rw [← HX.out, ← HY.out]
          case measure => simp [intOf]; omega
        · have HRF : Hid (R = false) := by
            rw [HR.out]
            refine (decide_eq_false fun e => hxy ?_ : decide (xs = ys) = false)
            rw [HX.out, HY.out, e]
          have hne : (x != y) = true := by simpa using hxy
          go_wp2
          go_quiet (fail)
          go_wp2
          go_ret
          exact ⟨ret_bool HRF.out.symm, HE.out.drewN _⟩
      · obtain rfl : k = n := by omega
        have HRT : Hid (R = true) := by
          rw [HR.out]
          refine (decide_eq_true ?_ : decide (xs = ys) = true)
          apply List.ext_getElem
          · rw [← HN.out, HM.out]
          · intro j h1 h2
            have := HJ.out j (by rw [HN.out]; exact h1)
            simpa [List.getD, h1, h2] using this
        go_wp2
        go_ret
        exact ⟨ret_bool HRT.out.symm, HE.out⟩
  · have e : decide (xs = ys) = false := decide_eq_false fun e => hl (by rw [e])
    rw [e]
    have hl2 : ¬ (xs.length : Int) = ys.length := by omega
    obtain ⟨n, hnn⟩ : ∃ n, n = xs.length := ⟨_, rfl⟩
    obtain ⟨m, hmm⟩ : ∃ m, m = ys.length := ⟨_, rfl⟩
    rw [← hnn, ← hmm] at hl2 ⊢
    rw [← hnn] at hn
    clear e hl ha hb hnn hmm
    go_enter Try.func62, Try.ntmps62
    go_wp2
    go_ret
    exact ⟨rfl, Ext.refl w⟩

end Go.Proofs.Ytnhppeknkeblfaa
