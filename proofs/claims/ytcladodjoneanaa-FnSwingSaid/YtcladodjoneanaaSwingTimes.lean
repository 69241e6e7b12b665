/- Contracts of SwingTimes. -/
import Derived.Test.YtcladodjoneanaaSwingB
import Derived.Test.YtcladodjoneanaaSlContains
namespace Go.Proofs.Ytcladodjoneanaa
open Go.RowKit

theorem swTm_bd (n s t : Int) : -1 ≤ swTmF n s t ∧ swTmF n s t ≤ 2000000 := by
  unfold swTmF
  by_cases h : swB n s = true ∧ inB t 0 1000000 = true
  · rw [if_pos h]
    have h' := swB_iff.1 h.1
    have ht := inB_iff.1 h.2
    have m0 : 0 ≤ t % (2 * n) := Int.emod_nonneg _ (by omega)
    have m1 : t % (2 * n) ≤ 2 * n := Int.le_of_lt (Int.emod_lt_of_pos _ (by omega))
    have := swp_bd h.1 m0 m1
    have hq : 0 ≤ t - t % (2 * n) := by
      have := Int.mul_ediv_add_emod t (2 * n)
      have h3 : 0 ≤ (2 * n) * (t / (2 * n)) := Int.mul_nonneg (by omega) (Int.ediv_nonneg ht.1 (by omega))
      omega
    omega
  · rw [if_neg h]
    omega

/-- SwingTimes. -/
def swTmsF (n s : Int) (xs : List Int) : List Int := if xs.length ≤ 64 ∧ ∀ t ∈ xs, 0 ≤ swTmF n s t then xs.map (swTmF n s) else []

theorem swTmsF_bad {n s : Int} {xs : List Int} {k : Nat} (hk : k < xs.length) (h : swTmF n s (xs.getD k 0) < 0) : swTmsF n s xs = [] := by
  unfold swTmsF
  rw [if_neg]
  rintro ⟨_, ha⟩
  have := ha (xs.getD k 0) (by simp [List.getD, hk])
  omega
theorem swTmsF_len (n s : Int) (xs : List Int) : (swTmsF n s xs).length ≤ xs.length := by unfold swTmsF; split <;> simp
theorem swTmsF_long {n s : Int} {xs : List Int} (h : 64 < xs.length) : swTmsF n s xs = [] := by
  unfold swTmsF
  rw [if_neg]
  rintro ⟨ha, _⟩
  omega

set_option maxHeartbeats 400000 in
theorem swTmsS_any (n s : Int) (A : Option Addr) (c : Nat) (xs : List Int) (w : World) (hr : RdI w A xs) (hn : xs.length ≤ 1048576) :
    Calls Try.prog 36 #[.int .i64 n, .int .i64 s, .slice A xs.length c] w (RetI w (swTmsF n s xs)) := by
  obtain ⟨m, hm⟩ : ∃ m, m = xs.length := ⟨_, rfl⟩
  rw [← hm] at hn ⊢
  have HM := Lib.hid hm
  have HR := Lib.hid hr
  obtain ⟨ys, hys⟩ : ∃ ys, ys = xs.map (swTmF n s) := ⟨_, rfl⟩
  have HY := Lib.hid hys
  clear hm hr hys
  go_enter Try.func36, Try.ntmps36
  go_wp2
  go_loopw [7, 14] (fun v i wr => ∃ (k : Nat) (A' : Option Addr) (c' : Nat), k ≤ m ∧ i = .int .i64 k ∧ v = .slice A' k c' ∧ Hid (OwI wr w.heap.size A' c' (ys.take k)) ∧ Hid (∀ t ∈ xs.take k, 0 ≤ swTmF n s t) ∧ Hid (Ext w wr)) (fun _ i _ => m - (intOf i).toNat)
  case atStart => exact ⟨0, _, _, Nat.zero_le _, rfl, rfl, by rw [List.take_zero]; exact OwI.empty w, fun t ht => by simp at ht, (Ext.refl w).alloc _⟩
  case round =>
    obtain ⟨k, A', c', hk, rfl, rfl, HO, HP, HE⟩ := hrel
    by_cases hlt : k < m
    · have hkx : k < xs.length := by rw [← HM.out]; exact hlt
      obtain ⟨b, o, hA, hc⟩ := (HR.out.ext HE.out).at_ k hkx
      subst hA
      obtain ⟨x, hx⟩ : ∃ x, x = xs.getD k 0 := ⟨_, rfl⟩
      rw [← hx] at hc
      have HX := Lib.hid hx
      have HK := Lib.hid hkx
      have hbd := swTm_bd n s x
      clear hx hkx
      by_cases hneg : swTmF n s x < 0
      · go_wp2_with (go_at_call 30; refine (swTmS_any _ _ _ _).mono ?_; rintro e w' ⟨rfl, q, rfl⟩)
        go_ret
        rw [swTmsF_bad (k := k) HK.out (by rw [← HX.out]; exact hneg)]
        exact RetI.nil (HE.out.drewN _)
      · go_wp2_with (first | (go_at_call 30; refine (swTmS_any _ _ _ _).mono ?_; rintro e w' ⟨rfl, q, rfl⟩) | (at_builtin; refine app_int w _ rfl _ _ rfl _ _ _ _ _ rfl rfl ?c1 ((HO.out).ext ((Ext.refl _).drewN q)) (HE.out.drewN q) ?c2 ?c3))
        case c1 => have := HK.out; have := HY.out; subst this; simp; omega
        case c2 => omega
        intro A2 c2 w2 ho he
        have HO2 := Lib.hid ho
        have HE2 := Lib.hid he
        clear ho he
        go_wp2
        go_roundw
        case rel =>
          refine ⟨k + 1, A2, c2, by omega, by go_num, rfl, ?_, ?_, HE2⟩
          · rw [take_snoc ys k (by rw [HY.out, List.length_map]; exact HK.out), HY.out, getD_map _ _ _ HK.out, ← HX.out, ← HY.out]; exact HO2
          · intro t ht
            rw [take_snoc _ _ HK.out, ← HX.out] at ht
            rcases List.mem_append.1 ht with h1 | h1
            · exact HP.out t h1
            · simp at h1; subst h1; omega
        case measure => simp [intOf]; omega
    · obtain rfl : k = m := by omega
      by_cases hlong : 64 < k
      · go_wp2
        go_ret
        rw [swTmsF_long (by rw [← HM.out]; exact hlong)]
        exact RetI.nil HE.out
      · go_wp2
        go_ret
        have e : swTmsF n s xs = xs.map (swTmF n s) := by
          unfold swTmsF
          have := HP.out
          rw [take_all _ _ HM.out] at this
          rw [if_pos ⟨by rw [← HM.out]; omega, this⟩]
        rw [e, ← HY.out]
        have h := HO.out
        have hl : k = ys.length := by rw [HY.out, List.length_map]; exact HM.out
        rw [take_all ys k hl] at h
        rw [hl]
        exact ⟨A', c', rfl, h, HE.out⟩

set_option maxHeartbeats 400000 in
theorem swTmsI_any (n s : Int) (A : Option Addr) (c : Nat) (xs : List Int) (w : World) (hr : RdI w A xs) (hn : xs.length ≤ 1048576) :
    Calls Try.prog 38 #[.int .i64 n, .int .i64 s, .slice A xs.length c] w (RetI w (swTmsF n s xs)) := by
  obtain ⟨m, hm⟩ : ∃ m, m = xs.length := ⟨_, rfl⟩
  rw [← hm] at hn ⊢
  have HM := Lib.hid hm
  have HR := Lib.hid hr
  obtain ⟨ys, hys⟩ : ∃ ys, ys = xs.map (swTmF n s) := ⟨_, rfl⟩
  have HY := Lib.hid hys
  clear hm hr hys
  by_cases hlong : 64 < m
  · go_enter Try.func38, Try.ntmps38
    go_wp2
    go_ret
    rw [swTmsF_long (by rw [← HM.out]; exact hlong)]
    exact RetI.nil (Ext.refl _)
  · go_enter Try.func38, Try.ntmps38
    go_wp2
    go_loopw [7, 15] (fun v i wr => ∃ (k : Nat) (A' : Option Addr) (c' : Nat), k ≤ m ∧ i = .int .i64 k ∧ v = .slice A' k c' ∧ Hid (OwI wr w.heap.size A' c' (ys.take k)) ∧ Hid (Ext w wr)) (fun _ i _ => m - (intOf i).toNat)
    case atStart => exact ⟨0, _, _, Nat.zero_le _, rfl, rfl, by rw [List.take_zero]; exact OwI.nil w _, Ext.refl w⟩
    case round =>
      obtain ⟨k, A', c', hk, rfl, rfl, HO, HE⟩ := hrel
      by_cases hlt : k < m
      · have hkx : k < xs.length := by rw [← HM.out]; exact hlt
        obtain ⟨b, o, hA, hc⟩ := (HR.out.ext HE.out).at_ k hkx
        subst hA
        obtain ⟨x, hx⟩ : ∃ x, x = xs.getD k 0 := ⟨_, rfl⟩
        rw [← hx] at hc
        have HX := Lib.hid hx
        have HK := Lib.hid hkx
        clear hx hkx
        go_wp2_with (first | (go_at_call 31; refine (swTmI_any _ _ _ _).mono ?_; rintro e w' ⟨rfl, q, rfl⟩) | (at_builtin; refine app_int w _ rfl _ _ rfl _ _ _ _ _ rfl rfl ?c1 ((HO.out).ext ((Ext.refl _).drewN q)) (HE.out.drewN q) ?c2 ?c3))
        case c1 => have := HK.out; have := HY.out; subst this; simp; omega
        case c2 => omega
        intro A2 c2 w2 ho he
        have HO2 := Lib.hid ho
        have HE2 := Lib.hid he
        clear ho he
        go_wp2
        go_roundw
        case rel =>
          refine ⟨k + 1, A2, c2, by omega, by go_num, rfl, ?_, HE2⟩
          rw [take_snoc ys k (by rw [HY.out, List.length_map]; exact HK.out), HY.out, getD_map _ _ _ HK.out, ← HX.out, ← HY.out]; exact HO2
        case measure => simp [intOf]; omega
      · obtain rfl : k = m := by omega
        have hl : k = ys.length := by rw [HY.out, List.length_map]; exact HM.out
        have ho := HO.out
        rw [take_all ys k hl] at ho
        have HL := Lib.hid hl
        have HO2 := Lib.hid ho
        clear hl ho
        obtain ⟨bb, hbb⟩ : ∃ bb, bb = decide (-1 ∈ ys) := ⟨_, rfl⟩
        have HC := Lib.hid (slContains_any A' c' ys (-1) wr HO2.out.rd (by rw [← HL.out]; omega))
        rw [← hbb, ← HL.out] at HC
        have HB := Lib.hid hbb
        clear hbb
        go_wp2_with (go_at_call 54; refine HC.out.mono ?_; rintro e w' ⟨rfl, rfl⟩)
        all_goals go_ret
        · have hm : -1 ∈ ys := of_decide_eq_true (HB.out.symm.trans (by assumption))
          have e : swTmsF n s xs = [] := by
            unfold swTmsF
            rw [if_neg]
            rintro ⟨_, ha⟩
            rw [HY.out] at hm
            obtain ⟨t, ht, he⟩ := List.mem_map.1 hm
            have := ha t ht
            omega
          rw [e]
          exact RetI.nil HE.out
        · have hm : ¬ -1 ∈ ys := of_decide_eq_false (HB.out.symm.trans (by assumption))
          have e : swTmsF n s xs = ys := by
            unfold swTmsF
            rw [if_pos, HY.out]
            refine ⟨by rw [← HM.out]; omega, fun t ht => ?_⟩
            have h1 := swTm_bd n s t
            have h2 : swTmF n s t ≠ -1 := fun e => hm (by rw [HY.out]; exact List.mem_map.2 ⟨t, ht, e⟩)
            omega
          rw [e, HL.out]
          exact ⟨A', c', rfl, HO2.out, HE.out⟩
end Go.Proofs.Ytcladodjoneanaa
