/- Contracts of DoubleBar. -/
import Derived.Test.YtedlmidhakmgpaaBar
namespace Go.Proofs.Ytedlmidhakmgpaa
open Go.RowKit

def dblF (xs : List Int) : List Int := xs.flatMap fun x => [x, x]
theorem dblF_len (xs : List Int) : (dblF xs).length = 2 * xs.length := by
  induction xs with
  | nil => rfl
  | cons x xs ih => simp [dblF] at ih ⊢; omega
theorem dblF_snoc (xs : List Int) (k : Nat) (h : k < xs.length) : dblF (xs.take (k + 1)) = dblF (xs.take k) ++ [xs.getD k 0, xs.getD k 0] := by
  rw [take_snoc xs k h]
  simp [dblF]
/-- The answers of DoubleBar. -/
def dbB (xs : List Int) : Bool := barB xs && barB (dblF xs)
def dbF (xs : List Int) : List Int := if dbB xs = true then dblF xs else []

theorem barS_ext (A : Option Addr) (c : Nat) (xs : List Int) (w : World) (hr : RdI w A xs) (hn : xs.length ≤ 4194304) :
    Calls Try.prog 15 #[.slice A xs.length c] w fun e w' => e = .returned (.bool (barB xs)) ∧ Ext w w' :=
  (barS_any A c xs w hr hn).mono fun _ _ ⟨h1, h2⟩ => ⟨h1, h2 ▸ Ext.refl w⟩

set_option maxHeartbeats 1000000 in
theorem dbS_any (A : Option Addr) (c : Nat) (xs : List Int) (w : World) (hr : RdI w A xs) (hn : xs.length ≤ 1048576) :
    Calls Try.prog 24 #[.slice A xs.length c] w (RetIB w (dbF xs) (dbB xs)) := by
  have CB : Hid (∀ w, RdI w A xs → Calls Try.prog _ #[.slice A xs.length c] w fun e w' => e = .returned (.bool (barB xs)) ∧ w = w') := fun w h => barS_any A c xs w h (by omega)
  have CD : Hid (∀ A' c' w, RdI w A' (dblF xs) → Calls Try.prog _ #[.slice A' (dblF xs).length c'] w fun e w' => e = .returned (.bool (barB (dblF xs))) ∧ w = w') := fun A' c' w h => barS_any A' c' _ w h (by rw [dblF_len]; omega)
  rw [dblF_len] at CD
  obtain ⟨n, hnn⟩ : ∃ n, n = xs.length := ⟨_, rfl⟩
  obtain ⟨b1, hb1⟩ : ∃ b, b = barB xs := ⟨_, rfl⟩
  obtain ⟨b2, hb2⟩ : ∃ b, b = barB (dblF xs) := ⟨_, rfl⟩
  have HF : Hid (b1 = true ∧ b2 = true → dbB xs = true ∧ dbF xs = dblF xs) := by
    rintro ⟨h1, h2⟩
    have : dbB xs = true := by unfold dbB; rw [← hb1, ← hb2, h1, h2]; rfl
    exact ⟨this, by unfold dbF; rw [if_pos this]⟩
  have HG : Hid (b1 = false ∨ b2 = false → dbB xs = false ∧ dbF xs = []) := by
    intro h
    have : dbB xs = false := by unfold dbB; rw [← hb1, ← hb2]; rcases h with h | h <;> simp [h]
    exact ⟨this, by unfold dbF; rw [this]; rfl⟩
  rw [← hb1, ← hnn] at CB
  rw [← hb2, ← hnn] at CD
  rw [← hnn] at hn ⊢
  have HN := Lib.hid hnn
  have HR := Lib.hid hr
  obtain ⟨R, hR⟩ : ∃ R, R = dbF xs := ⟨_, rfl⟩
  obtain ⟨K, hK⟩ : ∃ K, K = dbB xs := ⟨_, rfl⟩
  rw [← hR, ← hK] at HF HG ⊢
  clear hnn hr hb1 hb2 hR hK
  go_enter Try.func24, Try.ntmps24
  go_wp2_with fail
  go_loopw [4, 10] (fun o i wr => ∃ (k : Nat) (B : Option Addr) (d : Nat), k ≤ n ∧ i = .int .i64 k ∧ o = .slice B (2 * k) d ∧ Hid (OwI wr w.heap.size B d (dblF (xs.take k))) ∧ Hid (Ext w wr)) (fun _ i _ => n - (intOf i).toNat)
  case atStart => exact ⟨0, _, _, Nat.zero_le _, rfl, rfl, OwI.empty w, (Ext.refl w).alloc _⟩
  case round =>
    obtain ⟨k, B, d, hk, rfl, rfl, HO, HE⟩ := hrel
    by_cases hlt : k < n
    · have hkx : k < xs.length := by rw [← HN.out]; exact hlt
      obtain ⟨b, o, hA, hc⟩ := (HR.out.ext HE.out).at_ k hkx
      subst hA
      obtain ⟨x, hx⟩ : ∃ x, x = xs.getD k 0 := ⟨_, rfl⟩
      rw [← hx] at hc
      have HX := Lib.hid hx
      have HK : Hid (k < xs.length ∧ (dblF (xs.take k)).length = 2 * k) := ⟨hkx, by rw [dblF_len, List.length_take]; omega⟩
      clear hx hkx
      go_wp2_with (at_builtin; refine app_ints w rfl _ _ rfl B d (2 * k) (dblF (xs.take k)) _ 2 2 [x, x] rfl rfl HK.out.2 rfl (HO.out.ext ((Ext.refl _).alloc _)) (RdI.built wr [x, x]) (HE.out.alloc _) (by omega) ?_; intro A' c' w2 h1 h2 _; have HO2 := Lib.hid h1; have HE2 := Lib.hid h2; clear h1 h2)
      go_roundw
      case rel => exact ⟨k + 1, A', c', by omega, by go_num, rfl, by rw [dblF_snoc xs k HK.out.1, ← HX.out]; exact HO2.out, HE2.out⟩
      case measure => simp [intOf]; omega
    · obtain rfl : k = n := by omega
      have HO2 : Hid (OwI wr w.heap.size B d (dblF xs)) := by have := HO.out; rwa [take_all xs k HN.out] at this
      have HL : Hid ((dblF xs).length = 2 * k) := by rw [dblF_len, HN.out]; exact rfl
      clear HO
      cases b1 with
      | true =>
        go_wp2_with fail
        refine (CB.out _ (HR.out.ext HE.out)).mono ?_
        rintro e w1 ⟨rfl, rfl⟩
        go_wp2_with fail
        refine (CD.out _ _ _ HO2.out.rd).mono ?_
        rintro e w1 ⟨rfl, rfl⟩
        cases b2 with
        | true =>
          obtain ⟨e1, e2⟩ := HF.out (by simp)
          subst e1 e2
          go_wp2_with fail
          go_ret2
          exact ⟨B, d, by rw [HL.out]; rfl, HO2.out, HE.out⟩
        | false =>
          obtain ⟨e1, e2⟩ := HG.out (by simp)
          subst e1 e2
          go_wp2_with fail
          go_ret2
          exact ⟨none, 0, rfl, OwI.nil _ _, HE.out⟩
      | false =>
        obtain ⟨e1, e2⟩ := HG.out (by simp)
        subst e1 e2
        go_wp2_with fail
        refine (CB.out _ (HR.out.ext HE.out)).mono ?_
        rintro e w1 ⟨rfl, rfl⟩
        go_wp2_with fail
        go_ret2
        exact ⟨none, 0, rfl, OwI.nil _ _, HE.out⟩

set_option maxHeartbeats 1000000 in
theorem dbI_any (A : Option Addr) (c : Nat) (xs : List Int) (w : World) (hr : RdI w A xs) (hn : xs.length ≤ 1048576) :
    Calls Try.prog 25 #[.slice A xs.length c] w (RetIB w (dbF xs) (dbB xs)) := by
  have CB := Lib.hid (barI_any A c xs w hr (by omega))
  have CD : Hid (∀ A' c' w, RdI w A' (dblF xs) → Calls Try.prog _ #[.slice A' (dblF xs).length c'] w fun e w' => e = .returned (.bool (barB (dblF xs))) ∧ Ext w w') := fun A' c' w h => barI_any A' c' _ w h (by rw [dblF_len]; omega)
  rw [dblF_len] at CD
  obtain ⟨n, hnn⟩ : ∃ n, n = xs.length := ⟨_, rfl⟩
  obtain ⟨b1, hb1⟩ : ∃ b, b = barB xs := ⟨_, rfl⟩
  obtain ⟨b2, hb2⟩ : ∃ b, b = barB (dblF xs) := ⟨_, rfl⟩
  have HF : Hid (b1 = true ∧ b2 = true → dbB xs = true ∧ dbF xs = dblF xs) := by
    rintro ⟨h1, h2⟩
    have : dbB xs = true := by unfold dbB; rw [← hb1, ← hb2, h1, h2]; rfl
    exact ⟨this, by unfold dbF; rw [if_pos this]⟩
  have HG : Hid (b1 = false ∨ b2 = false → dbB xs = false ∧ dbF xs = []) := by
    intro h
    have : dbB xs = false := by unfold dbB; rw [← hb1, ← hb2]; rcases h with h | h <;> simp [h]
    exact ⟨this, by unfold dbF; rw [this]; rfl⟩
  rw [← hb1, ← hnn] at CB
  rw [← hb2, ← hnn] at CD
  rw [← hnn] at hn ⊢
  have HN := Lib.hid hnn
  have HR := Lib.hid hr
  obtain ⟨R, hR⟩ : ∃ R, R = dbF xs := ⟨_, rfl⟩
  obtain ⟨K, hK⟩ : ∃ K, K = dbB xs := ⟨_, rfl⟩
  rw [← hR, ← hK] at HF HG ⊢
  clear hnn hr hb1 hb2 hR hK
  go_enter Try.func25, Try.ntmps25
  go_wp2_with fail
  refine CB.out.mono ?_
  rintro e w0 ⟨rfl, he⟩
  have HX0 := Lib.hid he
  clear he
  cases b1 with
  | false =>
    obtain ⟨e1, e2⟩ := HG.out (by simp)
    subst e1 e2
    go_wp2_with fail
    go_ret2
    exact ⟨none, 0, rfl, OwI.nil _ _, HX0.out⟩
  | true =>
    go_wp2_with fail
    go_loopw [4, 12] (fun o i wr => ∃ (k : Nat) (B : Option Addr) (d : Nat), k ≤ n ∧ i = .int .i64 k ∧ o = .slice B (2 * k) d ∧ Hid (OwI wr w.heap.size B d (dblF (xs.take k))) ∧ Hid (Ext w wr)) (fun _ i _ => n - (intOf i).toNat)
    case atStart => exact ⟨0, _, _, Nat.zero_le _, rfl, rfl, OwI.nil _ _, HX0.out⟩
    case round =>
      obtain ⟨k, B, d, hk, rfl, rfl, HO, HE⟩ := hrel
      by_cases hlt : k < n
      · have hkx : k < xs.length := by rw [← HN.out]; exact hlt
        obtain ⟨b, o, hA, hc⟩ := (HR.out.ext HE.out).at_ k hkx
        subst hA
        obtain ⟨x, hx⟩ : ∃ x, x = xs.getD k 0 := ⟨_, rfl⟩
        rw [← hx] at hc
        have HX := Lib.hid hx
        have HK : Hid (k < xs.length ∧ (dblF (xs.take k)).length = 2 * k) := ⟨hkx, by rw [dblF_len, List.length_take]; omega⟩
        clear hx hkx
        go_wp2_with (at_builtin; refine app_ints w rfl _ _ rfl B d (2 * k) (dblF (xs.take k)) _ 2 2 [x, x] rfl rfl HK.out.2 rfl (HO.out.ext ((Ext.refl _).alloc _)) (RdI.built wr [x, x]) (HE.out.alloc _) (by omega) ?_; intro A' c' w2 h1 h2 _; have HO2 := Lib.hid h1; have HE2 := Lib.hid h2; clear h1 h2)
        go_roundw
        case rel => exact ⟨k + 1, A', c', by omega, by go_num, rfl, by rw [dblF_snoc xs k HK.out.1, ← HX.out]; exact HO2.out, HE2.out⟩
        case measure => simp [intOf]; omega
      · obtain rfl : k = n := by omega
        have HO2 : Hid (OwI wr w.heap.size B d (dblF xs)) := by have := HO.out; rwa [take_all xs k HN.out] at this
        have HL : Hid ((dblF xs).length = 2 * k) := by rw [dblF_len, HN.out]; exact rfl
        clear HO
        go_wp2_with fail
        refine (CD.out _ _ _ HO2.out.rd).mono ?_
        rintro e w1 ⟨rfl, he⟩
        have HE2 := Lib.hid (HE.out.trans he)
        have HO3 := Lib.hid (HO2.out.ext he)
        clear he
        cases b2 with
        | true =>
          obtain ⟨e1, e2⟩ := HF.out (by simp)
          subst e1 e2
          go_wp2_with fail
          go_ret2
          exact ⟨B, d, by rw [HL.out]; rfl, HO3.out, HE2.out⟩
        | false =>
          obtain ⟨e1, e2⟩ := HG.out (by simp)
          subst e1 e2
          go_wp2_with fail
          go_ret2
          exact ⟨none, 0, rfl, OwI.nil _ _, HE2.out⟩
end Go.Proofs.Ytedlmidhakmgpaa
