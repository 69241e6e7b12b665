/- Contracts of TempoOk, CountTempo and ScaleTempo. -/
import Derived.Test.YtoobffhchbgkjaaPass
import Derived.Test.YtoobffhchbgkjaaInts
namespace Go.Proofs.Ytoobffhchbgkjaa
open Go.RowKit

/-- A passage is valid. -/
def passB (q : Int × Int) : Bool := inB q.1 1 1000 && (inB q.2 20 400 && (Int.tmod 3600 q.2 == 0))
theorem passB_iff {q : Int × Int} (h : passB q = true) : (1 ≤ q.1 ∧ q.1 ≤ 1000) ∧ (20 ≤ q.2 ∧ q.2 ≤ 400) ∧ 3600 % q.2 = 0 := by
  unfold passB at h
  simp only [Bool.and_eq_true, beq_iff_eq] at h
  have h2 := inB_iff.1 h.2.1
  refine ⟨inB_iff.1 h.1, h2, ?_⟩
  rw [← h.2.2, Int.tmod_eq_emod_of_nonneg (by omega)]
/-- A tempo is valid. -/
def tempoB (xs : List (Int × Int)) : Bool := inB xs.length 1 8 && xs.all passB
theorem tempoB_iff {xs : List (Int × Int)} (h : tempoB xs = true) : (1 ≤ xs.length ∧ xs.length ≤ 8) ∧ ∀ q ∈ xs, (1 ≤ q.1 ∧ q.1 ≤ 1000) ∧ (20 ≤ q.2 ∧ q.2 ≤ 400) ∧ 3600 % q.2 = 0 := by
  unfold tempoB at h
  simp only [Bool.and_eq_true, List.all_eq_true] at h
  have := inB_iff.1 h.1
  exact ⟨⟨by omega, by omega⟩, fun q hq => passB_iff (h.2 q hq)⟩

theorem getD_mem {α : Type} (xs : List α) (k : Nat) (d : α) (h : k < xs.length) : xs.getD k d ∈ xs := by simp [List.getD, h]
theorem take_snocP (xs : List (Int × Int)) (k : Nat) (h : k < xs.length) : xs.take (k + 1) = xs.take k ++ [xs.getD k (0, 0)] := by
  rw [List.take_succ_eq_append_getElem h]
  simp [List.getD, h]
theorem take_allP (xs : List (Int × Int)) (k : Nat) (h : k = xs.length) : xs.take k = xs := by subst h; simp
theorem all_of_take {xs : List (Int × Int)} {p : Int × Int → Bool} {k : Nat} (h : ∀ j, j < k → p (xs.getD j (0, 0)) = true) (hk : k = xs.length) : xs.all p = true := by
  rw [List.all_eq_true]
  intro x hx
  obtain ⟨j, hj, e⟩ := List.mem_iff_getElem.1 hx
  have := h j (by omega)
  rw [← e]
  simpa [List.getD, hj] using this
theorem not_all {xs : List (Int × Int)} {p : Int × Int → Bool} {x : Int × Int} (hm : x ∈ xs) (h : p x = false) : xs.all p = false := by
  rw [← Bool.not_eq_true, List.all_eq_true]
  intro ha
  rw [ha x hm] at h
  cases h

set_option maxHeartbeats 1000000 in
theorem tempoS_any (A : Option Addr) (c : Nat) (xs : List (Int × Int)) (w : World) (hr : RdP w A xs) (hn : xs.length ≤ 1048576) :
    Calls Try.prog 13 #[.slice A xs.length c] w fun e w' => e = .returned (.bool (tempoB xs)) ∧ Ext w w' := by
  obtain ⟨n, hnn⟩ : ∃ n, n = xs.length := ⟨_, rfl⟩
  obtain ⟨B, hB⟩ : ∃ B, B = tempoB xs := ⟨_, rfl⟩
  rw [← hB, ← hnn]
  rw [← hnn] at hn
  have HN := Lib.hid hnn
  have HB := Lib.hid hB
  have HR := Lib.hid hr
  clear hnn hB hr
  by_cases hlen : inB n 1 8 = true
  · go_enter Try.func13, Try.ntmps13
    go_wp2_with (go_at_call 41; refine (l01In_any _ _ _ _).mono ?_; rintro e w' ⟨rfl, rfl⟩)
    go_loopw [11] (fun i wr => ∃ k : Nat, k ≤ n ∧ i = .int .i64 k ∧ Hid (∀ j, j < k → passB (xs.getD j (0, 0)) = true) ∧ Hid (Ext w wr)) (fun i _ => n - (intOf i).toNat)
    case atStart => exact ⟨0, Nat.zero_le _, rfl, fun j hj => absurd hj (by omega), Ext.refl w⟩
    case round =>
      obtain ⟨k, hk, rfl, HJ, HE⟩ := hrel
      by_cases hlt : k < n
      · have hkx : k < xs.length := by rw [← HN.out]; exact hlt
        obtain ⟨b, o, hA, hc, hc2⟩ := (HR.out.ext HE.out).at_ k hkx
        subst hA
        obtain ⟨⟨x, y⟩, hx⟩ : ∃ x, x = xs.getD k (0, 0) := ⟨_, rfl⟩
        rw [← hx] at hc hc2
        simp only [] at hc hc2
        have hm : (x, y) ∈ xs := by rw [hx]; exact getD_mem _ _ _ hkx
        have HM := Lib.hid hm
        have HX := Lib.hid hx
        clear hx hkx hm
        have bad : passB (x, y) = false → B = false := fun h => by rw [HB.out]; unfold tempoB; rw [not_all HM.out h]; simp
        have HBAD := Lib.hid bad
        clear bad
        by_cases h1 : inB x 1 1000 = true
        · by_cases h2 : inB y 20 400 = true
          · have h2' := inB_iff.1 h2
            by_cases h3 : 3600 % y = 0
            · go_wp2_with (go_at_call 41; refine (l01In_any _ _ _ _).mono ?_; rintro e w' ⟨rfl, rfl⟩)
              go_roundw
              case rel =>
                refine ⟨k + 1, by omega, by go_num, fun j hj => ?_, HE.out.alloc _⟩
                by_cases hjk : j < k
                · exact HJ.out j hjk
                · obtain rfl : j = k := by omega
                  rw [← HX.out]
                  unfold passB
                  rw [h1, h2, Int.tmod_eq_emod_of_nonneg (by omega), h3]
                  rfl
              case measure => simp [intOf]; omega
            · have h3' : (3600 % y == 0) = false := by simpa using h3
              have h3'' : (3600 % y != 0) = true := by simpa using h3
              have hb : B = false := HBAD.out (by unfold passB; rw [h1, h2, Int.tmod_eq_emod_of_nonneg (by omega), h3']; rfl)
              clear h3
              go_wp2_with (go_at_call 41; refine (l01In_any _ _ _ _).mono ?_; rintro e w' ⟨rfl, rfl⟩)
              go_ret
              exact ⟨ret_bool hb.symm, HE.out.alloc _⟩
          · have h2 : inB y 20 400 = false := by simpa using h2
            have hb : B = false := HBAD.out (by unfold passB; rw [h1, h2]; rfl)
            go_wp2_with (go_at_call 41; refine (l01In_any _ _ _ _).mono ?_; rintro e w' ⟨rfl, rfl⟩)
            go_ret
            exact ⟨ret_bool hb.symm, HE.out.alloc _⟩
        · have h1 : inB x 1 1000 = false := by simpa using h1
          have hb : B = false := HBAD.out (by unfold passB; rw [h1]; rfl)
          go_wp2_with (go_at_call 41; refine (l01In_any _ _ _ _).mono ?_; rintro e w' ⟨rfl, rfl⟩)
          go_ret
          exact ⟨ret_bool hb.symm, HE.out.alloc _⟩
      · obtain rfl : k = n := by omega
        go_wp2
        go_ret
        refine ⟨ret_bool ?_, HE.out⟩
        rw [HB.out]
        unfold tempoB
        rw [all_of_take HJ.out HN.out, ← HN.out, hlen]
        rfl
  · have hlen : inB n 1 8 = false := by simpa using hlen
    go_enter Try.func13, Try.ntmps13
    go_wp2_with (go_at_call 41; refine (l01In_any _ _ _ _).mono ?_; rintro e w' ⟨rfl, rfl⟩)
    go_ret
    exact ⟨ret_bool (by rw [HB.out]; unfold tempoB; rw [← HN.out, hlen]; rfl), Ext.refl _⟩

theorem tempoClos_any (x y : Int) (w : World) :
    Calls Try.prog 45 #[.agg #[.int .i64 x, .int .i64 y]] w fun e w' => e = .returned (.bool (!passB (x, y))) ∧ Ext w w' := by
  obtain ⟨B, hB⟩ : ∃ B, B = passB (x, y) := ⟨_, rfl⟩
  rw [← hB]
  have HB := Lib.hid hB
  clear hB
  by_cases h1 : inB x 1 1000 = true
  · by_cases h2 : inB y 20 400 = true
    · have h2' := inB_iff.1 h2
      by_cases h3 : 3600 % y = 0
      · have hb : B = true := by rw [HB.out]; unfold passB; rw [h1, h2, Int.tmod_eq_emod_of_nonneg (by omega), h3]; rfl
        subst hb
        go_enter Try.func45, Try.ntmps45
        go_wp2_with (go_at_call 43; refine (within_any _ _ _ _).mono ?_; rintro e w' ⟨rfl, rfl⟩)
        go_ret
        exact ⟨rfl, (Ext.refl _).alloc _⟩
      · have h3' : (3600 % y == 0) = false := by simpa using h3
        have h3'' : (3600 % y != 0) = true := by simpa using h3
        have hb : B = false := by rw [HB.out]; unfold passB; rw [h1, h2, Int.tmod_eq_emod_of_nonneg (by omega), h3']; rfl
        subst hb
        clear h3
        go_enter Try.func45, Try.ntmps45
        go_wp2_with (go_at_call 43; refine (within_any _ _ _ _).mono ?_; rintro e w' ⟨rfl, rfl⟩)
        go_ret
        exact ⟨rfl, (Ext.refl _).alloc _⟩
    · have h2 : inB y 20 400 = false := by simpa using h2
      have hb : B = false := by rw [HB.out]; unfold passB; rw [h1, h2]; rfl
      subst hb
      go_enter Try.func45, Try.ntmps45
      go_wp2_with (go_at_call 43; refine (within_any _ _ _ _).mono ?_; rintro e w' ⟨rfl, rfl⟩)
      go_ret
      exact ⟨rfl, (Ext.refl _).alloc _⟩
  · have h1 : inB x 1 1000 = false := by simpa using h1
    have hb : B = false := by rw [HB.out]; unfold passB; rw [h1]; rfl
    subst hb
    go_enter Try.func45, Try.ntmps45
    go_wp2_with (go_at_call 43; refine (within_any _ _ _ _).mono ?_; rintro e w' ⟨rfl, rfl⟩)
    go_ret
    exact ⟨rfl, (Ext.refl _).alloc _⟩

def RetIdxP (w : World) (P : Prop) (e : Ending) (w' : World) : Prop := ∃ i : Int, e = .returned (.int .i64 i) ∧ (0 ≤ i ↔ P) ∧ Ext w w'

set_option maxHeartbeats 400000 in
theorem tempoIdx_any (A : Option Addr) (c : Nat) (xs : List (Int × Int)) (w : World) (hr : RdP w A xs) (hn : xs.length ≤ 9223372036854775806) :
    Calls Try.prog 55 #[.slice A xs.length c, .func (.func 45) #[] #[]] w (RetIdxP w (xs.all passB = false)) := by
  obtain ⟨n, hnn⟩ : ∃ n, n = xs.length := ⟨_, rfl⟩
  rw [← hnn] at hn ⊢
  have HN := Lib.hid hnn
  have HR := Lib.hid hr
  clear hnn hr
  go_enter Try.func55, Try.ntmps55
  go_wp2
  go_loopw [8] (fun i wr => ∃ k : Nat, k ≤ n ∧ i = .int .i64 k ∧ Hid (∀ j, j < k → passB (xs.getD j (0, 0)) = true) ∧ Hid (Ext w wr)) (fun i _ => n - (intOf i).toNat)
  case atStart => exact ⟨0, Nat.zero_le _, rfl, fun j hj => absurd hj (by omega), Ext.refl w⟩
  case round =>
    obtain ⟨k, hk, rfl, HJ, HE⟩ := hrel
    by_cases hlt : k < n
    · have hkx : k < xs.length := by rw [← HN.out]; exact hlt
      obtain ⟨b, o, hA, hc, hc2⟩ := (HR.out.ext HE.out).at_ k hkx
      subst hA
      obtain ⟨⟨x, y⟩, hx⟩ : ∃ x, x = xs.getD k (0, 0) := ⟨_, rfl⟩
      rw [← hx] at hc hc2
      simp only [] at hc hc2
      have hm : (x, y) ∈ xs := by rw [hx]; exact getD_mem _ _ _ hkx
      have HM := Lib.hid hm
      have HX := Lib.hid hx
      clear hx hkx hm
      have CC := Lib.hid (tempoClos_any x y)
      obtain ⟨B, hB⟩ : ∃ B, B = passB (x, y) := ⟨_, rfl⟩
      rw [← hB] at CC
      have HB := Lib.hid hB
      clear hB
      cases B with
      | true =>
        go_wp2_with (go_at_call 45; refine (CC.out _).mono ?_; rintro e w2 ⟨rfl, he⟩)
        go_roundw
        case rel =>
          refine ⟨k + 1, by omega, by go_num, fun j hj => ?_, HE.out.trans he⟩
          by_cases hjk : j < k
          · exact HJ.out j hjk
          · obtain rfl : j = k := by omega
            rw [← HX.out]
            exact HB.out.symm
        case measure => simp [intOf]; omega
      | false =>
        go_wp2_with (go_at_call 45; refine (CC.out _).mono ?_; rintro e w2 ⟨rfl, he⟩)
        go_ret
        exact ⟨k, rfl, ⟨fun _ => not_all HM.out HB.out.symm, fun _ => by omega⟩, HE.out.trans he⟩
    · obtain rfl : k = n := by omega
      go_wp2
      go_ret
      refine ⟨-1, rfl, ⟨fun h => absurd h (by omega), fun h => ?_⟩, HE.out⟩
      rw [all_of_take HJ.out HN.out] at h
      cases h

theorem tempoHas_any (A : Option Addr) (c : Nat) (xs : List (Int × Int)) (w : World) (hr : RdP w A xs) (hn : xs.length ≤ 9223372036854775806) :
    Calls Try.prog 44 #[.slice A xs.length c, .func (.func 45) #[] #[]] w fun e w' => e = .returned (.bool (!xs.all passB)) ∧ Ext w w' := by
  have H := Lib.hid (tempoIdx_any A c xs w hr hn)
  obtain ⟨b, hb⟩ : ∃ b, b = xs.all passB := ⟨_, rfl⟩
  rw [← hb] at H ⊢
  clear hb hr
  go_enter Try.func44, Try.ntmps44
  go_wp2_with fail
  refine H.out.mono ?_
  rintro e w' ⟨i, rfl, hi, he⟩
  have HI := Lib.hid hi
  have HX := Lib.hid he
  clear hi he
  go_wp2_with fail
  go_ret
  refine ⟨ret_bool ?_, HX.out⟩
  have := HI.out
  cases b with
  | true => simp at this; simp; exact this
  | false => simp at this; simpa using this

theorem tempoI_any (A : Option Addr) (c : Nat) (xs : List (Int × Int)) (w : World) (hr : RdP w A xs) (hn : xs.length ≤ 1048576) :
    Calls Try.prog 15 #[.slice A xs.length c] w fun e w' => e = .returned (.bool (tempoB xs)) ∧ Ext w w' := by
  have H := Lib.hid (tempoHas_any A c xs w hr (by omega))
  obtain ⟨b, hb⟩ : ∃ b, b = xs.all passB := ⟨_, rfl⟩
  obtain ⟨n, hnn⟩ : ∃ n, n = xs.length := ⟨_, rfl⟩
  have HT : Hid (tempoB xs = (inB n 1 8 && b)) := by rw [hb, hnn]; exact rfl
  rw [HT.out]
  rw [← hb, ← hnn] at H
  rw [← hnn] at hn ⊢
  clear hb hnn hr
  by_cases hlen : inB n 1 8 = true
  · rw [hlen, Bool.true_and]
    go_enter Try.func15, Try.ntmps15
    go_wp2_with fail
    refine (within_any _ _ _ _).mono ?_
    rintro e w1 ⟨rfl, rfl⟩
    go_wp2_with fail
    refine H.out.mono ?_
    rintro e w2 ⟨rfl, he⟩
    have HX := Lib.hid he
    clear he
    go_wp2_with fail
    go_ret
    exact ⟨ret_bool (by simp), HX.out⟩
  · have hlen : inB n 1 8 = false := by simpa using hlen
    rw [hlen, Bool.false_and]
    go_enter Try.func15, Try.ntmps15
    go_wp2_with fail
    refine (within_any _ _ _ _).mono ?_
    rintro e w1 ⟨rfl, rfl⟩
    go_wp2_with fail
    go_ret
    exact ⟨rfl, Ext.refl _⟩
end Go.Proofs.Ytoobffhchbgkjaa
