/- Contracts of MeetingTimes. -/
import Derived.Test.YtoobffhchbgkjaaInts
namespace Go.Proofs.Ytoobffhchbgkjaa
open Go.RowKit

/-- The common times from t on, for so many steps. -/
def meetL (p q b most : Int) : Nat → Int → List Int
  | 0, _ => []
  | k + 1, t => if t ≤ most then (if b ≤ t ∧ (t - b) % q = 0 then [t] else []) ++ meetL p q b most k (t + p) else []
theorem meetL_stop {p q b most : Int} (k : Nat) {t : Int} (h : ¬ t ≤ most) : meetL p q b most k t = [] := by
  cases k with
  | zero => rfl
  | succ k => rw [meetL, if_neg h]
theorem meetL_in {p q b most : Int} (k : Nat) {t : Int} (h : t ≤ most) (h2 : b ≤ t ∧ (t - b) % q = 0) : meetL p q b most (k + 1) t = [t] ++ meetL p q b most k (t + p) := by
  rw [meetL, if_pos h, if_pos h2]
theorem meetL_out {p q b most : Int} (k : Nat) {t : Int} (h : t ≤ most) (h2 : ¬ (b ≤ t ∧ (t - b) % q = 0)) : meetL p q b most (k + 1) t = meetL p q b most k (t + p) := by
  rw [meetL, if_pos h, if_neg h2, List.nil_append]
/-- MeetingTimes' arguments are valid. -/
def meetB (p a q b most : Int) : Bool := inB p 1 1000 && (inB q 1 1000 && (inB a 0 1000 && (inB b 0 1000 && inB most 0 20000)))
/-- MeetingTimes. -/
def meetF (p a q b most : Int) : List Int := if meetB p a q b most = true then meetL p q b most 20001 a else []
theorem meetL_len (p q b most : Int) (k : Nat) : ∀ t, (meetL p q b most k t).length ≤ k := by
  induction k with
  | zero => intro t; simp [meetL]
  | succ k ih =>
    intro t
    have := ih (t + p)
    unfold meetL
    split
    · split <;> simp <;> omega
    · simp

set_option maxHeartbeats 1000000 in
theorem meetS_any (p a q b most : Int) (w : World) :
    Calls Try.prog 32 #[.int .i64 p, .int .i64 a, .int .i64 q, .int .i64 b, .int .i64 most] w (RetI w (meetF p a q b most)) := by
  by_cases h1 : inB p 1 1000 = true
  · by_cases h2 : inB q 1 1000 = true
    · by_cases h3 : inB a 0 1000 = true
      · by_cases h4 : inB b 0 1000 = true
        · by_cases h5 : inB most 0 20000 = true
          · have e : meetF p a q b most = meetL p q b most 20001 a := by unfold meetF meetB; rw [h1, h2, h3, h4, h5]; rfl
            rw [e]
            obtain ⟨R, hR⟩ : ∃ R, R = meetL p q b most 20001 a := ⟨_, rfl⟩
            rw [← hR]
            have HR := Lib.hid hR
            have g1 := inB_iff.1 h1
            have g2 := inB_iff.1 h2
            have g3 := inB_iff.1 h3
            have g4 := inB_iff.1 h4
            have g5 := inB_iff.1 h5
            clear hR e
            go_enter Try.func32, Try.ntmps32
            go_wp2_with (go_at_call 41; refine (l01In_any _ _ _ _).mono ?_; rintro e w' ⟨rfl, rfl⟩)
            clear h1 h2 h3 h4 h5
            go_loopw [11, 12] (fun v i wr => ∃ (k : Nat) (t : Int) (n : Nat) (out : List Int) (A' : Option Addr) (c' : Nat), i = .int .i64 t ∧ v = .slice A' n c' ∧ 0 ≤ t ∧ t ≤ most + 1000 ∧ (n : Int) ≤ t ∧ most < t + k ∧ Hid (out.length = n) ∧ Hid (out ++ meetL p q b most k t = R) ∧ Hid (OwI wr w.heap.size A' c' out) ∧ Hid (Ext w wr)) (fun _ i _ => (most + 1 - intOf i).toNat)
            case atStart => exact ⟨20001, a, 0, [], _, _, rfl, rfl, by omega, by omega, by omega, by omega, rfl, HR.out.symm, OwI.empty w, (Ext.refl w).alloc _⟩
            case round =>
              obtain ⟨k, t, n, out, A', c', rfl, rfl, ht0, ht1, hnt, hkt, HL, HQ, HO, HE⟩ := hrel
              by_cases hlt : t ≤ most
              · obtain ⟨k, rfl⟩ : ∃ j, k = j + 1 := ⟨k - 1, by omega⟩
                by_cases hb : b ≤ t
                · by_cases hm : (t - b) % q = 0
                  · have HQ2 : Hid ((out ++ [t]) ++ meetL p q b most k (t + p) = R) := by
                      have := HQ.out
                      rw [meetL_in k hlt ⟨hb, hm⟩, ← List.append_assoc] at this
                      exact this
                    clear HQ
                    go_wp2_with (at_builtin; refine app_int w _ rfl _ _ rfl _ _ _ _ _ rfl rfl HL.out HO.out HE.out ?c2 ?c3)
                    case c2 => omega
                    intro A2 c2 w2 ho he
                    have HO2 := Lib.hid ho
                    have HE2 := Lib.hid he
                    clear ho he
                    go_wp2
                    go_roundw
                    case rel => exact ⟨k, t + p, n + 1, out ++ [t], A2, c2, rfl, rfl, by omega, by omega, by omega, by omega, by have := HL.out; simp [Hid]; omega, HQ2, HO2, HE2⟩
                    case measure => simp only [intOf]; omega
                  · have hm' : ((t - b) % q == 0) = false := by simpa using hm
                    have HQ2 : Hid (out ++ meetL p q b most k (t + p) = R) := by
                      have := HQ.out
                      rw [meetL_out k hlt (fun h => hm h.2)] at this
                      exact this
                    clear HQ hm
                    go_wp2_with fail
                    go_roundw
                    case rel => exact ⟨k, t + p, n, out, A', c', rfl, rfl, by omega, by omega, by omega, by omega, HL, HQ2, HO, HE⟩
                    case measure => simp only [intOf]; omega
                · have HQ2 : Hid (out ++ meetL p q b most k (t + p) = R) := by
                    have := HQ.out
                    rw [meetL_out k hlt (fun h => hb h.1)] at this
                    exact this
                  clear HQ
                  go_wp2_with fail
                  go_roundw
                  case rel => exact ⟨k, t + p, n, out, A', c', rfl, rfl, by omega, by omega, by omega, by omega, HL, HQ2, HO, HE⟩
                  case measure => simp only [intOf]; omega
              · go_wp2_with fail
                go_ret
                have e : R = out := by have := HQ.out; rw [meetL_stop k (by omega), List.append_nil] at this; exact this.symm
                rw [e]
                exact ⟨A', c', by rw [HL.out]; rfl, HO.out, HE.out⟩
          · have h5 : inB most 0 20000 = false := by simpa using h5
            have e : meetF p a q b most = [] := by unfold meetF meetB; rw [h1, h2, h3, h4, h5]; rfl
            rw [e]
            go_enter Try.func32, Try.ntmps32
            go_wp2_with (go_at_call 41; refine (l01In_any _ _ _ _).mono ?_; rintro e w' ⟨rfl, rfl⟩)
            go_ret
            exact RetI.nil (Ext.refl _)
        · have h4 : inB b 0 1000 = false := by simpa using h4
          have e : meetF p a q b most = [] := by unfold meetF meetB; rw [h1, h2, h3, h4]; rfl
          rw [e]
          go_enter Try.func32, Try.ntmps32
          go_wp2_with (go_at_call 41; refine (l01In_any _ _ _ _).mono ?_; rintro e w' ⟨rfl, rfl⟩)
          go_ret
          exact RetI.nil (Ext.refl _)
      · have h3 : inB a 0 1000 = false := by simpa using h3
        have e : meetF p a q b most = [] := by unfold meetF meetB; rw [h1, h2, h3]; rfl
        rw [e]
        go_enter Try.func32, Try.ntmps32
        go_wp2_with (go_at_call 41; refine (l01In_any _ _ _ _).mono ?_; rintro e w' ⟨rfl, rfl⟩)
        go_ret
        exact RetI.nil (Ext.refl _)
    · have h2 : inB q 1 1000 = false := by simpa using h2
      have e : meetF p a q b most = [] := by unfold meetF meetB; rw [h1, h2]; rfl
      rw [e]
      go_enter Try.func32, Try.ntmps32
      go_wp2_with (go_at_call 41; refine (l01In_any _ _ _ _).mono ?_; rintro e w' ⟨rfl, rfl⟩)
      go_ret
      exact RetI.nil (Ext.refl _)
  · have h1 : inB p 1 1000 = false := by simpa using h1
    have e : meetF p a q b most = [] := by unfold meetF meetB; rw [h1]; rfl
    rw [e]
    go_enter Try.func32, Try.ntmps32
    go_wp2_with (go_at_call 41; refine (l01In_any _ _ _ _).mono ?_; rintro e w' ⟨rfl, rfl⟩)
    go_ret
    exact RetI.nil (Ext.refl _)
set_option maxHeartbeats 1000000 in
theorem meetI_any (p a q b most : Int) (w : World) :
    Calls Try.prog 33 #[.int .i64 p, .int .i64 a, .int .i64 q, .int .i64 b, .int .i64 most] w (RetI w (meetF p a q b most)) := by
  by_cases h1 : inB p 1 1000 = true
  · by_cases h2 : inB q 1 1000 = true
    · by_cases h3 : inB a 0 1000 = true
      · by_cases h4 : inB b 0 1000 = true
        · by_cases h5 : inB most 0 20000 = true
          · have e : meetF p a q b most = meetL p q b most 20001 a := by unfold meetF meetB; rw [h1, h2, h3, h4, h5]; rfl
            rw [e]
            obtain ⟨R, hR⟩ : ∃ R, R = meetL p q b most 20001 a := ⟨_, rfl⟩
            rw [← hR]
            have HR := Lib.hid hR
            have g1 := inB_iff.1 h1
            have g2 := inB_iff.1 h2
            have g3 := inB_iff.1 h3
            have g4 := inB_iff.1 h4
            have g5 := inB_iff.1 h5
            clear hR e
            go_enter Try.func33, Try.ntmps33
            go_wp2_with (go_at_call 43; refine (within_any _ _ _ _).mono ?_; rintro e w' ⟨rfl, rfl⟩)
            clear h1 h2 h3 h4 h5
            go_loopw [11, 12] (fun v i wr => ∃ (k : Nat) (t : Int) (n : Nat) (out : List Int) (A' : Option Addr) (c' : Nat), i = .int .i64 t ∧ v = .slice A' n c' ∧ 0 ≤ t ∧ t ≤ most + 1000 ∧ (n : Int) ≤ t ∧ most < t + k ∧ Hid (out.length = n) ∧ Hid (out ++ meetL p q b most k t = R) ∧ Hid (OwI wr w.heap.size A' c' out) ∧ Hid (Ext w wr)) (fun _ i _ => (most + 1 - intOf i).toNat)
            case atStart => exact ⟨20001, a, 0, [], _, _, rfl, rfl, by omega, by omega, by omega, by omega, rfl, HR.out.symm, OwI.nil w _, Ext.refl w⟩
            case round =>
              obtain ⟨k, t, n, out, A', c', rfl, rfl, ht0, ht1, hnt, hkt, HL, HQ, HO, HE⟩ := hrel
              by_cases hlt : t ≤ most
              · obtain ⟨k, rfl⟩ : ∃ j, k = j + 1 := ⟨k - 1, by omega⟩
                by_cases hb : b ≤ t
                · by_cases hm : (t - b) % q = 0
                  · have HQ2 : Hid ((out ++ [t]) ++ meetL p q b most k (t + p) = R) := by
                      have := HQ.out
                      rw [meetL_in k hlt ⟨hb, hm⟩, ← List.append_assoc] at this
                      exact this
                    clear HQ
                    go_wp2_with (at_builtin; refine app_int w _ rfl _ _ rfl _ _ _ _ _ rfl rfl HL.out HO.out HE.out ?c2 ?c3)
                    case c2 => omega
                    intro A2 c2 w2 ho he
                    have HO2 := Lib.hid ho
                    have HE2 := Lib.hid he
                    clear ho he
                    go_wp2
                    go_roundw
                    case rel => exact ⟨k, t + p, n + 1, out ++ [t], A2, c2, rfl, rfl, by omega, by omega, by omega, by omega, by have := HL.out; simp [Hid]; omega, HQ2, HO2, HE2⟩
                    case measure => simp only [intOf]; omega
                  · have hm' : ((t - b) % q == 0) = false := by simpa using hm
                    have HQ2 : Hid (out ++ meetL p q b most k (t + p) = R) := by
                      have := HQ.out
                      rw [meetL_out k hlt (fun h => hm h.2)] at this
                      exact this
                    clear HQ hm
                    go_wp2_with fail
                    go_roundw
                    case rel => exact ⟨k, t + p, n, out, A', c', rfl, rfl, by omega, by omega, by omega, by omega, HL, HQ2, HO, HE⟩
                    case measure => simp only [intOf]; omega
                · have HQ2 : Hid (out ++ meetL p q b most k (t + p) = R) := by
                    have := HQ.out
                    rw [meetL_out k hlt (fun h => hb h.1)] at this
                    exact this
                  clear HQ
                  go_wp2_with fail
                  go_roundw
                  case rel => exact ⟨k, t + p, n, out, A', c', rfl, rfl, by omega, by omega, by omega, by omega, HL, HQ2, HO, HE⟩
                  case measure => simp only [intOf]; omega
              · go_wp2_with fail
                go_ret
                have e : R = out := by have := HQ.out; rw [meetL_stop k (by omega), List.append_nil] at this; exact this.symm
                rw [e]
                exact ⟨A', c', by rw [HL.out]; rfl, HO.out, HE.out⟩
          · have h5 : inB most 0 20000 = false := by simpa using h5
            have e : meetF p a q b most = [] := by unfold meetF meetB; rw [h1, h2, h3, h4, h5]; rfl
            rw [e]
            go_enter Try.func33, Try.ntmps33
            go_wp2_with (go_at_call 43; refine (within_any _ _ _ _).mono ?_; rintro e w' ⟨rfl, rfl⟩)
            go_ret
            exact RetI.nil (Ext.refl _)
        · have h4 : inB b 0 1000 = false := by simpa using h4
          have e : meetF p a q b most = [] := by unfold meetF meetB; rw [h1, h2, h3, h4]; rfl
          rw [e]
          go_enter Try.func33, Try.ntmps33
          go_wp2_with (go_at_call 43; refine (within_any _ _ _ _).mono ?_; rintro e w' ⟨rfl, rfl⟩)
          go_ret
          exact RetI.nil (Ext.refl _)
      · have h3 : inB a 0 1000 = false := by simpa using h3
        have e : meetF p a q b most = [] := by unfold meetF meetB; rw [h1, h2, h3]; rfl
        rw [e]
        go_enter Try.func33, Try.ntmps33
        go_wp2_with (go_at_call 43; refine (within_any _ _ _ _).mono ?_; rintro e w' ⟨rfl, rfl⟩)
        go_ret
        exact RetI.nil (Ext.refl _)
    · have h2 : inB q 1 1000 = false := by simpa using h2
      have e : meetF p a q b most = [] := by unfold meetF meetB; rw [h1, h2]; rfl
      rw [e]
      go_enter Try.func33, Try.ntmps33
      go_wp2_with (go_at_call 43; refine (within_any _ _ _ _).mono ?_; rintro e w' ⟨rfl, rfl⟩)
      go_ret
      exact RetI.nil (Ext.refl _)
  · have h1 : inB p 1 1000 = false := by simpa using h1
    have e : meetF p a q b most = [] := by unfold meetF meetB; rw [h1]; rfl
    rw [e]
    go_enter Try.func33, Try.ntmps33
    go_wp2_with (go_at_call 43; refine (within_any _ _ _ _).mono ?_; rintro e w' ⟨rfl, rfl⟩)
    go_ret
    exact RetI.nil (Ext.refl _)
end Go.Proofs.Ytoobffhchbgkjaa
