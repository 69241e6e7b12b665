/- Contracts of l19Bars, BarsOf. -/
import Derived.Test.YtedlmidhakmgpaaBarsB
import Derived.Test.YtedlmidhakmgpaaOwnSS
namespace Go.Proofs.Ytedlmidhakmgpaa
open Go.RowKit

/-- What l19Bars leaves. -/
def RetBars (w : World) (L : Nat) (xss : List (List Int)) (e : Ending) (w' : World) : Prop := ∃ v, e = .returned v ∧ OwnSS w' L w'.heap.size v xss ∧ FrO L w w'

set_option maxHeartbeats 2000000 in
theorem l19Bars_any : ∀ n : Nat, n ≤ 24 → ∀ (A : Option Addr) (c : Nat) (bs : List Int) (O : Option Addr) (d l : Nat) (xss : List (List Int)) (vs : List Value) (L M U : Nat) (w : World),
    OwnS w M U (.slice A bs.length c) bs → l = xss.length → OwO w L O d vs → OwnIn w L M vs xss → M ≤ U → bs.length + n ≤ 1000 → l + 2000 * n ≤ 100000 →
    Calls Try.prog 52 #[.int .i64 n, .slice A bs.length c, .slice O l d] w (RetBars w L (xss ++ (barsL n).map (bs ++ ·))) := by
  intro n
  induction n using Nat.strongRecOn with
  | ind n ih =>
    intro hn A c bs O d l xss vs L M U w hs hl ho hi hMU hb hlb
    have HS := Lib.hid hs
    have HL := Lib.hid hl
    have HO := Lib.hid ho
    have HI := Lib.hid hi
    have hUw : U ≤ w.heap.size := hs.choose_spec.choose_spec.2.2.2
    have hLM := hi.le
    by_cases hz : n = 0
    · subst hz
      have e0 : (barsL 0).map (bs ++ ·) = [bs] := by simp [barsL]
      rw [e0]
      have hlb : l ≤ 100000 := by omega
      obtain ⟨m, hm⟩ : ∃ m, m = bs.length := ⟨_, rfl⟩
      rw [← hm] at HS hb ⊢
      clear hs hl ho hi ih e0 hm
      go_enter Try.func52, Try.ntmps52
      go_wp2_with (at_builtin; refine app_out rfl _ _ rfl L M O d l vs xss rfl HL.out (HO.out.ext ((Ext.refl w).alloc _)) (HI.out.frO (((Ext.refl w).alloc _).frO 0)) (some ⟨w.heap.size, 0, none⟩) 1 1 [.slice A m c] [bs] rfl rfl (OwO.lit1 w _).rd (OwnIn.one ((HS.out.frO (((Ext.refl w).alloc _).frO 0)).upper (by simp; omega) (Nat.le_refl _)) (by simp; omega)) (by omega) ?_; intro A6 c6 w4 h1 h2; have HO6 := Lib.hid h1; have HX4 := Lib.hid ((((Ext.refl w).alloc (.cells #[.slice A m c] 24)).frO L).trans h2); clear h1 h2)
      go_ret
      exact ⟨_, rfl, HO6.out, HX4.out⟩
    · have HIH := Lib.hid ih
      have hst : OwnSS w L w.heap.size (.slice O l d) xss := ⟨O, d, vs, by rw [hl], ho, fun a ha => (ho.lt a ha).2, hi.up hLM.2 (Nat.le_refl _)⟩
      have HST := Lib.hid hst
      obtain ⟨m, hm⟩ : ∃ m, m = bs.length := ⟨_, rfl⟩
      have HM := Lib.hid hm
      have hz1 : ¬ (n : Int) = 0 := by omega
      have hz2 : ((n : Int) == 0) = false := by simpa using hz
      rw [← hm] at HS hb ⊢
      clear hs hl ho hi ih hm hst
      go_enter Try.func52, Try.ntmps52
      go_wp2_with fail
      go_loopw [2, 7] (fun o i wr => ∃ (k : Nat) (A' : Option Addr) (c' l' : Nat), 2 ≤ k ∧ k ≤ min n 3 + 1 ∧ i = .int .i64 k ∧ o = .slice A' l' c' ∧ l' ≤ l + 2000 ∧ Hid (l' = l + (barsP n k).length) ∧ Hid (OwnSS wr L wr.heap.size (.slice A' l' c') (xss ++ (barsP n k).map (bs ++ ·))) ∧ Hid (FrO L w wr)) (fun _ i _ => 10 - (intOf i).toNat)
      case atStart => exact ⟨2, O, d, l, by omega, by omega, rfl, rfl, by omega, rfl, by (have := HST.out); simp [barsP, Hid]; exact this, (Ext.refl w).frO L⟩
      case round =>
        obtain ⟨k, A', c', l', hk2, hk3, rfl, rfl, hl', HL', HO', HE⟩ := hrel
        by_cases hlt : k ≤ min n 3
        · have hsub : (n : Int) - k = ((n - k : Nat) : Int) := by omega
          have hlen3 := barsP_len (n := n) (k := k + 1) hn
          have hl3 : (k : Int) ≤ 3 := by omega
          have hln : (k : Int) ≤ n := by omega
          have CI : Hid (∀ A c w2, OwnS w2 wr.heap.size w2.heap.size (.slice A (m + 1) c) (bs ++ [(k : Int)]) → Ext wr w2 → Calls Try.prog 52 #[.int .i64 ((n : Int) - k), .slice A (m + 1) c, .slice A' l' c'] w2 (RetBars w2 L ((xss ++ (barsP n k).map (bs ++ ·)) ++ (barsL (n - k)).map ((bs ++ [(k : Int)]) ++ ·)))) := by
            intro A c w2 h he
            obtain ⟨A5, c5, l5, vs, hv5, hl5, ho5, hi5⟩ := HO'.out.parts
            injection hv5 with hA5 hl6 hc5
            subst hA5 hl6 hc5
            have := HIH.out (n - k) (by omega) (by omega) A c (bs ++ [(k : Int)]) A' c' l' _ vs L wr.heap.size w2.heap.size w2 (by rw [List.length_append, ← HM.out]; exact h) hl5 (ho5.ext he) (hi5.frO (he.frO 0)) he.size (by rw [List.length_append, ← HM.out]; simp; omega) (by omega)
            rw [List.length_append, ← HM.out] at this
            rw [hsub]
            exact this
          have HLW := Lib.hid (HS.out.frO HE.out)
          have HRW : Hid (∀ w2, Ext wr w2 → RdI w2 A bs) := fun w2 h => by
            obtain ⟨A3, c3, e3, h3⟩ := (HLW.out.frO (h.frO 0)).rd
            injection e3 with e3 _ _
            subst e3
            exact h3
          clear hsub HLW
          go_wp2_with (first
            | (at_builtin; refine app_ints wr rfl _ _ rfl _ _ 0 [] A m c bs rfl rfl rfl HM.out.symm (OwI.empty wr) (HRW.out _ ((Ext.refl wr).alloc _)) ((Ext.refl wr).alloc _) (by omega) ?_; intro A2 c2 w1 h1 h2 _; have HO2 := Lib.hid h1; have HE2 := Lib.hid h2; clear h1 h2)
            | (at_builtin; refine app_ints wr rfl _ _ rfl A2 c2 m bs _ 1 1 [(k : Int)] rfl rfl HM.out.symm rfl (HO2.out.ext ((Ext.refl _).alloc _)) (RdI.built w1 [(k : Int)]) (HE2.out.alloc _) (by omega) ?_; intro A3 c3 w2 h1 h2 _; have HO3 := Lib.hid h1; have HE3 := Lib.hid h2; clear h1 h2))
          refine (CI.out _ _ _ ⟨A3, c3, by simp [← HM.out], HO3.out, fun a ha => (HO3.out.lt a ha).2, Nat.le_refl _⟩ HE3.out).mono ?_
          rintro e w3 ⟨v, rfl, h1, h2⟩
          obtain ⟨A4, c4, l4, us, rfl, hl4, _, _⟩ := h1.parts
          have HO4 := Lib.hid h1
          have HE4 := Lib.hid (HE.out.trans ((HE3.out.frO L).trans h2))
          have HL4 : Hid (l4 = l + (barsP n (k + 1)).length) := by
            rw [hl4, List.length_append, List.length_map]
            obtain ⟨A5, c5, l5, vs, hv5, hl5, _, _⟩ := HO'.out.parts
            injection hv5 with _ hl6 _
            rw [← hl5, ← hl6, HL'.out, barsP_step hk2 (by omega)]
            simp [Hid, Nat.add_assoc]
          clear h1 h2 hl4
          go_wp2_with fail
          go_roundw
          case rel =>
            refine ⟨k + 1, A4, c4, l4, by omega, by omega, by go_num, rfl, by rw [HL4.out]; omega, HL4, ?_, HE4⟩
            rw [barsP_step hk2 (by omega), List.map_append, map_app, ← List.append_assoc]
            exact HO4.out
          case measure => simp [intOf]; omega
        · obtain rfl : k = min n 3 + 1 := by omega
          rw [barsP_end (by omega)] at HO'
          by_cases h3 : ((min n 3 + 1 : Nat) : Int) ≤ 3
          · have h4 : ¬ ((min n 3 + 1 : Nat) : Int) ≤ n := by omega
            go_wp2_with fail
            go_ret
            exact ⟨_, rfl, HO'.out, HE.out⟩
          · go_wp2_with fail
            go_ret
            exact ⟨_, rfl, HO'.out, HE.out⟩

/-- The answer of BarsOf. -/
def boF (n : Int) : List (List Int) := if inB n 1 16 = true then barsL n.toNat else []

theorem boS_any (n : Int) (w : World) : Calls Try.prog 19 #[.int .i64 n] w (RetSS w (boF n)) := by
  by_cases h : inB n 1 16 = true
  · have e : boF n = barsL n.toNat := by unfold boF; rw [if_pos h]
    rw [e]
    have h' := inB_iff.1 h
    obtain ⟨k, rfl⟩ := Int.eq_ofNat_of_zero_le (show 0 ≤ n by omega)
    obtain ⟨W, hW⟩ : ∃ W, W = (w.alloc (.cells #[] 3)).alloc (.cells #[] 24) := ⟨_, rfl⟩
    have CB := Lib.hid (l19Bars_any k (by omega) (some ⟨w.heap.size, 0, none⟩) 0 [] (some ⟨w.heap.size + 1, 0, none⟩) 0 0 [] [] w.heap.size w.heap.size (w.heap.size + 1) W
      (by rw [hW]; exact ⟨_, _, rfl, OwI.ext (OwI.empty w) ((Ext.refl _).alloc _), fun a ha => by cases ha; simp, by simp⟩) rfl
      (by rw [hW]; have := OwO.empty (w.alloc (.cells #[] 3)); simp at this; exact this.lower (by omega)) ⟨Nat.le_refl _, by rw [hW]; simp; omega⟩ (by omega) (by simp; omega) (by omega))
    have HX : Hid (Ext w W) := by rw [hW]; exact ((Ext.refl w).alloc _).alloc _
    rw [hW] at CB HX
    rw [Int.toNat_natCast]
    clear e h' hW W
    go_enter Try.func19, Try.ntmps19
    go_wp2_with fail
    refine (l01In_any _ _ _ _).mono ?_
    rintro e w1 ⟨rfl, rfl⟩
    go_wp2_with fail
    refine CB.out.mono ?_
    rintro e w2 ⟨v, rfl, ho, hf⟩
    have HO := Lib.hid ho
    have HE := Lib.hid (HX.out.then_frO hf (Nat.le_refl _))
    clear ho hf
    go_wp2_with fail
    go_ret
    refine ⟨_, rfl, ?_, HE.out⟩
    have := HO.out
    simpa using this
  · have h : inB n 1 16 = false := by simpa using h
    have e : boF n = [] := by unfold boF; rw [h]; rfl
    rw [e]
    clear e
    go_enter Try.func19, Try.ntmps19
    go_wp2_with fail
    refine (l01In_any _ _ _ _).mono ?_
    rintro e w1 ⟨rfl, rfl⟩
    go_wp2_with fail
    go_ret
    exact ⟨_, rfl, OwnSS.nil w, Ext.refl _⟩

theorem boI_any (n : Int) (w : World) : Calls Try.prog 20 #[.int .i64 n] w (RetSS w (boF n)) := by
  by_cases h : inB n 1 16 = true
  · have e : boF n = barsL n.toNat := by unfold boF; rw [if_pos h]
    rw [e]
    have h' := inB_iff.1 h
    obtain ⟨k, rfl⟩ := Int.eq_ofNat_of_zero_le (show 0 ≤ n by omega)
    have CB := Lib.hid (barsFrom_any k (by omega) none 0 [] w (Rd.nil _ _ _) (by simp; omega))
    rw [Int.toNat_natCast]
    clear e h'
    go_enter Try.func20, Try.ntmps20
    go_wp2_with fail
    refine (within_any _ _ _ _).mono ?_
    rintro e w1 ⟨rfl, rfl⟩
    go_wp2_with fail
    refine CB.out.mono ?_
    rintro e w2 ⟨v, rfl, ho, he⟩
    have HO := Lib.hid ho
    have HE := Lib.hid he
    clear ho he
    go_wp2_with fail
    go_ret
    refine ⟨_, rfl, ?_, HE.out⟩
    have := HO.out
    simpa using this
  · have h : inB n 1 16 = false := by simpa using h
    have e : boF n = [] := by unfold boF; rw [h]; rfl
    rw [e]
    clear e
    go_enter Try.func20, Try.ntmps20
    go_wp2_with fail
    refine (within_any _ _ _ _).mono ?_
    rintro e w1 ⟨rfl, rfl⟩
    go_wp2_with fail
    go_ret
    exact ⟨_, rfl, OwnSS.nil w, Ext.refl _⟩
set_option maxRecDepth 100000 in
theorem bars_sz : ∀ n, n ≤ 16 → szSS (barsL n) ≤ 1000 := by decide
end Go.Proofs.Ytedlmidhakmgpaa
