/- Contracts of Clone, barsFrom, l19Bars. -/
import Derived.Test.YtedlmidhakmgpaaSS
import Derived.Test.YtedlmidhakmgpaaBar
import Derived.Lib.MinMax
import Derived.Lib.SliceRun
namespace Go.Proofs.Ytedlmidhakmgpaa
open Go.RowKit

theorem clone_any (A : Option Addr) (c : Nat) (xs : List Int) (w : World) (hr : RdI w A xs) (hn : xs.length ≤ 1048576) :
    Calls Try.prog 68 #[.slice A xs.length c] w (RetI w xs) := by
  have hq : ∀ (w : World) (a : Option Addr) (n c n' c' : Nat), (binOp .eql 24 (.slice a n c) (.slice none n' c')).run Try.prog w = .ok (.bool a.isNone) w := fun w a n c n' c' => Lib.run_eql_slice_nil w _ _ a n c n' c' Try.underlying24
  cases A with
  | none =>
    have hx : xs = [] := by
      rcases Nat.eq_zero_or_pos xs.length with h0 | h0
      · exact List.length_eq_zero_iff.1 h0
      · obtain ⟨b, o, e, _⟩ := hr.2 h0; simp at e
    subst hx
    go_enter Try.func68, Try.ntmps68
    go_wp2_with fail
    go_ret
    exact RetI.nil (Ext.refl w)
  | some ad =>
    obtain ⟨n, hnn⟩ : ∃ n, n = xs.length := ⟨_, rfl⟩
    have HN := Lib.hid hnn
    have HR := Lib.hid hr
    rw [← hnn] at hn ⊢
    clear hnn hr
    go_enter Try.func68, Try.ntmps68
    go_wp2_with (at_builtin; refine app_ints w rfl _ _ rfl _ _ 0 [] (some ad) n c xs rfl rfl rfl HN.out.symm (OwI.empty w) (HR.out.ext ((Ext.refl w).alloc _)) ((Ext.refl w).alloc _) (by omega) ?_; intro A' c' w2 h1 h2 _; have HO2 := Lib.hid h1; have HE2 := Lib.hid h2; clear h1 h2)
    go_ret
    exact ⟨A', c', by rw [← HN.out]; rfl, HO2.out, HE2.out⟩

/-- The additive bars of a sum, in lexicographic order. -/
def barsL : Nat → List (List Int)
  | 0 => [[]]
  | 1 => []
  | 2 => [[2]]
  | n + 3 => (barsL (n + 1)).map (2 :: ·) ++ (barsL n).map (3 :: ·)
set_option maxRecDepth 100000 in
theorem barsL_len : ∀ n, n ≤ 24 → (barsL n).length ≤ 1000 := by decide
set_option maxRecDepth 100000 in
theorem barsL_in : ∀ n, n ≤ 24 → ∀ b ∈ barsL n, b.length ≤ 12 := by decide

/-- The bars that begin with steps below k. -/
def barsP (n k : Nat) : List (List Int) := if k ≤ 2 then [] else if k = 3 then (barsL (n - 2)).map (2 :: ·) else (barsL (n - 2)).map (2 :: ·) ++ (barsL (n - 3)).map (3 :: ·)
theorem barsP_step {n k : Nat} (h2 : 2 ≤ k) (h3 : k ≤ 3) : barsP n (k + 1) = barsP n k ++ (barsL (n - k)).map ((k : Int) :: ·) := by
  have : k = 2 ∨ k = 3 := by omega
  rcases this with rfl | rfl <;> simp [barsP]
theorem barsP_end {n : Nat} (h : 1 ≤ n) : barsP n (min n 3 + 1) = barsL n := by
  match n, h with
  | 1, _ => rfl
  | 2, _ => rfl
  | n + 3, _ => rw [show min (n + 3) 3 + 1 = 4 by omega]; rfl
theorem barsP_len {n k : Nat} (hn : n ≤ 24) : (barsP n k).length ≤ 2000 := by
  have h1 := barsL_len (n - 2) (by omega)
  have h2 := barsL_len (n - 3) (by omega)
  unfold barsP
  split
  · simp
  · split <;> simp <;> omega
theorem map_app (bs : List Int) (k : Int) (l : List (List Int)) : (l.map (k :: ·)).map (bs ++ ·) = l.map ((bs ++ [k]) ++ ·) := by simp

set_option maxHeartbeats 2000000 in
theorem barsFrom_any : ∀ n : Nat, n ≤ 24 → ∀ (A : Option Addr) (c : Nat) (bs : List Int) (w : World), RdI w A bs → bs.length + n ≤ 1000 →
    Calls Try.prog 49 #[.int .i64 n, .slice A bs.length c] w (RetSS w ((barsL n).map (bs ++ ·))) := by
  intro n
  induction n using Nat.strongRecOn with
  | ind n ih =>
    intro hn A c bs w hr hb
    have HR := Lib.hid hr
    by_cases hz : n = 0
    · subst hz
      have CC := Lib.hid (clone_any A c bs w hr (by omega))
      obtain ⟨m, hm⟩ : ∃ m, m = bs.length := ⟨_, rfl⟩
      have HM := Lib.hid hm
      rw [← hm] at CC hb ⊢
      clear hm hr ih
      go_enter Try.func49, Try.ntmps49
      go_wp2_with fail
      refine CC.out.mono ?_
      rintro e w1 ⟨A', c', rfl, ho, he⟩
      have HO := Lib.hid ho
      have HE := Lib.hid he
      clear ho he
      go_wp2_with fail
      go_ret
      refine ⟨_, rfl, ⟨_, _, [.slice A' bs.length c'], rfl, (OwO.lit1 w1 _).lower HE.out.size, fun a ha => by cases ha; simp, ?_⟩, HE.out.alloc _⟩
      have : (barsL 0).map (bs ++ ·) = [bs] := by simp [barsL]
      rw [this]
      refine OwnIn.one ⟨A', c', rfl, HO.out.ext ((Ext.refl _).alloc _), fun a ha => ?_, Nat.le_refl _⟩ (by have := HE.out.size; simp; omega)
      have := (HO.out.lt a ha).2
      simp
      omega
    · have HI := Lib.hid ih
      have CC : Hid (∀ w, RdI w A bs → Calls Try.prog _ #[.slice A bs.length c] w (RetI w bs)) := fun w h => clone_any A c bs w h (by omega)
      obtain ⟨m, hm⟩ : ∃ m, m = bs.length := ⟨_, rfl⟩
      have HM := Lib.hid hm
      rw [← hm] at CC hb ⊢
      clear hm hr ih
      have hz1 : ¬ (n : Int) = 0 := by omega
      have hz2 : ((n : Int) == 0) = false := by simpa using hz
      go_enter Try.func49, Try.ntmps49
      go_wp2_with fail
      go_loopw [5, 6] (fun o i wr => ∃ (k : Nat) (A' : Option Addr) (c' l : Nat), 2 ≤ k ∧ k ≤ min n 3 + 1 ∧ i = .int .i64 k ∧ o = .slice A' l c' ∧ l ≤ 2000 ∧ Hid (l = (barsP n k).length) ∧ Hid (OwnSS wr w.heap.size wr.heap.size (.slice A' l c') ((barsP n k).map (bs ++ ·))) ∧ Hid (Ext w wr)) (fun _ i _ => 10 - (intOf i).toNat)
      case atStart => exact ⟨2, none, 0, 0, by omega, by omega, rfl, rfl, by omega, rfl, OwnSS.nil w, Ext.refl w⟩
      case round =>
        obtain ⟨k, A', c', l, hk2, hk3, rfl, rfl, hl, HL, HO, HE⟩ := hrel
        by_cases hlt : k ≤ min n 3
        · have hsub : (n : Int) - k = ((n - k : Nat) : Int) := by omega
          have CI : Hid (∀ A c w, RdI w A (bs ++ [(k : Int)]) → Calls Try.prog 49 #[.int .i64 ((n : Int) - k), .slice A (m + 1) c] w (RetSS w ((barsL (n - k)).map ((bs ++ [(k : Int)]) ++ ·)))) := by
            intro A c w h
            have := HI.out (n - k) (by omega) (by omega) A c (bs ++ [(k : Int)]) w h (by simp; rw [← HM.out]; omega)
            rw [List.length_append, ← HM.out] at this
            rw [hsub]
            exact this
          have hlen2 := barsL_len (n - k) (by omega)
          have hlen3 := barsP_len (n := n) (k := k + 1) hn
          have hlt2 : (k : Int) ≤ min (n : Int) 3 := by omega
          clear hsub
          go_wp2_with fail
          refine (CC.out _ (HR.out.ext HE.out)).mono ?_
          rintro e w1 ⟨A2, c2, rfl, ho, he⟩
          have HO2 := Lib.hid ho
          have HE2 := Lib.hid he
          clear ho he
          rw [← HM.out]
          go_wp2_with (at_builtin; refine app_ints wr rfl _ _ rfl A2 c2 m bs _ 1 1 [(k : Int)] rfl rfl HM.out.symm rfl (HO2.out.ext ((Ext.refl _).alloc _)) (RdI.built w1 [(k : Int)]) (HE2.out.alloc _) (by omega) ?_; intro A3 c3 w2 h1 h2 _; have HO3 := Lib.hid h1; have HE3 := Lib.hid h2; clear h1 h2)
          refine (CI.out _ _ _ HO3.out.rd).mono ?_
          rintro e w3 ⟨v, rfl, ho, he⟩
          obtain ⟨A4, c4, l2, us, rfl, hl2, ho4, hi4⟩ := ho.parts
          obtain ⟨A5, c5, l5, vs, hv5, hl5, ho5, hi5⟩ := HO.out.parts
          injection hv5 with hA5 hl6 hc5
          subst hA5 hl6 hc5
          have hE2 : Ext wr w3 := HE3.out.trans he
          have HO5 := Lib.hid (ho5.ext hE2)
          have HI5 := Lib.hid (hi5.frO (hE2.frO 0))
          have HO4 := Lib.hid ho4.rd
          have HI4 := Lib.hid (hi4.down HE3.out.size)
          have HL4 := Lib.hid hl2
          have HL5 := Lib.hid hl5
          have hle : l2 ≤ 1000 := by rw [hl2]; simpa using hlen2
          have HX3 := Lib.hid (HE.out.trans hE2)
          clear ho he hl2 ho4 hi4 hl5 ho5 hi5 hE2 HO
          go_wp2_with (at_builtin; refine app_out rfl _ _ rfl _ _ _ _ l vs _ rfl HL5.out HO5.out HI5.out _ l2 _ us _ rfl HL4.out HO4.out HI4.out (by omega) ?_; intro A6 c6 w4 h1 h2; have HO6 := Lib.hid h1; have HX4 := Lib.hid (HX3.out.then_frO h2 (Nat.le_refl _)); clear h1 h2)
          have HL6 : Hid (l + l2 = (barsP n (k + 1)).length) := by
            rw [HL5.out, HL4.out, barsP_step hk2 (by omega)]
            simp [Hid]
          go_roundw
          case rel =>
            refine ⟨k + 1, A6, c6, l + l2, by omega, by omega, by go_num, rfl, by rw [HL6.out]; exact hlen3, HL6, ?_, HX4⟩
            rw [barsP_step hk2 (by omega), List.map_append, map_app]
            exact HO6.out
          case measure => simp [intOf]; omega
        · obtain rfl : k = min n 3 + 1 := by omega
          have hlt2 : ¬ (((min n 3 + 1 : Nat) : Int) ≤ min (n : Int) 3) := by omega
          rw [barsP_end (by omega)] at HO
          go_wp2_with fail
          go_ret
          exact ⟨_, rfl, HO.out, HE.out⟩
end Go.Proofs.Ytedlmidhakmgpaa
