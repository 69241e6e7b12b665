/- Contracts of the laws' helpers on rhythms: eqRhythm, markRhythm, heldRhythm, toRhythm, szRhythm. -/
import Derived.Test.YtphpdanohooccaaDoorRhyB
namespace Go.Proofs.YtphpdanohooccaaDoor
open Go.RowKit

def szR (r : Int × List Int) : Nat := r.2.length
def mkR (r : Int × List Int) (k : Int) : Int × List Int := (r.1, mkS r.2 k)

theorem eqR_law {w : World} {L U L' U' : Nat} {v v' : Value} {r : Int × List Int} (h : OwnR w L U v r) (h' : OwnR w L' U' v' r) (hn : szR r ≤ 1099511627776) :
    Calls Tryd.prog 8 #[v, v'] w fun e w' => e = .returned (.bool true) ∧ Ext w w' := by
  obtain ⟨A, c, rfl, ho⟩ := h
  obtain ⟨B, d, rfl, ho'⟩ := h'
  obtain ⟨n, xs⟩ := r
  simp only [] at ho ho' ⊢
  have CE : Hid (∀ w2, Ext w w2 → Calls Tryd.prog _ #[.slice A xs.length c, .slice B xs.length d] w2 fun e w' => e = .returned (.bool true) ∧ Ext w2 w') := fun w2 he =>
    eqS_law (ho.fr he.fr (Or.inr (Nat.zero_le _))) (ho'.fr he.fr (Or.inr (Nat.zero_le _))) hn
  have HX : Hid (Ext w ((w.alloc (.cells #[.int .i64 n, .slice A xs.length c] 26)).alloc (.cells #[.int .i64 n, .slice B xs.length d] 26))) := ((Ext.refl w).alloc _).alloc _
  obtain ⟨l, hl⟩ : ∃ l, l = xs.length := ⟨_, rfl⟩
  rw [← hl] at CE HX ⊢
  clear ho ho' hn hl
  go_enter Tryd.func8, Tryd.ntmps8
  go_wp2_with fail
  refine (CE.out _ HX.out).mono ?_
  rintro e w1 ⟨rfl, he⟩
  have HE := Lib.hid (HX.out.trans he)
  clear he
  go_wp2_with fail
  go_ret
  exact ⟨rfl, HE.out⟩

theorem markR_law {w : World} {L U : Nat} {v : Value} {r : Int × List Int} (h : OwnR w L U v r) (k0 : Int) (h0 : 0 ≤ k0) (h1 : k0 ≤ 1125899906842624) (hn : szR r ≤ 1099511627776) :
    Calls Tryd.prog 9 #[v, .int .i64 k0] w fun e w' => e = .returned (.int .i64 (k0 + szR r)) ∧ OwnR w' L U v (mkR r k0) ∧ Fr L U w w' := by
  obtain ⟨A, c, rfl, ho⟩ := h
  obtain ⟨n, xs⟩ := r
  simp only [szR] at ho hn ⊢
  have HX : Hid (Ext w (w.alloc (.cells #[.int .i64 n, .slice A xs.length c] 26))) := (Ext.refl w).alloc _
  have CM := Lib.hid (markS_law (ho.fr HX.out.fr (Or.inr (Nat.zero_le _))) k0 h0 h1 hn)
  have hml : (mkS xs k0).length = xs.length := by simp [mkS, marks_length]
  have HML := Lib.hid hml
  have HU : Hid (U ≤ w.heap.size) := ho.choose_spec.choose_spec.2.2.2
  obtain ⟨l, hl⟩ : ∃ l, l = xs.length := ⟨_, rfl⟩
  have hsz : szS xs = l := hl.symm
  rw [hsz, ← hl] at CM
  rw [← hl] at HX HML ⊢
  clear ho hn hml hl hsz
  go_enter Tryd.func9, Tryd.ntmps9
  go_wp2_with fail
  refine CM.out.mono ?_
  rintro e w1 ⟨rfl, ho, hf⟩
  have HO := Lib.hid ho
  have HF : Hid (Fr L U w w1) := ⟨hf.os.trans HX.out.os, hf.tape.trans HX.out.tape, hf.output.trans HX.out.output, Nat.le_trans HX.out.size hf.size, fun k hk hn => (hf.block k (Nat.lt_of_lt_of_le hk HX.out.size) hn).trans (HX.out.block k hk)⟩
  clear ho hf
  go_wp2_with fail
  go_ret
  exact ⟨rfl, ⟨A, c, by simp [mkR, HML.out], by simp only [mkR]; rw [HML.out]; exact HO.out⟩, HF.out⟩

theorem heldR_law {w : World} {L U : Nat} {v : Value} {r : Int × List Int} (k0 : Int) (h : OwnR w L U v (mkR r k0)) (h0 : 0 ≤ k0) (h1 : k0 ≤ 1125899906842624) (hn : szR r ≤ 1099511627776) :
    Calls Tryd.prog 10 #[v, .int .i64 k0] w fun e w' => e = .returned (.int .i64 (k0 + szR r)) ∧ Ext w w' := by
  obtain ⟨A, c, rfl, ho⟩ := h
  obtain ⟨n, xs⟩ := r
  simp only [szR, mkR] at ho hn ⊢
  have HX : Hid (Ext w (w.alloc (.cells #[.int .i64 n, .slice A (mkS xs k0).length c] 26))) := (Ext.refl w).alloc _
  have CM := Lib.hid (heldS_law k0 (ho.fr HX.out.fr (Or.inr (Nat.zero_le _))) h0 h1 hn)
  have hml : (mkS xs k0).length = xs.length := by simp [mkS, marks_length]
  obtain ⟨l, hl⟩ : ∃ l, l = xs.length := ⟨_, rfl⟩
  have hsz : szS xs = l := hl.symm
  rw [hsz, hml, ← hl] at CM
  rw [hml, ← hl] at HX
  rw [hml, ← hl]
  have hl2 : l ≤ 1099511627776 := by omega
  clear ho hn hml hl hsz
  go_enter Tryd.func10, Tryd.ntmps10
  go_wp2_with fail
  refine CM.out.mono ?_
  rintro e w1 ⟨rfl, he⟩
  have HE := Lib.hid (HX.out.trans he)
  clear he
  go_wp2_with fail
  go_ret
  exact ⟨rfl, HE.out⟩

theorem szIntS_ok (A : Option Addr) (c l : Nat) (left : Int) (w : World) (h0 : 0 ≤ left ∧ left ≤ 1048576) (h : (l : Int) ≤ left) :
    Calls Tryd.prog 11 #[.slice A l c, .int .i64 left] w fun e w' => e = .returned (.int .i64 (left - l)) ∧ w = w' := by
  have h1 : ¬ left - (l : Int) < 0 := by omega
  go_enter Tryd.func11, Tryd.ntmps11
  go_wp2
  go_ret
  exact ⟨rfl, rfl⟩
theorem szIntS_bad (A : Option Addr) (c l : Nat) (left : Int) (w : World) (h0 : 0 ≤ left ∧ left ≤ 1048576) (h : left < l) (hl : l ≤ 9223372036854775807) :
    Calls Tryd.prog 11 #[.slice A l c, .int .i64 left] w fun e w' => e = .returned (.int .i64 (-1)) ∧ w = w' := by
  have h1 : left - (l : Int) < 0 := by omega
  go_enter Tryd.func11, Tryd.ntmps11
  go_wp2
  go_ret
  exact ⟨rfl, rfl⟩
theorem szR_ok (n : Int) (A : Option Addr) (c l : Nat) (left : Int) (w : World) (h0 : 0 ≤ left ∧ left ≤ 1048576) (h : (l : Int) ≤ left) :
    Calls Tryd.prog 4 #[.agg #[.int .i64 n, .slice A l c], .int .i64 left] w fun e w' => e = .returned (.int .i64 (left - l)) ∧ Ext w w' := by
  have h1 : ¬ left - (l : Int) < 0 := by omega
  go_enter Tryd.func4, Tryd.ntmps4
  go_wp2_with (go_at_call 11; refine (szIntS_ok _ _ _ _ _ h0 h).mono ?_; rintro e w' ⟨rfl, rfl⟩)
  go_ret
  exact ⟨rfl, (Ext.refl w).alloc _⟩
theorem szR_bad (n : Int) (A : Option Addr) (c l : Nat) (left : Int) (w : World) (h0 : 0 ≤ left ∧ left ≤ 1048576) (h : left < l) (hn : l ≤ c ∧ c ≤ maxLen) :
    Calls Tryd.prog 4 #[.agg #[.int .i64 n, .slice A l c], .int .i64 left] w fun e w' => e = .returned (.int .i64 (-1)) ∧ Ext w w' := by
  have hl : l ≤ 9223372036854775807 := by have := hn.2; unfold maxLen at this; omega
  clear hn
  go_enter Tryd.func4, Tryd.ntmps4
  go_wp2_with (go_at_call 11; refine (szIntS_bad _ _ _ _ _ h0 h hl).mono ?_; rintro e w' ⟨rfl, rfl⟩)
  go_ret
  exact ⟨rfl, (Ext.refl w).alloc _⟩
set_option maxHeartbeats 1000000 in
theorem toR_law (n : Int) (A : Option Addr) (c : Nat) (xs : List Int) (w : World) (hr : RdI w A xs) (hn : xs.length ≤ 1048576) :
    Calls Tryd.prog 6 #[.agg #[.int .i64 n, .slice A xs.length c]] w (RetR w (n, xs)) := by
  have CT : Hid (∀ w, RdI w A xs → Calls Tryd.prog _ #[.slice A xs.length c] w (RetS w xs)) := fun w h => toS_law A c xs w h hn
  have HR := Lib.hid hr
  obtain ⟨l, hl⟩ : ∃ l, l = xs.length := ⟨_, rfl⟩
  have HL := Lib.hid hl
  rw [← hl] at CT ⊢
  clear hr hn hl
  have HX0 : Hid (Ext w (((w.alloc (.cells #[.int .i64 n, .slice A l c] 24)).alloc (.cells #[.int .i64 0, .slice none 0 0] 26)).alloc (.cells #[.int .i64 n, .slice none 0 0] 26))) := (((Ext.refl w).alloc _).alloc _).alloc _
  have HB1 : Hid (Bx2 (((w.alloc (.cells #[.int .i64 n, .slice A l c] 24)).alloc (.cells #[.int .i64 0, .slice none 0 0] 26)).alloc (.cells #[.int .i64 n, .slice none 0 0] 26)) (w.heap.size + 1) 26 (.int .i64 0) (.slice none 0 0)) := by
    have := Bx2.new (w.alloc (.cells #[.int .i64 n, .slice A l c] 24)) 26 (.int .i64 0) (.slice none 0 0)
    simp at this
    exact this.ext ((Ext.refl _).alloc _)
  have HB2 : Hid (Bx2 (((w.alloc (.cells #[.int .i64 n, .slice A l c] 24)).alloc (.cells #[.int .i64 0, .slice none 0 0] 26)).alloc (.cells #[.int .i64 n, .slice none 0 0] 26)) (w.heap.size + 1 + 1) 26 (.int .i64 n) (.slice none 0 0)) := by
    have := Bx2.new ((w.alloc (.cells #[.int .i64 n, .slice A l c] 24)).alloc (.cells #[.int .i64 0, .slice none 0 0] 26)) 26 (.int .i64 n) (.slice none 0 0)
    simp at this
    exact this
  go_enter Tryd.func6, Tryd.ntmps6
  go_wp2_with fail
  refine (CT.out _ (HR.out.ext HX0.out)).mono ?_
  rintro e w1 ⟨v, rfl, ⟨A2, c2, rfl, ho, _, _⟩, he⟩
  rw [← HL.out]
  have HX := Lib.hid (HX0.out.trans he)
  have HB1' := Lib.hid (HB1.out.ext he)
  have HB2' := Lib.hid (HB2.out.ext he)
  have HN1 := Lib.hid (HB1'.out.ne (by decide) ho)
  have HN2 := Lib.hid (HB2'.out.ne (by decide) ho)
  have HO := Lib.hid (ho.lower HX0.out.size)
  have hsz := HB2'.out.lt
  clear ho he
  obtain ⟨z0, z1, y0, y1⟩ := HB1'.out.cells
  obtain ⟨q0, q1, p0, p1⟩ := HB2'.out.cells
  go_wp2_with fail
  refine bodyPost_ret (v := .agg #[.int .i64 n, .slice A2 l c2]) (by simp [results, Tryd.results6, go_sem, z0, z1]) rfl ?_
  have HOF := ((HO.out.setFar (p := ⟨w.heap.size + 1 + 1, 1, none⟩) (fun ad had => HN2.out ad had) (.slice A2 l c2)).setFar (p := ⟨w.heap.size + 1, 0, none⟩) (fun ad had => HN1.out ad had) (.int .i64 n)).setFar (p := ⟨w.heap.size + 1, 1, none⟩) (fun ad had => HN1.out ad had) (.slice A2 l c2)
  refine ⟨_, rfl, ⟨A2, c2, by rw [HL.out], A2, c2, rfl, HOF, fun ad had => (HOF.lt ad had).2, Nat.le_refl _⟩, ((HX.out.setCell (by simp only []; omega) _).setCell (by simp) _).setCell (by simp) _⟩
end Go.Proofs.YtphpdanohooccaaDoor
