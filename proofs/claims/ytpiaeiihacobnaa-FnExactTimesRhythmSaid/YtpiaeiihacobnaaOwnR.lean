/- Contracts of the laws' helpers on rhythms: eqRhythm, markRhythm, heldRhythm, toRhythm, szRhythm. -/
import Derived.Test.YtpiaeiihacobnaaRhyB
namespace Go.Proofs.Ytpiaeiihacobnaa
open Go.RowKit

def szR (r : Int × List Int) : Nat := r.2.length
def mkR (r : Int × List Int) (k : Int) : Int × List Int := (r.1, mkS r.2 k)

theorem eqR_law {w : World} {L U L' U' : Nat} {v v' : Value} {r : Int × List Int} (h : OwnR w L U v r) (h' : OwnR w L' U' v' r) (hn : szR r ≤ 1099511627776) :
    Calls Try.prog 32 #[v, v'] w fun e w' => e = .returned (.bool true) ∧ Ext w w' := by
  obtain ⟨A, c, rfl, ho⟩ := h
  obtain ⟨B, d, rfl, ho'⟩ := h'
  obtain ⟨n, xs⟩ := r
  simp only [] at ho ho' ⊢
  have CE : Hid (∀ w2, Ext w w2 → Calls Try.prog _ #[.slice A xs.length c, .slice B xs.length d] w2 fun e w' => e = .returned (.bool true) ∧ Ext w2 w') := fun w2 he =>
    eqS_law (ho.fr he.fr (Or.inr (Nat.zero_le _))) (ho'.fr he.fr (Or.inr (Nat.zero_le _))) hn
  have HX : Hid (Ext w ((w.alloc (.cells #[.int .i64 n, .slice A xs.length c] 35)).alloc (.cells #[.int .i64 n, .slice B xs.length d] 35))) := ((Ext.refl w).alloc _).alloc _
  obtain ⟨l, hl⟩ : ∃ l, l = xs.length := ⟨_, rfl⟩
  rw [← hl] at CE HX ⊢
  clear ho ho' hn hl
  go_enter Try.func32, Try.ntmps32
  go_wp2_with fail
  refine (CE.out _ HX.out).mono ?_
  rintro e w1 ⟨rfl, he⟩
  have HE := Lib.hid (HX.out.trans he)
  clear he
  go_wp2_with fail
  go_ret
  exact ⟨rfl, HE.out⟩

theorem markR_law {w : World} {L U : Nat} {v : Value} {r : Int × List Int} (h : OwnR w L U v r) (k0 : Int) (h0 : 0 ≤ k0) (h1 : k0 ≤ 1125899906842624) (hn : szR r ≤ 1099511627776) :
    Calls Try.prog 33 #[v, .int .i64 k0] w fun e w' => e = .returned (.int .i64 (k0 + szR r)) ∧ OwnR w' L U v (mkR r k0) ∧ Fr L U w w' := by
  obtain ⟨A, c, rfl, ho⟩ := h
  obtain ⟨n, xs⟩ := r
  simp only [szR] at ho hn ⊢
  have HX : Hid (Ext w (w.alloc (.cells #[.int .i64 n, .slice A xs.length c] 35))) := (Ext.refl w).alloc _
  have CM := Lib.hid (markS_law (ho.fr HX.out.fr (Or.inr (Nat.zero_le _))) k0 h0 h1 hn)
  have hml : (mkS xs k0).length = xs.length := by simp [mkS, marks_length]
  have HML := Lib.hid hml
  have HU : Hid (U ≤ w.heap.size) := ho.choose_spec.choose_spec.2.2.2
  obtain ⟨l, hl⟩ : ∃ l, l = xs.length := ⟨_, rfl⟩
  have hsz : szS xs = l := hl.symm
  rw [hsz, ← hl] at CM
  rw [← hl] at HX HML ⊢
  clear ho hn hml hl hsz
  go_enter Try.func33, Try.ntmps33
  go_wp2_with fail
  refine CM.out.mono ?_
  rintro e w1 ⟨rfl, ho, hf⟩
  have HO := Lib.hid ho
  have HF : Hid (Fr L U w w1) := ⟨hf.os.trans HX.out.os, hf.tape.trans HX.out.tape, hf.output.trans HX.out.output, Nat.le_trans HX.out.size hf.size, fun k hk hn => (hf.block k (Nat.lt_of_lt_of_le hk HX.out.size) hn).trans (HX.out.block k hk)⟩
  clear ho hf
  go_wp2_with fail
  go_ret
  exact ⟨rfl, ⟨A, c, by simp [mkR, HML.out], by simp only [mkR]; rw [HML.out]; exact HO.out⟩, HF.out⟩

theorem heldR_law {w : World} {L U : Nat} {v : Value} {r : Int × List Int} (k0 : Int) (h : OwnR w L U v (mkR r k0)) (h0 : 0 ≤ k0) (h1 : k0 ≤ 1125899906842624) (hn : szR r ≤ 1099511627776) :
    Calls Try.prog 34 #[v, .int .i64 k0] w fun e w' => e = .returned (.int .i64 (k0 + szR r)) ∧ Ext w w' := by
  obtain ⟨A, c, rfl, ho⟩ := h
  obtain ⟨n, xs⟩ := r
  simp only [szR, mkR] at ho hn ⊢
  have HX : Hid (Ext w (w.alloc (.cells #[.int .i64 n, .slice A (mkS xs k0).length c] 35))) := (Ext.refl w).alloc _
  have CM := Lib.hid (heldS_law k0 (ho.fr HX.out.fr (Or.inr (Nat.zero_le _))) h0 h1 hn)
  have hml : (mkS xs k0).length = xs.length := by simp [mkS, marks_length]
  obtain ⟨l, hl⟩ : ∃ l, l = xs.length := ⟨_, rfl⟩
  have hsz : szS xs = l := hl.symm
  rw [hsz, hml, ← hl] at CM
  rw [hml, ← hl] at HX
  rw [hml, ← hl]
  have hl2 : l ≤ 1099511627776 := by omega
  clear ho hn hml hl hsz
  go_enter Try.func34, Try.ntmps34
  go_wp2_with fail
  refine CM.out.mono ?_
  rintro e w1 ⟨rfl, he⟩
  have HE := Lib.hid (HX.out.trans he)
  clear he
  go_wp2_with fail
  go_ret
  exact ⟨rfl, HE.out⟩

end Go.Proofs.Ytpiaeiihacobnaa
