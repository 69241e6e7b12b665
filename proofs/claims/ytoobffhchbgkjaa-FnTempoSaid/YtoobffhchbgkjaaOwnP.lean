/- 'OwnP w L U v xs': the slice of passages v reads as xs and lies in a block from L up to U. The laws' helpers in these words. -/
import Derived.Test.YtoobffhchbgkjaaOwn
import Derived.Test.YtoobffhchbgkjaaPass
namespace Go.Proofs.Ytoobffhchbgkjaa
open Go.RowKit

def OwnP (w : World) (L U : Nat) (v : Value) (xs : List (Int × Int)) : Prop :=
  ∃ A c, v = .slice A xs.length c ∧ OwP w L A c xs ∧ (∀ a, A = some a → a.block < U) ∧ U ≤ w.heap.size

theorem OwnP.fr {w w' : World} {L U L' U' : Nat} {v : Value} {xs : List (Int × Int)} (h : OwnP w L U v xs) (f : Fr L' U' w w') (hd : U ≤ L' ∨ U' ≤ L) : OwnP w' L U v xs := by
  obtain ⟨A, c, rfl, ho, hb, hu⟩ := h
  refine ⟨A, c, rfl, ?_, hb, Nat.le_trans hu f.size⟩
  cases A with
  | none =>
    refine ⟨ho.1, ?_⟩
    rcases ho.2 with h | ⟨g, cap, cur, e, _⟩
    · exact Or.inl h
    · simp at e
  | some a =>
    have h1 := ho.lt a rfl
    have h2 := hb a rfl
    have hblk := f.block a.block h1.2 (by omega)
    refine ⟨ho.1, ?_⟩
    rcases ho.2 with h | ⟨g, cap, cur, e, h3, h4, h5⟩
    · exact Or.inl h
    · refine Or.inr ⟨g, cap, cur, e, h3, ?_, h5⟩
      injection e with e1 _ _
      injection e1 with e1
      subst e1
      rw [hblk]
      exact h4
theorem OwnP.rd {w : World} {L U : Nat} {v : Value} {xs : List (Int × Int)} (h : OwnP w L U v xs) : ∃ A c, v = .slice A xs.length c ∧ RdP w A xs := by
  obtain ⟨A, c, rfl, ho, _⟩ := h
  exact ⟨A, c, rfl, ho.rd⟩
def RetP (w : World) (xs : List (Int × Int)) (e : Ending) (w' : World) : Prop := ∃ v, e = .returned v ∧ OwnP w' w.heap.size w'.heap.size v xs ∧ Ext w w'
theorem RetP0.own {w w' : World} {xs : List (Int × Int)} {e : Ending} (h : RetP0 w xs e w') : RetP w xs e w' := by
  obtain ⟨A, c, rfl, ho, he⟩ := h
  exact ⟨_, rfl, ⟨A, c, rfl, ho, fun a ha => (ho.lt a ha).2, Nat.le_refl _⟩, he⟩
theorem toP_law (A : Option Addr) (c : Nat) (xs : List (Int × Int)) (w : World) (hr : RdP w A xs) (hn : xs.length ≤ 1048576) : Calls Try.prog 14 #[.slice A xs.length c] w (RetP w xs) :=
  (toPassageS_any A c xs w hr hn).mono fun _ _ h => h.own
/-- .. and a bool beside it. -/
def RetP0B (w : World) (xs : List (Int × Int)) (b : Bool) (e : Ending) (w' : World) : Prop :=
  ∃ A c, e = .returned (.tuple #[.slice A xs.length c, .bool b]) ∧ OwP w' w.heap.size A c xs ∧ Ext w w'
def RetPB (w : World) (xs : List (Int × Int)) (b : Bool) (e : Ending) (w' : World) : Prop := ∃ v, e = .returned (.tuple #[v, .bool b]) ∧ OwnP w' w.heap.size w'.heap.size v xs ∧ Ext w w'
theorem RetP0B.own {w w' : World} {xs : List (Int × Int)} {b : Bool} {e : Ending} (h : RetP0B w xs b e w') : RetPB w xs b e w' := by
  obtain ⟨A, c, rfl, ho, he⟩ := h
  exact ⟨_, rfl, ⟨A, c, rfl, ho, fun a ha => (ho.lt a ha).2, Nat.le_refl _⟩, he⟩
def szP (xs : List (Int × Int)) : Nat := xs.length
theorem eqP_law {w : World} {L U L' U' : Nat} {v v' : Value} {xs : List (Int × Int)} (h : OwnP w L U v xs) (h' : OwnP w L' U' v' xs) (hn : szP xs ≤ 1099511627776) :
    Calls Try.prog 16 #[v, v'] w fun e w' => e = .returned (.bool true) ∧ Ext w w' := by
  obtain ⟨A, c, rfl, ha⟩ := h.rd
  obtain ⟨B, d, rfl, hb⟩ := h'.rd
  exact eqPassageS_same A B c d xs w ha hb hn
theorem szP_ok (A : Option Addr) (c n : Nat) (left : Int) (w : World) (h0 : 0 ≤ left ∧ left ≤ 1048576) (h : (n : Int) ≤ left) :
    Calls Try.prog 12 #[.slice A n c, .int .i64 left] w fun e w' => e = .returned (.int .i64 (left - n)) ∧ Ext w w' :=
  (szPassageS_any A c n left w h0.1 h0.2 (by omega)).mono fun _ _ ⟨h1, h2⟩ => ⟨by rw [h1, if_pos h], h2 ▸ Ext.refl w⟩
theorem szP_bad (A : Option Addr) (c n : Nat) (left : Int) (w : World) (h0 : 0 ≤ left ∧ left ≤ 1048576) (h : left < n) (hn : n ≤ c ∧ c ≤ maxLen) :
    Calls Try.prog 12 #[.slice A n c, .int .i64 left] w fun e w' => e = .returned (.int .i64 (-1)) ∧ Ext w w' :=
  (szPassageS_any A c n left w h0.1 h0.2 (by have := hn.2; unfold maxLen at this; omega)).mono fun _ _ ⟨h1, h2⟩ => ⟨by rw [h1, if_neg (by omega)], h2 ▸ Ext.refl w⟩
def mkP (xs : List (Int × Int)) (k : Int) : List (Int × Int) := marksP k xs.length
theorem markP_law {w : World} {L U : Nat} {v : Value} {xs : List (Int × Int)} (h : OwnP w L U v xs) (k0 : Int) (h0 : 0 ≤ k0) (h1 : k0 ≤ 1125899906842624) (hn : szP xs ≤ 1099511627776) :
    Calls Try.prog 21 #[v, .int .i64 k0] w fun e w' => e = .returned (.int .i64 (k0 + 2 * szP xs)) ∧ OwnP w' L U v (mkP xs k0) ∧ Fr L U w w' := by
  obtain ⟨A, c, rfl, ho, hb, hu⟩ := h
  unfold szP at hn
  refine (markPassageS_any L A c xs k0 w ho h0 (by omega)).mono fun e w' ⟨h1, h2, h3⟩ => ⟨h1, ⟨A, c, ?_, ?_, hb, Nat.le_trans hu h3.size⟩, Fr.of_row h3 fun a ha => ⟨(ho.lt a ha).1, hb a ha⟩⟩
  · simp [mkP, marksP_length]
  · exact h2
theorem heldP_law {w : World} {L U : Nat} {v : Value} {xs : List (Int × Int)} (k0 : Int) (h : OwnP w L U v (mkP xs k0)) (h0 : 0 ≤ k0) (h1 : k0 ≤ 1125899906842624) (hn : szP xs ≤ 1099511627776) :
    Calls Try.prog 22 #[v, .int .i64 k0] w fun e w' => e = .returned (.int .i64 (k0 + 2 * szP xs)) ∧ Ext w w' := by
  obtain ⟨A, c, rfl, ha⟩ := h.rd
  have e : (mkP xs k0).length = xs.length := by simp [mkP, marksP_length]
  rw [e]
  unfold szP at hn
  refine (heldPassageS_any A c xs.length k0 w ha h0 (by omega)).mono fun e w' ⟨h1, h2⟩ => ⟨h1, ?_⟩
  rw [← h2]
  exact Ext.refl w
end Go.Proofs.Ytoobffhchbgkjaa
