/- What the laws' walks say of memory: 'Fr L U w w'': outside the blocks from L up to U nothing that was there has turned; 'OwnS w L U v xs': the slice of ints v reads as xs and lies in a block from L up to U. -/
import Derived.Test.YtedfmjijemcpaaaDoorLawInts
namespace Go.Proofs.YtedfmjijemcpaaaDoor
open Go.RowKit

structure Fr (L U : Nat) (w w' : World) : Prop where
  os : w'.os = w.os
  tape : w'.tape = w.tape
  output : w'.output = w.output
  size : w.heap.size ≤ w'.heap.size
  block : ∀ k, k < w.heap.size → (k < L ∨ U ≤ k) → w'.heap[k]? = w.heap[k]?

theorem Ext.fr {w w' : World} (h : Ext w w') : Fr 0 0 w w' := ⟨h.os, h.tape, h.output, Below.size h, fun k hk _ => h.block k hk⟩
theorem Fr.refl (L U : Nat) (w : World) : Fr L U w w := ⟨rfl, rfl, rfl, Nat.le_refl _, fun _ _ _ => rfl⟩
theorem Fr.trans {L U : Nat} {a b c : World} (h : Fr L U a b) (k : Fr L U b c) : Fr L U a c :=
  ⟨k.os.trans h.os, k.tape.trans h.tape, k.output.trans h.output, Nat.le_trans h.size k.size, fun i hi hn => (k.block i (Nat.lt_of_lt_of_le hi h.size) hn).trans (h.block i hi hn)⟩
theorem Fr.mono {L U L' U' : Nat} {a b : World} (h : Fr L U a b) (h1 : L' ≤ L) (h2 : U ≤ U') : Fr L' U' a b :=
  ⟨h.os, h.tape, h.output, h.size, fun i hi hn => h.block i hi (by omega)⟩
theorem Ext.then_fr {a w w' : World} {L U : Nat} (h : Ext a w) (f : Fr L U w w') (hL : a.heap.size ≤ L) : Ext a w' :=
  Below.trans h ⟨f.os, f.tape, f.output, f.size, fun k hk => f.block k (Nat.lt_of_lt_of_le hk h.size) (Or.inl (Nat.lt_of_lt_of_le hk hL))⟩
theorem Fr.of_row {w w' : World} {A : Option Addr} {L U : Nat} (hg : w.grownBy w' (A.map (·.block))) (hA : ∀ a, A = some a → L ≤ a.block ∧ a.block < U) : Fr L U w w' :=
  ⟨hg.os, hg.tape, hg.output, hg.size, fun k hk hn => hg.block k hk (fun e => by
    cases A with
    | none => simp at e
    | some a => simp at e; have := hA a rfl; omega)⟩

theorem Fr.cell {L U : Nat} {w w' : World} (f : Fr L U w w') {p : Addr} {u : Value} (h : w.cell? p = some u) (hn : p.block < L ∨ U ≤ p.block) : w'.cell? p = some u :=
  (World.cell?_of_block (f.block p.block (World.block_lt_of_cell? w p h) hn)).trans h

/-- The cells of a struct of two cells that has just been boxed. -/
theorem box2 (w : World) (n : Nat) (a b : Value) (t : TypeId) (h : w.heap.size = n) : (w.alloc (.cells #[a, b] t)).cell? ⟨n, 0, none⟩ = some a ∧ (w.alloc (.cells #[a, b] t)).cell? ⟨n, 1, none⟩ = some b := by
  subst h
  exact ⟨cell_of_row _ _ 0 #[a, b] t (0, 0) (heap_alloc_new w _), cell_of_row _ _ 1 #[a, b] t (0, 0) (heap_alloc_new w _)⟩

/-- A slice of ints in a block of its own, from L up to U. -/
def OwnS (w : World) (L U : Nat) (v : Value) (xs : List Int) : Prop :=
  ∃ A c, v = .slice A xs.length c ∧ OwI w L A c xs ∧ (∀ a, A = some a → a.block < U) ∧ U ≤ w.heap.size

theorem OwnS.fr {w w' : World} {L U L' U' : Nat} {v : Value} {xs : List Int} (h : OwnS w L U v xs) (f : Fr L' U' w w') (hd : U ≤ L' ∨ U' ≤ L) : OwnS w' L U v xs := by
  obtain ⟨A, c, rfl, ho, hb, hu⟩ := h
  refine ⟨A, c, rfl, ?_, hb, Nat.le_trans hu f.size⟩
  cases A with
  | none =>
    refine ⟨ho.1, ?_⟩
    rcases ho.2 with h | ⟨g, cap, cur, e, _⟩
    · exact Or.inl h
    · simp at e
  | some a =>
    have h1 := ho.lt a rfl
    have h2 := hb a rfl
    have hblk := f.block a.block h1.2 (by omega)
    refine ⟨ho.1, ?_⟩
    rcases ho.2 with h | ⟨g, cap, cur, e, h3, h4, h5⟩
    · exact Or.inl h
    · refine Or.inr ⟨g, cap, cur, e, h3, ?_, h5⟩
      injection e with e1 _ _
      injection e1 with e1
      subst e1
      rw [hblk]
      exact h4
theorem OwnS.rd {w : World} {L U : Nat} {v : Value} {xs : List Int} (h : OwnS w L U v xs) : ∃ A c, v = .slice A xs.length c ∧ RdI w A xs := by
  obtain ⟨A, c, rfl, ho, _⟩ := h
  exact ⟨A, c, rfl, ho.rd⟩

/-- A function that answers a fresh slice of ints. -/
def RetS (w : World) (xs : List Int) (e : Ending) (w' : World) : Prop := ∃ v, e = .returned v ∧ OwnS w' w.heap.size w'.heap.size v xs ∧ Ext w w'
theorem RetI.own {w w' : World} {xs : List Int} {e : Ending} (h : RetI w xs e w') : RetS w xs e w' := by
  obtain ⟨A, c, rfl, ho, he⟩ := h
  exact ⟨_, rfl, ⟨A, c, rfl, ho, fun a ha => (ho.lt a ha).2, Nat.le_refl _⟩, he⟩
/-- .. and a bool beside it. -/
def RetSB (w : World) (xs : List Int) (b : Bool) (e : Ending) (w' : World) : Prop := ∃ v, e = .returned (.tuple #[v, .bool b]) ∧ OwnS w' w.heap.size w'.heap.size v xs ∧ Ext w w'
theorem RetIB.own {w w' : World} {xs : List Int} {b : Bool} {e : Ending} (h : RetIB w xs b e w') : RetSB w xs b e w' := by
  obtain ⟨A, c, rfl, ho, he⟩ := h
  exact ⟨_, rfl, ⟨A, c, rfl, ho, fun a ha => (ho.lt a ha).2, Nat.le_refl _⟩, he⟩

theorem toS_law (A : Option Addr) (c : Nat) (xs : List Int) (w : World) (hr : RdI w A xs) (hn : xs.length ≤ 1048576) : Calls Tryd.prog 8 #[.slice A xs.length c] w (RetS w xs) :=
  (toIntS_any A c xs w hr hn).mono fun _ _ h => h.own
def szS (xs : List Int) : Nat := xs.length
def mkS (xs : List Int) (k : Int) : List Int := marks k xs.length
theorem eqS_law {w : World} {L U L' U' : Nat} {v v' : Value} {xs : List Int} (h : OwnS w L U v xs) (h' : OwnS w L' U' v' xs) (hn : szS xs ≤ 1099511627776) :
    Calls Tryd.prog 10 #[v, v'] w fun e w' => e = .returned (.bool true) ∧ Ext w w' := by
  obtain ⟨A, c, rfl, ha⟩ := h.rd
  obtain ⟨B, d, rfl, hb⟩ := h'.rd
  unfold szS at hn
  refine (eqIntS_same A B c d xs w ha hb (by omega)).mono fun e w' ⟨h1, k, h2⟩ => ⟨h1, ?_⟩
  rw [h2]
  exact (Ext.refl w).drewN k
theorem markS_law {w : World} {L U : Nat} {v : Value} {xs : List Int} (h : OwnS w L U v xs) (k0 : Int) (h0 : 0 ≤ k0) (h1 : k0 ≤ 1125899906842624) (hn : szS xs ≤ 1099511627776) :
    Calls Tryd.prog 15 #[v, .int .i64 k0] w fun e w' => e = .returned (.int .i64 (k0 + szS xs)) ∧ OwnS w' L U v (mkS xs k0) ∧ Fr L U w w' := by
  obtain ⟨A, c, rfl, ho, hb, hu⟩ := h
  unfold szS at hn
  refine (markIntS_any L A c xs k0 w ho h0 (by omega)).mono fun e w' ⟨h1, h2, h3⟩ => ⟨h1, ⟨A, c, ?_, ?_, hb, Nat.le_trans hu h3.size⟩, Fr.of_row h3 fun a ha => ⟨(ho.lt a ha).1, hb a ha⟩⟩
  · simp [mkS, marks_length]
  · exact h2
theorem heldS_law {w : World} {L U : Nat} {v : Value} {xs : List Int} (k0 : Int) (h : OwnS w L U v (mkS xs k0)) (h0 : 0 ≤ k0) (h1 : k0 ≤ 1125899906842624) (hn : szS xs ≤ 1099511627776) :
    Calls Tryd.prog 16 #[v, .int .i64 k0] w fun e w' => e = .returned (.int .i64 (k0 + szS xs)) ∧ Ext w w' := by
  obtain ⟨A, c, rfl, ha⟩ := h.rd
  have e : (mkS xs k0).length = xs.length := by simp [mkS, marks_length]
  rw [e]
  unfold szS at hn
  refine (heldIntS_any A c xs.length k0 w ha h0 (by omega)).mono fun e w' ⟨h1, h2⟩ => ⟨h1, ?_⟩
  rw [← h2]
  exact Ext.refl w
end Go.Proofs.YtedfmjijemcpaaaDoor
