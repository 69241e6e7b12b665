/- A rhythm (a struct: its size, its beats): contracts of RhythmOk. -/
import Derived.Test.YtedfmjijemcpaaaDoorInts
namespace Go.Proofs.YtedfmjijemcpaaaDoor
open Go.RowKit

/-- Block g is just these two cells. -/
def Bx2 (w : World) (g : Nat) (t : TypeId) (a b : Value) : Prop := w.heap[g]? = some (.cells #[a, b] t (0, 0))
theorem Bx2.ext {w w' : World} {g : Nat} {t : TypeId} {a b : Value} (h : Bx2 w g t a b) (he : Ext w w') : Bx2 w' g t a b :=
  (Below.block he g (Array.getElem?_eq_some_iff.1 h).1).trans h
theorem Bx2.cells {w : World} {g : Nat} {t : TypeId} {a b : Value} (h : Bx2 w g t a b) :
    w.cell? ⟨g, 0, none⟩ = some a ∧ w.cell? ⟨g, 1, none⟩ = some b ∧ w.frozen? ⟨g, 0, none⟩ = false ∧ w.frozen? ⟨g, 1, none⟩ = false :=
  ⟨cell_of_row w g 0 _ _ (0, 0) h, cell_of_row w g 1 _ _ (0, 0) h, frozen_of_row w g 0 _ _ h, frozen_of_row w g 1 _ _ h⟩
theorem Bx2.new (w : World) (t : TypeId) (a b : Value) : Bx2 (w.alloc (.cells #[a, b] t)) w.heap.size t a b := heap_alloc_new w _
theorem Bx2.far {w : World} {g : Nat} {t : TypeId} {a b : Value} (h : Bx2 w g t a b) {p : Addr} (hp : g ≠ p.block) (u : Value) : Bx2 (w.setCell p u) g t a b := (Below.heap_setCell w p u g hp).trans h
theorem Bx2.set0 {w : World} {g : Nat} {t : TypeId} {a b : Value} (h : Bx2 w g t a b) (c : Value) : Bx2 (w.setCell ⟨g, 0, none⟩ c) g t c b := heap_setCell_same w g 0 _ _ _ h
theorem Bx2.set1 {w : World} {g : Nat} {t : TypeId} {a b : Value} (h : Bx2 w g t a b) (c : Value) : Bx2 (w.setCell ⟨g, 1, none⟩ c) g t a c := heap_setCell_same w g 1 _ _ _ h
theorem Bx2.lt {w : World} {g : Nat} {t : TypeId} {a b : Value} (h : Bx2 w g t a b) : g < w.heap.size := (Array.getElem?_eq_some_iff.1 h).1

/-- The beat at place j is good. -/
def okJ (n : Int) (xs : List Int) (j : Nat) : Bool := inB (xs.getD j 0) 0 (n - 1) && (decide (j = 0) || decide (xs.getD (j - 1) 0 < xs.getD j 0))
/-- A rhythm is valid. -/
def rhyB (n : Int) (xs : List Int) : Bool := inB n 1 24 && (List.range xs.length).all (okJ n xs)
theorem rhyB_of {n : Int} {xs : List Int} (h : inB n 1 24 = true) (k : ∀ j, j < xs.length → okJ n xs j = true) : rhyB n xs = true := by
  unfold rhyB
  rw [h, Bool.true_and, List.all_eq_true]
  exact fun j hj => k j (List.mem_range.1 hj)
theorem rhyB_no {n : Int} {xs : List Int} {j : Nat} (hj : j < xs.length) (k : okJ n xs j = false) : rhyB n xs = false := by
  unfold rhyB
  rw [← Bool.not_eq_true, Bool.and_eq_true, List.all_eq_true]
  rintro ⟨_, ha⟩
  rw [ha j (List.mem_range.2 hj)] at k
  cases k
theorem rhyB_iff {n : Int} {xs : List Int} (h : rhyB n xs = true) : (1 ≤ n ∧ n ≤ 24) ∧ ∀ j, j < xs.length → (0 ≤ xs.getD j 0 ∧ xs.getD j 0 ≤ n - 1) ∧ (0 < j → xs.getD (j - 1) 0 < xs.getD j 0) := by
  unfold rhyB at h
  simp only [Bool.and_eq_true, List.all_eq_true] at h
  refine ⟨inB_iff.1 h.1, fun j hj => ?_⟩
  have := h.2 j (List.mem_range.2 hj)
  unfold okJ at this
  simp only [Bool.and_eq_true, Bool.or_eq_true, decide_eq_true_eq] at this
  exact ⟨inB_iff.1 this.1, fun h0 => by rcases this.2 with h1 | h1; omega; exact h1⟩


theorem rhyB_size {n : Int} {xs : List Int} (h : inB n 1 24 = false) : rhyB n xs = false := by unfold rhyB; rw [h]; rfl


end Go.Proofs.YtedfmjijemcpaaaDoor
