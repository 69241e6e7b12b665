/- The reference's rhythm functions: contracts of l02Has, l02Of, l02Map. -/
import Derived.Test.YtphpdanohooccaaGreatDoorRhyB
import Derived.Test.YtphpdanohooccaaGreatDoorSet
import Derived.Test.YtphpdanohooccaaGreatDoorInts
import Derived.Test.YtphpdanohooccaaGreatDoorRhy
namespace Go.Proofs.YtphpdanohooccaaGreatDoor
open Go.RowKit

theorem Bx2.new1' (w : World) (x : Obj) (t : TypeId) (a b : Value) : Bx2 ((w.alloc x).alloc (.cells #[a, b] t)) (w.heap.size + 1) t a b := by
  have := Bx2.new (w.alloc x) t a b
  rwa [show (w.alloc x).heap.size = w.heap.size + 1 by simp] at this
/-- What a list carried by f, around, holds. -/
def mapF (n : Nat) (xs : List Int) (f : Int → Int) : List Int := setL n (fun p => (xs.map fun q => f q % (n : Int)).contains (p : Int))

theorem retR_intro {w w' : World} {n : Int} {A : Option Addr} {l c : Nat} {xs : List Int} (hl : l = xs.length) (ho : OwI w' w.heap.size A c xs) (he : Ext w w') :
    RetR w (n, xs) (.returned (.agg #[.int .i64 n, .slice A l c])) w' := by
  subst hl
  exact ⟨_, rfl, ⟨A, c, rfl, A, c, rfl, ho, fun a ha => (ho.lt a ha).2, Nat.le_refl _⟩, he⟩
theorem RetR.parts {w w' : World} {n : Int} {xs : List Int} {e : Ending} (h : RetR w (n, xs) e w') : ∃ A c, e = .returned (.agg #[.int .i64 n, .slice A xs.length c]) ∧ OwI w' w.heap.size A c xs ∧ Ext w w' := by
  obtain ⟨v, rfl, ⟨A, c, rfl, A3, c3, e3, ho, _, _⟩, he⟩ := h
  injection e3 with e1 _ e3
  subst e1 e3
  exact ⟨_, _, rfl, ho, he⟩
theorem RetRB.parts {w w' : World} {n : Int} {xs : List Int} {b : Bool} {e : Ending} (h : RetRB w (n, xs) b e w') : ∃ A c, e = .returned (.tuple #[.agg #[.int .i64 n, .slice A xs.length c], .bool b]) ∧ OwI w' w.heap.size A c xs ∧ Ext w w' := by
  obtain ⟨v, rfl, ⟨A, c, rfl, A3, c3, e3, ho, _, _⟩, he⟩ := h
  injection e3 with e1 _ e3
  subst e1 e3
  exact ⟨_, _, rfl, ho, he⟩
theorem own_empty2 (w : World) (x y : Obj) : OwI (((w.alloc x).alloc y).alloc (.cells #[] 3)) w.heap.size (some ⟨w.heap.size + 1 + 1, 0, none⟩) 0 [] := by
  have h := (OwI.empty ((w.alloc x).alloc y)).lower (((Ext.refl w).alloc x).alloc y).size
  have e : ((w.alloc x).alloc y).heap.size = w.heap.size + 1 + 1 := by simp
  rwa [e] at h
theorem own_empty1 (w w1 : World) (he : w.heap.size ≤ w1.heap.size) : OwI (w1.alloc (.cells #[] 3)) w.heap.size (some ⟨w1.heap.size, 0, none⟩) 0 [] := (OwI.empty w1).lower he
theorem mul_bnd {u x : Int} (hu : -30 ≤ u ∧ u ≤ 30) (hx : 0 ≤ x ∧ x ≤ 23) : -690 ≤ u * x ∧ u * x ≤ 690 := by
  have h1 := Int.mul_le_mul_of_nonneg_right hu.2 hx.1
  have h2 := Int.mul_le_mul_of_nonneg_right hu.1 hx.1
  omega

end Go.Proofs.YtphpdanohooccaaGreatDoor
