/- Rhythms: memory; BarRhythm. -/
import Derived.Test.YtphpdanohooccaaGreatDoorRhy
import Derived.Test.YtphpdanohooccaaGreatDoorOwn
import Derived.Test.YtphpdanohooccaaGreatDoorInts
namespace Go.Proofs.YtphpdanohooccaaGreatDoor
open Go.RowKit

theorem Bx2.ne {w : World} {g L c : Nat} {t : TypeId} {a b : Value} {A : Option Addr} {xs : List Int} (h : Bx2 w g t a b) (ht : t ≠ 3) (ho : OwI w L A c xs) : ∀ ad, A = some ad → ad.block ≠ g := by
  rintro ad rfl hne
  rcases ho.2 with ⟨h2, _⟩ | ⟨g1, cap, cur, e, h3, hg, h5⟩
  · cases h2
  · injection e with e _ _
    injection e with e
    subst e
    simp only at hne
    subst hne
    unfold Bx2 at h
    rw [h] at hg
    injection hg with hg
    injection hg with _ hg _
    exact ht hg
theorem Bx2.grown {w w' : World} {g L c : Nat} {t : TypeId} {a b : Value} {A : Option Addr} {xs : List Int} (h : Bx2 w g t a b) (ht : t ≠ 3) (ho : OwI w L A c xs) (hg : w.grownBy w' (A.map (·.block))) : Bx2 w' g t a b :=
  (hg.block g h.lt (fun e => by
    cases A with
    | none => simp at e
    | some ad => simp at e; exact h.ne ht ho ad rfl e.symm)).trans h
theorem OwI.setFar {w : World} {L c : Nat} {A : Option Addr} {xs : List Int} (ho : OwI w L A c xs) {p : Addr} (hne : ∀ ad, A = some ad → ad.block ≠ p.block) (u : Value) : OwI (w.setCell p u) L A c xs := by
  refine ⟨ho.1, ?_⟩
  rcases ho.2 with h2 | ⟨g, cap, cur, e, h3, hg, h5⟩
  · exact Or.inl h2
  · have e' := e
    injection e' with e' _ _
    exact Or.inr ⟨g, cap, cur, e, h3, (Below.heap_setCell w p u g (hne _ e')).trans hg, h5⟩

/-- A rhythm whose beats lie in a block of their own. -/
def OwnR (w : World) (L U : Nat) (v : Value) (r : Int × List Int) : Prop := ∃ A c, v = .agg #[.int .i64 r.1, .slice A r.2.length c] ∧ OwnS w L U (.slice A r.2.length c) r.2
theorem OwnR.fr {w w' : World} {L U L' U' : Nat} {v : Value} {r : Int × List Int} (h : OwnR w L U v r) (f : Fr L' U' w w') (hd : U ≤ L' ∨ U' ≤ L) : OwnR w' L U v r := by
  obtain ⟨A, c, e, ho⟩ := h
  exact ⟨A, c, e, ho.fr f hd⟩
theorem OwnS.rdc2 {w : World} {L U : Nat} {v : Value} {xs : List Int} (h : OwnS w L U v xs) : ∃ A c, v = .slice A xs.length c ∧ RdI w A xs ∧ xs.length ≤ c := by
  obtain ⟨A, c, rfl, ho, _⟩ := h
  obtain ⟨A', c', e, h1, _⟩ := own_form ho
  injection e with _ _ e
  exact ⟨A, c, rfl, ho.rd, by omega⟩
theorem OwnR.rdc {w : World} {L U : Nat} {v : Value} {r : Int × List Int} (h : OwnR w L U v r) : ∃ A c, v = .agg #[.int .i64 r.1, .slice A r.2.length c] ∧ RdI w A r.2 ∧ r.2.length ≤ c := by
  obtain ⟨A, c, e, ho⟩ := h
  obtain ⟨A', c', e', h1, h2⟩ := ho.rdc2
  injection e' with e1 _ e3
  subst e1 e3
  exact ⟨A, c, e, h1, h2⟩
/-- A function that answers a fresh rhythm, and a bool. -/
def RetRB (w : World) (r : Int × List Int) (b : Bool) (e : Ending) (w' : World) : Prop := ∃ v, e = .returned (.tuple #[v, .bool b]) ∧ OwnR w' w.heap.size w'.heap.size v r ∧ Ext w w'
/-- A function that answers a fresh rhythm. -/
def RetR (w : World) (r : Int × List Int) (e : Ending) (w' : World) : Prop := ∃ v, e = .returned v ∧ OwnR w' w.heap.size w'.heap.size v r ∧ Ext w w'
theorem retRB_intro {w w' : World} {n : Int} {A : Option Addr} {l c : Nat} {xs : List Int} {b : Bool} (hl : l = xs.length) (ho : OwI w' w.heap.size A c xs) (he : Ext w w') :
    RetRB w (n, xs) b (.returned (.tuple #[.agg #[.int .i64 n, .slice A l c], .bool b])) w' := by
  subst hl
  exact ⟨_, rfl, ⟨A, c, rfl, A, c, rfl, ho, fun a ha => (ho.lt a ha).2, Nat.le_refl _⟩, he⟩

/-- The places where the steps begin. -/
def preF : List Int → Int → List Int
  | [], _ => []
  | s :: ss, p => p :: preF ss (p + s)
theorem preF_len (xs : List Int) : ∀ p, (preF xs p).length = xs.length := by
  induction xs with
  | nil => intro p; rfl
  | cons x xs ih => intro p; simp [preF, ih]
theorem preF_snoc (xs : List Int) (x : Int) : ∀ p, preF (xs ++ [x]) p = preF xs p ++ [p + xs.sum] := by
  induction xs with
  | nil => intro p; simp [preF]
  | cons y ys ih => intro p; simp [preF, ih, Int.add_assoc]
theorem preF_getD (xs : List Int) : ∀ (p : Int) (j : Nat), j < xs.length → (preF xs p).getD j 0 = p + (xs.take j).sum := by
  induction xs with
  | nil => intro p j h; simp at h
  | cons y ys ih =>
    intro p j h
    cases j with
    | zero => simp [preF]
    | succ j =>
      have := ih (p + y) j (by simpa using h)
      simp only [preF, List.getD_cons_succ, List.take_succ_cons, List.sum_cons]
      rw [this]
      omega
theorem sum_take_step (xs : List Int) (j : Nat) (h : j < xs.length) : (xs.take (j + 1)).sum = (xs.take j).sum + xs.getD j 0 := by
  rw [take_snoc xs j h]
  simp
theorem sum_take_le (xs : List Int) (hp : ∀ x ∈ xs, 1 ≤ x) : ∀ j, 0 ≤ (xs.take j).sum ∧ (xs.take j).sum ≤ xs.sum := by
  induction xs with
  | nil => intro j; simp
  | cons y ys ih =>
    intro j
    have hy := hp y (by simp)
    cases j with
    | zero =>
      have := (ih (fun x hx => hp x (by simp [hx])) 0)
      simp only [List.take_zero, List.sum_nil, List.sum_cons] at this ⊢
      omega
    | succ j =>
      have := ih (fun x hx => hp x (by simp [hx])) j
      simp only [List.take_succ_cons, List.sum_cons]
      omega
theorem preF_rhy (xs : List Int) (h0 : 1 ≤ xs.length) (hp : ∀ x ∈ xs, 1 ≤ x) (hs : xs.sum ≤ 24) : rhyB xs.sum (preF xs 0) = true := by
  have hnn := sum_take_le xs hp
  have hstep : ∀ j, j < xs.length → 1 ≤ xs.getD j 0 := fun j hj => hp _ (by simp [List.getD, hj])
  have hlt : ∀ j, j < xs.length → (xs.take j).sum + 1 ≤ xs.sum := fun j hj => by
    have := sum_take_step xs j hj
    have := hstep j hj
    have := hnn (j + 1)
    omega
  refine rhyB_of (inB_iff.2 ⟨?_, hs⟩) (fun j hj => ?_)
  · have := hlt 0 (by omega)
    have := hnn 0
    omega
  · rw [preF_len] at hj
    unfold okJ
    rw [preF_getD xs 0 j hj]
    have a := hlt j hj
    have b := hnn j
    rw [inB_iff.2 ⟨by omega, by omega⟩, Bool.true_and]
    by_cases hj0 : j = 0
    · simp [hj0]
    · rw [preF_getD xs 0 (j - 1) (by omega)]
      have := sum_take_step xs (j - 1) (by omega)
      rw [show j - 1 + 1 = j by omega] at this
      have := hstep (j - 1) (by omega)
      rw [decide_eq_true (by omega : 0 + (xs.take (j - 1)).sum < 0 + (xs.take j).sum)]
      simp
end Go.Proofs.YtphpdanohooccaaGreatDoor

/- Contracts of the laws' helpers on rhythms: eqRhythm, markRhythm, heldRhythm, toRhythm, szRhythm. -/
namespace Go.Proofs.YtphpdanohooccaaGreatDoor
open Go.RowKit

def szR (r : Int × List Int) : Nat := r.2.length
def mkR (r : Int × List Int) (k : Int) : Int × List Int := (r.1, mkS r.2 k)

end Go.Proofs.YtphpdanohooccaaGreatDoor
