/- Slices of rhythms: what a call owns, and an append of one rhythm. -/
import Derived.Test.YtphpdanohooccaaGreatDoorRhyB
import Derived.Test.YtphpdanohooccaaGreatDoorMap
import Derived.Deep.AppendLies
namespace Go.Proofs.YtphpdanohooccaaGreatDoor
open Go.RowKit

theorem info_rq : (Tryz.prog.info? 25).map (fun i => (i.zero, i.size, i.bytes)) = some (some (.agg #[.int .i64 0, .slice none 0 0]), 2, 32) := by kernel_rfl
/-- The cells of a row of rhythms. -/
def rowQ (es : List (Int × Option Addr × Nat × List Int)) : List Value := es.flatMap fun e => [.int .i64 e.1, .slice e.2.1 e.2.2.2.length e.2.2.1]
theorem rowQ_len (es : List (Int × Option Addr × Nat × List Int)) : (rowQ es).length = es.length * 2 := by
  induction es with
  | nil => rfl
  | cons e es ih => simp only [rowQ, List.flatMap_cons, List.length_append, List.length_cons, List.length_nil] at *; omega
theorem rowQ_app (es fs : List (Int × Option Addr × Nat × List Int)) : rowQ (es ++ fs) = rowQ es ++ rowQ fs := by simp [rowQ]
theorem rowQ_get : ∀ (es : List (Int × Option Addr × Nat × List Int)) (k : Nat) (h : k < es.length), (rowQ es)[k * 2]? = some (.int .i64 es[k].1) ∧ (rowQ es)[k * 2 + 1]? = some (.slice es[k].2.1 es[k].2.2.2.length es[k].2.2.1)
  | e :: es, 0, _ => by simp [rowQ]
  | e :: es, k + 1, h => by
    have := rowQ_get es k (by simpa using h)
    have e1 : rowQ (e :: es) = .int .i64 e.1 :: .slice e.2.1 e.2.2.2.length e.2.2.1 :: rowQ es := rfl
    rw [e1, show (k + 1) * 2 = k * 2 + 1 + 1 by omega]
    simpa using this
theorem rowQ_one (es : List (Int × Option Addr × Nat × List Int)) : ∀ u ∈ rowQ es, u.oneCell' = true := by
  intro u hu
  unfold rowQ at hu
  simp only [List.mem_flatMap, List.mem_cons, List.not_mem_nil, or_false] at hu
  obtain ⟨e, _, rfl | rfl⟩ := hu <;> rfl
def OwQ (w : World) (L : Nat) (A : Option Addr) (c : Nat) (es : List (Int × Option Addr × Nat × List Int)) : Prop := w.ownsRow L 25 2 (.slice A es.length c) es.length (rowQ es)
def InQ (w : World) (L : Nat) (es : List (Int × Option Addr × Nat × List Int)) : Prop := ∀ e ∈ es, OwI w L e.2.1 e.2.2.1 e.2.2.2
/-- No two rhythms of a row share an array. -/
def DisQ (es : List (Int × Option Addr × Nat × List Int)) : Prop := es.Pairwise fun e f => ∀ x y : Addr, e.2.1 = some x → f.2.1 = some y → x.block ≠ y.block
theorem OwQ.ext {w w' : World} {L : Nat} {A : Option Addr} {c : Nat} {es : List (Int × Option Addr × Nat × List Int)} (h : OwQ w L A c es) (he : Ext w w') : OwQ w' L A c es := h.kept (he.grownBy none) (by cases A <;> simp [Value.ownBlock])
theorem InQ.ext {w w' : World} {L : Nat} {es : List (Int × Option Addr × Nat × List Int)} (h : InQ w L es) (he : Ext w w') : InQ w' L es := fun e h1 => (h e h1).ext he
theorem OwQ.rd {w : World} {L : Nat} {A : Option Addr} {c : Nat} {es : List (Int × Option Addr × Nat × List Int)} (h : OwQ w L A c es) : Rd w 2 A es.length (rowQ es) := Rd.of_own h
theorem OwQ.at_ {w : World} {L : Nat} {A : Option Addr} {c : Nat} {es : List (Int × Option Addr × Nat × List Int)} (h : OwQ w L A c es) (k : Nat) (hk : k < es.length) :
    ∃ b o, A = some ⟨b, o, none⟩ ∧ w.cell? ⟨b, o + k * 2, none⟩ = some (.int .i64 es[k].1) ∧ w.cell? ⟨b, o + k * 2 + 1, none⟩ = some (.slice es[k].2.1 es[k].2.2.2.length es[k].2.2.1) := by
  obtain ⟨b, o, e, hc⟩ := h.rd.2 (by omega)
  obtain ⟨h1, h2⟩ := rowQ_get es k hk
  exact ⟨b, o, e, hc _ _ h1, hc _ _ h2⟩
/-- A row of rhythms is no row of ints. -/
theorem OwQ.ne {w : World} {L L' : Nat} {A B : Option Addr} {c d : Nat} {es : List (Int × Option Addr × Nat × List Int)} {xs : List Int} (h : OwQ w L A c es) (h2 : OwI w L' B d xs) : ∀ a, B = some a → A.map (·.block) ≠ some a.block := by
  rintro a rfl he
  cases A with
  | none => simp at he
  | some ad =>
    simp at he
    rcases h.2 with ⟨e, _⟩ | ⟨g, cap, cur, e, _, hg, _⟩
    · cases e
    rcases h2.2 with ⟨e2, _⟩ | ⟨g2, cap2, cur2, e2, _, hg2, _⟩
    · cases e2
    injection e with e _ _
    injection e with e
    injection e2 with e2 _ _
    injection e2 with e2
    subst e e2
    simp only at he
    subst he
    rw [hg] at hg2
    injection hg2 with hg2
    injection hg2 with _ hg2 _
    exact absurd hg2 (by decide)
theorem OwQ.lower {w : World} {L L' : Nat} {A : Option Addr} {c : Nat} {es : List (Int × Option Addr × Nat × List Int)} (h : OwQ w L A c es) (hL : L' ≤ L) : OwQ w L' A c es := by
  unfold OwQ at h ⊢
  exact ⟨h.1, h.2.imp (fun h => h) fun ⟨g, cap, cur, e, hb, h⟩ => ⟨g, cap, cur, e, Nat.le_trans hL hb, h⟩⟩
theorem InQ.lower {w : World} {L L' : Nat} {es : List (Int × Option Addr × Nat × List Int)} (h : InQ w L es) (hL : L' ≤ L) : InQ w L' es := fun e he => (h e he).lower hL
theorem OwQ.lt {w : World} {L : Nat} {A : Option Addr} {c : Nat} {es : List (Int × Option Addr × Nat × List Int)} (h : OwQ w L A c es) : ∀ a, A = some a → L ≤ a.block ∧ a.block < w.heap.size := by
  rintro a rfl
  exact World.ownsRow.lt h a.block rfl
theorem OwQ.nil (w : World) (L : Nat) : OwQ w L none 0 [] := World.ownsRow_nil _ _ _ _
theorem OwQ.empty (w : World) : OwQ (w.alloc (.cells #[] 25)) w.heap.size (some ⟨w.heap.size, 0, none⟩) 0 [] := World.ownsRow_lit w #[] 0 (Nat.le_refl _) (by simp [maxLen]) rfl
theorem InQ.nil (w : World) (L : Nat) : InQ w L [] := fun e he => absurd he (by simp)
theorem DisQ.snoc {w : World} {L' : Nat} {es : List (Int × Option Addr × Nat × List Int)} {e : Int × Option Addr × Nat × List Int} (h : DisQ es) (hi : ∀ f ∈ es, ∀ x, f.2.1 = some x → x.block < L') (ho : OwI w L' e.2.1 e.2.2.1 e.2.2.2) : DisQ (es ++ [e]) := by
  unfold DisQ at h ⊢
  rw [List.pairwise_append]
  refine ⟨h, List.pairwise_singleton _ _, ?_⟩
  intro f hf g hg x y hx hy
  simp only [List.mem_cons, List.not_mem_nil, or_false] at hg
  subst hg
  have h1 := hi f hf x hx
  have h2 := (ho.lt y hy).1
  omega

/-- 'out = append(out, r)' of rhythms. -/
theorem app_q {ops : Array Oper} {rest : List Oper} {o : Oper} {a : Act} {Q : Exit → Act → World → Prop} (wb w0 : World) (hgd : o.guard = none) (s x : Operand)
    (ho : o.op = .call { callee := .builtin .append, args := #[s, x], argTypes := #[32, 32] })
    (A : Option Addr) (c m : Nat) (es : List (Int × Option Addr × Nat × List Int)) (e : Int × Option Addr × Nat × List Int) (g : Nat) (hs : a.eval s = .slice A m c) (hx : a.eval x = .slice (some ⟨g, 0, none⟩) 1 1) (hgg : w0.heap.size = g)
    (hl : es.length = m) (hown : OwQ w0 wb.heap.size A c es) (hin : InQ w0 wb.heap.size es) (i1 : OwI w0 wb.heap.size e.2.1 e.2.2.1 e.2.2.2) (he : Ext wb w0) (hn : m < 1000000)
    (h : ∀ A' c' w', OwQ w' wb.heap.size A' c' (es ++ [e]) → InQ w' wb.heap.size (es ++ [e]) → Ext wb w' → wpList Tryz.prog ops Q rest (a.put o.dst (.slice A' (m + 1) c')) w') :
    wpList Tryz.prog ops Q (o :: rest) a (w0.alloc (.cells #[.int .i64 e.1, .slice e.2.1 e.2.2.2.length e.2.2.1] 25)) := by
  subst hl
  subst hgg
  obtain ⟨i0, hi, hz0, hz1, hz2⟩ := info_parts info_rq
  refine wpList_append_own _ hgd s x 32 ho wb.heap.size 25 i0 (.agg #[.int .i64 0, .slice none 0 0]) 2 32 Tryz.underlying32 hi hz0 hz1 hz2 rfl (by decide) _ es.length (rowQ es) hs (World.ownsRow.alloc hown _)
    ⟨w0.heap.size, 0, none⟩ 1 1 (rowQ [e]) hx (by rw [rowQ_len]; rfl) (World.news_of_block (heap_alloc_new w0 _)) (rowQ_one _) (by simp only [maxLen]; omega) (by omega) (by simp; exact Nat.le_succ_of_le he.size) ?_
  intro v' w' hown' hg _
  obtain ⟨A', c', rfl, _, _⟩ := own_form hown'
  have hl' : (es ++ [e]).length = es.length + 1 := by simp
  have e0 : (Value.slice A es.length c).ownBlock = A.map (·.block) := by cases A <;> rfl
  rw [e0] at hg
  have ho' : OwQ w' wb.heap.size A' c' (es ++ [e]) := by
    unfold OwQ
    rw [hl', rowQ_app]
    exact hown'
  have hx0 : Ext w0 (w0.alloc (.cells #[.int .i64 e.1, .slice e.2.1 e.2.2.2.length e.2.2.1] 25)) := (Ext.refl w0).alloc _
  have hk : ∀ e : Int × Option Addr × Nat × List Int, OwI w0 wb.heap.size e.2.1 e.2.2.1 e.2.2.2 → OwI w' wb.heap.size e.2.1 e.2.2.1 e.2.2.2 := fun (e : Int × Option Addr × Nat × List Int) he' => (he'.ext hx0).grown hg (fun ad had => (hown.ext hx0).ne (he'.ext hx0) ad had)
  refine h A' c' w' ho' ?_ (Ext.grown (he.trans hx0) hg (fun k hk => (World.ownsRow.lt hown k (by rw [e0]; exact hk)).1))
  intro f hmem
  rw [List.mem_append] at hmem
  rcases hmem with hmem | hmem
  · exact hk f (hin f hmem)
  · simp only [List.mem_cons, List.not_mem_nil, or_false] at hmem
    subst hmem
    exact hk _ i1

/-- What a function answers that makes a slice of rhythms. -/
def RetQ (w : World) (rs : List (Int × List Int)) (e : Ending) (w' : World) : Prop := ∃ A c es, e = .returned (.slice A es.length c) ∧ es.map (fun x : Int × Option Addr × Nat × List Int => (x.1, x.2.2.2)) = rs ∧ OwQ w' w.heap.size A c es ∧ InQ w' w.heap.size es ∧ DisQ es ∧ Ext w w'
end Go.Proofs.YtphpdanohooccaaGreatDoor
