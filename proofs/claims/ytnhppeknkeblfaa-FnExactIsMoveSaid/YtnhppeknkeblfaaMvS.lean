/- Contract of l24Moves. -/
import Derived.Test.YtnhppeknkeblfaaMvI
import Derived.Test.YtnhppeknkeblfaaLater
namespace Go.Proofs.Ytnhppeknkeblfaa
open Go.RowKit Go.Sort

/-- What rows of rhythms turn into behind an append onto another row of rhythms. -/
theorem InQ.grownQ {w w' : World} {L L2 : Nat} {A : Option Addr} {c : Nat} {es fs : List (Int × Option Addr × Nat × List Int)} (hi : InQ w L2 fs) (ho : OwQ w L A c es) (hg : w.grownBy w' (A.map (·.block))) : InQ w' L2 fs :=
  fun f hf => (hi f hf).grown hg (fun ad had => ho.ne (hi f hf) ad had)

/-- 'out = append(out, src...)' of rhythms. -/
theorem app_qs {ops : Array Oper} {rest : List Oper} {o : Oper} {a : Act} {Q : Exit → Act → World → Prop} (wb w : World) (hgd : o.guard = none) (s x : Operand)
    (ho : o.op = .call { callee := .builtin .append, args := #[s, x], argTypes := #[42, 42] })
    (g c m : Nat) (es : List (Int × Option Addr × Nat × List Int)) (ad : Addr) (k d : Nat) (fs : List (Int × Option Addr × Nat × List Int)) (L2 : Nat) (hs : a.eval s = .slice (some ⟨g, 0, none⟩) m c) (hx : a.eval x = .slice (some ad) k d)
    (hl : es.length = m) (hl2 : fs.length = k) (hown : OwQ w wb.heap.size (some ⟨g, 0, none⟩) c es) (hin : InQ w L2 es) (hin2 : InQ w L2 fs) (hr : ∀ j u, (rowQ fs)[j]? = some u → w.cell? (ad.add j) = some u) (he : Ext wb w) (hn : m + k < 1000000)
    (h : ∀ g' c' w', OwQ w' wb.heap.size (some ⟨g', 0, none⟩) c' (es ++ fs) → InQ w' L2 (es ++ fs) → Ext wb w' → wpList Try.prog ops Q rest (a.put o.dst (.slice (some ⟨g', 0, none⟩) (m + k) c')) w') :
    wpList Try.prog ops Q (o :: rest) a w := by
  subst hl hl2
  obtain ⟨i0, hi, hz0, hz1, hz2⟩ := info_parts info_rq
  refine wpList_append_own _ hgd s x 42 ho wb.heap.size 27 i0 (.agg #[.int .i64 0, .slice none 0 0]) 2 32 Try.underlying42 hi hz0 hz1 hz2 rfl (by decide) _ es.length (rowQ es) hs hown
    ad fs.length d (rowQ fs) hx (rowQ_len fs) hr (rowQ_one _) (by simp only [maxLen]; omega) (by omega) he.size ?_
  intro v' w' hown' hg hnn
  have hl' : (es ++ fs).length = es.length + fs.length := by simp
  have hv : ∃ g' c', v' = .slice (some ⟨g', 0, none⟩) (es.length + fs.length) c' := by
    rcases hown'.2 with ⟨h1, _⟩ | ⟨g', cap, cur, h1, _⟩
    · have := (hnn.1 h1).1
      cases this
    · exact ⟨g', cap, h1⟩
  obtain ⟨g', c', rfl⟩ := hv
  have ho' : OwQ w' wb.heap.size (some ⟨g', 0, none⟩) c' (es ++ fs) := by
    unfold OwQ
    rw [hl', rowQ_app]
    exact hown'
  refine h g' c' w' ho' ?_ (Ext.grown he hg (fun k hk => (World.ownsRow.lt hown k hk).1))
  intro f hf
  rw [List.mem_append] at hf
  rcases hf with hf | hf
  · exact InQ.grownQ hin hown hg f hf
  · exact InQ.grownQ hin2 hown hg f hf
/-- 'out = append(out, r)' of rhythms, the rows' arrays from another base on. -/
theorem app_q1 {ops : Array Oper} {rest : List Oper} {o : Oper} {a : Act} {Q : Exit → Act → World → Prop} (wb w0 : World) (hgd : o.guard = none) (s x : Operand)
    (ho : o.op = .call { callee := .builtin .append, args := #[s, x], argTypes := #[42, 42] })
    (g c m : Nat) (es : List (Int × Option Addr × Nat × List Int)) (e : Int × Option Addr × Nat × List Int) (q L2 : Nat) (hs : a.eval s = .slice (some ⟨g, 0, none⟩) m c) (hx : a.eval x = .slice (some ⟨q, 0, none⟩) 1 1) (hgg : w0.heap.size = q)
    (hl : es.length = m) (hown : OwQ w0 wb.heap.size (some ⟨g, 0, none⟩) c es) (hin : InQ w0 L2 es) (i1 : OwI w0 L2 e.2.1 e.2.2.1 e.2.2.2) (he : Ext wb w0) (hn : m + 1 < 1000000)
    (h : ∀ g' c' w', OwQ w' wb.heap.size (some ⟨g', 0, none⟩) c' (es ++ [e]) → InQ w' L2 (es ++ [e]) → Ext wb w' → wpList Try.prog ops Q rest (a.put o.dst (.slice (some ⟨g', 0, none⟩) (m + 1) c')) w') :
    wpList Try.prog ops Q (o :: rest) a (w0.alloc (.cells #[.int .i64 e.1, .slice e.2.1 e.2.2.2.length e.2.2.1] 27)) := by
  have hx0 : Ext w0 (w0.alloc (.cells #[.int .i64 e.1, .slice e.2.1 e.2.2.2.length e.2.2.1] 27)) := (Ext.refl w0).alloc _
  subst hgg
  refine app_qs wb _ hgd s x ho g c m es ⟨w0.heap.size, 0, none⟩ 1 1 [e] L2 hs hx hl rfl (hown.ext hx0) (hin.ext hx0) ?_ (World.news_of_block (heap_alloc_new w0 _)) (he.trans hx0) (by omega) h
  intro f hf
  simp only [List.mem_cons, List.not_mem_nil, or_false] at hf
  subst hf
  exact i1.ext hx0
theorem rowQ_take (es : List (Int × Option Addr × Nat × List Int)) (k j : Nat) (u : Value) (h : (rowQ (es.take k))[j]? = some u) : (rowQ es)[j]? = some u := by
  have e : rowQ es = rowQ (es.take k) ++ rowQ (es.drop k) := by rw [← rowQ_app, List.take_append_drop]
  rw [e, List.getElem?_append_left (List.getElem?_eq_some_iff.1 h).1]
  exact h
theorem rowQ_drop (es : List (Int × Option Addr × Nat × List Int)) (k j : Nat) (u : Value) (hk : k ≤ es.length) (h : (rowQ (es.drop k))[j]? = some u) : (rowQ es)[k * 2 + j]? = some u := by
  have e : rowQ es = rowQ (es.take k) ++ rowQ (es.drop k) := by rw [← rowQ_app, List.take_append_drop]
  have hl : (rowQ (es.take k)).length = k * 2 := by rw [rowQ_len, List.length_take, Nat.min_eq_left hk]
  rw [e, List.getElem?_append_right (by omega), hl, show k * 2 + j - k * 2 = j by omega]
  exact h
theorem OwQ.cellsAt {w : World} {L g c : Nat} {es : List (Int × Option Addr × Nat × List Int)} (h : OwQ w L (some ⟨g, 0, none⟩) c es) (j : Nat) (u : Value) (hj : (rowQ es)[j]? = some u) : w.cell? ⟨g, j, none⟩ = some u := by
  have hl : 0 < es.length := by
    rcases Nat.eq_zero_or_pos es.length with h0 | h0
    · have := (List.getElem?_eq_some_iff.1 hj).1
      rw [rowQ_len] at this
      omega
    · exact h0
  obtain ⟨b, o, e, hc⟩ := h.rd.2 hl
  injection e with e
  injection e with e1 e2 _
  subst e1 e2
  have := hc j u hj
  rwa [Nat.zero_add] at this
theorem OwQ.capLe {w : World} {L c : Nat} {A : Option Addr} {es : List (Int × Option Addr × Nat × List Int)} (h : OwQ w L A c es) : es.length ≤ c ∧ c ≤ maxLen := by
  obtain ⟨A', c', e, h1, h2⟩ := own_form h
  injection e with _ _ e
  subst e
  exact ⟨h1, h2⟩
end Go.Proofs.Ytnhppeknkeblfaa
