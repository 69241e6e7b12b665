/- 'append(out, src...)': onto a row of the call's own, from whatever can be read. -/
import Derived.Test.YtedfmjijemcpaaaDoorBase
namespace Go.Proofs.YtedfmjijemcpaaaDoor
open Go.RowKit

/-- nil appended leaves the row. -/
theorem app_none {ops : Array Oper} {rest : List Oper} {o : Oper} {a : Act} {w : World} {Q : Exit → Act → World → Prop} (hgd : o.guard = none) (s x : Operand) (t : TypeId)
    (ho : o.op = .call { callee := .builtin .append, args := #[s, x], argTypes := #[t, t] }) (base : Nat) (e : TypeId) (i : TypeInfo) (ht : Tryd.prog.underlying t = some (.slice e)) (hi : Tryd.prog.info? e = some i)
    (v : Value) (n : Nat) (xs : List Value) (hs : a.eval s = v) (hown : w.ownsRow base e 1 v n xs) (d : Nat) (hx : a.eval x = .slice none 0 d)
    (h : wpList Tryd.prog ops Q rest (a.put o.dst v) w) : wpList Tryd.prog ops Q (o :: rest) a w := by
  refine wpList_plain hgd fun K hK => ?_
  have hrun : (Builtin.append_ #[t, t] o.type #[v, .slice none 0 d]).run Tryd.prog w = .ok v w := by
    rcases hown.2 with ⟨rfl, rfl⟩ | ⟨g, cap, cur, rfl, _, _, hnc, _⟩ <;>
      simp [Builtin.append_, run_underlying ht, sizeOf, typeInfo, Builtin.lenOf, Builtin.firstCells, storeCells, *]
  unfold Oper.wp
  simp [execOp, ho, resolve, invoke, builtin, hs, hx, hrun, Result.andThen]
  exact hK _ _ h

set_option maxRecDepth 20000 in
/-- The general law, over elements of one cell. -/
theorem app_row {ops : Array Oper} {rest : List Oper} {o : Oper} {a : Act} {w : World} {Q : Exit → Act → World → Prop} (hgd : o.guard = none) (s x : Operand) (t : TypeId)
    (ho : o.op = .call { callee := .builtin .append, args := #[s, x], argTypes := #[t, t] }) (base : Nat) (e : TypeId) (z : Value) (by_ : Nat) (ht : Tryd.prog.underlying t = some (.slice e))
    (hi : (Tryd.prog.info? e).map (fun i => (i.zero, i.size, i.bytes)) = some (some z, 1, by_)) (hzs : z.cells.size = 1) (hby : by_ ≤ 24)
    (A : Option Addr) (c n : Nat) (xs : List Value) (hs : a.eval s = .slice A n c) (hown : w.ownsRow base e 1 (.slice A n c) n xs)
    (X : Option Addr) (m d : Nat) (ys : List Value) (hx : a.eval x = .slice X m d) (hr : Rd w 1 X m ys) (h1 : ∀ u ∈ ys, u.oneCell' = true) (hn : n + m ≤ 1099511627776) (hb : base ≤ w.heap.size)
    (h : ∀ A' c' w', w'.ownsRow base e 1 (.slice A' (n + m) c') (n + m) (xs ++ ys) → w.grownBy w' (A.map (·.block)) → wpList Tryd.prog ops Q rest (a.put o.dst (.slice A' (n + m) c')) w') :
    wpList Tryd.prog ops Q (o :: rest) a w := by
  obtain ⟨i0, hi, hz0, hz1, hz2⟩ := info_parts hi
  have hml : ys.length = m := by have := hr.1; omega
  cases X with
  | none =>
    have hm : m = 0 := by
      rcases Nat.eq_zero_or_pos m with h0 | h0
      · exact h0
      · obtain ⟨b, o', e', _⟩ := hr.2 h0; simp at e'
    subst hm
    have : ys = [] := List.length_eq_zero_iff.1 hml
    subst this
    refine app_none hgd s x t ho base e i0 ht hi _ n xs hs hown d hx ?_
    have := h A c w (by simpa using hown) ⟨rfl, rfl, rfl, Nat.le_refl _, fun _ _ _ => rfl⟩
    simpa using this
  | some ad =>
    refine wpList_append_own _ hgd s x t ho base e i0 z 1 by_ ht hi hz0 hz1 hz2 hzs (by decide) _ n xs hs hown ad m d ys hx (by omega) ?_ h1 (by simp only [maxLen]; omega) ?_ hb ?_
    · intro j u hj
      have hjl : j < m := by have := (List.getElem?_eq_some_iff.1 hj).1; omega
      obtain ⟨b, o', e', hc⟩ := hr.2 (by omega)
      injection e' with e'
      subst e'
      simpa [Addr.add_lit] using hc j u hj
    · exact Nat.le_trans (Nat.mul_le_mul hn hby) (by omega)
    · intro v' w' hown' hg _
      obtain ⟨A', c', rfl, _, _⟩ := own_form hown'
      exact h A' c' w' hown' (by cases A <;> exact hg)

theorem one_ints (ys : List Int) : ∀ u ∈ ys.map (Value.int .i64), u.oneCell' = true := by
  intro u hu
  obtain ⟨y, _, rfl⟩ := List.mem_map.1 hu
  rfl

/-- 'out = append(out, src...)', ints. -/
theorem app_ints {ops : Array Oper} {rest : List Oper} {o : Oper} {a : Act} {w : World} {Q : Exit → Act → World → Prop} (wb : World) (hgd : o.guard = none) (s x : Operand)
    (ho : o.op = .call { callee := .builtin .append, args := #[s, x], argTypes := #[22, 22] })
    (A : Option Addr) (c n : Nat) (xs : List Int) (X : Option Addr) (m d : Nat) (ys : List Int) (hs : a.eval s = .slice A n c) (hx : a.eval x = .slice X m d)
    (hl : xs.length = n) (hl2 : ys.length = m) (hown : OwI w wb.heap.size A c xs) (hr : RdI w X ys) (he : Ext wb w) (hn : n + m ≤ 1099511627776)
    (h : ∀ A' c' w', OwI w' wb.heap.size A' c' (xs ++ ys) → Ext wb w' → w.grownBy w' (A.map (·.block)) → wpList Tryd.prog ops Q rest (a.put o.dst (.slice A' (n + m) c')) w') :
    wpList Tryd.prog ops Q (o :: rest) a w := by
  subst hl hl2
  refine app_row hgd s x _ ho wb.heap.size 3 _ 8 Tryd.underlying22 info_int rfl (by omega) A c _ _ hs hown X _ d _ hx hr (one_ints _) hn he.size ?_
  intro A' c' w' h1 h2
  refine h A' c' w' ?_ (Ext.grown he h2 ?_) h2
  · unfold OwI
    rw [List.length_append, List.map_append]
    exact h1
  · intro k hk
    cases A with
    | none => simp at hk
    | some a => simp at hk; have := hown.lt a rfl; omega
/-- A row of ints that has just been built reads. -/
theorem RdI.built (w : World) (ys : List Int) : RdI (w.alloc (.cells (ys.map (Value.int .i64)).toArray 3)) (some ⟨w.heap.size, 0, none⟩) ys := by
  refine ⟨by simp, fun _ => ⟨w.heap.size, 0, rfl, fun j u hu => ?_⟩⟩
  rw [Nat.zero_add]
  exact cell_of_row _ _ j _ _ (0, 0) (heap_alloc_new w _) |>.trans (by simpa using hu)
end Go.Proofs.YtedfmjijemcpaaaDoor
