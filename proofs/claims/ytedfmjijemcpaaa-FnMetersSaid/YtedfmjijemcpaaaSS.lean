/- Slices of slices of ints that the call owns: the inner rows lie one behind the other, each in an interval of blocks of its own. -/
import Derived.Test.YtedfmjijemcpaaaOwn
import Derived.Test.YtedfmjijemcpaaaApp
namespace Go.Proofs.Ytedfmjijemcpaaa
open Go.RowKit

theorem info_ints : (Try.prog.info? 23).map (fun i => (i.zero, i.size, i.bytes)) = some (some (.slice none 0 0), 1, 24) := by kernel_rfl

/-- Below B nothing has turned, and no row of ints has. -/
structure FrO (B : Nat) (w w' : World) : Prop where
  os : w'.os = w.os
  tape : w'.tape = w.tape
  output : w'.output = w.output
  size : w.heap.size ≤ w'.heap.size
  block : ∀ k, k < w.heap.size → (k < B ∨ ∃ cur, w.heap[k]? = some (.cells cur 3 (0, 0))) → w'.heap[k]? = w.heap[k]?

theorem Ext.frO {w w' : World} (h : Ext w w') (B : Nat) : FrO B w w' := ⟨h.os, h.tape, h.output, h.size, fun k hk _ => h.block k hk⟩
theorem FrO.trans {B : Nat} {a b c : World} (h : FrO B a b) (k : FrO B b c) : FrO B a c :=
  ⟨k.os.trans h.os, k.tape.trans h.tape, k.output.trans h.output, Nat.le_trans h.size k.size, fun i hi hn => by
    have e := h.block i hi hn
    rw [← e]
    refine k.block i (Nat.lt_of_lt_of_le hi h.size) ?_
    rcases hn with hn | ⟨cur, hc⟩
    · exact Or.inl hn
    · exact Or.inr ⟨cur, e.trans hc⟩⟩
theorem FrO.ext {B : Nat} {a b : World} (h : FrO B a b) (hB : a.heap.size ≤ B) : Ext a b :=
  ⟨h.os, h.tape, h.output, h.size, fun k hk => h.block k hk (Or.inl (Nat.lt_of_lt_of_le hk hB))⟩
theorem FrO.mono {B B' : Nat} {a b : World} (h : FrO B a b) (hB : B' ≤ B) : FrO B' a b :=
  ⟨h.os, h.tape, h.output, h.size, fun k hk hn => h.block k hk (by
    rcases hn with hn | hn
    · exact Or.inl (by omega)
    · exact Or.inr hn)⟩
/-- Behind a frame that keeps what lies below. -/
theorem Ext.then_frO {a b c : World} {B : Nat} (h : Ext a b) (k : FrO B b c) (hB : a.heap.size ≤ B) : Ext a c :=
  Below.trans h ⟨k.os, k.tape, k.output, k.size, fun i hi => k.block i (Nat.lt_of_lt_of_le hi h.size) (Or.inl (Nat.lt_of_lt_of_le hi hB))⟩

theorem OwI.frO {w w' : World} {B L : Nat} {A : Option Addr} {c : Nat} {xs : List Int} (h : OwI w L A c xs) (f : FrO B w w') : OwI w' L A c xs := by
  refine ⟨h.1, ?_⟩
  rcases h.2 with h2 | ⟨g, cap, cur, e, h3, hg, h5⟩
  · exact Or.inl h2
  · exact Or.inr ⟨g, cap, cur, e, h3, (f.block g (Array.getElem?_eq_some_iff.1 hg).1 (Or.inr ⟨cur, hg⟩)).trans hg, h5⟩
theorem OwnS.frO {w w' : World} {B L U : Nat} {v : Value} {xs : List Int} (h : OwnS w L U v xs) (f : FrO B w w') : OwnS w' L U v xs := by
  obtain ⟨A, c, rfl, ho, hb, hu⟩ := h
  exact ⟨A, c, rfl, ho.frO f, hb, Nat.le_trans hu f.size⟩
theorem OwnS.lower {w : World} {L L' U : Nat} {v : Value} {xs : List Int} (h : OwnS w L U v xs) (hL : L' ≤ L) : OwnS w L' U v xs := by
  obtain ⟨A, c, rfl, ho, hb, hu⟩ := h
  exact ⟨A, c, rfl, ho.lower hL, hb, hu⟩
theorem OwnS.upper {w : World} {L U U' : Nat} {v : Value} {xs : List Int} (h : OwnS w L U v xs) (hU : U ≤ U') (hw : U' ≤ w.heap.size) : OwnS w L U' v xs := by
  obtain ⟨A, c, rfl, ho, hb, hu⟩ := h
  exact ⟨A, c, rfl, ho, fun a ha => Nat.lt_of_lt_of_le (hb a ha) hU, hw⟩

/-- The rows behind a list of slices. -/
def OwnIn (w : World) : Nat → Nat → List Value → List (List Int) → Prop
  | L, U, [], [] => L ≤ U ∧ U ≤ w.heap.size
  | L, U, v :: vs, x :: xs => ∃ M, L ≤ M ∧ OwnS w L M v x ∧ OwnIn w M U vs xs
  | _, _, _, _ => False

theorem OwnIn.len {w : World} : ∀ {vs : List Value} {xs : List (List Int)} {L U : Nat}, OwnIn w L U vs xs → vs.length = xs.length
  | [], [], _, _, _ => rfl
  | _ :: _, _ :: _, _, _, ⟨_, _, _, h⟩ => by simp [OwnIn.len h]
theorem OwnIn.le {w : World} : ∀ {vs : List Value} {xs : List (List Int)} {L U : Nat}, OwnIn w L U vs xs → L ≤ U ∧ U ≤ w.heap.size
  | [], [], _, _, h => h
  | _ :: _, _ :: _, _, _, ⟨_, hl, _, h⟩ => ⟨Nat.le_trans hl (OwnIn.le h).1, (OwnIn.le h).2⟩
theorem OwnIn.frO {w w' : World} {B : Nat} (f : FrO B w w') : ∀ {vs : List Value} {xs : List (List Int)} {L U : Nat}, OwnIn w L U vs xs → OwnIn w' L U vs xs
  | [], [], _, _, h => ⟨h.1, Nat.le_trans h.2 f.size⟩
  | _ :: _, _ :: _, _, _, ⟨M, hl, ho, h⟩ => ⟨M, hl, ho.frO f, OwnIn.frO f h⟩
theorem OwnIn.fr {w w' : World} {L' U' : Nat} (f : Fr L' U' w w') : ∀ {vs : List Value} {xs : List (List Int)} {L U : Nat}, OwnIn w L U vs xs → (U ≤ L' ∨ U' ≤ L) → OwnIn w' L U vs xs
  | [], [], _, _, h, _ => ⟨h.1, Nat.le_trans h.2 f.size⟩
  | _ :: _, _ :: _, _, _, ⟨M, hl, ho, h⟩, hd => ⟨M, hl, ho.fr f (by have := (OwnIn.le h).1; omega), OwnIn.fr f h (by omega)⟩
theorem OwnIn.up {w : World} {U U' : Nat} (hU : U ≤ U') (hw : U' ≤ w.heap.size) : ∀ {vs : List Value} {xs : List (List Int)} {L : Nat}, OwnIn w L U vs xs → OwnIn w L U' vs xs
  | [], [], _, h => ⟨Nat.le_trans h.1 hU, hw⟩
  | _ :: _, _ :: _, _, ⟨M, hl, ho, h⟩ => ⟨M, hl, ho, OwnIn.up hU hw h⟩
theorem OwnIn.down {w : World} {L L' U : Nat} (hL : L' ≤ L) {vs : List Value} {xs : List (List Int)} (h : OwnIn w L U vs xs) : OwnIn w L' U vs xs := by
  match vs, xs, h with
  | [], [], h => exact ⟨Nat.le_trans hL h.1, h.2⟩
  | _ :: _, _ :: _, ⟨M, hl, ho, h⟩ => exact ⟨M, Nat.le_trans hL hl, ho.lower hL, h⟩
theorem OwnIn.app {w : World} {M U : Nat} {vs' : List Value} {xs' : List (List Int)} (h' : OwnIn w M U vs' xs') : ∀ {vs : List Value} {xs : List (List Int)} {L : Nat}, OwnIn w L M vs xs → OwnIn w L U (vs ++ vs') (xs ++ xs')
  | [], [], _, h => h'.down h.1
  | _ :: _, _ :: _, _, ⟨N, hl, ho, h⟩ => ⟨N, hl, ho, OwnIn.app h' h⟩
theorem OwnIn.one {w : World} {L U : Nat} {v : Value} {x : List Int} (h : OwnS w L U v x) (hL : L ≤ U) : OwnIn w L U [v] [x] := by
  obtain ⟨A, c, e, ho, hb, hu⟩ := h
  exact ⟨U, hL, ⟨A, c, e, ho, hb, hu⟩, Nat.le_refl _, hu⟩
theorem OwnIn.pick {w : World} : ∀ {xs : List (List Int)} {vs : List Value} {L U : Nat}, OwnIn w L U vs xs → ∀ k, k < xs.length →
    ∃ v L' M', vs[k]? = some v ∧ L ≤ L' ∧ M' ≤ U ∧ OwnS w L' M' v (xs.getD k []) ∧ ∀ w' y, Fr L' M' w w' → OwnS w' L' M' v y → OwnIn w' L U vs (xs.set k y)
  | x :: xs, v :: vs, L, U, ⟨M, hl, ho, h⟩, k, hk => by
    match k, hk with
    | 0, _ =>
      refine ⟨v, L, M, rfl, Nat.le_refl _, (OwnIn.le h).1, ho, fun w' y f hy => ?_⟩
      exact ⟨M, hl, hy, OwnIn.fr f h (Or.inr (Nat.le_refl _))⟩
    | k + 1, hk =>
      obtain ⟨u, L', M', e, h1, h2, h3, h4⟩ := OwnIn.pick h k (by simpa using hk)
      refine ⟨u, L', M', by simpa using e, Nat.le_trans hl h1, h2, by simpa using h3, fun w' y f hy => ?_⟩
      exact ⟨M, hl, ho.fr f (Or.inl h1), h4 w' y f hy⟩

/-- The outer row. -/
def OwO (w : World) (B : Nat) (A : Option Addr) (c : Nat) (vs : List Value) : Prop := w.ownsRow B 23 1 (.slice A vs.length c) vs.length vs
theorem OwO.rd {w : World} {B : Nat} {A : Option Addr} {c : Nat} {vs : List Value} (h : OwO w B A c vs) : Rd w 1 A vs.length vs := Rd.of_own h
theorem OwO.lt {w : World} {B : Nat} {A : Option Addr} {c : Nat} {vs : List Value} (h : OwO w B A c vs) : ∀ a, A = some a → B ≤ a.block ∧ a.block < w.heap.size := by
  rintro a rfl
  exact World.ownsRow.lt h a.block rfl
theorem OwO.kept {w w' : World} {B : Nat} {A : Option Addr} {c : Nat} {vs : List Value} (h : OwO w B A c vs) (hb : ∀ a, A = some a → w'.heap[a.block]? = w.heap[a.block]?) : OwO w' B A c vs := by
  refine ⟨h.1, ?_⟩
  rcases h.2 with h2 | ⟨g, cap, cur, e, h3, hg, h5⟩
  · exact Or.inl h2
  · have e' := e
    injection e' with e1 _ _
    exact Or.inr ⟨g, cap, cur, e, h3, (hb _ e1).trans hg, h5⟩
theorem OwO.ext {w w' : World} {B : Nat} {A : Option Addr} {c : Nat} {vs : List Value} (h : OwO w B A c vs) (he : Ext w w') : OwO w' B A c vs :=
  h.kept fun a ha => he.block _ (h.lt a ha).2
theorem OwO.lower {w : World} {B B' : Nat} {A : Option Addr} {c : Nat} {vs : List Value} (h : OwO w B A c vs) (hB : B' ≤ B) : OwO w B' A c vs := by
  refine ⟨h.1, ?_⟩
  rcases h.2 with h2 | ⟨g, cap, cur, e, h3, h4⟩
  · exact Or.inl h2
  · exact Or.inr ⟨g, cap, cur, e, Nat.le_trans hB h3, h4⟩
theorem OwO.nil (w : World) (B : Nat) : OwO w B none 0 [] := World.ownsRow_nil _ _ _ _
theorem OwO.empty (w : World) : OwO (w.alloc (.cells #[] 23)) w.heap.size (some ⟨w.heap.size, 0, none⟩) 0 [] := World.ownsRow_lit w #[] 0 (Nat.le_refl _) (by simp [maxLen]) rfl
theorem OwO.lit1 (w : World) (v : Value) : OwO (w.alloc (.cells #[v] 23)) w.heap.size (some ⟨w.heap.size, 0, none⟩) 1 [v] := World.ownsRow_lit w #[v] 1 (Nat.le_refl _) (by simp [maxLen]) rfl
/-- The outer row is no row of ints. -/
theorem OwO.ne {w : World} {B B' : Nat} {A : Option Addr} {c : Nat} {vs : List Value} (h : OwO w B A c vs) {g : Nat} {c' : Nat} {xs : List Int} (h' : OwI w B' (some ⟨g, 0, none⟩) c' xs) :
    ∀ a, A = some a → a.block ≠ g := by
  rintro a rfl hne
  rcases h.2 with ⟨h2, _⟩ | ⟨g1, cap, cur, e, h3, hg, h5⟩
  · cases h2
  · rcases h'.2 with ⟨h2, _⟩ | ⟨g2, cap2, cur2, e2, h32, hg2, h52⟩
    · cases h2
    · injection e with e _ _
      injection e with e
      injection e2 with e2 _ _
      injection e2 with e2
      injection e2 with e2 _ _
      subst e
      subst e2
      simp only at hne
      rw [hne, hg2] at hg
      injection hg with hg
      injection hg with _ hg _
      exact absurd hg (by decide)

/-- A slice of slices of ints, all from block L up to U. -/
def OwnSS (w : World) (L U : Nat) (v : Value) (xss : List (List Int)) : Prop :=
  ∃ A c vs, v = .slice A xss.length c ∧ OwO w L A c vs ∧ (∀ a, A = some a → a.block < U) ∧ OwnIn w L U vs xss
theorem OwnSS.fr {w w' : World} {L U L' U' : Nat} {v : Value} {xss : List (List Int)} (h : OwnSS w L U v xss) (f : Fr L' U' w w') (hd : U ≤ L' ∨ U' ≤ L) : OwnSS w' L U v xss := by
  obtain ⟨A, c, vs, e, ho, hb, hi⟩ := h
  exact ⟨A, c, vs, e, ho.kept (fun a ha => f.block _ (ho.lt a ha).2 (by have := hb a ha; have := (ho.lt a ha).1; omega)), hb, hi.fr f hd⟩
theorem OwnSS.ext {w w' : World} {L U : Nat} {v : Value} {xss : List (List Int)} (h : OwnSS w L U v xss) (f : Ext w w') : OwnSS w' L U v xss := h.fr f.fr (Or.inr (Nat.zero_le _))
theorem OwnSS.lower {w : World} {L L' U : Nat} {v : Value} {xss : List (List Int)} (h : OwnSS w L U v xss) (hL : L' ≤ L) : OwnSS w L' U v xss := by
  obtain ⟨A, c, vs, e, ho, hb, hi⟩ := h
  exact ⟨A, c, vs, e, ho.lower hL, hb, hi.down hL⟩
theorem OwnSS.nil (w : World) : OwnSS w w.heap.size w.heap.size (.slice none 0 0) [] := ⟨none, 0, [], rfl, OwO.nil _ _, fun a h => by simp at h, Nat.le_refl _, Nat.le_refl _⟩

theorem OwnSS.parts {w : World} {L U : Nat} {v : Value} {xss : List (List Int)} (h : OwnSS w L U v xss) :
    ∃ A c n vs, v = .slice A n c ∧ n = xss.length ∧ OwO w L A c vs ∧ OwnIn w L U vs xss := by
  obtain ⟨A, c, vs, e, ho, hb, hi⟩ := h
  exact ⟨A, c, _, vs, e, rfl, ho, hi⟩

/-- A function that answers a fresh slice of slices of ints. -/
def RetSS (w : World) (xss : List (List Int)) (e : Ending) (w' : World) : Prop := ∃ v, e = .returned v ∧ OwnSS w' w.heap.size w'.heap.size v xss ∧ Ext w w'

/-- 'out = append(out, vs2...)', slices of ints. -/
theorem app_out {ops : Array Oper} {rest : List Oper} {o : Oper} {a : Act} {w : World} {Q : Exit → Act → World → Prop} (hgd : o.guard = none) (s x : Operand)
    (ho : o.op = .call { callee := .builtin .append, args := #[s, x], argTypes := #[35, 35] })
    (L M : Nat) (A : Option Addr) (c n : Nat) (vs : List Value) (xss : List (List Int)) (hs : a.eval s = .slice A n c) (hn : n = xss.length) (h1 : OwO w L A c vs) (h2 : OwnIn w L M vs xss)
    (X : Option Addr) (m d : Nat) (us : List Value) (yss : List (List Int)) (hx : a.eval x = .slice X m d) (hm : m = yss.length) (hr : Rd w 1 X us.length us) (h3 : OwnIn w M w.heap.size us yss) (hnm : n + m ≤ 1099511627776)
    (h : ∀ A' c' w', OwnSS w' L w'.heap.size (.slice A' (n + m) c') (xss ++ yss) → FrO L w w' → wpList Try.prog ops Q rest (a.put o.dst (.slice A' (n + m) c')) w') :
    wpList Try.prog ops Q (o :: rest) a w := by
  have e1 := h2.len
  have e2 := h3.len
  have hL : L ≤ w.heap.size := by have := h2.le; omega
  have h1' := h1
  unfold OwO at h1
  rw [e1, ← hn] at h1
  rw [e2, ← hm] at hr
  refine app_row hgd s x _ ho L 23 _ 24 Try.underlying35 info_ints rfl (by omega) A c n vs hs h1 X m d us hx hr ?_ hnm hL ?_
  · intro u hu
    obtain ⟨k, hk, e⟩ := List.mem_iff_getElem.1 hu
    obtain ⟨v, _, _, e', _, _, ⟨A2, c2, e3, _⟩, _⟩ := h3.pick k (by omega)
    rw [List.getElem?_eq_getElem hk] at e'
    injection e' with e'
    rw [← e, e', e3]
    rfl
  · intro A' c' w' h4 h5
    have hfr : FrO L w w' := ⟨h5.os, h5.tape, h5.output, h5.size, fun k hk hn => h5.block k hk (fun e => by
      cases A with
      | none => simp at e
      | some ad =>
        simp at e
        rcases hn with hn | ⟨cur, hc⟩
        · have := (h1'.lt ad rfl).1
          omega
        · rcases h1'.2 with ⟨h2, _⟩ | ⟨g1, cap, cur', e', h3, hg, h5⟩
          · cases h2
          · injection e' with e' _ _
            injection e' with e'
            subst e'
            simp only at e
            rw [← e, hc] at hg
            injection hg with hg
            injection hg with _ hg _
            exact absurd hg (by decide))⟩
    refine h A' c' w' ⟨A', c', vs ++ us, by rw [List.length_append, hn, hm], ?_, ?_, OwnIn.up hfr.size (Nat.le_refl _) (OwnIn.app (h3.frO hfr) (h2.frO hfr))⟩ hfr
    · have e3 : (vs ++ us).length = n + m := by rw [List.length_append]; omega
      unfold OwO
      rw [e3]
      exact h4
    · rintro ad rfl
      exact (World.ownsRow.lt h4 ad.block rfl).2
end Go.Proofs.Ytedfmjijemcpaaa
