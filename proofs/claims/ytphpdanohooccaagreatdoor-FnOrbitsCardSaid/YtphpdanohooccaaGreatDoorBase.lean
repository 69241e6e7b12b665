/- Base words of the proofs of this seat: a slice that reads as a list of cells ('Rd'); the kit's 'ownsRow' and 'Below' in the form that the contracts use. -/
import Derived.Test.YtphpdanohooccaaGreatDoorProg
import Derived.WalkKit
import Derived.WalkSpells
import Derived.WalkLawsBesides
import Derived.Lib.Hide
import Derived.BigQuiet
import Derived.Deep.QuietTactic
namespace Go.Proofs.YtphpdanohooccaaGreatDoor
open Go.RowKit

/-- A slice of n elements (size cells each) at address A reads, in w, as the cells cs. -/
def Rd (w : World) (size : Nat) (A : Option Addr) (n : Nat) (cs : List Value) : Prop :=
  cs.length = n * size ∧ (0 < n → ∃ b o, A = some ⟨b, o, none⟩ ∧ ∀ j u, cs[j]? = some u → w.cell? ⟨b, o + j, none⟩ = some u)

/-- From w to w' memory has grown: nothing that was there has turned. -/
def Ext (w w' : World) : Prop := Below w.heap.size w w'

theorem Ext.refl (w : World) : Ext w w := Below.refl _ _
theorem Ext.trans {a b c : World} (h : Ext a b) (k : Ext b c) : Ext a c := Below.trans h (Below.mono k h.size)
theorem Ext.alloc {a w : World} (h : Ext a w) (o : Obj) : Ext a (w.alloc o) := Below.alloc h h.size o
theorem Ext.drew {a w : World} (h : Ext a w) : Ext a w.drew := Below.drew h
theorem Ext.drewN {a w : World} (h : Ext a w) (n : Nat) : Ext a (w.drewN n) := ⟨h.os, h.tape, h.output, h.size, h.block⟩
theorem Ext.setCell {a w : World} (h : Ext a w) {p : Addr} (hp : a.heap.size ≤ p.block) (u : Value) : Ext a (w.setCell p u) := Below.setCell h hp u
theorem Ext.grown {a w w' : World} {row : Option Nat} (h : Ext a w) (hg : w.grownBy w' row) (hr : ∀ k, row = some k → a.heap.size ≤ k) : Ext a w' := Below.grown h hg h.size hr
theorem Ext.size {a w : World} (h : Ext a w) : a.heap.size ≤ w.heap.size := Below.size h
theorem Ext.cell {w w' : World} (h : Ext w w') {p : Addr} {u : Value} (hc : w.cell? p = some u) : w'.cell? p = some u :=
  (Below.cell h (World.block_lt_of_cell? w p hc)).trans hc
theorem Ext.grownBy {w w' : World} (h : Ext w w') (row : Option Nat) : w.grownBy w' row := ⟨h.os, h.tape, h.output, Below.size h, fun k hk _ => h.block k hk⟩

section
variable {w w' : World} {size n : Nat} {A : Option Addr} {cs : List Value}
theorem Rd.len (h : Rd w size A n cs) : cs.length = n * size := h.1
theorem Rd.ext (h : Rd w size A n cs) (he : Ext w w') : Rd w' size A n cs :=
  ⟨h.1, fun hn => let ⟨b, o, e, hc⟩ := h.2 hn; ⟨b, o, e, fun j u hu => he.cell (hc j u hu)⟩⟩
theorem Rd.drew (h : Rd w size A n cs) : Rd w.drew size A n cs := h
theorem Rd.drewN (h : Rd w size A n cs) (k : Nat) : Rd (w.drewN k) size A n cs := h
theorem Rd.alloc (h : Rd w size A n cs) (o : Obj) : Rd (w.alloc o) size A n cs := h.ext ((Ext.refl w).alloc o)
theorem Rd.grown (h : Rd w size A n cs) {row : Option Nat} (hg : w.grownBy w' row) (hne : ∀ a, A = some a → row ≠ some a.block) : Rd w' size A n cs :=
  ⟨h.1, fun hn => let ⟨b, o, e, hc⟩ := h.2 hn; ⟨b, o, e, fun j u hu => hg.cell (hc j u hu) (fun e2 => hne _ e e2.symm)⟩⟩
theorem Rd.nil (w : World) (size : Nat) (A : Option Addr) : Rd w size A 0 [] := ⟨by simp, fun h => absurd h (by omega)⟩
theorem Rd.of_own {base : Nat} {e : TypeId} {c : Nat} (h : w.ownsRow base e size (.slice A n c) n cs) : Rd w size A n cs := by
  refine ⟨h.1, fun hn => ?_⟩
  rcases h.2 with ⟨e1, rfl⟩ | ⟨g, cap, cur, e1, _, hg, hc, _, hs, ht⟩
  · omega
  · injection e1 with e1 e2 e3
    subst e1
    refine ⟨g, 0, rfl, fun j u hu => ?_⟩
    have := World.ownsRow.cells h (g := g) rfl j u hu
    simpa [Addr.add_lit] using this
/-- A slice that is owned is a slice. -/
theorem own_form {base : Nat} {e : TypeId} {v : Value} (h : w.ownsRow base e size v n cs) : ∃ A c, v = .slice A n c ∧ n ≤ c ∧ c ≤ maxLen := by
  rcases h.2 with ⟨rfl, rfl⟩ | ⟨g, cap, cur, rfl, _, _, h1, h2, _⟩
  · exact ⟨none, 0, rfl, by omega, by simp [maxLen]⟩
  · exact ⟨_, _, rfl, h1, h2⟩
theorem Rd.one (h : Rd w 1 A n cs) (k : Nat) (hk : k < n) : ∃ b o u, A = some ⟨b, o, none⟩ ∧ cs[k]? = some u ∧ w.cell? ⟨b, o + k, none⟩ = some u := by
  obtain ⟨b, o, rfl, hc⟩ := h.2 (by omega)
  have hl := h.1
  have hk' : k < cs.length := by omega
  exact ⟨b, o, cs[k], rfl, by simp [hk'], hc k _ (by simp [hk'])⟩
end

/-- The cells of a slice of structs of two ints. -/
def pairCells (xs : List (Int × Int)) : List Value := xs.flatMap fun q => [Value.int .i64 q.1, Value.int .i64 q.2]
theorem pairCells_length (l : List (Int × Int)) : (pairCells l).length = l.length * 2 := by
  induction l with
  | nil => rfl
  | cons q l ih => simp only [pairCells, List.flatMap_cons, List.length_append, List.length_cons, List.length_nil] at ih ⊢; omega
theorem pairCells_get (l : List (Int × Int)) : ∀ j : Nat, j < l.length * 2 → (pairCells l)[j]? = some (if j % 2 = 0 then .int .i64 (l.getD (j / 2) (0, 0)).1 else .int .i64 (l.getD (j / 2) (0, 0)).2) := by
  induction l with
  | nil => intro j hj; simp at hj
  | cons q l ih =>
    intro j hj
    match j with
    | 0 => simp [pairCells]
    | 1 => simp [pairCells]
    | j + 2 =>
      have := ih j (by simp at hj; omega)
      simp only [pairCells] at this
      simp only [pairCells, List.flatMap_cons, List.cons_append, List.nil_append, List.getElem?_cons_succ, this]
      rw [show (j + 2) % 2 = j % 2 by omega, show (j + 2) / 2 = j / 2 + 1 by omega]
      simp

/-- Each number fits int. -/
def Fits (xs : List Int) : Prop := ∀ x ∈ xs, -9223372036854775808 ≤ x ∧ x ≤ 9223372036854775807

/-- A slice of ints that reads as xs. -/
def RdI (w : World) (A : Option Addr) (xs : List Int) : Prop := Rd w 1 A xs.length (xs.map (Value.int .i64))

theorem RdI.ext {w w' : World} {A : Option Addr} {xs : List Int} (h : RdI w A xs) (he : Ext w w') : RdI w' A xs := Rd.ext h he
theorem RdI.at_ {w : World} {A : Option Addr} {xs : List Int} (h : RdI w A xs) (k : Nat) (hk : k < xs.length) :
    ∃ b o, A = some ⟨b, o, none⟩ ∧ w.cell? ⟨b, o + k, none⟩ = some (.int .i64 (xs.getD k 0)) := by
  obtain ⟨b, o, u, e, hu, hc⟩ := Rd.one h k hk
  refine ⟨b, o, e, ?_⟩
  rw [hc, ← hu]
  simp [List.getD, hk]

/-- A slice of ints that the call owns (its block lies from B on). -/
def OwI (w : World) (B : Nat) (A : Option Addr) (c : Nat) (xs : List Int) : Prop := w.ownsRow B 3 1 (.slice A xs.length c) xs.length (xs.map (Value.int .i64))

theorem OwI.rd {w : World} {B : Nat} {A : Option Addr} {c : Nat} {xs : List Int} (h : OwI w B A c xs) : RdI w A xs := Rd.of_own h
theorem OwI.ext {w w' : World} {B : Nat} {A : Option Addr} {c : Nat} {xs : List Int} (h : OwI w B A c xs) (he : Ext w w') : OwI w' B A c xs := h.kept (he.grownBy none) (by cases A <;> simp [Value.ownBlock])
theorem OwI.grown {w w' : World} {B : Nat} {A : Option Addr} {c : Nat} {xs : List Int} (h : OwI w B A c xs) {row : Option Nat} (hg : w.grownBy w' row) (hne : ∀ a, A = some a → row ≠ some a.block) : OwI w' B A c xs :=
  h.kept hg (by
    cases A with
    | none => exact Or.inl rfl
    | some a => exact Or.inr (fun e => hne a rfl e.symm))
theorem OwI.lt {w : World} {B : Nat} {A : Option Addr} {c : Nat} {xs : List Int} (h : OwI w B A c xs) : ∀ a, A = some a → B ≤ a.block ∧ a.block < w.heap.size := by
  rintro a rfl
  exact World.ownsRow.lt h a.block rfl

/-- A contract that leaves the world as it was, inside a region that draws its order. -/
theorem quiet_same {P : Program} {f : FuncId} {args : Array Value} {w : World} {n : Nat} {v : Value}
    (h : Calls P f args (w.drewN n) fun e w' => e = .returned v ∧ w.drewN n = w') : Calls P f args (w.drewN n) fun e w'' => e = .returned v ∧ ∃ m, w'' = w.drewN m :=
  h.mono fun _ _ ⟨he, hm⟩ => ⟨he, n, hm.symm⟩
theorem quiet_draws {P : Program} {f : FuncId} {args : Array Value} {w : World} {n : Nat} {v : Value}
    (h : Calls P f args (w.drewN n) fun e w' => e = .returned v ∧ ∃ k, w' = (w.drewN n).drewN k) : Calls P f args (w.drewN n) fun e w'' => e = .returned v ∧ ∃ m, w'' = w.drewN m :=
  h.mono fun _ _ ⟨he, k, hm⟩ => ⟨he, n + k, by rw [hm, World.drewN_drewN]⟩

theorem OwI.lower {w : World} {B B' : Nat} {A : Option Addr} {c : Nat} {xs : List Int} (h : OwI w B A c xs) (hB : B' ≤ B) : OwI w B' A c xs := by
  refine ⟨h.1, ?_⟩
  rcases h.2 with h2 | ⟨g, cap, cur, e, h3, h4⟩
  · exact Or.inl h2
  · exact Or.inr ⟨g, cap, cur, e, Nat.le_trans hB h3, h4⟩
theorem ret_int {k : IntKind} {a b : Int} (h : a = b) : Ending.returned (.int k a) = .returned (.int k b) := by rw [h]
theorem ret_bool {a b : Bool} (h : a = b) : Ending.returned (.bool a) = .returned (.bool b) := by rw [h]

/-- What a function that answers a fresh slice of ints leaves. -/
def RetI (w : World) (xs : List Int) (e : Ending) (w' : World) : Prop :=
  ∃ A c, e = .returned (.slice A xs.length c) ∧ OwI w' w.heap.size A c xs ∧ Ext w w'
/-- .. and a bool beside it. -/
def RetIB (w : World) (xs : List Int) (b : Bool) (e : Ending) (w' : World) : Prop :=
  ∃ A c, e = .returned (.tuple #[.slice A xs.length c, .bool b]) ∧ OwI w' w.heap.size A c xs ∧ Ext w w'

theorem RetI.nil {w w' : World} (h : Ext w w') : RetI w [] (.returned (.slice none 0 0)) w' := ⟨none, 0, rfl, World.ownsRow_nil _ _ _ _, h⟩
/-- '[]int{}': a new block without cells. -/
theorem OwI.empty (w : World) : OwI (w.alloc (.cells #[] 3)) w.heap.size (some ⟨w.heap.size, 0, none⟩) 0 [] := World.ownsRow_lit w #[] 0 (Nat.le_refl _) (by simp [maxLen]) rfl
theorem OwI.nil (w : World) (B : Nat) : OwI w B none 0 [] := World.ownsRow_nil _ _ _ _

theorem take_map_succ (f : Int → Int) (xs : List Int) (k : Nat) (h : k < xs.length) : (xs.take k).map f ++ [f (xs.getD k 0)] = (xs.take (k + 1)).map f := by
  rw [List.take_succ_eq_append_getElem h, List.map_append]
  simp [List.getD, h]
theorem getD_map (f : Int → Int) (xs : List Int) (k : Nat) (h : k < xs.length) : (xs.map f).getD k 0 = f (xs.getD k 0) := by simp [List.getD, h]
theorem take_snoc (xs : List Int) (k : Nat) (h : k < xs.length) : xs.take (k + 1) = xs.take k ++ [xs.getD k 0] := by
  rw [List.take_succ_eq_append_getElem h]
  simp [List.getD, h]
theorem take_all (xs : List Int) (k : Nat) (h : k = xs.length) : xs.take k = xs := by subst h; simp

theorem info_int : (Tryz.prog.info? 3).map (fun i => (i.zero, i.size, i.bytes)) = some (some (.int .i64 0), 1, 8) := by kernel_rfl

theorem grown_trans {a b c : World} {row : Option Nat} (h : a.grownBy b row) (k : b.grownBy c row) : a.grownBy c row :=
  ⟨k.os.trans h.os, k.tape.trans h.tape, k.output.trans h.output, Nat.le_trans h.size k.size, fun i hi hne => (k.block i (Nat.lt_of_lt_of_le hi h.size) hne).trans (h.block i hi hne)⟩

/-- 'out = append(out, v)', out a slice of ints that the call owns. -/
theorem app_int {ops : Array Oper} {rest : List Oper} {o : Oper} {a : Act} {Q : Exit → Act → World → Prop} (wb w0 : World) (hgd : o.guard = none) (s x : Operand)
    (ho : o.op = .call { callee := .builtin .append, args := #[s, x], argTypes := #[23, 23] })
    (A : Option Addr) (c n : Nat) (xs : List Int) (v : Int) (hs : a.eval s = .slice A n c) (hx : a.eval x = .slice (some ⟨w0.heap.size, 0, none⟩) 1 1)
    (hl : xs.length = n) (hown : OwI w0 wb.heap.size A c xs) (he : Ext wb w0) (hn : n < 1099511627776)
    (h : ∀ A' c' w', OwI w' wb.heap.size A' c' (xs ++ [v]) → Ext wb w' → wpList Tryz.prog ops Q rest (a.put o.dst (.slice A' (n + 1) c')) w') :
    wpList Tryz.prog ops Q (o :: rest) a (w0.alloc (.cells #[.int .i64 v] 3)) := by
  subst hl
  obtain ⟨i0, hi, hz0, hz1, hz2⟩ := info_parts info_int
  refine wpList_append_own _ hgd s x 23 ho wb.heap.size 3 i0 (.int .i64 0) 1 8 Tryz.underlying23 hi hz0 hz1 hz2 rfl (by decide) _ xs.length (xs.map (Value.int .i64)) hs (World.ownsRow.alloc hown _)
    ⟨w0.heap.size, 0, none⟩ 1 1 [.int .i64 v] hx rfl (cell_one_new _ _ _) (by simp [Value.oneCell']) (by simp only [maxLen]; omega) (by omega) (by simp; exact Nat.le_succ_of_le he.size) ?_
  intro v' w' hown' hg _
  obtain ⟨A', c', rfl, _, _⟩ := own_form hown'
  have hl' : (xs ++ [v]).length = xs.length + 1 := by simp
  have ho' : OwI w' wb.heap.size A' c' (xs ++ [v]) := by
    unfold OwI
    rw [hl', List.map_append]
    exact hown'
  exact h A' c' w' ho' (Ext.grown (he.alloc _) hg (fun k hk => (World.ownsRow.lt hown k hk).1))
/-- The same where the new element's block is named by its number. -/
theorem app_int_at {ops : Array Oper} {rest : List Oper} {o : Oper} {a : Act} {Q : Exit → Act → World → Prop} (wb w0 : World) (hgd : o.guard = none) (s x : Operand)
    (ho : o.op = .call { callee := .builtin .append, args := #[s, x], argTypes := #[23, 23] })
    (A : Option Addr) (c n : Nat) (xs : List Int) (v : Int) (g : Nat) (hs : a.eval s = .slice A n c) (hx : a.eval x = .slice (some ⟨g, 0, none⟩) 1 1) (hgg : w0.heap.size = g)
    (hl : xs.length = n) (hown : OwI w0 wb.heap.size A c xs) (he : Ext wb w0) (hn : n < 1099511627776)
    (h : ∀ A' c' w', OwI w' wb.heap.size A' c' (xs ++ [v]) → Ext wb w' → wpList Tryz.prog ops Q rest (a.put o.dst (.slice A' (n + 1) c')) w') :
    wpList Tryz.prog ops Q (o :: rest) a (w0.alloc (.cells #[.int .i64 v] 3)) := by
  subst hgg
  exact app_int wb w0 hgd s x ho A c n xs v hs hx hl hown he hn h
end Go.Proofs.YtphpdanohooccaaGreatDoor
