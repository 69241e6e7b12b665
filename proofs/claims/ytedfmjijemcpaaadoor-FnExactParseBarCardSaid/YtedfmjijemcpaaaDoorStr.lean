/- Rows of strings. -/
import Derived.Test.YtedfmjijemcpaaaDoorApp
import Derived.Test.YtedfmjijemcpaaaDoorRhyB
namespace Go.Proofs.YtedfmjijemcpaaaDoor
open Go.RowKit

theorem info_str : (Tryd.prog.info? 9).map (fun i => (i.zero, i.size, i.bytes)) = some (some (.string ⟨#[]⟩), 1, 16) := by kernel_rfl
def RdT (w : World) (A : Option Addr) (xs : List ByteArray) : Prop := Rd w 1 A xs.length (xs.map Value.string)
theorem RdT.ext {w w' : World} {A : Option Addr} {xs : List ByteArray} (h : RdT w A xs) (he : Ext w w') : RdT w' A xs := Rd.ext h he
theorem RdT.at_ {w : World} {A : Option Addr} {xs : List ByteArray} (h : RdT w A xs) (k : Nat) (x : ByteArray) (hk : xs[k]? = some x) :
    ∃ b o, A = some ⟨b, o, none⟩ ∧ w.cell? ⟨b, o + k, none⟩ = some (.string x) := by
  have hkl : k < xs.length := (List.getElem?_eq_some_iff.1 hk).1
  obtain ⟨b, o, u, e, hu, hc⟩ := Rd.one h k hkl
  refine ⟨b, o, e, ?_⟩
  rw [hc, ← hu, List.getElem?_map, hk]
  rfl
def OwT (w : World) (B : Nat) (A : Option Addr) (c : Nat) (xs : List ByteArray) : Prop := w.ownsRow B 9 1 (.slice A xs.length c) xs.length (xs.map Value.string)
theorem OwT.rd {w : World} {B : Nat} {A : Option Addr} {c : Nat} {xs : List ByteArray} (h : OwT w B A c xs) : RdT w A xs := Rd.of_own h
theorem OwT.cap {w : World} {B : Nat} {A : Option Addr} {c : Nat} {xs : List ByteArray} (h : OwT w B A c xs) : xs.length ≤ c := by
  obtain ⟨A', c', e, h1, _⟩ := own_form h
  injection e with _ _ e
  omega
theorem OwT.ext {w w' : World} {B : Nat} {A : Option Addr} {c : Nat} {xs : List ByteArray} (h : OwT w B A c xs) (he : Ext w w') : OwT w' B A c xs := h.kept (he.grownBy none) (by cases A <;> simp [Value.ownBlock])
theorem OwT.lt {w : World} {B : Nat} {A : Option Addr} {c : Nat} {xs : List ByteArray} (h : OwT w B A c xs) : ∀ a, A = some a → B ≤ a.block ∧ a.block < w.heap.size := by
  rintro a rfl
  exact World.ownsRow.lt h a.block rfl
theorem OwT.nil (w : World) (B : Nat) : OwT w B none 0 [] := World.ownsRow_nil _ _ _ _
theorem one_strs (ys : List ByteArray) : ∀ u ∈ ys.map Value.string, u.oneCell' = true := by
  intro u hu
  obtain ⟨y, _, rfl⟩ := List.mem_map.1 hu
  rfl
theorem app_strs {ops : Array Oper} {rest : List Oper} {o : Oper} {a : Act} {w : World} {Q : Exit → Act → World → Prop} (wb : World) (hgd : o.guard = none) (s x : Operand)
    (ho : o.op = .call { callee := .builtin .append, args := #[s, x], argTypes := #[31, 31] })
    (A : Option Addr) (c n : Nat) (xs : List ByteArray) (X : Option Addr) (m d : Nat) (ys : List ByteArray) (hs : a.eval s = .slice A n c) (hx : a.eval x = .slice X m d)
    (hl : xs.length = n) (hl2 : ys.length = m) (hown : OwT w wb.heap.size A c xs) (hr : RdT w X ys) (he : Ext wb w) (hn : n + m ≤ 1099511627776)
    (h : ∀ A' c' w', OwT w' wb.heap.size A' c' (xs ++ ys) → Ext wb w' → w.grownBy w' (A.map (·.block)) → wpList Tryd.prog ops Q rest (a.put o.dst (.slice A' (n + m) c')) w') :
    wpList Tryd.prog ops Q (o :: rest) a w := by
  subst hl hl2
  refine app_row hgd s x _ ho wb.heap.size 9 _ 16 Tryd.underlying31 info_str rfl (by omega) A c _ _ hs hown X _ d _ hx hr (one_strs _) hn he.size ?_
  intro A' c' w' h1 h2
  refine h A' c' w' ?_ (Ext.grown he h2 ?_) h2
  · unfold OwT
    rw [List.length_append, List.map_append]
    exact h1
  · intro k hk
    cases A with
    | none => simp at hk
    | some a => simp at hk; have := hown.lt a rfl; omega
theorem RdT.built (w : World) (ys : List ByteArray) : RdT (w.alloc (.cells (ys.map Value.string).toArray 9)) (some ⟨w.heap.size, 0, none⟩) ys := by
  refine ⟨by simp, fun _ => ⟨w.heap.size, 0, rfl, fun j u hu => ?_⟩⟩
  rw [Nat.zero_add]
  exact cell_of_row _ _ j _ _ (0, 0) (heap_alloc_new w _) |>.trans (by simpa using hu)
end Go.Proofs.YtedfmjijemcpaaaDoor
