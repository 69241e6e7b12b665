/- Slices of passages: how they read; contracts of the laws' helpers on them. -/
import Derived.Test.YtoobffhchbgkjaaBase
import Derived.StillTailTactics
import Derived.Maps.AppendAt
namespace Go.Proofs.Ytoobffhchbgkjaa
open Go.RowKit

/-- A slice of passages (pairs of ints) that reads as xs. -/
def RdP (w : World) (A : Option Addr) (xs : List (Int × Int)) : Prop := Rd w 2 A xs.length (pairCells xs)
theorem RdP.ext {w w' : World} {A : Option Addr} {xs : List (Int × Int)} (h : RdP w A xs) (he : Ext w w') : RdP w' A xs := Rd.ext h he
theorem RdP.at_ {w : World} {A : Option Addr} {xs : List (Int × Int)} (h : RdP w A xs) (k : Nat) (hk : k < xs.length) :
    ∃ b o, A = some ⟨b, o, none⟩ ∧ w.cell? ⟨b, o + k * 2, none⟩ = some (.int .i64 (xs.getD k (0, 0)).1) ∧ w.cell? ⟨b, o + k * 2 + 1, none⟩ = some (.int .i64 (xs.getD k (0, 0)).2) := by
  obtain ⟨b, o, rfl, hc⟩ := h.2 (by omega)
  refine ⟨b, o, rfl, hc (k * 2) _ ?_, ?_⟩
  · rw [pairCells_get xs (k * 2) (by omega), if_pos (by omega), show k * 2 / 2 = k by omega]
  · rw [Nat.add_assoc]
    refine hc (k * 2 + 1) _ ?_
    rw [pairCells_get xs (k * 2 + 1) (by omega), if_neg (by omega), show (k * 2 + 1) / 2 = k by omega]


theorem pairCells_set (xs : List (Int × Int)) (k : Nat) (q : Int × Int) : ((pairCells xs).set (k * 2) (.int .i64 q.1)).set (k * 2 + 1) (.int .i64 q.2) = pairCells (xs.set k q) := by
  induction xs generalizing k with
  | nil => simp [pairCells]
  | cons y ys ih =>
    match k with
    | 0 => simp [pairCells]
    | k + 1 =>
      have := ih k
      simp only [pairCells] at this
      simp only [pairCells, List.flatMap_cons, List.cons_append, List.nil_append, List.set_cons_succ, show (k + 1) * 2 = k * 2 + 1 + 1 by omega]
      rw [this]
theorem pairCells_append (xs ys : List (Int × Int)) : pairCells (xs ++ ys) = pairCells xs ++ pairCells ys := by simp [pairCells]

/-- A slice of passages that the call owns (its block lies from B on). -/
def OwP (w : World) (B : Nat) (A : Option Addr) (c : Nat) (xs : List (Int × Int)) : Prop := w.ownsRow B 52 2 (.slice A xs.length c) xs.length (pairCells xs)
theorem OwP.rd {w : World} {B : Nat} {A : Option Addr} {c : Nat} {xs : List (Int × Int)} (h : OwP w B A c xs) : RdP w A xs := Rd.of_own h
theorem OwP.ext {w w' : World} {B : Nat} {A : Option Addr} {c : Nat} {xs : List (Int × Int)} (h : OwP w B A c xs) (he : Ext w w') : OwP w' B A c xs := h.kept (he.grownBy none) (by cases A <;> simp [Value.ownBlock])
theorem OwP.lt {w : World} {B : Nat} {A : Option Addr} {c : Nat} {xs : List (Int × Int)} (h : OwP w B A c xs) : ∀ a, A = some a → B ≤ a.block ∧ a.block < w.heap.size := by
  rintro a rfl
  exact World.ownsRow.lt h a.block rfl
theorem OwP.nil (w : World) (B : Nat) : OwP w B none 0 [] := World.ownsRow_nil _ _ _ _
theorem OwP.empty (w : World) : OwP (w.alloc (.cells #[] 52)) w.heap.size (some ⟨w.heap.size, 0, none⟩) 0 [] := World.ownsRow_lit w #[] 0 (Nat.le_refl _) (by simp [maxLen]) rfl
theorem OwP.lower {w : World} {B B' : Nat} {A : Option Addr} {c : Nat} {xs : List (Int × Int)} (h : OwP w B A c xs) (hB : B' ≤ B) : OwP w B' A c xs := by
  refine ⟨h.1, ?_⟩
  rcases h.2 with h2 | ⟨g, cap, cur, e, h3, h4⟩
  · exact Or.inl h2
  · exact Or.inr ⟨g, cap, cur, e, Nat.le_trans hB h3, h4⟩

theorem info_pass : (Try.prog.info? 52).map (fun i => (i.zero, i.size, i.bytes)) = some (some (.agg #[.int .i64 0, .int .i64 0]), 2, 16) := by kernel_rfl

/-- Behind an append: the row lies where it lay, or in block n. -/
def NewAt (A' A : Option Addr) (n : Nat) : Prop := A'.map (·.block) = A.map (·.block) ∨ A'.map (·.block) = some n

theorem cell_two_new (w : World) (x y : Value) (t : TypeId) : ∀ j u, [x, y][j]? = some u → (w.alloc (.cells #[x, y] t)).cell? ((⟨w.heap.size, 0, none⟩ : Addr).add j) = some u := by
  intro j u hj
  rw [Addr.add_lit, Nat.zero_add, cell_of_row _ _ j #[x, y] t (0, 0) (heap_alloc_new w _)]
  rw [← hj]
  simp

/-- 'out = append(out, passage)', out a slice that the call owns. 'row': what other slices have to say of the block that has been written. -/
theorem app_pair {ops : Array Oper} {rest : List Oper} {o : Oper} {a : Act} {Q : Exit → Act → World → Prop} (wb w0 : World) (hgd : o.guard = none) (s x : Operand)
    (ho : o.op = .call { callee := .builtin .append, args := #[s, x], argTypes := #[25, 25] })
    (A : Option Addr) (c n : Nat) (xs : List (Int × Int)) (v u : Int) (g : Nat) (hs : a.eval s = .slice A n c) (hx : a.eval x = .slice (some ⟨g, 0, none⟩) 1 1) (hgg : w0.heap.size = g)
    (hl : xs.length = n) (hown : OwP w0 wb.heap.size A c xs) (he : Ext wb w0) (hn : n < 1099511627776)
    (h : ∀ A' c' w', OwP w' wb.heap.size A' c' (xs ++ [(v, u)]) → Ext wb w' → (w0.alloc (.cells #[.int .i64 v, .int .i64 u] 52)).grownBy w' (A.map (·.block)) → NewAt A' A (w0.heap.size + 1) → wpList Try.prog ops Q rest (a.put o.dst (.slice A' (n + 1) c')) w') :
    wpList Try.prog ops Q (o :: rest) a (w0.alloc (.cells #[.int .i64 v, .int .i64 u] 52)) := by
  subst hl
  subst hgg
  obtain ⟨i0, hi, hz0, hz1, hz2⟩ := info_parts info_pass
  refine wpList_append_own_at _ hgd s x 25 ho wb.heap.size 52 i0 (.agg #[.int .i64 0, .int .i64 0]) 2 16 Try.underlying25 hi hz0 hz1 hz2 rfl (by decide) _ xs.length (pairCells xs) hs (World.ownsRow.alloc hown _)
    ⟨w0.heap.size, 0, none⟩ 1 1 [.int .i64 v, .int .i64 u] hx rfl (cell_two_new _ _ _ _) (by simp [Value.oneCell']) (by simp only [maxLen]; omega) (by omega) (by simp; exact Nat.le_succ_of_le he.size) ?_
  intro v' w' hown' hg _ hat
  obtain ⟨A', c', rfl, _, _⟩ := own_form hown'
  have hl' : (xs ++ [(v, u)]).length = xs.length + 1 := by simp
  have ho' : OwP w' wb.heap.size A' c' (xs ++ [(v, u)]) := by
    unfold OwP
    rw [hl', pairCells_append]
    exact hown'
  have e1 : (Value.slice A xs.length c).ownBlock = A.map (·.block) := by cases A <;> rfl
  have e2 : (Value.slice A' (xs.length + 1) c').ownBlock = A'.map (·.block) := by cases A' <;> rfl
  rw [e1, e2] at hat
  rw [e1] at hg
  exact h A' c' w' ho' (Ext.grown (he.alloc _) hg (fun k hk => (World.ownsRow.lt hown k (by rw [e1]; exact hk)).1)) hg (by unfold NewAt; simpa using hat)

/-- What a function that answers a fresh slice of passages leaves. -/
def RetP0 (w : World) (xs : List (Int × Int)) (e : Ending) (w' : World) : Prop :=
  ∃ A c, e = .returned (.slice A xs.length c) ∧ OwP w' w.heap.size A c xs ∧ Ext w w'

theorem toPassage_any (t b : Int) (w : World) :
    Calls Try.prog 42 #[.agg #[.int .i64 t, .int .i64 b]] w fun e w' => e = .returned (.agg #[.int .i64 t, .int .i64 b]) ∧ Ext w w' := by
  go_enter Try.func42, Try.ntmps42
  go_wp2
  exact bodyPost_ret (v := .agg #[.int .i64 t, .int .i64 b]) (by simp [results, Try.results42, go_sem]) rfl ⟨rfl, (((Ext.refl w).alloc _).alloc _).alloc _⟩

/-- The first k of xs, then zeros. -/
def partP (xs : List (Int × Int)) (k : Nat) : List (Int × Int) := xs.take k ++ List.replicate (xs.length - k) (0, 0)
theorem partP_length (xs : List (Int × Int)) (k : Nat) (h : k ≤ xs.length) : (partP xs k).length = xs.length := by simp [partP]; omega
theorem partP_set (xs : List (Int × Int)) (k : Nat) (h : k < xs.length) : (partP xs k).set k (xs.getD k (0, 0)) = partP xs (k + 1) := by
  unfold partP
  rw [List.set_append_right _ _ (by simp; omega), List.take_succ_eq_append_getElem h, List.append_assoc]
  congr 1
  rw [List.length_take, Nat.min_eq_left (by omega), Nat.sub_self, show xs.length - k = (xs.length - (k + 1)) + 1 by omega, List.replicate_succ]
  simp [List.getD, h]
theorem partP_zero (xs : List (Int × Int)) : (madeCells #[Value.int .i64 0, Value.int .i64 0] (xs.length * 2)).toList = pairCells (partP xs 0) := by
  apply List.ext_getElem?
  intro j
  by_cases hj : j < xs.length * 2
  · rw [pairCells_get _ j (by simp [partP]; exact hj)]
    have e : (partP xs 0).getD (j / 2) (0, 0) = (0, 0) := by simp [partP, List.getD, show j / 2 < xs.length by omega]
    rw [e]
    have h2 : j % 2 = 0 ∨ j % 2 = 1 := by omega
    rcases h2 with h2 | h2 <;> simp [madeCells, hj, h2]
  · have h1 : (madeCells #[Value.int .i64 0, Value.int .i64 0] (xs.length * 2)).toList.length = xs.length * 2 := by simp [madeCells]
    rw [List.getElem?_eq_none (by omega), List.getElem?_eq_none (by rw [pairCells_length]; simp [partP]; omega)]
theorem partP_all (xs : List (Int × Int)) : partP xs xs.length = xs := by simp [partP]

set_option maxHeartbeats 400000 in
theorem toPassageS_any (A : Option Addr) (c : Nat) (xs : List (Int × Int)) (w : World) (hr : RdP w A xs) (hn : xs.length ≤ 1048576) :
    Calls Try.prog 14 #[.slice A xs.length c] w (RetP0 w xs) := by
  obtain ⟨i0, hi, hz0, hz1, hz2⟩ := info_parts info_pass
  obtain ⟨n, hnn⟩ : ∃ n, n = xs.length := ⟨_, rfl⟩
  rw [← hnn] at hn ⊢
  have HN := Lib.hid hnn
  have HR := Lib.hid hr
  clear hnn hr
  go_enter Try.func14, Try.ntmps14
  go_wp2_with (at_make; refine wpList_make_full _ rfl _ _ 25 rfl w.heap.size 52 i0 (.agg #[.int .i64 0, .int .i64 0]) 2 Try.underlying25 hi hz0 hz1 _ _ _ _ n rfl rfl rfl rfl ?b1 ?b2 ?b3 ?_)
  case b1 => rw [hz2]; omega
  case b2 => unfold maxLen; omega
  case b3 => exact Nat.le_refl _
  intro w1 hown hg
  have HO : Hid (w1.ownsRow w.heap.size 52 2 (.slice (some ⟨w.heap.size, 0, none⟩) n n) n (pairCells (partP xs 0))) := by
    have h := hown
    rw [← partP_zero xs, ← HN.out]
    exact h
  have HE : Hid (Ext w w1) := (Ext.refl w).grown hg (by simp)
  clear hown hg
  go_wp2
  go_loopw [4] (fun i wr => ∃ k : Nat, k ≤ n ∧ i = .int .i64 k ∧ Hid (wr.ownsRow w.heap.size 52 2 (.slice (some ⟨w.heap.size, 0, none⟩) n n) n (pairCells (partP xs k))) ∧ Hid (Ext w wr)) (fun i _ => n - (intOf i).toNat)
  case atStart => exact ⟨0, Nat.zero_le _, rfl, HO, HE⟩
  case round =>
    obtain ⟨k, hk, rfl, HOk, HEk⟩ := hrel
    by_cases hlt : k < n
    · have hkx : k < xs.length := by rw [← HN.out]; exact hlt
      obtain ⟨b, o, hA, hc, hc2⟩ := (HR.out.ext HEk.out).at_ k hkx
      subst hA
      obtain ⟨⟨x, y⟩, hx⟩ : ∃ x, x = xs.getD k (0, 0) := ⟨_, rfl⟩
      rw [← hx] at hc hc2
      simp only [] at hc hc2
      have HX := Lib.hid hx
      have HK := Lib.hid hkx
      clear hx hkx
      go_wp2_with fail
      refine (toPassage_any _ _ _).mono ?_
      rintro e w2 ⟨rfl, he⟩
      have HOk2 : Hid (w2.ownsRow w.heap.size 52 2 (.slice (some ⟨w.heap.size, 0, none⟩) n n) n (pairCells (partP xs k))) := HOk.out.kept (he.grownBy none) (by simp [Value.ownBlock])
      have HE2 := Lib.hid (HEk.out.trans he)
      clear he hc hc2
      have hfz := HOk2.out.frozenAt (k * 2)
      have hfz2 := HOk2.out.frozenAt (k * 2 + 1)
      have hl : (partP xs k).length * 2 = n * 2 := by rw [partP_length xs k (by rw [← HN.out]; exact hk), ← HN.out]
      have hcur : ∃ u, w2.cell? ⟨w.heap.size, k * 2, none⟩ = some u := ⟨_, by rw [HOk2.out.cellAt (k * 2) (by omega), pairCells_get _ _ (by omega)]⟩
      have hcur2 : ∃ u, w2.cell? ⟨w.heap.size, k * 2 + 1, none⟩ = some u := ⟨_, by rw [HOk2.out.cellAt (k * 2 + 1) (by omega), pairCells_get _ _ (by omega)]⟩
      obtain ⟨u1, hcur⟩ := hcur
      obtain ⟨u2, hcur2⟩ := hcur2
      have hst := HOk2.out.stored (k * 2) (.int .i64 x)
      have hst2 := Lib.hid (hst.1.stored (k * 2 + 1) (.int .i64 y))
      rw [show (pairCells (partP xs k)).set (k * 2) (.int .i64 x) = (pairCells (partP xs k)).set (k * 2) (.int .i64 (x, y).1) from rfl, show Value.int .i64 y = Value.int .i64 (x, y).2 from rfl, pairCells_set, HX.out, partP_set xs k HK.out, ← HX.out] at hst2
      have hst1 := Lib.hid hst
      clear hst hl
      go_wp2
      go_roundw
      case rel => exact ⟨k + 1, by omega, by go_num, hst2.out.1, (HE2.out.setCell (by simp) _).setCell (by simp) _⟩
      case measure => simp [intOf]; omega
    · obtain rfl : k = n := by omega
      go_wp2
      go_ret
      refine ⟨some ⟨w.heap.size, 0, none⟩, k, by rw [← HN.out]; rfl, ?_, HEk.out⟩
      have h := HOk.out
      have e : partP xs k = xs := by rw [HN.out]; exact partP_all xs
      rw [e] at h
      unfold OwP
      rw [← HN.out]
      exact h

theorem eqPassage_same (x y : Int) (w : World) :
    Calls Try.prog 46 #[.agg #[.int .i64 x, .int .i64 y], .agg #[.int .i64 x, .int .i64 y]] w fun e w' => e = .returned (.bool true) ∧ Ext w w' := by
  go_enter Try.func46, Try.ntmps46
  go_wp2
  go_ret
  exact ⟨rfl, ((Ext.refl w).alloc _).alloc _⟩

set_option maxHeartbeats 400000 in
/-- Two slices of passages that read alike are equal. -/
theorem eqPassageS_same (A B : Option Addr) (c d : Nat) (xs : List (Int × Int)) (w : World) (ha : RdP w A xs) (hb : RdP w B xs) (hn : xs.length ≤ 1099511627776) :
    Calls Try.prog 16 #[.slice A xs.length c, .slice B xs.length d] w fun e w' => e = .returned (.bool true) ∧ Ext w w' := by
  obtain ⟨n, hnn⟩ : ∃ n, n = xs.length := ⟨_, rfl⟩
  rw [← hnn] at hn ⊢
  have HN := Lib.hid hnn
  have HA := Lib.hid ha
  have HB := Lib.hid hb
  clear hnn ha hb
  go_enter Try.func16, Try.ntmps16
  go_wp2
  go_loopw [5] (fun i wr => ∃ k : Nat, k ≤ n ∧ i = .int .i64 k ∧ Hid (Ext w wr)) (fun i _ => n - (intOf i).toNat)
  case atStart => exact ⟨0, Nat.zero_le _, rfl, Ext.refl w⟩
  case round =>
    obtain ⟨k, hk, rfl, HE⟩ := hrel
    by_cases hlt : k < n
    · have hkx : k < xs.length := by rw [← HN.out]; exact hlt
      obtain ⟨b, o, hA, hc, hc2⟩ := (HA.out.ext HE.out).at_ k hkx
      obtain ⟨b2, o2, hB, hd, hd2⟩ := (HB.out.ext HE.out).at_ k hkx
      subst hA hB
      obtain ⟨⟨x, y⟩, hx⟩ : ∃ x, x = xs.getD k (0, 0) := ⟨_, rfl⟩
      rw [← hx] at hc hc2 hd hd2
      simp only [] at hc hc2 hd hd2
      clear hx hkx
      go_wp2
      go_still_tail 8, (by kernel_rfl)
      change wpList _ _ _ _ _ wr.drew
      have HE2 : Hid (Ext w wr.drew) := HE.out.drew
      generalize wr.drew = w2 at HE2 ⊢
      clear hc hc2 hd hd2
      go_wp2_with fail
      refine (eqPassage_same _ _ _).mono ?_
      rintro e w3 ⟨rfl, he⟩
      have HE3 := Lib.hid (HE2.out.trans he)
      clear he
      go_wp2_with fail
      go_roundw
      case rel => exact ⟨k + 1, by omega, by go_num, HE3⟩
      case measure => simp [intOf]; omega
    · obtain rfl : k = n := by omega
      go_wp2
      go_ret
      exact ⟨rfl, HE.out⟩

/-- (k, k + 1), (k + 2, k + 3), .. -/
def marksP (k : Int) (n : Nat) : List (Int × Int) := (List.range n).map fun i : Nat => (k + 2 * (i : Int), k + 2 * (i : Int) + 1)
theorem marksP_length (k : Int) (n : Nat) : (marksP k n).length = n := by simp [marksP]
theorem marksP_getD (k : Int) (n i : Nat) (h : i < n) : (marksP k n).getD i (0, 0) = (k + 2 * i, k + 2 * i + 1) := by simp [marksP, List.getD, h]
def markedP (xs : List (Int × Int)) (k : Int) (j : Nat) : List (Int × Int) := marksP k j ++ xs.drop j
theorem markedP_length (xs : List (Int × Int)) (k : Int) (j : Nat) (h : j ≤ xs.length) : (markedP xs k j).length = xs.length := by simp [markedP, marksP]; omega
theorem markedP_set (xs : List (Int × Int)) (k : Int) (j : Nat) (h : j < xs.length) : (markedP xs k j).set j (k + 2 * j, k + 2 * j + 1) = markedP xs k (j + 1) := by
  unfold markedP
  rw [List.set_append_right _ _ (by simp [marksP])]
  have e : marksP k (j + 1) = marksP k j ++ [(k + 2 * (j : Int), k + 2 * (j : Int) + 1)] := by simp [marksP, List.range_succ]
  rw [e, List.append_assoc, marksP_length, Nat.sub_self]
  congr 1
  rw [List.drop_eq_getElem_cons h]
  rfl
theorem markedP_all (xs : List (Int × Int)) (k : Int) : markedP xs k xs.length = marksP k xs.length := by simp [markedP]

set_option maxHeartbeats 400000 in
theorem markPassageS_any (B : Nat) (A : Option Addr) (c : Nat) (xs : List (Int × Int)) (k0 : Int) (w : World) (h : OwP w B A c xs) (h0 : 0 ≤ k0) (hn : k0 + 2 * xs.length ≤ 9223372036854775800) :
    Calls Try.prog 21 #[.slice A xs.length c, .int .i64 k0] w fun e w' => e = .returned (.int .i64 (k0 + 2 * xs.length)) ∧
      OwP w' B A c (marksP k0 xs.length) ∧ w.grownBy w' (A.map (·.block)) := by
  obtain ⟨n, hnn⟩ : ∃ n, n = xs.length := ⟨_, rfl⟩
  rw [← hnn] at hn ⊢
  have HN := Lib.hid hnn
  have HO : Hid (w.ownsRow B 52 2 (.slice A n c) n (pairCells xs)) := by
    have h' := h
    unfold OwP at h'
    rw [← hnn] at h'
    exact h'
  clear hnn h
  go_enter Try.func21, Try.ntmps21
  go_wp2
  go_loopw [1, 5] (fun m i wr => ∃ k : Nat, k ≤ n ∧ i = .int .i64 k ∧ m = .int .i64 (k0 + 2 * k) ∧ Hid (wr.ownsRow B 52 2 (.slice A n c) n (pairCells (markedP xs k0 k))) ∧ Hid (w.grownBy wr (A.map (·.block)))) (fun _ i _ => n - (intOf i).toNat)
  case atStart => exact ⟨0, Nat.zero_le _, rfl, by simp, by simpa [markedP, marksP] using HO, World.grownBy.refl _ _⟩
  case round =>
    obtain ⟨k, hk, rfl, rfl, HOk, HGk⟩ := hrel
    by_cases hlt : k < n
    · obtain ⟨g, hA⟩ : ∃ g, A = some ⟨g, 0, none⟩ := by
        rcases HOk.out.2 with ⟨e1, e2⟩ | ⟨g, cap, cur, e1, _⟩
        · omega
        · injection e1 with e1 _ _
          exact ⟨g, e1⟩
      subst hA
      have hl : (markedP xs k0 k).length = n := by rw [markedP_length xs k0 k (by rw [← HN.out]; exact hk), ← HN.out]
      have hfz := HOk.out.frozenAt (k * 2)
      have hfz2 := HOk.out.frozenAt (k * 2 + 1)
      obtain ⟨u1, hcur⟩ : ∃ u, wr.cell? ⟨g, k * 2, none⟩ = some u := ⟨_, by rw [HOk.out.cellAt (k * 2) (by omega), pairCells_get _ _ (by omega)]⟩
      obtain ⟨u2, hcur2⟩ : ∃ u, wr.cell? ⟨g, k * 2 + 1, none⟩ = some u := ⟨_, by rw [HOk.out.cellAt (k * 2 + 1) (by omega), pairCells_get _ _ (by omega)]⟩
      have hst := HOk.out.stored (k * 2) (.int .i64 (k0 + 2 * k))
      have hst2 := Lib.hid (hst.1.stored (k * 2 + 1) (.int .i64 (k0 + 2 * k + 1)))
      have e := pairCells_set (markedP xs k0 k) k (k0 + 2 * (k : Int), k0 + 2 * (k : Int) + 1)
      rw [markedP_set xs k0 k (by rw [← HN.out]; exact hlt)] at e
      simp only [] at e
      rw [e] at hst2
      have hst1 := Lib.hid hst
      clear hst hl e
      go_wp2
      go_roundw
      case rel =>
        refine ⟨k + 1, by omega, by go_num, by go_num, hst2.out.1, ?_⟩
        exact grown_trans (grown_trans HGk.out hst1.out.2) hst2.out.2
      case measure => simp [intOf]; omega
    · obtain rfl : k = n := by omega
      go_wp2
      go_ret
      refine ⟨rfl, ?_, HGk.out⟩
      have h := HOk.out
      have e : markedP xs k0 k = marksP k0 k := by rw [HN.out]; exact markedP_all xs k0
      rw [e] at h
      unfold OwP
      rw [marksP_length]
      exact h

set_option maxHeartbeats 400000 in
theorem heldPassageS_any (A : Option Addr) (c n : Nat) (k0 : Int) (w : World) (h : RdP w A (marksP k0 n)) (h0 : 0 ≤ k0) (hn : k0 + 2 * n ≤ 9223372036854775800) :
    Calls Try.prog 22 #[.slice A n c, .int .i64 k0] w fun e w' => e = .returned (.int .i64 (k0 + 2 * n)) ∧ w = w' := by
  have HR := Lib.hid h
  clear h
  go_enter Try.func22, Try.ntmps22
  go_wp2
  go_loop [1, 5] (fun m i => ∃ k : Nat, k ≤ n ∧ i = .int .i64 k ∧ m = .int .i64 (k0 + 2 * k)) (fun _ i => n - (intOf i).toNat)
  case atStart => exact ⟨0, Nat.zero_le _, rfl, by simp⟩
  case round =>
    obtain ⟨k, hk, rfl, rfl⟩ := hrel
    by_cases hlt : k < n
    · obtain ⟨b, o, hA, hc, hc2⟩ := HR.out.at_ k (by rw [marksP_length]; exact hlt)
      subst hA
      rw [marksP_getD _ _ _ hlt] at hc hc2
      simp only [] at hc hc2
      go_wp2
      go_round
      case rel => exact ⟨k + 1, by omega, by go_num, by go_num⟩
      case measure => simp [intOf]; omega
    · obtain rfl : k = n := by omega
      go_wp2
      go_ret
      exact ⟨rfl, rfl⟩

theorem szPassageS_any (A : Option Addr) (c n : Nat) (left : Int) (w : World) (h0 : 0 ≤ left) (h1 : left ≤ 1048576) (hn : n ≤ 9223372036854775807) :
    Calls Try.prog 12 #[.slice A n c, .int .i64 left] w fun e w' => e = .returned (.int .i64 (if (n : Int) ≤ left then left - n else -1)) ∧ w = w' := by
  by_cases h : (n : Int) ≤ left
  · rw [if_pos h]
    go_enter Try.func12, Try.ntmps12
    go_wp2
    go_ret
    exact ⟨rfl, rfl⟩
  · rw [if_neg h]
    go_enter Try.func12, Try.ntmps12
    go_wp2
    go_ret
    exact ⟨rfl, rfl⟩
end Go.Proofs.Ytoobffhchbgkjaa
