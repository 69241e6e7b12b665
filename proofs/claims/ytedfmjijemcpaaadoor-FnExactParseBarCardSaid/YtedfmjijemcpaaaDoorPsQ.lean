/- Splitting a text, byte by byte: plain facts. -/
import Derived.Test.YtedfmjijemcpaaaDoorPsP
namespace Go.Proofs.YtedfmjijemcpaaaDoor
open Go.RowKit

theorem snoc_inj {α : Type} {W V : List α} {v u : α} (h : W ++ [v] = V ++ [u]) : W = V ∧ v = u := by
  have := List.append_inj' h rfl
  exact ⟨this.1, (List.cons.inj this.2).1⟩
theorem splitL_snoc (c x : UInt8) : ∀ (l : List UInt8) (W : List (List UInt8)) (v : List UInt8), splitL c l = W ++ [v] → splitL c (l ++ [x]) = if x = c then W ++ [v] ++ [[]] else W ++ [v ++ [x]]
  | [], W, v, h => by
    have h2 : ([] : List (List UInt8)) ++ [[]] = W ++ [v] := h
    obtain ⟨rfl, rfl⟩ := snoc_inj h2
    by_cases hx : x = c
    · rw [if_pos hx]; subst hx; exact splitL_eq x []
    · rw [if_neg hx]; exact splitL_cons hx []
  | y :: l, W, v, h => by
    obtain ⟨V, u, hv⟩ : ∃ V u, splitL c l = V ++ [u] := by
      obtain ⟨a, t, e⟩ := splitL_ne c l
      rcases List.eq_nil_or_concat (splitL c l) with h0 | ⟨V, u, h0⟩
      · rw [e] at h0; exact absurd h0 (by simp)
      · exact ⟨V, u, by rw [h0, List.concat_eq_append]⟩
    have ih := splitL_snoc c x l V u hv
    by_cases hy : y = c
    · subst hy
      rw [splitL_eq, hv] at h
      obtain ⟨rfl, rfl⟩ := snoc_inj (show ([] :: V) ++ [u] = W ++ [v] from h)
      rw [List.cons_append, splitL_eq, ih]
      split <;> rfl
    · rw [splitL_cons hy, hv] at h
      rw [List.cons_append, splitL_cons hy, ih]
      cases V with
      | nil =>
        obtain ⟨rfl, rfl⟩ := snoc_inj (show [] ++ [y :: u] = W ++ [v] from h)
        split <;> rfl
      | cons a V =>
        obtain ⟨rfl, rfl⟩ := snoc_inj (show ((y :: a) :: V) ++ [u] = W ++ [v] from h)
        split <;> rfl
/-- The words that are cut behind i bytes. -/
structure CutAt (c : UInt8) (s : ByteArray) (i fr : Nat) (ws : List ByteArray) : Prop where
  le : fr ≤ i
  len : ws.length ≤ i
  words : splitL c (s.data.toList.take i) = ws.map (·.data.toList) ++ [(s.data.toList.take i).drop fr]
theorem CutAt.start (c : UInt8) (s : ByteArray) : CutAt c s 0 0 [] := ⟨Nat.le_refl _, Nat.le_refl _, rfl⟩
theorem take_next (s : ByteArray) (i : Nat) (h : i < s.size) : s.data.toList.take (i + 1) = s.data.toList.take i ++ [s[i]] := by
  have hl : i < s.data.toList.length := by rw [← Lib.size_eq]; exact h
  rw [List.take_succ_eq_append_getElem hl]
  rfl
theorem ext_data (s : ByteArray) (a b : Nat) : (s.extract a b).data.toList = (s.data.toList.take b).drop a := by
  rw [ByteArray.data_extract, Array.toList_extract, List.drop_take]
theorem CutAt.stay {c : UInt8} {s : ByteArray} {i fr : Nat} {ws : List ByteArray} (h : CutAt c s i fr ws) (hi : i < s.size) (hx : s[i] ≠ c) : CutAt c s (i + 1) fr ws := by
  refine ⟨by have := h.le; omega, by have := h.len; omega, ?_⟩
  rw [take_next s i hi, splitL_snoc c _ _ _ _ h.words, if_neg hx, List.drop_append_of_le_length]
  rw [List.length_take, ← Lib.size_eq]
  have := h.le
  omega
theorem CutAt.cut {c : UInt8} {s : ByteArray} {i fr : Nat} {ws : List ByteArray} (h : CutAt c s i fr ws) (hi : i < s.size) (hx : s[i] = c) : CutAt c s (i + 1) (i + 1) (ws ++ [s.extract fr i]) := by
  refine ⟨Nat.le_refl _, by rw [List.length_append]; have := h.len; simp; exact this, ?_⟩
  rw [take_next s i hi, splitL_snoc c _ _ _ _ h.words, if_pos hx, List.map_append, List.map_singleton, ext_data]
  congr 1
  rw [List.drop_eq_nil_of_le]
  rw [List.length_append, List.length_take]
  simp only [List.length_cons, List.length_nil]
  omega
theorem CutAt.done {c : UInt8} {s : ByteArray} {fr : Nat} {ws : List ByteArray} (h : CutAt c s s.size fr ws) : (ws ++ [s.extract fr s.size]).map (·.data.toList) = splitL c s.data.toList := by
  have := h.words
  rw [List.take_of_length_le (by rw [← Lib.size_eq]; exact Nat.le_refl _)] at this
  rw [this, List.map_append, List.map_singleton, ext_data, List.take_of_length_le (by rw [← Lib.size_eq]; exact Nat.le_refl _)]
end Go.Proofs.YtedfmjijemcpaaaDoor
