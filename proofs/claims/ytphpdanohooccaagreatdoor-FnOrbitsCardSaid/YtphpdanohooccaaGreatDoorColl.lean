/- Contracts of slices.Sort, slices.Compact at a slice of the call's own; of collected. -/
import Derived.Test.YtphpdanohooccaaGreatDoorShelf
import Derived.Test.YtphpdanohooccaaGreatDoorSet
import Derived.Test.YtphpdanohooccaaGreatDoorClone
import Derived.Lib.OwnBridge
import Derived.Sort.Grow
namespace Go.Proofs.YtphpdanohooccaaGreatDoor
open Go.RowKit Go.Sort

theorem grownBy_put {w : World} {g n : Nat} (d : Array Int) : w.grownBy (putRow (Value.int .i64) (Sort.ahead w n) g 0 d) (some g) := by
  refine ⟨rfl, rfl, rfl, by simp [putRow, mapBlock, Sort.ahead], fun k hk hne => ?_⟩
  have : g ≠ k := fun e => hne (by rw [e])
  simp [putRow, mapBlock, Sort.ahead, Array.getElem?_modify, this]
theorem grownBy_grow (w : World) (os : Array Obj) (row : Option Nat) : w.grownBy (grow w os) row :=
  ⟨rfl, rfl, rfl, by simp [grow], fun k hk _ => by simp [grow, Array.getElem?_append_left hk]⟩
theorem own_nil {w : World} {L c : Nat} {xs : List Int} (h : OwI w L none c xs) : xs = [] := by
  rcases Nat.eq_zero_or_pos xs.length with h0 | h0
  · exact List.length_eq_zero_iff.1 h0
  · obtain ⟨b, o, e, _⟩ := h.rd.2 h0; simp at e

theorem sort_own (L : Nat) (A : Option Addr) (c : Nat) (xs : List Int) (w : World) (ho : OwI w L A c xs) (hn : xs.length ≤ 1048576) :
    Calls Tryz.prog 52 #[.slice A xs.length c] w fun e w' => e = .returned (.tuple #[]) ∧ OwI w' L A c (xs.mergeSort fun x y => decide (x ≤ y)) ∧ w.grownBy w' (A.map (·.block)) := by
  cases A with
  | none =>
    obtain rfl := own_nil ho
    refine (Tryz.slices_Sort_int_none none c w).mono ?_
    rintro e w' ⟨rfl, rfl⟩
    exact ⟨rfl, by simpa using ho, World.grownBy.refl _ _⟩
  | some ad =>
    obtain ⟨g, cap, e, hbg, hgl, hnc, hcm, hl, hH⟩ := Lib.holds_of_ownsRow (enc := Value.int .i64) ho (by simp)
    injection e with e1 _ e3
    injection e1 with e1
    subst e1 e3
    refine (Tryz.slices_Sort_int g 0 c xs w hH hgl (by omega)).mono ?_
    rintro e w' ⟨rfl, n, os, rfl⟩
    have hml := List.length_mergeSort (le := fun x y : Int => decide (x ≤ y)) xs
    have h1 := Lib.ownsRow_putRow (enc := Value.int .i64) (q := n) (k := xs.length) (ys := xs.mergeSort fun x y => decide (x ≤ y)) ho hml (Nat.le_refl _)
    rw [List.take_of_length_le (by omega)] at h1
    refine ⟨rfl, ?_, grown_trans (grownBy_put _) (grownBy_grow _ os _)⟩
    unfold OwI
    rw [hml]
    exact h1.kept (grownBy_grow _ os none) (by simp [Value.ownBlock])
theorem compact_own (L : Nat) (A : Option Addr) (c : Nat) (xs : List Int) (w : World) (ho : OwI w L A c xs) (hn : xs.length ≤ 1048576) :
    Calls Tryz.prog 53 #[.slice A xs.length c] w fun e w' => e = .returned (.slice A (Lib.compact xs).length c) ∧ OwI w' L A c (Lib.compact xs) ∧ w.grownBy w' (A.map (·.block)) := by
  cases A with
  | none =>
    obtain rfl := own_nil ho
    refine (Tryz.slices_Compact_int_empty none c w).mono ?_
    rintro e w' ⟨rfl, rfl⟩
    exact ⟨rfl, ho, World.grownBy.refl _ _⟩
  | some ad =>
    obtain ⟨g, cap, e, hbg, hgl, hnc, hcm, hl, hH⟩ := Lib.holds_of_ownsRow (enc := Value.int .i64) ho (by simp)
    injection e with e1 _ e3
    injection e1 with e1
    subst e1 e3
    refine (Tryz.slices_Compact_int g 0 c xs w hH (by omega) hnc).mono ?_
    rintro e w' ⟨rfl, q, rfl⟩
    have hle : (Lib.compact xs).length ≤ xs.length := by
      unfold Lib.compact Lib.compactUpTo
      rw [List.length_map]
      exact Nat.le_trans (List.length_filter_le _ _) (by simp)
    have h1 := Lib.ownsRow_putRow (enc := Value.int .i64) (q := q) (k := (Lib.compact xs).length) (ys := Lib.compact xs ++ List.replicate (xs.length - (Lib.compact xs).length) 0) ho (by simp; omega) hle
    rw [List.take_left] at h1
    exact ⟨rfl, h1, grownBy_put _⟩

set_option maxHeartbeats 1000000 in
theorem coll_any (A : Option Addr) (c : Nat) (xs : List Int) (w : World) (hr : RdI w A xs) (hn : xs.length ≤ 1048576) :
    Calls Tryz.prog 26 #[.slice A xs.length c] w (RetI w (colF xs)) := by
  obtain ⟨n, hnn⟩ : ∃ n, n = xs.length := ⟨_, rfl⟩
  have CC := Lib.hid (clone_any A c xs w hr hn)
  have CS : Hid (∀ (A : Option Addr) (c : Nat) (w' : World), OwI w' w.heap.size A c xs → Calls Tryz.prog 52 #[.slice A n c] w' fun e w2 => e = .returned (.tuple #[]) ∧ OwI w2 w.heap.size A c (xs.mergeSort fun x y => decide (x ≤ y)) ∧ w'.grownBy w2 (A.map (·.block))) := fun A c w' h => by
    rw [hnn]
    exact sort_own w.heap.size A c xs w' h hn
  have CK : Hid (∀ (A : Option Addr) (c : Nat) (w' : World), OwI w' w.heap.size A c (xs.mergeSort fun x y => decide (x ≤ y)) → Calls Tryz.prog 53 #[.slice A n c] w' fun e w2 => e = .returned (.slice A (colF xs).length c) ∧ OwI w2 w.heap.size A c (colF xs) ∧ w'.grownBy w2 (A.map (·.block))) := fun A c w' h => by
    have hml := List.length_mergeSort (le := fun x y : Int => decide (x ≤ y)) xs
    rw [hnn, ← hml]
    exact compact_own w.heap.size A c _ w' h (by omega)
  have HN := Lib.hid hnn
  rw [← hnn]
  rw [← hnn] at CC
  clear hnn hr hn
  go_enter Tryz.func26, Tryz.ntmps26
  go_wp2_with fail
  refine CC.out.mono ?_
  rintro e w1 ⟨A1, c1, rfl, ho, he⟩
  have HO := Lib.hid ho
  have HE := Lib.hid he
  clear ho he
  rw [← HN.out]
  go_wp2_with fail
  refine (CS.out _ _ _ HO.out).mono ?_
  rintro e w2 ⟨rfl, ho2, hg2⟩
  have HE2 := Lib.hid (Ext.grown HE.out hg2 (fun k hk => by obtain ⟨a, ha, rfl⟩ := Option.map_eq_some_iff.1 hk; exact (HO.out.lt a ha).1))
  have HO2 := Lib.hid ho2
  clear ho2 hg2
  go_wp2_with fail
  refine (CK.out _ _ _ HO2.out).mono ?_
  rintro e w3 ⟨rfl, ho3, hg3⟩
  have HE3 := Lib.hid (Ext.grown HE2.out hg3 (fun k hk => by obtain ⟨a, ha, rfl⟩ := Option.map_eq_some_iff.1 hk; exact (HO2.out.lt a ha).1))
  have HO3 := Lib.hid ho3
  clear ho3 hg3
  go_wp2_with fail
  go_ret
  exact ⟨_, _, rfl, HO3.out, HE3.out⟩
end Go.Proofs.YtphpdanohooccaaGreatDoor
