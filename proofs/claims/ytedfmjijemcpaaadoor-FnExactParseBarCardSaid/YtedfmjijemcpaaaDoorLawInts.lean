/- Contracts of the laws' helpers on slices of ints: toIntS (a copy), eqIntS, markIntS, heldIntS. -/
import Derived.Test.YtedfmjijemcpaaaDoorBase
namespace Go.Proofs.YtedfmjijemcpaaaDoor
open Go.RowKit

/-- The first k of xs, then zeros. -/
def part0 (xs : List Int) (k : Nat) : List Int := xs.take k ++ List.replicate (xs.length - k) 0
theorem part0_length (xs : List Int) (k : Nat) (h : k ≤ xs.length) : (part0 xs k).length = xs.length := by simp [part0]; omega
theorem part0_set (xs : List Int) (k : Nat) (h : k < xs.length) : ((part0 xs k).map (Value.int .i64)).set k (.int .i64 (xs.getD k 0)) = (part0 xs (k + 1)).map (Value.int .i64) := by
  rw [← List.map_set]
  congr 1
  unfold part0
  apply List.ext_getElem?
  intro j
  rw [List.getElem?_set]
  have hl : (xs.take k ++ List.replicate (xs.length - k) (0 : Int)).length = xs.length := by simp; omega
  by_cases hj : k = j
  · subst hj
    rw [if_pos rfl, if_pos (by rw [hl]; exact h), List.getElem?_append_left (by simp; omega)]
    simp [h, List.getD]
  · rw [if_neg hj]
    by_cases h2 : j < k
    · rw [List.getElem?_append_left (by simp; omega), List.getElem?_append_left (by simp; omega)]
      simp [h2, show j < k + 1 by omega]
    · rw [List.getElem?_append_right (by simp; omega), List.getElem?_append_right (by simp; omega)]
      simp only [List.length_take, List.getElem?_replicate]
      by_cases h3 : j < xs.length
      · rw [if_pos (by omega), if_pos (by omega)]
      · rw [if_neg (by omega), if_neg (by omega)]
theorem part0_zero (xs : List Int) : (madeCells #[Value.int .i64 0] xs.length).toList = (part0 xs 0).map (Value.int .i64) := by
  rw [toList_madeCells_one]
  simp [part0]
theorem part0_all (xs : List Int) : part0 xs xs.length = xs := by simp [part0]

set_option maxHeartbeats 400000 in
theorem toIntS_any (A : Option Addr) (c : Nat) (xs : List Int) (w : World) (hr : RdI w A xs) (hn : xs.length ≤ 1048576) :
    Calls Tryd.prog 8 #[.slice A xs.length c] w (RetI w xs) := by
  obtain ⟨i0, hi, hz0, hz1, hz2⟩ := info_parts info_int
  obtain ⟨n, hnn⟩ : ∃ n, n = xs.length := ⟨_, rfl⟩
  rw [← hnn] at hn ⊢
  have HN := Lib.hid hnn
  have HR := Lib.hid hr
  clear hnn hr
  go_enter Tryd.func8, Tryd.ntmps8
  go_wp2_with (at_make; refine wpList_make_full _ rfl _ _ 22 rfl w.heap.size 3 i0 (.int .i64 0) 1 Tryd.underlying22 hi hz0 hz1 _ _ _ _ n rfl rfl rfl rfl ?b1 ?b2 ?b3 ?_)
  case b1 => rw [hz2]; omega
  case b2 => unfold maxLen; omega
  case b3 => exact Nat.le_refl _
  intro w1 hown hg
  have HO : Hid (w1.ownsRow w.heap.size 3 1 (.slice (some ⟨w.heap.size, 0, none⟩) n n) n ((part0 xs 0).map (Value.int .i64))) := by
    have h := hown
    rw [← part0_zero xs, ← HN.out]
    exact h
  have HE : Hid (Ext w w1) := (Ext.refl w).grown hg (by simp)
  clear hown hg
  go_wp2
  go_loopw [4] (fun i wr => ∃ k : Nat, k ≤ n ∧ i = .int .i64 k ∧ Hid (wr.ownsRow w.heap.size 3 1 (.slice (some ⟨w.heap.size, 0, none⟩) n n) n ((part0 xs k).map (Value.int .i64))) ∧ Hid (Ext w wr)) (fun i _ => n - (intOf i).toNat)
  case atStart => exact ⟨0, Nat.zero_le _, rfl, HO, HE⟩
  case round =>
    obtain ⟨k, hk, rfl, HOk, HEk⟩ := hrel
    by_cases hlt : k < n
    · obtain ⟨b, o, hA, hc⟩ := (HR.out.ext HEk.out).at_ k (by rw [← HN.out]; exact hlt)
      subst hA
      have hfz := HOk.out.frozenAt k
      have hst := Lib.hid (HOk.out.stored k (.int .i64 (xs.getD k 0)))
      rw [part0_set xs k (by rw [← HN.out]; exact hlt)] at hst
      have hcur := HOk.out.cellAt k (by omega)
      have hlen := part0_length xs k (by rw [← HN.out]; exact hk)
      have hcur2 : wr.cell? ⟨w.heap.size, k, none⟩ = some (.int .i64 ((part0 xs k).getD k 0)) := by
        rw [hcur]
        have : k < (part0 xs k).length := by rw [hlen, ← HN.out]; exact hlt
        simp [List.getD, this]
      clear hcur hlen
      have HN2 : Hid (k < n) := hlt
      go_wp2
      go_roundw
      case rel => exact ⟨k + 1, by omega, by go_num, hst.out.1, HEk.out.setCell (by simp) _⟩
      case measure => simp [intOf]; omega
    · obtain rfl : k = n := by omega
      go_wp2
      go_ret
      refine ⟨some ⟨w.heap.size, 0, none⟩, k, by rw [← HN.out]; rfl, ?_, HEk.out⟩
      have h := HOk.out
      have e : part0 xs k = xs := by rw [HN.out]; exact part0_all xs
      rw [e] at h
      unfold OwI
      rw [← HN.out]
      exact h

theorem getD_eq {xs : List Int} {k : Nat} (h : k < xs.length) : xs.getD k 0 = xs[k] := by simp [List.getD, h]

set_option maxHeartbeats 400000 in
/-- Two slices that read alike are equal. -/
theorem eqIntS_same (A B : Option Addr) (c d : Nat) (xs : List Int) (w : World) (ha : RdI w A xs) (hb : RdI w B xs) (hn : xs.length ≤ 9223372036854775806) :
    Calls Tryd.prog 10 #[.slice A xs.length c, .slice B xs.length d] w fun e w' => e = .returned (.bool true) ∧ ∃ k, w' = w.drewN k := by
  obtain ⟨n, hnn⟩ : ∃ n, n = xs.length := ⟨_, rfl⟩
  rw [← hnn] at hn ⊢
  have HN := Lib.hid hnn
  have HA := Lib.hid ha
  have HB := Lib.hid hb
  clear hnn ha hb
  go_enter Tryd.func10, Tryd.ntmps10
  go_wp2
  go_loopw [5] (fun i wr => ∃ k q : Nat, k ≤ n ∧ i = .int .i64 k ∧ wr = w.drewN q) (fun i _ => n - (intOf i).toNat)
  case atStart => exact ⟨0, 0, Nat.zero_le _, rfl, rfl⟩
  case round =>
    obtain ⟨k, q, hk, rfl, rfl⟩ := hrel
    by_cases hlt : k < n
    · obtain ⟨b, o, hA, hc⟩ := HA.out.at_ k (by rw [← HN.out]; exact hlt)
      obtain ⟨b2, o2, hB, hc2⟩ := HB.out.at_ k (by rw [← HN.out]; exact hlt)
      subst hA hB
      obtain ⟨x, hx⟩ : ∃ x, x = xs.getD k 0 := ⟨_, rfl⟩
      rw [← hx] at hc hc2
      clear hx
      go_wp2
      go_quiet (fail)
      go_wp2
      go_roundw
      case rel => exact ⟨k + 1, _, by omega, by go_num, rfl⟩
      case measure => simp [intOf]; omega
    · obtain rfl : k = n := by omega
      go_wp2
      go_ret
      exact ⟨rfl, q, rfl⟩

/-- k, k + 1, .. -/
def marks (k : Int) (n : Nat) : List Int := (List.range n).map fun i : Nat => k + (i : Int)
theorem marks_length (k : Int) (n : Nat) : (marks k n).length = n := by simp [marks]
theorem marks_getD (k : Int) (n i : Nat) (h : i < n) : (marks k n).getD i 0 = k + i := by simp [marks, List.getD, h]

/-- The first j cells are marked. -/
def markedTo (xs : List Int) (k : Int) (j : Nat) : List Int := marks k j ++ xs.drop j
theorem markedTo_length (xs : List Int) (k : Int) (j : Nat) (h : j ≤ xs.length) : (markedTo xs k j).length = xs.length := by simp [markedTo, marks]; omega
theorem markedTo_set (xs : List Int) (k : Int) (j : Nat) (h : j < xs.length) : ((markedTo xs k j).map (Value.int .i64)).set j (.int .i64 (k + j)) = (markedTo xs k (j + 1)).map (Value.int .i64) := by
  rw [← List.map_set]
  congr 1
  unfold markedTo
  rw [List.set_append_right _ _ (by simp [marks])]
  have e : marks k (j + 1) = marks k j ++ [k + (j : Int)] := by simp [marks, List.range_succ]
  rw [e, List.append_assoc, marks_length, Nat.sub_self]
  congr 1
  rw [List.drop_eq_getElem_cons h]
  rfl
theorem markedTo_all (xs : List Int) (k : Int) : markedTo xs k xs.length = marks k xs.length := by simp [markedTo]

set_option maxHeartbeats 400000 in
theorem markIntS_any (B : Nat) (A : Option Addr) (c : Nat) (xs : List Int) (k0 : Int) (w : World) (h : OwI w B A c xs) (h0 : 0 ≤ k0) (hn : k0 + xs.length ≤ 9223372036854775806) :
    Calls Tryd.prog 15 #[.slice A xs.length c, .int .i64 k0] w fun e w' => e = .returned (.int .i64 (k0 + xs.length)) ∧
      OwI w' B A c (marks k0 xs.length) ∧ w.grownBy w' (A.map (·.block)) := by
  obtain ⟨n, hnn⟩ : ∃ n, n = xs.length := ⟨_, rfl⟩
  rw [← hnn] at hn ⊢
  have HN := Lib.hid hnn
  have HO : Hid (w.ownsRow B 3 1 (.slice A n c) n (xs.map (Value.int .i64))) := by
    have h' := h
    unfold OwI at h'
    rw [← hnn] at h'
    exact h'
  clear hnn h
  go_enter Tryd.func15, Tryd.ntmps15
  go_wp2
  go_loopw [1, 5] (fun m i wr => ∃ k : Nat, k ≤ n ∧ i = .int .i64 k ∧ m = .int .i64 (k0 + k) ∧ Hid (wr.ownsRow B 3 1 (.slice A n c) n ((markedTo xs k0 k).map (Value.int .i64))) ∧ Hid (w.grownBy wr (A.map (·.block)))) (fun _ i _ => n - (intOf i).toNat)
  case atStart => exact ⟨0, Nat.zero_le _, rfl, by simp, by simpa [markedTo, marks] using HO, World.grownBy.refl _ _⟩
  case round =>
    obtain ⟨k, hk, rfl, rfl, HOk, HGk⟩ := hrel
    by_cases hlt : k < n
    · obtain ⟨g, hA⟩ : ∃ g, A = some ⟨g, 0, none⟩ := by
        rcases HOk.out.2 with ⟨e1, e2⟩ | ⟨g, cap, cur, e1, _⟩
        · omega
        · injection e1 with e1 _ _
          exact ⟨g, e1⟩
      subst hA
      have hfz := HOk.out.frozenAt k
      have hst := Lib.hid (HOk.out.stored k (.int .i64 (k0 + k)))
      rw [markedTo_set xs k0 k (by rw [← HN.out]; exact hlt)] at hst
      have hcur := HOk.out.cellAt k (by omega)
      have hlen := markedTo_length xs k0 k (by rw [← HN.out]; exact hk)
      have hcur2 : wr.cell? ⟨g, k, none⟩ = some (.int .i64 ((markedTo xs k0 k).getD k 0)) := by
        rw [hcur]
        have : k < (markedTo xs k0 k).length := by rw [hlen, ← HN.out]; exact hlt
        simp [List.getD, this]
      clear hcur hlen
      go_wp2
      go_roundw
      case rel =>
        refine ⟨k + 1, by omega, by go_num, by go_num, hst.out.1, ?_⟩
        have a := HGk.out
        have b := hst.out.2
        exact ⟨b.os.trans a.os, b.tape.trans a.tape, b.output.trans a.output, Nat.le_trans a.size b.size, fun i hi hne => (b.block i (Nat.lt_of_lt_of_le hi a.size) hne).trans (a.block i hi hne)⟩
      case measure => simp [intOf]; omega
    · obtain rfl : k = n := by omega
      go_wp2
      go_ret
      refine ⟨rfl, ?_, HGk.out⟩
      have h := HOk.out
      have e : markedTo xs k0 k = marks k0 k := by rw [HN.out]; exact markedTo_all xs k0
      rw [e] at h
      unfold OwI
      rw [marks_length]
      exact h

set_option maxHeartbeats 400000 in
theorem heldIntS_any (A : Option Addr) (c n : Nat) (k0 : Int) (w : World) (h : RdI w A (marks k0 n)) (h0 : 0 ≤ k0) (hn : k0 + n ≤ 9223372036854775806) :
    Calls Tryd.prog 16 #[.slice A n c, .int .i64 k0] w fun e w' => e = .returned (.int .i64 (k0 + n)) ∧ w = w' := by
  have HR := Lib.hid h
  clear h
  go_enter Tryd.func16, Tryd.ntmps16
  go_wp2
  go_loop [1, 5] (fun m i => ∃ k : Nat, k ≤ n ∧ i = .int .i64 k ∧ m = .int .i64 (k0 + k)) (fun _ i => n - (intOf i).toNat)
  case atStart => exact ⟨0, Nat.zero_le _, rfl, by simp⟩
  case round =>
    obtain ⟨k, hk, rfl, rfl⟩ := hrel
    by_cases hlt : k < n
    · obtain ⟨b, o, hA, hc⟩ := HR.out.at_ k (by rw [marks_length]; exact hlt)
      subst hA
      rw [marks_getD _ _ _ hlt] at hc
      go_wp2
      go_round
      case rel => exact ⟨k + 1, by omega, by go_num, by go_num⟩
      case measure => simp [intOf]; omega
    · obtain rfl : k = n := by omega
      go_wp2
      go_ret
      exact ⟨rfl, rfl⟩
end Go.Proofs.YtedfmjijemcpaaaDoor
