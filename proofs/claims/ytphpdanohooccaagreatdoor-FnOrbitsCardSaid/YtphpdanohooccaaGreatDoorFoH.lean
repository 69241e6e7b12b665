/- Contracts of text, FormatRhythm. -/
import Derived.Test.YtphpdanohooccaaGreatDoorFoG
import Derived.Test.YtphpdanohooccaaGreatDoorFoC
import Derived.Lib.SlBytesConst
namespace Go.Proofs.YtphpdanohooccaaGreatDoor
open Go.RowKit

/-- The row of bytes behind j beats. -/
def TxAt (n : Nat) (xs : List Int) (j : Nat) (cur : Array Value) : Prop := ∀ p, p < n → cur[p]? = some (.int .u8 (if (xs.take j).contains (p : Int) = true then 120 else 46))
theorem TxAt.start {n : Nat} (xs : List Int) {cur : List Value} (h : Dots cur n) : TxAt n xs 0 cur.toArray := fun p hp => by
  rw [List.take_zero]
  simpa using h p hp
theorem TxAt.more {n : Nat} {xs : List Int} {j : Nat} {cur : Array Value} {P : Nat} (h : TxAt n xs j cur) (hj : j < xs.length) (hP : P < n) (hx : xs.getD j 0 = (P : Int)) : TxAt n xs (j + 1) (cur.setIfInBounds P (.int .u8 120)) := fun p hp => by
  have hs : P < cur.size := (Array.getElem?_eq_some_iff.1 (h P hP)).1
  have e : (xs.take (j + 1)).contains (p : Int) = ((xs.take j).contains (p : Int) || decide (p = P)) := by
    rw [take_snoc xs j hj, hx, Bool.eq_iff_iff]
    simp only [List.contains_iff_mem, List.mem_append, List.mem_singleton, Bool.or_eq_true, decide_eq_true_eq]
    constructor
    · rintro (a | a)
      · exact Or.inl a
      · exact Or.inr (by omega)
    · rintro (a | a)
      · exact Or.inl a
      · exact Or.inr (by omega)
  rw [e, Array.getElem?_setIfInBounds]
  by_cases hpp : P = p
  · subst hpp
    rw [if_pos rfl, if_pos hs]
    simp
  · rw [if_neg hpp, h p hp, decide_eq_false (fun e2 => hpp e2.symm), Bool.or_false]
theorem txL_len (n : Nat) (xs : List Int) : (txL n xs).length = n := by unfold txL; simp
theorem TxAt.bytes {n g : Nat} {xs : List Int} {cur : Array Value} {w : World} (h : TxAt n xs xs.length cur) (hg : w.heap[g]? = some (.cells cur 5 (0, 0))) : Lib.Bytes w g 0 ⟨(txL n xs).toArray⟩ := fun i hi => by
  have hin : i < n := by
    have : (⟨(txL n xs).toArray⟩ : ByteArray).size = n := txL_len n xs
    omega
  rw [Nat.zero_add, cell_of_row w g i _ _ (0, 0) hg, h i hin, List.take_length]
  have e : (⟨(txL n xs).toArray⟩ : ByteArray)[i] = (txL n xs)[i]'(by rw [txL_len]; exact hin) := rfl
  rw [e]
  unfold txL
  rw [List.getElem_map, List.getElem_range]
  split <;> rfl
set_option maxRecDepth 20000 in
set_option maxHeartbeats 2000000 in
theorem tx_any (n : Nat) (A : Option Addr) (c : Nat) (xs : List Int) (w : World) (hr : RdI w A xs) (hb : rhyB n xs = true) :
    Calls Tryz.prog 42 #[.agg #[.int .i64 n, .slice A xs.length c]] w fun e w' => e = .returned (.string ⟨(txL n xs).toArray⟩) ∧ Ext w w' := by
  have hbi := rhyB_iff hb
  have hn := hbi.1
  obtain ⟨l, hll⟩ : ∃ l, l = xs.length := ⟨_, rfl⟩
  obtain ⟨S, hS⟩ : ∃ S : ByteArray, S = ⟨(txL n xs).toArray⟩ := ⟨_, rfl⟩
  have hSs : S.size = n := by rw [hS]; exact txL_len n xs
  have HX0 : Hid (Ext w (w.alloc (.cells #[.int .i64 n, .slice A l c] 25))) := (Ext.refl w).alloc _
  have HG0 := Lib.hid (Bx2.new w 25 (.int .i64 n) (.slice A l c))
  obtain ⟨W, hW⟩ : ∃ W, W = (w.alloc (.cells #[.int .i64 n, .slice A l c] 25)) := ⟨_, rfl⟩
  obtain ⟨V, hV⟩ : ∃ V, V = W.alloc (.cells #[.int .u8 46] 5 (1, 2)) := ⟨_, rfl⟩
  have hWs : W.heap.size = w.heap.size + 1 := by rw [hW]; simp
  have hkc : (convert 22 22 (.slice (some ⟨w.heap.size + 1, 0, none⟩) 1 1)).run Tryz.prog (W.alloc (.cells #[.int .u8 46] 5)) = .ok (.slice (some ⟨w.heap.size + 1, 0, none⟩) 1 1) V := by
    have := Lib.run_convert_bytes_const (P := Tryz.prog) W 22 5 #[.int .u8 46] 1 1 Tryz.underlying22 Tryz.underlying5
    rw [hWs] at this
    rw [hV]
    exact this
  have HXV : Hid (Ext W V) := by rw [hV]; exact (Ext.refl W).alloc _
  have HDV : Hid (V.cell? ⟨W.heap.size, 0, none⟩ = some (.int .u8 46)) := by rw [hV]; exact cell_of_row _ _ 0 _ _ (1, 2) (heap_alloc_new W _)
  have CR : Hid (Calls Tryz.prog 70 #[.slice (some ⟨W.heap.size, 0, none⟩) 1 1, .int .i64 n] V (RetDots V n)) := rep_any n _ 1 V (by omega) HDV.out
  have HB : Hid (∀ W2 g cur, TxAt n xs xs.length cur → W2.heap[g]? = some (.cells cur 5 (0, 0)) → (convert 22 9 (.slice (some ⟨g, 0, none⟩) n n)).run Tryz.prog W2 = .ok (.string S) W2) := fun W2 g cur h1 h2 => by
    have := Lib.run_convert_whole (P := Tryz.prog) W2 22 5 9 Tryz.underlying22 Tryz.underlying5 Tryz.underlying9 g 0 S (by rw [hS]; exact h1.bytes h2) n
    rwa [hSs] at this
  have HV0 : Hid (∀ j, j < xs.length → 0 ≤ xs.getD j 0 ∧ xs.getD j 0 ≤ n - 1) := fun j hj => (hbi.2 j hj).1
  have hl24 : l ≤ 24 := by rw [hll]; exact rhy_short hb
  have HR := Lib.hid hr
  have HL := Lib.hid hll
  rw [← hW] at HX0 HG0
  rw [← hll, ← hS]
  have HGV := Lib.hid (HG0.out.ext HXV.out)
  rw [hWs] at CR
  clear hll hr hV hb hbi hS hSs HDV
  obtain ⟨q0, q1, p0, p1⟩ := HGV.out.cells
  clear p0 p1
  rw [hW] at hkc
  clear hW
  go_enter Tryz.func42, Tryz.ntmps42
  go_wp2_with fail
  refine CR.out.mono ?_
  rintro e w2 ⟨g, cur0, rfl, hgv, hh, _, hd, he⟩
  have HWV : Hid (w.heap.size < V.heap.size) := Nat.lt_of_lt_of_le (by rw [hWs]; exact Nat.lt_succ_self _ : w.heap.size < W.heap.size) HXV.out.size
  have HX2 : Hid (Ext w w2) := (HX0.out.trans HXV.out).trans he
  have HG2 := Lib.hid (HGV.out.ext he)
  have HH := Lib.hid hh
  have HD := Lib.hid (TxAt.start xs hd)
  have hgw : w.heap.size < g := by have := HWV.out; omega
  clear hh hd he hgv q0 q1 CR HX0 HG0 HXV HGV hkc
  obtain ⟨q0, q1, p0, p1⟩ := HG2.out.cells
  clear p0 p1
  go_wp2_with fail
  clear q0 q1 HG2
  go_loopw [14] (fun i wr => ∃ (j : Nat) (cur : Array Value), j ≤ l ∧ i = .int .i64 j ∧ Hid (wr.heap[g]? = some (.cells cur 5 (0, 0))) ∧ Hid (TxAt n xs j cur) ∧ Hid (Ext w wr)) (fun i _ => l - (intOf i).toNat)
  case atStart => exact ⟨0, _, Nat.zero_le _, rfl, HH.out, HD.out, HX2.out⟩
  case round =>
    clear HH HD HX2
    obtain ⟨j, cur, hj, rfl, HH, HD, HE⟩ := hrel
    by_cases hlt : j < l
    · have hjx : j < xs.length := by rw [← HL.out]; exact hlt
      obtain ⟨b, o, hA, hc⟩ := (HR.out.ext HE.out).at_ j hjx
      have hpb := HV0.out j hjx
      obtain ⟨P, hP⟩ := Int.eq_ofNat_of_zero_le hpb.1
      have HN := Lib.hid (HD.out.more hjx (P := P) (by omega) hP)
      rw [hP] at hc hpb
      have hPn : P < n := by omega
      have hPz : (P : Int) < (n : Int) := by omega
      have hpc := (cell_of_row _ g P _ _ (0, 0) HH.out).trans (HD.out P hPn)
      have hpf := frozen_of_row _ g P _ _ HH.out
      have HH2 := Lib.hid (heap_setCell_same wr g P _ _ (.int .u8 120) HH.out)
      have HE2 := Lib.hid (HE.out.setCell (p := ⟨g, P, none⟩) (by simp only []; omega) (.int .u8 120))
      subst hA
      clear hP hjx hpb
      go_wp2_with fail
      go_roundw
      case rel => exact ⟨j + 1, _, by omega, by go_num, HH2.out, HN.out, HE2.out⟩
      case measure => simp [intOf]; omega
    · obtain rfl : j = l := by omega
      have hcv := HB.out wr g cur (by rw [← HL.out]; exact HD.out) HH.out
      go_wp2_with fail
      go_ret
      exact ⟨rfl, HE.out⟩
theorem fr_any (n : Nat) (A : Option Addr) (c : Nat) (xs : List Int) (w : World) (hr : RdI w A xs) (hb : rhyB n xs = true) :
    Calls Tryz.prog 16 #[.agg #[.int .i64 n, .slice A xs.length c]] w fun e w' => e = .returned (.string ⟨(txL n xs).toArray⟩) ∧ Ext w w' := by
  have hxl := rhy_short hb
  obtain ⟨l, hll⟩ : ∃ l, l = xs.length := ⟨_, rfl⟩
  obtain ⟨S, hS⟩ : ∃ S : ByteArray, S = ⟨(txL n xs).toArray⟩ := ⟨_, rfl⟩
  have CO : Hid (∀ W : World, Ext w W → Calls Tryz.prog 28 #[.agg #[.int .i64 n, .slice A l c]] W fun e w' => e = .returned (.bool true) ∧ Ext W w') := fun W he => by rw [hll, ← hb]; exact rhyI_any A c n xs W (hr.ext he) (by omega)
  have CT : Hid (∀ W : World, Ext w W → Calls Tryz.prog 42 #[.agg #[.int .i64 n, .slice A l c]] W fun e w' => e = .returned (.string S) ∧ Ext W w') := fun W he => by rw [hll, hS]; exact tx_any n A c xs W (hr.ext he) hb
  have HX0 : Hid (Ext w (w.alloc (.cells #[.int .i64 n, .slice A l c] 25))) := (Ext.refl w).alloc _
  have HG0 := Lib.hid (Bx2.new w 25 (.int .i64 n) (.slice A l c))
  rw [← hll, ← hS]
  clear hll hr hb hxl hS
  obtain ⟨q0, q1, p0, p1⟩ := HG0.out.cells
  clear p0 p1
  go_enter Tryz.func16, Tryz.ntmps16
  go_wp2_with fail
  refine (CO.out _ HX0.out).mono ?_
  rintro e w1 ⟨rfl, e1⟩
  have HX1 := Lib.hid (HX0.out.trans e1)
  have HG1 := Lib.hid (HG0.out.ext e1)
  clear e1 q0 q1
  obtain ⟨q0, q1, p0, p1⟩ := HG1.out.cells
  clear p0 p1
  go_wp2_with fail
  refine (CT.out _ HX1.out).mono ?_
  rintro e w2 ⟨rfl, e2⟩
  have HX2 := Lib.hid (HX1.out.trans e2)
  clear e2
  go_wp2_with fail
  go_ret
  exact ⟨rfl, HX2.out⟩
end Go.Proofs.YtphpdanohooccaaGreatDoor
