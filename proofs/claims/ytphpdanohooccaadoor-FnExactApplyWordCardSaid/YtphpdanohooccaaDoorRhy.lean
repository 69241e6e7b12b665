/- A rhythm (a struct: its size, its beats): contracts of RhythmOk. -/
import Derived.Test.YtphpdanohooccaaDoorInts
namespace Go.Proofs.YtphpdanohooccaaDoor
open Go.RowKit

/-- Block g is just these two cells. -/
def Bx2 (w : World) (g : Nat) (t : TypeId) (a b : Value) : Prop := w.heap[g]? = some (.cells #[a, b] t (0, 0))
theorem Bx2.ext {w w' : World} {g : Nat} {t : TypeId} {a b : Value} (h : Bx2 w g t a b) (he : Ext w w') : Bx2 w' g t a b :=
  (Below.block he g (Array.getElem?_eq_some_iff.1 h).1).trans h
theorem Bx2.cells {w : World} {g : Nat} {t : TypeId} {a b : Value} (h : Bx2 w g t a b) :
    w.cell? ⟨g, 0, none⟩ = some a ∧ w.cell? ⟨g, 1, none⟩ = some b ∧ w.frozen? ⟨g, 0, none⟩ = false ∧ w.frozen? ⟨g, 1, none⟩ = false :=
  ⟨cell_of_row w g 0 _ _ (0, 0) h, cell_of_row w g 1 _ _ (0, 0) h, frozen_of_row w g 0 _ _ h, frozen_of_row w g 1 _ _ h⟩
theorem Bx2.new (w : World) (t : TypeId) (a b : Value) : Bx2 (w.alloc (.cells #[a, b] t)) w.heap.size t a b := heap_alloc_new w _
theorem Bx2.far {w : World} {g : Nat} {t : TypeId} {a b : Value} (h : Bx2 w g t a b) {p : Addr} (hp : g ≠ p.block) (u : Value) : Bx2 (w.setCell p u) g t a b := (Below.heap_setCell w p u g hp).trans h
theorem Bx2.set0 {w : World} {g : Nat} {t : TypeId} {a b : Value} (h : Bx2 w g t a b) (c : Value) : Bx2 (w.setCell ⟨g, 0, none⟩ c) g t c b := heap_setCell_same w g 0 _ _ _ h
theorem Bx2.set1 {w : World} {g : Nat} {t : TypeId} {a b : Value} (h : Bx2 w g t a b) (c : Value) : Bx2 (w.setCell ⟨g, 1, none⟩ c) g t a c := heap_setCell_same w g 1 _ _ _ h
theorem Bx2.lt {w : World} {g : Nat} {t : TypeId} {a b : Value} (h : Bx2 w g t a b) : g < w.heap.size := (Array.getElem?_eq_some_iff.1 h).1

/-- The beat at place j is good. -/
def okJ (n : Int) (xs : List Int) (j : Nat) : Bool := inB (xs.getD j 0) 0 (n - 1) && (decide (j = 0) || decide (xs.getD (j - 1) 0 < xs.getD j 0))
/-- A rhythm is valid. -/
def rhyB (n : Int) (xs : List Int) : Bool := inB n 1 24 && (List.range xs.length).all (okJ n xs)
theorem rhyB_of {n : Int} {xs : List Int} (h : inB n 1 24 = true) (k : ∀ j, j < xs.length → okJ n xs j = true) : rhyB n xs = true := by
  unfold rhyB
  rw [h, Bool.true_and, List.all_eq_true]
  exact fun j hj => k j (List.mem_range.1 hj)
theorem rhyB_no {n : Int} {xs : List Int} {j : Nat} (hj : j < xs.length) (k : okJ n xs j = false) : rhyB n xs = false := by
  unfold rhyB
  rw [← Bool.not_eq_true, Bool.and_eq_true, List.all_eq_true]
  rintro ⟨_, ha⟩
  rw [ha j (List.mem_range.2 hj)] at k
  cases k
theorem rhyB_iff {n : Int} {xs : List Int} (h : rhyB n xs = true) : (1 ≤ n ∧ n ≤ 24) ∧ ∀ j, j < xs.length → (0 ≤ xs.getD j 0 ∧ xs.getD j 0 ≤ n - 1) ∧ (0 < j → xs.getD (j - 1) 0 < xs.getD j 0) := by
  unfold rhyB at h
  simp only [Bool.and_eq_true, List.all_eq_true] at h
  refine ⟨inB_iff.1 h.1, fun j hj => ?_⟩
  have := h.2 j (List.mem_range.2 hj)
  unfold okJ at this
  simp only [Bool.and_eq_true, Bool.or_eq_true, decide_eq_true_eq] at this
  exact ⟨inB_iff.1 this.1, fun h0 => by rcases this.2 with h1 | h1; omega; exact h1⟩

set_option maxHeartbeats 2000000 in
theorem rhyS_good (A : Option Addr) (c : Nat) (n : Int) (xs : List Int) (w : World) (hr : RdI w A xs) (hn : inB n 1 24 = true) (hl : xs.length ≤ 1099511627776) :
    Calls Tryd.prog 12 #[.agg #[.int .i64 n, .slice A xs.length c]] w fun e w' => e = .returned (.bool (rhyB n xs)) ∧ Ext w w' := by
  obtain ⟨l, hll⟩ : ∃ l, l = xs.length := ⟨_, rfl⟩
  obtain ⟨R, hR⟩ : ∃ R, R = rhyB n xs := ⟨_, rfl⟩
  rw [← hll, ← hR]
  rw [← hll] at hl
  have HL := Lib.hid hll
  have HB := Lib.hid hR
  have HR := Lib.hid hr
  have hn' := inB_iff.1 hn
  have HX0 : Hid (Ext w (w.alloc (.cells #[.int .i64 n, .slice A l c] 26))) := (Ext.refl w).alloc _
  have HG0 := Lib.hid (Bx2.new w 26 (.int .i64 n) (.slice A l c))
  clear hll hR hr
  go_enter Tryd.func12, Tryd.ntmps12
  go_wp2_with (go_at_call 24; refine (l01In_any _ _ _ _).mono ?_; rintro e w' ⟨rfl, rfl⟩)
  go_loopw [12] (fun i wr => ∃ k : Nat, k ≤ l ∧ i = .int .i64 k ∧ Hid (∀ j, j < k → okJ n xs j = true) ∧ Hid (Bx2 wr w.heap.size 26 (.int .i64 n) (.slice A l c)) ∧ Hid (Ext w wr)) (fun i _ => l - (intOf i).toNat)
  case atStart => exact ⟨0, Nat.zero_le _, rfl, fun j hj => absurd hj (by omega), HG0.out, HX0.out⟩
  case round =>
    obtain ⟨k, hk, rfl, HJ, HG, HE⟩ := hrel
    obtain ⟨q0, q1, p0, p1⟩ := HG.out.cells
    by_cases hlt : k < l
    · have hkx : k < xs.length := by rw [← HL.out]; exact hlt
      obtain ⟨b, o, hA, hc⟩ := (HR.out.ext HE.out).at_ k hkx
      obtain ⟨x, hx⟩ : ∃ x, x = xs.getD k 0 := ⟨_, rfl⟩
      rw [← hx] at hc
      have hprev : 0 < k → wr.cell? ⟨b, o + (k - 1), none⟩ = some (.int .i64 (xs.getD (k - 1) 0)) := by
        intro h0
        obtain ⟨b', o', e', hc'⟩ := (HR.out.ext HE.out).at_ (k - 1) (by omega)
        rw [hA] at e'
        injection e' with e'
        injection e' with e1 e2 _
        subst e1 e2
        exact hc'
      subst hA
      have HX := Lib.hid hx
      have HKX := Lib.hid hkx
      clear hx hkx
      by_cases h1 : inB x 0 (n - 1) = true
      · by_cases h0 : k = 0
        · have HNX : Hid (okJ n xs k = true) := by unfold okJ; rw [← HX.out, h1, h0]; exact rfl
          subst h0
          rw [Nat.add_zero] at hc
          clear hprev
          go_wp2_with (go_at_call 24; refine (l01In_any _ _ _ _).mono ?_; rintro e w' ⟨rfl, rfl⟩)
          go_roundw
          case rel =>
            refine ⟨1, by omega, rfl, fun j hj => ?_, HG.out, HE.out⟩
            obtain rfl : j = 0 := by omega
            exact HNX.out
          case measure => simp [intOf]; omega
        · have h0' : (0 : Int) < k := by omega
          have hcp := hprev (by omega)
          obtain ⟨y, hy⟩ : ∃ y, y = xs.getD (k - 1) 0 := ⟨_, rfl⟩
          rw [← hy] at hcp
          have HY := Lib.hid hy
          have hk1 : ((k : Int) - 1).toNat = k - 1 := by omega
          have hk2 : (k : Int) - 1 < l := by omega
          have hk3 : (1 : Int) ≤ k := by omega
          clear hprev hy
          by_cases hxy : x ≤ y
          · have HBF : Hid (R = false) := by
              rw [HB.out]
              refine rhyB_no HKX.out ?_
              unfold okJ
              rw [← HX.out, ← HY.out, decide_eq_false (by omega : ¬ y < x), decide_eq_false h0]
              simp
            go_wp2_with (go_at_call 24; refine (l01In_any _ _ _ _).mono ?_; rintro e w' ⟨rfl, rfl⟩)
            go_ret
            exact ⟨ret_bool HBF.out.symm, HE.out⟩
          · have HNX : Hid (okJ n xs k = true) := by unfold okJ; rw [← HX.out, ← HY.out, h1, decide_eq_true (by omega : y < x)]; simp [Hid]
            go_wp2_with (go_at_call 24; refine (l01In_any _ _ _ _).mono ?_; rintro e w' ⟨rfl, rfl⟩)
            go_roundw
            case rel =>
              refine ⟨k + 1, by omega, by go_num, fun j hj => ?_, HG.out, HE.out⟩
              by_cases hjk : j < k
              · exact HJ.out j hjk
              · obtain rfl : j = k := by omega
                exact HNX.out
            case measure => simp [intOf]; omega
      · have h1 : inB x 0 (n - 1) = false := by simpa using h1
        have HBF : Hid (R = false) := by
          rw [HB.out]
          refine rhyB_no HKX.out ?_
          unfold okJ
          rw [← HX.out, h1]
          rfl
        clear hprev
        go_wp2_with (go_at_call 24; refine (l01In_any _ _ _ _).mono ?_; rintro e w' ⟨rfl, rfl⟩)
        go_ret
        exact ⟨ret_bool HBF.out.symm, HE.out⟩
    · obtain rfl : k = l := by omega
      have HBT : Hid (R = true) := by rw [HB.out]; exact rhyB_of hn (fun j hj => HJ.out j (by rw [HL.out]; exact hj))
      go_wp2_with (go_at_call 24; refine (l01In_any _ _ _ _).mono ?_; rintro e w' ⟨rfl, rfl⟩)
      go_ret
      exact ⟨ret_bool (by first | exact HBT.out.symm | (rw [HBT.out]; simp [hn])), HE.out⟩
set_option maxHeartbeats 2000000 in
theorem rhyI_good (A : Option Addr) (c : Nat) (n : Int) (xs : List Int) (w : World) (hr : RdI w A xs) (hn : inB n 1 24 = true) (hl : xs.length ≤ 1099511627776) :
    Calls Tryd.prog 16 #[.agg #[.int .i64 n, .slice A xs.length c]] w fun e w' => e = .returned (.bool (rhyB n xs)) ∧ Ext w w' := by
  obtain ⟨l, hll⟩ : ∃ l, l = xs.length := ⟨_, rfl⟩
  obtain ⟨R, hR⟩ : ∃ R, R = rhyB n xs := ⟨_, rfl⟩
  rw [← hll, ← hR]
  rw [← hll] at hl
  have HL := Lib.hid hll
  have HB := Lib.hid hR
  have HR := Lib.hid hr
  have hn' := inB_iff.1 hn
  have HX0 : Hid (Ext w (w.alloc (.cells #[.int .i64 n, .slice A l c] 26))) := (Ext.refl w).alloc _
  have HG0 := Lib.hid (Bx2.new w 26 (.int .i64 n) (.slice A l c))
  clear hll hR hr
  go_enter Tryd.func16, Tryd.ntmps16
  go_wp2_with (go_at_call 28; refine (within_any _ _ _ _).mono ?_; rintro e w' ⟨rfl, rfl⟩)
  go_loopw [8] (fun i wr => ∃ k : Nat, k ≤ l ∧ i = .int .i64 k ∧ Hid (∀ j, j < k → okJ n xs j = true) ∧ Hid (Bx2 wr w.heap.size 26 (.int .i64 n) (.slice A l c)) ∧ Hid (Ext w wr)) (fun i _ => l - (intOf i).toNat)
  case atStart => exact ⟨0, Nat.zero_le _, rfl, fun j hj => absurd hj (by omega), HG0.out, HX0.out⟩
  case round =>
    obtain ⟨k, hk, rfl, HJ, HG, HE⟩ := hrel
    obtain ⟨q0, q1, p0, p1⟩ := HG.out.cells
    by_cases hlt : k < l
    · have hkx : k < xs.length := by rw [← HL.out]; exact hlt
      obtain ⟨b, o, hA, hc⟩ := (HR.out.ext HE.out).at_ k hkx
      obtain ⟨x, hx⟩ : ∃ x, x = xs.getD k 0 := ⟨_, rfl⟩
      rw [← hx] at hc
      have hprev : 0 < k → wr.cell? ⟨b, o + (k - 1), none⟩ = some (.int .i64 (xs.getD (k - 1) 0)) := by
        intro h0
        obtain ⟨b', o', e', hc'⟩ := (HR.out.ext HE.out).at_ (k - 1) (by omega)
        rw [hA] at e'
        injection e' with e'
        injection e' with e1 e2 _
        subst e1 e2
        exact hc'
      subst hA
      have HX := Lib.hid hx
      have HKX := Lib.hid hkx
      clear hx hkx
      by_cases h1 : inB x 0 (n - 1) = true
      · by_cases h0 : k = 0
        · have HNX : Hid (okJ n xs k = true) := by unfold okJ; rw [← HX.out, h1, h0]; exact rfl
          subst h0
          rw [Nat.add_zero] at hc
          clear hprev
          go_wp2_with (go_at_call 28; refine (within_any _ _ _ _).mono ?_; rintro e w' ⟨rfl, rfl⟩)
          go_roundw
          case rel =>
            refine ⟨1, by omega, rfl, fun j hj => ?_, HG.out, HE.out⟩
            obtain rfl : j = 0 := by omega
            exact HNX.out
          case measure => simp [intOf]; omega
        · have h0' : (0 : Int) < k := by omega
          have hcp := hprev (by omega)
          obtain ⟨y, hy⟩ : ∃ y, y = xs.getD (k - 1) 0 := ⟨_, rfl⟩
          rw [← hy] at hcp
          have HY := Lib.hid hy
          have hk1 : ((k : Int) - 1).toNat = k - 1 := by omega
          have hk2 : (k : Int) - 1 < l := by omega
          have hk3 : (1 : Int) ≤ k := by omega
          clear hprev hy
          by_cases hxy : x ≤ y
          · have HBF : Hid (R = false) := by
              rw [HB.out]
              refine rhyB_no HKX.out ?_
              unfold okJ
              rw [← HX.out, ← HY.out, decide_eq_false (by omega : ¬ y < x), decide_eq_false h0]
              simp
            go_wp2_with (go_at_call 28; refine (within_any _ _ _ _).mono ?_; rintro e w' ⟨rfl, rfl⟩)
            go_ret
            exact ⟨ret_bool HBF.out.symm, HE.out⟩
          · have HNX : Hid (okJ n xs k = true) := by unfold okJ; rw [← HX.out, ← HY.out, h1, decide_eq_true (by omega : y < x)]; simp [Hid]
            go_wp2_with (go_at_call 28; refine (within_any _ _ _ _).mono ?_; rintro e w' ⟨rfl, rfl⟩)
            go_roundw
            case rel =>
              refine ⟨k + 1, by omega, by go_num, fun j hj => ?_, HG.out, HE.out⟩
              by_cases hjk : j < k
              · exact HJ.out j hjk
              · obtain rfl : j = k := by omega
                exact HNX.out
            case measure => simp [intOf]; omega
      · have h1 : inB x 0 (n - 1) = false := by simpa using h1
        have HBF : Hid (R = false) := by
          rw [HB.out]
          refine rhyB_no HKX.out ?_
          unfold okJ
          rw [← HX.out, h1]
          rfl
        clear hprev
        go_wp2_with (go_at_call 28; refine (within_any _ _ _ _).mono ?_; rintro e w' ⟨rfl, rfl⟩)
        go_ret
        exact ⟨ret_bool HBF.out.symm, HE.out⟩
    · obtain rfl : k = l := by omega
      have HBT : Hid (R = true) := by rw [HB.out]; exact rhyB_of hn (fun j hj => HJ.out j (by rw [HL.out]; exact hj))
      go_wp2_with (go_at_call 28; refine (within_any _ _ _ _).mono ?_; rintro e w' ⟨rfl, rfl⟩)
      go_ret
      exact ⟨ret_bool (by first | exact HBT.out.symm | (rw [HBT.out]; simp [hn])), HE.out⟩

theorem rhyB_size {n : Int} {xs : List Int} (h : inB n 1 24 = false) : rhyB n xs = false := by unfold rhyB; rw [h]; rfl

theorem rhyS_bad (A : Option Addr) (c l : Nat) (n : Int) (w : World) (hn : inB n 1 24 = false) :
    Calls Tryd.prog 12 #[.agg #[.int .i64 n, .slice A l c]] w fun e w' => e = .returned (.bool false) ∧ Ext w w' := by
  go_enter Tryd.func12, Tryd.ntmps12
  go_wp2_with (go_at_call 24; refine (l01In_any _ _ _ _).mono ?_; rintro e w' ⟨rfl, rfl⟩)
  go_ret
  exact ⟨rfl, (Ext.refl w).alloc _⟩
set_option maxHeartbeats 2000000 in
theorem rhyI_bad (A : Option Addr) (c : Nat) (n m : Int) (xs : List Int) (w : World) (hr : RdI w A xs) (hm : IntKind.i64.wrap (n - 1) = m) (hn : inB n 1 24 = false) (hl : xs.length ≤ 1099511627776) :
    Calls Tryd.prog 16 #[.agg #[.int .i64 n, .slice A xs.length c]] w fun e w' => e = .returned (.bool false) ∧ Ext w w' := by
  obtain ⟨l, hll⟩ : ∃ l, l = xs.length := ⟨_, rfl⟩
  rw [← hll] at hl ⊢
  have HL := Lib.hid hll
  have HR := Lib.hid hr
  have HX0 : Hid (Ext w (w.alloc (.cells #[.int .i64 n, .slice A l c] 26))) := (Ext.refl w).alloc _
  have HG0 := Lib.hid (Bx2.new w 26 (.int .i64 n) (.slice A l c))
  clear hll hr
  go_enter Tryd.func16, Tryd.ntmps16
  go_wp2_with (go_at_call 28; refine (within_any _ _ _ _).mono ?_; rintro e w' ⟨rfl, rfl⟩)
  go_loopw [8] (fun i wr => ∃ k : Nat, k ≤ l ∧ i = .int .i64 k ∧ Hid (Bx2 wr w.heap.size 26 (.int .i64 n) (.slice A l c)) ∧ Hid (Ext w wr)) (fun i _ => l - (intOf i).toNat)
  case atStart => exact ⟨0, Nat.zero_le _, rfl, HG0.out, HX0.out⟩
  case round =>
    obtain ⟨k, hk, rfl, HG, HE⟩ := hrel
    obtain ⟨q0, q1, p0, p1⟩ := HG.out.cells
    by_cases hlt : k < l
    · have hkx : k < xs.length := by rw [← HL.out]; exact hlt
      obtain ⟨b, o, hA, hc⟩ := (HR.out.ext HE.out).at_ k hkx
      obtain ⟨x, hx⟩ : ∃ x, x = xs.getD k 0 := ⟨_, rfl⟩
      rw [← hx] at hc
      have hprev : 0 < k → ∃ y, wr.cell? ⟨b, o + (k - 1), none⟩ = some (.int .i64 y) := by
        intro h0
        obtain ⟨b', o', e', hc'⟩ := (HR.out.ext HE.out).at_ (k - 1) (by omega)
        rw [hA] at e'
        injection e' with e'
        injection e' with e1 e2 _
        subst e1 e2
        exact ⟨_, hc'⟩
      subst hA
      clear hx hkx
      by_cases h1 : inB x 0 m = true
      · by_cases h0 : k = 0
        · subst h0
          rw [Nat.add_zero] at hc
          clear hprev
          go_wp2_with (go_at_call 28; refine (within_any _ _ _ _).mono ?_; rintro e w' ⟨rfl, rfl⟩)
          go_roundw
          case rel => exact ⟨1, by omega, rfl, HG.out, HE.out⟩
          case measure => simp [intOf]; omega
        · have h0' : (0 : Int) < k := by omega
          obtain ⟨y, hcp⟩ := hprev (by omega)
          have hk1 : ((k : Int) - 1).toNat = k - 1 := by omega
          have hk2 : (k : Int) - 1 < l := by omega
          have hk3 : (1 : Int) ≤ k := by omega
          clear hprev
          by_cases hxy : x ≤ y
          · go_wp2_with (go_at_call 28; refine (within_any _ _ _ _).mono ?_; rintro e w' ⟨rfl, rfl⟩)
            go_ret
            exact ⟨rfl, HE.out⟩
          · go_wp2_with (go_at_call 28; refine (within_any _ _ _ _).mono ?_; rintro e w' ⟨rfl, rfl⟩)
            go_roundw
            case rel => exact ⟨k + 1, by omega, by go_num, HG.out, HE.out⟩
            case measure => simp [intOf]; omega
      · have h1 : inB x 0 m = false := by simpa using h1
        clear hprev
        go_wp2_with (go_at_call 28; refine (within_any _ _ _ _).mono ?_; rintro e w' ⟨rfl, rfl⟩)
        go_ret
        exact ⟨rfl, HE.out⟩
    · obtain rfl : k = l := by omega
      go_wp2_with (go_at_call 28; refine (within_any _ _ _ _).mono ?_; rintro e w' ⟨rfl, rfl⟩)
      go_ret
      exact ⟨rfl, HE.out⟩

theorem rhyS_any (A : Option Addr) (c : Nat) (n : Int) (xs : List Int) (w : World) (hr : RdI w A xs) (hl : xs.length ≤ 1099511627776) :
    Calls Tryd.prog 12 #[.agg #[.int .i64 n, .slice A xs.length c]] w fun e w' => e = .returned (.bool (rhyB n xs)) ∧ Ext w w' := by
  by_cases h : inB n 1 24 = true
  · exact rhyS_good A c n xs w hr h hl
  · have h : inB n 1 24 = false := by simpa using h
    rw [rhyB_size h]
    exact (rhyS_bad A c _ n w h)
theorem rhyI_any (A : Option Addr) (c : Nat) (n : Int) (xs : List Int) (w : World) (hr : RdI w A xs) (hl : xs.length ≤ 1099511627776) :
    Calls Tryd.prog 16 #[.agg #[.int .i64 n, .slice A xs.length c]] w fun e w' => e = .returned (.bool (rhyB n xs)) ∧ Ext w w' := by
  by_cases h : inB n 1 24 = true
  · exact rhyI_good A c n xs w hr h hl
  · have h : inB n 1 24 = false := by simpa using h
    rw [rhyB_size h]
    exact (rhyI_bad A c n _ xs w hr rfl h hl)
end Go.Proofs.YtphpdanohooccaaDoor
