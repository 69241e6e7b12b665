/- A rhythm (a struct: its size, its beats): contracts of RhythmOk. -/
import Derived.Test.YtphpdanohooccaaGreatDoorInts
namespace Go.Proofs.YtphpdanohooccaaGreatDoor
open Go.RowKit

/-- Block g is just these two cells. -/
def Bx2 (w : World) (g : Nat) (t : TypeId) (a b : Value) : Prop := w.heap[g]? = some (.cells #[a, b] t (0, 0))
theorem Bx2.ext {w w' : World} {g : Nat} {t : TypeId} {a b : Value} (h : Bx2 w g t a b) (he : Ext w w') : Bx2 w' g t a b :=
  (Below.block he g (Array.getElem?_eq_some_iff.1 h).1).trans h
theorem Bx2.cells {w : World} {g : Nat} {t : TypeId} {a b : Value} (h : Bx2 w g t a b) :
    w.cell? ⟨g, 0, none⟩ = some a ∧ w.cell? ⟨g, 1, none⟩ = some b ∧ w.frozen? ⟨g, 0, none⟩ = false ∧ w.frozen? ⟨g, 1, none⟩ = false :=
  ⟨cell_of_row w g 0 _ _ (0, 0) h, cell_of_row w g 1 _ _ (0, 0) h, frozen_of_row w g 0 _ _ h, frozen_of_row w g 1 _ _ h⟩
theorem Bx2.new (w : World) (t : TypeId) (a b : Value) : Bx2 (w.alloc (.cells #[a, b] t)) w.heap.size t a b := heap_alloc_new w _
theorem Bx2.far {w : World} {g : Nat} {t : TypeId} {a b : Value} (h : Bx2 w g t a b) {p : Addr} (hp : g ≠ p.block) (u : Value) : Bx2 (w.setCell p u) g t a b := (Below.heap_setCell w p u g hp).trans h
theorem Bx2.set0 {w : World} {g : Nat} {t : TypeId} {a b : Value} (h : Bx2 w g t a b) (c : Value) : Bx2 (w.setCell ⟨g, 0, none⟩ c) g t c b := heap_setCell_same w g 0 _ _ _ h
theorem Bx2.set1 {w : World} {g : Nat} {t : TypeId} {a b : Value} (h : Bx2 w g t a b) (c : Value) : Bx2 (w.setCell ⟨g, 1, none⟩ c) g t a c := heap_setCell_same w g 1 _ _ _ h
theorem Bx2.lt {w : World} {g : Nat} {t : TypeId} {a b : Value} (h : Bx2 w g t a b) : g < w.heap.size := (Array.getElem?_eq_some_iff.1 h).1

/-- The beat at place j is good. -/
def okJ (n : Int) (xs : List Int) (j : Nat) : Bool := inB (xs.getD j 0) 0 (n - 1) && (decide (j = 0) || decide (xs.getD (j - 1) 0 < xs.getD j 0))
/-- A rhythm is valid. -/
def rhyB (n : Int) (xs : List Int) : Bool := inB n 1 24 && (List.range xs.length).all (okJ n xs)
theorem rhyB_of {n : Int} {xs : List Int} (h : inB n 1 24 = true) (k : ∀ j, j < xs.length → okJ n xs j = true) : rhyB n xs = true := by
  unfold rhyB
  rw [h, Bool.true_and, List.all_eq_true]
  exact fun j hj => k j (List.mem_range.1 hj)
theorem rhyB_no {n : Int} {xs : List Int} {j : Nat} (hj : j < xs.length) (k : okJ n xs j = false) : rhyB n xs = false := by
  unfold rhyB
  rw [← Bool.not_eq_true, Bool.and_eq_true, List.all_eq_true]
  rintro ⟨_, ha⟩
  rw [ha j (List.mem_range.2 hj)] at k
  cases k
theorem rhyB_iff {n : Int} {xs : List Int} (h : rhyB n xs = true) : (1 ≤ n ∧ n ≤ 24) ∧ ∀ j, j < xs.length → (0 ≤ xs.getD j 0 ∧ xs.getD j 0 ≤ n - 1) ∧ (0 < j → xs.getD (j - 1) 0 < xs.getD j 0) := by
  unfold rhyB at h
  simp only [Bool.and_eq_true, List.all_eq_true] at h
  refine ⟨inB_iff.1 h.1, fun j hj => ?_⟩
  have := h.2 j (List.mem_range.2 hj)
  unfold okJ at this
  simp only [Bool.and_eq_true, Bool.or_eq_true, decide_eq_true_eq] at this
  exact ⟨inB_iff.1 this.1, fun h0 => by rcases this.2 with h1 | h1; omega; exact h1⟩

set_option maxHeartbeats 2000000 in
theorem rhyI_good (A : Option Addr) (c : Nat) (n : Int) (xs : List Int) (w : World) (hr : RdI w A xs) (hn : inB n 1 24 = true) (hl : xs.length ≤ 1099511627776) :
    Calls Tryz.prog 28 #[.agg #[.int .i64 n, .slice A xs.length c]] w fun e w' => e = .returned (.bool (rhyB n xs)) ∧ Ext w w' := by
  obtain ⟨l, hll⟩ : ∃ l, l = xs.length := ⟨_, rfl⟩
  obtain ⟨R, hR⟩ : ∃ R, R = rhyB n xs := ⟨_, rfl⟩
  rw [← hll, ← hR]
  rw [← hll] at hl
  have HL := Lib.hid hll
  have HB := Lib.hid hR
  have HR := Lib.hid hr
  have hn' := inB_iff.1 hn
  have HX0 : Hid (Ext w (w.alloc (.cells #[.int .i64 n, .slice A l c] 25))) := (Ext.refl w).alloc _
  have HG0 := Lib.hid (Bx2.new w 25 (.int .i64 n) (.slice A l c))
  clear hll hR hr
  go_enter Tryz.func28, Tryz.ntmps28
  go_wp2_with (go_at_call 35; refine (within_any _ _ _ _).mono ?_; rintro e w' ⟨rfl, rfl⟩)
  go_loopw [8] (fun i wr => ∃ k : Nat, k ≤ l ∧ i = .int .i64 k ∧ Hid (∀ j, j < k → okJ n xs j = true) ∧ Hid (Bx2 wr w.heap.size 25 (.int .i64 n) (.slice A l c)) ∧ Hid (Ext w wr)) (fun i _ => l - (intOf i).toNat)
  case atStart => exact ⟨0, Nat.zero_le _, rfl, fun j hj => absurd hj (by omega), HG0.out, HX0.out⟩
  case round =>
    obtain ⟨k, hk, rfl, HJ, HG, HE⟩ := hrel
    obtain ⟨q0, q1, p0, p1⟩ := HG.out.cells
    by_cases hlt : k < l
    · have hkx : k < xs.length := by rw [← HL.out]; exact hlt
      obtain ⟨b, o, hA, hc⟩ := (HR.out.ext HE.out).at_ k hkx
      obtain ⟨x, hx⟩ : ∃ x, x = xs.getD k 0 := ⟨_, rfl⟩
      rw [← hx] at hc
      have hprev : 0 < k → wr.cell? ⟨b, o + (k - 1), none⟩ = some (.int .i64 (xs.getD (k - 1) 0)) := by
        intro h0
        obtain ⟨b', o', e', hc'⟩ := (HR.out.ext HE.out).at_ (k - 1) (by omega)
        rw [hA] at e'
        injection e' with e'
        injection e' with e1 e2 _
        subst e1 e2
        exact hc'
      subst hA
      have HX := Lib.hid hx
      have HKX := Lib.hid hkx
      clear hx hkx
      by_cases h1 : inB x 0 (n - 1) = true
      · by_cases h0 : k = 0
        · have HNX : Hid (okJ n xs k = true) := by unfold okJ; rw [← HX.out, h1, h0]; exact rfl
          subst h0
          rw [Nat.add_zero] at hc
          clear hprev
          go_wp2_with (go_at_call 35; refine (within_any _ _ _ _).mono ?_; rintro e w' ⟨rfl, rfl⟩)
          go_roundw
          case rel =>
            refine ⟨1, by omega, rfl, fun j hj => ?_, HG.out, HE.out⟩
            obtain rfl : j = 0 := by omega
            exact HNX.out
          case measure => simp [intOf]; omega
        · have h0' : (0 : Int) < k := by omega
          have hcp := hprev (by omega)
          obtain ⟨y, hy⟩ : ∃ y, y = xs.getD (k - 1) 0 := ⟨_, rfl⟩
          rw [← hy] at hcp
          have HY := Lib.hid hy
          have hk1 : ((k : Int) - 1).toNat = k - 1 := by omega
          have hk2 : (k : Int) - 1 < l := by omega
          have hk3 : (1 : Int) ≤ k := by omega
          clear hprev hy
          by_cases hxy : x ≤ y
          · have HBF : Hid (R = false) := by
              rw [HB.out]
              refine rhyB_no HKX.out ?_
              unfold okJ
              rw [← HX.out, ← HY.out, decide_eq_false (by omega : ¬ y < x), decide_eq_false h0]
              simp
            go_wp2_with (go_at_call 35; refine (within_any _ _ _ _).mono ?_; rintro e w' ⟨rfl, rfl⟩)
            go_ret
            exact ⟨ret_bool HBF.out.symm, HE.out⟩
          · have HNX : Hid (okJ n xs k = true) := by unfold okJ; rw [← HX.out, ← HY.out, h1, decide_eq_true (by omega : y < x)]; simp [Hid]
            go_wp2_with (go_at_call 35; refine (within_any _ _ _ _).mono ?_; rintro e w' ⟨rfl, rfl⟩)
            go_roundw
            case rel =>
              refine ⟨k + 1, by omega, by go_num, fun j hj => ?_, HG.out, HE.out⟩
              by_cases hjk : j < k
              · exact HJ.out j hjk
              · obtain rfl : j = k := by omega
                exact HNX.out
            case measure => simp [intOf]; omega
      · have h1 : inB x 0 (n - 1) = false := by simpa using h1
        have HBF : Hid (R = false) := by
          rw [HB.out]
          refine rhyB_no HKX.out ?_
          unfold okJ
          rw [← HX.out, h1]
          rfl
        clear hprev
        go_wp2_with (go_at_call 35; refine (within_any _ _ _ _).mono ?_; rintro e w' ⟨rfl, rfl⟩)
        go_ret
        exact ⟨ret_bool HBF.out.symm, HE.out⟩
    · obtain rfl : k = l := by omega
      have HBT : Hid (R = true) := by rw [HB.out]; exact rhyB_of hn (fun j hj => HJ.out j (by rw [HL.out]; exact hj))
      go_wp2_with (go_at_call 35; refine (within_any _ _ _ _).mono ?_; rintro e w' ⟨rfl, rfl⟩)
      go_ret
      exact ⟨ret_bool (by first | exact HBT.out.symm | (rw [HBT.out]; simp [hn])), HE.out⟩

theorem rhyB_size {n : Int} {xs : List Int} (h : inB n 1 24 = false) : rhyB n xs = false := by unfold rhyB; rw [h]; rfl

set_option maxHeartbeats 2000000 in
theorem rhyI_bad (A : Option Addr) (c : Nat) (n m : Int) (xs : List Int) (w : World) (hr : RdI w A xs) (hm : IntKind.i64.wrap (n - 1) = m) (hn : inB n 1 24 = false) (hl : xs.length ≤ 1099511627776) :
    Calls Tryz.prog 28 #[.agg #[.int .i64 n, .slice A xs.length c]] w fun e w' => e = .returned (.bool false) ∧ Ext w w' := by
  obtain ⟨l, hll⟩ : ∃ l, l = xs.length := ⟨_, rfl⟩
  rw [← hll] at hl ⊢
  have HL := Lib.hid hll
  have HR := Lib.hid hr
  have HX0 : Hid (Ext w (w.alloc (.cells #[.int .i64 n, .slice A l c] 25))) := (Ext.refl w).alloc _
  have HG0 := Lib.hid (Bx2.new w 25 (.int .i64 n) (.slice A l c))
  clear hll hr
  go_enter Tryz.func28, Tryz.ntmps28
  go_wp2_with (go_at_call 35; refine (within_any _ _ _ _).mono ?_; rintro e w' ⟨rfl, rfl⟩)
  go_loopw [8] (fun i wr => ∃ k : Nat, k ≤ l ∧ i = .int .i64 k ∧ Hid (Bx2 wr w.heap.size 25 (.int .i64 n) (.slice A l c)) ∧ Hid (Ext w wr)) (fun i _ => l - (intOf i).toNat)
  case atStart => exact ⟨0, Nat.zero_le _, rfl, HG0.out, HX0.out⟩
  case round =>
    obtain ⟨k, hk, rfl, HG, HE⟩ := hrel
    obtain ⟨q0, q1, p0, p1⟩ := HG.out.cells
    by_cases hlt : k < l
    · have hkx : k < xs.length := by rw [← HL.out]; exact hlt
      obtain ⟨b, o, hA, hc⟩ := (HR.out.ext HE.out).at_ k hkx
      obtain ⟨x, hx⟩ : ∃ x, x = xs.getD k 0 := ⟨_, rfl⟩
      rw [← hx] at hc
      have hprev : 0 < k → ∃ y, wr.cell? ⟨b, o + (k - 1), none⟩ = some (.int .i64 y) := by
        intro h0
        obtain ⟨b', o', e', hc'⟩ := (HR.out.ext HE.out).at_ (k - 1) (by omega)
        rw [hA] at e'
        injection e' with e'
        injection e' with e1 e2 _
        subst e1 e2
        exact ⟨_, hc'⟩
      subst hA
      clear hx hkx
      by_cases h1 : inB x 0 m = true
      · by_cases h0 : k = 0
        · subst h0
          rw [Nat.add_zero] at hc
          clear hprev
          go_wp2_with (go_at_call 35; refine (within_any _ _ _ _).mono ?_; rintro e w' ⟨rfl, rfl⟩)
          go_roundw
          case rel => exact ⟨1, by omega, rfl, HG.out, HE.out⟩
          case measure => simp [intOf]; omega
        · have h0' : (0 : Int) < k := by omega
          obtain ⟨y, hcp⟩ := hprev (by omega)
          have hk1 : ((k : Int) - 1).toNat = k - 1 := by omega
          have hk2 : (k : Int) - 1 < l := by omega
          have hk3 : (1 : Int) ≤ k := by omega
          clear hprev
          by_cases hxy : x ≤ y
          · go_wp2_with (go_at_call 35; refine (within_any _ _ _ _).mono ?_; rintro e w' ⟨rfl, rfl⟩)
            go_ret
            exact ⟨rfl, HE.out⟩
          · go_wp2_with (go_at_call 35; refine (within_any _ _ _ _).mono ?_; rintro e w' ⟨rfl, rfl⟩)
            go_roundw
            case rel => exact ⟨k + 1, by omega, by go_num, HG.out, HE.out⟩
            case measure => simp [intOf]; omega
      · have h1 : inB x 0 m = false := by simpa using h1
        clear hprev
        go_wp2_with (go_at_call 35; refine (within_any _ _ _ _).mono ?_; rintro e w' ⟨rfl, rfl⟩)
        go_ret
        exact ⟨rfl, HE.out⟩
    · obtain rfl : k = l := by omega
      go_wp2_with (go_at_call 35; refine (within_any _ _ _ _).mono ?_; rintro e w' ⟨rfl, rfl⟩)
      go_ret
      exact ⟨rfl, HE.out⟩

theorem rhyI_any (A : Option Addr) (c : Nat) (n : Int) (xs : List Int) (w : World) (hr : RdI w A xs) (hl : xs.length ≤ 1099511627776) :
    Calls Tryz.prog 28 #[.agg #[.int .i64 n, .slice A xs.length c]] w fun e w' => e = .returned (.bool (rhyB n xs)) ∧ Ext w w' := by
  by_cases h : inB n 1 24 = true
  · exact rhyI_good A c n xs w hr h hl
  · have h : inB n 1 24 = false := by simpa using h
    rw [rhyB_size h]
    exact (rhyI_bad A c n _ xs w hr rfl h hl)
end Go.Proofs.YtphpdanohooccaaGreatDoor

/- What a valid rhythm's beats are. -/
namespace Go.Proofs.YtphpdanohooccaaGreatDoor
open Go.RowKit

theorem rhyB_vals {n : Int} {xs : List Int} (h : rhyB n xs = true) : ∀ j, 0 ≤ xs.getD j 0 ∧ xs.getD j 0 ≤ 23 := by
  intro j
  by_cases hj : j < xs.length
  · have := (rhyB_iff h).1; have := ((rhyB_iff h).2 j hj).1; omega
  · have : xs.getD j 0 = 0 := by simp [List.getD, List.getElem?_eq_none (by omega : xs.length ≤ j)]
    omega
theorem rhyB_len {n : Int} {xs : List Int} (h : rhyB n xs = true) : (xs.length : Int) ≤ n := by
  have h0 := (rhyB_iff h).1
  have hj : ∀ j, j < xs.length → (j : Int) ≤ xs.getD j 0 := by
    intro j
    induction j with
    | zero => intro hj; have := ((rhyB_iff h).2 0 hj).1; omega
    | succ j ih =>
      intro hj
      have h1 := ih (by omega)
      have h2 := ((rhyB_iff h).2 (j + 1) hj).2 (by omega)
      simp only [Nat.add_sub_cancel] at h2
      omega
  by_cases hx : xs.length = 0
  · omega
  · have h1 := hj (xs.length - 1) (by omega)
    have h2 := ((rhyB_iff h).2 (xs.length - 1) (by omega)).1
    omega

end Go.Proofs.YtphpdanohooccaaGreatDoor

/- Two rhythms are valid and have one size: contracts of l05Two, sameSize. -/
namespace Go.Proofs.YtphpdanohooccaaGreatDoor
open Go.RowKit

def twoB (n : Int) (xs : List Int) (m : Int) (ys : List Int) : Bool := rhyB n xs && (rhyB m ys && decide (n = m))
theorem twoB_iff {n m : Int} {xs ys : List Int} : twoB n xs m ys = true ↔ rhyB n xs = true ∧ rhyB m ys = true ∧ n = m := by simp [twoB]

set_option maxHeartbeats 1000000 in
theorem twoI_any (n m : Int) (A B : Option Addr) (c d : Nat) (xs ys : List Int) (w : World) (hr : RdI w A xs) (hr2 : RdI w B ys) (hl : xs.length ≤ 1099511627776) (hl2 : ys.length ≤ 1099511627776) :
    Calls Tryz.prog 47 #[.agg #[.int .i64 n, .slice A xs.length c], .agg #[.int .i64 m, .slice B ys.length d]] w fun e w' => e = .returned (.bool (twoB n xs m ys)) ∧ Ext w w' := by
  obtain ⟨l, hll⟩ : ∃ l, l = xs.length := ⟨_, rfl⟩
  obtain ⟨k, hkk⟩ : ∃ k, k = ys.length := ⟨_, rfl⟩
  obtain ⟨W, hW⟩ : ∃ W, W = ((w.alloc (.cells #[.int .i64 n, .slice A l c] 25)).alloc (.cells #[.int .i64 m, .slice B k d] 25)) := ⟨_, rfl⟩
  have HX0 : Hid (Ext w W) := by rw [hW]; exact ((Ext.refl w).alloc _).alloc _
  have HG0 : Hid (Bx2 W w.heap.size 25 (.int .i64 n) (.slice A l c)) := by rw [hW]; exact (Bx2.new w _ _ _).ext ((Ext.refl _).alloc _)
  have HG1 : Hid (Bx2 W (w.heap.size + 1) 25 (.int .i64 m) (.slice B k d)) := by
    rw [hW]
    have := Bx2.new (w.alloc (.cells #[.int .i64 n, .slice A l c] 25)) 25 (.int .i64 m) (.slice B k d)
    rwa [show (w.alloc (.cells #[.int .i64 n, .slice A l c] 25)).heap.size = w.heap.size + 1 by simp] at this
  rw [← hll, ← hkk]
  obtain ⟨R, hR⟩ : ∃ R, R = twoB n xs m ys := ⟨_, rfl⟩
  rw [← hR]
  obtain ⟨b1, hb1⟩ : ∃ b1, b1 = rhyB n xs := ⟨_, rfl⟩
  obtain ⟨b2, hb2⟩ : ∃ b2, b2 = rhyB m ys := ⟨_, rfl⟩
  have C1 : Hid (∀ W', Ext w W' → Calls Tryz.prog 28 #[.agg #[.int .i64 n, .slice A l c]] W' fun e w' => e = .returned (.bool b1) ∧ Ext W' w') := fun W' he => by
    rw [hll, hb1]
    exact rhyI_any A c n xs W' (hr.ext he) hl
  have C2 : Hid (∀ W', Ext w W' → Calls Tryz.prog 28 #[.agg #[.int .i64 m, .slice B k d]] W' fun e w' => e = .returned (.bool b2) ∧ Ext W' w') := fun W' he => by
    rw [hkk, hb2]
    exact rhyI_any B d m ys W' (hr2.ext he) hl2
  have HRB : Hid (R = (b1 && (b2 && decide (n = m)))) := by rw [hR, hb1, hb2]; exact rfl
  clear hR hb1 hb2 hr hr2 hl hl2 hll hkk
  have HW := Lib.hid hW
  clear hW
  go_enter Tryz.func47, Tryz.ntmps47
  go_wp2_with fail
  rw [← HW.out]
  clear HW
  obtain ⟨q0, q1, p0, p1⟩ := HG0.out.cells
  obtain ⟨q2, q3, p2, p3⟩ := HG1.out.cells
  go_wp2_with fail
  refine (C1.out _ HX0.out).mono ?_
  rintro e w1 ⟨rfl, he1⟩
  have HX1 := Lib.hid (HX0.out.trans he1)
  have HG2 := Lib.hid (HG0.out.ext he1)
  have HG3 := Lib.hid (HG1.out.ext he1)
  clear q0 q1 p0 p1 q2 q3 p2 p3 he1 HG0 HG1
  cases b1
  · have HF : Hid (R = false) := HRB.out
    go_wp2_with fail
    go_ret
    exact ⟨ret_bool HF.out.symm, HX1.out⟩
  obtain ⟨q0, q1, p0, p1⟩ := HG2.out.cells
  obtain ⟨q2, q3, p2, p3⟩ := HG3.out.cells
  go_wp2_with fail
  refine (C2.out _ HX1.out).mono ?_
  rintro e w2 ⟨rfl, he2⟩
  have HX2 := Lib.hid (HX1.out.trans he2)
  have HG4 := Lib.hid (HG2.out.ext he2)
  have HG5 := Lib.hid (HG3.out.ext he2)
  clear q0 q1 p0 p1 q2 q3 p2 p3 he2 HG2 HG3
  cases b2
  · have HF : Hid (R = false) := HRB.out
    go_wp2_with fail
    go_ret
    exact ⟨ret_bool HF.out.symm, HX2.out⟩
  obtain ⟨q0, q1, p0, p1⟩ := HG4.out.cells
  obtain ⟨q2, q3, p2, p3⟩ := HG5.out.cells
  have HF : Hid (R = decide (n = m)) := HRB.out
  go_wp2_with fail
  go_ret
  exact ⟨ret_bool HF.out.symm, HX2.out⟩
end Go.Proofs.YtphpdanohooccaaGreatDoor
