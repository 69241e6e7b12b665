/- What the laws' walks say of memory: 'Fr L U w w'': outside the blocks from L up to U nothing that was there has turned; 'OwnS w L U v xs': the slice of ints v reads as xs and lies in a block from L up to U. -/
import Derived.Test.YtphpdanohooccaaGreatDoorInts
namespace Go.Proofs.YtphpdanohooccaaGreatDoor
open Go.RowKit

structure Fr (L U : Nat) (w w' : World) : Prop where
  os : w'.os = w.os
  tape : w'.tape = w.tape
  output : w'.output = w.output
  size : w.heap.size ≤ w'.heap.size
  block : ∀ k, k < w.heap.size → (k < L ∨ U ≤ k) → w'.heap[k]? = w.heap[k]?

theorem Ext.fr {w w' : World} (h : Ext w w') : Fr 0 0 w w' := ⟨h.os, h.tape, h.output, Below.size h, fun k hk _ => h.block k hk⟩
theorem Fr.refl (L U : Nat) (w : World) : Fr L U w w := ⟨rfl, rfl, rfl, Nat.le_refl _, fun _ _ _ => rfl⟩
theorem Fr.trans {L U : Nat} {a b c : World} (h : Fr L U a b) (k : Fr L U b c) : Fr L U a c :=
  ⟨k.os.trans h.os, k.tape.trans h.tape, k.output.trans h.output, Nat.le_trans h.size k.size, fun i hi hn => (k.block i (Nat.lt_of_lt_of_le hi h.size) hn).trans (h.block i hi hn)⟩
theorem Fr.mono {L U L' U' : Nat} {a b : World} (h : Fr L U a b) (h1 : L' ≤ L) (h2 : U ≤ U') : Fr L' U' a b :=
  ⟨h.os, h.tape, h.output, h.size, fun i hi hn => h.block i hi (by omega)⟩
theorem Ext.then_fr {a w w' : World} {L U : Nat} (h : Ext a w) (f : Fr L U w w') (hL : a.heap.size ≤ L) : Ext a w' :=
  Below.trans h ⟨f.os, f.tape, f.output, f.size, fun k hk => f.block k (Nat.lt_of_lt_of_le hk h.size) (Or.inl (Nat.lt_of_lt_of_le hk hL))⟩
theorem Fr.of_row {w w' : World} {A : Option Addr} {L U : Nat} (hg : w.grownBy w' (A.map (·.block))) (hA : ∀ a, A = some a → L ≤ a.block ∧ a.block < U) : Fr L U w w' :=
  ⟨hg.os, hg.tape, hg.output, hg.size, fun k hk hn => hg.block k hk (fun e => by
    cases A with
    | none => simp at e
    | some a => simp at e; have := hA a rfl; omega)⟩

theorem Fr.cell {L U : Nat} {w w' : World} (f : Fr L U w w') {p : Addr} {u : Value} (h : w.cell? p = some u) (hn : p.block < L ∨ U ≤ p.block) : w'.cell? p = some u :=
  (World.cell?_of_block (f.block p.block (World.block_lt_of_cell? w p h) hn)).trans h

/-- The cells of a struct of two cells that has just been boxed. -/
theorem box2 (w : World) (n : Nat) (a b : Value) (t : TypeId) (h : w.heap.size = n) : (w.alloc (.cells #[a, b] t)).cell? ⟨n, 0, none⟩ = some a ∧ (w.alloc (.cells #[a, b] t)).cell? ⟨n, 1, none⟩ = some b := by
  subst h
  exact ⟨cell_of_row _ _ 0 #[a, b] t (0, 0) (heap_alloc_new w _), cell_of_row _ _ 1 #[a, b] t (0, 0) (heap_alloc_new w _)⟩

/-- A slice of ints in a block of its own, from L up to U. -/
def OwnS (w : World) (L U : Nat) (v : Value) (xs : List Int) : Prop :=
  ∃ A c, v = .slice A xs.length c ∧ OwI w L A c xs ∧ (∀ a, A = some a → a.block < U) ∧ U ≤ w.heap.size

theorem OwnS.fr {w w' : World} {L U L' U' : Nat} {v : Value} {xs : List Int} (h : OwnS w L U v xs) (f : Fr L' U' w w') (hd : U ≤ L' ∨ U' ≤ L) : OwnS w' L U v xs := by
  obtain ⟨A, c, rfl, ho, hb, hu⟩ := h
  refine ⟨A, c, rfl, ?_, hb, Nat.le_trans hu f.size⟩
  cases A with
  | none =>
    refine ⟨ho.1, ?_⟩
    rcases ho.2 with h | ⟨g, cap, cur, e, _⟩
    · exact Or.inl h
    · simp at e
  | some a =>
    have h1 := ho.lt a rfl
    have h2 := hb a rfl
    have hblk := f.block a.block h1.2 (by omega)
    refine ⟨ho.1, ?_⟩
    rcases ho.2 with h | ⟨g, cap, cur, e, h3, h4, h5⟩
    · exact Or.inl h
    · refine Or.inr ⟨g, cap, cur, e, h3, ?_, h5⟩
      injection e with e1 _ _
      injection e1 with e1
      subst e1
      rw [hblk]
      exact h4
theorem OwnS.rd {w : World} {L U : Nat} {v : Value} {xs : List Int} (h : OwnS w L U v xs) : ∃ A c, v = .slice A xs.length c ∧ RdI w A xs := by
  obtain ⟨A, c, rfl, ho, _⟩ := h
  exact ⟨A, c, rfl, ho.rd⟩

/-- A function that answers a fresh slice of ints. -/
def RetS (w : World) (xs : List Int) (e : Ending) (w' : World) : Prop := ∃ v, e = .returned v ∧ OwnS w' w.heap.size w'.heap.size v xs ∧ Ext w w'
theorem RetI.own {w w' : World} {xs : List Int} {e : Ending} (h : RetI w xs e w') : RetS w xs e w' := by
  obtain ⟨A, c, rfl, ho, he⟩ := h
  exact ⟨_, rfl, ⟨A, c, rfl, ho, fun a ha => (ho.lt a ha).2, Nat.le_refl _⟩, he⟩
/-- .. and a bool beside it. -/
def RetSB (w : World) (xs : List Int) (b : Bool) (e : Ending) (w' : World) : Prop := ∃ v, e = .returned (.tuple #[v, .bool b]) ∧ OwnS w' w.heap.size w'.heap.size v xs ∧ Ext w w'
theorem RetIB.own {w w' : World} {xs : List Int} {b : Bool} {e : Ending} (h : RetIB w xs b e w') : RetSB w xs b e w' := by
  obtain ⟨A, c, rfl, ho, he⟩ := h
  exact ⟨_, rfl, ⟨A, c, rfl, ho, fun a ha => (ho.lt a ha).2, Nat.le_refl _⟩, he⟩

def szS (xs : List Int) : Nat := xs.length
def mkS (xs : List Int) (k : Int) : List Int := marks k xs.length
end Go.Proofs.YtphpdanohooccaaGreatDoor

/- Contract of slices.Equal at []int. -/
namespace Go.Proofs.YtphpdanohooccaaGreatDoor
open Go.RowKit

set_option maxHeartbeats 1000000 in
theorem equal_any (A B : Option Addr) (c d : Nat) (xs ys : List Int) (w : World) (ha : RdI w A xs) (hb : RdI w B ys) (hn : xs.length ≤ 9223372036854775807) (_hm : ys.length ≤ 9223372036854775807) :
    Calls Tryz.prog 54 #[.slice A xs.length c, .slice B ys.length d] w fun e w' => e = .returned (.bool (decide (xs = ys))) ∧ Ext w w' := by
  by_cases hl : xs.length = ys.length
  · obtain ⟨n, hnn⟩ : ∃ n, n = xs.length := ⟨_, rfl⟩
    rw [← hl, ← hnn]
    rw [← hnn] at hn
    have hmm : n = ys.length := by rw [hnn, hl]
    obtain ⟨R, hR⟩ : ∃ R, R = decide (xs = ys) := ⟨_, rfl⟩
    rw [← hR]
    have HN := Lib.hid hnn
    have HM := Lib.hid hmm
    have HA := Lib.hid ha
    have HB := Lib.hid hb
    have HR := Lib.hid hR
    clear hnn hmm ha hb hl hR
    go_enter Tryz.func54, Tryz.ntmps54
    go_wp2
    go_loopw [13] (fun i wr => ∃ k : Nat, k ≤ n ∧ i = .int .i64 k ∧ Hid (∀ j, j < k → xs.getD j 0 = ys.getD j 0) ∧ Hid (Ext w wr)) (fun i _ => n - (intOf i).toNat)
    case atStart => exact ⟨0, Nat.zero_le _, rfl, fun j hj => absurd hj (by omega), Ext.refl w⟩
    case round =>
      obtain ⟨k, hk, rfl, HJ, HE⟩ := hrel
      by_cases hlt : k < n
      · have hkx : k < xs.length := by rw [← HN.out]; exact hlt
        have hky : k < ys.length := by rw [← HM.out]; exact hlt
        obtain ⟨b, o, hA, hc⟩ := (HA.out.ext HE.out).at_ k hkx
        subst hA
        obtain ⟨b2, o2, hB, hc2⟩ := (HB.out.ext HE.out).at_ k hky
        subst hB
        obtain ⟨x, hx⟩ : ∃ x, x = xs.getD k 0 := ⟨_, rfl⟩
        obtain ⟨y, hy⟩ : ∃ y, y = ys.getD k 0 := ⟨_, rfl⟩
        rw [← hx] at hc
        rw [← hy] at hc2
        have HX := Lib.hid hx
        have HY := Lib.hid hy
        clear hx hy hkx hky
        by_cases hxy : x = y
        · subst hxy
          go_wp2
          go_quiet (fail)
          go_wp2
          go_roundw
          case rel =>
            refine ⟨k + 1, by omega, by go_num, fun j hj => ?_, HE.out.drewN _⟩
            by_cases hjk : j < k
            · exact HJ.out j hjk
            · obtain rfl : j = k := by omega
              rw [← HX.out, ← HY.out]
          case measure => simp [intOf]; omega
        · have HRF : Hid (R = false) := by
            rw [HR.out]
            refine (decide_eq_false fun e => hxy ?_ : decide (xs = ys) = false)
            rw [HX.out, HY.out, e]
          have hne : (x != y) = true := by simpa using hxy
          go_wp2
          go_quiet (fail)
          go_wp2
          go_ret
          exact ⟨ret_bool HRF.out.symm, HE.out.drewN _⟩
      · obtain rfl : k = n := by omega
        have HRT : Hid (R = true) := by
          rw [HR.out]
          refine (decide_eq_true ?_ : decide (xs = ys) = true)
          apply List.ext_getElem
          · rw [← HN.out, HM.out]
          · intro j h1 h2
            have := HJ.out j (by rw [HN.out]; exact h1)
            simpa [List.getD, h1, h2] using this
        go_wp2
        go_ret
        exact ⟨ret_bool HRT.out.symm, HE.out⟩
  · have e : decide (xs = ys) = false := decide_eq_false fun e => hl (by rw [e])
    rw [e]
    have hl2 : ¬ (xs.length : Int) = ys.length := by omega
    obtain ⟨n, hnn⟩ : ∃ n, n = xs.length := ⟨_, rfl⟩
    obtain ⟨m, hmm⟩ : ∃ m, m = ys.length := ⟨_, rfl⟩
    rw [← hnn, ← hmm] at hl2 ⊢
    rw [← hnn] at hn
    clear e hl ha hb hnn hmm
    go_enter Tryz.func54, Tryz.ntmps54
    go_wp2
    go_ret
    exact ⟨rfl, Ext.refl w⟩

end Go.Proofs.YtphpdanohooccaaGreatDoor
