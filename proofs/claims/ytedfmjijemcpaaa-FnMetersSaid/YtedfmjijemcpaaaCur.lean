/- Contracts of the reference's cursor over the bytes of a code: l01New, l01Byte, l31New, MakeNum. Of what they answer only the range is said. -/
import Derived.Test.YtedfmjijemcpaaaBase
namespace Go.Proofs.Ytedfmjijemcpaaa
open Go.RowKit

/-- Block g is a cursor over the n bytes at A. -/
def Cur (w : World) (g : Nat) (A : Option Addr) (n c : Nat) : Prop :=
  ∃ i h : Int, w.heap[g]? = some (.cells #[.slice A n c, .int .i64 i, .int .i64 h] 71 (0, 0)) ∧ 0 ≤ i ∧ i ≤ n

theorem Cur.lt {w : World} {g : Nat} {A : Option Addr} {n c : Nat} (h : Cur w g A n c) : g < w.heap.size := by
  obtain ⟨i, h, e, _⟩ := h
  exact (Array.getElem?_eq_some_iff.1 e).1

theorem and255 (a : Int) : 0 ≤ bits .and .i64 a 255 ∧ bits .and .i64 a 255 ≤ 255 := by
  have hx : (BitVec.ofInt 64 a &&& BitVec.ofInt 64 255).toNat ≤ 255 := by
    rw [BitVec.toNat_and]
    exact Nat.and_le_right
  have e : bits .and .i64 a 255 = IntKind.i64.wrap ((BitVec.ofInt 64 a &&& BitVec.ofInt 64 255).toNat : Int) := rfl
  rw [e, IntKind.wrap_i64]
  omega

/-- What l01Byte leaves. -/
def RetByte (w : World) (g : Nat) (A : Option Addr) (n c : Nat) (e : Ending) (w' : World) : Prop :=
  (∃ x : Int, e = .returned (.int .i64 x) ∧ 0 ≤ x ∧ x ≤ 255) ∧ Cur w' g A n c ∧ w.grownBy w' (some g)

theorem grownBy_drewN {a w : World} {row : Option Nat} (h : a.grownBy w row) (n : Nat) : a.grownBy (w.drewN n) row := ⟨h.os, h.tape, h.output, h.size, h.block⟩
theorem grownBy_set {a w : World} {g : Nat} (h : a.grownBy w (some g)) (j : Nat) (u : Value) : a.grownBy (w.setCell ⟨g, j, none⟩ u) (some g) :=
  grown_trans h ⟨rfl, rfl, rfl, by simp, fun k _ hk => heap_setCell_other w ⟨g, j, none⟩ k u (fun e => hk (by simp [e]))⟩

theorem l01Byte_any (g n c : Nat) (A : Option Addr) (xs : List Int) (w : World) (hc : Cur w g A n c) (hr : Rd w 1 A n (xs.map (Value.int .u8))) (hn : n ≤ 1048576) (hA : ∀ a, A = some a → 0 < n → a.block < g) :
    Calls Try.prog 49 #[.pointer (some ⟨g, 0, none⟩)] w (RetByte w g A n c) := by
  obtain ⟨i, h, hb, hi0, hi1⟩ := hc
  have c0 : w.cell? ⟨g, 0, none⟩ = some (.slice A n c) := cell_of_row w g 0 _ _ (0, 0) hb
  have c1 : w.cell? ⟨g, 1, none⟩ = some (.int .i64 i) := cell_of_row w g 1 _ _ (0, 0) hb
  have c2 : w.cell? ⟨g, 2, none⟩ = some (.int .i64 h) := cell_of_row w g 2 _ _ (0, 0) hb
  have f1 : w.frozen? ⟨g, 1, none⟩ = false := frozen_of_row w g 1 _ _ hb
  have f2 : w.frozen? ⟨g, 2, none⟩ = false := frozen_of_row w g 2 _ _ hb
  by_cases hlt : i < n
  · obtain ⟨k, rfl⟩ := Int.eq_ofNat_of_zero_le hi0
    obtain ⟨b, o, u, rfl, hu, hcu⟩ := Rd.one hr k (by omega)
    have hxu : ∃ x, u = .int .u8 x := by
      rw [List.getElem?_map] at hu
      cases hx : xs[k]? with
      | none => rw [hx] at hu; simp at hu
      | some y => rw [hx] at hu; simp at hu; exact ⟨y, hu.symm⟩
    obtain ⟨x, rfl⟩ := hxu
    have hne : b ≠ g := by have := hA _ rfl (by omega); simp at this; omega
    have HR := Lib.hid hr
    have HB := Lib.hid hb
    have HA := Lib.hid hA
    clear hr hu hb hA
    go_enter Try.func49, Try.ntmps49
    go_wp2
    go_quiet (fail)
    go_wp2
    go_quiet (fail)
    go_wp2
    go_quiet (fail)
    go_wp2
    go_ret
    refine ⟨⟨_, rfl, and255 _⟩, ?_, ?_⟩
    · exact ⟨_, _, heap_setCell_same _ g 1 _ _ _ (heap_setCell_same w g 2 _ _ _ HB.out), by omega, by omega⟩
    · exact grownBy_set (grownBy_drewN (grownBy_set (World.grownBy.refl w _) 2 _) _) 1 _
  · have hge : (n : Int) ≤ i := by omega
    have HB := Lib.hid hb
    clear hr hb hA hlt
    go_enter Try.func49, Try.ntmps49
    go_wp2
    go_quiet (fail)
    go_wp2
    go_quiet (fail)
    go_wp2
    go_ret
    refine ⟨⟨_, rfl, and255 _⟩, ?_, ?_⟩
    · exact ⟨_, _, heap_setCell_same w g 2 _ _ _ HB.out, by omega, by omega⟩
    · exact grownBy_drewN (grownBy_drewN (grownBy_set (World.grownBy.refl w _) 2 _) _) _

theorem Rd.block_lt {w : World} {A : Option Addr} {n : Nat} {cs : List Value} (h : Rd w 1 A n cs) : ∀ a, A = some a → 0 < n → a.block < w.heap.size := by
  rintro a rfl hn
  obtain ⟨b, o, u, e, _, hc⟩ := h.one 0 hn
  injection e with e
  subst e
  exact World.block_lt_of_cell? w _ hc

/-- What l01New and l31New leave: a new cursor. -/
def RetCur (w : World) (A : Option Addr) (n c : Nat) (e : Ending) (w' : World) : Prop :=
  ∃ g, e = .returned (.pointer (some ⟨g, 0, none⟩)) ∧ Cur w' g A n c ∧ w.heap.size ≤ g ∧ Ext w w'

set_option maxRecDepth 100000 in
theorem l01New_any (n c : Nat) (A : Option Addr) (xs : List Int) (w : World) (hr : Rd w 1 A n (xs.map (Value.int .u8))) (hn : n ≤ 1048576) :
    Calls Try.prog 48 #[.slice A n c] w (RetCur w A n c) := by
  have HR := Lib.hid hr
  clear hr
  go_enter Try.func48, Try.ntmps48
  go_wp2
  go_loop [3, 4] (fun h i => ∃ (x : Int) (k : Nat), k ≤ n ∧ i = .int .i64 k ∧ h = .int .i64 x) (fun _ i => n - (intOf i).toNat)
  case atStart => exact ⟨_, 0, Nat.zero_le _, rfl, rfl⟩
  case round =>
    obtain ⟨x, k, hk, rfl, rfl⟩ := hrel
    by_cases hlt : k < n ∧ k < 4000
    · obtain ⟨h1, h2⟩ := hlt
      obtain ⟨b, o, u, rfl, hu, hcu⟩ := Rd.one HR.out k (by omega)
      have hxu : ∃ y, u = .int .u8 y := by
        rw [List.getElem?_map] at hu
        cases hx : xs[k]? with
        | none => rw [hx] at hu; simp at hu
        | some y => rw [hx] at hu; simp at hu; exact ⟨y, hu.symm⟩
      obtain ⟨y, rfl⟩ := hxu
      clear hu
      go_wp2
      go_round
      case rel => exact ⟨_, k + 1, by omega, by go_num, rfl⟩
      case measure => simp [intOf]; omega
    · by_cases h1 : k < n
      · have h2 : 4000 ≤ k := by omega
        clear hlt
        go_wp2
        go_ret
        exact ⟨_, rfl, ⟨_, _, heap_alloc_new w _, by omega, by omega⟩, Nat.le_refl _, (Ext.refl w).alloc _⟩
      · clear hlt
        go_wp2
        go_ret
        exact ⟨_, rfl, ⟨_, _, heap_alloc_new w _, by omega, by omega⟩, Nat.le_refl _, (Ext.refl w).alloc _⟩

theorem Ext.row {a w w' : World} {g : Nat} (h : Ext a w) (hg : w.grownBy w' (some g)) (hB : a.heap.size ≤ g) : Ext a w' :=
  h.grown hg (fun k hk => by injection hk with hk; omega)

theorem l31New_any (n c m : Nat) (A : Option Addr) (xs : List Int) (w : World) (hr : Rd w 1 A n (xs.map (Value.int .u8))) (hn : n ≤ 1048576) (hm : m ≤ 1000) :
    Calls Try.prog 28 #[.slice A n c, .int .i64 (m : Int)] w (RetCur w A n c) := by
  have HR := Lib.hid hr
  have HL := Lib.hid hr.block_lt
  clear hr
  go_enter Try.func28, Try.ntmps28
  go_wp2_with (go_at_call 48; refine (l01New_any _ _ _ xs _ HR.out hn).mono ?_; rintro e w1 ⟨g, rfl, hcu, hg, he⟩)
  have HC := Lib.hid hcu
  have HE := Lib.hid he
  have HG := Lib.hid hg
  clear hcu he hg
  go_loopw [6] (fun i wr => ∃ k : Nat, k ≤ m ∧ i = .int .i64 k ∧ Hid (Cur wr g A n c) ∧ Hid (Ext w wr)) (fun i _ => m - (intOf i).toNat)
  case atStart => exact ⟨0, Nat.zero_le _, rfl, HC, HE⟩
  case round =>
    obtain ⟨k, hk, rfl, HCk, HEk⟩ := hrel
    by_cases hlt : k < m
    · go_wp2_with (go_at_call 49; refine (l01Byte_any _ _ _ _ xs _ HCk.out (HR.out.ext HEk.out) hn ?h1).mono ?_)
      case h1 => intro a ha h0; have := HL.out a ha h0; have := HG.out; omega
      rintro e w2 ⟨⟨x, rfl, _, _⟩, hc2, hg2⟩
      have HC2 := Lib.hid hc2
      have HE2 := Lib.hid (HEk.out.row hg2 HG.out)
      clear hc2 hg2
      go_wp2
      go_roundw
      case rel => exact ⟨k + 1, by omega, by go_num, HC2, HE2⟩
      case measure => simp [intOf]; omega
    · go_wp2
      go_ret
      exact ⟨_, rfl, HCk.out, HG.out, HEk.out⟩

end Go.Proofs.Ytedfmjijemcpaaa
