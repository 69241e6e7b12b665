/- Contracts of the reference's cursor over the bytes of a code: l01New, l01Byte, l31New, MakeNum. Of what they answer only the range is said. -/
import Derived.Test.YtphpdanohooccaaGreatDoorBase
import Derived.Test.YtphpdanohooccaaGreatDoorInts
namespace Go.Proofs.YtphpdanohooccaaGreatDoor
open Go.RowKit

/-- Block g is a cursor over the n bytes at A. -/
def Cur (w : World) (g : Nat) (A : Option Addr) (n c : Nat) : Prop :=
  ∃ i h : Int, w.heap[g]? = some (.cells #[.slice A n c, .int .i64 i, .int .i64 h] 71 (0, 0)) ∧ 0 ≤ i ∧ i ≤ n

theorem Cur.lt {w : World} {g : Nat} {A : Option Addr} {n c : Nat} (h : Cur w g A n c) : g < w.heap.size := by
  obtain ⟨i, h, e, _⟩ := h
  exact (Array.getElem?_eq_some_iff.1 e).1

theorem and255 (a : Int) : 0 ≤ bits .and .i64 a 255 ∧ bits .and .i64 a 255 ≤ 255 := by
  have hx : (BitVec.ofInt 64 a &&& BitVec.ofInt 64 255).toNat ≤ 255 := by
    rw [BitVec.toNat_and]
    exact Nat.and_le_right
  have e : bits .and .i64 a 255 = IntKind.i64.wrap ((BitVec.ofInt 64 a &&& BitVec.ofInt 64 255).toNat : Int) := rfl
  rw [e, IntKind.wrap_i64]
  omega

/-- What l01Byte leaves. -/
def RetByte (w : World) (g : Nat) (A : Option Addr) (n c : Nat) (e : Ending) (w' : World) : Prop :=
  (∃ x : Int, e = .returned (.int .i64 x) ∧ 0 ≤ x ∧ x ≤ 255) ∧ Cur w' g A n c ∧ w.grownBy w' (some g)

theorem grownBy_drewN {a w : World} {row : Option Nat} (h : a.grownBy w row) (n : Nat) : a.grownBy (w.drewN n) row := ⟨h.os, h.tape, h.output, h.size, h.block⟩
theorem grownBy_set {a w : World} {g : Nat} (h : a.grownBy w (some g)) (j : Nat) (u : Value) : a.grownBy (w.setCell ⟨g, j, none⟩ u) (some g) :=
  grown_trans h ⟨rfl, rfl, rfl, by simp, fun k _ hk => heap_setCell_other w ⟨g, j, none⟩ k u (fun e => hk (by simp [e]))⟩

theorem l01Byte_any (g n c : Nat) (A : Option Addr) (xs : List Int) (w : World) (hc : Cur w g A n c) (hr : Rd w 1 A n (xs.map (Value.int .u8))) (hn : n ≤ 1048576) (hA : ∀ a, A = some a → 0 < n → a.block < g) :
    Calls Tryz.prog 34 #[.pointer (some ⟨g, 0, none⟩)] w (RetByte w g A n c) := by
  obtain ⟨i, h, hb, hi0, hi1⟩ := hc
  have c0 : w.cell? ⟨g, 0, none⟩ = some (.slice A n c) := cell_of_row w g 0 _ _ (0, 0) hb
  have c1 : w.cell? ⟨g, 1, none⟩ = some (.int .i64 i) := cell_of_row w g 1 _ _ (0, 0) hb
  have c2 : w.cell? ⟨g, 2, none⟩ = some (.int .i64 h) := cell_of_row w g 2 _ _ (0, 0) hb
  have f1 : w.frozen? ⟨g, 1, none⟩ = false := frozen_of_row w g 1 _ _ hb
  have f2 : w.frozen? ⟨g, 2, none⟩ = false := frozen_of_row w g 2 _ _ hb
  by_cases hlt : i < n
  · obtain ⟨k, rfl⟩ := Int.eq_ofNat_of_zero_le hi0
    obtain ⟨b, o, u, rfl, hu, hcu⟩ := Rd.one hr k (by omega)
    have hxu : ∃ x, u = .int .u8 x := by
      rw [List.getElem?_map] at hu
      cases hx : xs[k]? with
      | none => rw [hx] at hu; simp at hu
      | some y => rw [hx] at hu; simp at hu; exact ⟨y, hu.symm⟩
    obtain ⟨x, rfl⟩ := hxu
    have hne : b ≠ g := by have := hA _ rfl (by omega); simp at this; omega
    have HR := Lib.hid hr
    have HB := Lib.hid hb
    have HA := Lib.hid hA
    clear hr hu hb hA
    go_enter Tryz.func34, Tryz.ntmps34
    go_wp2
    go_quiet (fail)
    go_wp2
    go_quiet (fail)
    go_wp2
    go_quiet (fail)
    go_wp2
    go_ret
    refine ⟨⟨_, rfl, and255 _⟩, ?_, ?_⟩
    · exact ⟨_, _, heap_setCell_same _ g 1 _ _ _ (heap_setCell_same w g 2 _ _ _ HB.out), by omega, by omega⟩
    · exact grownBy_set (grownBy_drewN (grownBy_set (World.grownBy.refl w _) 2 _) _) 1 _
  · have hge : (n : Int) ≤ i := by omega
    have HB := Lib.hid hb
    clear hr hb hA hlt
    go_enter Tryz.func34, Tryz.ntmps34
    go_wp2
    go_quiet (fail)
    go_wp2
    go_quiet (fail)
    go_wp2
    go_ret
    refine ⟨⟨_, rfl, and255 _⟩, ?_, ?_⟩
    · exact ⟨_, _, heap_setCell_same w g 2 _ _ _ HB.out, by omega, by omega⟩
    · exact grownBy_drewN (grownBy_drewN (grownBy_set (World.grownBy.refl w _) 2 _) _) _

theorem Rd.block_lt {w : World} {A : Option Addr} {n : Nat} {cs : List Value} (h : Rd w 1 A n cs) : ∀ a, A = some a → 0 < n → a.block < w.heap.size := by
  rintro a rfl hn
  obtain ⟨b, o, u, e, _, hc⟩ := h.one 0 hn
  injection e with e
  subst e
  exact World.block_lt_of_cell? w _ hc

/-- What l01New and l31New leave: a new cursor. -/
def RetCur (w : World) (A : Option Addr) (n c : Nat) (e : Ending) (w' : World) : Prop :=
  ∃ g, e = .returned (.pointer (some ⟨g, 0, none⟩)) ∧ Cur w' g A n c ∧ w.heap.size ≤ g ∧ Ext w w'

set_option maxRecDepth 100000 in
theorem l01New_any (n c : Nat) (A : Option Addr) (xs : List Int) (w : World) (hr : Rd w 1 A n (xs.map (Value.int .u8))) (hn : n ≤ 1048576) :
    Calls Tryz.prog 50 #[.slice A n c] w (RetCur w A n c) := by
  have HR := Lib.hid hr
  clear hr
  go_enter Tryz.func50, Tryz.ntmps50
  go_wp2
  go_loop [3, 4] (fun h i => ∃ (x : Int) (k : Nat), k ≤ n ∧ i = .int .i64 k ∧ h = .int .i64 x) (fun _ i => n - (intOf i).toNat)
  case atStart => exact ⟨_, 0, Nat.zero_le _, rfl, rfl⟩
  case round =>
    obtain ⟨x, k, hk, rfl, rfl⟩ := hrel
    by_cases hlt : k < n ∧ k < 4000
    · obtain ⟨h1, h2⟩ := hlt
      obtain ⟨b, o, u, rfl, hu, hcu⟩ := Rd.one HR.out k (by omega)
      have hxu : ∃ y, u = .int .u8 y := by
        rw [List.getElem?_map] at hu
        cases hx : xs[k]? with
        | none => rw [hx] at hu; simp at hu
        | some y => rw [hx] at hu; simp at hu; exact ⟨y, hu.symm⟩
      obtain ⟨y, rfl⟩ := hxu
      clear hu
      go_wp2
      go_round
      case rel => exact ⟨_, k + 1, by omega, by go_num, rfl⟩
      case measure => simp [intOf]; omega
    · by_cases h1 : k < n
      · have h2 : 4000 ≤ k := by omega
        clear hlt
        go_wp2
        go_ret
        exact ⟨_, rfl, ⟨_, _, heap_alloc_new w _, by omega, by omega⟩, Nat.le_refl _, (Ext.refl w).alloc _⟩
      · clear hlt
        go_wp2
        go_ret
        exact ⟨_, rfl, ⟨_, _, heap_alloc_new w _, by omega, by omega⟩, Nat.le_refl _, (Ext.refl w).alloc _⟩

theorem Ext.row {a w w' : World} {g : Nat} (h : Ext a w) (hg : w.grownBy w' (some g)) (hB : a.heap.size ≤ g) : Ext a w' :=
  h.grown hg (fun k hk => by injection hk with hk; omega)

theorem l31New_any (n c m : Nat) (A : Option Addr) (xs : List Int) (w : World) (hr : Rd w 1 A n (xs.map (Value.int .u8))) (hn : n ≤ 1048576) (hm : m ≤ 1000) :
    Calls Tryz.prog 23 #[.slice A n c, .int .i64 (m : Int)] w (RetCur w A n c) := by
  have HR := Lib.hid hr
  have HL := Lib.hid hr.block_lt
  clear hr
  go_enter Tryz.func23, Tryz.ntmps23
  go_wp2_with (go_at_call 50; refine (l01New_any _ _ _ xs _ HR.out hn).mono ?_; rintro e w1 ⟨g, rfl, hcu, hg, he⟩)
  have HC := Lib.hid hcu
  have HE := Lib.hid he
  have HG := Lib.hid hg
  clear hcu he hg
  go_loopw [6] (fun i wr => ∃ k : Nat, k ≤ m ∧ i = .int .i64 k ∧ Hid (Cur wr g A n c) ∧ Hid (Ext w wr)) (fun i _ => m - (intOf i).toNat)
  case atStart => exact ⟨0, Nat.zero_le _, rfl, HC, HE⟩
  case round =>
    obtain ⟨k, hk, rfl, HCk, HEk⟩ := hrel
    by_cases hlt : k < m
    · go_wp2_with (go_at_call 34; refine (l01Byte_any _ _ _ _ xs _ HCk.out (HR.out.ext HEk.out) hn ?h1).mono ?_)
      case h1 => intro a ha h0; have := HL.out a ha h0; have := HG.out; omega
      rintro e w2 ⟨⟨x, rfl, _, _⟩, hc2, hg2⟩
      have HC2 := Lib.hid hc2
      have HE2 := Lib.hid (HEk.out.row hg2 HG.out)
      clear hc2 hg2
      go_wp2
      go_roundw
      case rel => exact ⟨k + 1, by omega, by go_num, HC2, HE2⟩
      case measure => simp [intOf]; omega
    · go_wp2
      go_ret
      exact ⟨_, rfl, HCk.out, HG.out, HEk.out⟩

/-- A number from 0 up to 65536. -/
def RetNum (w : World) (e : Ending) (w' : World) : Prop := ∃ x : Nat, e = .returned (.int .i64 (x : Int)) ∧ x ≤ 65535 ∧ Ext w w'

theorem makeNum_any (n c m : Nat) (A : Option Addr) (xs : List Int) (w : World) (hr : Rd w 1 A n (xs.map (Value.int .u8))) (hn : n ≤ 1048576) (hm : m ≤ 1000) :
    Calls Tryz.prog 9 #[.slice A n c, .int .i64 (m : Int)] w (RetNum w) := by
  have HR := Lib.hid hr
  have HL := Lib.hid hr.block_lt
  clear hr
  go_enter Tryz.func9, Tryz.ntmps9
  go_wp2_with fail
  refine (l31New_any _ _ _ _ xs _ HR.out hn hm).mono ?_
  rintro e w1 ⟨g, rfl, hcu, hg, he⟩
  have HC := Lib.hid hcu
  have HE := Lib.hid he
  have HG := Lib.hid hg
  clear hcu he hg
  go_wp2_with fail
  refine (l01Byte_any _ _ _ _ xs _ HC.out (HR.out.ext HE.out) hn ?h1).mono ?_
  case h1 => intro a ha h0; have := HL.out a ha h0; have := HG.out; omega
  rintro e w2 ⟨⟨x, rfl, hx0, hx1⟩, hc2, hg2⟩
  have HC2 := Lib.hid hc2
  have HE2 := Lib.hid (HE.out.row hg2 HG.out)
  clear hc2 hg2
  go_wp2_with fail
  refine (l01Byte_any _ _ _ _ xs _ HC2.out (HR.out.ext HE2.out) hn ?h2).mono ?_
  case h2 => intro a ha h0; have := HL.out a ha h0; have := HG.out; omega
  rintro e w3 ⟨⟨y, rfl, hy0, hy1⟩, hc3, hg3⟩
  have HE3 := Lib.hid (HE2.out.row hg3 HG.out)
  clear hc3 hg3
  go_wp2_with fail
  go_ret
  refine ⟨(x * 256 + y).toNat, ret_int ?_, by omega, HE3.out⟩
  omega
end Go.Proofs.YtphpdanohooccaaGreatDoor

/- The reference's draws (l01Below), the laws' own same: contracts. -/
namespace Go.Proofs.YtphpdanohooccaaGreatDoor
open Go.RowKit

theorem getD_mem0 {xs : List Int} {k : Nat} (h : k < xs.length) : xs.getD k 0 ∈ xs := by simp [List.getD, h]
theorem Cur.ne {w : World} {g L d n c : Nat} {A B : Option Addr} {xs : List Int} (h : Cur w g A n c) (ho : OwI w L B d xs) : ∀ ad, B = some ad → ad.block ≠ g := by
  obtain ⟨i, hh, e, _⟩ := h
  rintro ad rfl hne
  rcases ho.2 with ⟨h2, _⟩ | ⟨g1, cap, cur, e1, h3, hg, h5⟩
  · cases h2
  · injection e1 with e1 _ _
    injection e1 with e1
    subst e1
    simp only at hne
    rw [hne, e] at hg
    injection hg with hg
    injection hg with _ hg _
    exact absurd hg (by decide)
theorem Cur.grown {w w' : World} {g L d n c : Nat} {A B : Option Addr} {xs : List Int} (h : Cur w g A n c) (ho : OwI w L B d xs) (hg : w.grownBy w' (B.map (·.block))) : Cur w' g A n c := by
  have hne := h.ne ho
  obtain ⟨i, hh, e, h0⟩ := h
  refine ⟨i, hh, ?_, h0⟩
  rw [hg.block g (Array.getElem?_eq_some_iff.1 e).1 ?_]
  · exact e
  · cases B with
    | none => simp
    | some ad => have := hne ad rfl; simp; omega
theorem Cur.ext {w w' : World} {g n c : Nat} {A : Option Addr} (h : Cur w g A n c) (he : Ext w w') : Cur w' g A n c := by
  have hl := h.lt
  obtain ⟨i, hh, e, h0⟩ := h
  exact ⟨i, hh, (he.block g hl).trans e, h0⟩
theorem OwI.keptBy {w w' : World} {g L d : Nat} {B : Option Addr} {xs : List Int} (ho : OwI w L B d xs) (hg : w.grownBy w' (some g)) (hne : ∀ ad, B = some ad → ad.block ≠ g) : OwI w' L B d xs := by
  refine ⟨ho.1, ?_⟩
  rcases ho.2 with h2 | ⟨g1, cap, cur, e1, h3, hb, h5⟩
  · exact Or.inl h2
  · have e2 := e1
    injection e2 with e2 _ _
    refine Or.inr ⟨g1, cap, cur, e1, h3, ?_, h5⟩
    rw [hg.block g1 (Array.getElem?_eq_some_iff.1 hb).1 (by have := hne _ e2; simp at this ⊢; omega)]
    exact hb

/-- What l01Below leaves. -/
def RetBelow (w : World) (g m : Nat) (A : Option Addr) (n c : Nat) (e : Ending) (w' : World) : Prop :=
  (∃ x : Nat, e = .returned (.int .i64 (x : Int)) ∧ x < m) ∧ Cur w' g A n c ∧ w.grownBy w' (some g)
theorem below_any (g n c m : Nat) (A : Option Addr) (xs : List Int) (w : World) (hc : Cur w g A n c) (hr : Rd w 1 A n (xs.map (Value.int .u8))) (hn : n ≤ 1048576) (hA : ∀ a, A = some a → 0 < n → a.block < g) (hm : 1 ≤ m ∧ m ≤ 256) :
    Calls Tryz.prog 48 #[.pointer (some ⟨g, 0, none⟩), .int .i64 (m : Int)] w (RetBelow w g m A n c) := by
  have CB := Lib.hid (l01Byte_any g n c A xs w hc hr hn hA)
  have hmm : ¬ ((m : Int) ≤ 0) := by omega
  clear hc hr hA
  go_enter Tryz.func48, Tryz.ntmps48
  go_wp2_with fail
  refine CB.out.mono ?_
  rintro e w1 ⟨⟨x, rfl, h0, h1⟩, hc, hg⟩
  have HC := Lib.hid hc
  have HG := Lib.hid hg
  clear hc hg
  obtain ⟨X, rfl⟩ := Int.eq_ofNat_of_zero_le h0
  have hmod : (X : Int) % (m : Int) = ((X % m : Nat) : Int) := (Int.natCast_emod X m).symm
  have hlt : X % m < m := Nat.mod_lt _ (by omega)
  go_wp2_with fail
  go_ret
  refine ⟨⟨X % m, ?_, hlt⟩, HC.out, HG.out⟩
  first | rfl | exact ret_int (by first | exact hmod | simp [hmod])

set_option maxHeartbeats 1000000 in
theorem lsame_any (A B : Option Addr) (c d : Nat) (xs ys : List Int) (w : World) (hr : RdI w A xs) (hr2 : RdI w B ys) (hl : xs.length ≤ 1048576) (he : xs = ys) :
    Calls Tryz.prog 33 #[.slice A xs.length c, .slice B ys.length d] w fun e w' => e = .returned (.bool true) ∧ Ext w w' := by
  subst he
  obtain ⟨l, hll⟩ : ∃ l, l = xs.length := ⟨_, rfl⟩
  have HR := Lib.hid hr
  have HR2 := Lib.hid hr2
  have HL := Lib.hid hll
  rw [← hll]
  rw [← hll] at hl
  clear hr hr2 hll
  go_enter Tryz.func33, Tryz.ntmps33
  go_wp2_with fail
  go_loopw [14] (fun i wr => ∃ k : Nat, k ≤ l ∧ i = .int .i64 k ∧ Hid (Ext w wr)) (fun i _ => l - (intOf i).toNat)
  case atStart => exact ⟨0, Nat.zero_le _, rfl, Ext.refl w⟩
  case round =>
    obtain ⟨k, hk, rfl, HE⟩ := hrel
    by_cases hlt : k < l
    · have hkx : k < xs.length := by rw [← HL.out]; exact hlt
      obtain ⟨b, o, hA, hc⟩ := (HR.out.ext HE.out).at_ k hkx
      subst hA
      obtain ⟨b2, o2, hB, hc2⟩ := (HR2.out.ext HE.out).at_ k hkx
      subst hB
      obtain ⟨x, hx⟩ : ∃ x, x = xs.getD k 0 := ⟨_, rfl⟩
      rw [← hx] at hc hc2
      clear hx hkx
      go_wp2_with fail
      try go_quiet (fail)
      try go_wp2_with fail
      go_roundw
      case rel => exact ⟨k + 1, by omega, by go_num, by first | exact HE.out | exact HE.out.drewN _ | exact HE.out.drew⟩
      case measure => simp [intOf]; omega
    · obtain rfl : k = l := by omega
      go_wp2_with fail
      go_ret
      exact ⟨rfl, HE.out⟩
end Go.Proofs.YtphpdanohooccaaGreatDoor
