/- The reference's draws (l01Below), the laws' own same: contracts. -/
import Derived.Test.YtedfmjijemcpaaaCur
import Derived.Test.YtedfmjijemcpaaaApp
namespace Go.Proofs.Ytedfmjijemcpaaa
open Go.RowKit

theorem getD_mem0 {xs : List Int} {k : Nat} (h : k < xs.length) : xs.getD k 0 ∈ xs := by simp [List.getD, h]
theorem Cur.ne {w : World} {g L d n c : Nat} {A B : Option Addr} {xs : List Int} (h : Cur w g A n c) (ho : OwI w L B d xs) : ∀ ad, B = some ad → ad.block ≠ g := by
  obtain ⟨i, hh, e, _⟩ := h
  rintro ad rfl hne
  rcases ho.2 with ⟨h2, _⟩ | ⟨g1, cap, cur, e1, h3, hg, h5⟩
  · cases h2
  · injection e1 with e1 _ _
    injection e1 with e1
    subst e1
    simp only at hne
    rw [hne, e] at hg
    injection hg with hg
    injection hg with _ hg _
    exact absurd hg (by decide)
theorem Cur.grown {w w' : World} {g L d n c : Nat} {A B : Option Addr} {xs : List Int} (h : Cur w g A n c) (ho : OwI w L B d xs) (hg : w.grownBy w' (B.map (·.block))) : Cur w' g A n c := by
  have hne := h.ne ho
  obtain ⟨i, hh, e, h0⟩ := h
  refine ⟨i, hh, ?_, h0⟩
  rw [hg.block g (Array.getElem?_eq_some_iff.1 e).1 ?_]
  · exact e
  · cases B with
    | none => simp
    | some ad => have := hne ad rfl; simp; omega
theorem Cur.ext {w w' : World} {g n c : Nat} {A : Option Addr} (h : Cur w g A n c) (he : Ext w w') : Cur w' g A n c := by
  have hl := h.lt
  obtain ⟨i, hh, e, h0⟩ := h
  exact ⟨i, hh, (he.block g hl).trans e, h0⟩
theorem OwI.keptBy {w w' : World} {g L d : Nat} {B : Option Addr} {xs : List Int} (ho : OwI w L B d xs) (hg : w.grownBy w' (some g)) (hne : ∀ ad, B = some ad → ad.block ≠ g) : OwI w' L B d xs := by
  refine ⟨ho.1, ?_⟩
  rcases ho.2 with h2 | ⟨g1, cap, cur, e1, h3, hb, h5⟩
  · exact Or.inl h2
  · have e2 := e1
    injection e2 with e2 _ _
    refine Or.inr ⟨g1, cap, cur, e1, h3, ?_, h5⟩
    rw [hg.block g1 (Array.getElem?_eq_some_iff.1 hb).1 (by have := hne _ e2; simp at this ⊢; omega)]
    exact hb

/-- What l01Below leaves. -/
def RetBelow (w : World) (g m : Nat) (A : Option Addr) (n c : Nat) (e : Ending) (w' : World) : Prop :=
  (∃ x : Nat, e = .returned (.int .i64 (x : Int)) ∧ x < m) ∧ Cur w' g A n c ∧ w.grownBy w' (some g)
theorem below_any (g n c m : Nat) (A : Option Addr) (xs : List Int) (w : World) (hc : Cur w g A n c) (hr : Rd w 1 A n (xs.map (Value.int .u8))) (hn : n ≤ 1048576) (hA : ∀ a, A = some a → 0 < n → a.block < g) (hm : 1 ≤ m ∧ m ≤ 256) :
    Calls Try.prog 47 #[.pointer (some ⟨g, 0, none⟩), .int .i64 (m : Int)] w (RetBelow w g m A n c) := by
  have CB := Lib.hid (l01Byte_any g n c A xs w hc hr hn hA)
  have hmm : ¬ ((m : Int) ≤ 0) := by omega
  clear hc hr hA
  go_enter Try.func47, Try.ntmps47
  go_wp2_with fail
  refine CB.out.mono ?_
  rintro e w1 ⟨⟨x, rfl, h0, h1⟩, hc, hg⟩
  have HC := Lib.hid hc
  have HG := Lib.hid hg
  clear hc hg
  obtain ⟨X, rfl⟩ := Int.eq_ofNat_of_zero_le h0
  have hmod : (X : Int) % (m : Int) = ((X % m : Nat) : Int) := (Int.natCast_emod X m).symm
  have hlt : X % m < m := Nat.mod_lt _ (by omega)
  go_wp2_with fail
  go_ret
  refine ⟨⟨X % m, ?_, hlt⟩, HC.out, HG.out⟩
  first | rfl | exact ret_int (by first | exact hmod | simp [hmod])

set_option maxHeartbeats 1000000 in
theorem lsame_any (A B : Option Addr) (c d : Nat) (xs ys : List Int) (w : World) (hr : RdI w A xs) (hr2 : RdI w B ys) (hl : xs.length ≤ 1048576) (he : xs = ys) :
    Calls Try.prog 17 #[.slice A xs.length c, .slice B ys.length d] w fun e w' => e = .returned (.bool true) ∧ Ext w w' := by
  subst he
  obtain ⟨l, hll⟩ : ∃ l, l = xs.length := ⟨_, rfl⟩
  have HR := Lib.hid hr
  have HR2 := Lib.hid hr2
  have HL := Lib.hid hll
  rw [← hll]
  rw [← hll] at hl
  clear hr hr2 hll
  go_enter Try.func17, Try.ntmps17
  go_wp2_with fail
  go_loopw [14] (fun i wr => ∃ k : Nat, k ≤ l ∧ i = .int .i64 k ∧ Hid (Ext w wr)) (fun i _ => l - (intOf i).toNat)
  case atStart => exact ⟨0, Nat.zero_le _, rfl, Ext.refl w⟩
  case round =>
    obtain ⟨k, hk, rfl, HE⟩ := hrel
    by_cases hlt : k < l
    · have hkx : k < xs.length := by rw [← HL.out]; exact hlt
      obtain ⟨b, o, hA, hc⟩ := (HR.out.ext HE.out).at_ k hkx
      subst hA
      obtain ⟨b2, o2, hB, hc2⟩ := (HR2.out.ext HE.out).at_ k hkx
      subst hB
      obtain ⟨x, hx⟩ : ∃ x, x = xs.getD k 0 := ⟨_, rfl⟩
      rw [← hx] at hc hc2
      clear hx hkx
      go_wp2_with fail
      try go_quiet (fail)
      try go_wp2_with fail
      go_roundw
      case rel => exact ⟨k + 1, by omega, by go_num, by first | exact HE.out | exact HE.out.drewN _ | exact HE.out.drew⟩
      case measure => simp [intOf]; omega
    · obtain rfl : k = l := by omega
      go_wp2_with fail
      go_ret
      exact ⟨rfl, HE.out⟩
end Go.Proofs.Ytedfmjijemcpaaa
