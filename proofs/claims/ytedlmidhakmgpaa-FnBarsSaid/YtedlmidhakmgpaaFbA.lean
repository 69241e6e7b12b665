/- Contracts for FnBars: the drawn bar, sum, same. -/
import Derived.Test.YtedlmidhakmgpaaCur
import Derived.Test.YtedlmidhakmgpaaBarB
namespace Go.Proofs.Ytedlmidhakmgpaa
open Go.RowKit

theorem getD_mem0 {xs : List Int} {k : Nat} (h : k < xs.length) : xs.getD k 0 ∈ xs := by simp [List.getD, h]
theorem Cur.ne {w : World} {g L d n c : Nat} {A B : Option Addr} {xs : List Int} (h : Cur w g A n c) (ho : OwI w L B d xs) : ∀ ad, B = some ad → ad.block ≠ g := by
  obtain ⟨i, hh, e, _⟩ := h
  rintro ad rfl hne
  rcases ho.2 with ⟨h2, _⟩ | ⟨g1, cap, cur, e1, h3, hg, h5⟩
  · cases h2
  · injection e1 with e1 _ _
    injection e1 with e1
    subst e1
    simp only at hne
    rw [hne, e] at hg
    injection hg with hg
    injection hg with _ hg _
    exact absurd hg (by decide)
theorem Cur.grown {w w' : World} {g L d n c : Nat} {A B : Option Addr} {xs : List Int} (h : Cur w g A n c) (ho : OwI w L B d xs) (hg : w.grownBy w' (B.map (·.block))) : Cur w' g A n c := by
  have hne := h.ne ho
  obtain ⟨i, hh, e, h0⟩ := h
  refine ⟨i, hh, ?_, h0⟩
  rw [hg.block g (Array.getElem?_eq_some_iff.1 e).1 ?_]
  · exact e
  · cases B with
    | none => simp
    | some ad => have := hne ad rfl; simp; omega
theorem Cur.ext {w w' : World} {g n c : Nat} {A : Option Addr} (h : Cur w g A n c) (he : Ext w w') : Cur w' g A n c := by
  have hl := h.lt
  obtain ⟨i, hh, e, h0⟩ := h
  exact ⟨i, hh, (he.block g hl).trans e, h0⟩
theorem OwI.keptBy {w w' : World} {g L d : Nat} {B : Option Addr} {xs : List Int} (ho : OwI w L B d xs) (hg : w.grownBy w' (some g)) (hne : ∀ ad, B = some ad → ad.block ≠ g) : OwI w' L B d xs := by
  refine ⟨ho.1, ?_⟩
  rcases ho.2 with h2 | ⟨g1, cap, cur, e1, h3, hb, h5⟩
  · exact Or.inl h2
  · have e2 := e1
    injection e2 with e2 _ _
    refine Or.inr ⟨g1, cap, cur, e1, h3, ?_, h5⟩
    rw [hg.block g1 (Array.getElem?_eq_some_iff.1 hb).1 (by have := hne _ e2; simp at this ⊢; omega)]
    exact hb

/-- What l01Below leaves. -/
def RetBelow (w : World) (g m : Nat) (A : Option Addr) (n c : Nat) (e : Ending) (w' : World) : Prop :=
  (∃ x : Nat, e = .returned (.int .i64 (x : Int)) ∧ x < m) ∧ Cur w' g A n c ∧ w.grownBy w' (some g)
theorem below_any (g n c m : Nat) (A : Option Addr) (xs : List Int) (w : World) (hc : Cur w g A n c) (hr : Rd w 1 A n (xs.map (Value.int .u8))) (hn : n ≤ 1048576) (hA : ∀ a, A = some a → 0 < n → a.block < g) (hm : 1 ≤ m ∧ m ≤ 256) :
    Calls Try.prog 78 #[.pointer (some ⟨g, 0, none⟩), .int .i64 (m : Int)] w (RetBelow w g m A n c) := by
  have CB := Lib.hid (l01Byte_any g n c A xs w hc hr hn hA)
  have hmm : ¬ ((m : Int) ≤ 0) := by omega
  clear hc hr hA
  go_enter Try.func78, Try.ntmps78
  go_wp2_with fail
  refine CB.out.mono ?_
  rintro e w1 ⟨⟨x, rfl, h0, h1⟩, hc, hg⟩
  have HC := Lib.hid hc
  have HG := Lib.hid hg
  clear hc hg
  obtain ⟨X, rfl⟩ := Int.eq_ofNat_of_zero_le h0
  have hmod : (X : Int) % (m : Int) = ((X % m : Nat) : Int) := (Int.natCast_emod X m).symm
  have hlt : X % m < m := Nat.mod_lt _ (by omega)
  go_wp2_with fail
  go_ret
  refine ⟨⟨X % m, ?_, hlt⟩, HC.out, HG.out⟩
  first | rfl | exact ret_int (by first | exact hmod | simp [hmod])

def okBar (ys : List Int) : Prop := 1 ≤ ys.length ∧ ys.length ≤ 6 ∧ ∀ y ∈ ys, 2 ≤ y ∧ y ≤ 3
def RetDraw (v : World) (L : Nat) (e : Ending) (w' : World) : Prop := ∃ B d ys, e = .returned (.slice B ys.length d) ∧ OwI w' L B d ys ∧ okBar ys ∧ Ext v w'
set_option maxHeartbeats 2000000 in
theorem draw19_any (g n c : Nat) (A : Option Addr) (xs : List Int) (v w : World) (hc : Cur w g A n c) (hr : Rd v 1 A n (xs.map (Value.int .u8))) (hn : n ≤ 1048576) (hA : ∀ a, A = some a → 0 < n → a.block < g) (hv : Ext v w) (hg : v.heap.size ≤ g) :
    Calls Try.prog 67 #[.pointer (some ⟨g, 0, none⟩)] w (RetDraw v v.heap.size) := by
  have CB : Hid (∀ (m : Nat) (W : World), 1 ≤ m → m ≤ 256 → Ext v W → Cur W g A n c → Calls Try.prog 78 #[.pointer (some ⟨g, 0, none⟩), .int .i64 (m : Int)] W (RetBelow W g m A n c)) := fun m W h1 h2 he h => below_any g n c m A xs W h (hr.ext he) hn hA ⟨h1, h2⟩
  have HC : Hid (Cur (w.alloc (.cells #[] 3)) g A n c) := hc.ext ((Ext.refl _).alloc _)
  have HV : Hid (Ext v (w.alloc (.cells #[] 3))) := hv.alloc _
  have HO : Hid (OwI (w.alloc (.cells #[] 3)) v.heap.size (some ⟨w.heap.size, 0, none⟩) 0 []) := (OwI.empty w).lower hv.size
  obtain ⟨W, hW⟩ : ∃ W, W = (w.alloc (.cells #[] 3)) := ⟨_, rfl⟩
  rw [← hW] at HC HV HO
  have C6 := Lib.hid (CB.out 6 W (by omega) (by omega) HV.out HC.out)
  have HGV := Lib.hid hg
  clear hc hr hv hA
  go_enter Try.func67, Try.ntmps67
  go_wp2_with fail
  rw [← hW]
  refine C6.out.mono ?_
  rintro e w1 ⟨⟨x, rfl, hx⟩, hc1, hg1⟩
  have HC1 := Lib.hid hc1
  have HO1 := Lib.hid (HO.out.keptBy hg1 (HC.out.ne HO.out))
  have HV1 := Lib.hid (HV.out.row hg1 HGV.out)
  clear hc1 hg1 HC HO HV hW C6
  go_wp2_with fail
  go_loopw [3, 4] (fun o i wr => ∃ (k m : Nat) (B : Option Addr) (d : Nat) (ys : List Int), i = .int .i64 k ∧ o = .slice B m d ∧ k + m = 1 + x ∧ Hid (ys.length = m) ∧ Hid (∀ y ∈ ys, 2 ≤ y ∧ y ≤ 3) ∧ Hid (Cur wr g A n c) ∧ Hid (OwI wr v.heap.size B d ys) ∧ Hid (Ext v wr)) (fun _ i _ => (intOf i).toNat)
  case atStart => exact ⟨1 + x, 0, _, 0, [], by go_num, rfl, by omega, rfl, fun y hy => absurd hy (by simp), HC1.out, HO1.out, HV1.out⟩
  case round =>
    clear HC1 HO1 HV1
    obtain ⟨k, m, B, d, ys, rfl, rfl, hkm, HM, HY, HC, HO, HE⟩ := hrel
    by_cases hlt : 0 < k
    · have C2 := Lib.hid (CB.out 2 wr (by omega) (by omega) HE.out HC.out)
      go_wp2_with fail
      refine C2.out.mono ?_
      rintro e w1 ⟨⟨y, rfl, hy⟩, hc1, hg1⟩
      have HC1 := Lib.hid hc1
      have HO1 := Lib.hid (HO.out.keptBy hg1 (HC.out.ne HO.out))
      have HV1 := Lib.hid (HE.out.row hg1 HGV.out)
      clear hc1 hg1 HC HO HE C2
      go_wp2_with (at_builtin; refine app_ints v rfl _ _ rfl B d m ys _ 1 1 [2 + (y : Int)] rfl rfl HM.out rfl (HO1.out.ext ((Ext.refl _).alloc _)) (RdI.built w1 [2 + (y : Int)]) (HV1.out.alloc _) (by omega) ?_; intro A' c' w2 h1 h2 h3; have HO2 := Lib.hid h1; have HE2 := Lib.hid h2; have HC2 := Lib.hid ((HC1.out.ext ((Ext.refl _).alloc _)).grown (HO1.out.ext ((Ext.refl _).alloc _)) h3); clear h1 h2 h3)
      go_roundw
      case rel =>
        refine ⟨k - 1, m + 1, A', c', ys ++ [2 + (y : Int)], by go_num, rfl, by omega, by rw [List.length_append, HM.out]; exact rfl, ?_, HC2.out, HO2.out, HE2.out⟩
        refine Lib.hid fun z hz => ?_
        rw [List.mem_append] at hz
        rcases hz with hz | hz
        · exact HY.out z hz
        · simp only [List.mem_cons, List.not_mem_nil, or_false] at hz
          omega
      case measure => simp [intOf]; omega
    · obtain rfl : k = 0 := by omega
      go_wp2_with fail
      go_ret
      have := HM.out
      subst this
      exact ⟨B, d, ys, rfl, HO.out, ⟨by omega, by omega, HY.out⟩, HE.out⟩

theorem okBar_barB {ys : List Int} (h : okBar ys) : barB ys = true := by
  obtain ⟨h1, h2, h3⟩ := h
  have hs : ∀ zs : List Int, (∀ y ∈ zs, 2 ≤ y ∧ y ≤ 3) → zs.sum ≤ 3 * zs.length := by
    intro zs
    induction zs with
    | nil => intro _; simp
    | cons z zs ih =>
      intro hz
      have := ih (fun y hy => hz y (by simp [hy]))
      have := hz z (by simp)
      rw [List.sum_cons, List.length_cons]
      omega
  have := hs ys h3
  unfold barB
  rw [Bool.and_eq_true, Bool.and_eq_true]
  exact ⟨inB_iff.2 (by omega), allB_iff.2 h3, decide_eq_true (by omega)⟩
theorem makeBar_any (n c m : Nat) (A : Option Addr) (xs : List Int) (w : World) (hr : Rd w 1 A n (xs.map (Value.int .u8))) (hn : n ≤ 1048576) (hm : m ≤ 1000) :
    Calls Try.prog 46 #[.slice A n c, .int .i64 (m : Int)] w (RetDraw w w.heap.size) := by
  have HR := Lib.hid hr
  have HL := Lib.hid hr.block_lt
  clear hr
  go_enter Try.func46, Try.ntmps46
  go_wp2_with fail
  refine (l31New_any _ _ _ _ xs _ HR.out hn hm).mono ?_
  rintro e w1 ⟨g, rfl, hcu, hg, he⟩
  have C := Lib.hid (draw19_any g n c A xs w w1 hcu HR.out hn (fun a ha h0 => by have := HL.out a ha h0; omega) he hg)
  clear hcu hg he
  go_wp2_with fail
  refine C.out.mono ?_
  rintro e w2 ⟨B, d, ys, rfl, ho, hb, he⟩
  have H : Hid (RetDraw w w.heap.size (.returned (.slice B ys.length d)) w2) := ⟨B, d, ys, rfl, ho, hb, he⟩
  clear ho hb he
  go_wp2_with fail
  go_ret
  exact H.out

set_option maxHeartbeats 1000000 in
theorem sum_any (A : Option Addr) (c : Nat) (xs : List Int) (w : World) (hr : RdI w A xs) (hl : xs.length ≤ 1000) (hb : ∀ x ∈ xs, 0 ≤ x ∧ x ≤ 1000) :
    Calls Try.prog 44 #[.slice A xs.length c] w fun e w' => e = .returned (.int .i64 xs.sum) ∧ Ext w w' := by
  have hst : ∀ k, k ≤ xs.length → 0 ≤ (xs.take k).sum ∧ (xs.take k).sum ≤ 1000 * k := by
    intro k
    induction k with
    | zero => intro _; simp
    | succ k ih =>
      intro hk
      have h1 := ih (by omega)
      rw [take_snoc xs k (by omega), List.sum_append]
      have h2 := hb _ (getD_mem0 (xs := xs) (k := k) (by omega))
      simp only [List.sum_cons, List.sum_nil]
      omega
  obtain ⟨l, hll⟩ : ∃ l, l = xs.length := ⟨_, rfl⟩
  obtain ⟨R, hR⟩ : ∃ R, R = xs.sum := ⟨_, rfl⟩
  have HR := Lib.hid hr
  have HS := Lib.hid hst
  have HB := Lib.hid hb
  have HRR := Lib.hid hR
  have HL := Lib.hid hll
  rw [← hll, ← hR]
  rw [← hll] at hl
  clear hr hst hb hR hll
  go_enter Try.func44, Try.ntmps44
  go_wp2_with fail
  go_loopw [3, 8] (fun s i wr => ∃ k : Nat, k ≤ l ∧ i = .int .i64 k ∧ s = .int .i64 (xs.take k).sum ∧ Hid (Ext w wr)) (fun _ i _ => l - (intOf i).toNat)
  case atStart => exact ⟨0, Nat.zero_le _, rfl, rfl, Ext.refl w⟩
  case round =>
    obtain ⟨k, hk, rfl, rfl, HE⟩ := hrel
    by_cases hlt : k < l
    · have hkx : k < xs.length := by rw [← HL.out]; exact hlt
      obtain ⟨b, o, hA, hc⟩ := (HR.out.ext HE.out).at_ k hkx
      subst hA
      obtain ⟨x, hx⟩ : ∃ x, x = xs.getD k 0 := ⟨_, rfl⟩
      have hxb := HB.out _ (getD_mem0 (xs := xs) (k := k) hkx)
      rw [← hx] at hc hxb
      obtain ⟨t, ht⟩ : ∃ t, t = (xs.take k).sum := ⟨_, rfl⟩
      have htb := HS.out k (by omega)
      rw [← ht] at htb
      have HN : Hid ((xs.take (k + 1)).sum = t + x) := by rw [take_snoc xs k hkx, List.sum_append, ← ht, ← hx]; simp [Hid]
      rw [← ht]
      clear hx hkx ht
      go_wp2_with fail
      go_roundw
      case rel => exact ⟨k + 1, by omega, by go_num, by rw [HN.out], HE.out⟩
      case measure => simp [intOf]; omega
    · obtain rfl : k = l := by omega
      have HV : Hid ((xs.take k).sum = R) := by rw [HRR.out, HL.out, List.take_length]; exact rfl
      rw [HV.out]
      go_wp2_with fail
      go_ret
      exact ⟨rfl, HE.out⟩

set_option maxHeartbeats 1000000 in
theorem lsame_any (A B : Option Addr) (c d : Nat) (xs ys : List Int) (w : World) (hr : RdI w A xs) (hr2 : RdI w B ys) (hl : xs.length ≤ 1048576) (he : xs = ys) :
    Calls Try.prog 45 #[.slice A xs.length c, .slice B ys.length d] w fun e w' => e = .returned (.bool true) ∧ Ext w w' := by
  subst he
  obtain ⟨l, hll⟩ : ∃ l, l = xs.length := ⟨_, rfl⟩
  have HR := Lib.hid hr
  have HR2 := Lib.hid hr2
  have HL := Lib.hid hll
  rw [← hll]
  rw [← hll] at hl
  clear hr hr2 hll
  go_enter Try.func45, Try.ntmps45
  go_wp2_with fail
  go_loopw [14] (fun i wr => ∃ k : Nat, k ≤ l ∧ i = .int .i64 k ∧ Hid (Ext w wr)) (fun i _ => l - (intOf i).toNat)
  case atStart => exact ⟨0, Nat.zero_le _, rfl, Ext.refl w⟩
  case round =>
    obtain ⟨k, hk, rfl, HE⟩ := hrel
    by_cases hlt : k < l
    · have hkx : k < xs.length := by rw [← HL.out]; exact hlt
      obtain ⟨b, o, hA, hc⟩ := (HR.out.ext HE.out).at_ k hkx
      subst hA
      obtain ⟨b2, o2, hB, hc2⟩ := (HR2.out.ext HE.out).at_ k hkx
      subst hB
      obtain ⟨x, hx⟩ : ∃ x, x = xs.getD k 0 := ⟨_, rfl⟩
      rw [← hx] at hc hc2
      clear hx hkx
      go_wp2_with fail
      try go_quiet (fail)
      try go_wp2_with fail
      go_roundw
      case rel => exact ⟨k + 1, by omega, by go_num, by first | exact HE.out | exact HE.out.drewN _ | exact HE.out.drew⟩
      case measure => simp [intOf]; omega
    · obtain rfl : k = l := by omega
      go_wp2_with fail
      go_ret
      exact ⟨rfl, HE.out⟩
end Go.Proofs.Ytedlmidhakmgpaa
