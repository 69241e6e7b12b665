/- FnMeters: the drawn meter, the drawn rhythm; the law's own sum, same, before. -/
import Derived.Test.YtedfmjijemcpaaaDraw
import Derived.Test.YtedfmjijemcpaaaBest
namespace Go.Proofs.Ytedfmjijemcpaaa
open Go.RowKit

theorem pick_any (g n c : Nat) (A : Option Addr) (xs : List Int) (w : World) (hc : Cur w g A n c) (hr : Rd w 1 A n (xs.map (Value.int .u8))) (hn : n ≤ 1048576) (hA : ∀ a, A = some a → 0 < n → a.block < g)
    (B : Option Addr) (d : Nat) (ys : List Int) (hy : RdI w B ys) (hB : ∀ a, B = some a → a.block ≠ g) (hm : 1 ≤ ys.length ∧ ys.length ≤ 256) :
    Calls Try.prog 46 #[.pointer (some ⟨g, 0, none⟩), .slice B ys.length d] w fun e w' => (∃ x, e = .returned (.int .i64 x) ∧ x ∈ ys) ∧ Cur w' g A n c ∧ w.grownBy w' (some g) := by
  have CB := Lib.hid (below_any g n c ys.length A xs w hc hr hn hA hm)
  have HY := Lib.hid hy
  have HB := Lib.hid hB
  obtain ⟨m, hmm⟩ : ∃ m, m = ys.length := ⟨_, rfl⟩
  have HM := Lib.hid hmm
  rw [← hmm] at CB hm ⊢
  clear hc hr hA hy hB hmm
  go_enter Try.func46, Try.ntmps46
  go_wp2_with fail
  refine CB.out.mono ?_
  rintro e w1 ⟨⟨x, rfl, hx⟩, hc, hg⟩
  have HC := Lib.hid hc
  have HG := Lib.hid hg
  have hrd : RdI w1 B ys := Rd.grown HY.out hg (fun a ha => by have := HB.out a ha; simp; omega)
  obtain ⟨b, o, hA, hcell⟩ := hrd.at_ x (by rw [← HM.out]; exact hx)
  subst hA
  obtain ⟨y, hyy⟩ : ∃ y, y = ys.getD x 0 := ⟨_, rfl⟩
  rw [← hyy] at hcell
  have HYY : Hid (y ∈ ys) := by rw [hyy]; exact getD_mem0 (by rw [← HM.out]; exact hx)
  clear hc hg hyy hrd
  go_wp2_with fail
  go_ret
  exact ⟨⟨y, rfl, HYY.out⟩, HC.out, HG.out⟩

set_option maxHeartbeats 1000000 in
theorem sum_any (A : Option Addr) (c : Nat) (xs : List Int) (w : World) (hr : RdI w A xs) (hl : xs.length ≤ 1000) (hb : ∀ x ∈ xs, 0 ≤ x ∧ x ≤ 1000) :
    Calls Try.prog 13 #[.slice A xs.length c] w fun e w' => e = .returned (.int .i64 xs.sum) ∧ Ext w w' := by
  have hst : ∀ k, k ≤ xs.length → 0 ≤ (xs.take k).sum ∧ (xs.take k).sum ≤ 1000 * k := by
    intro k
    induction k with
    | zero => intro _; simp
    | succ k ih =>
      intro hk
      have h1 := ih (by omega)
      rw [take_snoc xs k (by omega), List.sum_append]
      have h2 := hb _ (getD_mem0 (xs := xs) (k := k) (by omega))
      simp only [List.sum_cons, List.sum_nil]
      omega
  obtain ⟨l, hll⟩ : ∃ l, l = xs.length := ⟨_, rfl⟩
  obtain ⟨R, hR⟩ : ∃ R, R = xs.sum := ⟨_, rfl⟩
  have HR := Lib.hid hr
  have HS := Lib.hid hst
  have HB := Lib.hid hb
  have HRR := Lib.hid hR
  have HL := Lib.hid hll
  rw [← hll, ← hR]
  rw [← hll] at hl
  clear hr hst hb hR hll
  go_enter Try.func13, Try.ntmps13
  go_wp2_with fail
  go_loopw [3, 8] (fun s i wr => ∃ k : Nat, k ≤ l ∧ i = .int .i64 k ∧ s = .int .i64 (xs.take k).sum ∧ Hid (Ext w wr)) (fun _ i _ => l - (intOf i).toNat)
  case atStart => exact ⟨0, Nat.zero_le _, rfl, rfl, Ext.refl w⟩
  case round =>
    obtain ⟨k, hk, rfl, rfl, HE⟩ := hrel
    by_cases hlt : k < l
    · have hkx : k < xs.length := by rw [← HL.out]; exact hlt
      obtain ⟨b, o, hA, hc⟩ := (HR.out.ext HE.out).at_ k hkx
      subst hA
      obtain ⟨x, hx⟩ : ∃ x, x = xs.getD k 0 := ⟨_, rfl⟩
      have hxb := HB.out _ (getD_mem0 (xs := xs) (k := k) hkx)
      rw [← hx] at hc hxb
      obtain ⟨t, ht⟩ : ∃ t, t = (xs.take k).sum := ⟨_, rfl⟩
      have htb := HS.out k (by omega)
      rw [← ht] at htb
      have HN : Hid ((xs.take (k + 1)).sum = t + x) := by rw [take_snoc xs k hkx, List.sum_append, ← ht, ← hx]; simp [Hid]
      rw [← ht]
      clear hx hkx ht
      go_wp2_with fail
      go_roundw
      case rel => exact ⟨k + 1, by omega, by go_num, by rw [HN.out], HE.out⟩
      case measure => simp [intOf]; omega
    · obtain rfl : k = l := by omega
      have HV : Hid ((xs.take k).sum = R) := by rw [HRR.out, HL.out, List.take_length]; exact rfl
      rw [HV.out]
      go_wp2_with fail
      go_ret
      exact ⟨rfl, HE.out⟩


set_option maxHeartbeats 1000000 in
theorem lsameB_any (A B : Option Addr) (c d : Nat) (xs ys : List Int) (w : World) (hr : RdI w A xs) (hr2 : RdI w B ys) (hl : xs.length ≤ 1048576) (hl2 : ys.length ≤ 1048576) :
    Calls Try.prog 17 #[.slice A xs.length c, .slice B ys.length d] w fun e w' => e = .returned (.bool (decide (xs = ys))) ∧ w = w' := by
  obtain ⟨R, hR⟩ : ∃ R, R = decide (xs = ys) := ⟨_, rfl⟩
  obtain ⟨l, hll⟩ : ∃ l, l = xs.length := ⟨_, rfl⟩
  obtain ⟨m, hmm⟩ : ∃ m, m = ys.length := ⟨_, rfl⟩
  have HR := Lib.hid hr
  have HR2 := Lib.hid hr2
  have HL := Lib.hid hll
  have HM := Lib.hid hmm
  have HD := Lib.hid hR
  rw [← hll, ← hmm, ← hR]
  rw [← hll] at hl
  rw [← hmm] at hl2
  clear hr hr2 hll hmm hR
  by_cases hlm : l = m
  · subst hlm
    go_enter Try.func17, Try.ntmps17
    go_wp2_with fail
    go_loop [14] (fun i => ∃ k : Nat, k ≤ l ∧ i = .int .i64 k ∧ Hid (xs.take k = ys.take k)) (fun i => l - (intOf i).toNat)
    case atStart => exact ⟨0, Nat.zero_le _, rfl, rfl⟩
    case round =>
      obtain ⟨k, hk, rfl, HT⟩ := hrel
      by_cases hlt : k < l
      · have hkx : k < xs.length := by rw [← HL.out]; exact hlt
        have hky : k < ys.length := by rw [← HM.out]; exact hlt
        obtain ⟨b, o, hA, hc⟩ := HR.out.at_ k hkx
        subst hA
        obtain ⟨b2, o2, hB, hc2⟩ := HR2.out.at_ k hky
        subst hB
        obtain ⟨x, hx⟩ : ∃ x, x = xs.getD k 0 := ⟨_, rfl⟩
        obtain ⟨y, hy⟩ : ∃ y, y = ys.getD k 0 := ⟨_, rfl⟩
        rw [← hx] at hc
        rw [← hy] at hc2
        by_cases hxy : x = y
        · have HN : Hid (xs.take (k + 1) = ys.take (k + 1)) := by rw [take_snoc xs k hkx, take_snoc ys k hky, HT.out, ← hx, ← hy, hxy]; exact rfl
          subst hxy
          clear hx hy hkx hky
          go_wp2_with fail
          go_round
          case rel => exact ⟨k + 1, by omega, by go_num, HN.out⟩
          case measure => simp [intOf]; omega
        · have HF : Hid (R = false) := by
            rw [HD.out]
            refine decide_eq_false fun e => hxy ?_
            rw [hx, hy, e]
          have hne : (x != y) = true := by simp [hxy]
          clear hx hy hkx hky hxy
          go_wp2_with fail
          go_ret
          exact ⟨ret_bool HF.out.symm, rfl⟩
      · obtain rfl : k = l := by omega
        have HF : Hid (R = true) := by
          rw [HD.out]
          refine decide_eq_true ?_
          have := HT.out
          rwa [take_all xs k HL.out, take_all ys k HM.out] at this
        go_wp2_with fail
        go_ret
        exact ⟨ret_bool HF.out.symm, rfl⟩
  · have HF : Hid (R = false) := by
      rw [HD.out]
      refine decide_eq_false fun e => hlm ?_
      rw [HL.out, HM.out, e]
    have hli : ¬ (l : Int) = m := by omega
    have hlb : ((l : Int) != (m : Int)) = true := by simp; omega
    go_enter Try.func17, Try.ntmps17
    go_wp2_with fail
    go_ret
    exact ⟨ret_bool HF.out.symm, rfl⟩

/-- The order of lists. -/
def bfB : List Int → List Int → Bool
  | x :: xs, y :: ys => if x = y then bfB xs ys else decide (x < y)
  | _, _ => false
theorem drop_cons0 (xs : List Int) (k : Nat) (h : k < xs.length) : xs.drop k = xs.getD k 0 :: xs.drop (k + 1) := by
  rw [List.drop_eq_getElem_cons h]
  simp [List.getD, h]
theorem bfB_nil (xs : List Int) : bfB xs [] = false := by cases xs <;> rfl
set_option maxHeartbeats 1000000 in
theorem before_any (A B : Option Addr) (c d : Nat) (xs ys : List Int) (w : World) (hr : RdI w A xs) (hr2 : RdI w B ys) (hl : xs.length ≤ 1048576) :
    Calls Try.prog 16 #[.slice A xs.length c, .slice B ys.length d] w fun e w' => e = .returned (.bool (bfB xs ys)) ∧ w = w' := by
  obtain ⟨R, hR⟩ : ∃ R, R = bfB xs ys := ⟨_, rfl⟩
  obtain ⟨l, hll⟩ : ∃ l, l = xs.length := ⟨_, rfl⟩
  obtain ⟨m, hmm⟩ : ∃ m, m = ys.length := ⟨_, rfl⟩
  have HR := Lib.hid hr
  have HR2 := Lib.hid hr2
  have HL := Lib.hid hll
  have HM := Lib.hid hmm
  have HD := Lib.hid hR
  rw [← hll, ← hmm, ← hR]
  rw [← hll] at hl
  clear hr hr2 hll hmm hR
  go_enter Try.func16, Try.ntmps16
  go_wp2_with fail
  go_loop [9] (fun i => ∃ k : Nat, k ≤ l ∧ k ≤ m ∧ i = .int .i64 k ∧ Hid (R = bfB (xs.drop k) (ys.drop k))) (fun i => l - (intOf i).toNat)
  case atStart => exact ⟨0, Nat.zero_le _, Nat.zero_le _, rfl, HD.out⟩
  case round =>
    obtain ⟨k, hk, hkm, rfl, HT⟩ := hrel
    by_cases hlt : k < l
    · have hkx : k < xs.length := by rw [← HL.out]; exact hlt
      obtain ⟨b, o, hA, hc⟩ := HR.out.at_ k hkx
      subst hA
      obtain ⟨x, hx⟩ : ∃ x, x = xs.getD k 0 := ⟨_, rfl⟩
      rw [← hx] at hc
      by_cases hlt2 : k < m
      · have hky : k < ys.length := by rw [← HM.out]; exact hlt2
        obtain ⟨b2, o2, hB, hc2⟩ := HR2.out.at_ k hky
        subst hB
        obtain ⟨y, hy⟩ : ∃ y, y = ys.getD k 0 := ⟨_, rfl⟩
        rw [← hy] at hc2
        have HNX : Hid (R = if x = y then bfB (xs.drop (k + 1)) (ys.drop (k + 1)) else decide (x < y)) := by
          rw [HT.out, drop_cons0 xs k hkx, drop_cons0 ys k hky, ← hx, ← hy]; exact rfl
        clear hx hy hkx hky
        by_cases hxy : x = y
        · have HN : Hid (R = bfB (xs.drop (k + 1)) (ys.drop (k + 1))) := by rw [HNX.out, if_pos hxy]; exact rfl
          subst hxy
          go_wp2_with fail
          go_round
          case rel => exact ⟨k + 1, by omega, by omega, by go_num, HN.out⟩
          case measure => simp [intOf]; omega
        · have HF : Hid (R = decide (x < y)) := by rw [HNX.out, if_neg hxy]; exact rfl
          have hne : (x != y) = true := by simp [hxy]
          clear hxy
          go_wp2_with fail
          go_ret
          exact ⟨ret_bool HF.out.symm, rfl⟩
      · have HF : Hid (R = false) := by
          have : ys.drop k = [] := List.drop_eq_nil_of_le (by rw [← HM.out]; omega)
          rw [HT.out, this, bfB_nil]
          exact rfl
        clear hx hkx
        go_wp2_with fail
        go_ret
        exact ⟨ret_bool HF.out.symm, rfl⟩
    · obtain rfl : k = l := by omega
      have HF : Hid (R = false) := by
        have : xs.drop k = [] := List.drop_eq_nil_of_le (by rw [← HL.out]; omega)
        rw [HT.out, this]
        exact rfl
      go_wp2_with fail
      go_ret
      exact ⟨ret_bool HF.out.symm, rfl⟩

theorem once_any (g n c m : Nat) (A : Option Addr) (xs : List Int) (w : World) (hc : Cur w g A n c) (hr : Rd w 1 A n (xs.map (Value.int .u8))) (hn : n ≤ 1048576) (hA : ∀ a, A = some a → 0 < n → a.block < g) (hm : 1 ≤ m ∧ m ≤ 256) :
    Calls Try.prog 38 #[.pointer (some ⟨g, 0, none⟩), .int .i64 (m : Int)] w fun e w' => (∃ b, e = .returned (.bool b)) ∧ Cur w' g A n c ∧ w.grownBy w' (some g) := by
  have CB := Lib.hid (below_any g n c m A xs w hc hr hn hA hm)
  clear hc hr hA
  go_enter Try.func38, Try.ntmps38
  go_wp2_with fail
  refine CB.out.mono ?_
  rintro e w1 ⟨⟨x, rfl, hx⟩, hc, hg⟩
  have HC := Lib.hid hc
  have HG := Lib.hid hg
  clear hc hg
  go_wp2_with fail
  go_ret
  exact ⟨⟨_, rfl⟩, HC.out, HG.out⟩

def pulsesL : List Int := [2, 3, 4, 6, 8, 9, 12, 16, 18, 24]
theorem pulses_mo : ∀ n ∈ pulsesL, 1 ≤ (moF n).length ∧ (moF n).length ≤ 100 := by decide +kernel
/-- What MakeMeter draws. -/
def okMeter (ys : List Int) : Prop := ∃ n ∈ pulsesL, ys ∈ moF n
def RetDrawM (v : World) (e : Ending) (w' : World) : Prop := ∃ B d ys, e = .returned (.slice B ys.length d) ∧ OwI w' v.heap.size B d ys ∧ (ys.length ≤ d ∧ d ≤ maxLen) ∧ okMeter ys ∧ Ext v w'
theorem OwnSS.keptBy {w w' : World} {g L U : Nat} {v : Value} {xss : List (List Int)} (h : OwnSS w L U v xss) (hg : w.grownBy w' (some g)) (hL : g < L) : OwnSS w' L U v xss :=
  h.fr (L' := g) (U' := g + 1) ⟨hg.os, hg.tape, hg.output, hg.size, fun k hk hn => hg.block k hk (by simp; omega)⟩ (Or.inr hL)
set_option maxHeartbeats 2000000 in
theorem draw18_any (g n c : Nat) (A : Option Addr) (xs : List Int) (v w : World) (hc : Cur w g A n c) (hr : Rd v 1 A n (xs.map (Value.int .u8))) (hn : n ≤ 1048576) (hA : ∀ a, A = some a → 0 < n → a.block < g) (hv : Ext v w) (hg : v.heap.size ≤ g) :
    Calls Try.prog 27 #[.pointer (some ⟨g, 0, none⟩)] w (RetDrawM v) := by
  have CB : Hid (∀ (m : Nat) (W : World), 1 ≤ m → m ≤ 256 → Ext v W → Cur W g A n c → Calls Try.prog 47 #[.pointer (some ⟨g, 0, none⟩), .int .i64 (m : Int)] W (RetBelow W g m A n c)) := fun m W h1 h2 he h => below_any g n c m A xs W h (hr.ext he) hn hA ⟨h1, h2⟩
  have CP : Hid (Calls Try.prog 46 #[.pointer (some ⟨g, 0, none⟩), .slice (some ⟨w.heap.size, 0, none⟩) 10 10] (w.alloc (.cells #[.int .i64 2, .int .i64 3, .int .i64 4, .int .i64 6, .int .i64 8, .int .i64 9, .int .i64 12, .int .i64 16, .int .i64 18, .int .i64 24] 3))
      fun e w' => (∃ x, e = .returned (.int .i64 x) ∧ x ∈ pulsesL) ∧ Cur w' g A n c ∧ (w.alloc (.cells #[.int .i64 2, .int .i64 3, .int .i64 4, .int .i64 6, .int .i64 8, .int .i64 9, .int .i64 12, .int .i64 16, .int .i64 18, .int .i64 24] 3)).grownBy w' (some g)) :=
    pick_any g n c A xs _ (hc.ext ((Ext.refl _).alloc _)) (hr.ext (hv.alloc _)) hn hA (some ⟨w.heap.size, 0, none⟩) 10 pulsesL (RdI.built w pulsesL) (fun a ha => by injection ha with ha; subst ha; have := hc.lt; simp; omega) (by decide)
  have HV0 : Hid (Ext v (w.alloc (.cells #[.int .i64 2, .int .i64 3, .int .i64 4, .int .i64 6, .int .i64 8, .int .i64 9, .int .i64 12, .int .i64 16, .int .i64 18, .int .i64 24] 3))) := hv.alloc _
  have HGV := Lib.hid hg
  clear hc hr hv hA hg
  go_enter Try.func27, Try.ntmps27
  go_wp2_with fail
  refine CP.out.mono ?_
  rintro e w1 ⟨⟨N, rfl, hN⟩, hc1, hg1⟩
  have HC1 := Lib.hid hc1
  have HV1 := Lib.hid (HV0.out.row hg1 HGV.out)
  have HN := Lib.hid hN
  obtain ⟨m, hm⟩ : ∃ m, m = (moF N).length := ⟨_, rfl⟩
  have hmb := pulses_mo N hN
  rw [← hm] at hmb
  have HM := Lib.hid hm
  clear hc1 hg1 hN hm CP HV0
  go_wp2_with fail
  refine (moS_any N w1).mono ?_
  rintro e w2 ⟨vv, rfl, ho, he⟩
  obtain ⟨LA, lc, l2, us, rfl, hl2, _, _⟩ := ho.parts
  obtain rfl : l2 = m := by rw [hl2, HM.out]
  have HO2 := Lib.hid ho
  have HC2 := Lib.hid (HC1.out.ext he)
  have HV2 := Lib.hid (HV1.out.trans he)
  have HGL := Lib.hid HC1.out.lt
  have C3 := Lib.hid (CB.out l2 w2 (by omega) (by omega) HV2.out HC2.out)
  clear ho he hl2 HC1
  go_wp2_with fail
  refine C3.out.mono ?_
  rintro e w3 ⟨⟨x, rfl, hx⟩, hc3, hg3⟩
  have HO3 := Lib.hid ((HO2.out.keptBy hg3 HGL.out).lower HV1.out.size)
  have HV3 := Lib.hid (HV2.out.row hg3 HGV.out)
  obtain ⟨b, o, B, d, hB, hcell, ho3, hd1, hd2⟩ := HO3.out.row x (by rw [← HM.out]; exact hx)
  subst hB
  have HB3 := Lib.hid ho3
  have HD3 := Lib.hid (And.intro hd1 hd2)
  have HMM : Hid ((moF N).getD x [] ∈ moF N) := by
    have : x < (moF N).length := by rw [← HM.out]; exact hx
    simp [List.getD, this, Hid]
  clear hc3 hg3 ho3 hd1 hd2 HO3 HO2 C3
  go_wp2_with fail
  go_ret
  exact ⟨B, d, _, rfl, HB3.out, HD3.out, ⟨N, HN.out, HMM.out⟩, HV3.out⟩
theorem makeMeter_any (n c m : Nat) (A : Option Addr) (xs : List Int) (w : World) (hr : Rd w 1 A n (xs.map (Value.int .u8))) (hn : n ≤ 1048576) (hm : m ≤ 1000) :
    Calls Try.prog 5 #[.slice A n c, .int .i64 (m : Int)] w (RetDrawM w) := by
  have HR := Lib.hid hr
  have HL := Lib.hid hr.block_lt
  clear hr
  go_enter Try.func5, Try.ntmps5
  go_wp2_with fail
  refine (l31New_any _ _ _ _ xs _ HR.out hn hm).mono ?_
  rintro e w1 ⟨g, rfl, hcu, hg, he⟩
  have C := Lib.hid (draw18_any g n c A xs w w1 hcu HR.out hn (fun a ha h0 => by have := HL.out a ha h0; omega) he hg)
  clear hcu hg he
  go_wp2_with fail
  refine C.out.mono ?_
  rintro e w2 ⟨B, d, ys, rfl, ho, hd, hb, he⟩
  have H : Hid (RetDrawM w (.returned (.slice B ys.length d)) w2) := ⟨B, d, ys, rfl, ho, hd, hb, he⟩
  clear ho hd hb he
  go_wp2_with fail
  go_ret
  exact H.out
end Go.Proofs.Ytedfmjijemcpaaa
