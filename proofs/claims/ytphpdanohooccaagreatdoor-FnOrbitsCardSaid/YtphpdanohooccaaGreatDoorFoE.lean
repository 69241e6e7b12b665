/- FnOrbits: draws; the law's own same, rhythms. -/
import Derived.Test.YtphpdanohooccaaGreatDoorCur
import Derived.Test.YtphpdanohooccaaGreatDoorRhyB
namespace Go.Proofs.YtphpdanohooccaaGreatDoor
open Go.RowKit


set_option maxHeartbeats 1000000 in
theorem lsameB_any (A B : Option Addr) (c d : Nat) (xs ys : List Int) (w : World) (hr : RdI w A xs) (hr2 : RdI w B ys) (hl : xs.length ≤ 1048576) (hl2 : ys.length ≤ 1048576) :
    Calls Tryz.prog 33 #[.slice A xs.length c, .slice B ys.length d] w fun e w' => e = .returned (.bool (decide (xs = ys))) ∧ w = w' := by
  obtain ⟨R, hR⟩ : ∃ R, R = decide (xs = ys) := ⟨_, rfl⟩
  obtain ⟨l, hll⟩ : ∃ l, l = xs.length := ⟨_, rfl⟩
  obtain ⟨m, hmm⟩ : ∃ m, m = ys.length := ⟨_, rfl⟩
  have HR := Lib.hid hr
  have HR2 := Lib.hid hr2
  have HL := Lib.hid hll
  have HM := Lib.hid hmm
  have HD := Lib.hid hR
  rw [← hll, ← hmm, ← hR]
  rw [← hll] at hl
  rw [← hmm] at hl2
  clear hr hr2 hll hmm hR
  by_cases hlm : l = m
  · subst hlm
    go_enter Tryz.func33, Tryz.ntmps33
    go_wp2_with fail
    go_loop [14] (fun i => ∃ k : Nat, k ≤ l ∧ i = .int .i64 k ∧ Hid (xs.take k = ys.take k)) (fun i => l - (intOf i).toNat)
    case atStart => exact ⟨0, Nat.zero_le _, rfl, rfl⟩
    case round =>
      obtain ⟨k, hk, rfl, HT⟩ := hrel
      by_cases hlt : k < l
      · have hkx : k < xs.length := by rw [← HL.out]; exact hlt
        have hky : k < ys.length := by rw [← HM.out]; exact hlt
        obtain ⟨b, o, hA, hc⟩ := HR.out.at_ k hkx
        subst hA
        obtain ⟨b2, o2, hB, hc2⟩ := HR2.out.at_ k hky
        subst hB
        obtain ⟨x, hx⟩ : ∃ x, x = xs.getD k 0 := ⟨_, rfl⟩
        obtain ⟨y, hy⟩ : ∃ y, y = ys.getD k 0 := ⟨_, rfl⟩
        rw [← hx] at hc
        rw [← hy] at hc2
        by_cases hxy : x = y
        · have HN : Hid (xs.take (k + 1) = ys.take (k + 1)) := by rw [take_snoc xs k hkx, take_snoc ys k hky, HT.out, ← hx, ← hy, hxy]; exact rfl
          subst hxy
          clear hx hy hkx hky
          go_wp2_with fail
          go_round
          case rel => exact ⟨k + 1, by omega, by go_num, HN.out⟩
          case measure => simp [intOf]; omega
        · have HF : Hid (R = false) := by
            rw [HD.out]
            refine decide_eq_false fun e => hxy ?_
            rw [hx, hy, e]
          have hne : (x != y) = true := by simp [hxy]
          clear hx hy hkx hky hxy
          go_wp2_with fail
          go_ret
          exact ⟨ret_bool HF.out.symm, rfl⟩
      · obtain rfl : k = l := by omega
        have HF : Hid (R = true) := by
          rw [HD.out]
          refine decide_eq_true ?_
          have := HT.out
          rwa [take_all xs k HL.out, take_all ys k HM.out] at this
        go_wp2_with fail
        go_ret
        exact ⟨ret_bool HF.out.symm, rfl⟩
  · have HF : Hid (R = false) := by
      rw [HD.out]
      refine decide_eq_false fun e => hlm ?_
      rw [HL.out, HM.out, e]
    have hli : ¬ (l : Int) = m := by omega
    have hlb : ((l : Int) != (m : Int)) = true := by simp; omega
    go_enter Tryz.func33, Tryz.ntmps33
    go_wp2_with fail
    go_ret
    exact ⟨ret_bool HF.out.symm, rfl⟩

theorem once_any (g n c m : Nat) (A : Option Addr) (xs : List Int) (w : World) (hc : Cur w g A n c) (hr : Rd w 1 A n (xs.map (Value.int .u8))) (hn : n ≤ 1048576) (hA : ∀ a, A = some a → 0 < n → a.block < g) (hm : 1 ≤ m ∧ m ≤ 256) :
    Calls Tryz.prog 49 #[.pointer (some ⟨g, 0, none⟩), .int .i64 (m : Int)] w fun e w' => (∃ b, e = .returned (.bool b)) ∧ Cur w' g A n c ∧ w.grownBy w' (some g) := by
  have CB := Lib.hid (below_any g n c m A xs w hc hr hn hA hm)
  clear hc hr hA
  go_enter Tryz.func49, Tryz.ntmps49
  go_wp2_with fail
  refine CB.out.mono ?_
  rintro e w1 ⟨⟨x, rfl, hx⟩, hc, hg⟩
  have HC := Lib.hid hc
  have HG := Lib.hid hg
  clear hc hg
  go_wp2_with fail
  go_ret
  exact ⟨⟨_, rfl⟩, HC.out, HG.out⟩

theorem Bx2.keptBy {w w' : World} {g1 g : Nat} {t : TypeId} {a b : Value} (h : Bx2 w g1 t a b) (hg : w.grownBy w' (some g)) (hne : g1 ≠ g) : Bx2 w' g1 t a b :=
  (hg.block g1 h.lt (by simp; omega)).trans h

theorem Cur.setFar {w : World} {g n c : Nat} {A : Option Addr} (h : Cur w g A n c) {p : Addr} (hp : g ≠ p.block) (u : Value) : Cur (w.setCell p u) g A n c := by
  obtain ⟨i, hh, e, h0⟩ := h
  exact ⟨i, hh, (Below.heap_setCell w p u g hp).trans e, h0⟩

/-- Rising pulses below p. -/
def UpTo (p : Nat) (ys : List Int) : Prop := ys.Pairwise (· < ·) ∧ ∀ y ∈ ys, 0 ≤ y ∧ y < (p : Int)
theorem UpTo.snoc {p : Nat} {ys : List Int} (h : UpTo p ys) : UpTo (p + 1) (ys ++ [(p : Int)]) := by
  refine ⟨List.pairwise_append.2 ⟨h.1, List.pairwise_singleton _ _, fun a ha b hb => ?_⟩, fun y hy => ?_⟩
  · rw [List.mem_singleton] at hb
    have := h.2 a ha
    omega
  · rw [List.mem_append, List.mem_singleton] at hy
    rcases hy with hy | hy
    · have := h.2 y hy; omega
    · omega
theorem UpTo.skip {p : Nat} {ys : List Int} (h : UpTo p ys) : UpTo (p + 1) ys := ⟨h.1, fun y hy => by have := h.2 y hy; omega⟩
theorem UpTo.rhy {n : Nat} {ys : List Int} (h : UpTo n ys) (h1 : 1 ≤ n) (h2 : n ≤ 24) : rhyB n ys = true := by
  refine rhyB_of (inB_iff.2 ⟨by omega, by omega⟩) fun j hj => ?_
  have h3 := h.2 _ (getD_mem0 hj)
  unfold okJ
  rw [Bool.and_eq_true, Bool.or_eq_true, decide_eq_true_eq, decide_eq_true_eq]
  refine ⟨inB_iff.2 ⟨by omega, by omega⟩, ?_⟩
  by_cases h0 : j = 0
  · exact Or.inl h0
  · have := List.pairwise_iff_getElem.1 h.1 (j - 1) j (by omega) hj (by omega)
    refine Or.inr ?_
    simpa [List.getD, hj, show j - 1 < ys.length by omega] using this


/-- What l02Draw and MakeRhythm draw. -/
def RetDrawT (v : World) (e : Ending) (w' : World) : Prop := ∃ (N : Nat) (B : Option Addr) (d : Nat) (ys : List Int), (1 ≤ N ∧ N ≤ 12) ∧ e = .returned (.agg #[.int .i64 N, .slice B ys.length d]) ∧ OwI w' v.heap.size B d ys ∧ rhyB N ys = true ∧ Ext v w'
set_option maxHeartbeats 4000000 in
theorem draw02_any (g n c : Nat) (A : Option Addr) (xs : List Int) (v w : World) (hcu : Cur w g A n c) (hr : Rd v 1 A n (xs.map (Value.int .u8))) (hn : n ≤ 1048576) (he : Ext v w) (hg : v.heap.size ≤ g) :
    Calls Tryz.prog 22 #[.pointer (some ⟨g, 0, none⟩), .int .i64 12] w (RetDrawT v) := by
  have HR := Lib.hid hr
  have HL := Lib.hid hr.block_lt
  have hgl : g < w.heap.size := hcu.lt
  have HQ0 := Lib.hid (Bx2.new w 25 (.int .i64 0) (.slice none 0 0))
  have HX0 : Hid (Ext v (w.alloc (.cells #[.int .i64 0, .slice none 0 0] 25))) := he.alloc _
  have HC0 := Lib.hid (hcu.ext ((Ext.refl w).alloc (.cells #[.int .i64 0, .slice none 0 0] 25)))
  have CB := Lib.hid (below_any g n c 12 A xs _ HC0.out (hr.ext HX0.out) hn (fun a ha h0 => by have := HL.out a ha h0; omega) ⟨by omega, by omega⟩)
  have HV : Hid (v.heap.size ≤ w.heap.size) := he.size
  clear hr hcu he
  go_enter Tryz.func22, Tryz.ntmps22
  go_wp2_with fail
  refine CB.out.mono ?_
  rintro e wb ⟨⟨x, rfl, hx⟩, hc1, hg1⟩
  have hWb : w.heap.size < wb.heap.size := by have := hg1.size; simp at this; omega
  obtain ⟨N, hN⟩ : ∃ N, N = x + 1 := ⟨_, rfl⟩
  have hNe : (1 : Int) + (x : Int) = (N : Int) := by omega
  have hN1 : 1 ≤ N := by omega
  have hN12 : N ≤ 12 := by omega
  have HQb := Lib.hid (HQ0.out.keptBy hg1 (by omega))
  have HXb := Lib.hid (HX0.out.row hg1 (by omega))
  have HG1 := Lib.hid (Bx2.new wb 25 (.int .i64 N) (.slice none 0 0))
  have HX1 := Lib.hid (HXb.out.alloc (.cells #[.int .i64 N, .slice none 0 0] 25))
  have HQ1 := Lib.hid (HQb.out.ext ((Ext.refl wb).alloc (.cells #[.int .i64 N, .slice none 0 0] 25)))
  have HC1 := Lib.hid (hc1.ext ((Ext.refl wb).alloc (.cells #[.int .i64 N, .slice none 0 0] 25)))
  have hgw : g < wb.heap.size := by omega
  obtain ⟨w1, hw1⟩ : ∃ w1, w1 = wb := ⟨_, rfl⟩
  rw [← hw1] at HG1 HX1 HQ1 HC1 hgw hWb ⊢
  clear hc1 hg1 HQ0 HX0 HC0 CB HQb HXb hx hN hw1
  go_wp2_with fail
  clear hNe

  go_loopw [7] (fun i wr => ∃ (p k : Nat) (B : Option Addr) (d : Nat) (ys : List Int), p ≤ N ∧ i = .int .i64 p ∧ k ≤ p ∧ Hid (ys.length = k) ∧ Hid (UpTo p ys) ∧ Hid (Bx2 wr w1.heap.size 25 (.int .i64 N) (.slice B k d)) ∧ Hid (Bx2 wr w.heap.size 25 (.int .i64 0) (.slice none 0 0)) ∧ Hid (Cur wr g A n c) ∧ Hid (OwI wr v.heap.size B d ys) ∧ Hid (Ext v wr)) (fun i _ => N - (intOf i).toNat)
  case atStart => exact ⟨0, 0, none, 0, [], Nat.zero_le _, rfl, Nat.le_refl _, rfl, ⟨List.Pairwise.nil, fun y hy => absurd hy (by simp)⟩, HG1.out, HQ1.out, HC1.out, OwI.nil _ _, HX1.out⟩
  case round =>
    clear HG1 HQ1 HC1 HX1
    obtain ⟨p, k, B, d, ys, hp, rfl, hk, HK, HU, HG, HQ, HC, HO, HE⟩ := hrel
    obtain ⟨q0, q1, p0, p1⟩ := HG.out.cells
    by_cases hlt : p < N
    · have CO := Lib.hid (once_any g n c 2 A xs wr HC.out (HR.out.ext HE.out) hn (fun a ha h0 => by have := HL.out a ha h0; omega) ⟨by omega, by omega⟩)
      go_wp2_with fail
      refine CO.out.mono ?_
      rintro e w2 ⟨⟨b, rfl⟩, hc2, hg2⟩
      have HC2 := Lib.hid hc2
      have HG2 := Lib.hid (HG.out.keptBy hg2 (by omega))
      have HQ2 := Lib.hid (HQ.out.keptBy hg2 (by omega))
      have HO2 := Lib.hid (HO.out.keptBy hg2 (HC.out.ne HO.out))
      have HE2 := Lib.hid (HE.out.row hg2 (by omega))
      clear hc2 hg2 HG HQ HC HO HE CO q0 q1 p0 p1
      obtain ⟨q0, q1, p0, p1⟩ := HG2.out.cells
      cases b with
      | false =>
        go_wp2_with fail
        go_roundw
        case rel => exact ⟨p + 1, k, B, d, ys, by omega, by go_num, by omega, HK, HU.out.skip, HG2.out, HQ2.out, HC2.out, HO2.out, HE2.out⟩
        case measure => simp [intOf]; omega
      | true =>
        go_wp2_with (at_builtin; refine app_ints v rfl _ _ rfl B d k ys _ 1 1 [(p : Int)] rfl rfl HK.out rfl (HO2.out.ext ((Ext.refl _).alloc _)) (RdI.built w2 [(p : Int)]) (HE2.out.alloc _) (by omega) ?_; intro A' c' w3 h1 h2 h3; have HO3 := Lib.hid h1; have HE3 := Lib.hid h2; have HG3 := Lib.hid ((HG2.out.ext ((Ext.refl _).alloc _)).grown (by decide) (HO2.out.ext ((Ext.refl _).alloc _)) h3); have HQ3 := Lib.hid ((HQ2.out.ext ((Ext.refl _).alloc _)).grown (by decide) (HO2.out.ext ((Ext.refl _).alloc _)) h3); have HC3 := Lib.hid ((HC2.out.ext ((Ext.refl _).alloc _)).grown (HO2.out.ext ((Ext.refl _).alloc _)) h3); obtain ⟨r0, r1, s0, s1⟩ := HG3.out.cells; clear h1 h2 h3)
        go_roundw
        case rel => exact ⟨p + 1, k + 1, A', c', ys ++ [(p : Int)], by omega, by go_num, by omega, by rw [List.length_append, HK.out]; exact rfl, HU.out.snoc, HG3.out.set1 _, HQ3.out.far (by simp only []; omega) _, HC3.out.setFar (by simp only []; omega) _, HO3.out.setFar (fun ad had => HG3.out.ne (by decide) HO3.out ad had) _, HE3.out.setCell (by simp only []; have := HL.out; omega) _⟩
        case measure => simp [intOf]; omega
    · obtain rfl : p = N := by omega
      have HNE : Hid (∀ ad, B = some ad → ad.block ≠ w.heap.size) := fun ad had => HQ.out.ne (by decide) HO.out ad had
      obtain ⟨z0, z1, y0, y1⟩ := HQ.out.cells
      go_wp2_with fail
      refine bodyPost_ret (v := .agg #[.int .i64 p, .slice B k d]) (by simp [results, Tryz.results22, go_sem, z0, z1]) rfl ?_
      have := HK.out
      subst this
      exact ⟨p, B, d, ys, ⟨by omega, by omega⟩, rfl, (HO.out.setFar HNE.out _).setFar HNE.out _, HU.out.rhy (by omega) (by omega), (HE.out.setCell (by have := HV.out; simp only []; omega) _).setCell (by have := HV.out; simp only []; omega) _⟩
end Go.Proofs.YtphpdanohooccaaGreatDoor
