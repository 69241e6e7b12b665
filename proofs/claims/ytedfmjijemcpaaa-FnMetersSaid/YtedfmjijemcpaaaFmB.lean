/- FnMeters: contracts of MakeOf, EvenRhythm, BeginsOf, MeterSize, ScoreIn. -/
import Derived.Test.YtedfmjijemcpaaaFmA
namespace Go.Proofs.Ytedfmjijemcpaaa
open Go.RowKit

theorem Bx2.keptBy {w w' : World} {g1 g : Nat} {t : TypeId} {a b : Value} (h : Bx2 w g1 t a b) (hg : w.grownBy w' (some g)) (hne : g1 ≠ g) : Bx2 w' g1 t a b :=
  (hg.block g1 h.lt (by simp; omega)).trans h
theorem Cur.setFar {w : World} {g n c : Nat} {A : Option Addr} (h : Cur w g A n c) {p : Addr} (hp : g ≠ p.block) (u : Value) : Cur (w.setCell p u) g A n c := by
  obtain ⟨i, hh, e, h0⟩ := h
  exact ⟨i, hh, (Below.heap_setCell w p u g hp).trans e, h0⟩
/-- Rising pulses below p. -/
def UpTo (p : Nat) (ys : List Int) : Prop := ys.Pairwise (· < ·) ∧ ∀ y ∈ ys, 0 ≤ y ∧ y < (p : Int)
theorem UpTo.snoc {p : Nat} {ys : List Int} (h : UpTo p ys) : UpTo (p + 1) (ys ++ [(p : Int)]) := by
  refine ⟨List.pairwise_append.2 ⟨h.1, List.pairwise_singleton _ _, fun a ha b hb => ?_⟩, fun y hy => ?_⟩
  · rw [List.mem_singleton] at hb
    have := h.2 a ha
    omega
  · rw [List.mem_append, List.mem_singleton] at hy
    rcases hy with hy | hy
    · have := h.2 y hy; omega
    · omega
theorem UpTo.skip {p : Nat} {ys : List Int} (h : UpTo p ys) : UpTo (p + 1) ys := ⟨h.1, fun y hy => by have := h.2 y hy; omega⟩
theorem UpTo.rhy {n : Nat} {ys : List Int} (h : UpTo n ys) (h1 : 1 ≤ n) (h2 : n ≤ 24) : rhyB n ys = true := by
  refine rhyB_of (inB_iff.2 ⟨by omega, by omega⟩) fun j hj => ?_
  have h3 := h.2 _ (mem_getD hj)
  unfold okJ
  rw [Bool.and_eq_true, Bool.or_eq_true, decide_eq_true_eq, decide_eq_true_eq]
  refine ⟨inB_iff.2 ⟨by omega, by omega⟩, ?_⟩
  by_cases h0 : j = 0
  · exact Or.inl h0
  · have := List.pairwise_iff_getElem.1 h.1 (j - 1) j (by omega) hj (by omega)
    refine Or.inr ?_
    simpa [List.getD, hj, show j - 1 < ys.length by omega] using this

def RetDrawR (v : World) (N : Nat) (e : Ending) (w' : World) : Prop := ∃ B d ys, e = .returned (.agg #[.int .i64 N, .slice B ys.length d]) ∧ OwI w' v.heap.size B d ys ∧ rhyB N ys = true ∧ Ext v w'
set_option maxHeartbeats 4000000 in
theorem makeOf_any (n c m N : Nat) (A : Option Addr) (xs : List Int) (w : World) (hr : Rd w 1 A n (xs.map (Value.int .u8))) (hn : n ≤ 1048576) (hm : m ≤ 1000) (h1 : 1 ≤ N) (h24 : N ≤ 24) :
    Calls Try.prog 12 #[.slice A n c, .int .i64 (m : Int), .int .i64 (N : Int)] w (RetDrawR w N) := by
  have HR := Lib.hid hr
  have HL := Lib.hid hr.block_lt
  have HQ0 := Lib.hid (Bx2.new w 29 (.int .i64 0) (.slice none 0 0))
  have HX0 : Hid (Ext w (w.alloc (.cells #[.int .i64 0, .slice none 0 0] 29))) := (Ext.refl w).alloc _
  have hif1 : (if (N : Int) < 24 then (N : Int) else 24) = N := by split <;> omega
  have hif2 : (if (1 : Int) < N then (N : Int) else 1) = N := by split <;> omega
  clear hr
  go_enter Try.func12, Try.ntmps12
  go_wp2_with fail
  refine (l31New_any _ _ _ _ xs _ (HR.out.ext HX0.out) hn hm).mono ?_
  rintro e w1 ⟨g, rfl, hcu, hg, he⟩
  have hg0 : w.heap.size < g := by simp at hg; omega
  have HX1 := Lib.hid ((HX0.out.trans he).alloc (.cells #[.int .i64 N, .slice none 0 0] 29))
  have HC1 := Lib.hid (hcu.ext ((Ext.refl w1).alloc (.cells #[.int .i64 N, .slice none 0 0] 29)))
  have HQ1 := Lib.hid (HQ0.out.ext (he.alloc (.cells #[.int .i64 N, .slice none 0 0] 29)))
  have HG1 := Lib.hid (Bx2.new w1 29 (.int .i64 N) (.slice none 0 0))
  have hgw : g < w1.heap.size := hcu.lt
  clear hcu hg he HQ0 HX0
  go_wp2_with fail
  clear hif1 hif2
  go_loopw [9] (fun i wr => ∃ (p k : Nat) (B : Option Addr) (d : Nat) (ys : List Int), p ≤ N ∧ i = .int .i64 p ∧ k ≤ p ∧ Hid (ys.length = k) ∧ Hid (UpTo p ys) ∧ Hid (Bx2 wr w1.heap.size 29 (.int .i64 N) (.slice B k d)) ∧ Hid (Bx2 wr w.heap.size 29 (.int .i64 0) (.slice none 0 0)) ∧ Hid (Cur wr g A n c) ∧ Hid (OwI wr w.heap.size B d ys) ∧ Hid (Ext w wr)) (fun i _ => N - (intOf i).toNat)
  case atStart => exact ⟨0, 0, none, 0, [], Nat.zero_le _, rfl, Nat.le_refl _, rfl, ⟨List.Pairwise.nil, fun y hy => absurd hy (by simp)⟩, HG1.out, HQ1.out, HC1.out, OwI.nil _ _, HX1.out⟩
  case round =>
    clear HG1 HQ1 HC1 HX1
    obtain ⟨p, k, B, d, ys, hp, rfl, hk, HK, HU, HG, HQ, HC, HO, HE⟩ := hrel
    obtain ⟨q0, q1, p0, p1⟩ := HG.out.cells
    by_cases hlt : p < N
    · have CO := Lib.hid (once_any g n c 2 A xs wr HC.out (HR.out.ext HE.out) hn (fun a ha h0 => by have := HL.out a ha h0; omega) ⟨by omega, by omega⟩)
      go_wp2_with fail
      refine CO.out.mono ?_
      rintro e w2 ⟨⟨b, rfl⟩, hc2, hg2⟩
      have HC2 := Lib.hid hc2
      have HG2 := Lib.hid (HG.out.keptBy hg2 (by omega))
      have HQ2 := Lib.hid (HQ.out.keptBy hg2 (by omega))
      have HO2 := Lib.hid (HO.out.keptBy hg2 (HC.out.ne HO.out))
      have HE2 := Lib.hid (HE.out.row hg2 (by omega))
      clear hc2 hg2 HG HQ HC HO HE CO q0 q1 p0 p1
      obtain ⟨q0, q1, p0, p1⟩ := HG2.out.cells
      cases b with
      | false =>
        go_wp2_with fail
        go_roundw
        case rel => exact ⟨p + 1, k, B, d, ys, by omega, by go_num, by omega, HK, HU.out.skip, HG2.out, HQ2.out, HC2.out, HO2.out, HE2.out⟩
        case measure => simp [intOf]; omega
      | true =>
        go_wp2_with (at_builtin; refine app_ints w rfl _ _ rfl B d k ys _ 1 1 [(p : Int)] rfl rfl HK.out rfl (HO2.out.ext ((Ext.refl _).alloc _)) (RdI.built w2 [(p : Int)]) (HE2.out.alloc _) (by omega) ?_; intro A' c' w3 h1 h2 h3; have HO3 := Lib.hid h1; have HE3 := Lib.hid h2; have HG3 := Lib.hid ((HG2.out.ext ((Ext.refl _).alloc _)).grown (by decide) (HO2.out.ext ((Ext.refl _).alloc _)) h3); have HQ3 := Lib.hid ((HQ2.out.ext ((Ext.refl _).alloc _)).grown (by decide) (HO2.out.ext ((Ext.refl _).alloc _)) h3); have HC3 := Lib.hid ((HC2.out.ext ((Ext.refl _).alloc _)).grown (HO2.out.ext ((Ext.refl _).alloc _)) h3); obtain ⟨r0, r1, s0, s1⟩ := HG3.out.cells; clear h1 h2 h3)
        go_roundw
        case rel => exact ⟨p + 1, k + 1, A', c', ys ++ [(p : Int)], by omega, by go_num, by omega, by rw [List.length_append, HK.out]; exact rfl, HU.out.snoc, HG3.out.set1 _, HQ3.out.far (by simp only []; omega) _, HC3.out.setFar (by simp only []; omega) _, HO3.out.setFar (fun ad had => HG3.out.ne (by decide) HO3.out ad had) _, HE3.out.setCell (by simp only []; have := HL.out; omega) _⟩
        case measure => simp [intOf]; omega
    · obtain rfl : p = N := by omega
      have HNE : Hid (∀ ad, B = some ad → ad.block ≠ w.heap.size) := fun ad had => HQ.out.ne (by decide) HO.out ad had
      obtain ⟨z0, z1, y0, y1⟩ := HQ.out.cells
      go_wp2_with fail
      refine bodyPost_ret (v := .agg #[.int .i64 p, .slice B k d]) (by simp [results, Try.results12, go_sem, z0, z1]) rfl ?_
      have := HK.out
      subst this
      exact ⟨B, d, ys, rfl, (HO.out.setFar HNE.out _).setFar HNE.out _, HU.out.rhy h1 h24, (HE.out.setCell (by simp) _).setCell (by simp) _⟩

/-- EvenRhythm of as many beats as pulses. -/
theorem evenS_any (k n : Nat) (w : World) (h0 : 1 ≤ n) (h1 : n ≤ 24) (h2 : k ≤ n) :
    Calls Try.prog 11 #[.int .i64 k, .int .i64 n] w (RetRB w ((n : Int), evL k n) true) := by
  have CS : Hid (∀ W : World, Calls Try.prog 37 #[.int .i64 k, .int .i64 n, .int .i64 0] W (RetR W ((n : Int), evL k n))) := fun W => evS_any k n W h0 h1 h2
  have HQ0 := Lib.hid (Bx2.new w 29 (.int .i64 0) (.slice none 0 0))
  have HX0 : Hid (Ext w (w.alloc (.cells #[.int .i64 0, .slice none 0 0] 29))) := (Ext.refl w).alloc _
  have b1 : inB (n : Int) 1 24 = true := inB_iff.2 ⟨by omega, by omega⟩
  have b2 : inB (k : Int) 0 n = true := inB_iff.2 ⟨by omega, by omega⟩
  have COK : Hid (∀ W : World, Calls Try.prog 36 #[.int .i64 k, .int .i64 n] W fun e w' => e = .returned (.bool true) ∧ W = w') := fun W => by
    have B1 := Lib.hid b1
    have B2 := Lib.hid b2
    clear b1 b2 CS HQ0 HX0
    go_enter Try.func36, Try.ntmps36
    go_wp2_with fail
    refine (l01In_any _ _ _ _).mono ?_
    rintro e w1 ⟨rfl, rfl⟩
    rw [B1.out]
    go_wp2_with fail
    refine (l01In_any _ _ _ _).mono ?_
    rintro e w1 ⟨rfl, rfl⟩
    rw [B2.out]
    go_wp2_with fail
    go_ret
    exact ⟨rfl, rfl⟩
  obtain ⟨zs, hzs⟩ : ∃ zs, zs = evL k n := ⟨_, rfl⟩
  rw [← hzs] at CS ⊢
  clear hzs b1 b2
  go_enter Try.func11, Try.ntmps11
  go_wp2_with fail
  refine (COK.out _).mono ?_
  rintro e w1 ⟨rfl, rfl⟩
  go_wp2_with fail
  refine (CS.out _).mono ?_
  intro e w1 hret
  obtain ⟨A, c, rfl, ho, he⟩ := hret.parts
  have HQ := Lib.hid (HQ0.out.ext he)
  have HO := Lib.hid (ho.lower HX0.out.size)
  have HX := Lib.hid (HX0.out.trans he)
  have HNE : Hid (∀ ad, A = some ad → ad.block ≠ w.heap.size) := fun ad had => HQ.out.ne (by decide) HO.out ad had
  clear hret ho he HQ0 HX0
  obtain ⟨z0, z1, y0, y1⟩ := HQ.out.cells
  go_wp2_with fail
  refine bodyPost_ret (v := .tuple #[.agg #[.int .i64 n, .slice A zs.length c], .bool true]) (by simp [results, Try.results11, go_sem, z0, z1]) rfl ?_
  exact retRB_intro rfl ((HO.out.setFar HNE.out _).setFar HNE.out _) ((HX.out.setCell (by simp) _).setCell (by simp) _)

theorem begins_any (A : Option Addr) (c : Nat) (xs : List Int) (i K N : Nat) (w : World) (hr : RdI w A xs) (hm : metB xs = true) (hi : i < xs.length) (hcap : xs.length ≤ c) (hcm : c ≤ maxLen) (hK : prodF (xs.take (i + 1)) = (K : Int)) (hN : prodF xs = (N : Int)) (h1 : 1 ≤ K) (h2 : K ≤ N) (h24 : N ≤ 24) :
    Calls Try.prog 9 #[.slice A xs.length c, .int .i64 (i : Int)] w (RetRB w ((N : Int), evL K N) true) := by
  have hmi := metB_iff hm
  have CM : Hid (∀ V : World, Ext w V → Calls Try.prog 8 #[.slice A xs.length c] V fun e w' => e = .returned (.bool true) ∧ Ext V w') := fun V h => by
    have := metI_any A c xs V (hr.ext h) (by omega)
    rwa [hm] at this
  have CP : Hid (∀ V : World, Ext w V → Calls Try.prog 29 #[.slice A xs.length c] V fun e w' => e = .returned (.int .i64 N) ∧ V = w') := fun V h => by
    have := prodI_any A c xs V (hr.ext h) (by omega) hmi.2.1
    rwa [hN] at this
  have CQ : Hid (∀ (V : World), Ext w V → Calls Try.prog 29 #[.slice A (i + 1) c] V fun e w' => e = .returned (.int .i64 K) ∧ V = w') := fun V h => by
    have := prodI_any A c (xs.take (i + 1)) V ((hr.ext h).take (i + 1) (by omega)) (by rw [List.length_take]; omega) (hmi.2.1.take _)
    rwa [List.length_take, Nat.min_eq_left (by omega), hK] at this
  have CL : Hid (∀ V : World, Calls Try.prog 33 #[.int .i64 K, .int .i64 N] V (RetR V ((N : Int), evL K N))) := fun V => layer_any K N V h1 h24 h2
  have HQ0 := Lib.hid (Bx2.new w 29 (.int .i64 0) (.slice none 0 0))
  have HX0 : Hid (Ext w (w.alloc (.cells #[.int .i64 0, .slice none 0 0] 29))) := (Ext.refl w).alloc _
  obtain ⟨l, hl⟩ : ∃ l, l = xs.length := ⟨_, rfl⟩
  obtain ⟨zs, hzs⟩ : ∃ zs, zs = evL K N := ⟨_, rfl⟩
  have hl5 : l ≤ 5 := by omega
  rw [← hl] at CM CP hi hcap ⊢
  rw [← hzs] at CL ⊢
  have b1 : inB (i : Int) 0 ((l : Int) - 1) = true := inB_iff.2 ⟨by omega, by omega⟩
  have B1 := Lib.hid b1
  have hc1 : (i : Int) + 1 ≤ c := by omega
  have hc2 : ((i : Int) + 1).toNat = i + 1 := by omega
  unfold maxLen at hcm
  clear hr hm hmi hl hK hN hzs b1
  go_enter Try.func9, Try.ntmps9
  go_wp2_with fail
  refine (CM.out _ HX0.out).mono ?_
  rintro e w1 ⟨rfl, e1⟩
  have X1 := Lib.hid (HX0.out.trans e1)
  have HQ1 := Lib.hid (HQ0.out.ext e1)
  clear e1
  go_wp2_with fail
  refine (within_any _ _ _ _).mono ?_
  rintro e w2 ⟨rfl, rfl⟩
  rw [B1.out]
  go_wp2_with fail
  refine (CQ.out _ X1.out).mono ?_
  rintro e w2 ⟨rfl, rfl⟩
  go_wp2_with fail
  refine (CP.out _ X1.out).mono ?_
  rintro e w2 ⟨rfl, rfl⟩
  go_wp2_with fail
  refine (CL.out _).mono ?_
  intro e w3 hret
  obtain ⟨B, d, rfl, ho, he⟩ := hret.parts
  have HQ := Lib.hid (HQ1.out.ext he)
  have HO := Lib.hid (ho.lower X1.out.size)
  have HX := Lib.hid (X1.out.trans he)
  have HNE : Hid (∀ ad, B = some ad → ad.block ≠ w.heap.size) := fun ad had => HQ.out.ne (by decide) HO.out ad had
  clear hret ho he HQ0 HQ1 HX0
  obtain ⟨z0, z1, y0, y1⟩ := HQ.out.cells
  go_wp2_with fail
  refine bodyPost_ret (v := .tuple #[.agg #[.int .i64 N, .slice B zs.length d], .bool true]) (by simp [results, Try.results9, go_sem, z0, z1]) rfl ?_
  exact retRB_intro rfl ((HO.out.setFar HNE.out _).setFar HNE.out _) ((HX.out.setCell (by simp) _).setCell (by simp) _)

theorem msz_any (A : Option Addr) (c : Nat) (xs : List Int) (w : World) (hr : RdI w A xs) (hm : metB xs = true) :
    Calls Try.prog 6 #[.slice A xs.length c] w fun e w' => e = .returned (.int .i64 (prodF xs)) ∧ Ext w w' := by
  have hmi := metB_iff hm
  have CM : Hid (∀ V : World, Ext w V → Calls Try.prog 8 #[.slice A xs.length c] V fun e w' => e = .returned (.bool true) ∧ Ext V w') := fun V h => by
    have := metI_any A c xs V (hr.ext h) (by omega)
    rwa [hm] at this
  have CP : Hid (∀ V : World, Ext w V → Calls Try.prog 29 #[.slice A xs.length c] V fun e w' => e = .returned (.int .i64 (prodF xs)) ∧ V = w') := fun V h => prodI_any A c xs V (hr.ext h) (by omega) hmi.2.1
  obtain ⟨l, hl⟩ : ∃ l, l = xs.length := ⟨_, rfl⟩
  obtain ⟨P, hP⟩ : ∃ P, P = prodF xs := ⟨_, rfl⟩
  rw [← hl, ← hP] at CP
  rw [← hl] at CM
  rw [← hl, ← hP]
  clear hr hm hmi hl hP
  go_enter Try.func6, Try.ntmps6
  go_wp2_with fail
  refine (CM.out _ (Ext.refl w)).mono ?_
  rintro e w1 ⟨rfl, e1⟩
  have X1 := Lib.hid e1
  clear e1
  go_wp2_with fail
  refine (CP.out _ X1.out).mono ?_
  rintro e w2 ⟨rfl, rfl⟩
  go_wp2_with fail
  go_ret
  exact ⟨rfl, X1.out⟩

theorem scP_bd (bs xs : List Int) : ∀ i : Nat, 0 ≤ scP bs xs i ∧ scP bs xs i ≤ xs.length * i := by
  intro i
  induction i with
  | zero => simp [scP]
  | succ i ih =>
    have := wtK_bd xs (bs.getD i 0) xs.length
    simp only [scP]
    unfold wtF
    rw [Int.natCast_add, Int.mul_add]
    omega
set_option maxHeartbeats 2000000 in
theorem score_any (A : Option Addr) (c : Nat) (n : Int) (bs : List Int) (B : Option Addr) (d : Nat) (xs : List Int) (w : World) (hr : RdI w A bs) (hv : rhyB n bs = true) (hm : RdI w B xs) (hx : metB xs = true) (hn : n = prodF xs) (hcap : xs.length ≤ d) (hcm : d ≤ maxLen) :
    Calls Try.prog 14 #[.agg #[.int .i64 n, .slice A bs.length c], .slice B xs.length d] w fun e w' => e = .returned (.int .i64 (scP bs xs bs.length)) ∧ Ext w w' := by
  have hvi := rhyB_iff hv
  have hl24 := rhyB_len hv
  have hxi := metB_iff hx
  obtain ⟨N, hN⟩ := Int.eq_ofNat_of_zero_le (show 0 ≤ n by omega)
  have CF : Hid (∀ V : World, Ext w V → Calls Try.prog 34 #[.agg #[.int .i64 n, .slice A bs.length c], .slice B xs.length d] V fun e w' => e = .returned (.bool true) ∧ Ext V w') := fun V h => fitI_any A c n bs B d xs V (hr.ext h) hv (hm.ext h) hx hn
  have CW : Hid (∀ V : World, Ext w V → Calls Try.prog 30 #[.slice B xs.length d] V (RetI V (wtL xs xs.length N))) := fun V h => by
    have := weights_any B d xs V (hm.ext h) hx hcap hcm
    rwa [← hn, hN, Int.toNat_natCast] at this
  have HV : Hid (∀ j, j < bs.length → 0 ≤ bs.getD j 0 ∧ bs.getD j 0 ≤ n - 1) := fun j hj => (hvi.2 j hj).1
  have HR := Lib.hid hr
  subst hN
  obtain ⟨l, hll⟩ : ∃ l, l = bs.length := ⟨_, rfl⟩
  obtain ⟨m, hmm⟩ : ∃ m, m = xs.length := ⟨_, rfl⟩
  have HL := Lib.hid hll
  have HM := Lib.hid hmm
  have hl9 : l ≤ 24 := by omega
  have hm5 : m ≤ 5 := by omega
  rw [← hll, ← hmm] at CF
  rw [← hmm] at CW
  rw [← hll, ← hmm]
  have HX0 : Hid (Ext w (w.alloc (.cells #[.int .i64 N, .slice A l c] 29))) := (Ext.refl w).alloc _
  have HG0 := Lib.hid (Bx2.new w 29 (.int .i64 N) (.slice A l c))
  clear hr hv hm hx hn hcap hcm hvi hl24 hxi hll hmm
  go_enter Try.func14, Try.ntmps14
  obtain ⟨q0, q1, _, _⟩ := HG0.out.cells
  go_wp2_with fail
  refine (CF.out _ HX0.out).mono ?_
  rintro e w1 ⟨rfl, e1⟩
  have X1 := Lib.hid (HX0.out.trans e1)
  have HG1 := Lib.hid (HG0.out.ext e1)
  clear e1 q0 q1 HG0
  obtain ⟨q0, q1, _, _⟩ := HG1.out.cells
  go_wp2_with fail
  clear q0 q1
  go_loopw [5, 15] (fun s i wr => ∃ k : Nat, k ≤ l ∧ i = .int .i64 k ∧ s = .int .i64 (scP bs xs k) ∧ Hid (Ext w wr)) (fun _ i _ => l - (intOf i).toNat)
  case atStart => exact ⟨0, Nat.zero_le _, rfl, rfl, X1.out⟩
  case round =>
    obtain ⟨k, hk, rfl, rfl, HE⟩ := hrel
    by_cases hlt : k < l
    · have hkx : k < bs.length := by rw [← HL.out]; exact hlt
      obtain ⟨b, o, hA, hc⟩ := (HR.out.ext HE.out).at_ k hkx
      have hpb := HV.out k hkx
      have HSI : Hid (scP bs xs (k + 1) = scP bs xs k + wtF xs (bs.getD k 0)) := rfl
      obtain ⟨P, hP⟩ := Int.eq_ofNat_of_zero_le hpb.1
      rw [hP] at hc hpb HSI
      have hPN : P < N := by omega
      have hsy := scP_bd bs xs k
      have hsyb : (xs.length : Int) * (k : Int) ≤ 5 * 24 := Int.mul_le_mul (by have := HM.out; omega) (by omega) (by omega) (by omega)
      have hwb := wtK_bd xs (P : Int) xs.length
      have HWF : Hid (wtK xs m P = wtF xs P) := by unfold wtF; rw [HM.out]; exact rfl
      obtain ⟨v, hv⟩ : ∃ v, v = wtF xs P := ⟨_, rfl⟩
      rw [← hv] at HSI HWF
      have hvb : 0 ≤ v ∧ v ≤ 5 := by have := HM.out; unfold wtF at hv; omega
      obtain ⟨T, hT⟩ : ∃ T, T = scP bs xs k := ⟨_, rfl⟩
      rw [← hT] at hsy HSI ⊢
      have hTb : 0 ≤ T ∧ T ≤ 120 := by omega
      subst hA
      clear hP hT hsy hsyb hkx hpb hwb hv
      go_wp2_with fail
      refine (CW.out _ HE.out).mono ?_
      rintro e w2 ⟨WA, wc, rfl, ow, e2⟩
      have HWL := Lib.hid (wtL_len xs m N)
      obtain ⟨wb, wo, hWA, hcw⟩ := ow.rd.at_ P (by rw [HWL.out]; exact hPN)
      rw [wtL_get hPN, HWF.out] at hcw
      rw [HWL.out]
      have HE2 := Lib.hid (HE.out.trans e2)
      subst hWA
      clear ow e2 hc
      go_wp2_with fail
      go_roundw
      case rel => exact ⟨k + 1, by omega, by go_num, by rw [HSI.out], HE2.out⟩
      case measure => simp [intOf]; omega
    · obtain rfl : k = l := by omega
      go_wp2_with fail
      go_ret
      exact ⟨rfl, HE.out⟩
end Go.Proofs.Ytedfmjijemcpaaa
