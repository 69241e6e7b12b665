/- Contracts of BestMeter. -/
import Derived.Test.YtedfmjijemcpaaaSyn
import Derived.Test.YtedfmjijemcpaaaMetersS
import Derived.Lib.SliceRun
import Derived.Lib.LazyBuf
namespace Go.Proofs.Ytedfmjijemcpaaa
open Go.RowKit

/-- One row of a slice of rows, owned. -/
theorem OwnSS.row {w : World} {L U : Nat} {A : Option Addr} {n c : Nat} {xss : List (List Int)} (h : OwnSS w L U (.slice A n c) xss) (k : Nat) (hk : k < xss.length) :
    ∃ b o A' c', A = some ⟨b, o, none⟩ ∧ w.cell? ⟨b, o + k, none⟩ = some (.slice A' (xss.getD k []).length c') ∧ OwI w L A' c' (xss.getD k []) ∧ (xss.getD k []).length ≤ c' ∧ c' ≤ maxLen := by
  obtain ⟨A1, c1, vs, e, ho, hb, hi⟩ := h
  injection e with e1 e2 e3
  subst e1 e3
  have hl := hi.len
  obtain ⟨b, o, u, hA, hu, hc⟩ := ho.rd.one k (by omega)
  obtain ⟨v, L', M', hv, h1, h2, h3, h4⟩ := hi.pick k hk
  obtain rfl : u = v := by rw [hu] at hv; injection hv
  obtain ⟨A', c', rfl, hoi, hbi, hui⟩ := h3
  obtain ⟨_, _, e, hf1, hf2⟩ := own_form hoi
  injection e with _ _ e
  subst e
  exact ⟨b, o, A', c', hA, hc, hoi.lower h1, hf1, hf2⟩

theorem metL_prod : ∀ n : Fin 25, ∀ m ∈ metL 5 n.val, prodF m = (n.val : Int) ∧ (n.val = 1 ∨ metB m = true) := by decide +kernel
theorem mo_row {n : Int} {j : Nat} (hj : j < (moF n).length) : prodF ((moF n).getD j []) = n ∧ metB ((moF n).getD j []) = true := by
  by_cases h : inB n 2 24 = true
  · have h' := inB_iff.1 h
    obtain ⟨k, rfl⟩ := Int.eq_ofNat_of_zero_le (show 0 ≤ n by omega)
    have e : moF (k : Int) = metL 5 k := by unfold moF; rw [if_pos h, Int.toNat_natCast]
    rw [e] at hj ⊢
    have hm : (metL 5 k).getD j [] ∈ metL 5 k := by simp [List.getD, hj]
    have := metL_prod ⟨k, by omega⟩ _ hm
    exact ⟨this.1, this.2.resolve_left (by simp only []; omega)⟩
  · have e : moF n = [] := by unfold moF; rw [if_neg h]
    rw [e] at hj
    simp at hj
theorem mo_len (n : Int) : (moF n).length ≤ 100 := by
  by_cases h : inB n 2 24 = true
  · have h' := inB_iff.1 h
    have e : moF n = metL 5 n.toNat := by unfold moF; rw [if_pos h]
    rw [e]
    exact metL_len 5 _ (by omega) (by omega)
  · have e : moF n = [] := by unfold moF; rw [if_neg h]
    rw [e]
    simp
/-- The syncopation of a rhythm, by a meter. -/
def syM (n : Int) (bs m : List Int) : Int := syP n bs m bs.length
theorem syM_bd {n : Int} {bs m : List Int} (h : rhyB n bs = true) (hm : metB m = true) : 0 ≤ syM n bs m ∧ syM n bs m ≤ 120 := by
  have h1 := rhyB_len h
  have h2 := (rhyB_iff h).1
  have h3 := (metB_iff hm).1
  have h4 := syP_bd n bs m bs.length
  have h5 : (m.length : Int) * (bs.length : Int) ≤ 5 * 24 := Int.mul_le_mul (by omega) (by omega) (by omega) (by omega)
  unfold syM
  omega
/-- The answers of BestMeter. -/
def bmB (n : Int) (bs : List Int) : Bool := rhyB n bs && decide (0 < (moF n).length)
def bmF (n : Int) (bs : List Int) : List Int := if bmB n bs = true then (moF n).getD (bix (syM n bs) (moF n) (moF n).length) [] else []
theorem bmF_sz (n : Int) (bs : List Int) : szS (bmF n bs) ≤ 1099511627776 := by
  unfold szS bmF
  split
  · rename_i h
    unfold bmB at h
    simp only [Bool.and_eq_true, decide_eq_true_eq] at h
    have h1 := bix_lt (syM n bs) (moF n) (moF n).length (by omega)
    have h2 := (metB_iff (mo_row h1).2).1
    omega
  · simp

set_option maxHeartbeats 4000000 in
theorem bmS_any (A : Option Addr) (c : Nat) (n : Int) (bs : List Int) (w : World) (hr : RdI w A bs) (hl : bs.length ≤ 1048576) :
    Calls Try.prog 20 #[.agg #[.int .i64 n, .slice A bs.length c]] w (RetIB w (bmF n bs) (bmB n bs)) := by
  have C1 : Hid (∀ V : World, Ext w V → Calls Try.prog 42 #[.agg #[.int .i64 n, .slice A bs.length c]] V fun e w' => e = .returned (.bool (rhyB n bs)) ∧ Ext V w') := fun V h => rhyS_any A c n bs V (hr.ext h) (by omega)
  have C2 : Hid (∀ V : World, Calls Try.prog 43 #[.int .i64 n] V (RetSS V (moF n))) := fun V => moS_any n V
  obtain ⟨L, hL⟩ : ∃ L, L = moF n := ⟨_, rfl⟩
  obtain ⟨ln, hln⟩ : ∃ ln, ln = L.length := ⟨_, rfl⟩
  have hln9 : ln ≤ 100 := by rw [hln, hL]; exact mo_len n
  have HX0 : Hid (Ext w (w.alloc (.cells #[.int .i64 n, .slice A bs.length c] 29))) := (Ext.refl w).alloc _
  have HG0 := Lib.hid (Bx2.new w 29 (.int .i64 n) (.slice A bs.length c))
  by_cases hv : rhyB n bs = true
  · have CM : Hid (∀ (j : Nat) (D : Option Addr) (d : Nat) (V : World), j < ln → Ext w V → RdI V D (L.getD j []) → (L.getD j []).length ≤ d → d ≤ maxLen → Calls Try.prog 44 #[.agg #[.int .i64 n, .slice A bs.length c], .slice D (L.getD j []).length d] V fun e w' => e = .returned (.int .i64 (syM n bs (L.getD j []))) ∧ Ext V w') := fun j D d V hj he hd h1 h2 => by
      have hm := mo_row (n := n) (j := j) (by rw [← hL, ← hln]; exact hj)
      rw [← hL] at hm
      exact synS_any A c n bs D d _ V (hr.ext he) hv hd hm.2 hm.1.symm h1 h2
    have HSB : Hid (∀ j, j < ln → 0 ≤ syM n bs (L.getD j []) ∧ syM n bs (L.getD j []) ≤ 120) := fun j hj => by
      have hm := mo_row (n := n) (j := j) (by rw [← hL, ← hln]; exact hj)
      rw [← hL] at hm
      exact syM_bd hv hm.2
    by_cases hz : ln = 0
    · have e2 : bmB n bs = false := by unfold bmB; rw [hv, ← hL, ← hln, hz]; rfl
      have e1 : bmF n bs = [] := by unfold bmF; rw [e2]; rfl
      rw [e1, e2]
      rw [hv] at C1
      rw [← hL] at C2
      obtain ⟨l, hll⟩ : ∃ l, l = bs.length := ⟨_, rfl⟩
      rw [← hll] at C1 HX0 HG0 ⊢
      have HLN := Lib.hid hln
      clear hr hl hv hL hln e1 e2 hll CM HSB
      go_enter Try.func20, Try.ntmps20
      obtain ⟨q0, q1, _, _⟩ := HG0.out.cells
      go_wp2_with fail
      refine (C1.out _ HX0.out).mono ?_
      rintro e w1 ⟨rfl, e1⟩
      have X1 := Lib.hid (HX0.out.trans e1)
      have HG1 := Lib.hid (HG0.out.ext e1)
      clear e1 q0 q1
      obtain ⟨q0, q1, _, _⟩ := HG1.out.cells
      go_wp2_with fail
      refine (C2.out _).mono ?_
      rintro e w2 ⟨v, rfl, ho, e2⟩
      obtain ⟨LA, lc, l2, us, rfl, hl2, _, _⟩ := ho.parts
      have X2 := Lib.hid (X1.out.trans e2)
      obtain rfl : l2 = 0 := by rw [hl2, ← HLN.out]; exact hz
      clear ho e2 hl2 q0 q1
      go_wp2_with fail
      go_ret2
      exact ⟨none, 0, rfl, OwI.nil _ _, X2.out⟩
    · have e2 : bmB n bs = true := by unfold bmB; rw [hv, ← hL, ← hln, decide_eq_true (by omega)]; rfl
      obtain ⟨R, hR⟩ : ∃ R, R = L.getD (bix (syM n bs) L ln) [] := ⟨_, rfl⟩
      have e1 : bmF n bs = R := by unfold bmF; rw [e2, if_pos rfl, ← hL, ← hln, hR]
      rw [e1, e2]
      rw [hv] at C1
      rw [← hL] at C2
      obtain ⟨l, hll⟩ : ∃ l, l = bs.length := ⟨_, rfl⟩
      rw [← hll] at C1 HX0 HG0 CM ⊢
      have HLN := Lib.hid hln
      have HRR := Lib.hid hR
      have hz2 : ((ln : Int) == 0) = false := by simp; omega
      have hz3 : (0 : Int) < ln := by omega
      clear hr hl hv hL hln e1 e2 hll hR
      go_enter Try.func20, Try.ntmps20
      obtain ⟨q0, q1, _, _⟩ := HG0.out.cells
      go_wp2_with fail
      refine (C1.out _ HX0.out).mono ?_
      rintro e w1 ⟨rfl, e1⟩
      have X1 := Lib.hid (HX0.out.trans e1)
      have HG1 := Lib.hid (HG0.out.ext e1)
      clear e1 q0 q1
      obtain ⟨q0, q1, _, _⟩ := HG1.out.cells
      go_wp2_with fail
      refine (C2.out _).mono ?_
      rintro e w2 ⟨v, rfl, ho, e2⟩
      obtain ⟨LA, lc, l2, us, rfl, hl2, _, _⟩ := ho.parts
      have X2 := Lib.hid (X1.out.trans e2)
      have HG2 := Lib.hid (HG1.out.ext e2)
      have HO2 := Lib.hid (ho.lower X1.out.size)
      obtain rfl : l2 = ln := by rw [hl2, ← HLN.out]
      obtain ⟨b0, o0, D0, d0, hA0, hc0, r0, rc0, rm0⟩ := HO2.out.row 0 (by rw [← HLN.out]; omega)
      subst hA0
      rw [Nat.add_zero] at hc0
      have HR0 := Lib.hid r0
      have HRC0 := Lib.hid (And.intro rc0 rm0)
      clear ho e2 hl2 q0 q1 r0 rc0 rm0 X1 HG1
      go_wp2_with fail
      go_loopw [5, 22] (fun b i wr => ∃ (k : Nat) (D : Option Addr) (d : Nat), k ≤ l2 ∧ i = .int .i64 k ∧ b = .slice D (L.getD (bix (syM n bs) L k) []).length d ∧ Hid (bix (syM n bs) L k < l2) ∧ Hid (OwI wr w.heap.size D d (L.getD (bix (syM n bs) L k) [])) ∧ Hid ((L.getD (bix (syM n bs) L k) []).length ≤ d ∧ d ≤ maxLen) ∧ Hid (Ext w2 wr)) (fun _ i _ => l2 - (intOf i).toNat)
      case atStart => exact ⟨0, D0, d0, Nat.zero_le _, rfl, rfl, (by omega : 0 < l2), HR0.out, HRC0.out, Ext.refl _⟩
      case round =>
        clear HR0 HRC0 hc0
        obtain ⟨k, D, d, hk, rfl, rfl, HJ, HD, HC, HE⟩ := hrel
        by_cases hlt : k < l2
        · obtain ⟨b1, o1, D1, d1, hA1, hc1, r1, rc1, rm1⟩ := (HO2.out.ext HE.out).row k (by rw [← HLN.out]; exact hlt)
          injection hA1 with hA1
          injection hA1 with hA1 hB1 _
          subst hA1 hB1
          have S1 := HSB.out k hlt
          have S2 := HSB.out _ HJ.out
          have HR1 := Lib.hid r1
          have HR1C := Lib.hid (And.intro rc1 rm1)
          have HNB : Hid (bix (syM n bs) L (k + 1) = if syM n bs (L.getD k []) < syM n bs (L.getD (bix (syM n bs) L k) []) then k else bix (syM n bs) L k) := rfl
          have CA : Hid (∀ V : World, Ext wr V → Calls Try.prog 44 #[.agg #[.int .i64 n, .slice A l c], .slice D1 (L.getD k []).length d1] V fun e w' => e = .returned (.int .i64 (syM n bs (L.getD k []))) ∧ Ext V w') := fun V h => CM.out k D1 d1 V hlt ((X2.out.trans HE.out).trans h) (HR1.out.ext h).rd HR1C.out.1 HR1C.out.2
          have CB : Hid (∀ V : World, Ext wr V → Calls Try.prog 44 #[.agg #[.int .i64 n, .slice A l c], .slice D (L.getD (bix (syM n bs) L k) []).length d] V fun e w' => e = .returned (.int .i64 (syM n bs (L.getD (bix (syM n bs) L k) []))) ∧ Ext V w') := fun V h => CM.out _ D d V HJ.out ((X2.out.trans HE.out).trans h) (HD.out.ext h).rd HC.out.1 HC.out.2
          have HG3 := Lib.hid (HG2.out.ext HE.out)
          obtain ⟨q0, q1, p0, p1⟩ := HG3.out.cells
          obtain ⟨j, hj⟩ : ∃ j, j = bix (syM n bs) L k := ⟨_, rfl⟩
          obtain ⟨k1, hk1⟩ : ∃ x, x = (L.getD k []).length := ⟨_, rfl⟩
          rw [← hj] at CB HD HC HJ S2 HNB ⊢
          obtain ⟨k2, hk2⟩ : ∃ x, x = (L.getD j []).length := ⟨_, rfl⟩
          obtain ⟨s1, hs1⟩ : ∃ x, x = syM n bs (L.getD k []) := ⟨_, rfl⟩
          obtain ⟨s2, hs2⟩ : ∃ x, x = syM n bs (L.getD j []) := ⟨_, rfl⟩
          rw [← hk1, ← hs1] at CA
          rw [← hk2, ← hs2] at CB
          rw [← hk1] at hc1
          rw [← hs1, ← hs2] at HNB
          rw [← hs1] at S1
          rw [← hs2] at S2
          rw [← hk2]
          have HK1 := Lib.hid hk1
          have HK2 := Lib.hid hk2
          have HJE := Lib.hid hj
          clear hk1 hk2 hs1 hs2 hj r1 rc1 rm1
          go_wp2_with fail
          go_region_held3 (fun V => V.cell? ⟨w.heap.size, 0, none⟩ = some (.int .i64 n) ∧ V.cell? ⟨w.heap.size, 1, none⟩ = some (.slice A l c))
            (first | exact ⟨q0, q1⟩ | exact ⟨Ext.cell e3 q0, Ext.cell e3 q1⟩ | exact ⟨Ext.cell e4 (Ext.cell e3 q0), Ext.cell e4 (Ext.cell e3 q1)⟩)
            (first
              | (go_at_call 44; (with_reducible refine (CA.out (World.drew wr) ((Ext.refl wr).drew)).mono ?_); rintro e w3 ⟨rfl, e3⟩)
              | (go_at_call 44; (with_reducible refine (CB.out w3 ((Ext.refl wr).drew.trans e3)).mono ?_); rintro e w4 ⟨rfl, e4⟩))
          have HX := Lib.hid (((Ext.refl wr).drew.trans e3).trans e4)
          clear e3 e4 q0 q1 p0 p1 hc1 CA CB
          by_cases hs : s1 < s2
          · have HN2 : Hid (bix (syM n bs) L (k + 1) = k) := by rw [HNB.out, if_pos hs]; exact rfl
            go_wp2_with fail
            go_roundw
            case rel => exact ⟨k + 1, D1, d1, by omega, by go_num, by rw [HN2.out, HK1.out], by rw [HN2.out]; exact hlt, by rw [HN2.out]; exact HR1.out.ext HX.out, by rw [HN2.out]; exact HR1C.out, HE.out.trans HX.out⟩
            case measure => simp [intOf]; omega
          · have HN2 : Hid (bix (syM n bs) L (k + 1) = j) := by rw [HNB.out, if_neg hs]; exact rfl
            go_wp2_with fail
            go_roundw
            case rel => exact ⟨k + 1, D, d, by omega, by go_num, by rw [HN2.out, HK2.out], by rw [HN2.out]; exact HJ.out, by rw [HN2.out]; exact HD.out.ext HX.out, by rw [HN2.out]; exact HC.out, HE.out.trans HX.out⟩
            case measure => simp [intOf]; omega
        · obtain rfl : k = l2 := by omega
          have HRD := HD.out
          rw [← HRR.out] at HRD ⊢
          have HRD2 := Lib.hid HRD
          clear HRD HD
          go_wp2_with fail
          go_ret2
          exact ⟨D, d, rfl, HRD2.out, X2.out.trans HE.out⟩
  · have hv : rhyB n bs = false := by simpa using hv
    have e2 : bmB n bs = false := by unfold bmB; rw [hv]; rfl
    have e1 : bmF n bs = [] := by unfold bmF; rw [e2]; rfl
    rw [e1, e2]
    rw [hv] at C1
    obtain ⟨l, hll⟩ : ∃ l, l = bs.length := ⟨_, rfl⟩
    rw [← hll] at C1 HX0 HG0 ⊢
    clear hr hl hv hL hln e1 e2 hll C2
    go_enter Try.func20, Try.ntmps20
    obtain ⟨q0, q1, _, _⟩ := HG0.out.cells
    go_wp2_with fail
    refine (C1.out _ HX0.out).mono ?_
    rintro e w1 ⟨rfl, e1⟩
    have X1 := Lib.hid (HX0.out.trans e1)
    clear e1 q0 q1
    go_wp2_with fail
    go_ret2
    exact ⟨none, 0, rfl, OwI.nil _ _, X1.out⟩

set_option maxHeartbeats 4000000 in
theorem bmI_any (A : Option Addr) (c : Nat) (n : Int) (bs : List Int) (w : World) (hr : RdI w A bs) (hl : bs.length ≤ 1048576) :
    Calls Try.prog 18 #[.agg #[.int .i64 n, .slice A bs.length c]] w (RetIB w (bmF n bs) (bmB n bs)) := by
  have C1 : Hid (∀ V : World, Ext w V → Calls Try.prog 40 #[.agg #[.int .i64 n, .slice A bs.length c]] V fun e w' => e = .returned (.bool (rhyB n bs)) ∧ Ext V w') := fun V h => rhyI_any A c n bs V (hr.ext h) (by omega)
  have C2 : Hid (∀ V : World, Calls Try.prog 15 #[.int .i64 n] V (RetSS V (moF n))) := fun V => moI_any n V
  obtain ⟨L, hL⟩ : ∃ L, L = moF n := ⟨_, rfl⟩
  obtain ⟨ln, hln⟩ : ∃ ln, ln = L.length := ⟨_, rfl⟩
  have hln9 : ln ≤ 100 := by rw [hln, hL]; exact mo_len n
  have HX0 : Hid (Ext w (w.alloc (.cells #[.int .i64 n, .slice A bs.length c] 29))) := (Ext.refl w).alloc _
  have HG0 := Lib.hid (Bx2.new w 29 (.int .i64 n) (.slice A bs.length c))
  by_cases hv : rhyB n bs = true
  · have CM : Hid (∀ (j : Nat) (D : Option Addr) (d : Nat) (V : World), j < ln → Ext w V → RdI V D (L.getD j []) → (L.getD j []).length ≤ d → d ≤ maxLen → Calls Try.prog 10 #[.agg #[.int .i64 n, .slice A bs.length c], .slice D (L.getD j []).length d] V fun e w' => e = .returned (.int .i64 (syM n bs (L.getD j []))) ∧ Ext V w') := fun j D d V hj he hd h1 h2 => by
      have hm := mo_row (n := n) (j := j) (by rw [← hL, ← hln]; exact hj)
      rw [← hL] at hm
      exact synI_any A c n bs D d _ V (hr.ext he) hv hd hm.2 hm.1.symm h1 h2
    have HLE : Hid (∀ j, j < ln → 1 ≤ (L.getD j []).length) := fun j hj => by
      have hm := mo_row (n := n) (j := j) (by rw [← hL, ← hln]; exact hj)
      rw [← hL] at hm
      exact (metB_iff hm.2).1.1
    have HSB : Hid (∀ j, j < ln → 0 ≤ syM n bs (L.getD j []) ∧ syM n bs (L.getD j []) ≤ 120) := fun j hj => by
      have hm := mo_row (n := n) (j := j) (by rw [← hL, ← hln]; exact hj)
      rw [← hL] at hm
      exact syM_bd hv hm.2
    by_cases hz : ln = 0
    · have e2 : bmB n bs = false := by unfold bmB; rw [hv, ← hL, ← hln, hz]; rfl
      have e1 : bmF n bs = [] := by unfold bmF; rw [e2]; rfl
      rw [e1, e2]
      rw [hv] at C1
      rw [← hL] at C2
      obtain ⟨l, hll⟩ : ∃ l, l = bs.length := ⟨_, rfl⟩
      rw [← hll] at C1 HX0 HG0 ⊢
      have HLN := Lib.hid hln
      clear hr hl hv hL hln e1 e2 hll CM HSB HLE
      go_enter Try.func18, Try.ntmps18
      obtain ⟨q0, q1, _, _⟩ := HG0.out.cells
      go_wp2_with fail
      refine (C1.out _ HX0.out).mono ?_
      rintro e w1 ⟨rfl, e1⟩
      have X1 := Lib.hid (HX0.out.trans e1)
      have HG1 := Lib.hid (HG0.out.ext e1)
      clear e1 q0 q1
      obtain ⟨q0, q1, _, _⟩ := HG1.out.cells
      go_wp2_with fail
      refine (C2.out _).mono ?_
      rintro e w2 ⟨v, rfl, ho, e2⟩
      obtain ⟨LA, lc, l2, us, rfl, hl2, _, _⟩ := ho.parts
      have X2 := Lib.hid (X1.out.trans e2)
      obtain rfl : l2 = 0 := by rw [hl2, ← HLN.out]; exact hz
      clear ho e2 hl2 q0 q1
      go_wp2_with fail
      go_loopw [4, 14] (fun b i wr => i = .int .i64 0 ∧ b = .slice none 0 0 ∧ Hid (Ext w wr)) (fun _ _ _ => 0)
      case atStart => exact ⟨rfl, rfl, X2.out⟩
      case round =>
        obtain ⟨rfl, rfl, HE⟩ := hrel
        have hq := Go.run_neq_slice_nil (P := Try.prog) wr 23 3 none 0 0 Try.underlying23
        go_wp2_with fail
        go_ret2
        exact ⟨none, 0, rfl, OwI.nil _ _, HE.out⟩
    · have e2 : bmB n bs = true := by unfold bmB; rw [hv, ← hL, ← hln, decide_eq_true (by omega)]; rfl
      obtain ⟨R, hR⟩ : ∃ R, R = L.getD (bix (syM n bs) L ln) [] := ⟨_, rfl⟩
      have e1 : bmF n bs = R := by unfold bmF; rw [e2, if_pos rfl, ← hL, ← hln, hR]
      rw [e1, e2]
      rw [hv] at C1
      rw [← hL] at C2
      obtain ⟨l, hll⟩ : ∃ l, l = bs.length := ⟨_, rfl⟩
      rw [← hll] at C1 HX0 HG0 CM ⊢
      have HLN := Lib.hid hln
      have HRR := Lib.hid hR
      have hz2 : ((ln : Int) == 0) = false := by simp; omega
      have hz3 : (0 : Int) < ln := by omega
      clear hr hl hv hL hln e1 e2 hll hR
      go_enter Try.func18, Try.ntmps18
      obtain ⟨q0, q1, _, _⟩ := HG0.out.cells
      go_wp2_with fail
      refine (C1.out _ HX0.out).mono ?_
      rintro e w1 ⟨rfl, e1⟩
      have X1 := Lib.hid (HX0.out.trans e1)
      have HG1 := Lib.hid (HG0.out.ext e1)
      clear e1 q0 q1
      obtain ⟨q0, q1, _, _⟩ := HG1.out.cells
      go_wp2_with fail
      refine (C2.out _).mono ?_
      rintro e w2 ⟨v, rfl, ho, e2⟩
      obtain ⟨LA, lc, l2, us, rfl, hl2, _, _⟩ := ho.parts
      have X2 := Lib.hid (X1.out.trans e2)
      have HG2 := Lib.hid (HG1.out.ext e2)
      have HO2 := Lib.hid (ho.lower X1.out.size)
      obtain rfl : l2 = ln := by rw [hl2, ← HLN.out]
      clear ho e2 hl2 q0 q1 X1 HG1
      have HNN : Hid (∀ (j : Nat) (D : Option Addr) (V : World), j < l2 → RdI V D (L.getD j []) → D.isNone = false) := fun j D V hj h => by
        have h1 := HLE.out j hj
        obtain ⟨b, o, e, _⟩ := h.at_ 0 (by omega)
        rw [e]; rfl
      go_wp2_with fail
      go_loopw [4, 14] (fun b i wr => ∃ (k : Nat) (D : Option Addr) (d x : Nat), k ≤ l2 ∧ i = .int .i64 k ∧ b = .slice D x d ∧ Hid (k = 0 → D = none ∧ x = 0) ∧ Hid (0 < k → x = (L.getD (bix (syM n bs) L k) []).length ∧ bix (syM n bs) L k < l2 ∧ OwI wr w.heap.size D d (L.getD (bix (syM n bs) L k) []) ∧ (L.getD (bix (syM n bs) L k) []).length ≤ d ∧ d ≤ maxLen) ∧ Hid (Ext w2 wr)) (fun _ i _ => l2 - (intOf i).toNat)
      case atStart => exact ⟨0, none, 0, 0, Nat.zero_le _, rfl, rfl, fun _ => ⟨rfl, rfl⟩, fun h => absurd h (by omega), Ext.refl _⟩
      case round =>
        obtain ⟨k, D, d, x, hk, rfl, rfl, HZ, HP, HE⟩ := hrel
        by_cases hlt : k < l2
        · obtain ⟨b1, o1, D1, d1, hA1, hc1, r1, rc1, rm1⟩ := (HO2.out.ext HE.out).row k (by rw [← HLN.out]; exact hlt)
          have HLA := Lib.hid hA1
          subst hA1
          have HR1 := Lib.hid r1
          have HR1C := Lib.hid (And.intro rc1 rm1)
          have HG3 := Lib.hid (HG2.out.ext HE.out)
          obtain ⟨q0, q1, p0, p1⟩ := HG3.out.cells
          obtain ⟨k1, hk1⟩ : ∃ x, x = (L.getD k []).length := ⟨_, rfl⟩
          have HK1 := Lib.hid hk1
          by_cases hk0 : k = 0
          · subst hk0
            obtain ⟨rfl, rfl⟩ := HZ.out rfl
            have hq : ∀ V : World, (binOp .eql 23 (.slice none 0 d) (.slice none 0 0)).run Try.prog V = .ok (.bool (none : Option Addr).isNone) V := fun V => Lib.run_eql_slice_nil V _ 3 none 0 d 0 0 Try.underlying23
            rw [Nat.add_zero] at hc1
            have HN2 : Hid (bix (syM n bs) L (0 + 1) = 0) := by unfold bix; split <;> rfl
            rw [← hk1] at hc1
            clear hk1 r1 rc1 rm1
            go_wp2_with fail
            go_quiet (fail)
            have HX : Hid (Ext wr (wr.drewN nq)) := (Ext.refl wr).drewN nq
            obtain ⟨w9, hw9⟩ : ∃ w9, w9 = wr.drewN nq := ⟨_, rfl⟩
            rw [← hw9] at HX ⊢
            clear hw9 q0 q1 p0 p1 hc1
            go_wp2_with fail
            go_roundw
            case rel => exact ⟨0 + 1, D1, d1, k1, by omega, by go_num, rfl, fun h => absurd h (by omega), fun _ => by rw [HN2.out]; exact ⟨HK1.out, hlt, HR1.out.ext HX.out, HR1C.out.1, HR1C.out.2⟩, HE.out.trans HX.out⟩
            case measure => simp [intOf]; omega
          · obtain ⟨hx, hJ, hD, hC1, hC2⟩ := HP.out (by omega)
            have hnone := HNN.out _ D wr hJ hD.rd
            have hq : ∀ V : World, (binOp .eql 23 (.slice D x d) (.slice none 0 0)).run Try.prog V = .ok (.bool D.isNone) V := fun V => Lib.run_eql_slice_nil V _ 3 D x d 0 0 Try.underlying23
            rw [hnone] at hq
            have S1 := HSB.out k hlt
            have S2 := HSB.out _ hJ
            have HNB : Hid (bix (syM n bs) L (k + 1) = if syM n bs (L.getD k []) < syM n bs (L.getD (bix (syM n bs) L k) []) then k else bix (syM n bs) L k) := rfl
            have CA : Hid (∀ V : World, Ext wr V → Calls Try.prog 10 #[.agg #[.int .i64 n, .slice A l c], .slice D1 (L.getD k []).length d1] V fun e w' => e = .returned (.int .i64 (syM n bs (L.getD k []))) ∧ Ext V w') := fun V h => CM.out k D1 d1 V hlt ((X2.out.trans HE.out).trans h) (HR1.out.ext h).rd HR1C.out.1 HR1C.out.2
            have CB : Hid (∀ V : World, Ext wr V → Calls Try.prog 10 #[.agg #[.int .i64 n, .slice A l c], .slice D (L.getD (bix (syM n bs) L k) []).length d] V fun e w' => e = .returned (.int .i64 (syM n bs (L.getD (bix (syM n bs) L k) []))) ∧ Ext V w') := fun V h => CM.out _ D d V hJ ((X2.out.trans HE.out).trans h) (hD.ext h).rd hC1 hC2
            obtain ⟨j, hj⟩ : ∃ j, j = bix (syM n bs) L k := ⟨_, rfl⟩
            rw [← hj] at CB hD hC1 hJ hx S2 HNB
            obtain ⟨s1, hs1⟩ : ∃ x, x = syM n bs (L.getD k []) := ⟨_, rfl⟩
            obtain ⟨s2, hs2⟩ : ∃ x, x = syM n bs (L.getD j []) := ⟨_, rfl⟩
            rw [← hk1, ← hs1] at CA
            rw [← hx, ← hs2] at CB
            rw [← hk1] at hc1
            rw [← hs1, ← hs2] at HNB
            rw [← hs1] at S1
            rw [← hs2] at S2
            have HD := Lib.hid hD
            have HPJ := Lib.hid (And.intro hx (And.intro hJ (And.intro hC1 hC2)))
            clear hk1 hs1 hs2 hj r1 rc1 rm1 hx hJ hD hC1 hC2 hnone
            go_wp2_with fail
            go_region_held3 (fun V => V.cell? ⟨w.heap.size, 0, none⟩ = some (.int .i64 n) ∧ V.cell? ⟨w.heap.size, 1, none⟩ = some (.slice A l c))
              (first | exact ⟨q0, q1⟩ | exact ⟨Ext.cell e3 q0, Ext.cell e3 q1⟩ | exact ⟨Ext.cell e4 (Ext.cell e3 q0), Ext.cell e4 (Ext.cell e3 q1)⟩)
              (first
                | (go_at_call 10; (with_reducible refine (CA.out (World.drew wr) ((Ext.refl wr).drew)).mono ?_); rintro e w3 ⟨rfl, e3⟩)
                | (go_at_call 10; (with_reducible refine (CB.out w3 ((Ext.refl wr).drew.trans e3)).mono ?_); rintro e w4 ⟨rfl, e4⟩))
            have HX := Lib.hid (((Ext.refl wr).drew.trans e3).trans e4)
            clear e3 e4 q0 q1 p0 p1 hc1 CA CB hq
            by_cases hs : s1 < s2
            · have HN2 : Hid (bix (syM n bs) L (k + 1) = k) := by rw [HNB.out, if_pos hs]; exact rfl
              go_wp2_with fail
              go_roundw
              case rel => exact ⟨k + 1, D1, d1, k1, by omega, by go_num, rfl, fun h => absurd h (by omega), fun _ => by rw [HN2.out]; exact ⟨HK1.out, hlt, HR1.out.ext HX.out, HR1C.out.1, HR1C.out.2⟩, HE.out.trans HX.out⟩
              case measure => simp [intOf]; omega
            · have HN2 : Hid (bix (syM n bs) L (k + 1) = j) := by rw [HNB.out, if_neg hs]; exact rfl
              go_wp2_with fail
              go_roundw
              case rel => exact ⟨k + 1, D, d, x, by omega, by go_num, rfl, fun h => absurd h (by omega), fun _ => by rw [HN2.out]; exact ⟨HPJ.out.1, HPJ.out.2.1, HD.out.ext HX.out, HPJ.out.2.2.1, HPJ.out.2.2.2⟩, HE.out.trans HX.out⟩
              case measure => simp [intOf]; omega
        · obtain rfl : k = l2 := by omega
          obtain ⟨hx, hJ, hD, hC1, hC2⟩ := HP.out (by omega)
          have hnone := HNN.out _ D wr hJ hD.rd
          have hq : ∀ V : World, (binOp .neq 23 (.slice D x d) (.slice none 0 0)).run Try.prog V = .ok (.bool (!D.isNone)) V := fun V => Go.run_neq_slice_nil V _ 3 D x d Try.underlying23
          rw [hnone] at hq
          rw [← HRR.out] at hx hD
          subst hx
          have HD := Lib.hid hD
          clear hJ hD hC1 hC2 hnone
          go_wp2_with fail
          go_ret2
          exact ⟨D, d, rfl, HD.out, X2.out.trans HE.out⟩
  · have hv : rhyB n bs = false := by simpa using hv
    have e2 : bmB n bs = false := by unfold bmB; rw [hv]; rfl
    have e1 : bmF n bs = [] := by unfold bmF; rw [e2]; rfl
    rw [e1, e2]
    rw [hv] at C1
    obtain ⟨l, hll⟩ : ∃ l, l = bs.length := ⟨_, rfl⟩
    rw [← hll] at C1 HX0 HG0 ⊢
    clear hr hl hv hL hln e1 e2 hll C2
    go_enter Try.func18, Try.ntmps18
    obtain ⟨q0, q1, _, _⟩ := HG0.out.cells
    go_wp2_with fail
    refine (C1.out _ HX0.out).mono ?_
    rintro e w1 ⟨rfl, e1⟩
    have X1 := Lib.hid (HX0.out.trans e1)
    clear e1 q0 q1
    go_wp2_with fail
    go_ret2
    exact ⟨none, 0, rfl, OwI.nil _ _, X1.out⟩
end Go.Proofs.Ytedfmjijemcpaaa
