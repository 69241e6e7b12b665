/- Contracts of IsMove, of the reference. -/
import Derived.Test.YtnhppeknkeblfaaMvT
import Derived.Test.YtnhppeknkeblfaaTwo
namespace Go.Proofs.Ytnhppeknkeblfaa
open Go.RowKit Go.Sort

set_option maxRecDepth 20000 in
set_option maxHeartbeats 4000000 in
theorem imS_any (n m : Int) (A B : Option Addr) (c d : Nat) (xs ys : List Int) (w : World) (hr : RdI w A xs) (hr2 : RdI w B ys) (hl : xs.length ≤ 1048576) (hl2 : ys.length ≤ 1048576) :
    Calls Try.prog 18 #[.agg #[.int .i64 n, .slice A xs.length c], .agg #[.int .i64 m, .slice B ys.length d]] w fun e w' => e = .returned (.bool (imF n xs m ys)) ∧ Ext w w' := by
  obtain ⟨l, hll⟩ : ∃ l, l = xs.length := ⟨_, rfl⟩
  obtain ⟨k, hkk⟩ : ∃ k, k = ys.length := ⟨_, rfl⟩
  obtain ⟨W, hW⟩ : ∃ W, W = ((w.alloc (.cells #[.int .i64 n, .slice A l c] 27)).alloc (.cells #[.int .i64 m, .slice B k d] 27)) := ⟨_, rfl⟩
  have HX0 : Hid (Ext w W) := by rw [hW]; exact ((Ext.refl w).alloc _).alloc _
  have HG0 : Hid (Bx2 W w.heap.size 27 (.int .i64 n) (.slice A l c)) := by rw [hW]; exact (Bx2.new w _ _ _).ext ((Ext.refl _).alloc _)
  have HG1 : Hid (Bx2 W (w.heap.size + 1) 27 (.int .i64 m) (.slice B k d)) := by rw [hW]; exact Bx2.new1' _ _ _ _ _
  have HW := Lib.hid hW
  clear hW
  by_cases hb : twoB n xs m ys = true
  · have hb' := twoB_iff.1 hb
    obtain ⟨hb1, hb2, hnm⟩ := hb'
    subst hnm
    have hn := (rhyB_iff hb1).1
    have hyl := rhyB_len hb2
    obtain ⟨N, rfl⟩ := Int.eq_ofNat_of_zero_le (show 0 ≤ n by omega)
    obtain ⟨S, hS⟩ : ∃ S, S = mvL N xs xs.length := ⟨_, rfl⟩
    have hF : imF N xs N ys = decide (ys ∈ S) := by
      unfold imF
      rw [hb1, hb2, hS]
      simp
    have HSB : Hid (∀ z ∈ S, z.length ≤ 24) := fun z hz => by
      have := rhyB_len (mvL_rhy (n := N) (xs := xs) (by omega) (by omega) _ z (by rw [← hS]; exact hz))
      omega
    have C1 : Hid (∀ V : World, Ext w V → Calls Try.prog 21 #[.agg #[.int .i64 N, .slice A l c], .agg #[.int .i64 N, .slice B k d]] V fun e w' => e = .returned (.bool true) ∧ Ext V w') := fun V he => by
      rw [hll, hkk, ← hb]; exact twoS_any N N A B c d xs ys V (hr.ext he) (hr2.ext he) (by omega) (by omega)
    have C2 : Hid (∀ V : World, Ext w V → Calls Try.prog 39 #[.agg #[.int .i64 N, .slice A l c]] V (RetMv V N S)) := fun V he => by rw [hll, hS]; exact mvS_any N A c xs V (hr.ext he) hb1
    have C3 : Hid (∀ (D : Option Addr) (q : Nat) (z : List Int) (V : World), Ext w V → RdI V D z → z.length ≤ 24 → Calls Try.prog 40 #[.slice D z.length q, .slice B k d] V fun e w' => e = .returned (.bool (decide (z = ys))) ∧ Ext V w') := fun D q z V he h h2 => by
      rw [hkk]
      exact (same_any D B q d z ys V h (hr2.ext he) (by omega) (by omega)).mono fun _ _ ⟨h1, q, h2⟩ => ⟨h1, by rw [h2]; exact (Ext.refl _).drewN _⟩
    obtain ⟨R, hR⟩ : ∃ R, R = decide (ys ∈ S) := ⟨_, rfl⟩
    rw [hF, ← hR, ← hll, ← hkk]
    have HRR := Lib.hid hR
    clear hll hkk hr hr2 hb hb1 hb2 hl hl2 hF hS hR hyl
    go_enter Try.func18, Try.ntmps18
    go_wp2_with fail
    rw [← HW.out]
    obtain ⟨q0, q1, p0, p1⟩ := HG0.out.cells
    obtain ⟨q2, q3, p2, p3⟩ := HG1.out.cells
    go_wp2_with fail
    refine (C1.out _ HX0.out).mono ?_
    rintro e w1 ⟨rfl, e1⟩
    have HX1 := Lib.hid (HX0.out.trans e1)
    have HA1 := Lib.hid (HG0.out.ext e1)
    have HB1 := Lib.hid (HG1.out.ext e1)
    clear e1 q0 q1 q2 q3 p0 p1 p2 p3 HG0 HG1 HX0 HW C1
    obtain ⟨q0, q1, p0, p1⟩ := HA1.out.cells
    go_wp2_with fail
    refine (C2.out _ HX1.out).mono ?_
    rintro e w2 ⟨D, q, es, zss, rfl, h1, h2, h3, h4, h5, e2⟩
    obtain ⟨hlen, hrow⟩ := row_atM h2 h3 h1
    have HROW := Lib.hid hrow
    have HX2 := Lib.hid (HX1.out.trans e2)
    have HB2 := Lib.hid (HB1.out.ext e2)
    have HZS := Lib.hid h5
    rw [hlen]
    obtain ⟨mz, hmz⟩ : ∃ mz, mz = zss.length := ⟨_, rfl⟩
    rw [← hmz] at h4 HROW ⊢
    have HMZ := Lib.hid hmz
    clear h1 h2 h3 h5 e2 hlen hrow hmz q0 q1 p0 p1 HA1 HB1 C2
    go_wp2_with fail
    go_loopw [14] (fun i wr => ∃ j : Nat, j ≤ mz ∧ i = .int .i64 j ∧ Hid (∀ t, t < j → zss.getD t [] ≠ ys) ∧ Hid (Ext w2 wr)) (fun i _ => mz - (intOf i).toNat)
    case atStart => exact ⟨0, Nat.zero_le _, rfl, fun t ht => absurd ht (by omega), Ext.refl w2⟩
    case round =>
      obtain ⟨j, hj, rfl, HN, HE⟩ := hrel
      by_cases hlt : j < mz
      · obtain ⟨b, o, D, q, hA, z0, z1, hrd⟩ := HROW.out wr HE.out j hlt
        subst hA
        obtain ⟨z, hz⟩ : ∃ z, z = zss.getD j [] := ⟨_, rfl⟩
        rw [← hz] at z1 hrd
        have hzm : z ∈ S := (HZS.out z).1 (by rw [hz]; exact getD_memM (by rw [← HMZ.out]; exact hlt))
        have HXA : Hid (Ext wr (wr.alloc (.cells #[.int .i64 N, .slice D z.length q] 27))) := (Ext.refl _).alloc _
        have CZ := Lib.hid (C3.out D q z _ (HX2.out.trans (HE.out.trans HXA.out)) (hrd.ext HXA.out) (HSB.out z hzm))
        have HZE := Lib.hid hz
        have HZM := Lib.hid hzm
        have HBB := Lib.hid (HB2.out.ext (HE.out.trans HXA.out))
        have HQQ := Lib.hid (Bx2.new wr 27 (.int .i64 N) (.slice D z.length q))
        clear hz hrd hzm
        obtain ⟨q2, q3, p2, p3⟩ := HBB.out.cells
        obtain ⟨q4, q5, p4, p5⟩ := HQQ.out.cells
        by_cases he : z = ys
        · have hFF : Hid (R = true) := by rw [HRR.out]; exact decide_eq_true (by rw [← he]; exact HZM.out)
          rw [show decide (z = ys) = true from decide_eq_true he] at CZ
          clear he
          go_wp2_with fail
          refine CZ.out.mono ?_
          rintro e w3 ⟨rfl, e3⟩
          have HX := Lib.hid (HX2.out.trans (HE.out.trans (HXA.out.trans e3)))
          clear e3 z0 z1 q2 q3 p2 p3 q4 q5 p4 p5
          go_wp2_with fail
          go_ret
          exact ⟨ret_bool hFF.out.symm, HX.out⟩
        · have HNN : Hid (∀ t, t < j + 1 → zss.getD t [] ≠ ys) := fun t ht => by
            by_cases htj : t < j
            · exact HN.out t htj
            · obtain rfl : t = j := by omega
              rw [← HZE.out]
              exact he
          rw [show decide (z = ys) = false from decide_eq_false he] at CZ
          clear he
          go_wp2_with fail
          refine CZ.out.mono ?_
          rintro e w3 ⟨rfl, e3⟩
          have HX := Lib.hid (HE.out.trans (HXA.out.trans e3))
          clear e3 z0 z1 q2 q3 p2 p3 q4 q5 p4 p5
          go_wp2_with fail
          go_roundw
          case rel => exact ⟨j + 1, by omega, by go_num, HNN.out, HX.out⟩
          case measure => simp [intOf]; omega
      · obtain rfl : j = mz := by omega
        have hFF : Hid (R = false) := by
          rw [HRR.out]
          refine decide_eq_false (fun h => ?_)
          obtain ⟨t, ht, e⟩ := List.mem_iff_getElem.1 ((HZS.out ys).2 h)
          exact HN.out t (by rw [HMZ.out]; exact ht) (by rw [← e]; simp [List.getD, ht])
        go_wp2_with fail
        go_ret
        exact ⟨ret_bool hFF.out.symm, HX2.out.trans HE.out⟩
  · rw [Bool.not_eq_true] at hb
    have hF : imF n xs m ys = false := by
      have h2 : imF n xs m ys = (twoB n xs m ys && decide (ys ∈ mvL n.toNat xs xs.length)) := by unfold imF twoB; rw [Bool.and_assoc, Bool.and_assoc]
      rw [h2, hb]
      rfl
    have C1 : Hid (∀ V : World, Ext w V → Calls Try.prog 21 #[.agg #[.int .i64 n, .slice A l c], .agg #[.int .i64 m, .slice B k d]] V fun e w' => e = .returned (.bool false) ∧ Ext V w') := fun V he => by
      rw [hll, hkk, ← hb]; exact twoS_any n m A B c d xs ys V (hr.ext he) (hr2.ext he) (by omega) (by omega)
    rw [hF, ← hll, ← hkk]
    clear hll hkk hr hr2 hb hl hl2 hF
    go_enter Try.func18, Try.ntmps18
    go_wp2_with fail
    rw [← HW.out]
    obtain ⟨q0, q1, p0, p1⟩ := HG0.out.cells
    obtain ⟨q2, q3, p2, p3⟩ := HG1.out.cells
    go_wp2_with fail
    refine (C1.out _ HX0.out).mono ?_
    rintro e w1 ⟨rfl, e1⟩
    have HX1 := Lib.hid (HX0.out.trans e1)
    clear e1 q0 q1 q2 q3 p0 p1 p2 p3 HG0 HG1 HX0 HW C1
    go_wp2_with fail
    go_ret
    exact ⟨rfl, HX1.out⟩
end Go.Proofs.Ytnhppeknkeblfaa
