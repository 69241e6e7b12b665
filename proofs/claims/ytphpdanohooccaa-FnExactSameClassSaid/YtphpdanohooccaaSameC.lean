/- Contracts of SameClass. -/
import Derived.Test.YtphpdanohooccaaClassS
import Derived.Test.YtphpdanohooccaaTwo
namespace Go.Proofs.Ytphpdanohooccaa
open Go.RowKit

/-- The class of a valid rhythm. -/
def clsF (n : Int) (xs : List Int) : List Int := clF n.toNat xs (uL n.toNat (n.toNat + 1))
def saB (n : Int) (xs : List Int) (m : Int) (ys : List Int) : Bool := twoB n xs m ys && decide (clsF n xs = clsF m ys)
theorem clsF_rhy {n : Int} {xs : List Int} (h : rhyB n xs = true) : rhyB n (clsF n xs) = true := by
  have h1 := (rhyB_iff h).1
  obtain ⟨N, rfl⟩ := Int.eq_ofNat_of_zero_le (show 0 ≤ n by omega)
  unfold clsF
  rw [Int.toNat_natCast]
  exact clF_rhy (by omega) (by omega) _

set_option maxHeartbeats 1000000 in
theorem sr_any (n m : Int) (A B : Option Addr) (c d : Nat) (xs ys : List Int) (w : World) (hr : RdI w A xs) (hr2 : RdI w B ys) (hb : rhyB n xs = true) (hb2 : rhyB m ys = true) :
    Calls Try.prog 63 #[.agg #[.int .i64 n, .slice A xs.length c], .agg #[.int .i64 m, .slice B ys.length d]] w fun e w' => e = .returned (.bool (decide (n = m) && decide (xs = ys))) ∧ Ext w w' := by
  have hl : xs.length ≤ 24 := by have := rhyB_len hb; have := (rhyB_iff hb).1; omega
  have hl2 : ys.length ≤ 24 := by have := rhyB_len hb2; have := (rhyB_iff hb2).1; omega
  obtain ⟨l, hll⟩ : ∃ l, l = xs.length := ⟨_, rfl⟩
  obtain ⟨k, hkk⟩ : ∃ k, k = ys.length := ⟨_, rfl⟩
  obtain ⟨E, hE⟩ : ∃ E, E = decide (xs = ys) := ⟨_, rfl⟩
  have CA : Hid (∀ W : World, Ext w W → Calls Try.prog 49 #[.agg #[.int .i64 n, .slice A l c]] W fun e w' => e = .returned (.bool true) ∧ Ext W w') := fun W he => by rw [hll, ← hb]; exact rhyS_any A c n xs W (hr.ext he) (by omega)
  have CB : Hid (∀ W : World, Ext w W → Calls Try.prog 49 #[.agg #[.int .i64 m, .slice B k d]] W fun e w' => e = .returned (.bool true) ∧ Ext W w') := fun W he => by rw [hkk, ← hb2]; exact rhyS_any B d m ys W (hr2.ext he) (by omega)
  have CE : Hid (∀ W : World, Ext w W → Calls Try.prog 50 #[.slice A l c, .slice B k d] W fun e w' => e = .returned (.bool E) ∧ ∃ q, w' = W.drewN q) := fun W he => by rw [hll, hkk, hE]; exact same_any A B c d xs ys W (hr.ext he) (hr2.ext he) (by omega) (by omega)
  obtain ⟨W, hW⟩ : ∃ W, W = ((w.alloc (.cells #[.int .i64 n, .slice A l c] 33)).alloc (.cells #[.int .i64 m, .slice B k d] 33)) := ⟨_, rfl⟩
  have HX0 : Hid (Ext w W) := by rw [hW]; exact ((Ext.refl w).alloc _).alloc _
  have HG0 : Hid (Bx2 W w.heap.size 33 (.int .i64 n) (.slice A l c)) := by rw [hW]; exact (Bx2.new w _ _ _).ext ((Ext.refl _).alloc _)
  have HG1 : Hid (Bx2 W (w.heap.size + 1) 33 (.int .i64 m) (.slice B k d)) := by rw [hW]; exact Bx2.new1' _ _ _ _ _
  rw [← hll, ← hkk, ← hE]
  have HW := Lib.hid hW
  clear hll hkk hE hr hr2 hb hb2 hl hl2 hW
  go_enter Try.func63, Try.ntmps63
  go_wp2_with fail
  rw [← HW.out]
  clear HW
  obtain ⟨q0, q1, p0, p1⟩ := HG0.out.cells
  obtain ⟨q2, q3, p2, p3⟩ := HG1.out.cells
  go_wp2_with fail
  refine (CA.out W HX0.out).mono ?_
  rintro e w1 ⟨rfl, e1⟩
  have HX1 := Lib.hid (HX0.out.trans e1)
  have HP1 := Lib.hid (HG0.out.ext e1)
  have HQ1 := Lib.hid (HG1.out.ext e1)
  clear e1 q0 q1 p0 p1 q2 q3 p2 p3 HG0 HG1
  obtain ⟨q0, q1, p0, p1⟩ := HP1.out.cells
  obtain ⟨q2, q3, p2, p3⟩ := HQ1.out.cells
  go_wp2_with fail
  refine (CB.out w1 HX1.out).mono ?_
  rintro e w2 ⟨rfl, e2⟩
  have HX2 := Lib.hid (HX1.out.trans e2)
  have HP2 := Lib.hid (HP1.out.ext e2)
  have HQ2 := Lib.hid (HQ1.out.ext e2)
  clear e2 q0 q1 p0 p1 q2 q3 p2 p3 HP1 HQ1
  obtain ⟨q0, q1, p0, p1⟩ := HP2.out.cells
  obtain ⟨q2, q3, p2, p3⟩ := HQ2.out.cells
  by_cases hnm : n = m
  · subst hnm
    go_wp2_with fail
    refine (CE.out w2 HX2.out).mono ?_
    rintro e w3 ⟨rfl, q, rfl⟩
    go_wp2_with fail
    go_ret
    exact ⟨ret_bool (by simp), HX2.out.drewN _⟩
  · have hnm2 : (n == m) = false := by simpa using hnm
    have HF : Hid (false = (decide (n = m) && E)) := by simp [hnm, Hid]
    go_wp2_with fail
    go_ret
    exact ⟨ret_bool HF.out, HX2.out⟩

theorem scF_good {n : Int} {xs : List Int} (h : rhyB n xs = true) : scF n xs = (n, clsF n xs) := by unfold scF; rw [if_pos h]; rfl
theorem scF_bad {n : Int} {xs : List Int} (h : rhyB n xs = false) : scF n xs = (0, []) := by unfold scF; rw [h]; rfl

set_option maxHeartbeats 2000000 in
theorem saS_any (n m : Int) (A B : Option Addr) (c d : Nat) (xs ys : List Int) (w : World) (hr : RdI w A xs) (hr2 : RdI w B ys) (hl : xs.length ≤ 1048576) (hl2 : ys.length ≤ 1048576) :
    Calls Try.prog 31 #[.agg #[.int .i64 n, .slice A xs.length c], .agg #[.int .i64 m, .slice B ys.length d]] w fun e w' => e = .returned (.bool (saB n xs m ys)) ∧ Ext w w' := by
  obtain ⟨l, hll⟩ : ∃ l, l = xs.length := ⟨_, rfl⟩
  obtain ⟨k, hkk⟩ : ∃ k, k = ys.length := ⟨_, rfl⟩
  obtain ⟨R, hR⟩ : ∃ R, R = saB n xs m ys := ⟨_, rfl⟩
  obtain ⟨b1, hb1⟩ : ∃ b1, b1 = rhyB n xs := ⟨_, rfl⟩
  obtain ⟨b2, hb2⟩ : ∃ b2, b2 = rhyB m ys := ⟨_, rfl⟩
  obtain ⟨n1, x1, h1⟩ : ∃ n1 x1, scF n xs = (n1, x1) := ⟨_, _, rfl⟩
  obtain ⟨n2, x2, h2⟩ : ∃ n2 x2, scF m ys = (n2, x2) := ⟨_, _, rfl⟩
  have CA : Hid (∀ W : World, Ext w W → Calls Try.prog 27 #[.agg #[.int .i64 n, .slice A l c]] W (RetRB W (n1, x1) b1)) := fun W he => by rw [hll, ← h1, hb1]; exact scS_any n A c xs W (hr.ext he) hl
  have CB : Hid (∀ W : World, Ext w W → Calls Try.prog 27 #[.agg #[.int .i64 m, .slice B k d]] W (RetRB W (n2, x2) b2)) := fun W he => by rw [hkk, ← h2, hb2]; exact scS_any m B d ys W (hr2.ext he) hl2
  have HRR : Hid (R = (b1 && (b2 && (decide (n = m) && decide (clsF n xs = clsF m ys))))) := by
    rw [hR, hb1, hb2]
    unfold saB twoB
    simp only [Bool.and_assoc, Hid]
  have HS : Hid (b1 = true → b2 = true → (n1 = n ∧ x1 = clsF n xs) ∧ (n2 = m ∧ x2 = clsF m ys) ∧ rhyB n x1 = true ∧ rhyB m x2 = true) := fun e1 e2 => by
    rw [hb1] at e1
    rw [hb2] at e2
    rw [scF_good e1] at h1
    rw [scF_good e2] at h2
    injection h1 with h1 h1'
    injection h2 with h2 h2'
    refine ⟨⟨h1.symm, h1'.symm⟩, ⟨h2.symm, h2'.symm⟩, ?_, ?_⟩
    · rw [← h1']; exact clsF_rhy e1
    · rw [← h2']; exact clsF_rhy e2
  obtain ⟨W, hW⟩ : ∃ W, W = ((w.alloc (.cells #[.int .i64 n, .slice A l c] 33)).alloc (.cells #[.int .i64 m, .slice B k d] 33)) := ⟨_, rfl⟩
  have HX0 : Hid (Ext w W) := by rw [hW]; exact ((Ext.refl w).alloc _).alloc _
  have HG0 : Hid (Bx2 W w.heap.size 33 (.int .i64 n) (.slice A l c)) := by rw [hW]; exact (Bx2.new w _ _ _).ext ((Ext.refl _).alloc _)
  have HG1 : Hid (Bx2 W (w.heap.size + 1) 33 (.int .i64 m) (.slice B k d)) := by rw [hW]; exact Bx2.new1' _ _ _ _ _
  rw [← hll, ← hkk, ← hR]
  have HW := Lib.hid hW
  clear hll hkk hR hr hr2 hl hl2 hW hb1 hb2 h1 h2
  go_enter Try.func31, Try.ntmps31
  go_wp2_with fail
  rw [← HW.out]
  clear HW
  obtain ⟨q0, q1, p0, p1⟩ := HG0.out.cells
  go_wp2_with fail
  refine (CA.out W HX0.out).mono ?_
  intro e w1 hret
  obtain ⟨D1, d1, rfl, o1, e1⟩ := hret.parts
  have HX1 : Hid (Ext w (w1.alloc (.cells #[.int .i64 n1, .slice D1 x1.length d1] 33))) := (HX0.out.trans e1).alloc _
  have HQ1 : Hid (Bx2 (w1.alloc (.cells #[.int .i64 n1, .slice D1 x1.length d1] 33)) (w.heap.size + 1) 33 (.int .i64 m) (.slice B k d)) := (HG1.out.ext e1).ext ((Ext.refl _).alloc _)
  have HM1 := Lib.hid (Bx2.new w1 33 (.int .i64 n1) (.slice D1 x1.length d1))
  have HO1 : Hid (RdI (w1.alloc (.cells #[.int .i64 n1, .slice D1 x1.length d1] 33)) D1 x1) := (o1.ext ((Ext.refl _).alloc _)).rd
  clear hret o1 e1 q0 q1 p0 p1 HG0 HG1
  obtain ⟨q0, q1, p0, p1⟩ := HQ1.out.cells
  go_wp2_with fail
  refine (CB.out _ HX1.out).mono ?_
  intro e w2 hret
  obtain ⟨D2, d2, rfl, o2, e2⟩ := hret.parts
  have HE : Hid (Ext (w1.alloc (.cells #[.int .i64 n1, .slice D1 x1.length d1] 33)) (w2.alloc (.cells #[.int .i64 n2, .slice D2 x2.length d2] 33))) := e2.alloc _
  have HX2 := Lib.hid (HX1.out.trans HE.out)
  have HM2 := Lib.hid (HM1.out.ext HE.out)
  have HO2 := Lib.hid (HO1.out.ext HE.out)
  have HN2 := Lib.hid (Bx2.new w2 33 (.int .i64 n2) (.slice D2 x2.length d2))
  have HO3 : Hid (RdI (w2.alloc (.cells #[.int .i64 n2, .slice D2 x2.length d2] 33)) D2 x2) := (o2.ext ((Ext.refl _).alloc _)).rd
  clear hret o2 e2 q0 q1 p0 p1
  cases b1
  · have HF : Hid (R = false) := HRR.out
    go_wp2_with fail
    go_ret
    exact ⟨ret_bool HF.out.symm, HX2.out⟩
  cases b2
  · have HF : Hid (R = false) := HRR.out
    go_wp2_with fail
    go_ret
    exact ⟨ret_bool HF.out.symm, HX2.out⟩
  obtain ⟨⟨rfl, e3⟩, ⟨rfl, e4⟩, r1, r2⟩ := HS.out rfl rfl
  have HF : Hid (R = (decide (n1 = n2) && decide (x1 = x2))) := by rw [HRR.out, e3, e4]; exact rfl
  have CS := Lib.hid (sr_any n1 n2 D1 D2 d1 d2 x1 x2 _ HO2.out HO3.out r1 r2)
  clear e3 e4 r1 r2 HS
  obtain ⟨q0, q1, p0, p1⟩ := HM2.out.cells
  obtain ⟨q2, q3, p2, p3⟩ := HN2.out.cells
  go_wp2_with fail
  refine CS.out.mono ?_
  rintro e w3 ⟨rfl, e5⟩
  have HX3 := Lib.hid (HX2.out.trans e5)
  clear e5 q0 q1 p0 p1 q2 q3 p2 p3
  go_wp2_with fail
  go_ret
  exact ⟨ret_bool HF.out.symm, HX3.out⟩

set_option maxHeartbeats 4000000 in
theorem saI_any (n m : Int) (A B : Option Addr) (c d : Nat) (xs ys : List Int) (w : World) (hr : RdI w A xs) (hr2 : RdI w B ys) (hl : xs.length ≤ 1048576) (hl2 : ys.length ≤ 1048576) :
    Calls Try.prog 32 #[.agg #[.int .i64 n, .slice A xs.length c], .agg #[.int .i64 m, .slice B ys.length d]] w fun e w' => e = .returned (.bool (saB n xs m ys)) ∧ Ext w w' := by
  obtain ⟨l, hll⟩ : ∃ l, l = xs.length := ⟨_, rfl⟩
  obtain ⟨k, hkk⟩ : ∃ k, k = ys.length := ⟨_, rfl⟩
  obtain ⟨R, hR⟩ : ∃ R, R = saB n xs m ys := ⟨_, rfl⟩
  obtain ⟨W, hW⟩ : ∃ W, W = ((w.alloc (.cells #[.int .i64 n, .slice A l c] 33)).alloc (.cells #[.int .i64 m, .slice B k d] 33)) := ⟨_, rfl⟩
  have HX0 : Hid (Ext w W) := by rw [hW]; exact ((Ext.refl w).alloc _).alloc _
  have HG0 : Hid (Bx2 W w.heap.size 33 (.int .i64 n) (.slice A l c)) := by rw [hW]; exact (Bx2.new w _ _ _).ext ((Ext.refl _).alloc _)
  have HG1 : Hid (Bx2 W (w.heap.size + 1) 33 (.int .i64 m) (.slice B k d)) := by rw [hW]; exact Bx2.new1' _ _ _ _ _
  have HW := Lib.hid hW
  obtain ⟨b, hb⟩ : ∃ b, b = twoB n xs m ys := ⟨_, rfl⟩
  have C0 : Hid (∀ W : World, Ext w W → Calls Try.prog 64 #[.agg #[.int .i64 n, .slice A l c], .agg #[.int .i64 m, .slice B k d]] W fun e w' => e = .returned (.bool b) ∧ Ext W w') := fun W he => by rw [hll, hkk, hb]; exact twoI_any n m A B c d xs ys W (hr.ext he) (hr2.ext he) (by omega) (by omega)
  clear hW
  cases b
  · have HF : Hid (R = false) := by rw [hR]; unfold saB; rw [← hb]; exact rfl
    rw [← hll, ← hkk, ← hR]
    clear hll hkk hR hr hr2 hl hl2 hb
    go_enter Try.func32, Try.ntmps32
    go_wp2_with fail
    rw [← HW.out]
    clear HW
    obtain ⟨q0, q1, p0, p1⟩ := HG0.out.cells
    obtain ⟨q2, q3, p2, p3⟩ := HG1.out.cells
    go_region_with (go_at_call 64; refine (C0.out (World.drew W) (HX0.out.drew)).mono ?_; rintro e w1 ⟨rfl, e1⟩)
    all_goals have HX := Lib.hid (HX0.out.drew.trans e1)
    all_goals clear e1 q0 q1 q2 q3 p0 p1 p2 p3
    all_goals go_wp2_with fail
    all_goals (go_ret; exact ⟨ret_bool HF.out.symm, HX.out⟩)
  · obtain ⟨h1, h2, rfl⟩ := twoB_iff.1 hb.symm
    have hn := (rhyB_iff h1).1
    obtain ⟨N, rfl⟩ := Int.eq_ofNat_of_zero_le (show 0 ≤ n by omega)
    obtain ⟨x1, hx1⟩ : ∃ x1, x1 = clsF (N : Int) xs := ⟨_, rfl⟩
    obtain ⟨x2, hx2⟩ : ∃ x2, x2 = clsF (N : Int) ys := ⟨_, rfl⟩
    have hl1 : x1.length ≤ 24 := by rw [hx1]; exact rhy_short (clsF_rhy h1)
    have hl3 : x2.length ≤ 24 := by rw [hx2]; exact rhy_short (clsF_rhy h2)
    have HF : Hid (R = decide (x1 = x2)) := by rw [hR, hx1, hx2]; unfold saB; rw [← hb]; exact rfl
    have CA : Hid (∀ W : World, Ext w W → Calls Try.prog 62 #[.agg #[.int .i64 N, .slice A l c]] W (RetR W ((N : Int), x1))) := fun W he => by rw [hll, hx1]; exact clI_any N A c xs W (hr.ext he) h1
    have CB : Hid (∀ W : World, Ext w W → Calls Try.prog 62 #[.agg #[.int .i64 N, .slice B k d]] W (RetR W ((N : Int), x2))) := fun W he => by rw [hkk, hx2]; exact clI_any N B d ys W (hr2.ext he) h2
    have CE : Hid (∀ (D E : Option Addr) (q p : Nat) (W : World), RdI W D x1 → RdI W E x2 → Calls Try.prog 54 #[.agg #[.int .i64 N, .slice D x1.length q], .agg #[.int .i64 N, .slice E x2.length p]] W fun e w' => e = .returned (.bool (decide (x1 = x2))) ∧ Ext W w') := fun D E q p W g1 g2 => equals_any N D E q p x1 x2 W g1 g2 (by omega) (by omega)
    rw [← hll, ← hkk, ← hR]
    clear hll hkk hR hr hr2 hl hl2 hb h1 h2 hx1 hx2 hl1 hl3
    go_enter Try.func32, Try.ntmps32
    go_wp2_with fail
    rw [← HW.out]
    clear HW
    obtain ⟨q0, q1, p0, p1⟩ := HG0.out.cells
    obtain ⟨q2, q3, p2, p3⟩ := HG1.out.cells
    go_region_held3 (fun V => V.cell? ⟨w.heap.size, 0, none⟩ = some (.int .i64 N) ∧ V.cell? ⟨w.heap.size, 1, none⟩ = some (.slice A l c) ∧ V.cell? ⟨w.heap.size + 1, 0, none⟩ = some (.int .i64 N) ∧ V.cell? ⟨w.heap.size + 1, 1, none⟩ = some (.slice B k d))
      (first | exact ⟨q0, q1, q2, q3⟩ | exact ⟨Ext.cell e1 q0, Ext.cell e1 q1, Ext.cell e1 q2, Ext.cell e1 q3⟩ | exact ⟨Ext.cell e2 (Ext.cell e1 q0), Ext.cell e2 (Ext.cell e1 q1), Ext.cell e2 (Ext.cell e1 q2), Ext.cell e2 (Ext.cell e1 q3)⟩ | exact ⟨Ext.cell e3 (Ext.cell e2 (Ext.cell e1 q0)), Ext.cell e3 (Ext.cell e2 (Ext.cell e1 q1)), Ext.cell e3 (Ext.cell e2 (Ext.cell e1 q2)), Ext.cell e3 (Ext.cell e2 (Ext.cell e1 q3))⟩ | exact ⟨Ext.cell e4 (Ext.cell e3 (Ext.cell e2 (Ext.cell e1 q0))), Ext.cell e4 (Ext.cell e3 (Ext.cell e2 (Ext.cell e1 q1))), Ext.cell e4 (Ext.cell e3 (Ext.cell e2 (Ext.cell e1 q2))), Ext.cell e4 (Ext.cell e3 (Ext.cell e2 (Ext.cell e1 q3)))⟩)
      (first
        | (go_at_call 64; refine (C0.out (World.drew W) (HX0.out.drew)).mono ?_; rintro e w1 ⟨rfl, e1⟩)
        | (go_at_call 62; (with_reducible refine (CA.out w1 (HX0.out.drew.trans e1)).mono ?_); intro e w2 hret; obtain ⟨D1, d1, rfl, o1, e2⟩ := hret.parts; clear hret)
        | (go_at_call 62; (with_reducible refine (CB.out w2 ((HX0.out.drew.trans e1).trans e2)).mono ?_); intro e w3 hret; obtain ⟨D2, d2, rfl, o2, e3⟩ := hret.parts; clear hret)
        | (go_at_call 54; refine (CE.out D1 D2 d1 d2 w3 ((o1.ext e3).rd) o2.rd).mono ?_; rintro e w4 ⟨rfl, e4⟩))
    have HX := Lib.hid ((((HX0.out.drew.trans e1).trans e2).trans e3).trans e4)
    clear e1 e2 e3 e4 o1 o2 q0 q1 q2 q3 p0 p1 p2 p3
    go_wp2_with fail
    go_ret
    exact ⟨ret_bool HF.out.symm, HX.out⟩
end Go.Proofs.Ytphpdanohooccaa
