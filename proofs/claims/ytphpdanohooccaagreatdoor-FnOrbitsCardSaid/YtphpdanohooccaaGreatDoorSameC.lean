/- Contracts of SameClass. -/
import Derived.Test.YtphpdanohooccaaGreatDoorClassS
import Derived.Test.YtphpdanohooccaaGreatDoorRhy
namespace Go.Proofs.YtphpdanohooccaaGreatDoor
open Go.RowKit

/-- The class of a valid rhythm. -/
def clsF (n : Int) (xs : List Int) : List Int := clF n.toNat xs (uL n.toNat (n.toNat + 1))
def saB (n : Int) (xs : List Int) (m : Int) (ys : List Int) : Bool := twoB n xs m ys && decide (clsF n xs = clsF m ys)
theorem clsF_rhy {n : Int} {xs : List Int} (h : rhyB n xs = true) : rhyB n (clsF n xs) = true := by
  have h1 := (rhyB_iff h).1
  obtain ⟨N, rfl⟩ := Int.eq_ofNat_of_zero_le (show 0 ≤ n by omega)
  unfold clsF
  rw [Int.toNat_natCast]
  exact clF_rhy (by omega) (by omega) _


theorem scF_good {n : Int} {xs : List Int} (h : rhyB n xs = true) : scF n xs = (n, clsF n xs) := by unfold scF; rw [if_pos h]; rfl
theorem scF_bad {n : Int} {xs : List Int} (h : rhyB n xs = false) : scF n xs = (0, []) := by unfold scF; rw [h]; rfl


set_option maxHeartbeats 4000000 in
theorem saI_any (n m : Int) (A B : Option Addr) (c d : Nat) (xs ys : List Int) (w : World) (hr : RdI w A xs) (hr2 : RdI w B ys) (hl : xs.length ≤ 1048576) (hl2 : ys.length ≤ 1048576) :
    Calls Tryz.prog 21 #[.agg #[.int .i64 n, .slice A xs.length c], .agg #[.int .i64 m, .slice B ys.length d]] w fun e w' => e = .returned (.bool (saB n xs m ys)) ∧ Ext w w' := by
  obtain ⟨l, hll⟩ : ∃ l, l = xs.length := ⟨_, rfl⟩
  obtain ⟨k, hkk⟩ : ∃ k, k = ys.length := ⟨_, rfl⟩
  obtain ⟨R, hR⟩ : ∃ R, R = saB n xs m ys := ⟨_, rfl⟩
  obtain ⟨W, hW⟩ : ∃ W, W = ((w.alloc (.cells #[.int .i64 n, .slice A l c] 25)).alloc (.cells #[.int .i64 m, .slice B k d] 25)) := ⟨_, rfl⟩
  have HX0 : Hid (Ext w W) := by rw [hW]; exact ((Ext.refl w).alloc _).alloc _
  have HG0 : Hid (Bx2 W w.heap.size 25 (.int .i64 n) (.slice A l c)) := by rw [hW]; exact (Bx2.new w _ _ _).ext ((Ext.refl _).alloc _)
  have HG1 : Hid (Bx2 W (w.heap.size + 1) 25 (.int .i64 m) (.slice B k d)) := by rw [hW]; exact Bx2.new1' _ _ _ _ _
  have HW := Lib.hid hW
  obtain ⟨b, hb⟩ : ∃ b, b = twoB n xs m ys := ⟨_, rfl⟩
  have C0 : Hid (∀ W : World, Ext w W → Calls Tryz.prog 47 #[.agg #[.int .i64 n, .slice A l c], .agg #[.int .i64 m, .slice B k d]] W fun e w' => e = .returned (.bool b) ∧ Ext W w') := fun W he => by rw [hll, hkk, hb]; exact twoI_any n m A B c d xs ys W (hr.ext he) (hr2.ext he) (by omega) (by omega)
  clear hW
  cases b
  · have HF : Hid (R = false) := by rw [hR]; unfold saB; rw [← hb]; exact rfl
    rw [← hll, ← hkk, ← hR]
    clear hll hkk hR hr hr2 hl hl2 hb
    go_enter Tryz.func21, Tryz.ntmps21
    go_wp2_with fail
    rw [← HW.out]
    clear HW
    obtain ⟨q0, q1, p0, p1⟩ := HG0.out.cells
    obtain ⟨q2, q3, p2, p3⟩ := HG1.out.cells
    go_region_with (go_at_call 47; refine (C0.out (World.drew W) (HX0.out.drew)).mono ?_; rintro e w1 ⟨rfl, e1⟩)
    all_goals have HX := Lib.hid (HX0.out.drew.trans e1)
    all_goals clear e1 q0 q1 q2 q3 p0 p1 p2 p3
    all_goals go_wp2_with fail
    all_goals (go_ret; exact ⟨ret_bool HF.out.symm, HX.out⟩)
  · obtain ⟨h1, h2, rfl⟩ := twoB_iff.1 hb.symm
    have hn := (rhyB_iff h1).1
    obtain ⟨N, rfl⟩ := Int.eq_ofNat_of_zero_le (show 0 ≤ n by omega)
    obtain ⟨x1, hx1⟩ : ∃ x1, x1 = clsF (N : Int) xs := ⟨_, rfl⟩
    obtain ⟨x2, hx2⟩ : ∃ x2, x2 = clsF (N : Int) ys := ⟨_, rfl⟩
    have hl1 : x1.length ≤ 24 := by rw [hx1]; exact rhy_short (clsF_rhy h1)
    have hl3 : x2.length ≤ 24 := by rw [hx2]; exact rhy_short (clsF_rhy h2)
    have HF : Hid (R = decide (x1 = x2)) := by rw [hR, hx1, hx2]; unfold saB; rw [← hb]; exact rfl
    have CA : Hid (∀ W : World, Ext w W → Calls Tryz.prog 44 #[.agg #[.int .i64 N, .slice A l c]] W (RetR W ((N : Int), x1))) := fun W he => by rw [hll, hx1]; exact clI_any N A c xs W (hr.ext he) h1
    have CB : Hid (∀ W : World, Ext w W → Calls Tryz.prog 44 #[.agg #[.int .i64 N, .slice B k d]] W (RetR W ((N : Int), x2))) := fun W he => by rw [hkk, hx2]; exact clI_any N B d ys W (hr2.ext he) h2
    have CE : Hid (∀ (D E : Option Addr) (q p : Nat) (W : World), RdI W D x1 → RdI W E x2 → Calls Tryz.prog 27 #[.agg #[.int .i64 N, .slice D x1.length q], .agg #[.int .i64 N, .slice E x2.length p]] W fun e w' => e = .returned (.bool (decide (x1 = x2))) ∧ Ext W w') := fun D E q p W g1 g2 => equals_any N D E q p x1 x2 W g1 g2 (by omega) (by omega)
    rw [← hll, ← hkk, ← hR]
    clear hll hkk hR hr hr2 hl hl2 hb h1 h2 hx1 hx2 hl1 hl3
    go_enter Tryz.func21, Tryz.ntmps21
    go_wp2_with fail
    rw [← HW.out]
    clear HW
    obtain ⟨q0, q1, p0, p1⟩ := HG0.out.cells
    obtain ⟨q2, q3, p2, p3⟩ := HG1.out.cells
    go_region_held3 (fun V => V.cell? ⟨w.heap.size, 0, none⟩ = some (.int .i64 N) ∧ V.cell? ⟨w.heap.size, 1, none⟩ = some (.slice A l c) ∧ V.cell? ⟨w.heap.size + 1, 0, none⟩ = some (.int .i64 N) ∧ V.cell? ⟨w.heap.size + 1, 1, none⟩ = some (.slice B k d))
      (first | exact ⟨q0, q1, q2, q3⟩ | exact ⟨Ext.cell e1 q0, Ext.cell e1 q1, Ext.cell e1 q2, Ext.cell e1 q3⟩ | exact ⟨Ext.cell e2 (Ext.cell e1 q0), Ext.cell e2 (Ext.cell e1 q1), Ext.cell e2 (Ext.cell e1 q2), Ext.cell e2 (Ext.cell e1 q3)⟩ | exact ⟨Ext.cell e3 (Ext.cell e2 (Ext.cell e1 q0)), Ext.cell e3 (Ext.cell e2 (Ext.cell e1 q1)), Ext.cell e3 (Ext.cell e2 (Ext.cell e1 q2)), Ext.cell e3 (Ext.cell e2 (Ext.cell e1 q3))⟩ | exact ⟨Ext.cell e4 (Ext.cell e3 (Ext.cell e2 (Ext.cell e1 q0))), Ext.cell e4 (Ext.cell e3 (Ext.cell e2 (Ext.cell e1 q1))), Ext.cell e4 (Ext.cell e3 (Ext.cell e2 (Ext.cell e1 q2))), Ext.cell e4 (Ext.cell e3 (Ext.cell e2 (Ext.cell e1 q3)))⟩)
      (first
        | (go_at_call 47; refine (C0.out (World.drew W) (HX0.out.drew)).mono ?_; rintro e w1 ⟨rfl, e1⟩)
        | (go_at_call 44; (with_reducible refine (CA.out w1 (HX0.out.drew.trans e1)).mono ?_); intro e w2 hret; obtain ⟨D1, d1, rfl, o1, e2⟩ := hret.parts; clear hret)
        | (go_at_call 44; (with_reducible refine (CB.out w2 ((HX0.out.drew.trans e1).trans e2)).mono ?_); intro e w3 hret; obtain ⟨D2, d2, rfl, o2, e3⟩ := hret.parts; clear hret)
        | (go_at_call 27; refine (CE.out D1 D2 d1 d2 w3 ((o1.ext e3).rd) o2.rd).mono ?_; rintro e w4 ⟨rfl, e4⟩))
    have HX := Lib.hid ((((HX0.out.drew.trans e1).trans e2).trans e3).trans e4)
    clear e1 e2 e3 e4 o1 o2 q0 q1 q2 q3 p0 p1 p2 p3
    go_wp2_with fail
    go_ret
    exact ⟨ret_bool HF.out.symm, HX.out⟩
end Go.Proofs.YtphpdanohooccaaGreatDoor
