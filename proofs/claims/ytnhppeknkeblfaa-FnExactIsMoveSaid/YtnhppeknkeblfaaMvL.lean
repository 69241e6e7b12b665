/- Contracts of IsMove, of the program, at all arguments. -/
import Derived.Test.YtnhppeknkeblfaaMvK
import Derived.Deep.RegionWith
namespace Go.Proofs.Ytnhppeknkeblfaa
open Go.RowKit Go.Sort

set_option maxRecDepth 20000 in
set_option maxHeartbeats 4000000 in
theorem imI_any (n m : Int) (A B : Option Addr) (c d : Nat) (xs ys : List Int) (w : World) (hr : RdI w A xs) (hr2 : RdI w B ys) (hl : xs.length ≤ 1048576) (hl2 : ys.length ≤ 1048576) :
    Calls Try.prog 19 #[.agg #[.int .i64 n, .slice A xs.length c], .agg #[.int .i64 m, .slice B ys.length d]] w fun e w' => e = .returned (.bool (imF n xs m ys)) ∧ Ext w w' := by
  by_cases hb : rhyB n xs = true
  · by_cases hb2 : rhyB m ys = true
    · have hn := (rhyB_iff hb).1
      obtain ⟨N, rfl⟩ := Int.eq_ofNat_of_zero_le (show 0 ≤ n by omega)
      have hF : imF N xs m ys = decide (m = (N : Int) ∧ ys ∈ mvL N xs xs.length) := by
        unfold imF
        rw [hb, hb2, Bool.true_and, Bool.true_and, Bool.decide_and, Int.toNat_natCast]
        congr 1
        rw [decide_eq_decide]
        exact ⟨fun h => h.symm, fun h => h.symm⟩
      rw [hF]
      exact imI_good N m A B c d xs ys w hr hr2 hb hb2
    · rw [Bool.not_eq_true] at hb2
      have hF : imF n xs m ys = false := by unfold imF; rw [hb, hb2]; rfl
      rw [hF]
      obtain ⟨l, hll⟩ : ∃ l, l = xs.length := ⟨_, rfl⟩
      obtain ⟨k, hkk⟩ : ∃ k, k = ys.length := ⟨_, rfl⟩
      have CO : Hid (∀ W : World, Ext w W → Calls Try.prog 31 #[.agg #[.int .i64 n, .slice A l c]] W fun e w' => e = .returned (.bool true) ∧ Ext W w') := fun W he => by rw [hll, ← hb]; exact rhyI_any A c n xs W (hr.ext he) (by omega)
      have CO2 : Hid (∀ W : World, Ext w W → Calls Try.prog 31 #[.agg #[.int .i64 m, .slice B k d]] W fun e w' => e = .returned (.bool false) ∧ Ext W w') := fun W he => by rw [hkk, ← hb2]; exact rhyI_any B d m ys W (hr2.ext he) (by omega)
      obtain ⟨W, hW⟩ : ∃ W, W = ((w.alloc (.cells #[.int .i64 n, .slice A l c] 27)).alloc (.cells #[.int .i64 m, .slice B k d] 27)) := ⟨_, rfl⟩
      have HX0 : Hid (Ext w W) := by rw [hW]; exact ((Ext.refl w).alloc _).alloc _
      have HG0 : Hid (Bx2 W w.heap.size 27 (.int .i64 n) (.slice A l c)) := by rw [hW]; exact (Bx2.new w _ _ _).ext ((Ext.refl _).alloc _)
      have HG1 : Hid (Bx2 W (w.heap.size + 1) 27 (.int .i64 m) (.slice B k d)) := by rw [hW]; exact Bx2.new1' _ _ _ _ _
      rw [← hll, ← hkk]
      have HW := Lib.hid hW
      clear hll hkk hW hr hr2 hb hb2 hl hl2 hF
      go_enter Try.func19, Try.ntmps19
      go_wp2_with fail
      rw [← HW.out]
      obtain ⟨q0, q1, p0, p1⟩ := HG0.out.cells
      obtain ⟨q2, q3, p2, p3⟩ := HG1.out.cells
      clear p0 p1 p2 p3 HW
      go_region_with (first
          | (go_at_call 31; (with_reducible refine (CO.out _ (by first | exact HX0.out | exact HX0.out.drew)).mono ?_); rintro e w1 ⟨rfl, e1⟩; have HX1 := Lib.hid (Ext.trans (by first | exact HX0.out | exact HX0.out.drew) e1); have HP1 := Lib.hid (Ext.trans (Ext.refl W).drew e1); clear e1; have r0 := Ext.cell HP1.out q0; have r1 := Ext.cell HP1.out q1; have r2 := Ext.cell HP1.out q2; have r3 := Ext.cell HP1.out q3)
          | (go_at_call 31; (with_reducible refine (CO2.out _ HX1.out).mono ?_); rintro e w2 ⟨rfl, e2⟩; have HX2 := Lib.hid (HX1.out.trans e2); clear e2))
      all_goals
        clear q0 q1 q2 q3 HX0 HG0 HG1
        try (go_wp2_with fail)
        go_ret
        exact ⟨rfl, HX2.out⟩
  · rw [Bool.not_eq_true] at hb
    have hF : imF n xs m ys = false := by unfold imF; rw [hb]; rfl
    rw [hF]
    obtain ⟨l, hll⟩ : ∃ l, l = xs.length := ⟨_, rfl⟩
    obtain ⟨k, hkk⟩ : ∃ k, k = ys.length := ⟨_, rfl⟩
    have CO : Hid (∀ W : World, Ext w W → Calls Try.prog 31 #[.agg #[.int .i64 n, .slice A l c]] W fun e w' => e = .returned (.bool false) ∧ Ext W w') := fun W he => by rw [hll, ← hb]; exact rhyI_any A c n xs W (hr.ext he) (by omega)
    obtain ⟨W, hW⟩ : ∃ W, W = ((w.alloc (.cells #[.int .i64 n, .slice A l c] 27)).alloc (.cells #[.int .i64 m, .slice B k d] 27)) := ⟨_, rfl⟩
    have HX0 : Hid (Ext w W) := by rw [hW]; exact ((Ext.refl w).alloc _).alloc _
    have HG0 : Hid (Bx2 W w.heap.size 27 (.int .i64 n) (.slice A l c)) := by rw [hW]; exact (Bx2.new w _ _ _).ext ((Ext.refl _).alloc _)
    rw [← hll, ← hkk]
    have HW := Lib.hid hW
    clear hll hkk hW hr hr2 hb hl hl2 hF
    go_enter Try.func19, Try.ntmps19
    go_wp2_with fail
    rw [← HW.out]
    obtain ⟨q0, q1, p0, p1⟩ := HG0.out.cells
    clear p0 p1 HW
    go_region_with (first
        | (go_at_call 31; (with_reducible refine (CO.out _ (by first | exact HX0.out | exact HX0.out.drew)).mono ?_); rintro e w1 ⟨rfl, e1⟩; have HX1 := Lib.hid (Ext.trans (by first | exact HX0.out | exact HX0.out.drew) e1); clear e1))
    all_goals
      clear q0 q1 HX0 HG0
      try (go_wp2_with fail)
      go_ret
      exact ⟨rfl, HX1.out⟩
end Go.Proofs.Ytnhppeknkeblfaa
