/- Contracts of StepsOf, of the fit of a rhythm and a meter, of SyncopationOf. -/
import Derived.Test.YtedfmjijemcpaaaWt
import Derived.Deep.RegionHeld3
namespace Go.Proofs.Ytedfmjijemcpaaa
open Go.RowKit

theorem stJ_bd {n : Int} {bs : List Int} (h : rhyB n bs = true) {i : Nat} (hi : i < bs.length) : 1 ≤ stJ n bs i ∧ stJ n bs i ≤ 47 := by
  have hv := rhyB_iff h
  have h1 := (hv.2 i hi).1
  unfold stJ
  by_cases h2 : i + 1 < bs.length
  · rw [if_pos h2]
    have h3 := hv.2 (i + 1) h2
    have h4 := h3.2 (by omega)
    rw [show i + 1 - 1 = i by omega] at h4
    omega
  · rw [if_neg h2]
    have h3 := (hv.2 0 (by omega)).1
    omega

set_option maxHeartbeats 1000000 in
theorem stepsI_any (A : Option Addr) (c : Nat) (n : Int) (xs : List Int) (w : World) (hr : RdI w A xs) (hv : rhyB n xs = true) (hl : xs.length ≤ 1048576) :
    Calls Try.prog 35 #[.agg #[.int .i64 n, .slice A xs.length c]] w (RetI w (stepsF n xs)) := by
  have C1 : Hid (∀ V : World, Ext w V → Calls Try.prog 40 #[.agg #[.int .i64 n, .slice A xs.length c]] V fun e w' => e = .returned (.bool true) ∧ Ext V w') := fun V h => by have := rhyI_any A c n xs V (hr.ext h) (by omega); rwa [hv] at this
  have C2 : Hid (∀ V : World, Ext w V → Calls Try.prog 52 #[.agg #[.int .i64 n, .slice A xs.length c]] V (RetI V (stepsF n xs))) := fun V h => steps_any A c n xs V (hr.ext h) hv hl
  have HX0 : Hid (Ext w (w.alloc (.cells #[.int .i64 n, .slice A xs.length c] 29))) := (Ext.refl w).alloc _
  have HG0 := Lib.hid (Bx2.new w 29 (.int .i64 n) (.slice A xs.length c))
  obtain ⟨l, hll⟩ : ∃ l, l = xs.length := ⟨_, rfl⟩
  obtain ⟨R, hR⟩ : ∃ R, R = stepsF n xs := ⟨_, rfl⟩
  rw [← hll] at C1 C2 HX0 HG0 ⊢
  rw [← hR] at C2 ⊢
  clear hr hv hl hll hR
  go_enter Try.func35, Try.ntmps35
  obtain ⟨q0, q1, _, _⟩ := HG0.out.cells
  go_wp2_with fail
  refine (C1.out _ HX0.out).mono ?_
  rintro e w1 ⟨rfl, e1⟩
  have X1 := Lib.hid (HX0.out.trans e1)
  have HG1 := Lib.hid (HG0.out.ext e1)
  clear e1 q0 q1
  obtain ⟨q0, q1, _, _⟩ := HG1.out.cells
  go_wp2_with fail
  refine (C2.out _ X1.out).mono ?_
  rintro e w2 ⟨B, d, rfl, ho, he⟩
  have HO := Lib.hid (ho.lower X1.out.size)
  have X2 := Lib.hid (X1.out.trans he)
  clear ho he
  go_wp2_with fail
  go_ret
  exact ⟨B, d, rfl, HO.out, X2.out⟩

set_option maxHeartbeats 1000000 in
theorem stepsS_any (A : Option Addr) (c : Nat) (n : Int) (xs : List Int) (w : World) (hr : RdI w A xs) (hv : rhyB n xs = true) (hl : xs.length ≤ 1048576) :
    Calls Try.prog 59 #[.agg #[.int .i64 n, .slice A xs.length c]] w (RetI w (stepsF n xs)) := by
  have C1 : Hid (∀ V : World, Ext w V → Calls Try.prog 42 #[.agg #[.int .i64 n, .slice A xs.length c]] V fun e w' => e = .returned (.bool true) ∧ Ext V w') := fun V h => by have := rhyS_any A c n xs V (hr.ext h) (by omega); rwa [hv] at this
  have C2 : Hid (∀ V : World, Ext w V → Calls Try.prog 65 #[.agg #[.int .i64 n, .slice A xs.length c]] V (RetI V (stepsF n xs))) := fun V h => l03_any A c n xs V (hr.ext h) hv hl
  have HX0 : Hid (Ext w (w.alloc (.cells #[.int .i64 n, .slice A xs.length c] 29))) := (Ext.refl w).alloc _
  have HG0 := Lib.hid (Bx2.new w 29 (.int .i64 n) (.slice A xs.length c))
  have HR0 : Hid (xs.length = 0 → stepsF n xs = []) := fun h => by unfold stepsF stP; rw [h]; rfl
  obtain ⟨l, hll⟩ : ∃ l, l = xs.length := ⟨_, rfl⟩
  obtain ⟨R, hR⟩ : ∃ R, R = stepsF n xs := ⟨_, rfl⟩
  rw [← hll] at C1 C2 HX0 HG0 HR0 ⊢
  rw [← hR] at C2 HR0 ⊢
  clear hr hv hl hll hR
  go_enter Try.func59, Try.ntmps59
  obtain ⟨q0, q1, _, _⟩ := HG0.out.cells
  go_wp2_with fail
  refine (C1.out _ HX0.out).mono ?_
  rintro e w1 ⟨rfl, e1⟩
  have X1 := Lib.hid (HX0.out.trans e1)
  have HG1 := Lib.hid (HG0.out.ext e1)
  clear e1 q0 q1
  obtain ⟨q0, q1, _, _⟩ := HG1.out.cells
  by_cases h0 : l = 0
  · have hR := HR0.out h0
    subst h0 hR
    go_wp2_with fail
    go_ret
    exact ⟨none, 0, rfl, OwI.nil _ _, X1.out⟩
  · have h1 : ((l : Int) == 0) = false := by simp; omega
    go_wp2_with fail
    refine (C2.out _ X1.out).mono ?_
    rintro e w2 ⟨B, d, rfl, ho, he⟩
    have HO := Lib.hid (ho.lower X1.out.size)
    have X2 := Lib.hid (X1.out.trans he)
    clear ho he
    go_wp2_with fail
    go_ret
    exact ⟨B, d, rfl, HO.out, X2.out⟩

set_option maxHeartbeats 2000000 in
theorem fitS_any (A : Option Addr) (c : Nat) (n : Int) (bs : List Int) (B : Option Addr) (d : Nat) (xs : List Int) (w : World) (hr : RdI w A bs) (hv : rhyB n bs = true) (hm : RdI w B xs) (hx : metB xs = true) (hn : n = prodF xs) :
    Calls Try.prog 57 #[.agg #[.int .i64 n, .slice A bs.length c], .slice B xs.length d] w fun e w' => e = .returned (.bool true) ∧ Ext w w' := by
  have hlb := rhyB_len hv
  have hvi := (rhyB_iff hv).1
  have hxi := metB_iff hx
  have C1 : Hid (∀ V : World, Ext w V → Calls Try.prog 42 #[.agg #[.int .i64 n, .slice A bs.length c]] V fun e w' => e = .returned (.bool true) ∧ Ext V w') := fun V h => by have := rhyS_any A c n bs V (hr.ext h) (by omega); rwa [hv] at this
  have C2 : Hid (∀ V : World, Ext w V → Calls Try.prog 62 #[.slice B xs.length d] V fun e w' => e = .returned (.bool true) ∧ Ext V w') := fun V h => by
    have := metS_any B d xs V (hm.ext h) (by omega)
    rw [hx] at this
    exact this.mono fun _ _ ⟨h1, h2⟩ => ⟨h1, by first | exact h2 | exact h2 ▸ Ext.refl _⟩
  have C3 : Hid (∀ V : World, Ext w V → Calls Try.prog 63 #[.slice B xs.length d] V fun e w' => e = .returned (.int .i64 n) ∧ Ext V w') := fun V h => by
    have := prodS_any B d xs V (hm.ext h) (by omega) hxi.2.1
    rw [← hn] at this
    exact this.mono fun _ _ ⟨h1, h2⟩ => ⟨h1, h2 ▸ Ext.refl _⟩
  obtain ⟨W, hW⟩ : ∃ W, W = w.alloc (.cells #[.int .i64 n, .slice A bs.length c] 29) := ⟨_, rfl⟩
  have HX0 : Hid (Ext w W) := by rw [hW]; exact (Ext.refl w).alloc _
  have HG0 : Hid (Bx2 W w.heap.size 29 (.int .i64 n) (.slice A bs.length c)) := by rw [hW]; exact Bx2.new w _ _ _
  obtain ⟨l, hll⟩ : ∃ l, l = bs.length := ⟨_, rfl⟩
  obtain ⟨m, hmm⟩ : ∃ m, m = xs.length := ⟨_, rfl⟩
  rw [← hll] at C1 HG0 hW ⊢
  rw [← hmm] at C2 C3 ⊢
  have HW := Lib.hid hW
  clear hr hv hm hx hn hll hmm hlb hvi hxi hW
  go_enter Try.func57, Try.ntmps57
  go_wp2_with fail
  rw [← HW.out]
  clear HW
  obtain ⟨q0, q1, p0, p1⟩ := HG0.out.cells
  go_region_held3 (fun V => V.cell? ⟨w.heap.size, 0, none⟩ = some (.int .i64 n) ∧ V.cell? ⟨w.heap.size, 1, none⟩ = some (.slice A l c))
    (first | exact ⟨q0, q1⟩ | exact ⟨Ext.cell e1 q0, Ext.cell e1 q1⟩ | exact ⟨Ext.cell e2 (Ext.cell e1 q0), Ext.cell e2 (Ext.cell e1 q1)⟩ | exact ⟨Ext.cell e3 (Ext.cell e2 (Ext.cell e1 q0)), Ext.cell e3 (Ext.cell e2 (Ext.cell e1 q1))⟩)
    (first
      | (go_at_call 42; refine (C1.out (World.drew W) HX0.out.drew).mono ?_; rintro e w1 ⟨rfl, e1⟩)
      | (go_at_call 62; refine (C2.out w1 (HX0.out.drew.trans e1)).mono ?_; rintro e w2 ⟨rfl, e2⟩)
      | (go_at_call 63; refine (C3.out w2 ((HX0.out.drew.trans e1).trans e2)).mono ?_; rintro e w3 ⟨rfl, e3⟩))
  have HX3 := Lib.hid (((HX0.out.drew.trans e1).trans e2).trans e3)
  clear e1 e2 e3 q0 q1 p0 p1
  go_wp2_with fail
  go_ret
  exact ⟨rfl, HX3.out⟩
set_option maxHeartbeats 2000000 in
theorem fitI_any (A : Option Addr) (c : Nat) (n : Int) (bs : List Int) (B : Option Addr) (d : Nat) (xs : List Int) (w : World) (hr : RdI w A bs) (hv : rhyB n bs = true) (hm : RdI w B xs) (hx : metB xs = true) (hn : n = prodF xs) :
    Calls Try.prog 34 #[.agg #[.int .i64 n, .slice A bs.length c], .slice B xs.length d] w fun e w' => e = .returned (.bool true) ∧ Ext w w' := by
  have hlb := rhyB_len hv
  have hvi := (rhyB_iff hv).1
  have hxi := metB_iff hx
  have C1 : Hid (∀ V : World, Ext w V → Calls Try.prog 40 #[.agg #[.int .i64 n, .slice A bs.length c]] V fun e w' => e = .returned (.bool true) ∧ Ext V w') := fun V h => by have := rhyI_any A c n bs V (hr.ext h) (by omega); rwa [hv] at this
  have C2 : Hid (∀ V : World, Ext w V → Calls Try.prog 8 #[.slice B xs.length d] V fun e w' => e = .returned (.bool true) ∧ Ext V w') := fun V h => by
    have := metI_any B d xs V (hm.ext h) (by omega)
    rw [hx] at this
    exact this.mono fun _ _ ⟨h1, h2⟩ => ⟨h1, by first | exact h2 | exact h2 ▸ Ext.refl _⟩
  have C3 : Hid (∀ V : World, Ext w V → Calls Try.prog 29 #[.slice B xs.length d] V fun e w' => e = .returned (.int .i64 n) ∧ Ext V w') := fun V h => by
    have := prodI_any B d xs V (hm.ext h) (by omega) hxi.2.1
    rw [← hn] at this
    exact this.mono fun _ _ ⟨h1, h2⟩ => ⟨h1, h2 ▸ Ext.refl _⟩
  obtain ⟨W, hW⟩ : ∃ W, W = w.alloc (.cells #[.int .i64 n, .slice A bs.length c] 29) := ⟨_, rfl⟩
  have HX0 : Hid (Ext w W) := by rw [hW]; exact (Ext.refl w).alloc _
  have HG0 : Hid (Bx2 W w.heap.size 29 (.int .i64 n) (.slice A bs.length c)) := by rw [hW]; exact Bx2.new w _ _ _
  obtain ⟨l, hll⟩ : ∃ l, l = bs.length := ⟨_, rfl⟩
  obtain ⟨m, hmm⟩ : ∃ m, m = xs.length := ⟨_, rfl⟩
  rw [← hll] at C1 HG0 hW ⊢
  rw [← hmm] at C2 C3 ⊢
  have HW := Lib.hid hW
  clear hr hv hm hx hn hll hmm hlb hvi hxi hW
  go_enter Try.func34, Try.ntmps34
  go_wp2_with fail
  rw [← HW.out]
  clear HW
  obtain ⟨q0, q1, p0, p1⟩ := HG0.out.cells
  go_region_held3 (fun V => V.cell? ⟨w.heap.size, 0, none⟩ = some (.int .i64 n) ∧ V.cell? ⟨w.heap.size, 1, none⟩ = some (.slice A l c))
    (first | exact ⟨q0, q1⟩ | exact ⟨Ext.cell e1 q0, Ext.cell e1 q1⟩ | exact ⟨Ext.cell e2 (Ext.cell e1 q0), Ext.cell e2 (Ext.cell e1 q1)⟩ | exact ⟨Ext.cell e3 (Ext.cell e2 (Ext.cell e1 q0)), Ext.cell e3 (Ext.cell e2 (Ext.cell e1 q1))⟩)
    (first
      | (go_at_call 40; refine (C1.out (World.drew W) HX0.out.drew).mono ?_; rintro e w1 ⟨rfl, e1⟩)
      | (go_at_call 8; refine (C2.out w1 (HX0.out.drew.trans e1)).mono ?_; rintro e w2 ⟨rfl, e2⟩)
      | (go_at_call 29; refine (C3.out w2 ((HX0.out.drew.trans e1).trans e2)).mono ?_; rintro e w3 ⟨rfl, e3⟩))
  have HX3 := Lib.hid (((HX0.out.drew.trans e1).trans e2).trans e3)
  clear e1 e2 e3 q0 q1 p0 p1
  go_wp2_with fail
  go_ret
  exact ⟨rfl, HX3.out⟩
end Go.Proofs.Ytedfmjijemcpaaa
