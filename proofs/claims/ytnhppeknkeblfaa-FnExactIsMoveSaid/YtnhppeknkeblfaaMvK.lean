/- Contracts of IsMove, of the program. -/
import Derived.Test.YtnhppeknkeblfaaMvJ
import Derived.Test.YtnhppeknkeblfaaLater
namespace Go.Proofs.Ytnhppeknkeblfaa
open Go.RowKit Go.Sort

set_option maxHeartbeats 1000000 in
theorem equals2_any (m n : Int) (A B : Option Addr) (c d : Nat) (xs ys : List Int) (w : World) (hr : RdI w A xs) (hr2 : RdI w B ys) (hl : xs.length ≤ 1048576) (hl2 : ys.length ≤ 1048576) :
    Calls Try.prog 43 #[.agg #[.int .i64 m, .slice A xs.length c], .agg #[.int .i64 n, .slice B ys.length d]] w fun e w' => e = .returned (.bool (decide (m = n ∧ xs = ys))) ∧ Ext w w' := by
  by_cases h : m = n
  · subst h
    rw [show decide (m = m ∧ xs = ys) = decide (xs = ys) by simp]
    exact equals_any m A B c d xs ys w hr hr2 hl hl2
  · rw [show decide (m = n ∧ xs = ys) = false by simp [h]]
    obtain ⟨l, hll⟩ : ∃ l, l = xs.length := ⟨_, rfl⟩
    obtain ⟨k, hkk⟩ : ∃ k, k = ys.length := ⟨_, rfl⟩
    obtain ⟨W, hW⟩ : ∃ W, W = ((w.alloc (.cells #[.int .i64 m, .slice A l c] 27)).alloc (.cells #[.int .i64 n, .slice B k d] 27)) := ⟨_, rfl⟩
    have HX0 : Hid (Ext w W) := by rw [hW]; exact ((Ext.refl w).alloc _).alloc _
    have HG0 : Hid (Bx2 W w.heap.size 27 (.int .i64 m) (.slice A l c)) := by rw [hW]; exact (Bx2.new w _ _ _).ext ((Ext.refl _).alloc _)
    have HG1 : Hid (Bx2 W (w.heap.size + 1) 27 (.int .i64 n) (.slice B k d)) := by rw [hW]; exact Bx2.new1' _ _ _ _ _
    have hmn : (m == n) = false := by simpa using h
    rw [← hll, ← hkk]
    clear hll hkk hr hr2 hl hl2
    have HW := Lib.hid hW
    clear hW
    go_enter Try.func43, Try.ntmps43
    go_wp2_with fail
    rw [← HW.out]
    clear HW
    obtain ⟨q0, q1, p0, p1⟩ := HG0.out.cells
    obtain ⟨q2, q3, p2, p3⟩ := HG1.out.cells
    go_wp2_with fail
    go_ret
    exact ⟨rfl, HX0.out⟩
set_option maxRecDepth 20000 in
set_option maxHeartbeats 4000000 in
theorem idxFunc_any (n : Nat) (nb : Int) (A B : Option Addr) (c d : Nat) (es : List (Int × Option Addr × Nat × List Int)) (zss : List (List Int)) (ys : List Int) (L : Nat) (w : World) (ho : OwQ w L A c es) (hi : InQ w L es) (hz : es.map (fun x : Int × Option Addr × Nat × List Int => (x.1, x.2.2.2)) = rsM n zss) (hzl : zss.length ≤ 48) (hb : ∀ z ∈ zss, z.length ≤ 24) (hr : RdI w B ys) (hy : ys.length ≤ 24) :
    Calls Try.prog 55 #[.slice A es.length c, .func (.func 43) #[.agg #[.int .i64 nb, .slice B ys.length d]] #[]] w fun e w' => (∃ r : Int, e = .returned (.int .i64 r) ∧ (0 ≤ r ↔ nb = n ∧ ys ∈ zss) ∧ -1 ≤ r ∧ r ≤ 48) ∧ Ext w w' := by
  obtain ⟨hlen, hrow⟩ := row_atM ho hi hz
  have HROW := Lib.hid hrow
  rw [hlen]
  obtain ⟨m, hm⟩ : ∃ m, m = zss.length := ⟨_, rfl⟩
  obtain ⟨l, hll⟩ : ∃ l, l = ys.length := ⟨_, rfl⟩
  rw [← hm] at hzl HROW ⊢
  have HM := Lib.hid hm
  have HB := Lib.hid hb
  have CE : Hid (∀ (D : Option Addr) (q : Nat) (z : List Int) (W : World), Ext w W → RdI W D z → z.length ≤ 24 → Calls Try.prog 43 #[.agg #[.int .i64 nb, .slice B l d], .agg #[.int .i64 n, .slice D z.length q]] W fun e w' => e = .returned (.bool (decide (nb = n ∧ ys = z))) ∧ Ext W w') := fun D q z W he h h2 => by rw [hll]; exact equals2_any nb n B D d q ys z W (hr.ext he) h (by omega) (by omega)
  rw [← hll]
  clear hlen hrow hm hll hb hr hy ho hi hz
  go_enter Try.func55, Try.ntmps55
  go_wp2_with fail
  go_loopw [8] (fun i wr => ∃ j : Nat, j ≤ m ∧ i = .int .i64 j ∧ Hid (∀ k, k < j → ¬ (nb = n ∧ ys = zss.getD k [])) ∧ Hid (Ext w wr)) (fun i _ => m - (intOf i).toNat)
  case atStart => exact ⟨0, Nat.zero_le _, rfl, fun k hk => absurd hk (by omega), Ext.refl w⟩
  case round =>
    obtain ⟨j, hj, rfl, HN, HE⟩ := hrel
    by_cases hlt : j < m
    · obtain ⟨b, o, D, q, hA, z0, z1, hrd⟩ := HROW.out wr HE.out j hlt
      subst hA
      obtain ⟨z, hz⟩ : ∃ z, z = zss.getD j [] := ⟨_, rfl⟩
      rw [← hz] at z1 hrd
      have hzm : z ∈ zss := by rw [hz]; exact getD_memM (by rw [← HM.out]; exact hlt)
      have CZ := Lib.hid (CE.out D q z wr HE.out hrd (HB.out z hzm))
      have HZE := Lib.hid hz
      have HZM := Lib.hid hzm
      clear hz hrd hzm
      by_cases he : nb = n ∧ ys = z
      · have hF : Hid (nb = n ∧ ys ∈ zss) := ⟨he.1, by rw [he.2]; exact HZM.out⟩
        rw [show decide (nb = n ∧ ys = z) = true from decide_eq_true he] at CZ
        clear he
        go_wp2_with fail
        refine CZ.out.mono ?_
        rintro e w1 ⟨rfl, e1⟩
        have HX := Lib.hid (HE.out.trans e1)
        clear e1 z0 z1
        go_wp2_with fail
        go_ret
        exact ⟨⟨j, rfl, ⟨fun _ => hF.out, fun _ => by omega⟩, by omega, by omega⟩, HX.out⟩
      · have HNN : Hid (∀ k, k < j + 1 → ¬ (nb = n ∧ ys = zss.getD k [])) := fun k hk => by
          by_cases hkj : k < j
          · exact HN.out k hkj
          · obtain rfl : k = j := by omega
            rw [← HZE.out]
            exact he
        rw [show decide (nb = n ∧ ys = z) = false from decide_eq_false he] at CZ
        clear he
        go_wp2_with fail
        refine CZ.out.mono ?_
        rintro e w1 ⟨rfl, e1⟩
        have HX := Lib.hid (HE.out.trans e1)
        clear e1 z0 z1
        go_wp2_with fail
        go_roundw
        case rel => exact ⟨j + 1, by omega, by go_num, HNN.out, HX.out⟩
        case measure => simp [intOf]; omega
    · obtain rfl : j = m := by omega
      have HF : Hid (¬ (nb = n ∧ ys ∈ zss)) := fun h => by
        obtain ⟨k, hk, e⟩ := List.mem_iff_getElem.1 h.2
        exact HN.out k (by rw [HM.out]; exact hk) ⟨h.1, by rw [← e]; simp [List.getD, hk]⟩
      go_wp2_with fail
      go_ret
      exact ⟨⟨-1, rfl, ⟨fun h => absurd h (by decide), fun h => absurd h HF.out⟩, by omega, by omega⟩, HE.out⟩

theorem contFunc_any (n : Nat) (nb : Int) (A B : Option Addr) (c d : Nat) (es : List (Int × Option Addr × Nat × List Int)) (zss : List (List Int)) (ys : List Int) (L : Nat) (w : World) (ho : OwQ w L A c es) (hi : InQ w L es) (hz : es.map (fun x : Int × Option Addr × Nat × List Int => (x.1, x.2.2.2)) = rsM n zss) (hzl : zss.length ≤ 48) (hb : ∀ z ∈ zss, z.length ≤ 24) (hr : RdI w B ys) (hy : ys.length ≤ 24) :
    Calls Try.prog 41 #[.slice A es.length c, .func (.func 43) #[.agg #[.int .i64 nb, .slice B ys.length d]] #[]] w fun e w' => e = .returned (.bool (decide (nb = n ∧ ys ∈ zss))) ∧ Ext w w' := by
  have CI := Lib.hid (idxFunc_any n nb A B c d es zss ys L w ho hi hz hzl hb hr hy)
  obtain ⟨R, hR⟩ : ∃ R, R = decide (nb = n ∧ ys ∈ zss) := ⟨_, rfl⟩
  rw [← hR]
  have HR := Lib.hid hR
  clear ho hi hz hzl hb hr hy hR
  go_enter Try.func41, Try.ntmps41
  go_wp2_with fail
  refine CI.out.mono ?_
  rintro e w1 ⟨⟨r, rfl, hr, h1, h2⟩, e1⟩
  have HX := Lib.hid e1
  have HRR := Lib.hid hr
  clear e1 hr
  go_wp2_with fail
  go_ret
  exact ⟨ret_bool (by rw [HR.out, decide_eq_decide]; exact HRR.out), HX.out⟩

set_option maxRecDepth 20000 in
set_option maxHeartbeats 4000000 in
theorem imI_good (n : Nat) (m : Int) (A B : Option Addr) (c d : Nat) (xs ys : List Int) (w : World) (hr : RdI w A xs) (hr2 : RdI w B ys) (hb : rhyB n xs = true) (hb2 : rhyB m ys = true) :
    Calls Try.prog 19 #[.agg #[.int .i64 n, .slice A xs.length c], .agg #[.int .i64 m, .slice B ys.length d]] w fun e w' => e = .returned (.bool (decide (m = n ∧ ys ∈ mvL n xs xs.length))) ∧ Ext w w' := by
  have hn := (rhyB_iff hb).1
  have hxl := rhyB_len hb
  have hyl := rhyB_len hb2
  have hm := (rhyB_iff hb2).1
  obtain ⟨l, hll⟩ : ∃ l, l = xs.length := ⟨_, rfl⟩
  obtain ⟨k, hkk⟩ : ∃ k, k = ys.length := ⟨_, rfl⟩
  obtain ⟨S, hS⟩ : ∃ S, S = mvL n xs xs.length := ⟨_, rfl⟩
  obtain ⟨R, hR⟩ : ∃ R, R = decide (m = n ∧ ys ∈ S) := ⟨_, rfl⟩
  have HSB : Hid (∀ z ∈ S, z.length ≤ 24) := fun z hz => by
    have := rhyB_len (mvL_rhy (n := n) (xs := xs) (by omega) (by omega) _ z (by rw [← hS]; exact hz))
    omega
  have CO : Hid (∀ W : World, Ext w W → Calls Try.prog 31 #[.agg #[.int .i64 n, .slice A l c]] W fun e w' => e = .returned (.bool true) ∧ Ext W w') := fun W he => by rw [hll, ← hb]; exact rhyI_any A c n xs W (hr.ext he) (by omega)
  have CO2 : Hid (∀ W : World, Ext w W → Calls Try.prog 31 #[.agg #[.int .i64 m, .slice B k d]] W fun e w' => e = .returned (.bool true) ∧ Ext W w') := fun W he => by rw [hkk, ← hb2]; exact rhyI_any B d m ys W (hr2.ext he) (by omega)
  have CM : Hid (∀ W : World, Ext w W → Calls Try.prog 42 #[.agg #[.int .i64 n, .slice A l c]] W (RetMv W n S)) := fun W he => by rw [hll, hS]; exact moves_any n A c xs W (hr.ext he) hb
  have CF : Hid (∀ (V W : World) (D : Option Addr) (q : Nat) (es : List (Int × Option Addr × Nat × List Int)) (zss : List (List Int)), Ext w W → es.map (fun x : Int × Option Addr × Nat × List Int => (x.1, x.2.2.2)) = rsM n zss → OwQ W V.heap.size D q es → InQ W V.heap.size es → zss.length ≤ 48 → (∀ z, z ∈ zss ↔ z ∈ S) →
      Calls Try.prog 41 #[.slice D es.length q, .func (.func 43) #[.agg #[.int .i64 m, .slice B k d]] #[]] W fun e w' => e = .returned (.bool R) ∧ Ext W w') := fun V W D q es zss he h1 h2 h3 h4 h5 => by
    rw [hkk, hR, show decide (m = n ∧ ys ∈ S) = decide (m = (n : Int) ∧ ys ∈ zss) by rw [decide_eq_decide, h5]]
    exact contFunc_any n m D B q d es zss ys _ W h2 h3 h1 h4 (fun z hz => HSB.out z ((h5 z).1 hz)) (hr2.ext he) (by omega)
  have hmf : ∀ (fn : Fn) (first cap : Array Value) (w : World), (Instr.makeFunc fn first cap).run Try.prog w = .ok (.func fn first cap) w := fun _ _ _ _ => rfl
  obtain ⟨W, hW⟩ : ∃ W, W = ((w.alloc (.cells #[.int .i64 n, .slice A l c] 27)).alloc (.cells #[.int .i64 m, .slice B k d] 27)) := ⟨_, rfl⟩
  have HX0 : Hid (Ext w W) := by rw [hW]; exact ((Ext.refl w).alloc _).alloc _
  have HG0 : Hid (Bx2 W w.heap.size 27 (.int .i64 n) (.slice A l c)) := by rw [hW]; exact (Bx2.new w _ _ _).ext ((Ext.refl _).alloc _)
  have HG1 : Hid (Bx2 W (w.heap.size + 1) 27 (.int .i64 m) (.slice B k d)) := by rw [hW]; exact Bx2.new1' _ _ _ _ _
  rw [← hS, ← hR, ← hll, ← hkk]
  have HW := Lib.hid hW
  clear hll hkk hS hR hW hr hr2 hb hb2 hxl hyl
  go_enter Try.func19, Try.ntmps19
  go_wp2_with fail
  rw [← HW.out]
  obtain ⟨q0, q1, p0, p1⟩ := HG0.out.cells
  obtain ⟨q2, q3, p2, p3⟩ := HG1.out.cells
  clear p0 p1 p2 p3 HW
  go_region_held3 (fun V => V.cell? ⟨w.heap.size, 0, none⟩ = some (.int .i64 n) ∧ V.cell? ⟨w.heap.size, 1, none⟩ = some (.slice A l c) ∧ V.cell? ⟨w.heap.size + 1, 0, none⟩ = some (.int .i64 m) ∧ V.cell? ⟨w.heap.size + 1, 1, none⟩ = some (.slice B k d))
    (first | exact ⟨q0, q1, q2, q3⟩ | exact ⟨Ext.cell e1 q0, Ext.cell e1 q1, Ext.cell e1 q2, Ext.cell e1 q3⟩ | exact ⟨Ext.cell e2 (Ext.cell e1 q0), Ext.cell e2 (Ext.cell e1 q1), Ext.cell e2 (Ext.cell e1 q2), Ext.cell e2 (Ext.cell e1 q3)⟩ | exact ⟨Ext.cell e3 (Ext.cell e2 (Ext.cell e1 q0)), Ext.cell e3 (Ext.cell e2 (Ext.cell e1 q1)), Ext.cell e3 (Ext.cell e2 (Ext.cell e1 q2)), Ext.cell e3 (Ext.cell e2 (Ext.cell e1 q3))⟩ | exact ⟨Ext.cell e4 (Ext.cell e3 (Ext.cell e2 (Ext.cell e1 q0))), Ext.cell e4 (Ext.cell e3 (Ext.cell e2 (Ext.cell e1 q1))), Ext.cell e4 (Ext.cell e3 (Ext.cell e2 (Ext.cell e1 q2))), Ext.cell e4 (Ext.cell e3 (Ext.cell e2 (Ext.cell e1 q3)))⟩)
    (first
      | (go_at_call 31; (with_reducible refine (CO.out (World.drew W) HX0.out.drew).mono ?_); rintro e w1 ⟨rfl, e1⟩)
      | (go_at_call 31; (with_reducible refine (CO2.out w1 (HX0.out.drew.trans e1)).mono ?_); rintro e w2 ⟨rfl, e2⟩)
      | (go_at_call 42; refine (CM.out w2 ((HX0.out.drew.trans e1).trans e2)).mono ?_; rintro e w3 ⟨D, q, es, zss, rfl, h1, h2, h3, h4, h5, e3⟩)
      | (go_at_call 41; refine (CF.out w2 w3 D q es zss (((HX0.out.drew.trans e1).trans e2).trans e3) h1 h2 h3 h4 h5).mono ?_; rintro e w4 ⟨rfl, e4⟩))
  all_goals
    have HX := Lib.hid ((((HX0.out.drew.trans e1).trans e2).trans e3).trans e4)
    clear e1 e2 e3 e4 q0 q1 q2 q3 HX0 HG0 HG1 h1 h2 h3 h4 h5
    try (go_wp2_with fail)
    go_ret
    exact ⟨rfl, HX.out⟩
end Go.Proofs.Ytnhppeknkeblfaa
