/- Contracts of the reference's AxesOf, IsMirrored, l04Period, OrbitSize. -/
import Derived.Test.YtphpdanohooccaaOrbI
import Derived.Test.YtphpdanohooccaaLeastS
namespace Go.Proofs.Ytphpdanohooccaa
open Go.RowKit

def axL (n : Nat) (xs : List Int) : Nat → List Int
  | 0 => []
  | k + 1 => if rotL n (mirL n xs) k = xs then axL n xs k ++ [(k : Int)] else axL n xs k
theorem axL_len (n : Nat) (xs : List Int) : ∀ k, (axL n xs k).length ≤ k
  | 0 => by simp [axL]
  | k + 1 => by
    have := axL_len n xs k
    rw [axL]
    split
    · rw [List.length_append]; simp; omega
    · omega
theorem axL_pos (n : Nat) (xs : List Int) : ∀ k, (0 < (axL n xs k).length) ↔ ∃ j : Nat, j < k ∧ rotL n (mirL n xs) j = xs
  | 0 => by simp [axL]
  | k + 1 => by
    have ih := axL_pos n xs k
    rw [axL]
    split
    · rename_i h
      refine ⟨fun _ => ⟨k, by omega, h⟩, fun _ => by rw [List.length_append]; simp⟩
    · rename_i h
      rw [ih]
      constructor
      · rintro ⟨j, h1, h2⟩; exact ⟨j, by omega, h2⟩
      · rintro ⟨j, h1, h2⟩
        by_cases e : j = k
        · subst e; exact absurd h2 h
        · exact ⟨j, by omega, h2⟩
theorem mirB_ax (n : Nat) (xs : List Int) : mirB n xs = decide (0 < (axL n xs n).length) := by
  rw [Bool.eq_iff_iff, decide_eq_true_iff, axL_pos]
  unfold mirB
  rw [List.any_eq_true]
  constructor
  · rintro ⟨k, h1, h2⟩; exact ⟨k, List.mem_range.1 h1, of_decide_eq_true h2⟩
  · rintro ⟨k, h1, h2⟩; exact ⟨k, List.mem_range.2 h1, decide_eq_true h2⟩

set_option maxRecDepth 20000 in
set_option maxHeartbeats 4000000 in
theorem axS_good (n : Nat) (A : Option Addr) (c : Nat) (xs : List Int) (w : World) (hr : RdI w A xs) (hb : rhyB n xs = true) :
    Calls Try.prog 76 #[.agg #[.int .i64 n, .slice A xs.length c]] w (RetI w (axL n xs n)) := by
  have hn := (rhyB_iff hb).1
  have hxl := rhy_short hb
  obtain ⟨l, hll⟩ : ∃ l, l = xs.length := ⟨_, rfl⟩
  have CO : Hid (∀ W : World, Ext w W → Calls Try.prog 49 #[.agg #[.int .i64 n, .slice A l c]] W fun e w' => e = .returned (.bool true) ∧ Ext W w') := fun W he => by rw [hll, ← hb]; exact rhyS_any A c n xs W (hr.ext he) (by omega)
  have CR : Hid (∀ (k : Int) (W : World), -2000 ≤ k → k ≤ 2000 → Ext w W → Calls Try.prog 51 #[.agg #[.int .i64 n, .slice A l c], .int .i64 1, .int .i64 k] W (RetR W ((n : Int), rotL n xs k))) := fun k W h1 h2 he => by rw [hll, ← mapF_one]; exact l02Map_any n A c xs 1 k W (hr.ext he) hb ⟨by omega, by omega⟩ ⟨h1, h2⟩
  have CM : Hid (∀ (k : Int) (W : World), -2000 ≤ k → k ≤ 2000 → Ext w W → Calls Try.prog 51 #[.agg #[.int .i64 n, .slice A l c], .int .i64 (-1), .int .i64 k] W (RetR W ((n : Int), rotL n (mirL n xs) k))) := fun k W h1 h2 he => by rw [hll, ← rot_mir n xs k (by omega)]; exact l02Map_any n A c xs (-1) k W (hr.ext he) hb ⟨by omega, by omega⟩ ⟨h1, h2⟩
  have CE : Hid (∀ (D : Option Addr) (q : Nat) (z : List Int) (W : World), Ext w W → RdI W D z → z.length ≤ 24 → Calls Try.prog 50 #[.slice D z.length q, .slice A l c] W fun e w' => e = .returned (.bool (decide (z = xs))) ∧ Ext W w') := fun D q z W he h h2 => by
    rw [hll]
    refine (same_any D A q c z xs W h (hr.ext he) (by omega) (by omega)).mono ?_
    rintro e w' ⟨rfl, q, rfl⟩
    exact ⟨rfl, (Ext.refl W).drewN q⟩
  have HX0 : Hid (Ext w (w.alloc (.cells #[.int .i64 n, .slice A l c] 33))) := (Ext.refl w).alloc _
  have HG0 := Lib.hid (Bx2.new w 33 (.int .i64 n) (.slice A l c))
  rw [← hll]
  clear hll hr hb hxl
  go_enter Try.func76, Try.ntmps76
  go_wp2_with fail
  obtain ⟨q0, q1, p0, p1⟩ := HG0.out.cells
  go_wp2_with fail
  refine (CO.out _ HX0.out).mono ?_
  rintro e W ⟨rfl, e0⟩
  have HXW := Lib.hid (HX0.out.trans e0)
  have HG := Lib.hid (HG0.out.ext e0)
  clear e0 q0 q1 p0 p1 HG0 HX0 CO
  go_wp2_with fail
  go_loopw [3, 4] (fun o i wr => ∃ (k : Nat) (B : Option Addr) (d m : Nat), k ≤ n ∧ i = .int .i64 k ∧ o = .slice B m d ∧ m ≤ k ∧ Hid (m = (axL n xs k).length) ∧ Hid (OwI wr W.heap.size B d (axL n xs k)) ∧ Hid (Ext W wr)) (fun _ i _ => n - (intOf i).toNat)
  case atStart => exact ⟨0, _, _, 0, by omega, rfl, rfl, Nat.le_refl _, rfl, OwI.empty W, (Ext.refl W).alloc _⟩
  case round =>
    obtain ⟨k, B, d, m, hk, rfl, rfl, hmk, HM, HO, HE⟩ := hrel
    obtain ⟨q0, q1, p0, p1⟩ := (HG.out.ext HE.out).cells
    clear p0 p1
    by_cases hlt : k < n
    · obtain ⟨y2, hy2⟩ : ∃ y2, y2 = rotL n (mirL n xs) k := ⟨_, rfl⟩
      obtain ⟨b2, hb2⟩ : ∃ b2, b2 = decide (y2 = xs) := ⟨_, rfl⟩
      have h25 : y2.length ≤ 24 := by rw [hy2]; exact rhy_short (n := n) (mapF_rhy (by omega) (by omega))
      have HNX : Hid (axL n xs (k + 1) = if b2 = true then axL n xs k ++ [(k : Int)] else axL n xs k) := by rw [axL, hb2, ← hy2]; simp [Hid]
      have D2 : Hid (∀ V : World, Ext W V → Calls Try.prog 51 #[.agg #[.int .i64 n, .slice A l c], .int .i64 (-1), .int .i64 k] V (RetR V ((n : Int), y2))) := fun V he => by rw [hy2]; exact CM.out k V (by omega) (by omega) (HXW.out.trans he)
      have E2 : Hid (∀ (D : Option Addr) (q : Nat) (V : World), Ext W V → RdI V D y2 → Calls Try.prog 50 #[.slice D y2.length q, .slice A l c] V fun e w' => e = .returned (.bool b2) ∧ Ext V w') := fun D q V he h => by rw [hb2]; exact CE.out D q y2 V (HXW.out.trans he) h h25
      have hfd : ∀ (a b : Value) (V : World), (Instr.field 33 (.agg #[a, b]) 1).run Try.prog V = .ok b V := fun _ _ _ => by kernel_rfl
      clear hy2 hb2 h25 CR CM CE
      go_wp2_with fail
      go_region_held3 (fun V => V.cell? ⟨w.heap.size, 0, none⟩ = some (.int .i64 n) ∧ V.cell? ⟨w.heap.size, 1, none⟩ = some (.slice A l c))
        (first | exact ⟨q0, q1⟩ | exact ⟨Ext.cell e1 q0, Ext.cell e1 q1⟩ | exact ⟨Ext.cell e2 (Ext.cell e1 q0), Ext.cell e2 (Ext.cell e1 q1)⟩)
        (first
          | (go_at_call 51; (with_reducible refine (D2.out (World.drew wr) HE.out.drew).mono ?_); intro e w3 hret; obtain ⟨F2, d2, rfl, o1, e1⟩ := hret.parts; clear hret)
          | (go_at_call 50; refine (E2.out F2 d2 w3 (HE.out.drew.trans e1) o1.rd).mono ?_; rintro e w4 ⟨rfl, e2⟩))
      have HX4 : Hid (Ext W w4) := (HE.out.drew.trans e1).trans e2
      have HO4 : Hid (OwI w4 W.heap.size B d (axL n xs k)) := OwI.ext (w := World.drew wr) HO.out (e1.trans e2)
      clear e1 e2 o1 q0 q1 HE HO
      cases b2
      · have HT2 : Hid (axL n xs (k + 1) = axL n xs k) := HNX.out
        go_wp2_with fail
        go_roundw
        case rel => exact ⟨k + 1, B, d, m, by omega, by go_num, rfl, by omega, by rw [HT2.out]; exact HM.out, by rw [HT2.out]; exact HO4.out, HX4.out⟩
        case measure => simp [intOf]; omega
      · have HT2 : Hid (axL n xs (k + 1) = axL n xs k ++ [(k : Int)]) := HNX.out
        go_wp2_with (at_builtin; refine app_int W _ rfl _ _ rfl _ _ _ _ _ rfl rfl HM.out.symm HO4.out HX4.out ?c2 ?c3)
        case c2 => omega
        intro A2 c2 w5 ho he
        have HO5 := Lib.hid ho
        have HX5 := Lib.hid he
        clear ho he
        go_wp2_with fail
        go_roundw
        case rel => exact ⟨k + 1, A2, c2, m + 1, by omega, by go_num, rfl, by omega, by rw [HT2.out, List.length_append, HM.out]; exact rfl, by rw [HT2.out]; exact HO5.out, HX5.out⟩
        case measure => simp [intOf]; omega
    · obtain rfl : k = n := by omega
      go_wp2_with fail
      go_ret
      have := HM.out
      subst this
      exact ⟨B, d, rfl, HO.out.lower HXW.out.size, HXW.out.trans HE.out⟩

set_option maxHeartbeats 1000000 in
theorem imS_good (n : Nat) (A : Option Addr) (c : Nat) (xs : List Int) (w : World) (hr : RdI w A xs) (hb : rhyB n xs = true) :
    Calls Try.prog 55 #[.agg #[.int .i64 n, .slice A xs.length c]] w fun e w' => e = .returned (.bool (mirB n xs)) ∧ Ext w w' := by
  have hn := (rhyB_iff hb).1
  obtain ⟨l, hll⟩ : ∃ l, l = xs.length := ⟨_, rfl⟩
  obtain ⟨zs, hzs⟩ : ∃ zs, zs = axL n xs n := ⟨_, rfl⟩
  have hzl : zs.length ≤ 24 := by rw [hzs]; have := axL_len n xs n; omega
  have CA : Hid (∀ W : World, Ext w W → Calls Try.prog 76 #[.agg #[.int .i64 n, .slice A l c]] W (RetI W zs)) := fun W he => by rw [hll, hzs]; exact axS_good n A c xs W (hr.ext he) hb
  have HX0 : Hid (Ext w (w.alloc (.cells #[.int .i64 n, .slice A l c] 33))) := (Ext.refl w).alloc _
  have HG0 := Lib.hid (Bx2.new w 33 (.int .i64 n) (.slice A l c))
  obtain ⟨R, hR⟩ : ∃ R, R = mirB n xs := ⟨_, rfl⟩
  have HRR : Hid (R = decide (0 < zs.length)) := by rw [hR, mirB_ax, hzs]; exact rfl
  rw [← hR, ← hll]
  clear hll hr hb hzs hR
  go_enter Try.func55, Try.ntmps55
  go_wp2_with fail
  obtain ⟨q0, q1, p0, p1⟩ := HG0.out.cells
  go_wp2_with fail
  refine (CA.out _ HX0.out).mono ?_
  rintro e W ⟨G, g, rfl, og, eg⟩
  have HXW := Lib.hid (HX0.out.trans eg)
  obtain ⟨m, hm⟩ : ∃ m, m = zs.length := ⟨_, rfl⟩
  rw [← hm] at hzl HRR ⊢
  clear eg og q0 q1 p0 p1 HG0 HX0 CA hm
  by_cases h0 : 0 < m
  · have HF : Hid (R = true) := by rw [HRR.out, decide_eq_true h0]; exact rfl
    go_wp2_with fail
    go_ret
    exact ⟨ret_bool HF.out.symm, HXW.out⟩
  · obtain rfl : m = 0 := by omega
    have HF : Hid (R = false) := by rw [HRR.out]; exact rfl
    go_wp2_with fail
    go_ret
    exact ⟨ret_bool HF.out.symm, HXW.out⟩

set_option maxRecDepth 20000 in
set_option maxHeartbeats 4000000 in
theorem pdS_good (n : Nat) (A : Option Addr) (c : Nat) (xs : List Int) (w : World) (hr : RdI w A xs) (hb : rhyB n xs = true) :
    Calls Try.prog 56 #[.agg #[.int .i64 n, .slice A xs.length c]] w fun e w' => e = .returned (.int .i64 (pdF n xs : Nat)) ∧ Ext w w' := by
  have HPD := Lib.hid (pdF_is hb)
  have HRN := Lib.hid (rotL_n hb)
  have hn := (rhyB_iff hb).1
  have hxl := rhy_short hb
  obtain ⟨l, hll⟩ : ∃ l, l = xs.length := ⟨_, rfl⟩
  have CO0 : Hid (∀ W : World, Ext w W → Calls Try.prog 49 #[.agg #[.int .i64 n, .slice A l c]] W fun e w' => e = .returned (.bool true) ∧ Ext W w') := fun W he => by rw [hll, ← hb]; exact rhyS_any A c n xs W (hr.ext he) (by omega)
  have CR : Hid (∀ (k : Int) (W : World), -2000 ≤ k → k ≤ 2000 → Ext w W → Calls Try.prog 51 #[.agg #[.int .i64 n, .slice A l c], .int .i64 1, .int .i64 k] W (RetR W ((n : Int), rotL n xs k))) := fun k W h1 h2 he => by rw [hll, ← mapF_one]; exact l02Map_any n A c xs 1 k W (hr.ext he) hb ⟨by omega, by omega⟩ ⟨h1, h2⟩
  have CM : Hid (∀ (k : Int) (W : World), -2000 ≤ k → k ≤ 2000 → Ext w W → Calls Try.prog 51 #[.agg #[.int .i64 n, .slice A l c], .int .i64 (-1), .int .i64 k] W (RetR W ((n : Int), rotL n (mirL n xs) k))) := fun k W h1 h2 he => by rw [hll, ← rot_mir n xs k (by omega)]; exact l02Map_any n A c xs (-1) k W (hr.ext he) hb ⟨by omega, by omega⟩ ⟨h1, h2⟩
  have CE : Hid (∀ (D : Option Addr) (q : Nat) (z : List Int) (W : World), Ext w W → RdI W D z → z.length ≤ 24 → Calls Try.prog 50 #[.slice D z.length q, .slice A l c] W fun e w' => e = .returned (.bool (decide (z = xs))) ∧ Ext W w') := fun D q z W he h h2 => by
    rw [hll]
    refine (same_any D A q c z xs W h (hr.ext he) (by omega) (by omega)).mono ?_
    rintro e w' ⟨rfl, q, rfl⟩
    exact ⟨rfl, (Ext.refl W).drewN q⟩
  have HX0 : Hid (Ext w (w.alloc (.cells #[.int .i64 n, .slice A l c] 33))) := (Ext.refl w).alloc _
  have HG0 := Lib.hid (Bx2.new w 33 (.int .i64 n) (.slice A l c))
  rw [← hll]
  clear hll hr hb hxl
  clear CO0
  obtain ⟨p, hp⟩ : ∃ p, p = pdF n xs := ⟨_, rfl⟩
  rw [← hp] at HPD ⊢
  clear hp
  go_enter Try.func56, Try.ntmps56
  go_wp2_with fail
  go_loopw [3] (fun i wr => ∃ k : Nat, 1 ≤ k ∧ k ≤ n ∧ i = .int .i64 k ∧ Hid (∀ j : Nat, 1 ≤ j → j < k → rotL n xs j ≠ xs) ∧ Hid (Bx2 wr w.heap.size 33 (.int .i64 n) (.slice A l c)) ∧ Hid (Ext w wr)) (fun i _ => n - (intOf i).toNat)
  case atStart => exact ⟨1, by omega, by omega, rfl, fun j h1 h2 => absurd h2 (by omega), HG0.out, HX0.out⟩
  case round =>
    clear HG0 HX0
    obtain ⟨k, hk1, hk, rfl, HJ, HG, HE⟩ := hrel
    obtain ⟨q0, q1, p0, p1⟩ := HG.out.cells
    clear p0 p1
    by_cases hlt : k < n
    · obtain ⟨y2, hy2⟩ : ∃ y2, y2 = rotL n xs k := ⟨_, rfl⟩
      obtain ⟨b2, hb2⟩ : ∃ b2, b2 = decide (y2 = xs) := ⟨_, rfl⟩
      have h25 : y2.length ≤ 24 := by rw [hy2]; exact rhy_short (n := n) (mapF_rhy (by omega) (by omega))
      have HNX : Hid (b2 = decide (rotL n xs k = xs)) := by rw [hb2, ← hy2]; exact rfl
      have D2 : Hid (∀ V : World, Ext w V → Calls Try.prog 51 #[.agg #[.int .i64 n, .slice A l c], .int .i64 1, .int .i64 k] V (RetR V ((n : Int), y2))) := fun V he => by rw [hy2]; exact CR.out k V (by omega) (by omega) he
      have E2 : Hid (∀ (D : Option Addr) (q : Nat) (V : World), Ext w V → RdI V D y2 → Calls Try.prog 50 #[.slice D y2.length q, .slice A l c] V fun e w' => e = .returned (.bool b2) ∧ Ext V w') := fun D q V he h => by rw [hb2]; exact CE.out D q y2 V he h h25
      have hfd : ∀ (a b : Value) (V : World), (Instr.field 33 (.agg #[a, b]) 1).run Try.prog V = .ok b V := fun _ _ _ => by kernel_rfl
      clear hy2 hb2 h25 CR CM CE
      go_wp2_with fail
      go_region_held3 (fun V => V.cell? ⟨w.heap.size, 0, none⟩ = some (.int .i64 n) ∧ V.cell? ⟨w.heap.size, 1, none⟩ = some (.slice A l c))
        (first | exact ⟨q0, q1⟩ | exact ⟨Ext.cell e1 q0, Ext.cell e1 q1⟩ | exact ⟨Ext.cell e2 (Ext.cell e1 q0), Ext.cell e2 (Ext.cell e1 q1)⟩)
        (first
          | (go_at_call 51; (with_reducible refine (D2.out (World.drew wr) HE.out.drew).mono ?_); intro e w3 hret; obtain ⟨F2, d2, rfl, o1, e1⟩ := hret.parts; clear hret)
          | (go_at_call 50; refine (E2.out F2 d2 w3 (HE.out.drew.trans e1) o1.rd).mono ?_; rintro e w4 ⟨rfl, e2⟩))
      have HX4 : Hid (Ext w w4) := (HE.out.drew.trans e1).trans e2
      have HG4 : Hid (Bx2 w4 w.heap.size 33 (.int .i64 n) (.slice A l c)) := Bx2.ext (w := World.drew wr) HG.out (e1.trans e2)
      clear e1 e2 o1 q0 q1 HE
      cases b2
      · have HT2 : Hid (∀ j : Nat, 1 ≤ j → j < k + 1 → rotL n xs j ≠ xs) := fun j h1 h2 => by
          by_cases e : j = k
          · subst e; exact of_decide_eq_false HNX.out.symm
          · exact HJ.out j h1 (by omega)
        go_wp2_with fail
        go_roundw
        case rel => exact ⟨k + 1, by omega, by omega, by go_num, HT2.out, HG4.out, HX4.out⟩
        case measure => simp [intOf]; omega
      · have HT2 : Hid (p = k) := HPD.out.uniq ⟨hk1, hk, HJ.out, of_decide_eq_true HNX.out.symm⟩
        go_wp2_with fail
        go_ret
        exact ⟨by rw [HT2.out]; exact rfl, HX4.out⟩
    · obtain rfl : k = n := by omega
      have HT2 : Hid (p = k) := HPD.out.uniq ⟨hk1, hk, HJ.out, HRN.out⟩
      go_wp2_with fail
      go_ret
      exact ⟨by rw [HT2.out]; rfl, HE.out⟩

set_option maxHeartbeats 1000000 in
theorem obS_any (n : Int) (A : Option Addr) (c : Nat) (xs : List Int) (w : World) (hr : RdI w A xs) (hl : xs.length ≤ 1048576) :
    Calls Try.prog 25 #[.agg #[.int .i64 n, .slice A xs.length c]] w fun e w' => e = .returned (.int .i64 (obF n xs)) ∧ Ext w w' := by
  obtain ⟨l, hll⟩ : ∃ l, l = xs.length := ⟨_, rfl⟩
  obtain ⟨b, hbb⟩ : ∃ b, b = rhyB n xs := ⟨_, rfl⟩
  have CO : Hid (∀ W : World, Ext w W → Calls Try.prog 49 #[.agg #[.int .i64 n, .slice A l c]] W fun e w' => e = .returned (.bool b) ∧ Ext W w') := fun W he => by rw [hll, hbb]; exact rhyS_any A c n xs W (hr.ext he) (by omega)
  have HX0 : Hid (Ext w (w.alloc (.cells #[.int .i64 n, .slice A l c] 33))) := (Ext.refl w).alloc _
  have HG0 := Lib.hid (Bx2.new w 33 (.int .i64 n) (.slice A l c))
  cases b
  · have hF : obF n xs = 0 := by unfold obF; rw [← hbb]; rfl
    rw [hF, ← hll]
    clear hll hr hbb hl hF
    go_enter Try.func25, Try.ntmps25
    go_wp2_with fail
    obtain ⟨q0, q1, p0, p1⟩ := HG0.out.cells
    go_wp2_with fail
    refine (CO.out _ HX0.out).mono ?_
    rintro e W ⟨rfl, e0⟩
    have HXW := Lib.hid (HX0.out.trans e0)
    clear e0 q0 q1 p0 p1 HG0 HX0 CO
    go_wp2_with fail
    go_ret
    exact ⟨rfl, HXW.out⟩
  · have hb := hbb.symm
    have hn := (rhyB_iff hb).1
    obtain ⟨N, rfl⟩ := Int.eq_ofNat_of_zero_le (show 0 ≤ n by omega)
    have hF : obF (N : Int) xs = (obN N xs : Nat) := by unfold obF; rw [if_pos hb]; rfl
    obtain ⟨t, ht⟩ : ∃ t, t = mirB N xs := ⟨_, rfl⟩
    obtain ⟨p, hp⟩ : ∃ p, p = pdF N xs := ⟨_, rfl⟩
    have hp24 : p ≤ 24 := by rw [hp]; have := (pdF_is hb).2.1; omega
    have CM : Hid (∀ W : World, Ext w W → Calls Try.prog 55 #[.agg #[.int .i64 N, .slice A l c]] W fun e w' => e = .returned (.bool t) ∧ Ext W w') := fun W he => by rw [hll, ht]; exact imS_good N A c xs W (hr.ext he) hb
    have CP : Hid (∀ W : World, Ext w W → Calls Try.prog 56 #[.agg #[.int .i64 N, .slice A l c]] W fun e w' => e = .returned (.int .i64 p) ∧ Ext W w') := fun W he => by rw [hll, hp]; exact pdS_good N A c xs W (hr.ext he) hb
    have HT : Hid (obF (N : Int) xs = if t = true then (p : Int) else 2 * p) := by rw [hF, ht, hp]; unfold obN; split <;> simp [Hid]
    rw [← hll]
    clear hll hr hbb hl hF hb ht hp
    go_enter Try.func25, Try.ntmps25
    go_wp2_with fail
    obtain ⟨q0, q1, p0, p1⟩ := HG0.out.cells
    go_wp2_with fail
    refine (CO.out _ HX0.out).mono ?_
    rintro e W ⟨rfl, e0⟩
    have HX1 := Lib.hid (HX0.out.trans e0)
    have HG1 := Lib.hid (HG0.out.ext e0)
    clear e0 q0 q1 p0 p1 HG0 HX0 CO
    obtain ⟨q0, q1, p0, p1⟩ := HG1.out.cells
    go_wp2_with fail
    refine (CM.out _ HX1.out).mono ?_
    rintro e W2 ⟨rfl, e0⟩
    have HX2 := Lib.hid (HX1.out.trans e0)
    have HG2 := Lib.hid (HG1.out.ext e0)
    clear e0 q0 q1 p0 p1 HG1 HX1 CM
    obtain ⟨q0, q1, p0, p1⟩ := HG2.out.cells
    cases t
    · have HV : Hid (obF (N : Int) xs = 2 * p) := HT.out
      go_wp2_with fail
      refine (CP.out _ HX2.out).mono ?_
      rintro e W3 ⟨rfl, e0⟩
      have HX3 := Lib.hid (HX2.out.trans e0)
      clear e0 q0 q1 p0 p1 HG2 HX2 CP
      go_wp2_with fail
      go_ret
      exact ⟨by rw [HV.out]; first | rfl | simp, HX3.out⟩
    · have HV : Hid (obF (N : Int) xs = p) := HT.out
      go_wp2_with fail
      refine (CP.out _ HX2.out).mono ?_
      rintro e W3 ⟨rfl, e0⟩
      have HX3 := Lib.hid (HX2.out.trans e0)
      clear e0 q0 q1 p0 p1 HG2 HX2 CP
      go_wp2_with fail
      go_ret
      exact ⟨by rw [HV.out]; exact rfl, HX3.out⟩
end Go.Proofs.Ytphpdanohooccaa
