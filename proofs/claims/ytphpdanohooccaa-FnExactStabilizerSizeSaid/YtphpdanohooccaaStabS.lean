/- Contract of the reference's StabilizerSize. -/
import Derived.Test.YtphpdanohooccaaStab
import Derived.Test.YtphpdanohooccaaLeastS
namespace Go.Proofs.Ytphpdanohooccaa
open Go.RowKit

set_option maxRecDepth 20000 in
set_option maxHeartbeats 4000000 in
theorem stS_good (n : Nat) (A : Option Addr) (c : Nat) (xs : List Int) (w : World) (hr : RdI w A xs) (hb : rhyB n xs = true) :
    Calls Try.prog 21 #[.agg #[.int .i64 n, .slice A xs.length c]] w fun e w' => e = .returned (.int .i64 (stC xs (fmL n xs n) : Nat)) ∧ Ext w w' := by
  have hn := (rhyB_iff hb).1
  have hxl := rhy_short hb
  obtain ⟨l, hll⟩ : ∃ l, l = xs.length := ⟨_, rfl⟩
  have CO : Hid (∀ W : World, Ext w W → Calls Try.prog 49 #[.agg #[.int .i64 n, .slice A l c]] W fun e w' => e = .returned (.bool true) ∧ Ext W w') := fun W he => by rw [hll, ← hb]; exact rhyS_any A c n xs W (hr.ext he) (by omega)
  have CR : Hid (∀ (k : Int) (W : World), -2000 ≤ k → k ≤ 2000 → Ext w W → Calls Try.prog 51 #[.agg #[.int .i64 n, .slice A l c], .int .i64 1, .int .i64 k] W (RetR W ((n : Int), rotL n xs k))) := fun k W h1 h2 he => by rw [hll, ← mapF_one]; exact l02Map_any n A c xs 1 k W (hr.ext he) hb ⟨by omega, by omega⟩ ⟨h1, h2⟩
  have CM : Hid (∀ (k : Int) (W : World), -2000 ≤ k → k ≤ 2000 → Ext w W → Calls Try.prog 51 #[.agg #[.int .i64 n, .slice A l c], .int .i64 (-1), .int .i64 k] W (RetR W ((n : Int), rotL n (mirL n xs) k))) := fun k W h1 h2 he => by rw [hll, ← rot_mir n xs k (by omega)]; exact l02Map_any n A c xs (-1) k W (hr.ext he) hb ⟨by omega, by omega⟩ ⟨h1, h2⟩
  have CE : Hid (∀ (D : Option Addr) (q : Nat) (z : List Int) (W : World), Ext w W → RdI W D z → z.length ≤ 24 → Calls Try.prog 50 #[.slice D z.length q, .slice A l c] W fun e w' => e = .returned (.bool (decide (z = xs))) ∧ Ext W w') := fun D q z W he h h2 => by
    rw [hll]
    refine (same_any D A q c z xs W h (hr.ext he) (by omega) (by omega)).mono ?_
    rintro e w' ⟨rfl, q, rfl⟩
    exact ⟨rfl, (Ext.refl W).drewN q⟩
  have HX0 : Hid (Ext w (w.alloc (.cells #[.int .i64 n, .slice A l c] 33))) := (Ext.refl w).alloc _
  have HG0 := Lib.hid (Bx2.new w 33 (.int .i64 n) (.slice A l c))
  rw [← hll]
  clear hll hr hb hxl
  go_enter Try.func21, Try.ntmps21
  go_wp2_with fail
  obtain ⟨q0, q1, p0, p1⟩ := HG0.out.cells
  go_wp2_with fail
  refine (CO.out _ HX0.out).mono ?_
  rintro e W ⟨rfl, e0⟩
  have HXW := Lib.hid (HX0.out.trans e0)
  have HG := Lib.hid (HG0.out.ext e0)
  clear e0 q0 q1 p0 p1 HG0 HX0 CO
  go_wp2_with fail
  go_loopw [3, 4] (fun ct i wr => ∃ k : Nat, k ≤ n ∧ i = .int .i64 k ∧ ct = .int .i64 (stC xs (fmL n xs k) : Nat) ∧ Hid (Ext W wr)) (fun _ i _ => n - (intOf i).toNat)
  case atStart => exact ⟨0, by omega, rfl, rfl, Ext.refl W⟩
  case round =>
    obtain ⟨k, hk, rfl, rfl, HE⟩ := hrel
    obtain ⟨q0, q1, p0, p1⟩ := (HG.out.ext HE.out).cells
    clear p0 p1
    obtain ⟨s, hs⟩ : ∃ s, s = stC xs (fmL n xs k) := ⟨_, rfl⟩
    rw [← hs]
    by_cases hlt : k < n
    · have hs2 : s ≤ 48 := by rw [hs]; have h1 := stC_le xs (fmL n xs k); have h2 := fmL_len n xs k; omega
      obtain ⟨y1, hy1⟩ : ∃ y1, y1 = rotL n xs k := ⟨_, rfl⟩
      obtain ⟨y2, hy2⟩ : ∃ y2, y2 = rotL n (mirL n xs) k := ⟨_, rfl⟩
      obtain ⟨b1, hb1⟩ : ∃ b1, b1 = decide (y1 = xs) := ⟨_, rfl⟩
      obtain ⟨b2, hb2⟩ : ∃ b2, b2 = decide (y2 = xs) := ⟨_, rfl⟩
      have h24 : y1.length ≤ 24 := by rw [hy1]; exact rhy_short (n := n) (mapF_rhy (by omega) (by omega))
      have h25 : y2.length ≤ 24 := by rw [hy2]; exact rhy_short (n := n) (mapF_rhy (by omega) (by omega))
      have HNX : Hid (stC xs (fmL n xs (k + 1)) = s + (if b1 = true then 1 else 0) + (if b2 = true then 1 else 0)) := by rw [fmL, stC_two, ← hs, hb1, hb2, ← hy1, ← hy2]; simp [Hid]
      have D1 := Lib.hid (CR.out k (World.drew wr) (by omega) (by omega) (HXW.out.trans HE.out).drew)
      rw [← hy1] at D1
      have E1 : Hid (∀ (D : Option Addr) (q : Nat) (V : World), Ext W V → RdI V D y1 → Calls Try.prog 50 #[.slice D y1.length q, .slice A l c] V fun e w' => e = .returned (.bool b1) ∧ Ext V w') := fun D q V he h => by rw [hb1]; exact CE.out D q y1 V (HXW.out.trans he) h h24
      have D2 : Hid (∀ V : World, Ext W V → Calls Try.prog 51 #[.agg #[.int .i64 n, .slice A l c], .int .i64 (-1), .int .i64 k] V (RetR V ((n : Int), y2))) := fun V he => by rw [hy2]; exact CM.out k V (by omega) (by omega) (HXW.out.trans he)
      have E2 : Hid (∀ (D : Option Addr) (q : Nat) (V : World), Ext W V → RdI V D y2 → Calls Try.prog 50 #[.slice D y2.length q, .slice A l c] V fun e w' => e = .returned (.bool b2) ∧ Ext V w') := fun D q V he h => by rw [hb2]; exact CE.out D q y2 V (HXW.out.trans he) h h25
      have HS := Lib.hid hs
      have hfd : ∀ (a b : Value) (V : World), (Instr.field 33 (.agg #[a, b]) 1).run Try.prog V = .ok b V := fun _ _ _ => by kernel_rfl
      clear hy1 hy2 hb1 hb2 h24 h25 hs CR CM CE
      go_wp2_with fail
      go_region_held3 (fun V => V.cell? ⟨w.heap.size, 0, none⟩ = some (.int .i64 n) ∧ V.cell? ⟨w.heap.size, 1, none⟩ = some (.slice A l c))
        (first | exact ⟨q0, q1⟩ | exact ⟨Ext.cell e1 q0, Ext.cell e1 q1⟩ | exact ⟨Ext.cell e2 (Ext.cell e1 q0), Ext.cell e2 (Ext.cell e1 q1)⟩)
        (first
          | (go_at_call 51; (with_reducible refine D1.out.mono ?_); intro e w1 hret; obtain ⟨F1, d1, rfl, o1, e1⟩ := hret.parts; clear hret)
          | (go_at_call 50; refine (E1.out F1 d1 w1 (HE.out.drew.trans e1) o1.rd).mono ?_; rintro e w2 ⟨rfl, e2⟩))
      have HX2 : Hid (Ext W w2) := (HE.out.drew.trans e1).trans e2
      clear e1 e2 o1 q0 q1 HE
      obtain ⟨t, ht⟩ : ∃ t, t = s + (if b1 = true then 1 else 0) := ⟨_, rfl⟩
      have ht2 : t ≤ 49 := by rw [ht]; split <;> omega
      have HT : Hid (stC xs (fmL n xs (k + 1)) = t + (if b2 = true then 1 else 0)) := by rw [HNX.out, ht]; exact rfl
      obtain ⟨q0, q1, p0, p1⟩ := (HG.out.ext HX2.out).cells
      clear p0 p1 HNX
      cases b1
      · obtain rfl : t = s := ht
        go_wp2_with fail
        go_region_held3 (fun V => V.cell? ⟨w.heap.size, 0, none⟩ = some (.int .i64 n) ∧ V.cell? ⟨w.heap.size, 1, none⟩ = some (.slice A l c))
          (first | exact ⟨q0, q1⟩ | exact ⟨Ext.cell e1 q0, Ext.cell e1 q1⟩ | exact ⟨Ext.cell e2 (Ext.cell e1 q0), Ext.cell e2 (Ext.cell e1 q1)⟩)
          (first
            | (go_at_call 51; (with_reducible refine (D2.out (World.drew w2) HX2.out.drew).mono ?_); intro e w3 hret; obtain ⟨F2, d2, rfl, o1, e1⟩ := hret.parts; clear hret)
            | (go_at_call 50; refine (E2.out F2 d2 w3 (HX2.out.drew.trans e1) o1.rd).mono ?_; rintro e w4 ⟨rfl, e2⟩))
        have HX4 : Hid (Ext W w4) := (HX2.out.drew.trans e1).trans e2
        clear e1 e2 o1 q0 q1 HX2
        cases b2
        · have HT2 : Hid (stC xs (fmL n xs (k + 1)) = t) := HT.out
          go_wp2_with fail
          go_roundw
          case rel => exact ⟨k + 1, by omega, by go_num, by rw [HT2.out], HX4.out⟩
          case measure => simp [intOf]; omega
        · have HT2 : Hid (stC xs (fmL n xs (k + 1)) = t + 1) := HT.out
          go_wp2_with fail
          go_roundw
          case rel => exact ⟨k + 1, by omega, by go_num, by rw [HT2.out]; go_num, HX4.out⟩
          case measure => simp [intOf]; omega
      · obtain rfl : t = s + 1 := ht
        go_wp2_with fail
        go_region_held3 (fun V => V.cell? ⟨w.heap.size, 0, none⟩ = some (.int .i64 n) ∧ V.cell? ⟨w.heap.size, 1, none⟩ = some (.slice A l c))
          (first | exact ⟨q0, q1⟩ | exact ⟨Ext.cell e1 q0, Ext.cell e1 q1⟩ | exact ⟨Ext.cell e2 (Ext.cell e1 q0), Ext.cell e2 (Ext.cell e1 q1)⟩)
          (first
            | (go_at_call 51; (with_reducible refine (D2.out (World.drew w2) HX2.out.drew).mono ?_); intro e w3 hret; obtain ⟨F2, d2, rfl, o1, e1⟩ := hret.parts; clear hret)
            | (go_at_call 50; refine (E2.out F2 d2 w3 (HX2.out.drew.trans e1) o1.rd).mono ?_; rintro e w4 ⟨rfl, e2⟩))
        have HX4 : Hid (Ext W w4) := (HX2.out.drew.trans e1).trans e2
        clear e1 e2 o1 q0 q1 HX2
        cases b2
        · have HT2 : Hid (stC xs (fmL n xs (k + 1)) = s + 1) := HT.out
          go_wp2_with fail
          go_roundw
          case rel => exact ⟨k + 1, by omega, by go_num, by rw [HT2.out]; go_num, HX4.out⟩
          case measure => simp [intOf]; omega
        · have HT2 : Hid (stC xs (fmL n xs (k + 1)) = s + 1 + 1) := HT.out
          go_wp2_with fail
          go_roundw
          case rel => exact ⟨k + 1, by omega, by go_num, by rw [HT2.out]; go_num, HX4.out⟩
          case measure => simp [intOf]; omega
    · obtain rfl : k = n := by omega
      have HS := Lib.hid hs
      rw [hs]
      clear hs
      go_wp2_with fail
      go_ret
      exact ⟨rfl, HXW.out.trans HE.out⟩

set_option maxHeartbeats 1000000 in
theorem stS_any (n : Int) (A : Option Addr) (c : Nat) (xs : List Int) (w : World) (hr : RdI w A xs) (hl : xs.length ≤ 1048576) :
    Calls Try.prog 21 #[.agg #[.int .i64 n, .slice A xs.length c]] w fun e w' => e = .returned (.int .i64 (stF n xs)) ∧ Ext w w' := by
  by_cases hb : rhyB n xs = true
  · have hn := (rhyB_iff hb).1
    obtain ⟨N, rfl⟩ := Int.eq_ofNat_of_zero_le (show 0 ≤ n by omega)
    unfold stF
    rw [if_pos hb]
    exact stS_good N A c xs w hr hb
  · rw [Bool.not_eq_true] at hb
    have hF : stF n xs = 0 := by unfold stF; rw [hb]; rfl
    rw [hF]
    obtain ⟨l, hll⟩ : ∃ l, l = xs.length := ⟨_, rfl⟩
    have CO : Hid (∀ W : World, Ext w W → Calls Try.prog 49 #[.agg #[.int .i64 n, .slice A l c]] W fun e w' => e = .returned (.bool false) ∧ Ext W w') := fun W he => by rw [hll, ← hb]; exact rhyS_any A c n xs W (hr.ext he) (by omega)
    have HX0 : Hid (Ext w (w.alloc (.cells #[.int .i64 n, .slice A l c] 33))) := (Ext.refl w).alloc _
    have HG0 := Lib.hid (Bx2.new w 33 (.int .i64 n) (.slice A l c))
    rw [← hll]
    clear hll hr hb hl hF
    go_enter Try.func21, Try.ntmps21
    go_wp2_with fail
    obtain ⟨q0, q1, p0, p1⟩ := HG0.out.cells
    go_wp2_with fail
    refine (CO.out _ HX0.out).mono ?_
    rintro e W ⟨rfl, e0⟩
    have HXW := Lib.hid (HX0.out.trans e0)
    clear e0 q0 q1 p0 p1 HG0 HX0 CO
    go_wp2_with fail
    go_ret
    exact ⟨rfl, HXW.out⟩
end Go.Proofs.Ytphpdanohooccaa
