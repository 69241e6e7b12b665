/- Contracts of period, RotationsOf. -/
import Derived.Test.YtphpdanohooccaaGreatDoorOrb
import Derived.Test.YtphpdanohooccaaGreatDoorRS
import Derived.Deep.RegionHeld3
namespace Go.Proofs.YtphpdanohooccaaGreatDoor
open Go.RowKit

set_option maxRecDepth 20000 in
set_option maxHeartbeats 4000000 in
theorem pdI_any (n : Nat) (A : Option Addr) (c : Nat) (xs : List Int) (w : World) (hr : RdI w A xs) (hb : rhyB n xs = true) :
    Calls Tryz.prog 43 #[.agg #[.int .i64 n, .slice A xs.length c]] w fun e w' => e = .returned (.int .i64 (pdF n xs : Nat)) ∧ Ext w w' := by
  have HPD := Lib.hid (pdF_is hb)
  have HRN := Lib.hid (rotL_n hb)
  have hn := (rhyB_iff hb).1
  have hxl := rhy_short hb
  obtain ⟨l, hll⟩ : ∃ l, l = xs.length := ⟨_, rfl⟩
  have CR : Hid (∀ (k : Int) (W : World), -2000 ≤ k → k ≤ 2000 → Ext w W → Calls Tryz.prog 30 #[.agg #[.int .i64 n, .slice A l c], .int .i64 k] W (RetR W ((n : Int), rotL n xs k))) := fun k W h1 h2 he => by rw [hll]; exact rot_any n A c xs k W (hr.ext he) hb ⟨h1, h2⟩
  have CE : Hid (∀ (D : Option Addr) (q : Nat) (z : List Int) (W : World), Ext w W → RdI W D z → z.length ≤ 24 → Calls Tryz.prog 27 #[.agg #[.int .i64 n, .slice D z.length q], .agg #[.int .i64 n, .slice A l c]] W fun e w' => e = .returned (.bool (decide (z = xs))) ∧ Ext W w') := fun D q z W he h h2 => by
    rw [hll]
    exact equals_any n D A q c z xs W h (hr.ext he) (by omega) (by omega)
  have HX0 : Hid (Ext w (w.alloc (.cells #[.int .i64 n, .slice A l c] 25))) := (Ext.refl w).alloc _
  have HG0 := Lib.hid (Bx2.new w 25 (.int .i64 n) (.slice A l c))
  rw [← hll]
  clear hll hr hb hxl
  obtain ⟨p, hp⟩ : ∃ p, p = pdF n xs := ⟨_, rfl⟩
  rw [← hp] at HPD ⊢
  clear hp
  go_enter Tryz.func43, Tryz.ntmps43
  go_wp2_with fail
  go_loopw [3] (fun i wr => ∃ k : Nat, 1 ≤ k ∧ k ≤ n ∧ i = .int .i64 k ∧ Hid (∀ j : Nat, 1 ≤ j → j < k → rotL n xs j ≠ xs) ∧ Hid (Bx2 wr w.heap.size 25 (.int .i64 n) (.slice A l c)) ∧ Hid (Ext w wr)) (fun i _ => n - (intOf i).toNat)
  case atStart => exact ⟨1, by omega, by omega, rfl, fun j h1 h2 => absurd h2 (by omega), HG0.out, HX0.out⟩
  case round =>
    clear HG0 HX0
    obtain ⟨k, hk1, hk, rfl, HJ, HG, HE⟩ := hrel
    obtain ⟨q0, q1, p0, p1⟩ := HG.out.cells
    clear p0 p1
    obtain ⟨y2, hy2⟩ : ∃ y2, y2 = rotL n xs k := ⟨_, rfl⟩
    obtain ⟨b2, hb2⟩ : ∃ b2, b2 = decide (y2 = xs) := ⟨_, rfl⟩
    have h25 : y2.length ≤ 24 := by rw [hy2]; exact rhy_short (n := n) (mapF_rhy (by omega) (by omega))
    have HNX : Hid (b2 = decide (rotL n xs k = xs)) := by rw [hb2, ← hy2]; exact rfl
    have D2 : Hid (∀ V : World, Ext w V → Calls Tryz.prog 30 #[.agg #[.int .i64 n, .slice A l c], .int .i64 k] V (RetR V ((n : Int), y2))) := fun V he => by rw [hy2]; exact CR.out k V (by omega) (by omega) he
    have E2 : Hid (∀ (D : Option Addr) (q : Nat) (V : World), Ext w V → RdI V D y2 → Calls Tryz.prog 27 #[.agg #[.int .i64 n, .slice D y2.length q], .agg #[.int .i64 n, .slice A l c]] V fun e w' => e = .returned (.bool b2) ∧ Ext V w') := fun D q V he h => by rw [hb2]; exact CE.out D q y2 V he h h25
    clear hy2 hb2 h25 CR CE
    go_wp2_with fail
    go_region_held3 (fun V => V.cell? ⟨w.heap.size, 0, none⟩ = some (.int .i64 n) ∧ V.cell? ⟨w.heap.size, 1, none⟩ = some (.slice A l c))
      (first | exact ⟨q0, q1⟩ | exact ⟨Ext.cell e1 q0, Ext.cell e1 q1⟩ | exact ⟨Ext.cell e2 (Ext.cell e1 q0), Ext.cell e2 (Ext.cell e1 q1)⟩)
      (first
        | (go_at_call 30; (with_reducible refine (D2.out (World.drew wr) HE.out.drew).mono ?_); intro e w3 hret; obtain ⟨F2, d2, rfl, o1, e1⟩ := hret.parts; clear hret)
        | (go_at_call 27; refine (E2.out F2 d2 w3 (HE.out.drew.trans e1) o1.rd).mono ?_; rintro e w4 ⟨rfl, e2⟩))
    have HX4 : Hid (Ext w w4) := (HE.out.drew.trans e1).trans e2
    have HG4 : Hid (Bx2 w4 w.heap.size 25 (.int .i64 n) (.slice A l c)) := Bx2.ext (w := World.drew wr) HG.out (e1.trans e2)
    clear e1 e2 o1 q0 q1 HE
    cases b2
    · have hkn : k < n := by
        by_cases e : k = n
        · subst e; exact absurd HRN.out (of_decide_eq_false HNX.out.symm)
        · omega
      have HT2 : Hid (∀ j : Nat, 1 ≤ j → j < k + 1 → rotL n xs j ≠ xs) := fun j h1 h2 => by
        by_cases e : j = k
        · subst e; exact of_decide_eq_false HNX.out.symm
        · exact HJ.out j h1 (by omega)
      go_wp2_with fail
      go_roundw
      case rel => exact ⟨k + 1, by omega, by omega, by go_num, HT2.out, HG4.out, HX4.out⟩
      case measure => simp [intOf]; omega
    · have HT2 : Hid (p = k) := HPD.out.uniq ⟨hk1, hk, HJ.out, of_decide_eq_true HNX.out.symm⟩
      go_wp2_with fail
      go_ret
      exact ⟨by rw [HT2.out]; exact rfl, HX4.out⟩
def RetLen (w : World) (p : Nat) (e : Ending) (w' : World) : Prop := ∃ A c, e = .returned (.slice A p c) ∧ Ext w w'
set_option maxRecDepth 20000 in
set_option maxHeartbeats 4000000 in
theorem rsI_any (n : Nat) (A : Option Addr) (c : Nat) (xs : List Int) (w : World) (hr : RdI w A xs) (hb : rhyB n xs = true) :
    Calls Tryz.prog 17 #[.agg #[.int .i64 n, .slice A xs.length c]] w (RetLen w (pdF n xs)) := by
  have hpd := pdF_is hb
  have hn := (rhyB_iff hb).1
  have hxl := rhy_short hb
  obtain ⟨l, hll⟩ : ∃ l, l = xs.length := ⟨_, rfl⟩
  obtain ⟨p, hp⟩ : ∃ p, p = pdF n xs := ⟨_, rfl⟩
  have CO : Hid (∀ W : World, Ext w W → Calls Tryz.prog 28 #[.agg #[.int .i64 n, .slice A l c]] W fun e w' => e = .returned (.bool true) ∧ Ext W w') := fun W he => by rw [hll, ← hb]; exact rhyI_any A c n xs W (hr.ext he) (by omega)
  have CP : Hid (∀ W : World, Ext w W → Calls Tryz.prog 43 #[.agg #[.int .i64 n, .slice A l c]] W fun e w' => e = .returned (.int .i64 (p : Nat)) ∧ Ext W w') := fun W he => by rw [hll, hp]; exact pdI_any n A c xs W (hr.ext he) hb
  have CR : Hid (∀ (k : Int) (W : World), -2000 ≤ k → k ≤ 2000 → Ext w W → Calls Tryz.prog 30 #[.agg #[.int .i64 n, .slice A l c], .int .i64 k] W (RetR W ((n : Int), rotL n xs k))) := fun k W h1 h2 he => by rw [hll]; exact rot_any n A c xs k W (hr.ext he) hb ⟨h1, h2⟩
  have HX0 : Hid (Ext w (w.alloc (.cells #[.int .i64 n, .slice A l c] 25))) := (Ext.refl w).alloc _
  have HG0 := Lib.hid (Bx2.new w 25 (.int .i64 n) (.slice A l c))
  rw [← hp] at hpd ⊢
  have hp24 : p ≤ 24 := by have := hpd.2.1; omega
  rw [← hll]
  clear hll hr hb hxl hp hpd
  go_enter Tryz.func17, Tryz.ntmps17
  go_wp2_with fail
  obtain ⟨W, hW⟩ : ∃ W, W = (w.alloc (.cells #[.int .i64 n, .slice A l c] 25)) := ⟨_, rfl⟩
  rw [← hW] at HX0 HG0 ⊢
  clear hW
  obtain ⟨q0, q1, p0, p1⟩ := HG0.out.cells
  clear p0 p1
  go_wp2_with fail
  refine (CO.out _ HX0.out).mono ?_
  rintro e w1 ⟨rfl, e1⟩
  have HX1 := Lib.hid e1
  have HG1 := Lib.hid (HG0.out.ext e1)
  clear e1 q0 q1
  obtain ⟨q0, q1, p0, p1⟩ := HG1.out.cells
  clear p0 p1
  go_wp2_with fail
  refine (CP.out _ (HX0.out.trans HX1.out)).mono ?_
  rintro e w2 ⟨rfl, e2⟩
  have HX2 := Lib.hid (HX1.out.trans e2)
  have HG2 := Lib.hid (HG1.out.ext e2)
  clear e2 q0 q1 HX1 HG1
  go_wp2_with fail
  go_loopw [3, 10] (fun o i wr => ∃ (E : Option Addr) (u : Nat) (es : List (Int × Option Addr × Nat × List Int)), es.length ≤ p ∧ i = .int .i64 (es.length : Nat) ∧ o = .slice E es.length u ∧ Hid (OwQ wr W.heap.size E u es) ∧ Hid (InQ wr W.heap.size es) ∧ Hid (Ext W wr)) (fun _ i _ => p - (intOf i).toNat)
  case atStart => exact ⟨none, 0, [], Nat.zero_le _, rfl, rfl, OwQ.nil _ _, InQ.nil _ _, HX2.out⟩
  case round =>
    clear HX2 HG2
    obtain ⟨E, u, es, hk, rfl, rfl, HO, HI, HE⟩ := hrel
    have HG := Lib.hid (HG0.out.ext HE.out)
    obtain ⟨k, hkk⟩ : ∃ k, k = es.length := ⟨_, rfl⟩
    have HL : Hid (es.length = k) := hkk.symm
    rw [← hkk] at hk
    rw [← hkk]
    clear hkk
    obtain ⟨q0, q1, p0, p1⟩ := HG.out.cells
    clear p0 p1
    by_cases hlt : k < p
    · obtain ⟨z, hz⟩ : ∃ z, z = rotL n xs k := ⟨_, rfl⟩
      have D2 : Hid (∀ V : World, Ext w V → Calls Tryz.prog 30 #[.agg #[.int .i64 n, .slice A l c], .int .i64 k] V (RetR V ((n : Int), z))) := fun V he => by rw [hz]; exact CR.out k V (by omega) (by omega) he
      clear hz CR
      go_wp2_with fail
      refine (D2.out _ (HX0.out.trans HE.out)).mono ?_
      intro e w3 hret
      obtain ⟨D, d, rfl, o3, e3⟩ := hret.parts
      have HX3 : Hid (Ext wr w3) := e3
      have HWW : Hid (W.heap.size ≤ wr.heap.size) := HE.out.size
      have HO3 := Lib.hid o3
      clear hret o3 e3 q0 q1
      go_wp2_with (at_builtin; refine app_q W w3 rfl _ _ rfl E u k es ((n : Int), D, d, z) w3.heap.size rfl rfl rfl HL.out (HO.out.ext HX3.out) (HI.out.ext HX3.out) (HO3.out.lower HWW.out) (HE.out.trans HX3.out) (by omega) ?_; intro A2 c2 w4 h1 h2 h3; have HO4 := Lib.hid h1; have HI4 := Lib.hid h2; have HE4 := Lib.hid h3; clear h1 h2 h3)
      have HLN : Hid ((es ++ [((n : Int), D, d, z)]).length = k + 1) := by rw [List.length_append, HL.out]; exact rfl
      go_roundw
      case rel => exact ⟨A2, c2, es ++ [((n : Int), D, d, z)], by rw [HLN.out]; exact hlt, by rw [HLN.out]; go_num, by rw [HLN.out], HO4.out, HI4.out, HE4.out⟩
      case measure => simp [intOf]; omega
    · obtain rfl : k = p := by omega
      go_wp2_with fail
      go_ret
      exact ⟨E, u, rfl, HX0.out.trans HE.out⟩
end Go.Proofs.YtphpdanohooccaaGreatDoor
