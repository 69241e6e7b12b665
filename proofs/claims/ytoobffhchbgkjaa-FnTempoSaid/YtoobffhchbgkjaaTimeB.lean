/- Contracts of TimeOf. -/
import Derived.Test.YtoobffhchbgkjaaTime
namespace Go.Proofs.Ytoobffhchbgkjaa
open Go.RowKit

/-- The answers of TimeOf. -/
def toOk (xs : List (Int × Int)) (d : Int) : Bool := tempoB xs && inB d 0 (beatsF xs)
def toT (xs : List (Int × Int)) (d : Int) : Int := if toOk xs d = true then topF (50 * unitsF xs d) else 0
def toBt (xs : List (Int × Int)) (d : Int) : Int := if toOk xs d = true then botF (50 * unitsF xs d) else 0

theorem retTime_intro {w w' : World} {t b : Int} {ok : Bool} (he : Ext w w') : RetTime w t b ok (.returned (.tuple #[.agg #[.int .i64 t, .int .i64 b], .bool ok])) w' := ⟨rfl, he⟩

set_option maxHeartbeats 1000000 in
theorem toS_any (A : Option Addr) (c : Nat) (xs : List (Int × Int)) (d : Int) (w : World) (hr : RdP w A xs) (hn : xs.length ≤ 1048576) :
    Calls Try.prog 29 #[.slice A xs.length c, .int .i64 d] w (RetTime w (toT xs d) (toBt xs d) (toOk xs d)) := by
  have CT := Lib.hid (tempoS_any A c xs (w.alloc (.cells #[.int .i64 0, .int .i64 0] 38)) (hr.ext ((Ext.refl w).alloc _)) hn)
  have HR := Lib.hid hr
  have HB0 := Lib.hid (Blk2.new w 38 (.int .i64 0) (.int .i64 0))
  by_cases hok : tempoB xs = true
  · have hps : Passes xs := (tempoB_iff hok).2
    have h8 := (tempoB_iff hok).1.2
    obtain ⟨R, hR, CB⟩ : ∃ R, R = beatsF xs ∧ Hid (∀ w, RdP w A xs → Calls Try.prog _ #[.slice A xs.length c] w fun e w' => e = .returned (.int .i64 R) ∧ Ext w w') := ⟨_, rfl, fun w h => beatsS_any A c xs w h hn hps⟩
    have hRb := beatsF_bd hps
    rw [← hR] at hRb
    have hR1 : 0 ≤ R := hRb.1
    have hR2 : R ≤ 8000 := by omega
    clear hRb
    rw [hok] at CT
    by_cases hd : inB d 0 R = true
    · have e1 : toOk xs d = true := by unfold toOk; rw [hok, ← hR, hd]; rfl
      have e2 : toT xs d = topF (50 * unitsF xs d) := by unfold toT; rw [if_pos e1]
      have e3 : toBt xs d = botF (50 * unitsF xs d) := by unfold toBt; rw [if_pos e1]
      rw [e1, e2, e3]
      have hd' := inB_iff.1 hd
      have CL := Lib.hid (fun w h => l20Time_any A c xs d w h h8 hps hd'.1 (by omega))
      obtain ⟨T, hT⟩ : ∃ T, T = topF (50 * unitsF xs d) := ⟨_, rfl⟩
      obtain ⟨B, hB⟩ : ∃ B, B = botF (50 * unitsF xs d) := ⟨_, rfl⟩
      rw [← hT, ← hB] at CL ⊢
      obtain ⟨n, hnn⟩ : ∃ n, n = xs.length := ⟨_, rfl⟩
      rw [← hnn] at CT CB CL ⊢
      clear hr hn hok hps h8 hR e1 e2 e3 hT hB hnn hd'
      go_enter Try.func29, Try.ntmps29
      go_wp2_with fail
      refine CT.out.mono ?_
      rintro e w1 ⟨rfl, he⟩
      have HX := Lib.hid (((Ext.refl w).alloc (.cells #[.int .i64 0, .int .i64 0] 38)).trans he)
      have HB := Lib.hid (HB0.out.ext he)
      clear he
      go_wp2_with fail
      refine (CB.out _ (HR.out.ext HX.out)).mono ?_
      rintro e w2 ⟨rfl, he⟩
      have HX2 := Lib.hid (HX.out.trans he)
      have HB2 := Lib.hid (HB.out.ext he)
      clear he
      go_wp2_with fail
      refine (l01In_any _ _ _ _).mono ?_
      rintro e w3 ⟨rfl, rfl⟩
      go_wp2_with fail
      refine (CL.out _ (HR.out.ext HX2.out)).mono ?_
      rintro e w4 ⟨rfl, he⟩
      have HX3 := Lib.hid (HX2.out.trans he)
      have HB3 := Lib.hid (HB2.out.ext he)
      obtain ⟨q0, q1, p0, p1⟩ := HB3.out.cells
      clear he
      go_wp2_with fail
      exact bodyPost_ret (v := .tuple #[.agg #[.int .i64 T, .int .i64 B], .bool true]) (by simp [results, Try.results29, go_sem, q0, q1]) rfl (retTime_intro ((HX3.out.setCell (by simp) _).setCell (by simp) _))
    · have hd : inB d 0 R = false := by simpa using hd
      have e1 : toOk xs d = false := by unfold toOk; rw [hok, ← hR, hd]; rfl
      have e2 : toT xs d = 0 := by unfold toT; rw [e1]; rfl
      have e3 : toBt xs d = 0 := by unfold toBt; rw [e1]; rfl
      rw [e1, e2, e3]
      obtain ⟨n, hnn⟩ : ∃ n, n = xs.length := ⟨_, rfl⟩
      rw [← hnn] at CT CB ⊢
      clear hr hn hok hps h8 hR e1 e2 e3 hnn
      go_enter Try.func29, Try.ntmps29
      go_wp2_with fail
      refine CT.out.mono ?_
      rintro e w1 ⟨rfl, he⟩
      have HX := Lib.hid (((Ext.refl w).alloc (.cells #[.int .i64 0, .int .i64 0] 38)).trans he)
      have HB := Lib.hid (HB0.out.ext he)
      clear he
      go_wp2_with fail
      refine (CB.out _ (HR.out.ext HX.out)).mono ?_
      rintro e w2 ⟨rfl, he⟩
      have HX2 := Lib.hid (HX.out.trans he)
      have HB2 := Lib.hid (HB.out.ext he)
      obtain ⟨q0, q1, p0, p1⟩ := HB2.out.cells
      clear he
      go_wp2_with fail
      refine (l01In_any _ _ _ _).mono ?_
      rintro e w3 ⟨rfl, rfl⟩
      go_wp2_with fail
      exact bodyPost_ret (v := .tuple #[.agg #[.int .i64 0, .int .i64 0], .bool false]) (by simp [results, Try.results29, go_sem, q0, q1]) rfl (retTime_intro ((HX2.out.setCell (by simp) _).setCell (by simp) _))
  · have hok : tempoB xs = false := by simpa using hok
    have e1 : toOk xs d = false := by unfold toOk; rw [hok]; rfl
    have e2 : toT xs d = 0 := by unfold toT; rw [e1]; rfl
    have e3 : toBt xs d = 0 := by unfold toBt; rw [e1]; rfl
    rw [e1, e2, e3]
    rw [hok] at CT
    obtain ⟨n, hnn⟩ : ∃ n, n = xs.length := ⟨_, rfl⟩
    rw [← hnn] at CT ⊢
    clear hr hn hok e1 e2 e3 hnn
    go_enter Try.func29, Try.ntmps29
    go_wp2_with fail
    refine CT.out.mono ?_
    rintro e w1 ⟨rfl, he⟩
    have HX := Lib.hid (((Ext.refl w).alloc (.cells #[.int .i64 0, .int .i64 0] 38)).trans he)
    have HB := Lib.hid (HB0.out.ext he)
    obtain ⟨q0, q1, p0, p1⟩ := HB.out.cells
    clear he
    go_wp2_with fail
    exact bodyPost_ret (v := .tuple #[.agg #[.int .i64 0, .int .i64 0], .bool false]) (by simp [results, Try.results29, go_sem, q0, q1]) rfl (retTime_intro ((HX.out.setCell (by simp) _).setCell (by simp) _))

set_option maxHeartbeats 1000000 in
theorem toI_any (A : Option Addr) (c : Nat) (xs : List (Int × Int)) (d : Int) (w : World) (hr : RdP w A xs) (hn : xs.length ≤ 1048576) :
    Calls Try.prog 30 #[.slice A xs.length c, .int .i64 d] w (RetTime w (toT xs d) (toBt xs d) (toOk xs d)) := by
  have CT := Lib.hid (tempoI_any A c xs (w.alloc (.cells #[.int .i64 0, .int .i64 0] 38)) (hr.ext ((Ext.refl w).alloc _)) hn)
  have HR := Lib.hid hr
  have HB0 := Lib.hid (Blk2.new w 38 (.int .i64 0) (.int .i64 0))
  by_cases hok : tempoB xs = true
  · have hps : Passes xs := (tempoB_iff hok).2
    have h8 := (tempoB_iff hok).1.2
    obtain ⟨R, hR, CB⟩ : ∃ R, R = beatsF xs ∧ Hid (∀ w, RdP w A xs → Calls Try.prog _ #[.slice A xs.length c] w fun e w' => e = .returned (.int .i64 R) ∧ Ext w w') := ⟨_, rfl, fun w h => beatsI_any A c xs w h hn hps⟩
    have hRb := beatsF_bd hps
    rw [← hR] at hRb
    have hR1 : 0 ≤ R := hRb.1
    have hR2 : R ≤ 8000 := by omega
    clear hRb
    rw [hok] at CT
    by_cases hd : inB d 0 R = true
    · have e1 : toOk xs d = true := by unfold toOk; rw [hok, ← hR, hd]; rfl
      have e2 : toT xs d = topF (50 * unitsF xs d) := by unfold toT; rw [if_pos e1]
      have e3 : toBt xs d = botF (50 * unitsF xs d) := by unfold toBt; rw [if_pos e1]
      rw [e1, e2, e3]
      have hd' := inB_iff.1 hd
      have hU := unitsF_bd hps d hd'.1
      obtain ⟨U, hUU, CU⟩ : ∃ U, U = unitsF xs d ∧ Hid (∀ w, RdP w A xs → Calls Try.prog _ #[.slice A xs.length c, .int .i64 d] w fun e w' => e = .returned (.int .i64 U) ∧ Ext w w') := ⟨_, rfl, fun w h => units_any A c xs d w h hn hps hd'.1 (by omega)⟩
      rw [← hUU] at hU
      rw [← hUU]
      have hU0 : 0 ≤ U := hU.1
      have hU1 : U ≤ 1440000 := by omega
      clear hU hUU
      obtain ⟨G, hG⟩ : ∃ G, G = gcdF (50 * U) 3 := ⟨_, rfl⟩
      have CG := Lib.hid (fun w => gcdI_q (50 * U) 3 w (by omega) (by omega))
      have hGp := gcdF_pos (a := 50 * U) (b := 3) (by omega)
      rw [← hG] at CG hGp
      have hT : topF (50 * U) = 50 * U / G := by unfold topF; rw [← hG]
      have hB : botF (50 * U) = 3 / G := by unfold botF; rw [← hG]
      rw [hT, hB]
      obtain ⟨n, hnn⟩ : ∃ n, n = xs.length := ⟨_, rfl⟩
      rw [← hnn] at CT CB CU ⊢
      clear hr hn hok hps h8 hR e1 e2 e3 hT hB hnn hd' hG
      go_enter Try.func30, Try.ntmps30
      go_wp2_with fail
      refine CT.out.mono ?_
      rintro e w1 ⟨rfl, he⟩
      have HX := Lib.hid (((Ext.refl w).alloc (.cells #[.int .i64 0, .int .i64 0] 38)).trans he)
      have HB := Lib.hid (HB0.out.ext he)
      clear he
      go_wp2_with fail
      refine (CB.out _ (HR.out.ext HX.out)).mono ?_
      rintro e w2 ⟨rfl, he⟩
      have HX2 := Lib.hid (HX.out.trans he)
      have HB2 := Lib.hid (HB.out.ext he)
      clear he
      go_wp2_with fail
      refine (within_any _ _ _ _).mono ?_
      rintro e w3 ⟨rfl, rfl⟩
      go_wp2_with fail
      refine (CU.out _ (HR.out.ext HX2.out)).mono ?_
      rintro e w4 ⟨rfl, he⟩
      have HX3 := Lib.hid (HX2.out.trans he)
      have HB3 := Lib.hid (HB2.out.ext he)
      clear he
      go_wp2_with fail
      refine (CG.out _).mono ?_
      rintro e w5 ⟨rfl, k, hk⟩
      have he : Ext w4 w5 := by rw [hk]; exact (Ext.refl _).drewN k
      have HX4 := Lib.hid (HX3.out.trans he)
      have HB4 := Lib.hid (HB3.out.ext he)
      clear he hk
      go_wp2_with fail
      obtain ⟨q0, q1, p0, p1⟩ := HB4.out.cells
      have hg0 : ¬ G = 0 := by omega
      go_still_tail 6, (by kernel_rfl)
      change wpList _ _ _ _ _ (World.drew _)
      go_wp2
      exact bodyPost_ret (v := .tuple #[.agg #[.int .i64 (50 * U / G), .int .i64 (3 / G)], .bool true]) (by simp [results, Try.results30, go_sem, q0, q1]) rfl (retTime_intro ((HX4.out.drew.setCell (by simp) _).setCell (by simp) _))
    · have hd : inB d 0 R = false := by simpa using hd
      have e1 : toOk xs d = false := by unfold toOk; rw [hok, ← hR, hd]; rfl
      have e2 : toT xs d = 0 := by unfold toT; rw [e1]; rfl
      have e3 : toBt xs d = 0 := by unfold toBt; rw [e1]; rfl
      rw [e1, e2, e3]
      obtain ⟨n, hnn⟩ : ∃ n, n = xs.length := ⟨_, rfl⟩
      rw [← hnn] at CT CB ⊢
      clear hr hn hok hps h8 hR e1 e2 e3 hnn
      go_enter Try.func30, Try.ntmps30
      go_wp2_with fail
      refine CT.out.mono ?_
      rintro e w1 ⟨rfl, he⟩
      have HX := Lib.hid (((Ext.refl w).alloc (.cells #[.int .i64 0, .int .i64 0] 38)).trans he)
      have HB := Lib.hid (HB0.out.ext he)
      clear he
      go_wp2_with fail
      refine (CB.out _ (HR.out.ext HX.out)).mono ?_
      rintro e w2 ⟨rfl, he⟩
      have HX2 := Lib.hid (HX.out.trans he)
      have HB2 := Lib.hid (HB.out.ext he)
      obtain ⟨q0, q1, p0, p1⟩ := HB2.out.cells
      clear he
      go_wp2_with fail
      refine (within_any _ _ _ _).mono ?_
      rintro e w3 ⟨rfl, rfl⟩
      go_wp2_with fail
      exact bodyPost_ret (v := .tuple #[.agg #[.int .i64 0, .int .i64 0], .bool false]) (by simp [results, Try.results30, go_sem, q0, q1]) rfl (retTime_intro ((HX2.out.setCell (by simp) _).setCell (by simp) _))
  · have hok : tempoB xs = false := by simpa using hok
    have e1 : toOk xs d = false := by unfold toOk; rw [hok]; rfl
    have e2 : toT xs d = 0 := by unfold toT; rw [e1]; rfl
    have e3 : toBt xs d = 0 := by unfold toBt; rw [e1]; rfl
    rw [e1, e2, e3]
    rw [hok] at CT
    obtain ⟨n, hnn⟩ : ∃ n, n = xs.length := ⟨_, rfl⟩
    rw [← hnn] at CT ⊢
    clear hr hn hok e1 e2 e3 hnn
    go_enter Try.func30, Try.ntmps30
    go_wp2_with fail
    refine CT.out.mono ?_
    rintro e w1 ⟨rfl, he⟩
    have HX := Lib.hid (((Ext.refl w).alloc (.cells #[.int .i64 0, .int .i64 0] 38)).trans he)
    have HB := Lib.hid (HB0.out.ext he)
    obtain ⟨q0, q1, p0, p1⟩ := HB.out.cells
    clear he
    go_wp2_with fail
    exact bodyPost_ret (v := .tuple #[.agg #[.int .i64 0, .int .i64 0], .bool false]) (by simp [results, Try.results30, go_sem, q0, q1]) rfl (retTime_intro ((HX.out.setCell (by simp) _).setCell (by simp) _))
end Go.Proofs.Ytoobffhchbgkjaa
