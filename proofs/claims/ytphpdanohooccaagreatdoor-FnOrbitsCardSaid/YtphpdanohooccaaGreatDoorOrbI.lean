/- Contract of the program's OrbitSize. -/
import Derived.Test.YtphpdanohooccaaGreatDoorOrb
namespace Go.Proofs.YtphpdanohooccaaGreatDoor
open Go.RowKit

set_option maxRecDepth 20000 in
set_option maxHeartbeats 4000000 in
theorem obI_good (n : Nat) (A : Option Addr) (c : Nat) (xs : List Int) (w : World) (hr : RdI w A xs) (hb : rhyB n xs = true) :
    Calls Tryz.prog 5 #[.agg #[.int .i64 n, .slice A xs.length c]] w fun e w' => e = .returned (.int .i64 (obN n xs : Nat)) ∧ Ext w w' := by
  have hn := (rhyB_iff hb).1
  have hxl := rhy_short hb
  obtain ⟨l, hll⟩ : ∃ l, l = xs.length := ⟨_, rfl⟩
  obtain ⟨zss, hz⟩ : ∃ zss, zss = fmL n xs n := ⟨_, rfl⟩
  have hzl : zss.length = 2 * n := by rw [hz]; exact fmL_len n xs n
  have HZB : Hid (∀ z ∈ zss, rhyB n z = true) := fun z hm => (fmL_rhy (n := n) (xs := xs) (by omega) (by omega) n z (by rw [← hz]; exact hm))
  have CF : Hid (∀ W : World, Ext w W → Calls Tryz.prog 24 #[.agg #[.int .i64 n, .slice A l c]] W (RetE W n zss)) := fun W he => by rw [hll, hz]; exact forms_any n A c xs W (hr.ext he) hb
  have CE : Hid (∀ (D : Option Addr) (q : Nat) (z : List Int) (W : World), RdI W D z → rhyB n z = true → Calls Tryz.prog 25 #[.agg #[.int .i64 n, .slice D z.length q]] W fun e w' => e = .returned (.int .i64 (codeN n z : Nat)) ∧ Ext W w') := fun D q z W h h2 => code_any n D q z W h h2
  have CC : Hid (∀ (B : Option Addr) (d : Nat) (W : World), RdI W B (cdL n xs) → Calls Tryz.prog 26 #[.slice B (2 * n) d] W (RetI W (colF (cdL n xs)))) := fun B d W h => by
    have hcl : (cdL n xs).length = 2 * n := by unfold cdL; rw [List.length_map, fmL_len]
    have := coll_any B d (cdL n xs) W h (by omega)
    rwa [hcl] at this
  have HOB := Lib.hid (orb_len hb)
  obtain ⟨cs, hcs⟩ : ∃ cs, cs = cdL n xs := ⟨_, rfl⟩
  rw [← hcs] at CC HOB
  have HCD : Hid (cs = zss.map fun z => (codeN n z : Int)) := by rw [hz]; exact hcs
  clear hcs
  have HX0 : Hid (Ext w (w.alloc (.cells #[.int .i64 n, .slice A l c] 25))) := (Ext.refl w).alloc _
  have HG0 := Lib.hid (Bx2.new w 25 (.int .i64 n) (.slice A l c))
  rw [← hll]
  have HZL := Lib.hid hzl
  clear hll hr hb hxl hz hzl
  go_enter Tryz.func5, Tryz.ntmps5
  go_wp2_with fail
  obtain ⟨q0, q1, p0, p1⟩ := HG0.out.cells
  go_wp2_with fail
  refine (CF.out _ HX0.out).mono ?_
  rintro e W ⟨B, d, es, rfl, hes, hoe, hie, e0⟩
  have HES := Lib.hid hes
  have HOE := Lib.hid hoe
  have HIE : Hid (∀ e ∈ es, ∀ V : World, Ext W V → RdI V e.1 e.2.2) := fun e he V h => ((hie e he).ext h).rd
  have HXW := Lib.hid (HX0.out.trans e0)
  have HG := Lib.hid (HG0.out.ext e0)
  obtain ⟨m, hm⟩ : ∃ m, m = es.length := ⟨_, rfl⟩
  have hmn : m = 2 * n := by rw [hm, ← HZL.out, ← hes, List.length_map]
  rw [← hm]
  have HM := Lib.hid hm
  have hm48 : m ≤ 48 := by omega
  have HMN := Lib.hid hmn
  clear e0 q0 q1 p0 p1 HG0 HX0 CF hes hoe hie hm hmn
  go_wp2_with fail
  go_loopw [3, 9] (fun o i wr => ∃ (j : Nat) (F : Option Addr) (f : Nat), j ≤ m ∧ i = .int .i64 j ∧ o = .slice F j f ∧ Hid (OwI wr W.heap.size F f (cs.take j)) ∧ Hid (Ext W wr)) (fun _ i _ => m - (intOf i).toNat)
  case atStart => exact ⟨0, none, 0, by omega, rfl, rfl, OwI.nil _ _, Ext.refl W⟩
  case round =>
    obtain ⟨j, F, f, hj, rfl, rfl, HO, HE⟩ := hrel
    by_cases hlt : j < m
    · have hje : j < es.length := by rw [← HM.out]; exact hlt
      have hjz : j < zss.length := by rw [HZL.out, ← HMN.out]; exact hlt
      obtain ⟨D, q, z, hD⟩ : ∃ D q z, es[j] = (D, q, z) := ⟨_, _, _, rfl⟩
      have hzj : zss[j] = z := by
        have h1 : zss[j] = (es.map (fun x : Option Addr × Nat × List Int => x.2.2))[j]'(by rw [List.length_map]; exact hje) := by simp only [HES.out]
        rw [h1, List.getElem_map, hD]
      obtain ⟨b, o, hA, hc0, hc1⟩ := (HOE.out.ext HE.out).at_ j hje
      subst hA
      rw [hD] at hc1
      have HZR : Hid (RdI wr D z) := by
        have := HIE.out es[j] (List.getElem_mem hje) wr HE.out
        rwa [hD] at this
      have hzb : rhyB n z = true := HZB.out z (by rw [← hzj]; exact List.getElem_mem hjz)
      obtain ⟨cz, hcz⟩ : ∃ cz : Int, cz = (codeN n z : Nat) := ⟨_, rfl⟩
      have HS : Hid (cs.take (j + 1) = cs.take j ++ [cz]) := by rw [HCD.out, ← List.map_take, List.take_succ_eq_append_getElem hjz, List.map_append, hzj, hcz, List.map_take]; exact rfl
      have HLJ : Hid ((cs.take j).length = j) := by rw [HCD.out, List.length_take, List.length_map]; exact Nat.min_eq_left (by omega)
      have HP : Hid (Bx2 (wr.alloc (.cells #[.int .i64 n, .slice D z.length q] 25)) w.heap.size 25 (.int .i64 n) (.slice A l c)) := (HG.out.ext HE.out).ext ((Ext.refl _).alloc _)
      have HQ := Lib.hid (Bx2.new wr 25 (.int .i64 n) (.slice D z.length q))
      have HXA : Hid (Ext W (wr.alloc (.cells #[.int .i64 n, .slice D z.length q] 25))) := HE.out.alloc _
      have HOA := Lib.hid (HO.out.ext ((Ext.refl wr).alloc (.cells #[.int .i64 n, .slice D z.length q] 25)))
      have CEJ : Hid (Calls Tryz.prog 25 #[.agg #[.int .i64 n, .slice D z.length q]] (wr.alloc (.cells #[.int .i64 n, .slice D z.length q] 25)) fun e w' => e = .returned (.int .i64 cz) ∧ Ext (wr.alloc (.cells #[.int .i64 n, .slice D z.length q] 25)) w') := by rw [hcz]; exact CE.out D q z _ (HZR.out.ext ((Ext.refl _).alloc _)) hzb
      clear hje hjz hD hzj hzb hcz
      obtain ⟨q0, q1, p0, p1⟩ := HP.out.cells
      obtain ⟨r0, r1, s0, s1⟩ := HQ.out.cells
      go_wp2_with fail
      refine CEJ.out.mono ?_
      rintro e w3 ⟨rfl, e3⟩
      have HX3 := Lib.hid (HXA.out.trans e3)
      have HO3 := Lib.hid (HOA.out.ext e3)
      clear e3 q0 q1 p0 p1 r0 r1 s0 s1 hc0 hc1 HP HQ HXA CEJ HOA HO
      go_wp2_with (at_builtin; refine app_int W _ rfl _ _ rfl _ _ _ _ _ rfl rfl HLJ.out HO3.out HX3.out ?c2 ?c3)
      case c2 => omega
      intro A2 c2 w4 ho he
      have HO2 := Lib.hid ho
      have HE2 := Lib.hid he
      clear ho he
      go_wp2_with fail
      go_roundw
      case rel => exact ⟨j + 1, A2, c2, by omega, by go_num, rfl, by rw [HS.out]; exact HO2.out, HE2.out⟩
      case measure => simp [intOf]; omega
    · obtain rfl : j = m := by omega
      have HT : Hid (cs.take j = cs) := List.take_of_length_le (by rw [HCD.out, List.length_map, HZL.out, HMN.out]; exact Nat.le_refl _)
      have HO1 := Lib.hid HO.out
      rw [HT.out] at HO1
      have CCW := Lib.hid (CC.out F f wr HO1.out.rd)
      rw [← HMN.out] at CCW
      clear HO HT
      go_wp2_with fail
      refine CCW.out.mono ?_
      rintro e w4 ⟨G, g, rfl, og, eg⟩
      have HXF := Lib.hid ((HXW.out.trans HE.out).trans eg)
      clear og eg
      go_wp2_with fail
      go_ret
      refine ⟨?_, HXF.out⟩
      rw [← HOB.out]
      rfl

set_option maxHeartbeats 1000000 in
theorem obI_any (n : Int) (A : Option Addr) (c : Nat) (xs : List Int) (w : World) (hr : RdI w A xs) (hl : xs.length ≤ 1048576) :
    Calls Tryz.prog 5 #[.agg #[.int .i64 n, .slice A xs.length c]] w fun e w' => e = .returned (.int .i64 (obF n xs)) ∧ Ext w w' := by
  by_cases hb : rhyB n xs = true
  · have hn := (rhyB_iff hb).1
    obtain ⟨N, rfl⟩ := Int.eq_ofNat_of_zero_le (show 0 ≤ n by omega)
    unfold obF
    rw [if_pos hb]
    exact obI_good N A c xs w hr hb
  · rw [Bool.not_eq_true] at hb
    have hF : obF n xs = 0 := by unfold obF; rw [hb]; rfl
    rw [hF]
    obtain ⟨l, hll⟩ : ∃ l, l = xs.length := ⟨_, rfl⟩
    have CF : Hid (∀ W : World, Ext w W → Calls Tryz.prog 24 #[.agg #[.int .i64 n, .slice A l c]] W fun e w' => e = .returned (.slice none 0 0) ∧ Ext W w') := fun W he => by rw [hll]; exact forms_bad n A c xs W (hr.ext he) hb hl
    have HX0 : Hid (Ext w (w.alloc (.cells #[.int .i64 n, .slice A l c] 25))) := (Ext.refl w).alloc _
    have HG0 := Lib.hid (Bx2.new w 25 (.int .i64 n) (.slice A l c))
    rw [← hll]
    clear hll hr hb hl hF
    go_enter Tryz.func5, Tryz.ntmps5
    go_wp2_with fail
    obtain ⟨q0, q1, p0, p1⟩ := HG0.out.cells
    go_wp2_with fail
    refine (CF.out _ HX0.out).mono ?_
    rintro e W ⟨rfl, e0⟩
    have HXW := Lib.hid (HX0.out.trans e0)
    clear e0 q0 q1 p0 p1 HG0 HX0 CF
    go_wp2_with fail
    go_loopw [3, 9] (fun o i wr => i = .int .i64 0 ∧ o = .slice none 0 0 ∧ wr = W) (fun _ _ _ => 0)
    case atStart => exact ⟨rfl, rfl, rfl⟩
    case round =>
      obtain ⟨rfl, rfl, rfl⟩ := hrel
      have CC := Lib.hid (coll_any none 0 [] wr (Rd.nil wr 1 none) (by simp))
      have HC0 : Hid ((colF []).length = 0) := Nat.le_zero.1 (colF_len [])
      go_wp2_with fail
      refine CC.out.mono ?_
      rintro e w4 ⟨G, g, rfl, og, eg⟩
      rw [HC0.out]
      have HXF := Lib.hid (HXW.out.trans eg)
      clear og eg
      go_wp2_with fail
      go_ret
      exact ⟨rfl, HXF.out⟩
end Go.Proofs.YtphpdanohooccaaGreatDoor
