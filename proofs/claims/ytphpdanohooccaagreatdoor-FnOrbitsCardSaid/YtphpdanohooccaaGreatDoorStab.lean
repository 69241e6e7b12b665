/- The number of forms of a rhythm that leave it as it is: contracts of StabilizerSize. -/
import Derived.Test.YtphpdanohooccaaGreatDoorForms
namespace Go.Proofs.YtphpdanohooccaaGreatDoor
open Go.RowKit

theorem rotL_mapF (n : Nat) (xs : List Int) (f : Int → Int) (k : Int) (hn : 1 ≤ n) : rotL n (mapF n xs f) k = mapF n xs (fun q => f q + k) := by
  unfold rotL
  rw [show mapF n (mapF n xs f) (fun p => p + k) = setL n (fun p => ((mapF n xs f).map fun q => (q + k) % (n : Int)).contains (p : Int)) from rfl,
    show mapF n xs (fun q => f q + k) = setL n (fun p => (xs.map fun q => (f q + k) % (n : Int)).contains (p : Int)) from rfl]
  refine setL_congr fun p hp => ?_
  rw [Bool.eq_iff_iff]
  simp only [List.contains_iff_mem, List.mem_map]
  constructor
  · rintro ⟨q, hq, e⟩
    obtain ⟨r, hr, hm, rfl⟩ := mem_setL.1 hq
    simp only [List.contains_iff_mem, List.mem_map] at hm
    obtain ⟨x, hx, e2⟩ := hm
    refine ⟨x, hx, ?_⟩
    rw [← e, ← e2, Int.emod_add_emod]
  · rintro ⟨x, hx, e⟩
    have h0 : 0 ≤ f x % (n : Int) := Int.emod_nonneg _ (by omega)
    have h1 : f x % (n : Int) < n := Int.emod_lt_of_pos _ (by omega)
    refine ⟨f x % (n : Int), mem_setL.2 ⟨(f x % (n : Int)).toNat, by omega, ?_, by omega⟩, ?_⟩
    · simp only [List.contains_iff_mem, List.mem_map]
      exact ⟨x, hx, by omega⟩
    · rw [← e, Int.emod_add_emod]
theorem rot_mir (n : Nat) (xs : List Int) (k : Int) (hn : 1 ≤ n) : mapF n xs (fun q => -1 * q + k) = rotL n (mirL n xs) k := by
  unfold mirL
  rw [rotL_mapF n xs _ k hn]
  congr 1
  funext q
  omega
def stC (xs : List Int) (zss : List (List Int)) : Nat := zss.countP (fun z => decide (z = xs))
theorem stC_le (xs : List Int) (zss : List (List Int)) : stC xs zss ≤ zss.length := List.countP_le_length
theorem stC_take {xs : List Int} {zss : List (List Int)} {j : Nat} (h : j < zss.length) : stC xs (zss.take (j + 1)) = stC xs (zss.take j) + if zss[j] = xs then 1 else 0 := by
  unfold stC
  rw [List.take_succ_eq_append_getElem h, List.countP_append]
  congr 1
  by_cases e : zss[j] = xs <;> simp [e]
theorem stC_two (xs : List Int) (zss : List (List Int)) (a b : List Int) : stC xs (zss ++ [a, b]) = stC xs zss + (if a = xs then 1 else 0) + (if b = xs then 1 else 0) := by
  unfold stC
  rw [List.countP_append]
  by_cases e : a = xs <;> by_cases e2 : b = xs <;> simp [e, e2]
def stF (n : Int) (xs : List Int) : Int := if rhyB n xs = true then (stC xs (fmL n.toNat xs n.toNat) : Nat) else 0

set_option maxHeartbeats 1000000 in
theorem forms_bad (n : Int) (A : Option Addr) (c : Nat) (xs : List Int) (w : World) (hr : RdI w A xs) (hb : rhyB n xs = false) (hl : xs.length ≤ 1048576) :
    Calls Tryz.prog 24 #[.agg #[.int .i64 n, .slice A xs.length c]] w fun e w' => e = .returned (.slice none 0 0) ∧ Ext w w' := by
  obtain ⟨l, hll⟩ : ∃ l, l = xs.length := ⟨_, rfl⟩
  have CO : Hid (∀ W : World, Ext w W → Calls Tryz.prog 28 #[.agg #[.int .i64 n, .slice A l c]] W fun e w' => e = .returned (.bool false) ∧ Ext W w') := fun W he => by rw [hll, ← hb]; exact rhyI_any A c n xs W (hr.ext he) (by omega)
  have HX0 : Hid (Ext w (w.alloc (.cells #[.int .i64 n, .slice A l c] 25))) := (Ext.refl w).alloc _
  have HG0 := Lib.hid (Bx2.new w 25 (.int .i64 n) (.slice A l c))
  rw [← hll]
  clear hll hr hb hl
  go_enter Tryz.func24, Tryz.ntmps24
  go_wp2_with fail
  obtain ⟨q0, q1, p0, p1⟩ := HG0.out.cells
  go_wp2_with fail
  refine (CO.out _ HX0.out).mono ?_
  rintro e W ⟨rfl, e0⟩
  have HXW := Lib.hid (HX0.out.trans e0)
  clear e0 q0 q1 p0 p1 HG0 HX0 CO
  go_wp2_with fail
  go_ret
  exact ⟨rfl, HXW.out⟩

set_option maxRecDepth 20000 in
set_option maxHeartbeats 4000000 in
theorem stI_good (n : Nat) (A : Option Addr) (c : Nat) (xs : List Int) (w : World) (hr : RdI w A xs) (hb : rhyB n xs = true) :
    Calls Tryz.prog 6 #[.agg #[.int .i64 n, .slice A xs.length c]] w fun e w' => e = .returned (.int .i64 (stC xs (fmL n xs n) : Nat)) ∧ Ext w w' := by
  have hn := (rhyB_iff hb).1
  have hxl := rhy_short hb
  obtain ⟨l, hll⟩ : ∃ l, l = xs.length := ⟨_, rfl⟩
  obtain ⟨zss, hz⟩ : ∃ zss, zss = fmL n xs n := ⟨_, rfl⟩
  have hzl : zss.length = 2 * n := by rw [hz]; exact fmL_len n xs n
  have HZB : Hid (∀ z ∈ zss, z.length ≤ 24) := fun z hm => rhy_short (n := n) (fmL_rhy (n := n) (xs := xs) (by omega) (by omega) n z (by rw [← hz]; exact hm))
  have CF : Hid (∀ W : World, Ext w W → Calls Tryz.prog 24 #[.agg #[.int .i64 n, .slice A l c]] W (RetE W n zss)) := fun W he => by rw [hll, hz]; exact forms_any n A c xs W (hr.ext he) hb
  have CE : Hid (∀ (D : Option Addr) (q : Nat) (z : List Int) (W : World), Ext w W → RdI W D z → z.length ≤ 24 → Calls Tryz.prog 27 #[.agg #[.int .i64 n, .slice D z.length q], .agg #[.int .i64 n, .slice A l c]] W fun e w' => e = .returned (.bool (decide (z = xs))) ∧ Ext W w') := fun D q z W he h h2 => by rw [hll]; exact equals_any n D A q c z xs W h (hr.ext he) (by omega) (by omega)
  have HX0 : Hid (Ext w (w.alloc (.cells #[.int .i64 n, .slice A l c] 25))) := (Ext.refl w).alloc _
  have HG0 := Lib.hid (Bx2.new w 25 (.int .i64 n) (.slice A l c))
  rw [← hll, ← hz]
  have HZL := Lib.hid hzl
  clear hll hr hb hxl hz hzl
  go_enter Tryz.func6, Tryz.ntmps6
  go_wp2_with fail
  obtain ⟨q0, q1, p0, p1⟩ := HG0.out.cells
  go_wp2_with fail
  refine (CF.out _ HX0.out).mono ?_
  rintro e W ⟨B, d, es, rfl, hes, hoe, hie, e0⟩
  have HES := Lib.hid hes
  have HOE := Lib.hid hoe
  have HIE : Hid (∀ e ∈ es, ∀ V : World, Ext W V → RdI V e.1 e.2.2) := fun e he V h => ((hie e he).ext h).rd
  have HXW := Lib.hid (HX0.out.trans e0)
  have HG := Lib.hid (HG0.out.ext e0)
  obtain ⟨m, hm⟩ : ∃ m, m = es.length := ⟨_, rfl⟩
  have hmn : m = 2 * n := by rw [hm, ← HZL.out, ← hes, List.length_map]
  rw [← hm]
  have HM := Lib.hid hm
  clear e0 q0 q1 p0 p1 HG0 HX0 CF hes hoe hie hm
  go_wp2_with fail
  go_loopw [3, 9] (fun ct i wr => ∃ j : Nat, j ≤ m ∧ i = .int .i64 j ∧ ct = .int .i64 (stC xs (zss.take j) : Nat) ∧ Hid (Ext W wr)) (fun _ i _ => m - (intOf i).toNat)
  case atStart => exact ⟨0, by omega, rfl, rfl, Ext.refl W⟩
  case round =>
    obtain ⟨j, hj, rfl, rfl, HE⟩ := hrel
    by_cases hlt : j < m
    · have hje : j < es.length := by rw [← HM.out]; exact hlt
      have hjz : j < zss.length := by rw [HZL.out, ← hmn]; exact hlt
      obtain ⟨D, q, z, hD⟩ : ∃ D q z, es[j] = (D, q, z) := ⟨_, _, _, rfl⟩
      have hzj : zss[j] = z := by
        have h1 : zss[j] = (es.map (fun x : Option Addr × Nat × List Int => x.2.2))[j]'(by rw [List.length_map]; exact hje) := by simp only [HES.out]
        rw [h1, List.getElem_map, hD]
      obtain ⟨b, o, hA, hc0, hc1⟩ := (HOE.out.ext HE.out).at_ j hje
      subst hA
      rw [hD] at hc1
      have HZR : Hid (RdI wr D z) := by
        have := HIE.out es[j] (List.getElem_mem hje) wr HE.out
        rwa [hD] at this
      have hz24 : z.length ≤ 24 := HZB.out z (by rw [← hzj]; exact List.getElem_mem hjz)
      obtain ⟨b1, hb1⟩ : ∃ b1, b1 = decide (z = xs) := ⟨_, rfl⟩
      have HB1 := Lib.hid hb1
      obtain ⟨s, hs⟩ : ∃ s, s = stC xs (zss.take j) := ⟨_, rfl⟩
      have hs2 : s ≤ 48 := by rw [hs]; have h1 := stC_le xs (zss.take j); have h2 := List.length_take_le j zss; omega
      have HS := Lib.hid (stC_take (xs := xs) hjz)
      rw [hzj, ← hs] at HS
      rw [← hs]
      have HP : Hid (Bx2 (wr.alloc (.cells #[.int .i64 n, .slice D z.length q] 25)) w.heap.size 25 (.int .i64 n) (.slice A l c)) := (HG.out.ext HE.out).ext ((Ext.refl _).alloc _)
      have HQ := Lib.hid (Bx2.new wr 25 (.int .i64 n) (.slice D z.length q))
      have HXA : Hid (Ext W (wr.alloc (.cells #[.int .i64 n, .slice D z.length q] 25))) := HE.out.alloc _
      have CEJ : Hid (Calls Tryz.prog 27 #[.agg #[.int .i64 n, .slice D z.length q], .agg #[.int .i64 n, .slice A l c]] (wr.alloc (.cells #[.int .i64 n, .slice D z.length q] 25)) fun e w' => e = .returned (.bool b1) ∧ Ext (wr.alloc (.cells #[.int .i64 n, .slice D z.length q] 25)) w') := by rw [hb1]; exact CE.out D q z _ (HXW.out.trans HXA.out) (HZR.out.ext ((Ext.refl _).alloc _)) hz24
      clear hje hjz hD hzj hz24 hb1 hs
      obtain ⟨q0, q1, p0, p1⟩ := HP.out.cells
      obtain ⟨r0, r1, s0, s1⟩ := HQ.out.cells
      go_wp2_with fail
      refine CEJ.out.mono ?_
      rintro e w3 ⟨rfl, e3⟩
      have HX3 := Lib.hid (HXA.out.trans e3)
      clear e3 q0 q1 p0 p1 r0 r1 s0 s1 hc0 hc1 HP HQ HXA CEJ
      cases b1
      · have hne : z ≠ xs := by simpa using HB1.out.symm
        have HS1 : Hid (stC xs (zss.take (j + 1)) = s) := by rw [HS.out, if_neg hne]; exact rfl
        clear hne HS
        go_wp2_with fail
        go_roundw
        case rel => exact ⟨j + 1, by omega, by go_num, by rw [HS1.out], HX3.out⟩
        case measure => simp [intOf]; omega
      · have hne : z = xs := by simpa using HB1.out.symm
        have HS1 : Hid (stC xs (zss.take (j + 1)) = s + 1) := by rw [HS.out, if_pos hne]; exact rfl
        clear hne HS
        go_wp2_with fail
        go_roundw
        case rel => exact ⟨j + 1, by omega, by go_num, by rw [HS1.out]; go_num, HX3.out⟩
        case measure => simp [intOf]; omega
    · obtain rfl : j = m := by omega
      have HT : Hid (zss.take j = zss) := List.take_of_length_le (by rw [HZL.out, hmn]; exact Nat.le_refl _)
      rw [HT.out]
      go_wp2_with fail
      go_ret
      exact ⟨rfl, HXW.out.trans HE.out⟩

set_option maxHeartbeats 1000000 in
theorem stI_any (n : Int) (A : Option Addr) (c : Nat) (xs : List Int) (w : World) (hr : RdI w A xs) (hl : xs.length ≤ 1048576) :
    Calls Tryz.prog 6 #[.agg #[.int .i64 n, .slice A xs.length c]] w fun e w' => e = .returned (.int .i64 (stF n xs)) ∧ Ext w w' := by
  by_cases hb : rhyB n xs = true
  · have hn := (rhyB_iff hb).1
    obtain ⟨N, rfl⟩ := Int.eq_ofNat_of_zero_le (show 0 ≤ n by omega)
    unfold stF
    rw [if_pos hb]
    exact stI_good N A c xs w hr hb
  · rw [Bool.not_eq_true] at hb
    have hF : stF n xs = 0 := by unfold stF; rw [hb]; rfl
    rw [hF]
    obtain ⟨l, hll⟩ : ∃ l, l = xs.length := ⟨_, rfl⟩
    have CF : Hid (∀ W : World, Ext w W → Calls Tryz.prog 24 #[.agg #[.int .i64 n, .slice A l c]] W fun e w' => e = .returned (.slice none 0 0) ∧ Ext W w') := fun W he => by rw [hll]; exact forms_bad n A c xs W (hr.ext he) hb hl
    have HX0 : Hid (Ext w (w.alloc (.cells #[.int .i64 n, .slice A l c] 25))) := (Ext.refl w).alloc _
    have HG0 := Lib.hid (Bx2.new w 25 (.int .i64 n) (.slice A l c))
    rw [← hll]
    clear hll hr hb hl hF
    go_enter Tryz.func6, Tryz.ntmps6
    go_wp2_with fail
    obtain ⟨q0, q1, p0, p1⟩ := HG0.out.cells
    go_wp2_with fail
    refine (CF.out _ HX0.out).mono ?_
    rintro e W ⟨rfl, e0⟩
    have HXW := Lib.hid (HX0.out.trans e0)
    clear e0 q0 q1 p0 p1 HG0 HX0 CF
    go_wp2_with fail
    go_loopw [3, 9] (fun ct i wr => i = .int .i64 0 ∧ ct = .int .i64 0 ∧ wr = W) (fun _ _ _ => 0)
    case atStart => exact ⟨rfl, rfl, rfl⟩
    case round =>
      obtain ⟨rfl, rfl, rfl⟩ := hrel
      go_wp2_with fail
      go_ret
      exact ⟨rfl, HXW.out⟩
end Go.Proofs.YtphpdanohooccaaGreatDoor
