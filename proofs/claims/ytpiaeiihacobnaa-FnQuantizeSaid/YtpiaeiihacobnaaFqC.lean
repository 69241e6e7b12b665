/- FnQuantize: the law's walk. -/
import Derived.Test.YtpiaeiihacobnaaFqA
import Derived.Test.YtpiaeiihacobnaaHas
namespace Go.Proofs.Ytpiaeiihacobnaa
open Go.RowKit

/-- A fresh slice of m ints, and true. -/
def RetQm (V : World) (Z : List Int) (m : Nat) (e : Ending) (w' : World) : Prop := ∃ A c, e = .returned (.tuple #[.slice A m c, .bool true]) ∧ OwI w' V.heap.size A c Z ∧ Ext V w'
theorem RetIB.qm {V w' : World} {Z : List Int} {m : Nat} {e : Ending} (h : RetIB V Z true e w') (hl : Z.length = m) : RetQm V Z m e w' := by
  obtain ⟨A, c, rfl, ho, he⟩ := h
  exact ⟨A, c, by rw [hl], ho, he⟩
theorem tgB_of {xs : List Int} {g : Int} (h : timesB xs = true) (hg : 1 ≤ g ∧ g ≤ 1000) : tgB xs g = true := by
  unfold tgB
  rw [h, Bool.true_and]
  exact inB_iff.2 hg

set_option maxRecDepth 100000 in
set_option maxHeartbeats 8000000 in
theorem core_FnQuantize (w : World) (A0 : Option Addr) (c0 l0 : Nat) (hl0 : l0 ≤ 1048576)
    (CN : Hid (∀ (m : Int) (W : World), 0 ≤ m → m ≤ 1000 → Ext w W → Calls Try.prog 36 #[.slice A0 l0 c0, .int .i64 m] W (RetNum W)))
    (CT : Hid (∀ (m : Int) (W : World), 0 ≤ m → m ≤ 1000 → Ext w W → Calls Try.prog 35 #[.slice A0 l0 c0, .int .i64 m] W (RetDrawT W W.heap.size))) :
    Calls Try.prog 11 #[.slice A0 l0 c0] w fun e w' => e = .returned (.bool true) ∧ Ext w w' := by
  go_enter Try.func11, Try.ntmps11
  try dsimp only [List.append]
  go_wp2_with fail
  refine (CT.out _ _ (by omega) (by omega) (Ext.refl w)).mono ?_
  rintro e w1 ⟨B, d, ys, rfl, ho, hok, he1⟩
  have E1 := Lib.hid he1
  have OY := Lib.hid ho
  obtain ⟨m, hm⟩ : ∃ m, m = ys.length := ⟨_, rfl⟩
  have hm6 : m ≤ 6 := by rw [hm]; exact hok.1
  have HM := Lib.hid hm
  have HOK := Lib.hid hok
  rw [← hm]
  clear he1 ho hok hm
  go_wp2_with fail
  refine (CN.out _ _ (by omega) (by omega) E1.out).mono ?_
  rintro e w2 ⟨a, rfl, ha, he2⟩
  have E2 := Lib.hid (E1.out.trans he2)
  have OY2 := Lib.hid (OY.out.ext he2)
  clear he2 E1 OY
  obtain ⟨G, hG⟩ : ∃ G : Int, G = 1 + (a : Int) % 40 := ⟨_, rfl⟩
  have hG1 : 1 ≤ G ∧ G ≤ 40 := by omega
  have hG' := hG.symm
  clear hG
  obtain ⟨Q, hQ⟩ : ∃ Q, Q = ys.map fun x => nearF x G := ⟨_, rfl⟩
  have hty := okTimes_B HOK.out
  have htq : timesB Q = true := by
    rw [hQ]
    refine okTimes_map HOK.out _ (fun s t h => near_mono hG1.1 h) (fun x h0 h1 => ?_)
    have := near_nonneg hG1.1 h0
    have := near_dist (t := x) hG1.1
    omega
  have hql : Q.length = m := by rw [hQ, List.length_map]; exact HM.out.symm
  have D1 : Hid (∀ V : World, Ext w2 V → Calls Try.prog 25 #[.slice B m d, .int .i64 G] V (RetQm V Q m)) := fun V he => by
    have h1 := tgB_of hty (g := G) (by omega)
    have h2 := quantI_any B d ys G V (OY2.out.ext he).rd (by have := HM.out; omega)
    have h3 : quantF ys G = Q := by unfold quantF; rw [if_pos h1, hQ]
    rw [h1, h3, ← HM.out] at h2
    exact h2.mono fun _ _ h => h.qm hql
  have D2 : Hid (∀ (D : Option Addr) (c : Nat) (V : World), RdI V D Q → Calls Try.prog 25 #[.slice D m c, .int .i64 G] V (RetQm V Q m)) := fun D c V h => by
    have h1 := tgB_of htq (g := G) (by omega)
    have h2 := quantI_any D c Q G V h (by omega)
    have h3 : quantF Q G = Q := by
      unfold quantF
      rw [if_pos h1]
      conv => rhs; rw [← List.map_id Q]
      refine List.map_congr_left (fun x hx => ?_)
      rw [hQ] at hx
      obtain ⟨t, _, rfl⟩ := List.mem_map.1 hx
      exact near_near hG1.1
    rw [h1, h3, hql] at h2
    exact h2.mono fun _ _ h => h.qm hql
  have D3 : Hid (∀ V : World, Ext w2 V → Calls Try.prog 14 #[.slice B m d] V fun e w' => e = .returned (.bool true) ∧ Ext V w') := fun V he => by
    have := timesI_any B d ys V (OY2.out.ext he).rd (by have := HM.out; omega)
    rwa [hty, ← HM.out] at this
  have D4 : Hid (∀ (D : Option Addr) (c : Nat) (V : World), RdI V D Q → Calls Try.prog 14 #[.slice D m c] V fun e w' => e = .returned (.bool true) ∧ Ext V w') := fun D c V h => by
    have := timesI_any D c Q V h (by omega)
    rwa [htq, hql] at this
  have D5 : Hid (∀ (Z : List Int) (D E : Option Addr) (c e : Nat) (V : World), Z.length = m → RdI V D Z → RdI V E Z → Calls Try.prog 37 #[.slice D m c, .slice E m e] V fun e w' => e = .returned (.bool true) ∧ Ext V w') := fun Z D E c e V hz h1 h2 => by
    have := lsame_any D E c e Z Z V h1 h2 (by omega) rfl
    rwa [hz] at this
  have HQ := Lib.hid hQ
  have HQL := Lib.hid hql
  clear hQ hty htq hql
  go_wp2_with fail
  try rw [hG']
  clear hG' ha
  refine (D1.out _ (Ext.refl _)).mono ?_
  rintro e w3 ⟨AQ, cQ, rfl, oq, e3⟩
  have X3 := Lib.hid e3
  have OQ := Lib.hid oq
  clear oq e3
  go_wp2_with fail
  refine (D2.out AQ cQ _ OQ.out.rd).mono ?_
  rintro e w4 ⟨AR, cR, rfl, oR, e4⟩
  have X4 := Lib.hid (X3.out.trans e4)
  have OQ4 := Lib.hid (OQ.out.ext e4)
  have OR := Lib.hid oR
  clear oR e4 X3 OQ
  go_wp2_with fail
  refine (D3.out _ X4.out).mono ?_
  rintro e w5 ⟨rfl, e5⟩
  have X5 := Lib.hid (X4.out.trans e5)
  have OQ5 := Lib.hid (OQ4.out.ext e5)
  have OR5 := Lib.hid (OR.out.ext e5)
  clear e5 X4 OQ4 OR
  go_wp2_with fail
  refine (D5.out Q AR AQ cR cQ _ HQL.out OR5.out.rd OQ5.out.rd).mono ?_
  rintro e w6 ⟨rfl, e6⟩
  have X6 := Lib.hid (X5.out.trans e6)
  have OQ6 := Lib.hid (OQ5.out.ext e6)
  clear e6 X5 OQ5 OR5
  go_wp2_with fail
  refine (D4.out AQ cQ _ OQ6.out.rd).mono ?_
  rintro e w7 ⟨rfl, e7⟩
  have X7 := Lib.hid (X6.out.trans e7)
  have OQ7 := Lib.hid (OQ6.out.ext e7)
  clear e7 X6 OQ6
  go_wp2_with fail
  obtain ⟨ds, hds⟩ : ∃ ds, ds = ys.map fun x => distF x G := ⟨_, rfl⟩
  have HDS := Lib.hid hds
  clear hds
  go_loopw [9, 10, 84] (fun s mx i wr => ∃ (k : Nat) (S M : Int), k ≤ m ∧ i = .int .i64 k ∧ s = .int .i64 S ∧ mx = .int .i64 M ∧ (0 ≤ S ∧ S ≤ 1000 * k) ∧ (0 ≤ M ∧ M ≤ 1000) ∧ Hid (S = (ds.take k).sum) ∧ Hid (M = maxF (ds.take k)) ∧ Hid (Ext w7 wr)) (fun _ _ i _ => m - (intOf i).toNat)
  case atStart => exact ⟨0, 0, 0, Nat.zero_le _, rfl, rfl, rfl, by omega, by omega, rfl, rfl, Ext.refl w7⟩
  case round =>
    obtain ⟨k, S, M, hk, rfl, rfl, rfl, hS, hMM, HS, HMX, HE⟩ := hrel
    by_cases hlt : k < m
    · have hkx : k < ys.length := by rw [← HM.out]; exact hlt
      have hkq : k < Q.length := by rw [HQL.out]; exact hlt
      have HX := Lib.hid (X7.out.trans HE.out)
      obtain ⟨b1, o1, hA1, hc1⟩ := (OY2.out.ext HX.out).rd.at_ k hkx
      subst hA1
      obtain ⟨b2, o2, hA2, hc2⟩ := (OQ7.out.ext HE.out).rd.at_ k hkq
      subst hA2
      obtain ⟨t, ht⟩ : ∃ t, t = ys.getD k 0 := ⟨_, rfl⟩
      obtain ⟨q, hq⟩ : ∃ q, q = Q.getD k 0 := ⟨_, rfl⟩
      rw [← ht] at hc1
      rw [← hq] at hc2
      have htb : 0 ≤ t ∧ t ≤ 1000 := by rw [ht]; exact HOK.out.2.1 _ (getD_mem0 hkx)
      have hqt : q = nearF t G := by rw [hq, HQ.out, getD_map _ ys k hkx, ← ht]
      have hnd := near_dist (t := t) hG1.1
      have hnn := near_nonneg hG1.1 htb.1
      have hdv := near_dvd t G
      have hdk : ds.getD k 0 = distF t G := by rw [HDS.out, getD_map _ ys k hkx, ← ht]
      obtain ⟨D, hD⟩ : ∃ D, D = distF t G := ⟨_, rfl⟩
      have hDe : max (t - q) (q - t) = D := by rw [hD, hqt]; rfl
      have hkd : k < ds.length := by rw [HDS.out, List.length_map]; exact hkx
      have HSN : Hid (S + D = (ds.take (k + 1)).sum) := by rw [take_snoc ds k hkd, List.sum_append, ← HS.out, hdk, ← hD]; simp [Hid]
      have HMN : Hid (max M D = maxF (ds.take (k + 1))) := by rw [take_snoc ds k hkd, maxF_snoc, ← HMX.out, hdk, ← hD]; exact rfl
      have CNT : Hid (∀ V : World, Calls Try.prog 38 #[.int .i64 t, .int .i64 G] V fun e w' => e = .returned (.int .i64 q) ∧ V = w') := fun V => by
        have h1 := tickI_any t G V
        have h2 : tickF t G = q := by unfold tickF; rw [if_pos ⟨inB_iff.2 (by omega), inB_iff.2 (by omega)⟩, hqt]
        rwa [h2] at h1
      rw [← hqt] at hnd hnn hdv
      have hDb : 0 ≤ D ∧ 2 * D ≤ G := by rw [← hDe]; omega
      have k1 : wrap64 (t - q) = t - q := IntWalk.wrap64_in _ (by omega)
      have k2 : wrap64 (q - t) = q - t := IntWalk.wrap64_in _ (by omega)
      have k3 : q.tmod G = 0 := by rw [Int.tmod_eq_emod_of_nonneg hnn]; exact hdv
      have k4 : wrap64 (2 * D) = 2 * D := IntWalk.wrap64_in _ (by omega)
      have k5 : decide (G < 2 * D) = false := decide_eq_false (by omega)
      have HK := Lib.hid (And.intro k3 (And.intro k4 (And.intro k5 hDe)))
      have hqb : 0 ≤ q ∧ q ≤ 2000 := by omega
      clear ht hq hqt hdv hdk hD hDe hkd hkx hkq k3 k4 k5 hnd hnn
      go_wp2_with fail
      go_quiet (fail)
      obtain ⟨k3, k4, k5, hDe⟩ := HK.out
      rw [hDe]
      clear hDe k1 k2
      obtain ⟨W1, hW1⟩ : ∃ W1, W1 = wr.drewN nq := ⟨_, rfl⟩
      have HX1 : Hid (Ext wr W1) := by rw [hW1]; exact (Ext.refl _).drewN _
      have hc3 := HX1.out.cell hc2
      rw [← hW1]
      clear hW1 hc1 hc2
      go_wp2_with fail
      go_quiet ((go_at_call 38; exact quiet_same (CNT.out _)))
      clear k3 k4 k5 hc3 CNT HK
      have HE2 := Lib.hid ((HE.out.trans HX1.out).drewN nq)
      obtain ⟨W2, hW2⟩ : ∃ W2, W2 = W1.drewN nq := ⟨_, rfl⟩
      rw [← hW2] at HE2 ⊢
      clear hW2
      go_wp2_with fail
      go_roundw
      case rel => exact ⟨k + 1, S + D, max M D, by omega, by go_num, rfl, rfl, by omega, by omega, HSN.out, HMN.out, HE2.out⟩
      case measure => simp [intOf]; omega
    · obtain rfl : k = m := by omega
      have HST : Hid (S = ds.sum) := by rw [HS.out, List.take_of_length_le (by rw [HDS.out, List.length_map, ← HM.out]; exact Nat.le_refl _)]; exact rfl
      have HMT : Hid (M = maxF ds) := by rw [HMX.out, List.take_of_length_le (by rw [HDS.out, List.length_map, ← HM.out]; exact Nat.le_refl _)]; exact rfl
      clear HS HMX D3 D4
      obtain ⟨Hf, hHf⟩ : ∃ Hf, Hf = ys.map (partF G 50) := ⟨_, rfl⟩
      obtain ⟨Sh, hSh⟩ : ∃ Sh, Sh = ys.map (· + G) := ⟨_, rfl⟩
      obtain ⟨Lt, hLt⟩ : ∃ Lt, Lt = Q.map (· + G) := ⟨_, rfl⟩
      have hHl : Hf.length = k := by rw [hHf, List.length_map]; exact HM.out.symm
      have hSl : Sh.length = k := by rw [hSh, List.length_map]; exact HM.out.symm
      have hLl : Lt.length = k := by rw [hLt, List.length_map]; exact HQL.out
      have hyl : ys.length = k := HM.out.symm
      have hty := okTimes_B HOK.out
      have htg := tgB_of hty (g := G) (by omega)
      have hts : timesB Sh = true := by rw [hSh]; exact okTimes_map HOK.out _ (fun s t h => by omega) (fun x h0 h1 => by omega)
      have hcx : ∀ V : World, Ext w7 V → Ext w2 V := fun V he => X7.out.trans he
      have F1 : Hid (∀ V : World, Ext w7 V → Calls Try.prog 21 #[.slice B k d, .int .i64 G, .int .i64 50] V (RetQm V Hf k)) := fun V he => by
        have h2 := pqI_any B d ys G 50 V (OY2.out.ext (hcx V he)).rd (by omega)
        have h1 : pqB ys G 50 = true := by unfold pqB; rw [htg]; rfl
        have h3 : pqF ys G 50 = Hf := by unfold pqF; rw [if_pos h1, hHf]
        rw [h1, h3, hyl] at h2
        exact h2.mono fun _ _ h => h.qm hHl
      have F2 : Hid (∀ V : World, Ext w7 V → Calls Try.prog 21 #[.slice B k d, .int .i64 G, .int .i64 0] V (RetQm V ys k)) := fun V he => by
        have h2 := pqI_any B d ys G 0 V (OY2.out.ext (hcx V he)).rd (by omega)
        have h1 : pqB ys G 0 = true := by unfold pqB; rw [htg]; rfl
        have h3 : pqF ys G 0 = ys := by
          unfold pqF
          rw [if_pos h1]
          conv => rhs; rw [← List.map_id ys]
          exact List.map_congr_left fun x _ => part_zero G x
        rw [h1, h3, hyl] at h2
        exact h2.mono fun _ _ h => h.qm hyl
      have F3 : Hid (∀ V : World, Ext w7 V → Calls Try.prog 21 #[.slice B k d, .int .i64 G, .int .i64 100] V (RetQm V Q k)) := fun V he => by
        have h2 := pqI_any B d ys G 100 V (OY2.out.ext (hcx V he)).rd (by omega)
        have h1 : pqB ys G 100 = true := by unfold pqB; rw [htg]; rfl
        have h3 : pqF ys G 100 = Q := by
          unfold pqF
          rw [if_pos h1, HQ.out]
          exact List.map_congr_left fun x _ => part_full G x
        rw [h1, h3, hyl] at h2
        exact h2.mono fun _ _ h => h.qm HQL.out
      have F4 : Hid (∀ V : World, Ext w7 V → Calls Try.prog 27 #[.slice B k d, .int .i64 G] V (RetQm V Sh k)) := fun V he => by
        have h2 := shI_any B d ys G V (OY2.out.ext (hcx V he)).rd (by omega)
        have h1 : shB ys G = true := by unfold shB; rw [hty, ← hSh, hts, inB_iff.2 (by omega)]; rfl
        have h3 : shF ys G = Sh := by unfold shF; rw [if_pos h1, hSh]
        rw [h1, h3, hyl] at h2
        exact h2.mono fun _ _ h => h.qm hSl
      have F5 : Hid (∀ (D : Option Addr) (c : Nat) (V : World), RdI V D Sh → Calls Try.prog 25 #[.slice D k c, .int .i64 G] V (RetQm V Lt k)) := fun D c V h => by
        have h1 := tgB_of hts (g := G) (by omega)
        have h2 := quantI_any D c Sh G V h (by omega)
        have h3 : quantF Sh G = Lt := by
          unfold quantF
          rw [if_pos h1, hSh, hLt, HQ.out, List.map_map, List.map_map]
          exact List.map_congr_left fun x _ => near_add hG1.1
        rw [h1, h3, hSl] at h2
        exact h2.mono fun _ _ h => h.qm hLl
      have F6 : Hid (∀ V : World, Ext w7 V → Calls Try.prog 19 #[.slice B k d, .int .i64 G] V fun e w' => e = .returned (.int .i64 S) ∧ Ext V w') := fun V he => by
        have h2 := qeI_any B d ys G V (OY2.out.ext (hcx V he)).rd (by omega)
        have h3 : qeF ys G = S := by unfold qeF; rw [if_pos htg, HST.out, HDS.out]
        rwa [h3, hyl] at h2
      have F7 : Hid (∀ V : World, Ext w7 V → Calls Try.prog 17 #[.slice B k d, .int .i64 G] V fun e w' => e = .returned (.int .i64 M) ∧ Ext V w') := fun V he => by
        have h2 := meI_any B d ys G V (OY2.out.ext (hcx V he)).rd (by omega)
        have h3 : meF ys G = M := by unfold meF; rw [if_pos htg, HMT.out, HDS.out]
        rwa [h3, hyl] at h2
      have HHF := Lib.hid hHf
      have HLT := Lib.hid hLt
      have HHL := Lib.hid hHl
      have HLL := Lib.hid hLl
      have HYL := Lib.hid hyl
      clear hHf hSh hLt hHl hSl hLl hyl hty htg hts hcx
      go_wp2_with fail
      refine (F1.out _ HE.out).mono ?_
      rintro e v1 ⟨AH, cH, rfl, oH, e1⟩
      have OH := Lib.hid oH
      have Y1 := Lib.hid (HE.out.trans e1)
      clear oH e1 HE
      go_wp2_with fail
      refine (F2.out _ Y1.out).mono ?_
      rintro e v2 ⟨AN, cN, rfl, oN, e2⟩
      have ON := Lib.hid oN
      have OH2 := Lib.hid (OH.out.ext e2)
      have Y2 := Lib.hid (Y1.out.trans e2)
      clear oN e2 OH Y1
      go_wp2_with fail
      refine (F3.out _ Y2.out).mono ?_
      rintro e v3 ⟨AW, cW, rfl, oW, e3⟩
      have OW := Lib.hid oW
      have ON3 := Lib.hid (ON.out.ext e3)
      have OH3 := Lib.hid (OH2.out.ext e3)
      have Y3 := Lib.hid (Y2.out.trans e3)
      clear oW e3 ON OH2 Y2
      go_wp2_with fail
      refine (F4.out _ Y3.out).mono ?_
      rintro e v4 ⟨AS, cS, rfl, oS, e4⟩
      have OS := Lib.hid oS
      have OW4 := Lib.hid (OW.out.ext e4)
      have ON4 := Lib.hid (ON3.out.ext e4)
      have OH4 := Lib.hid (OH3.out.ext e4)
      have Y4 := Lib.hid (Y3.out.trans e4)
      clear oS e4 OW ON3 OH3 Y3
      go_wp2_with fail
      refine (F5.out AS cS _ OS.out.rd).mono ?_
      rintro e v5 ⟨AL, cL, rfl, oL, e5⟩
      have OL := Lib.hid oL
      have OW5 := Lib.hid (OW4.out.ext e5)
      have ON5 := Lib.hid (ON4.out.ext e5)
      have OH5 := Lib.hid (OH4.out.ext e5)
      have Y5 := Lib.hid (Y4.out.trans e5)
      clear oL e5 OW4 ON4 OH4 Y4 OS
      go_wp2_with fail
      refine (F6.out _ Y5.out).mono ?_
      rintro e v6 ⟨rfl, e6⟩
      have X6' := Lib.hid e6
      have Y6 := Lib.hid (Y5.out.trans e6)
      clear e6
      go_wp2_with fail
      refine (F7.out _ Y6.out).mono ?_
      rintro e v7 ⟨rfl, e7⟩
      have X7' := Lib.hid (X6'.out.trans e7)
      have Y7 := Lib.hid (Y6.out.trans e7)
      clear e7 X6' Y6
      go_wp2_with fail
      refine (D5.out ys AN B cN d _ HYL.out (ON5.out.ext X7'.out).rd (OY2.out.ext (X7.out.trans Y7.out)).rd).mono ?_
      rintro e v8 ⟨rfl, e8⟩
      have X8 := Lib.hid (X7'.out.trans e8)
      have Y8 := Lib.hid (Y7.out.trans e8)
      clear e8 X7' Y7
      go_wp2_with fail
      refine (D5.out Q AW AQ cW cQ _ HQL.out (OW5.out.ext X8.out).rd (OQ7.out.ext Y8.out).rd).mono ?_
      rintro e v9 ⟨rfl, e9⟩
      have X9 := Lib.hid (X8.out.trans e9)
      have Y9 := Lib.hid (Y8.out.trans e9)
      have OH9 := Lib.hid (OH5.out.ext X9.out)
      have OL9 := Lib.hid (OL.out.ext X9.out)
      have OQ9 := Lib.hid (OQ7.out.ext Y9.out)
      have OY9 := Lib.hid (OY2.out.ext (X7.out.trans Y9.out))
      have E9 := Lib.hid (E2.out.trans (X7.out.trans Y9.out))
      clear e9 X8 Y8 X9 OH5 OL OQ7 OY2 ON5 OW5 F1 F2 F3 F4 F5 F6 F7 D1 D2 D5 X7 Y9 E2
      go_wp2_with fail
      go_loopw [222] (fun i wr => ∃ j : Nat, j ≤ k ∧ i = .int .i64 j ∧ Hid (Ext v9 wr)) (fun i _ => k - (intOf i).toNat)
      case atStart => exact ⟨0, Nat.zero_le _, rfl, Ext.refl v9⟩
      case round =>
        obtain ⟨j, hj, rfl, HE⟩ := hrel
        by_cases hlt2 : j < k
        · have hjx : j < ys.length := by rw [HYL.out]; exact hlt2
          obtain ⟨b1, o1, hA1, hc1⟩ := (OY9.out.ext HE.out).rd.at_ j hjx
          subst hA1
          obtain ⟨b2, o2, hA2, hc2⟩ := (OQ9.out.ext HE.out).rd.at_ j (by rw [HQL.out]; exact hlt2)
          subst hA2
          obtain ⟨b3, o3, hA3, hc3⟩ := (OH9.out.ext HE.out).rd.at_ j (by rw [HHL.out]; exact hlt2)
          subst hA3
          obtain ⟨b4, o4, hA4, hc4⟩ := (OL9.out.ext HE.out).rd.at_ j (by rw [HLL.out]; exact hlt2)
          subst hA4
          obtain ⟨t, ht⟩ : ∃ t, t = ys.getD j 0 := ⟨_, rfl⟩
          obtain ⟨q, hq⟩ : ∃ q, q = Q.getD j 0 := ⟨_, rfl⟩
          obtain ⟨h, hh⟩ : ∃ h, h = Hf.getD j 0 := ⟨_, rfl⟩
          have htb : 0 ≤ t ∧ t ≤ 1000 := by rw [ht]; exact HOK.out.2.1 _ (getD_mem0 hjx)
          have hqt : q = nearF t G := by rw [hq, HQ.out, getD_map _ ys j hjx, ← ht]
          have hht : h = partF G 50 t := by rw [hh, HHF.out, getD_map _ ys j hjx, ← ht]
          have hlt3 : Lt.getD j 0 = q + G := by rw [HLT.out, getD_map _ Q j (by rw [HQL.out]; exact hlt2), ← hq]
          have hph := part_half G t
          have hnd := near_dist (t := t) hG1.1
          have hnn := near_nonneg hG1.1 htb.1
          rw [← hqt, ← hht] at hph
          rw [← hqt] at hnd hnn
          rw [← ht] at hc1
          rw [← hq] at hc2
          rw [← hh] at hc3
          rw [hlt3] at hc4
          have k1 : decide (h < min t q) = false := decide_eq_false (by omega)
          have k2 : decide (max t q < h) = false := decide_eq_false (by omega)
          have k3 : wrap64 (q + G) = q + G := IntWalk.wrap64_in _ (by omega)
          clear ht hq hh hqt hht hlt3 hph hnd hnn hjx
          go_wp2_with fail
          go_quiet (fail)
          clear k1 k2 k3 hc1 hc2 hc3 hc4
          have HE2 := Lib.hid (HE.out.drewN nq)
          obtain ⟨W2, hW2⟩ : ∃ W2, W2 = wr.drewN nq := ⟨_, rfl⟩
          rw [← hW2] at HE2 ⊢
          clear hW2
          go_wp2_with fail
          go_roundw
          case rel => exact ⟨j + 1, by omega, by go_num, HE2.out⟩
          case measure => simp [intOf]; omega
        · obtain rfl : j = k := by omega
          go_wp2_with fail
          refine (CN.out _ _ (by omega) (by omega) (E9.out.trans HE.out)).mono ?_
          rintro e u1 ⟨a2, rfl, ha2, he2⟩
          have Z1 := Lib.hid (HE.out.trans he2)
          clear he2 HE
          obtain ⟨n, hn⟩ : ∃ n : Nat, n = 1 + a2 % 16 := ⟨_, rfl⟩
          have hn1 : 1 ≤ n ∧ n ≤ 16 := by omega
          have hn' : (1 : Int) + (a2 : Int) % 16 = (n : Int) := by omega
          clear hn
          have hty := okTimes_B HOK.out
          have htg := tgB_of hty (g := G) (by omega)
          have htr : trB ys G n = true := by unfold trB; rw [htg, inB_iff.2 (by omega)]; rfl
          obtain ⟨zs, hzs⟩ : ∃ zs, zs = trP ys G n := ⟨_, rfl⟩
          have hzb : rhyB n zs = true := by rw [hzs]; unfold trP; exact rhyB_setL _ _ (by omega) (by omega)
          have hzl : zs.length ≤ j := by rw [hzs, ← HYL.out]; exact trP_len ys G n (by omega)
          have HZH : Hid (∀ i, i < j → zs.contains (Q.getD i 0 / G % (n : Int)) = true) := fun i hi => by
            have hiy : i < ys.length := by rw [HYL.out]; exact hi
            rw [hzs, HQ.out, getD_map _ ys i hiy]
            exact trP_has (by omega) (getD_mem0 hiy)
          have HQB : Hid (∀ i, i < j → 0 ≤ Q.getD i 0 ∧ Q.getD i 0 ≤ 2000 ∧ 0 ≤ Q.getD i 0 / G ∧ Q.getD i 0 / G ≤ 1000) := fun i hi => by
            have hiy : i < ys.length := by rw [HYL.out]; exact hi
            have h1 := HOK.out.2.1 _ (getD_mem0 hiy)
            rw [HQ.out, getD_map _ ys i hiy]
            have h2 := near_nonneg hG1.1 h1.1
            have h3 := near_dist (t := ys.getD i 0) hG1.1
            have h4 : nearF (ys.getD i 0) G / G = (ys.getD i 0 + (G - 1) / 2) / G := by unfold nearF; exact Int.mul_ediv_cancel _ (by omega)
            have h5 : (ys.getD i 0 + (G - 1) / 2) / G ≤ ys.getD i 0 := by
              refine Int.le_of_lt_add_one (Int.ediv_lt_of_lt_mul (by omega) ?_)
              have h6 : (ys.getD i 0 + 1) * 1 ≤ (ys.getD i 0 + 1) * G := Int.mul_le_mul_of_nonneg_left hG1.1 (by omega)
              have h7 : (ys.getD i 0 + 1) * G = ys.getD i 0 * G + G := by rw [Int.add_mul, Int.one_mul]
              have h8 : ys.getD i 0 * 1 ≤ ys.getD i 0 * G := Int.mul_le_mul_of_nonneg_left hG1.1 h1.1
              omega
            have h9 : 0 ≤ nearF (ys.getD i 0) G / G := Int.ediv_nonneg h2 (by omega)
            omega
          have F1 : Hid (∀ V : World, Ext v9 V → Calls Try.prog 31 #[.slice B j d, .int .i64 G, .int .i64 n] V (RetRB V ((n : Int), zs) true)) := fun V he => by
            have h2 := trI_any B d ys G n V (OY9.out.ext he).rd (by have := HYL.out; omega)
            have h3 : trF ys G n = ((n : Int), zs) := by unfold trF; rw [if_pos htr, hzs]
            rw [h3, htr, HYL.out] at h2
            exact h2
          have HZL := Lib.hid hzl
          have HZB := Lib.hid hzb
          have HTG := Lib.hid htg
          have HTY := Lib.hid hty
          clear htg htr hzs hzb hzl hty ha2
          go_wp2_with fail
          try rw [hn']
          clear hn'
          refine (F1.out _ Z1.out).mono ?_
          rintro e u2 ⟨v4, rfl, ⟨AR2, cR2, e4, AR3, cR3, e42, oR, _, _⟩, e5⟩
          injection e42 with e421 _ e423
          subst e4 e421 e423
          obtain ⟨lz, hlz⟩ : ∃ lz, lz = zs.length := ⟨_, rfl⟩
          have HXB : Hid (Ext u2 (u2.alloc (.cells #[.int .i64 n, .slice AR2 lz cR2] 35))) := (Ext.refl _).alloc _
          have HB4 := Lib.hid (Bx2.new u2 35 (.int .i64 n) (.slice AR2 lz cR2))
          have Z2 := Lib.hid (Z1.out.trans (e5.trans HXB.out))
          have OR2 := Lib.hid (oR.ext HXB.out)
          rw [← hlz]
          have HLZ := Lib.hid hlz
          obtain ⟨g9, hg9⟩ : ∃ g9, g9 = u2.heap.size := ⟨_, rfl⟩
          obtain ⟨u3, hu3⟩ : ∃ u3, u3 = (u2.alloc (.cells #[.int .i64 n, .slice AR2 lz cR2] 35)) := ⟨_, rfl⟩
          rw [← hu3] at HB4 Z2 OR2
          rw [← hg9] at HB4
          clear oR e5 hlz F1 Z1 HXB
          go_wp2_with fail
          rw [← hu3, ← hg9]
          clear hu3 hg9
          go_loopw [278] (fun i wr => ∃ p : Nat, p ≤ j ∧ i = .int .i64 p ∧ Hid (Ext u3 wr)) (fun i _ => j - (intOf i).toNat)
          case atStart => exact ⟨0, Nat.zero_le _, rfl, Ext.refl u3⟩
          case round =>
            obtain ⟨p, hp, rfl, HE⟩ := hrel
            have HB5 := Lib.hid (HB4.out.ext HE.out)
            obtain ⟨q0, q1, p0, p1⟩ := HB5.out.cells
            clear p0 p1
            by_cases hlt3 : p < j
            · have hpq : p < Q.length := by rw [HQL.out]; exact hlt3
              obtain ⟨b2, o2, hA2, hc2⟩ := (OQ9.out.ext (Z2.out.trans HE.out)).rd.at_ p hpq
              subst hA2
              have hqb := HQB.out p hlt3
              have hzh := HZH.out p hlt3
              obtain ⟨q, hq⟩ : ∃ q, q = Q.getD p 0 := ⟨_, rfl⟩
              rw [← hq] at hc2 hqb hzh
              obtain ⟨x, hx⟩ : ∃ x, x = q / G := ⟨_, rfl⟩
              rw [← hx] at hqb hzh
              have CH : Hid (∀ V : World, Ext u3 V → Calls Try.prog 39 #[.agg #[.int .i64 n, .slice AR2 lz cR2], .int .i64 x] V fun e w' => e = .returned (.bool true) ∧ Ext V w') := fun V he => by
                have h1 := hbI_any n AR2 cR2 zs x V (OR2.out.ext he).rd HZB.out (by omega)
                rwa [hzh, ← HLZ.out] at h1
              have k1 : q.tdiv G = x := by rw [hx]; exact Int.tdiv_eq_ediv_of_nonneg hqb.1
              have k2 : wrap64 x = x := IntWalk.wrap64_in _ (by omega)
              have k3 : IntKind.i64.wrap x = x := IntWalk.i64_in _ (by omega)
              have k4 : ¬ G = 0 := by omega
              have hx' := hx.symm
              clear hq hx hzh hpq
              go_wp2_with fail
              go_region_held3 (fun V => V.cell? ⟨g9, 0, none⟩ = some (.int .i64 n) ∧ V.cell? ⟨g9, 1, none⟩ = some (.slice AR2 lz cR2))
                (first | exact ⟨q0, q1⟩ | exact ⟨Ext.cell e1 q0, Ext.cell e1 q1⟩)
                (first | (go_at_call 39; refine (CH.out (World.drew wr) HE.out.drew).mono ?_; rintro e V1 ⟨rfl, e1⟩))
              all_goals
                have HE2 := Lib.hid (HE.out.drew.trans e1)
                clear e1 q0 q1 k1 k2 k3 k4 hx' hc2
                try (go_wp2_with fail)
                go_roundw
                case rel => exact ⟨p + 1, by omega, by go_num, HE2.out⟩
                case measure => simp [intOf]; omega
            · obtain rfl : p = j := by omega
              go_wp2_with fail
              have HXA : Hid (Ext wr (wr.alloc (.cells #[.int .i64 G, .int .i64 1, .int .i64 7] 3))) := (Ext.refl _).alloc _
              have hbb : bgB ys [G, 1, 7] 0 = true := by
                unfold bgB
                rw [HTY.out, Bool.true_and, Bool.and_eq_true, Bool.and_eq_true]
                refine ⟨inB_iff.2 (by simp), by decide, allB_iff.2 fun x hx => ?_⟩
                simp only [List.mem_cons, List.not_mem_nil, or_false] at hx
                omega
              have hbf : bgF ys [G, 1, 7] 0 = if 0 < S then 1 else G := by
                unfold bgF
                rw [if_pos hbb]
                have h1 := best_three (xs := ys) G
                rw [← HDS.out, ← HST.out] at h1
                exact h1
              obtain ⟨be, hbe⟩ : ∃ be, be = bgF ys [G, 1, 7] 0 := ⟨_, rfl⟩
              have CBG : Hid (Calls Try.prog 29 #[.slice B p d, .slice (some ⟨wr.heap.size, 0, none⟩) 3 3, .int .i64 0] (wr.alloc (.cells #[.int .i64 G, .int .i64 1, .int .i64 7] 3)) fun e w' => e = .returned (.int .i64 be) ∧ Ext (wr.alloc (.cells #[.int .i64 G, .int .i64 1, .int .i64 7] 3)) w') := by
                have h1 := bgI_any B (some ⟨wr.heap.size, 0, none⟩) d 3 ys [G, 1, 7] 0 _ (OY9.out.ext (Z2.out.trans (HE.out.trans HXA.out))).rd (RdI.built wr [G, 1, 7]) (by have := HYL.out; omega) (by simp)
                rw [hbe]
                rw [HYL.out] at h1
                exact h1
              have CE1 : Hid (∀ V : World, Ext v9 V → Calls Try.prog 19 #[.slice B p d, .int .i64 1] V fun e w' => e = .returned (.int .i64 0) ∧ Ext V w') := fun V he => by
                have h2 := qeI_any B d ys 1 V (OY9.out.ext he).rd (by have := HYL.out; omega)
                have h3 : qeF ys 1 = 0 := by
                  unfold qeF
                  rw [if_pos (tgB_of HTY.out (by omega))]
                  have h4 : ∀ zs : List Int, (zs.map fun x => distF x 1).sum = 0 := by
                    intro zs
                    induction zs with
                    | nil => rfl
                    | cons y zs ih =>
                      rw [List.map_cons, List.sum_cons, ih]
                      unfold distF
                      rw [near_one]
                      omega
                  exact h4 ys
                rwa [h3, HYL.out] at h2
              have CCB : Hid (∀ V : World, Ext u3 V → Calls Try.prog 40 #[.agg #[.int .i64 n, .slice AR2 lz cR2]] V fun e w' => e = .returned (.int .i64 lz) ∧ Ext V w') := fun V he => by
                have h1 := cbeI_any n AR2 cR2 zs V (OR2.out.ext he).rd HZB.out
                rwa [← HLZ.out] at h1
              have hlzp : lz ≤ p := by rw [HLZ.out]; exact HZL.out
              rw [← hbe] at hbf
              refine CBG.out.mono ?_
              rintro e u4 ⟨rfl, e4⟩
              have Z4 := Lib.hid (HE.out.trans (HXA.out.trans e4))
              have HB6 := Lib.hid (HB4.out.ext Z4.out)
              clear e4 q0 q1 hbb hbe CBG HXA
              obtain ⟨q0, q1, p0, p1⟩ := HB6.out.cells
              by_cases hS0 : 0 < S
              · rw [if_pos hS0] at hbf
                subst hbf
                have hs2 : decide (0 < S) = true := decide_eq_true hS0
                by_cases hg1 : G = 1
                · have hg2 : (G == 1) = true := by simpa using hg1
                  have hg3 : ((1 : Int) == G) = true := by simp [hg1]
                  clear hg1
                  go_wp2_with fail
                  refine (CCB.out _ Z4.out).mono ?_
                  rintro e u5 ⟨rfl, e5⟩
                  have Z5 := Lib.hid (Z2.out.trans (Z4.out.trans e5))
                  clear e5 q0 q1 p0 p1
                  go_wp2_with fail
                  refine (CE1.out _ Z5.out).mono ?_
                  rintro e u6 ⟨rfl, e6⟩
                  have Z6 := Lib.hid (E9.out.trans (Z5.out.trans e6))
                  clear e6
                  go_wp2_with fail
                  go_ret
                  exact ⟨rfl, Z6.out⟩
                · have hg2 : (G == 1) = false := by simpa using hg1
                  have hg3 : ((1 : Int) == G) = false := by simp; omega
                  clear hg1
                  go_wp2_with fail
                  refine (CCB.out _ Z4.out).mono ?_
                  rintro e u5 ⟨rfl, e5⟩
                  have Z5 := Lib.hid (Z2.out.trans (Z4.out.trans e5))
                  clear e5 q0 q1 p0 p1
                  go_wp2_with fail
                  refine (CE1.out _ Z5.out).mono ?_
                  rintro e u6 ⟨rfl, e6⟩
                  have Z6 := Lib.hid (E9.out.trans (Z5.out.trans e6))
                  clear e6
                  go_wp2_with fail
                  go_ret
                  exact ⟨rfl, Z6.out⟩
              · rw [if_neg hS0] at hbf
                subst hbf
                have hs2 : decide (0 < S) = false := decide_eq_false hS0
                by_cases hg1 : be = 1
                · have hg2 : (be == 1) = true := by simpa using hg1
                  have hg3 : ((1 : Int) == be) = true := by simp [hg1]
                  clear hg1
                  go_wp2_with fail
                  refine (CCB.out _ Z4.out).mono ?_
                  rintro e u5 ⟨rfl, e5⟩
                  have Z5 := Lib.hid (Z2.out.trans (Z4.out.trans e5))
                  clear e5 q0 q1 p0 p1
                  go_wp2_with fail
                  refine (CE1.out _ Z5.out).mono ?_
                  rintro e u6 ⟨rfl, e6⟩
                  have Z6 := Lib.hid (E9.out.trans (Z5.out.trans e6))
                  clear e6
                  go_wp2_with fail
                  go_ret
                  exact ⟨rfl, Z6.out⟩
                · have hg2 : (be == 1) = false := by simpa using hg1
                  have hg3 : ((1 : Int) == be) = false := by simp; omega
                  clear hg1
                  go_wp2_with fail
                  refine (CCB.out _ Z4.out).mono ?_
                  rintro e u5 ⟨rfl, e5⟩
                  have Z5 := Lib.hid (Z2.out.trans (Z4.out.trans e5))
                  clear e5 q0 q1 p0 p1
                  go_wp2_with fail
                  refine (CE1.out _ Z5.out).mono ?_
                  rintro e u6 ⟨rfl, e6⟩
                  have Z6 := Lib.hid (E9.out.trans (Z5.out.trans e6))
                  clear e6
                  go_wp2_with fail
                  go_ret
                  exact ⟨rfl, Z6.out⟩
end Go.Proofs.Ytpiaeiihacobnaa
