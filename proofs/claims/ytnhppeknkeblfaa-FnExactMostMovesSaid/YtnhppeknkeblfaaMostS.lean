/- Contracts of MostMoves, of the reference, and of both at all arguments. -/
import Derived.Test.YtnhppeknkeblfaaMost
namespace Go.Proofs.Ytnhppeknkeblfaa
open Go.RowKit

/-- .. and of each one from the first. -/
def prS (n : Nat) (L : List (List Int)) (T : List (List Int)) : List Int := T.flatMap fun a => farF n (L.getD 0 []) a :: L.map (farF n a)
theorem prS_snoc (n : Nat) (L T : List (List Int)) (j : Nat) (h : j < T.length) : prS n L (T.take (j + 1)) = prS n L (T.take j) ++ ([farF n (L.getD 0 []) (T.getD j [])] ++ L.map (farF n (T.getD j []))) := by
  unfold prS
  rw [List.take_succ_eq_append_getElem h, List.flatMap_append]
  simp [List.getD, h]
theorem prS_mem (n : Nat) (L T : List (List Int)) (hm : ∀ z, z ∈ L ↔ z ∈ T) (x : Int) : x ∈ prS n L L ↔ x ∈ prL n T T := by
  unfold prS prL
  simp only [List.mem_flatMap, List.mem_cons, List.mem_map]
  constructor
  · rintro ⟨a, ha, rfl | ⟨b, hb, rfl⟩⟩
    · have h0 : L.getD 0 [] ∈ L := by
        cases L with
        | nil => simp at ha
        | cons z L => simp
      exact ⟨_, (hm _).1 h0, a, (hm _).1 ha, rfl⟩
    · exact ⟨a, (hm _).1 ha, b, (hm _).1 hb, rfl⟩
  · rintro ⟨a, ha, b, hb, rfl⟩
    exact ⟨a, (hm _).2 ha, Or.inr ⟨b, (hm _).2 hb, rfl⟩⟩

set_option maxRecDepth 20000 in
set_option maxHeartbeats 4000000 in
theorem mmS_good (n k : Nat) (w : World) (hn : 1 ≤ n ∧ n ≤ 8) (hk : k ≤ n) (h1 : inB n 1 8 = true) (h2 : inB k 0 n = true) :
    Calls Try.prog 12 #[.int .i64 n, .int .i64 k] w fun e w' => e = .returned (.int .i64 (mmN n k)) ∧ Ext w w' := by
  obtain ⟨N, hN⟩ : ∃ N, N = 2 ^ n := ⟨_, rfl⟩
  have hN2 : N ≤ 256 := by rw [hN]; exact Nat.pow_le_pow_right (n := 2) (by decide) hn.2
  have hshl : wrap64 (2 ^ n) = (N : Int) := by rw [hN]; exact shl_pow ⟨n, by omega⟩
  have CA : Hid (∀ (c : Nat) (W : World), c < N → Calls Try.prog 28 #[.int .i64 n, .int .i64 c] W (RetR W ((n : Int), atL n c))) := fun c W h => atS_any n c W ⟨hn.1, by omega⟩ (by omega)
  obtain ⟨zss, hzs⟩ : ∃ zss, zss = asL n k N := ⟨_, rfl⟩
  have hzl : zss.length ≤ 256 := by rw [hzs]; have h3 := asL_len n k N; omega
  have HZB : Hid (∀ z ∈ zss, rhyB n z = true ∧ z.length = k) := fun z hz => by
    rw [hzs] at hz
    obtain ⟨c, _, h3, h⟩ := (asL_iff _).1 hz
    exact ⟨by rw [h3]; exact atL_rhy (by omega) (by omega), h⟩
  obtain ⟨R, hR⟩ : ∃ R, R = mmN n k := ⟨_, rfl⟩
  obtain ⟨T, hT⟩ : ∃ T, T = rfL n k (fun _ => true) N N := ⟨_, rfl⟩
  have HRR : Hid (R = mxL (prL n T T)) := by rw [hR, hT, hN]; exact rfl
  have HSET : Hid (∀ x, x ∈ prS n zss zss ↔ x ∈ prL n T T) := prS_mem n zss T (fun z => by
    rw [hzs, hT, asL_iff, rfL_iff N (Nat.le_refl _)]
    constructor
    · rintro ⟨c, h3, h4⟩; exact ⟨c, by omega, h3, h4⟩
    · rintro ⟨c, _, h3, h4⟩; exact ⟨c, h3, h4⟩)
  have HZS := Lib.hid hzs
  rw [← hR]
  clear hN hR hT hzs
  go_enter Try.func12, Try.ntmps12
  go_wp2_with fail
  refine (l01In_any _ _ _ _).mono ?_
  rintro e w1 ⟨rfl, rfl⟩
  rw [h1]
  go_wp2_with fail
  refine (l01In_any _ _ _ _).mono ?_
  rintro e w1 ⟨rfl, rfl⟩
  rw [h2]
  clear h1 h2
  go_wp2_with fail
  go_loopw [6, 7] (fun o i wr => ∃ (s : Nat) (A : Option Addr) (c m : Nat) (es : List (Int × Option Addr × Nat × List Int)), s ≤ N ∧ i = .int .i64 s ∧ o = .slice A m c ∧ m ≤ s ∧ Hid (es.length = m) ∧ Hid (es.map (fun x : Int × Option Addr × Nat × List Int => (x.1, x.2.2.2)) = rsOf n (asL n k s)) ∧ Hid (OwQ wr w.heap.size A c es) ∧ Hid (InQ wr w.heap.size es) ∧ Hid (Ext w wr)) (fun _ i _ => N - (intOf i).toNat)
  case atStart => exact ⟨0, _, _, 0, [], by omega, rfl, rfl, Nat.le_refl _, rfl, rfl, OwQ.empty w, InQ.nil _ _, (Ext.refl w).alloc _⟩
  case round =>
    obtain ⟨s, A, c, m, es, hs, rfl, rfl, hms, HL, HZ, HO, HI, HE⟩ := hrel
    by_cases hlt : s < N
    · obtain ⟨z, hz⟩ : ∃ z, z = atL n s := ⟨_, rfl⟩
      have hzb : rhyB n z = true := by rw [hz]; exact atL_rhy (by omega) (by omega)
      have HNX : Hid (asL n k (s + 1) = if z.length = k then asL n k s ++ [z] else asL n k s) := by rw [asL, ← hz]; exact rfl
      have C2 := Lib.hid (CA.out s wr hlt)
      rw [← hz] at C2
      have hl24 : z.length ≤ 24 := by have := rhyB_len hzb; omega
      clear hz hzb CA
      go_wp2_with fail
      refine C2.out.mono ?_
      intro e w2 hret
      obtain ⟨D, d, rfl, o2, e2⟩ := hret.parts
      have HX2 : Hid (Ext wr (w2.alloc (.cells #[.int .i64 n, .slice D z.length d] 27))) := e2.alloc _
      have HB2 := Lib.hid (Bx2.new w2 27 (.int .i64 n) (.slice D z.length d))
      have HO2 := Lib.hid (o2.ext ((Ext.refl _).alloc (.cells #[.int .i64 n, .slice D z.length d] 27)))
      clear hret o2 e2
      obtain ⟨q0, q1, p0, p1⟩ := HB2.out.cells
      by_cases hlk : z.length = k
      · subst hlk
        have HN2 : Hid (asL n z.length (s + 1) = asL n z.length s ++ [z]) := by rw [HNX.out]; simp [Hid]
        have HWW := Lib.hid HE.out.size
        go_wp2_with (at_builtin; refine app_q w (w2.alloc (.cells #[.int .i64 n, .slice D z.length d] 27)) rfl _ _ rfl A c m es ((n : Int), D, d, z) (w2.heap.size + 1) rfl rfl (by simp) HL.out (HO.out.ext HX2.out) (HI.out.ext HX2.out) (HO2.out.lower HWW.out) (HE.out.trans HX2.out) (by omega) ?_; intro A2 c2 w4 h1 h2 h3; have HO4 := Lib.hid h1; have HI4 := Lib.hid h2; have HE4 := Lib.hid h3; clear h1 h2 h3)
        go_roundw
        case rel => exact ⟨s + 1, A2, c2, m + 1, es ++ [((n : Int), D, d, z)], by omega, by go_num, rfl, by omega, by rw [List.length_append, HL.out]; exact rfl, by rw [HN2.out, List.map_append, HZ.out]; unfold rsOf; rw [List.map_append]; exact rfl, HO4.out, HI4.out, HE4.out⟩
        case measure => (simp [intOf] <;> omega)
      · have HN2 : Hid (asL n k (s + 1) = asL n k s) := by rw [HNX.out, if_neg hlk]; exact rfl
        have hlk2 : ¬ ((z.length : Int) = (k : Int)) := by omega
        go_wp2_with fail
        go_roundw
        case rel => exact ⟨s + 1, A, c, m, es, by omega, by go_num, rfl, by omega, HL.out, by rw [HN2.out]; exact HZ.out, HO.out.ext HX2.out, HI.out.ext HX2.out, HE.out.trans HX2.out⟩
        case measure => (simp [intOf] <;> omega)
    · obtain rfl : s = N := by omega
      obtain ⟨hlen, hrow⟩ := row_at HO.out HI.out HZ.out
      rw [← HZS.out] at hlen hrow
      have HROW := Lib.hid hrow
      have hmz : m = zss.length := by rw [← HL.out, hlen]
      rw [← hmz] at hzl HROW
      have HM := Lib.hid hmz
      have HEW := Lib.hid HE.out
      clear hlen hrow hmz HO HI HZ HL HE CA HZS
      obtain ⟨W, hW⟩ : ∃ W, W = wr := ⟨_, rfl⟩
      rw [← hW] at HROW HEW ⊢
      clear hW
      go_wp2_with fail
      try rw [hshl]
      clear hshl
      go_loopw [5, 43] (fun o i wr => ∃ (j : Nat) (M : Int), j ≤ m ∧ i = .int .i64 j ∧ o = .int .i64 M ∧ Hid (IsMx M (prS n zss (zss.take j))) ∧ Hid (Ext W wr)) (fun _ i _ => m - (intOf i).toNat)
      case atStart => exact ⟨0, 0, Nat.zero_le _, rfl, rfl, IsMx.nil, Ext.refl W⟩
      case round =>
        obtain ⟨j, M, hj, rfl, rfl, HMX, HE⟩ := hrel
        by_cases hlt : j < m
        · obtain ⟨b, o, D, d, hA, z0, z1, hrd⟩ := HROW.out wr HE.out j hlt
          subst hA
          obtain ⟨z, hz⟩ : ∃ z, z = zss.getD j [] := ⟨_, rfl⟩
          rw [← hz] at z1 hrd
          have HRD := Lib.hid hrd
          have HZ : Hid (rhyB n z = true ∧ z.length = k) := HZB.out z (by rw [hz]; exact getD_memL (by rw [← HM.out]; exact hlt))
          have HZE := Lib.hid hz
          have HX1 : Hid (Ext W (wr.alloc (.cells #[.int .i64 n, .slice D z.length d] 27))) := HE.out.alloc _
          have HP1 := Lib.hid (Bx2.new wr 27 (.int .i64 n) (.slice D z.length d))
          have HR1 : Hid (RdI (wr.alloc (.cells #[.int .i64 n, .slice D z.length d] 27)) D z) := HRD.out.ext ((Ext.refl _).alloc _)
          have HWL : Hid (Ext wr (wr.alloc (.cells #[.int .i64 n, .slice D z.length d] 27))) := (Ext.refl _).alloc _
          clear hrd hz
          obtain ⟨b9, o9, D9, d9, hA9, x0, x1, hrd9⟩ := HROW.out wr HE.out 0 (by omega)
          injection hA9 with hA9
          injection hA9 with hA9 hA8 _
          subst hA9 hA8
          have hm0 : 0 < m := by omega
          obtain ⟨y9, hy9⟩ : ∃ y9, y9 = zss.getD 0 [] := ⟨_, rfl⟩
          rw [← hy9] at x1 hrd9
          have HY9 : Hid (rhyB n y9 = true ∧ y9.length = k) := HZB.out y9 (by rw [hy9]; exact getD_memL (by rw [← HM.out]; exact hm0))
          have HRD9 := Lib.hid hrd9
          obtain ⟨g, hg⟩ : ∃ g, g = farF n y9 z := ⟨_, rfl⟩
          have CG : Hid (∀ V : World, Ext wr V → Calls Try.prog 22 #[.agg #[.int .i64 n, .slice D9 y9.length d9], .agg #[.int .i64 n, .slice D z.length d]] V fun e w' => e = .returned (.int .i64 g) ∧ Ext V w') := fun V he => by rw [hg]; exact farS_any n n D9 D d9 d y9 z V (HRD9.out.ext he) (HRD.out.ext he) HY9.out.1 HZ.out.1 (by rw [HZ.out.2, HY9.out.2])
          have HGE : Hid (g = farF n (zss.getD 0 []) (zss.getD j [])) := by rw [hg, hy9, HZE.out]; exact rfl
          have x0' : wr.cell? ⟨b, o, none⟩ = some (.int .i64 n) := by simpa using x0
          have x1' : wr.cell? ⟨b, o + 1, none⟩ = some (.slice D9 y9.length d9) := by simpa using x1
          have HX0 := Lib.hid (And.intro x0' x1')
          clear hrd9 hy9 hg x0 x1 x0' x1'
          go_wp2_with fail
          clear z0 z1
          obtain ⟨V0, hV0⟩ : ∃ V0, V0 = (wr.alloc (.cells #[.int .i64 n, .slice D z.length d] 27)) := ⟨_, rfl⟩
          rw [← hV0] at HX1 HP1 HR1 HWL ⊢
          clear hV0
          obtain ⟨q0, q1, p0, p1⟩ := HP1.out.cells
          have q2 := Ext.cell HWL.out HX0.out.1
          have q3 := Ext.cell HWL.out HX0.out.2
          clear p0 p1
          go_region_held3 (fun V => V.cell? ⟨wr.heap.size, 0, none⟩ = some (.int .i64 n) ∧ V.cell? ⟨wr.heap.size, 1, none⟩ = some (.slice D z.length d) ∧ V.cell? ⟨b, o, none⟩ = some (.int .i64 n) ∧ V.cell? ⟨b, o + 1, none⟩ = some (.slice D9 y9.length d9))
            (first | exact ⟨q0, q1, q2, q3⟩ | exact ⟨Ext.cell e1 q0, Ext.cell e1 q1, Ext.cell e1 q2, Ext.cell e1 q3⟩)
            (first
              | (go_at_call 22; refine (CG.out (World.drew V0) HWL.out.drew).mono ?_; rintro e w1 ⟨rfl, e1⟩))
          have HX2 := Lib.hid (HX1.out.drew.trans e1)
          have HP2 : Hid (Bx2 w1 wr.heap.size 27 (.int .i64 n) (.slice D z.length d)) := Bx2.ext (w := World.drew V0) HP1.out e1
          have HR2 : Hid (RdI w1 D z) := RdI.ext (w := World.drew V0) HR1.out e1
          have HMG : Hid (IsMx (max M g) (prS n zss (zss.take j) ++ [g])) := HMX.out.snoc
          clear e1 q0 q1 q2 q3 HX1 HP1 HR1 HWL
          go_wp2_with fail
          go_loopw [5, 56] (fun o i ws => ∃ (i2 : Nat) (M2 : Int), i2 ≤ m ∧ i = .int .i64 i2 ∧ o = .int .i64 M2 ∧ Hid (IsMx M2 (prS n zss (zss.take j) ++ [g] ++ (zss.take i2).map (farF n z))) ∧ Hid (Bx2 ws wr.heap.size 27 (.int .i64 n) (.slice D z.length d)) ∧ Hid (RdI ws D z) ∧ Hid (Ext W ws)) (fun _ i _ => m - (intOf i).toNat)
          case atStart => exact ⟨0, max M g, Nat.zero_le _, rfl, by first | rfl | simp, by rw [List.take_zero, List.map_nil, List.append_nil]; exact HMG.out, HP2.out, HR2.out, HX2.out⟩
          case round =>
            clear HX2 HP2 HR2 HRD
            obtain ⟨i2, M2, hi2, rfl, rfl, HMY, HP, HRD, HE2⟩ := hrel
            by_cases hlt2 : i2 < m
            · obtain ⟨b2, o2, D2, d2, hA2, y0, y1, hrd2⟩ := HROW.out wr HE2.out i2 hlt2
              injection hA2 with hA2
              injection hA2 with hA2 hA3 _
              subst hA2 hA3
              obtain ⟨y, hy⟩ : ∃ y, y = zss.getD i2 [] := ⟨_, rfl⟩
              rw [← hy] at y1 hrd2
              have HY : Hid (rhyB n y = true ∧ y.length = k) := HZB.out y (by rw [hy]; exact getD_memL (by rw [← HM.out]; exact hlt2))
              have HRD2 := Lib.hid hrd2
              obtain ⟨f, hf⟩ : ∃ f, f = farF n z y := ⟨_, rfl⟩
              have CD : Hid (∀ V : World, Ext wr V → Calls Try.prog 22 #[.agg #[.int .i64 n, .slice D z.length d], .agg #[.int .i64 n, .slice D2 y.length d2]] V fun e w' => e = .returned (.int .i64 f) ∧ Ext V w') := fun V he => by rw [hf]; exact farS_any n n D D2 d d2 z y V (HRD.out.ext he) (HRD2.out.ext he) HZ.out.1 HY.out.1 (by rw [HZ.out.2, HY.out.2])
              have HNX : Hid (IsMx (max M2 f) (prS n zss (zss.take j) ++ [g] ++ (zss.take (i2 + 1)).map (farF n z))) := by
                rw [map_snoc _ _ _ (by rw [← HM.out]; exact hlt2), ← List.append_assoc, ← hy, ← hf]
                exact HMY.out.snoc
              have HA : Hid (Ext wr (wr.alloc (.cells #[.int .i64 n, .slice D2 y.length d2] 27))) := (Ext.refl _).alloc _
              have HP2 := Lib.hid (HP.out.ext HA.out)
              have HQ2 := Lib.hid (Bx2.new wr 27 (.int .i64 n) (.slice D2 y.length d2))
              clear hy hrd2 hf
              obtain ⟨q0, q1, p0, p1⟩ := HP2.out.cells
              obtain ⟨q2, q3, p2, p3⟩ := HQ2.out.cells
              go_wp2_with fail
              refine (CD.out _ HA.out).mono ?_
              rintro e w3 ⟨rfl, e3⟩
              have HX3 := Lib.hid (HA.out.trans e3)
              clear e3 q0 q1 p0 p1 q2 q3 p2 p3 y0 y1
              go_wp2_with fail
              go_roundw
              case rel => exact ⟨i2 + 1, max M2 f, by omega, by go_num, by first | rfl | simp, HNX.out, HP.out.ext HX3.out, HRD.out.ext HX3.out, HE2.out.trans HX3.out⟩
              case measure => simp [intOf]; omega
            · obtain rfl : i2 = m := by omega
              have HNX : Hid (IsMx M2 (prS n zss (zss.take (j + 1)))) := by
                rw [prS_snoc n zss zss j (by rw [← HM.out]; exact hlt), ← HGE.out, ← HZE.out, ← List.append_assoc]
                have h3 := HMY.out
                rw [show zss.take i2 = zss from List.take_of_length_le (by rw [← HM.out]; exact Nat.le_refl _)] at h3
                exact h3
              go_wp2_with fail
              go_roundw
              case rel => exact ⟨j + 1, M2, by omega, by go_num, rfl, HNX.out, HE2.out⟩
              case measure => simp [intOf]; omega
        · obtain rfl : j = m := by omega
          have HV : Hid (M = R) := by
            have h3 := HMX.out
            rw [show zss.take j = zss from List.take_of_length_le (by rw [← HM.out]; exact Nat.le_refl _)] at h3
            rw [HRR.out]
            exact h3.uniq (mxL_is _) HSET.out
          go_wp2_with fail
          go_ret
          exact ⟨ret_int HV.out, HEW.out.trans HE.out⟩

set_option maxHeartbeats 1000000 in
theorem mmI_any (n k : Int) (w : World) : Calls Try.prog 13 #[.int .i64 n, .int .i64 k] w fun e w' => e = .returned (.int .i64 (mmF n k)) ∧ Ext w w' := by
  by_cases h1 : inB n 1 8 = true
  · by_cases h2 : inB k 0 n = true
    · have HV : Hid (mmF n k = mmN n.toNat k.toNat) := by unfold mmF okMM; rw [h1, h2]; exact rfl
      rw [HV.out]
      have g1 := inB_iff.1 h1
      have g2 := inB_iff.1 h2
      obtain ⟨N, rfl⟩ := Int.eq_ofNat_of_zero_le (show 0 ≤ n by omega)
      obtain ⟨K, rfl⟩ := Int.eq_ofNat_of_zero_le (show 0 ≤ k by omega)
      exact mmI_good N K w (by omega) (by omega) h1 h2
    · have h2 : inB k 0 n = false := by simpa using h2
      have HV : Hid (mmF n k = -1) := by unfold mmF okMM; rw [h1, h2]; exact rfl
      rw [HV.out]
      go_enter Try.func13, Try.ntmps13
      go_wp2_with fail
      refine (within_any _ _ _ _).mono ?_
      rintro e w1 ⟨rfl, rfl⟩
      rw [h1]
      go_wp2_with fail
      refine (within_any _ _ _ _).mono ?_
      rintro e w1 ⟨rfl, rfl⟩
      rw [h2]
      go_wp2_with fail
      go_ret
      exact ⟨rfl, Ext.refl _⟩
  · have h1 : inB n 1 8 = false := by simpa using h1
    have HV : Hid (mmF n k = -1) := by unfold mmF okMM; rw [h1]; exact rfl
    rw [HV.out]
    go_enter Try.func13, Try.ntmps13
    go_wp2_with fail
    refine (within_any _ _ _ _).mono ?_
    rintro e w1 ⟨rfl, rfl⟩
    rw [h1]
    go_wp2_with fail
    go_ret
    exact ⟨rfl, Ext.refl _⟩

set_option maxHeartbeats 1000000 in
theorem mmS_any (n k : Int) (w : World) : Calls Try.prog 12 #[.int .i64 n, .int .i64 k] w fun e w' => e = .returned (.int .i64 (mmF n k)) ∧ Ext w w' := by
  by_cases h1 : inB n 1 8 = true
  · by_cases h2 : inB k 0 n = true
    · have HV : Hid (mmF n k = mmN n.toNat k.toNat) := by unfold mmF okMM; rw [h1, h2]; exact rfl
      rw [HV.out]
      have g1 := inB_iff.1 h1
      have g2 := inB_iff.1 h2
      obtain ⟨N, rfl⟩ := Int.eq_ofNat_of_zero_le (show 0 ≤ n by omega)
      obtain ⟨K, rfl⟩ := Int.eq_ofNat_of_zero_le (show 0 ≤ k by omega)
      exact mmS_good N K w (by omega) (by omega) h1 h2
    · have h2 : inB k 0 n = false := by simpa using h2
      have HV : Hid (mmF n k = -1) := by unfold mmF okMM; rw [h1, h2]; exact rfl
      rw [HV.out]
      go_enter Try.func12, Try.ntmps12
      go_wp2_with fail
      refine (l01In_any _ _ _ _).mono ?_
      rintro e w1 ⟨rfl, rfl⟩
      rw [h1]
      go_wp2_with fail
      refine (l01In_any _ _ _ _).mono ?_
      rintro e w1 ⟨rfl, rfl⟩
      rw [h2]
      go_wp2_with fail
      go_ret
      exact ⟨rfl, Ext.refl _⟩
  · have h1 : inB n 1 8 = false := by simpa using h1
    have HV : Hid (mmF n k = -1) := by unfold mmF okMM; rw [h1]; exact rfl
    rw [HV.out]
    go_enter Try.func12, Try.ntmps12
    go_wp2_with fail
    refine (l01In_any _ _ _ _).mono ?_
    rintro e w1 ⟨rfl, rfl⟩
    rw [h1]
    go_wp2_with fail
    go_ret
    exact ⟨rfl, Ext.refl _⟩
end Go.Proofs.Ytnhppeknkeblfaa
