/- Contracts of weights, WeightsOf. -/
import Derived.Test.YtedfmjijemcpaaaMtO
import Derived.Test.YtedfmjijemcpaaaLay
import Derived.Test.YtedfmjijemcpaaaLawInts
namespace Go.Proofs.Ytedfmjijemcpaaa
open Go.RowKit

theorem wt_zero (xs : List Int) (n : Nat) : (madeCells #[Value.int .i64 0] n).toList = (wtL xs 0 n).map (Value.int .i64) := by
  rw [toList_madeCells_one]
  unfold wtL
  apply List.ext_getElem?
  intro j
  by_cases h : j < n
  · simp [wtK, h]
  · simp [h]
/-- The numbers of a layer. -/
theorem lay_nums {xs : List Int} (h : metB xs = true) (i : Nat) : ∃ K u N : Nat, prodF (xs.take (i + 1)) = (K : Int) ∧ unitF xs i = (u : Int) ∧ prodF xs = (N : Int) ∧ K * u = N ∧ 1 ≤ K ∧ 1 ≤ u ∧ K ≤ N ∧ N ≤ 24 ∧ ∀ j, j < K → ((evL K N).getD j 0 = ((j * u : Nat) : Int) ∧ j * u < N) := by
  obtain ⟨h1, h2, h3, h4⟩ := metB_iff h
  have a := prodF_pos (h2.take (i + 1))
  have b := unit_pos h2 i
  have m := unit_mul (xs := xs) i
  obtain ⟨K, hK⟩ := Int.eq_ofNat_of_zero_le (show 0 ≤ prodF (xs.take (i + 1)) by omega)
  obtain ⟨u, hu⟩ := Int.eq_ofNat_of_zero_le (show 0 ≤ unitF xs i by omega)
  obtain ⟨N, hN⟩ := Int.eq_ofNat_of_zero_le (show 0 ≤ prodF xs by omega)
  rw [hK] at a
  rw [hu] at b
  rw [hK, hu, hN, ← Int.natCast_mul] at m
  have m' : K * u = N := Int.ofNat.inj m
  have hK1 : 1 ≤ K := by omega
  have hu1 : 1 ≤ u := by omega
  have hKN : K ≤ N := by rw [← m']; exact Nat.le_mul_of_pos_right K hu1
  refine ⟨K, u, N, hK, hu, hN, m', hK1, hu1, hKN, by rw [hN] at h4; omega, fun j hj => ⟨?_, ?_⟩⟩
  · have e : (evL K N).getD j 0 = ((j * N / K : Nat) : Int) := by unfold evL; simp [List.getD, hj]
    rw [e, ← m', ← Nat.mul_assoc, Nat.mul_comm j K, Nat.mul_assoc, Nat.mul_div_cancel_left _ (by omega)]
  · rw [← m']
    exact Nat.mul_lt_mul_of_pos_right hj (by omega)
theorem field_beats (n : Int) (A : Option Addr) (l c : Nat) (w : World) : (Instr.field 29 (.agg #[.int .i64 n, .slice A l c]) 1).run Try.prog w = .ok (.slice A l c) w := by kernel_rfl
theorem evL_len (k n : Nat) : (evL k n).length = k := by simp [evL]

set_option maxHeartbeats 4000000 in
theorem weights_any (A : Option Addr) (c : Nat) (xs : List Int) (w : World) (hr : RdI w A xs) (hm : metB xs = true) (hcap : xs.length ≤ c) (hcm : c ≤ maxLen) :
    Calls Try.prog 30 #[.slice A xs.length c] w (RetI w (wtL xs xs.length (prodF xs).toNat)) := by
  obtain ⟨i0, hi, hz0, hz1, hz2⟩ := info_parts info_int
  have hmi := metB_iff hm
  obtain ⟨N, hN⟩ := Int.eq_ofNat_of_zero_le (show 0 ≤ prodF xs by omega)
  have HNN := Lib.hid hN
  have hN24 : 1 ≤ N ∧ N ≤ 24 := by rw [hN] at hmi; omega
  have CP : Hid (∀ V : World, Ext w V → Calls Try.prog 29 #[.slice A xs.length c] V fun e w' => e = .returned (.int .i64 N) ∧ V = w') := fun V h => by
    have := prodI_any A c xs V (hr.ext h) (by omega) hmi.2.1
    rwa [hN] at this
  have CQ : Hid (∀ (i : Nat) (V : World), i < xs.length → Ext w V → Calls Try.prog 29 #[.slice A (i + 1) c] V fun e w' => e = .returned (.int .i64 (prodF (xs.take (i + 1)))) ∧ V = w') := fun i V h1 h => by
    have := prodI_any A c (xs.take (i + 1)) V ((hr.ext h).take (i + 1) (by omega)) (by rw [List.length_take]; omega) (hmi.2.1.take _)
    rwa [List.length_take, Nat.min_eq_left (by omega)] at this
  rw [hN, Int.toNat_natCast]
  have HMT := Lib.hid hm
  have H27 := Lib.hid hmi.2.1
  obtain ⟨l, hll⟩ : ∃ l, l = xs.length := ⟨_, rfl⟩
  have HL := Lib.hid hll
  have hl5 : l ≤ 5 := by omega
  rw [← hll] at CP CQ hcap ⊢
  unfold maxLen at hcm
  clear hr hm hmi hN hll
  go_enter Try.func30, Try.ntmps30
  go_wp2_with fail
  refine (CP.out _ (Ext.refl w)).mono ?_
  rintro e w1 ⟨rfl, rfl⟩
  go_wp2_with (at_make; refine wpList_make_full _ rfl _ _ 23 rfl w.heap.size 3 i0 (.int .i64 0) 1 Try.underlying23 hi hz0 hz1 _ _ _ _ N rfl rfl rfl rfl ?b1 ?b2 ?b3 ?_)
  case b1 => rw [hz2]; omega
  case b2 => unfold maxLen; omega
  case b3 => exact Nat.le_refl _
  intro w1 hown hg
  have HO : Hid (w1.ownsRow w.heap.size 3 1 (.slice (some ⟨w.heap.size, 0, none⟩) N N) N ((wtL xs 0 N).map (Value.int .i64))) := by
    have h := hown
    rw [← wt_zero xs N]
    exact h
  have HE : Hid (Ext w w1) := (Ext.refl w).grown hg (by simp)
  clear hown hg
  go_wp2_with fail
  go_loopw [12] (fun i wr => ∃ k : Nat, k ≤ l ∧ i = .int .i64 k ∧ Hid (wr.ownsRow w.heap.size 3 1 (.slice (some ⟨w.heap.size, 0, none⟩) N N) N ((wtL xs k N).map (Value.int .i64))) ∧ Hid (Ext w wr)) (fun i _ => l - (intOf i).toNat)
  case atStart => exact ⟨0, Nat.zero_le _, rfl, HO, HE⟩
  case round =>
    clear HO HE
    obtain ⟨k, hk, rfl, HO, HE⟩ := hrel
    by_cases hlt : k < l
    · have hkx : k < xs.length := by rw [← HL.out]; exact hlt
      obtain ⟨K, u, N', hK, hu, hN', hKu, hK1, hu1, hKN, _, hev⟩ := lay_nums HMT.out k
      obtain rfl : N' = N := by have := HNN.out; rw [hN'] at this; exact Int.ofNat.inj this
      have C1 := Lib.hid (CQ.out k wr hlt HE.out)
      rw [hK] at C1
      have C2 : Hid (∀ V : World, Calls Try.prog 33 #[.int .i64 K, .int .i64 N'] V (RetR V ((N' : Int), evL K N'))) := fun V => layer_any K N' V hK1 hN24.2 hKN
      have HEV := Lib.hid hev
      have HU := Lib.hid hu
      have HKU := Lib.hid hKu
      have hc1 : (k : Int) + 1 ≤ c := by omega
      have hc2 : ((k : Int) + 1).toNat = k + 1 := by omega
      have HW0 : Hid (wr.heap.size > w.heap.size) := HO.out.lt _ rfl |>.2
      clear hkx hK hN' hev hu hKu
      go_wp2_with fail
      refine C1.out.mono ?_
      rintro e w2 ⟨rfl, rfl⟩
      go_wp2_with fail
      refine (C2.out _).mono ?_
      intro e w3 hret
      obtain ⟨B, d, rfl, ho, he⟩ := hret.parts
      have HO3 : Hid (w3.ownsRow w.heap.size 3 1 (.slice (some ⟨w.heap.size, 0, none⟩) N' N') N' ((wtJ xs k N' 0).map (Value.int .i64))) := by
        rw [wtJ_zero H27.out]
        exact HO.out.kept (he.grownBy none) (by simp [Value.ownBlock])
      have HE3 := Lib.hid (HE.out.trans he)
      have HB3 : Hid (OwI w3 (w.heap.size + 1) B d (evL K N')) := ho.lower HW0.out
      have HEL := Lib.hid (evL_len K N')
      rw [HEL.out]
      have hfb := field_beats (N' : Int) B K d w3
      clear hret ho he HO HE C1 C2 hc1 hc2
      go_wp2_with fail
      go_loopw [25] (fun i wq => ∃ j : Nat, j ≤ K ∧ i = .int .i64 j ∧ Hid (wq.ownsRow w.heap.size 3 1 (.slice (some ⟨w.heap.size, 0, none⟩) N' N') N' ((wtJ xs k N' j).map (Value.int .i64))) ∧ Hid (OwI wq (w.heap.size + 1) B d (evL K N')) ∧ Hid (Ext w wq)) (fun i _ => K - (intOf i).toNat)
      case atStart => exact ⟨0, Nat.zero_le _, rfl, HO3, HB3, HE3⟩
      case round =>
        clear HO3 HB3 HE3
        obtain ⟨j, hj, rfl, HOj, HBj, HEj⟩ := hrel
        by_cases hlt2 : j < K
        · obtain ⟨b, o, hB, hcb⟩ := HBj.out.rd.at_ j (by rw [HEL.out]; exact hlt2)
          obtain ⟨h1, h2⟩ := HEV.out j hlt2
          rw [h1] at hcb
          obtain ⟨q, hq⟩ : ∃ q, q = j * u := ⟨_, rfl⟩
          rw [← hq] at hcb h2
          have hqj : (q : Int) = (j : Int) * unitF xs k := by rw [hq, HU.out, Int.natCast_mul]
          have hfz := HOj.out.frozenAt q
          have hst := Lib.hid (HOj.out.stored q (.int .i64 (wtK xs k q + 1)))
          have e1 : ((wtJ xs k N' j).map (Value.int .i64)).set q (.int .i64 (wtK xs k q + 1)) = (wtJ xs k N' (j + 1)).map (Value.int .i64) := by
            rw [← List.map_set, wtJ_set H27.out k N' j q hqj h2]
          rw [e1] at hst
          have hcur := HOj.out.cellAt q (by omega)
          have hcur2 : wr.cell? ⟨w.heap.size, q, none⟩ = some (.int .i64 (wtK xs k q)) := by
            rw [hcur, List.getElem?_map]
            have h3 : (wtJ xs k N' j)[q]? = some (wtK xs k q) := by
              have h4 := wtJ_get (xs := xs) (i := k) (j := j) h2
              have h5 : ¬ ((q : Int) % unitF xs k = 0 ∧ (q : Int) / unitF xs k < (j : Int)) := by
                rintro ⟨_, h6⟩
                rw [hqj, Int.mul_ediv_cancel _ (by have := unit_pos H27.out k; omega)] at h6
                omega
              rw [if_neg h5, Int.add_zero] at h4
              have h7 : q < (wtJ xs k N' j).length := by rw [wtJ_len]; exact h2
              simp [List.getD, h7] at h4
              rw [List.getElem?_eq_getElem h7, h4]
            rw [h3]; rfl
          have hwb := wtK_bd xs (q : Int) k
          have hbne : b ≠ w.heap.size := by have := (HBj.out.lt _ hB).1; simp at this; omega
          have HNE : Hid (∀ ad, B = some ad → ad.block ≠ w.heap.size) := fun ad had => by have := (HBj.out.lt _ had).1; omega
          obtain ⟨v, hv⟩ : ∃ v, v = wtK xs k q := ⟨_, rfl⟩
          rw [← hv] at hcur2 hst hwb
          have HB2 := Lib.hid hB
          subst hB
          clear h1 hq hqj e1 hcur hv
          go_wp2_with fail
          go_roundw
          case rel => exact ⟨j + 1, by omega, by go_num, hst.out.1, HBj.out.setFar HNE.out _, HEj.out.setCell (by simp) _⟩
          case measure => simp [intOf]; omega
        · obtain rfl : j = K := by omega
          have hof := HOj.out
          rw [wtJ_end H27.out k N' j (by rw [HU.out, ← Int.natCast_mul, HKU.out])] at hof
          have HOF := Lib.hid hof
          clear hof HOj
          go_wp2_with fail
          go_roundw
          case rel => exact ⟨k + 1, by omega, by go_num, HOF.out, HEj.out⟩
          case measure => simp [intOf]; omega
    · obtain rfl : k = l := by omega
      go_wp2_with fail
      go_ret
      refine ⟨some ⟨w.heap.size, 0, none⟩, N, by rw [wtL_len]; rfl, ?_, HE.out⟩
      have h := HO.out
      unfold OwI
      rw [wtL_len]
      exact h

theorem wofI_any (A : Option Addr) (c : Nat) (xs : List Int) (w : World) (hr : RdI w A xs) (hm : metB xs = true) (hcap : xs.length ≤ c) (hcm : c ≤ maxLen) :
    Calls Try.prog 7 #[.slice A xs.length c] w (RetI w (wtL xs xs.length (prodF xs).toNat)) := by
  have hl := (metB_iff hm).1
  have C1 : Hid (Calls Try.prog 8 #[.slice A xs.length c] w fun e w' => e = .returned (.bool true) ∧ Ext w w') := by have := metI_any A c xs w hr (by omega); rwa [hm] at this
  have C2 : Hid (∀ V : World, Ext w V → Calls Try.prog 30 #[.slice A xs.length c] V (RetI V (wtL xs xs.length (prodF xs).toNat))) := fun V h => weights_any A c xs V (hr.ext h) hm hcap hcm
  obtain ⟨l, hll⟩ : ∃ l, l = xs.length := ⟨_, rfl⟩
  obtain ⟨W, hW⟩ : ∃ W, W = wtL xs xs.length (prodF xs).toNat := ⟨_, rfl⟩
  rw [← hW, ← hll] at C2
  rw [← hW]
  rw [← hll] at C1 ⊢
  clear hr hm hcap hcm hll hW hl
  go_enter Try.func7, Try.ntmps7
  go_wp2_with fail
  refine C1.out.mono ?_
  rintro e w1 ⟨rfl, he⟩
  have HE := Lib.hid he
  clear he
  go_wp2_with fail
  refine (C2.out _ HE.out).mono ?_
  rintro e w2 ⟨B, d, rfl, ho, he⟩
  have HO := Lib.hid (ho.lower HE.out.size)
  have HE2 := Lib.hid (HE.out.trans he)
  clear ho he
  go_wp2_with fail
  go_ret
  exact ⟨B, d, rfl, HO.out, HE2.out⟩

set_option maxHeartbeats 4000000 in
theorem wofS_any (A : Option Addr) (c : Nat) (xs : List Int) (w : World) (hr : RdI w A xs) (hm : metB xs = true) (hcap : xs.length ≤ c) (hcm : c ≤ maxLen) :
    Calls Try.prog 58 #[.slice A xs.length c] w (RetI w (wtL xs xs.length (prodF xs).toNat)) := by
  have hmi := metB_iff hm
  obtain ⟨N, hN⟩ := Int.eq_ofNat_of_zero_le (show 0 ≤ prodF xs by omega)
  have hN24 : 1 ≤ N ∧ N ≤ 24 := by rw [hN] at hmi; omega
  have CM : Hid (Calls Try.prog 62 #[.slice A xs.length c] w fun e w' => e = .returned (.bool true) ∧ w = w') := by have := metS_any A c xs w hr (by omega); rwa [hm] at this
  have CP : Hid (∀ V : World, Ext w V → Calls Try.prog 63 #[.slice A xs.length c] V fun e w' => e = .returned (.int .i64 N) ∧ V = w') := fun V h => by
    have := prodS_any A c xs V (hr.ext h) (by omega) hmi.2.1
    rwa [hN] at this
  have CU : Hid (∀ (i : Nat) (V : World), i < xs.length → Ext w V → Calls Try.prog 64 #[.slice A xs.length c, .int .i64 (i : Int)] V fun e w' => e = .returned (.int .i64 (unitF xs i)) ∧ V = w') := fun i V h1 h => unitS_any A c xs i V (hr.ext h) (by omega) hmi.2.1 h1 hcap hcm
  rw [hN, Int.toNat_natCast]
  have H27 := Lib.hid hmi.2.1
  obtain ⟨l, hll⟩ : ∃ l, l = xs.length := ⟨_, rfl⟩
  have hl5 : l ≤ 5 := by omega
  rw [← hll] at CM CP CU ⊢
  clear hr hm hmi hN hll hcap hcm
  go_enter Try.func58, Try.ntmps58
  go_wp2_with fail
  refine CM.out.mono ?_
  rintro e w1 ⟨rfl, rfl⟩
  go_wp2_with fail
  go_loopw [3, 4] (fun o i wr => ∃ (p : Nat) (B : Option Addr) (d : Nat), p ≤ N ∧ i = .int .i64 p ∧ o = .slice B p d ∧ Hid (OwI wr w.heap.size B d (wtL xs l p)) ∧ Hid (Ext w wr)) (fun _ i _ => N - (intOf i).toNat)
  case atStart => exact ⟨0, _, _, Nat.zero_le _, rfl, rfl, OwI.empty w, (Ext.refl w).alloc _⟩
  case round =>
    obtain ⟨p, B, d, hp, rfl, rfl, HO, HE⟩ := hrel
    have C1 := Lib.hid (CP.out wr HE.out)
    by_cases hlt : p < N
    · go_wp2_with fail
      refine C1.out.mono ?_
      rintro e w2 ⟨rfl, rfl⟩
      go_wp2_with fail
      go_loopw [5, 19] (fun s i wq => ∃ (k : Nat), k ≤ l ∧ i = .int .i64 k ∧ s = .int .i64 (wtK xs k p) ∧ Hid (wr = wq)) (fun _ i _ => l - (intOf i).toNat)
      case atStart => exact ⟨0, Nat.zero_le _, rfl, rfl, rfl⟩
      case round =>
        obtain ⟨k, hk, rfl, rfl, HW⟩ := hrel
        have hw := HW.out
        subst hw
        by_cases hlt2 : k < l
        · have C2 := Lib.hid (CU.out k wr hlt2 HE.out)
          obtain ⟨u, hu⟩ : ∃ u, u = unitF xs k := ⟨_, rfl⟩
          have hu1 : 1 ≤ u := by rw [hu]; exact unit_pos H27.out k
          have hwb := wtK_bd xs (p : Int) k
          obtain ⟨v, hv⟩ : ∃ v, v = wtK xs k p := ⟨_, rfl⟩
          have HNX : Hid (wtK xs (k + 1) p = v + (if (p : Int) % u = 0 then 1 else 0)) := by rw [wtK, ← hu, ← hv]; exact rfl
          rw [← hu] at C2
          rw [← hv] at hwb ⊢
          have hu0 : ¬ u = 0 := by omega
          clear hu hv
          by_cases h0 : (p : Int) % u = 0
          · have h1 : (p : Int).tmod u = 0 := by rw [Int.tmod_eq_emod_of_nonneg (Int.natCast_nonneg _)]; exact h0
            have HN1 : Hid (wtK xs (k + 1) p = v + 1) := by rw [HNX.out, if_pos h0]; exact rfl
            go_wp2_with fail
            refine C2.out.mono ?_
            rintro e w3 ⟨rfl, rfl⟩
            go_wp2_with fail
            clear h0 h1
            go_roundw
            case rel => exact ⟨k + 1, by omega, by go_num, by rw [HN1.out], Lib.hid trivial⟩
            case measure => simp [intOf]; omega
          · have h1 : ¬ (p : Int).tmod u = 0 := by rw [Int.tmod_eq_emod_of_nonneg (Int.natCast_nonneg _)]; exact h0
            have HN1 : Hid (wtK xs (k + 1) p = v) := by rw [HNX.out, if_neg h0, Int.add_zero]; exact rfl
            go_wp2_with fail
            refine C2.out.mono ?_
            rintro e w3 ⟨rfl, rfl⟩
            go_wp2_with fail
            clear h0 h1
            go_roundw
            case rel => exact ⟨k + 1, by omega, by go_num, by rw [HN1.out], Lib.hid trivial⟩
            case measure => simp [intOf]; omega
        · obtain rfl : k = l := by omega
          have HSN := Lib.hid (wtL_snoc xs k p)
          have HLP := Lib.hid (wtL_len xs k p)
          obtain ⟨v, hv⟩ : ∃ v, v = wtK xs k p := ⟨_, rfl⟩
          rw [← hv] at HSN ⊢
          clear hv
          go_wp2_with (at_builtin; refine app_ints w rfl _ _ rfl B d p (wtL xs k p) _ 1 1 [v] rfl rfl HLP.out rfl (HO.out.ext ((Ext.refl _).alloc _)) (RdI.built wr [v]) (HE.out.alloc _) (by omega) ?_; intro A' c' w3 h1 h2 _; have HO3 := Lib.hid h1; have HE3 := Lib.hid h2; clear h1 h2)
          go_roundw
          case rel => exact ⟨p + 1, A', c', by omega, by go_num, rfl, by rw [HSN.out]; exact HO3.out, HE3.out⟩
          case measure => simp [intOf]; omega
    · obtain rfl : p = N := by omega
      have HLP := Lib.hid (wtL_len xs l p)
      go_wp2_with fail
      refine C1.out.mono ?_
      rintro e w2 ⟨rfl, rfl⟩
      go_wp2_with fail
      go_ret
      exact ⟨B, d, by rw [HLP.out]; rfl, HO.out, HE.out⟩
end Go.Proofs.Ytedfmjijemcpaaa
