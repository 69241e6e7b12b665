/- FnMeters: the law's walk. -/
import Derived.Test.YtedfmjijemcpaaaFmP
import Derived.Deep.CutRange
namespace Go.Proofs.Ytedfmjijemcpaaa
open Go.RowKit

set_option maxRecDepth 100000 in
set_option maxHeartbeats 8000000 in
theorem core_FnMeters (w : World) (A0 : Option Addr) (c0 l0 : Nat) (hl0 : l0 ≤ 1048576)
    (CM : Hid (∀ (m : Int) (W : World), 0 ≤ m → m ≤ 1000 → Ext w W → Calls Try.prog 5 #[.slice A0 l0 c0, .int .i64 m] W (RetDrawM W)))
    (CR : Hid (∀ (m : Int) (N : Nat) (W : World), 0 ≤ m → m ≤ 1000 → 1 ≤ N → N ≤ 24 → Ext w W → Calls Try.prog 12 #[.slice A0 l0 c0, .int .i64 m, .int .i64 (N : Int)] W (RetDrawR W N))) :
    Calls Try.prog 3 #[.slice A0 l0 c0] w fun e w' => e = .returned (.bool true) ∧ Ext w w' := by
  go_enter Try.func3, Try.ntmps3
  try dsimp only [List.append]
  go_wp2_with fail
  refine (CM.out _ _ (by omega) (by omega) (Ext.refl w)).mono ?_
  rintro e w1 ⟨B, d, xs, rfl, ho, hd, ⟨n, hn, hxs⟩, he⟩
  have hn0 : 0 ≤ n := by
    unfold pulsesL at hn
    simp only [List.mem_cons, List.not_mem_nil, or_false] at hn
    omega
  obtain ⟨N, rfl⟩ := Int.eq_ofNat_of_zero_le hn0
  obtain ⟨hNb, _, hrow⟩ := fm_facts hn
  obtain ⟨j0, hj0, hx0⟩ := List.getElem_of_mem hxs
  have hxj : (moF (N : Int)).getD j0 [] = xs := by simp [List.getD, hj0, hx0]
  have hmp := mo_row hj0
  rw [hxj] at hmp
  have hr0 := hrow j0 hj0
  rw [hxj] at hr0
  obtain ⟨r1, r2, r3, r4, _⟩ := hr0
  have hmi := metB_iff hmp.2
  obtain ⟨l, hl⟩ : ∃ l, l = xs.length := ⟨_, rfl⟩
  have hlb : 1 ≤ l ∧ l ≤ 5 := by rw [hl]; exact hmi.1
  have OX := Lib.hid ho
  have E1 := Lib.hid he
  have D1 : Hid (∀ V : World, Ext w1 V → Calls Try.prog 6 #[.slice B l d] V fun e w' => e = .returned (.int .i64 N) ∧ Ext V w') := fun V h => by
    have := msz_any B d xs V (OX.out.ext h).rd hmp.2
    rwa [hmp.1, ← hl] at this
  have D2 : Hid (∀ V : World, Ext w1 V → Calls Try.prog 7 #[.slice B l d] V (RetI V (wtL xs l N))) := fun V h => by
    have := wofI_any B d xs V (OX.out.ext h).rd hmp.2 hd.1 hd.2
    rwa [hmp.1, Int.toNat_natCast, ← hl] at this
  have D3 : Hid (∀ V : World, Ext w1 V → Calls Try.prog 8 #[.slice B l d] V fun e w' => e = .returned (.bool true) ∧ Ext V w') := fun V h => by
    have := metI_any B d xs V (OX.out.ext h).rd (by omega)
    rwa [hmp.2, ← hl] at this
  have D4 : Hid (∀ (i K : Nat) (V : World), i < l → prodF (xs.take (i + 1)) = (K : Int) → 1 ≤ K → K ≤ N → Ext w1 V → Calls Try.prog 9 #[.slice B l d, .int .i64 (i : Int)] V (RetRB V ((N : Int), evL K N) true)) := fun i K V hi hK h1 h2 h => by
    have := begins_any B d xs i K N V (OX.out.ext h).rd hmp.2 (by rw [← hl]; exact hi) hd.1 hd.2 hK hmp.1 h1 h2 (by omega)
    rwa [← hl] at this
  have D5 : Hid (∀ (A : Option Addr) (c : Nat) (bs : List Int) (V : World), Ext w1 V → RdI V A bs → rhyB N bs = true → Calls Try.prog 10 #[.agg #[.int .i64 N, .slice A bs.length c], .slice B l d] V fun e w' => e = .returned (.int .i64 (syP N bs xs bs.length)) ∧ Ext V w') := fun A c bs V h h1 h2 => by
    have := synI_any A c N bs B d xs V h1 h2 (OX.out.ext h).rd hmp.2 hmp.1.symm hd.1 hd.2
    rwa [← hl] at this
  have D6 : Hid (∀ (A : Option Addr) (c : Nat) (bs : List Int) (V : World), Ext w1 V → RdI V A bs → rhyB N bs = true → Calls Try.prog 14 #[.agg #[.int .i64 N, .slice A bs.length c], .slice B l d] V fun e w' => e = .returned (.int .i64 (scP bs xs bs.length)) ∧ Ext V w') := fun A c bs V h h1 h2 => by
    have := score_any A c N bs B d xs V h1 h2 (OX.out.ext h).rd hmp.2 hmp.1.symm hd.1 hd.2
    rwa [← hl] at this
  have HMB := Lib.hid hmp.2
  have HMP := Lib.hid hmp.1
  have HROW := Lib.hid hrow
  have HXJ := Lib.hid hxj
  have HJ0 := Lib.hid hj0
  have HL := Lib.hid hl
  have H1 := Lib.hid r1
  have HT : Hid ((wtL xs l N).sum = totP xs l) := by rw [hl]; exact r2
  have HS : Hid (scP (evL N N) xs N = totP xs l) := by rw [hl]; exact r3
  have HZ := Lib.hid r4
  have HTB : Hid (∀ k, k ≤ l → 0 ≤ totP xs k ∧ totP xs k ≤ 24 * k) := fun k hk => totP_bd hmp.2 k (by omega)
  rw [← hl]
  clear ho hd hn hxs hn0 hrow hj0 hx0 hxj hmp r1 r2 r3 r4 hmi hl he CM
  go_wp2_with fail
  refine (D1.out _ (Ext.refl _)).mono ?_
  rintro e w2 ⟨rfl, e2⟩
  have X2 := Lib.hid e2
  clear e2
  go_wp2_with fail
  refine (D2.out _ X2.out).mono ?_
  rintro e w3 ⟨AW, cw, rfl, ow, e3⟩
  have X3 := Lib.hid (X2.out.trans e3)
  have OW := Lib.hid ow
  have HWL := Lib.hid (wtL_len xs l N)
  rw [HWL.out]
  clear e3 ow X2
  go_wp2_with fail
  refine (D3.out _ X3.out).mono ?_
  rintro e w4 ⟨rfl, e4⟩
  have X34 := Lib.hid e4
  have X4 := Lib.hid (X3.out.trans e4)
  obtain ⟨wb, wo, hAW, hc0⟩ := (OW.out.ext e4).rd.at_ 0 (by rw [HWL.out]; omega)
  rw [wtL_get (by omega), Int.natCast_zero, wtK_zero, Nat.add_zero] at hc0
  have HAW := Lib.hid hAW
  subst hAW
  have h1N : (1 : Int) ≤ N := by omega
  clear e4
  go_wp2_with fail
  clear hc0
  go_loopw [6, 57] (fun t i wr => ∃ k : Nat, k ≤ l ∧ i = .int .i64 k ∧ t = .int .i64 (totP xs k) ∧ Hid (Ext w4 wr)) (fun _ i _ => l - (intOf i).toNat)
  case atStart => exact ⟨0, Nat.zero_le _, rfl, rfl, Ext.refl _⟩
  case round =>
    obtain ⟨k, hk, rfl, rfl, HE⟩ := hrel
    by_cases hlt : k < l
    · obtain ⟨K, u, N', hK, _, hN', _, hK1, _, hKN, _, _⟩ := lay_nums HMB.out k
      obtain rfl : N' = N := by have := HMP.out; rw [hN'] at this; exact Int.ofNat.inj this
      have C4 := Lib.hid (D4.out k K wr hlt hK hK1 hKN (X4.out.trans HE.out))
      have hz := H1.out k (by rw [← HL.out]; exact hlt)
      rw [hK, Int.toNat_natCast] at hz
      have HTN : Hid (totP xs (k + 1) = totP xs k + K) := by rw [totP, hK]; exact rfl
      have htb := HTB.out k (by omega)
      obtain ⟨T, hT⟩ : ∃ T, T = totP xs k := ⟨_, rfl⟩
      rw [← hT] at HTN htb ⊢
      have C5 : Hid (∀ (A : Option Addr) (c : Nat) (V : World), Ext w1 V → RdI V A (evL K N') → Calls Try.prog 10 #[.agg #[.int .i64 N', .slice A K c], .slice B l d] V fun e w' => e = .returned (.int .i64 0) ∧ Ext V w') := fun A c V h h2 => by
        have := D5.out A c (evL K N') V h h2 (ev_rhy K N' (by omega) (by omega) hKN)
        rwa [evL_len, hz] at this
      have HKL := Lib.hid (evL_len K N')
      have hTb : 0 ≤ T ∧ T ≤ 240 := by omega
      clear hK hN' hz hT htb
      go_wp2_with fail
      refine C4.out.mono ?_
      intro e w5 hret
      obtain ⟨D, dd, rfl, ob, e5⟩ := hret.parts
      rw [HKL.out]
      have HB5 := Lib.hid (Bx2.new w5 29 (.int .i64 N') (.slice D K dd))
      have HE5 := Lib.hid ((HE.out.trans e5).alloc (.cells #[.int .i64 N', .slice D K dd] 29))
      have OB5 := Lib.hid (ob.ext ((Ext.refl w5).alloc (.cells #[.int .i64 N', .slice D K dd] 29)))
      clear hret ob e5 C4
      obtain ⟨q0, q1, _, _⟩ := HB5.out.cells
      go_wp2_with fail
      refine (C5.out D dd _ (X4.out.trans HE5.out) OB5.out.rd).mono ?_
      rintro e w6 ⟨rfl, e6⟩
      have HE6 := Lib.hid (HE5.out.trans e6)
      clear e6 q0 q1
      go_wp2_with fail
      go_roundw
      case rel => exact ⟨k + 1, by omega, by go_num, by rw [HTN.out], HE6.out⟩
      case measure => simp [intOf]; omega
    · obtain rfl : k = l := by omega
      have htb := HTB.out k (by omega)
      obtain ⟨T, hT⟩ : ∃ T, T = totP xs k := ⟨_, rfl⟩
      rw [← hT] at htb HT HS ⊢
      have hTb : 0 ≤ T ∧ T ≤ 120 := by omega
      obtain ⟨w5, hw5⟩ : ∃ w5, w5 = wr := ⟨_, rfl⟩
      have X5 := Lib.hid (X4.out.trans HE.out)
      have OW5 := Lib.hid (OW.out.ext (X34.out.trans HE.out))
      have CE := Lib.hid (evenS_any N N wr (by omega) (by omega) (Nat.le_refl _))
      rw [← hw5] at X5 OW5 CE ⊢
      have HKL := Lib.hid (evL_len N N)
      have HAL := Lib.hid (ev_rhy N N (by omega) (by omega) (Nat.le_refl _))
      clear hT htb hw5 HE HTB H1 D1 D2 D3 D4 X4 X34 X3 OW
      go_wp2_with fail
      refine CE.out.mono ?_
      intro e w6 hret
      obtain ⟨AA, ca, rfl, oa, e6⟩ := hret.parts
      rw [HKL.out]
      have HB6 := Lib.hid (Bx2.new w6 29 (.int .i64 N) (.slice AA N ca))
      have X6 := Lib.hid ((X5.out.trans e6).alloc (.cells #[.int .i64 N, .slice AA N ca] 29))
      have OA6 := Lib.hid (oa.ext ((Ext.refl w6).alloc (.cells #[.int .i64 N, .slice AA N ca] 29)))
      have OW6 := Lib.hid (OW5.out.ext (e6.alloc (.cells #[.int .i64 N, .slice AA N ca] 29)))
      clear hret oa e6 CE X5 OW5
      go_wp2_with fail
      refine (CR.out _ N _ (by omega) (by omega) (by omega) (by omega) (E1.out.trans X6.out)).mono ?_
      rintro e w7 ⟨AR, cr, ys, rfl, oy, hv, e7⟩
      obtain ⟨lr, hlr⟩ : ∃ lr, lr = ys.length := ⟨_, rfl⟩
      have hlr24 := rhyB_len hv
      rw [← hlr] at hlr24 ⊢
      have HB7 := Lib.hid (Bx2.new w7 29 (.int .i64 N) (.slice AR lr cr))
      have X7 := Lib.hid ((X6.out.trans e7).alloc (.cells #[.int .i64 N, .slice AR lr cr] 29))
      have OY7 := Lib.hid (oy.ext ((Ext.refl w7).alloc (.cells #[.int .i64 N, .slice AR lr cr] 29)))
      have OW7 := Lib.hid (OW6.out.ext (e7.alloc (.cells #[.int .i64 N, .slice AR lr cr] 29)))
      have OA7 := Lib.hid (OA6.out.ext (e7.alloc (.cells #[.int .i64 N, .slice AR lr cr] 29)))
      have HA7 := Lib.hid (HB6.out.ext (e7.alloc (.cells #[.int .i64 N, .slice AR lr cr] 29)))
      obtain ⟨g7, hg7⟩ : ∃ g, g = w7.heap.size := ⟨_, rfl⟩
      obtain ⟨g6, hg6⟩ : ∃ g, g = w6.heap.size := ⟨_, rfl⟩
      obtain ⟨w8, hw8⟩ : ∃ W, W = w7.alloc (.cells #[.int .i64 N, .slice AR lr cr] 29) := ⟨_, rfl⟩
      rw [← hw8] at HB7 X7 OY7 OW7 OA7 HA7
      rw [← hg7] at HB7
      rw [← hg6] at HA7
      have HV := Lib.hid hv
      have HLR := Lib.hid hlr
      have HW8 := Lib.hid hw8
      have HG7 := Lib.hid hg7
      have HG6 := Lib.hid hg6
      clear oy e7 hv hlr hw8 hg7 hg6 X6 OA6 OW6 HB6
      rw [← HG6.out]
      obtain ⟨q0, q1, _, _⟩ := HB7.out.cells
      go_upto_region 21 with fail
      rw [← HW8.out, ← HG7.out]
      clear HW8 HG7 HG6
      go_wp2_with fail
      clear q0 q1
      have HVB : Hid (∀ j, j < lr → 0 ≤ ys.getD j 0 ∧ ys.getD j 0 ≤ (N : Int) - 1) := fun j hj => ((rhyB_iff HV.out).2 j (by rw [← HLR.out]; exact hj)).1
      go_loop [13, 96] (fun s i => ∃ p : Nat, p ≤ lr ∧ i = .int .i64 p ∧ s = .int .i64 (scP ys xs p)) (fun _ i => lr - (intOf i).toNat)
      case atStart => exact ⟨0, Nat.zero_le _, rfl, rfl⟩
      case round =>
        obtain ⟨p, hp, rfl, rfl⟩ := hrel
        by_cases hlt2 : p < lr
        · obtain ⟨b, o, hAR, hc⟩ := OY7.out.rd.at_ p (by rw [← HLR.out]; exact hlt2)
          have hpb := HVB.out p hlt2
          have HSN : Hid (scP ys xs (p + 1) = scP ys xs p + wtF xs (ys.getD p 0)) := rfl
          obtain ⟨P, hP⟩ := Int.eq_ofNat_of_zero_le hpb.1
          rw [hP] at hc hpb HSN
          have hPN : P < N := by omega
          obtain ⟨b2, o2, hAW2, hcw⟩ := OW7.out.rd.at_ P (by rw [HWL.out]; exact hPN)
          rw [wtL_get hPN] at hcw
          injection hAW2 with hAW2
          injection hAW2 with e1 e2 _
          subst e1 e2
          have hwb := wtK_bd xs (P : Int) k
          have HWF : Hid (wtF xs P = wtK xs k P) := by unfold wtF; rw [HL.out]; exact rfl
          rw [HWF.out] at HSN
          obtain ⟨v, hv⟩ : ∃ v, v = wtK xs k P := ⟨_, rfl⟩
          rw [← hv] at HSN hcw hwb
          have hsb := scP_bd ys xs p
          have hsb2 : (xs.length : Int) * (p : Int) ≤ 5 * 24 := Int.mul_le_mul (by have := HL.out; omega) (by omega) (by omega) (by omega)
          obtain ⟨S, hS⟩ : ∃ S, S = scP ys xs p := ⟨_, rfl⟩
          rw [← hS] at HSN hsb ⊢
          have hSb : 0 ≤ S ∧ S ≤ 120 := by omega
          have hPi : (P : Int) < N := by omega
          have HARK := Lib.hid hAR
          subst hAR
          clear hP hv hsb hsb2 hS hpb
          go_wp2_with fail
          go_round
          case rel => exact ⟨p + 1, by omega, by go_num, by rw [HSN.out]⟩
          case measure => simp [intOf]; omega
        · obtain rfl : p = lr := by omega
          have CSM : Hid (∀ V : World, Ext w8 V → Calls Try.prog 13 #[.slice (some ⟨wb, wo, none⟩) N cw] V fun e w' => e = .returned (.int .i64 T) ∧ Ext V w') := fun V h => by
            have := sum_any (some ⟨wb, wo, none⟩) cw (wtL xs k N) V (OW7.out.ext h).rd (by rw [HWL.out]; omega) (fun x hx => by
              unfold wtL at hx
              rw [List.mem_map] at hx
              obtain ⟨q, _, rfl⟩ := hx
              have := wtK_bd xs (q : Int) k
              omega)
            rwa [HWL.out, HT.out] at this
          have CA1 : Hid (∀ V : World, Ext w8 V → Calls Try.prog 14 #[.agg #[.int .i64 N, .slice AA N ca], .slice B k d] V fun e w' => e = .returned (.int .i64 T) ∧ Ext V w') := fun V h => by
            have := D6.out AA ca (evL N N) V (X7.out.trans h) (OA7.out.ext h).rd HAL.out
            rwa [HKL.out, HS.out] at this
          have CA2 : Hid (∀ V : World, Ext w8 V → Calls Try.prog 10 #[.agg #[.int .i64 N, .slice AA N ca], .slice B k d] V fun e w' => e = .returned (.int .i64 0) ∧ Ext V w') := fun V h => by
            have := D5.out AA ca (evL N N) V (X7.out.trans h) (OA7.out.ext h).rd HAL.out
            rwa [HKL.out, HZ.out] at this
          obtain ⟨S, hS⟩ : ∃ S, S = scP ys xs p := ⟨_, rfl⟩
          have CR1 : Hid (∀ V : World, Ext w8 V → Calls Try.prog 14 #[.agg #[.int .i64 N, .slice AR p cr], .slice B k d] V fun e w' => e = .returned (.int .i64 S) ∧ Ext V w') := fun V h => by
            have := D6.out AR cr ys V (X7.out.trans h) (OY7.out.ext h).rd HV.out
            rwa [← HLR.out, ← hS] at this
          obtain ⟨sm, hsm⟩ : ∃ s, s = syM N ys xs := ⟨_, rfl⟩
          have CR2 : Hid (∀ V : World, Ext w8 V → Calls Try.prog 10 #[.agg #[.int .i64 N, .slice AR p cr], .slice B k d] V fun e w' => e = .returned (.int .i64 sm) ∧ Ext V w') := fun V h => by
            have := D5.out AR cr ys V (X7.out.trans h) (OY7.out.ext h).rd HV.out
            rw [hsm]
            unfold syM
            rwa [← HLR.out] at this ⊢
          have HSM := Lib.hid hsm
          rw [← hS]
          clear hS hsm D5 D6
          obtain ⟨q0, q1, _, _⟩ := HA7.out.cells
          go_wp2_with fail
          refine (CSM.out _ (Ext.refl _)).mono ?_
          rintro e v1 ⟨rfl, f1⟩
          have Y1 := Lib.hid f1
          have HA8 := Lib.hid (HA7.out.ext f1)
          clear f1 q0 q1
          obtain ⟨q0, q1, _, _⟩ := HA8.out.cells
          go_wp2_with fail
          refine (CA1.out _ Y1.out).mono ?_
          rintro e v2 ⟨rfl, f2⟩
          have Y2 := Lib.hid (Y1.out.trans f2)
          have HA9 := Lib.hid (HA8.out.ext f2)
          clear f2 q0 q1
          obtain ⟨q0, q1, _, _⟩ := HA9.out.cells
          go_wp2_with fail
          refine (CA2.out _ Y2.out).mono ?_
          rintro e v3 ⟨rfl, f3⟩
          have Y3 := Lib.hid (Y2.out.trans f3)
          have HB9 := Lib.hid (HB7.out.ext Y3.out)
          clear f3 q0 q1
          obtain ⟨q0, q1, _, _⟩ := HB9.out.cells
          go_wp2_with fail
          refine (CR1.out _ Y3.out).mono ?_
          rintro e v4 ⟨rfl, f4⟩
          have Y4 := Lib.hid (Y3.out.trans f4)
          clear f4 q0 q1 CSM CA1 CA2 CR1 HA7 HA8 HA9 HB9 Y1 Y2 Y3 OA7 OW7
          go_wp2_with fail
          refine (moI_any N v4).mono ?_
          rintro e v5 ⟨vv, rfl, hol, f5⟩
          obtain ⟨LA, lc, ln, us, rfl, hln, _, _⟩ := hol.parts
          have Y5 := Lib.hid (Y4.out.trans f5)
          have HOL := Lib.hid hol
          have HLN := Lib.hid hln
          have hj0n : j0 < ln := by rw [hln]; exact HJ0.out
          have hln9 : ln ≤ 100 := by rw [hln]; exact mo_len N
          clear hol f5 hln Y4
          go_wp2_with fail
          go_loopw [17, 135] (fun f i wr => ∃ (q : Nat) (fb : Bool), q ≤ ln ∧ i = .int .i64 q ∧ f = .bool fb ∧ Hid (j0 < q → fb = true) ∧ Hid (Ext v5 wr)) (fun _ i _ => ln - (intOf i).toNat)
          case atStart => exact ⟨0, false, Nat.zero_le _, rfl, rfl, fun h => absurd h (by omega), Ext.refl _⟩
          case round =>
            obtain ⟨q, fb, hq, rfl, rfl, HF, HE⟩ := hrel
            by_cases hlt3 : q < ln
            · have hqm : q < (moF (N : Int)).length := by rw [← HLN.out]; exact hlt3
              obtain ⟨b1, o1, D1, d1, hA1, hc1, rr1, rc1, rm1⟩ := (HOL.out.ext HE.out).row q hqm
              have HLA := Lib.hid hA1
              have hmo := mo_row hqm
              have hm5 := (metB_iff hmo.2).1
              obtain ⟨x, hx⟩ : ∃ x, x = (moF (N : Int)).getD q [] := ⟨_, rfl⟩
              have hprev : 0 < q → ∃ (D2 : Option Addr) (d2 : Nat) (y : List Int), wr.cell? ⟨b1, o1 + (q - 1), none⟩ = some (.slice D2 y.length d2) ∧ RdI wr D2 y ∧ y.length ≤ 5 ∧ (y.length = x.length → bfB y x = true) := fun h0 => by
                have hqm1 : q - 1 < (moF (N : Int)).length := by omega
                obtain ⟨b2, o2, D2, d2, hA2, hc2, rr2, _, _⟩ := (HOL.out.ext HE.out).row (q - 1) hqm1
                rw [hA1] at hA2
                injection hA2 with hA2
                injection hA2 with e1 e2 _
                subst e1 e2
                have hm6 := (metB_iff (mo_row hqm1).2).1
                exact ⟨D2, d2, _, hc2, rr2.rd, by omega, fun hle => by rw [hx] at hle ⊢; exact (HROW.out q hqm).2.2.2.2 h0 hle⟩
              rw [← hx] at hc1 rr1 rc1 hmo hm5
              subst hA1
              have CZ : Hid (∀ V : World, Ext wr V → Calls Try.prog 6 #[.slice D1 x.length d1] V fun e w' => e = .returned (.int .i64 N) ∧ Ext V w') := fun V h => by
                have := msz_any D1 d1 x V (rr1.ext h).rd hmo.2
                rwa [hmo.1] at this
              have CSA : Hid (∀ V : World, Ext wr V → Calls Try.prog 17 #[.slice D1 x.length d1, .slice B k d] V fun e w' => e = .returned (.bool (decide (x = xs))) ∧ V = w') := fun V h => by
                have := lsameB_any D1 B d1 d x xs V (rr1.ext h).rd (OX.out.ext ((X7.out.trans Y5.out).trans (HE.out.trans h))).rd (by omega) (by have := HL.out; omega)
                rwa [← HL.out] at this
              have HXS : Hid (j0 = q → x = xs) := fun e => by rw [hx, ← e]; exact HXJ.out
              obtain ⟨lx, hlx⟩ : ∃ lx, lx = x.length := ⟨_, rfl⟩
              have CBF : Hid (0 < q → ∃ (D2 : Option Addr) (ly d2 : Nat), wr.cell? ⟨b1, o1 + (q - 1), none⟩ = some (.slice D2 ly d2) ∧ ly ≤ 5 ∧ (ly = lx → ∀ V : World, Ext wr V → Calls Try.prog 16 #[.slice D2 ly d2, .slice D1 lx d1] V fun e w' => e = .returned (.bool true) ∧ V = w')) := fun h0 => by
                obtain ⟨D2, d2, y, h1, h2, h3, h4⟩ := hprev h0
                refine ⟨D2, y.length, d2, h1, h3, fun he V h => ?_⟩
                have := before_any D2 D1 d2 d1 y x V (h2.ext h) (rr1.ext h).rd (by omega)
                rwa [h4 (by omega), ← hlx] at this
              rw [← hlx] at CZ CSA hc1 hm5
              obtain ⟨sb, hsb⟩ : ∃ sb, sb = decide (x = xs) := ⟨_, rfl⟩
              rw [← hsb] at CSA
              have HSB : Hid (j0 = q → sb = true) := fun e => by rw [hsb]; exact decide_eq_true (HXS.out e)
              clear hx hmo rr1 rc1 rm1 hprev hlx hsb hqm
              go_upto_region 34 with fail
              go_cut [168] from 140 to 168 (fun s168 wx => s168 = .bool false ∧ Hid (Ext wr wx))
              case first =>
                by_cases h0 : 0 < q
                · obtain ⟨D2, ly, d2, hc2, hly, hbf⟩ := CBF.out h0
                  have k13 : ((q : Int) - 1).toNat = q - 1 := by omega
                  have k14 : (q : Int) - 1 < ln := by omega
                  have k17 : (0 : Int) ≤ (q : Int) - 1 := by omega
                  have h0i : (0 : Int) < q := by omega
                  by_cases hle : ly = lx
                  · have CB2 := Lib.hid (hbf hle)
                    subst hle
                    clear hbf
                    have hc2' := Lib.hid hc2
                    go_wp2_with fail
                    refine (CZ.out _ (Ext.refl _)).mono ?_
                    rintro e u1 ⟨rfl, f1⟩
                    have Z1 := Lib.hid f1
                    have hc3 := Ext.cell f1 hc2'.out
                    clear f1 hc2
                    go_wp2_with fail
                    refine (CB2.out _ Z1.out).mono ?_
                    rintro e u2 ⟨rfl, rfl⟩
                    go_wp2_with fail
                    go_meet
                    exact ⟨rfl, Z1⟩
                  · have hleb : ((ly : Int) == (lx : Int)) = false := by simp; omega
                    have hc2' := Lib.hid hc2
                    clear hbf
                    go_wp2_with fail
                    refine (CZ.out _ (Ext.refl _)).mono ?_
                    rintro e u1 ⟨rfl, f1⟩
                    have Z1 := Lib.hid f1
                    have hc3 := Ext.cell f1 hc2'.out
                    clear f1 hc2
                    go_wp2_with fail
                    go_meet
                    exact ⟨rfl, Z1⟩
                · have hq0 : q = 0 := by omega
                  subst hq0
                  go_wp2_with fail
                  refine (CZ.out _ (Ext.refl _)).mono ?_
                  rintro e u1 ⟨rfl, f1⟩
                  have Z1 := Lib.hid f1
                  clear f1
                  go_wp2_with fail
                  go_meet
                  exact ⟨rfl, Z1⟩
              case rest =>
                obtain ⟨rfl, HX9⟩ := hcut
                cases fb with
                | true =>
                  go_wp2_with fail
                  go_roundw
                  case rel => exact ⟨q + 1, true, by omega, by go_num, rfl, fun _ => rfl, HE.out.trans HX9.out⟩
                  case measure => simp [intOf]; omega
                | false =>
                  go_wp2_with fail
                  refine (CSA.out _ HX9.out).mono ?_
                  rintro e u1 ⟨rfl, rfl⟩
                  go_wp2_with fail
                  go_roundw
                  case rel =>
                    exact ⟨q + 1, sb, by omega, by go_num, rfl, fun h => HSB.out (by
                      by_cases h2 : j0 < q
                      · exact absurd (HF.out h2) (by simp)
                      · omega), HE.out.trans HX9.out⟩
                  case measure => simp [intOf]; omega
            · obtain rfl : q = ln := by omega
              obtain rfl : fb = true := HF.out hj0n
              have CBM : Hid (∀ V : World, Ext w8 V → Calls Try.prog 18 #[.agg #[.int .i64 N, .slice AR p cr]] V (RetIB V (bmF N ys) (bmB N ys))) := fun V h => by
                have := bmI_any AR cr N ys V (OY7.out.ext h).rd (by have := HLR.out; omega)
                rwa [← HLR.out] at this
              have hlnp : 0 < (moF (N : Int)).length := by rw [← HLN.out]; omega
              have hbB : bmB N ys = true := by unfold bmB; rw [HV.out, decide_eq_true hlnp]; rfl
              obtain ⟨jb, hjb⟩ : ∃ j, j = bix (syM N ys) (moF (N : Int)) (moF (N : Int)).length := ⟨_, rfl⟩
              have hjl : jb < (moF (N : Int)).length := by rw [hjb]; exact bix_lt _ _ _ (by omega)
              have hbF : bmF N ys = (moF (N : Int)).getD jb [] := by unfold bmF; rw [hbB, if_pos rfl, hjb]
              have hmb := mo_row hjl
              rw [← hbF] at hmb
              obtain ⟨bx, hbx⟩ : ∃ bx, bx = bmF N ys := ⟨_, rfl⟩
              obtain ⟨s, hs⟩ : ∃ s, s = syM N ys bx := ⟨_, rfl⟩
              have hmin : ∀ j, j < (moF (N : Int)).length → s ≤ syM N ys ((moF (N : Int)).getD j []) := fun j hj => by
                rw [hs, hbx, hbF, hjb]
                exact bix_min (syM N ys) _ _ j hj
              have hs0 := syM_bd HV.out hmb.2
              rw [hbB] at CBM
              rw [← hbx] at CBM hmb hs0
              rw [← hs] at hs0
              have hsm1 : s ≤ sm := by
                have h1 := hmin j0 HJ0.out
                rw [HXJ.out] at h1
                rw [HSM.out]
                exact h1
              have hsm2 : sm ≤ 120 := by rw [HSM.out]; exact (syM_bd HV.out HMB.out).2
              have HMIN := Lib.hid hmin
              have HMBX := Lib.hid hmb
              have hbl := (metB_iff hmb.2).1
              obtain ⟨lb, hlb2⟩ : ∃ l, l = bx.length := ⟨_, rfl⟩
              rw [← hlb2] at hbl
              have CSB : Hid (∀ (D : Option Addr) (dd : Nat) (V : World), Ext w8 V → OwI V 0 D dd bx → Calls Try.prog 10 #[.agg #[.int .i64 N, .slice AR p cr], .slice D lb dd] V fun e w' => e = .returned (.int .i64 s) ∧ Ext V w') := fun D dd V h h2 => by
                obtain ⟨_, _, e, f1, f2⟩ := own_form h2
                injection e with _ _ e
                subst e
                have := synI_any AR cr N ys D dd bx V (OY7.out.ext h).rd HV.out h2.rd HMBX.out.2 HMBX.out.1.symm f1 f2
                rw [hs]
                unfold syM
                rw [← HLR.out] at this ⊢
                rw [← hlb2] at this
                exact this
              have HLB := Lib.hid hlb2
              have Y6 := Lib.hid (Y5.out.trans HE.out)
              obtain ⟨v6, hv6⟩ : ∃ v, v = wr := ⟨_, rfl⟩
              have HOL6 := Lib.hid (HOL.out.ext HE.out)
              rw [← hv6] at Y6 HOL6 ⊢
              have HB6 := Lib.hid (HB7.out.ext Y6.out)
              clear hlnp hbB hjb hjl hbF hmb hbx hs hmin hlb2 hv6 HE HF HOL Y5
              obtain ⟨q0, q1, _, _⟩ := HB6.out.cells
              go_wp2_with fail
              refine (CBM.out _ Y6.out).mono ?_
              rintro e v7 ⟨DB, db, rfl, ob, f7⟩
              rw [← HLB.out]
              have Y7 := Lib.hid (Y6.out.trans f7)
              have OB := Lib.hid (ob.lower (Nat.zero_le _))
              have HB8 := Lib.hid (HB6.out.ext f7)
              have HOL7 := Lib.hid (HOL6.out.ext f7)
              clear ob f7 q0 q1 CBM
              obtain ⟨q0, q1, _, _⟩ := HB8.out.cells
              go_wp2_with fail
              refine (CSB.out DB db _ Y7.out OB.out).mono ?_
              rintro e v8 ⟨rfl, f8⟩
              have Y8 := Lib.hid (Y7.out.trans f8)
              have HOL8 := Lib.hid (HOL7.out.ext f8)
              clear f8 q0 q1 Y7 HOL7 HOL6 OB CSB
              go_wp2_with fail
              go_loopw [186] (fun i wr => ∃ r : Nat, r ≤ q ∧ i = .int .i64 r ∧ Hid (Ext v8 wr)) (fun i _ => q - (intOf i).toNat)
              case atStart => exact ⟨0, Nat.zero_le _, rfl, Ext.refl _⟩
              case round =>
                obtain ⟨r, hr, rfl, HE⟩ := hrel
                have HB9 := Lib.hid (HB7.out.ext (Y8.out.trans HE.out))
                obtain ⟨q0, q1, _, _⟩ := HB9.out.cells
                by_cases hlt4 : r < q
                · have hqm : r < (moF (N : Int)).length := by rw [← HLN.out]; exact hlt4
                  obtain ⟨b1, o1, D1, d1, hA1, hc1, rr1, rc1, rm1⟩ := (HOL8.out.ext HE.out).row r hqm
                  have HLA := Lib.hid hA1
                  have hmo := mo_row hqm
                  have hmn := HMIN.out r hqm
                  obtain ⟨x, hx⟩ : ∃ x, x = (moF (N : Int)).getD r [] := ⟨_, rfl⟩
                  rw [← hx] at hc1 rr1 rc1 hmo hmn
                  have hxb := syM_bd HV.out hmo.2
                  obtain ⟨sx, hsx⟩ : ∃ sx, sx = syM N ys x := ⟨_, rfl⟩
                  have CSX : Hid (∀ (V : World), Ext wr V → Calls Try.prog 10 #[.agg #[.int .i64 N, .slice AR p cr], .slice D1 x.length d1] V fun e w' => e = .returned (.int .i64 sx) ∧ Ext V w') := fun V h => by
                    have := synI_any AR cr N ys D1 d1 x V (OY7.out.ext ((Y8.out.trans HE.out).trans h)).rd HV.out (rr1.ext h).rd hmo.2 hmo.1.symm rc1 rm1
                    rw [hsx]
                    unfold syM
                    rwa [← HLR.out] at this ⊢
                  rw [← hsx] at hmn hxb
                  obtain ⟨lx, hlx⟩ : ∃ lx, lx = x.length := ⟨_, rfl⟩
                  rw [← hlx] at hc1 CSX
                  have hnl : decide (sx < s) = false := decide_eq_false (by omega)
                  subst hA1
                  clear hx hmo rr1 rc1 rm1 hsx hlx hqm
                  go_wp2_with fail
                  refine (CSX.out _ (Ext.refl _)).mono ?_
                  rintro e u1 ⟨rfl, f1⟩
                  have HE2 := Lib.hid (HE.out.trans f1)
                  clear f1 q0 q1 hc1
                  go_wp2_with fail
                  go_roundw
                  case rel => exact ⟨r + 1, by omega, by go_num, HE2.out⟩
                  case measure => simp [intOf]; omega
                · obtain rfl : r = q := by omega
                  have Y9 := Lib.hid (Y8.out.trans HE.out)
                  have CLS : Hid (∀ V W : World, W = (V.alloc (.cells #[.int .i64 0, .int .i64 3, .int .i64 6] 3)).alloc (.cells #[.int .i64 2, .int .i64 2, .int .i64 2] 3) → Calls Try.prog 10 #[.agg #[.int .i64 8, .slice (some ⟨V.heap.size, 0, none⟩) 3 3], .slice (some ⟨V.heap.size + 1, 0, none⟩) 3 3] W fun e w' => e = .returned (.int .i64 2) ∧ Ext W w') := fun V W hW => by
                    obtain ⟨z1, z2, z3, z4⟩ := last_sync
                    have hA : RdI W (some ⟨V.heap.size, 0, none⟩) [0, 3, 6] := by rw [hW]; exact Rd.ext (RdI.built V [0, 3, 6]) ((Ext.refl _).alloc _)
                    have hB : RdI W (some ⟨V.heap.size + 1, 0, none⟩) [2, 2, 2] := by rw [hW]; exact rd_built1 V _ [2, 2, 2]
                    have := synI_any (some ⟨V.heap.size, 0, none⟩) 3 8 [0, 3, 6] (some ⟨V.heap.size + 1, 0, none⟩) 3 [2, 2, 2] W hA z2 hB z3 z4.symm (by simp) (by simp [maxLen])
                    have z5 : syP 8 [0, 3, 6] [2, 2, 2] [(0 : Int), 3, 6].length = 2 := z1
                    rw [z5] at this
                    exact this
                  have hge : decide ((0 : Int) ≤ s) = true := decide_eq_true hs0.1
                  have hle : decide (s ≤ sm) = true := decide_eq_true hsm1
                  go_wp2_with fail
                  refine (CR2.out _ Y9.out).mono ?_
                  rintro e u1 ⟨rfl, f1⟩
                  have Y10 := Lib.hid (Y9.out.trans f1)
                  clear f1 q0 q1
                  go_wp2_with fail
                  refine (CLS.out u1 _ rfl).mono ?_
                  rintro e u2 ⟨rfl, f2⟩
                  have Y11 := Lib.hid (Y10.out.trans ((((Ext.refl u1).alloc _).alloc _).trans f2))
                  clear f2
                  go_wp2_with fail
                  go_ret
                  exact ⟨rfl, E1.out.trans (X7.out.trans Y11.out)⟩
end Go.Proofs.Ytedfmjijemcpaaa
