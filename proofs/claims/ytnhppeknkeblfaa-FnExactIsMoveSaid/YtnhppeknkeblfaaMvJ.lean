/- Contract of moves. -/
import Derived.Test.YtnhppeknkeblfaaMvI
namespace Go.Proofs.Ytnhppeknkeblfaa
open Go.RowKit Go.Sort

set_option maxRecDepth 20000 in
set_option maxHeartbeats 8000000 in
theorem moves_any (n : Nat) (A : Option Addr) (c : Nat) (xs : List Int) (w : World) (hr : RdI w A xs) (hb : rhyB n xs = true) :
    Calls Try.prog 42 #[.agg #[.int .i64 n, .slice A xs.length c]] w (RetMv w n (mvL n xs xs.length)) := by
  have hv := rhyB_vals hb
  have hn := (rhyB_iff hb).1
  have hln := rhyB_len hb
  obtain ⟨l, hll⟩ : ∃ l, l = xs.length := ⟨_, rfl⟩
  have CH : Hid (∀ (k : Int) (W : World), Ext w W → -1000 ≤ k → k ≤ 1000 → Calls Try.prog 56 #[.agg #[.int .i64 n, .slice A l c], .int .i64 k] W fun e w' => e = .returned (.bool (xs.contains (k % (n : Int)))) ∧ Ext W w') := fun k W he h1 h2 => by
    rw [hll]; exact rhas_any n A c xs k W (hr.ext he) (by omega) (by omega) ⟨h1, h2⟩
  have CK : Hid (∀ W : World, Ext w W → Calls Try.prog 57 #[.slice A l c] W (RetI W xs)) := fun W he => by rw [hll]; exact clone_any A c xs W (hr.ext he) (by omega)
  have CO : Hid (∀ (D : Option Addr) (d : Nat) (ys : List Int) (W : World), RdI W D ys → ys.length = l → (∀ j, -1000000 ≤ ys.getD j 0 ∧ ys.getD j 0 ≤ 1000000) → Calls Try.prog 58 #[.int .i64 n, .slice D l d] W (RetR W ((n : Int), ofF n ys))) := fun D d ys W h hl hy => by
    rw [← hl]
    exact rof_any n D d ys W h (by omega) (by omega) hy
  have CD : Hid (∀ (D : Option Addr) (d : Nat) (z : List Int) (W : World), RdI W D z → rhyB n z = true → Calls Try.prog 59 #[.agg #[.int .i64 n, .slice D z.length d]] W fun e w' => e = .returned (.int .i64 (codeN n z : Nat)) ∧ Ext W w') := fun D d z W h h2 => code_any n D d z W h h2
  have CA : Hid (∀ (q : Nat) (W : World), q < 16777216 → Calls Try.prog 48 #[.int .i64 n, .int .i64 q] W (RetR W ((n : Int), atL n q))) := fun q W h => atG_any n q W (by omega) h
  have HOF : Hid (∀ ys, rhyB n (ofF n ys) = true) := fun ys => ofF_rhy ys (by omega) (by omega)
  have HLT : Hid (∀ z, codeN n z < 16777216) := fun z => code_lt z (by omega)
  have HZZ : Hid (∀ z, z ∈ mvZ n xs ↔ z ∈ mvL n xs l) := fun z => by rw [hll]; exact mvZ_mem (by omega) (by omega) z
  have HCL : Hid (mvZ n xs = ((colF (cdL n (mvL n xs l))).reverse).map fun q => atL n q.toNat) := by rw [hll]; exact rfl
  have HRD := Lib.hid hr
  have HV := Lib.hid hv
  have HL := Lib.hid hll
  have HX0 : Hid (Ext w (w.alloc (.cells #[.int .i64 n, .slice A l c] 27))) := (Ext.refl w).alloc _
  have HG0 := Lib.hid (Bx2.new w 27 (.int .i64 n) (.slice A l c))
  rw [← hll]
  rw [← hll] at hln
  clear hr hb hv hll
  go_enter Try.func42, Try.ntmps42
  go_wp2_with fail
  obtain ⟨q0, q1, p0, p1⟩ := HG0.out.cells
  go_wp2_with fail
  clear q0 q1 p0 p1
  go_loopw [3, 15] (fun o i wr => ∃ (j m : Nat) (F : Option Addr) (f : Nat), j ≤ l ∧ i = .int .i64 j ∧ o = .slice F m f ∧ Hid ((cdL n (mvL n xs j)).length = m) ∧ Hid (OwI wr w.heap.size F f (cdL n (mvL n xs j))) ∧ Hid (Bx2 wr w.heap.size 27 (.int .i64 n) (.slice A l c)) ∧ Hid (Ext w wr)) (fun _ i _ => l - (intOf i).toNat)
  case atStart => exact ⟨0, 0, none, 0, by omega, rfl, rfl, rfl, OwI.nil _ _, HG0.out, HX0.out⟩
  case round =>
    clear HX0 HG0
    obtain ⟨j, m, F, f, hj, rfl, rfl, HM, HO, HP, HE⟩ := hrel
    by_cases hlt : j < l
    · have hjx : j < xs.length := by rw [← HL.out]; exact hlt
      obtain ⟨b, oA, hA, hc⟩ := (HRD.out.ext HE.out).at_ j hjx
      subst hA
      obtain ⟨x, hx⟩ : ∃ x, x = xs.getD j 0 := ⟨_, rfl⟩
      have hxr := HV.out j
      rw [← hx] at hc hxr
      have HXE := Lib.hid hx
      have HE1 : Hid (Ext w (wr.alloc (.cells #[.int .i64 1, .int .i64 (-1)] 3))) := HE.out.alloc _
      have HO1 : Hid (OwI (wr.alloc (.cells #[.int .i64 1, .int .i64 (-1)] 3)) w.heap.size F f (cdL n (mvL n xs j))) := HO.out.ext ((Ext.refl _).alloc _)
      have HP1 : Hid (Bx2 (wr.alloc (.cells #[.int .i64 1, .int .i64 (-1)] 3)) w.heap.size 27 (.int .i64 n) (.slice (some ⟨b, oA, none⟩) l c)) := HP.out.ext ((Ext.refl _).alloc _)
      have HB1 : Hid (RdI (wr.alloc (.cells #[.int .i64 1, .int .i64 (-1)] 3)) (some ⟨wr.heap.size, 0, none⟩) [1, -1]) := RdI.built wr [1, -1]
      have hm48 : m ≤ 2 * j := by rw [← HM.out, cdL_len]; exact mvL_len n xs j
      have HGW : Hid (w.heap.size ≤ wr.heap.size) := HE.out.size
      have HFW : Hid (∀ ad, F = some ad → ad.block ≠ wr.heap.size) := fun ad had => by have := (HO.out.lt ad had).2; omega
      clear hx hjx
      go_wp2_with fail
      clear hc
      obtain ⟨U, hU⟩ : ∃ U, U = wr.alloc (.cells #[.int .i64 1, .int .i64 (-1)] 3) := ⟨_, rfl⟩
      rw [← hU] at HE1 HO1 HP1 HB1 ⊢
      obtain ⟨G, hG⟩ : ∃ G, G = wr.heap.size := ⟨_, rfl⟩
      rw [← hG] at HB1 HFW HGW ⊢
      clear hU HE HO HP hG
      go_loopw [3, 22] (fun o i ws => ∃ (s m2 : Nat) (F2 : Option Addr) (f2 : Nat), s ≤ 2 ∧ i = .int .i64 s ∧ o = .slice F2 m2 f2 ∧ Hid ((cdL n (mvP n xs j s)).length = m2) ∧ Hid (OwI ws w.heap.size F2 f2 (cdL n (mvP n xs j s))) ∧ Hid (Bx2 ws w.heap.size 27 (.int .i64 n) (.slice (some ⟨b, oA, none⟩) l c)) ∧ Hid (RdI ws (some ⟨G, 0, none⟩) [1, -1]) ∧ Hid (∀ ad, F2 = some ad → ad.block ≠ G) ∧ Hid (Ext w ws)) (fun _ i _ => 2 - (intOf i).toNat)
      case atStart => exact ⟨0, m, F, f, by omega, rfl, rfl, HM.out, HO1.out, HP1.out, HB1.out, HFW.out, HE1.out⟩
      case round =>
        clear HE1 HO1 HP1 HB1 HM HFW
        obtain ⟨s, m2, F2, f2, hs, rfl, rfl, HM, HO, HP, HB, HNW, HE⟩ := hrel
        obtain ⟨q0, q1, p0, p1⟩ := HP.out.cells
        by_cases hlt2 : s < 2
        · obtain ⟨b2, o2, e2, hc2⟩ := HB.out.at_ s hlt2
          injection e2 with e2
          injection e2 with e2 e3 _
          subst e2 e3
          obtain ⟨d, hd⟩ : ∃ d, d = dI s := ⟨_, rfl⟩
          have hdb : -1 ≤ d ∧ d ≤ 1 := by rw [hd]; unfold dI; split <;> omega
          have hcd : ([1, -1] : List Int).getD s 0 = d := by
            rw [hd]
            rcases (show s = 0 ∨ s = 1 by omega) with e | e <;> rw [e] <;> rfl
          rw [hcd, Nat.zero_add] at hc2
          have HNX : Hid (mvP n xs j (s + 1) = mvP n xs j s ++ (if xs.contains ((x + d) % (n : Int)) = true then [] else [ofF n (xs.set j (x + d))])) := by rw [mvP, ← hd, mv1, ← HXE.out]; exact rfl
          have CHX := Lib.hid (CH.out (x + d) wr HE.out (by omega) (by omega))
          obtain ⟨R, hR⟩ : ∃ R, R = xs.contains ((x + d) % (n : Int)) := ⟨_, rfl⟩
          rw [← hR] at CHX HNX
          clear hd hcd hR
          go_wp2_with fail
          refine CHX.out.mono ?_
          rintro e w1 ⟨rfl, e1⟩
          have HX1 := Lib.hid e1
          clear e1 q0 q1 p0 p1 hc2 CHX
          have HP1 := Lib.hid (HP.out.ext HX1.out)
          obtain ⟨q0, q1, p0, p1⟩ := HP1.out.cells
          cases R
          · have HN2 : Hid (mvP n xs j (s + 1) = mvP n xs j s ++ [ofF n (xs.set j (x + d))]) := HNX.out
            go_wp2_with fail
            refine (CK.out _ (HE.out.trans HX1.out)).mono ?_
            rintro e w2 ⟨D, q, rfl, ho2, e2⟩
            have hjx : j < xs.length := by rw [← HL.out]; exact hlt
            obtain ⟨g, hD, hLg, hfz, hcg, ho3⟩ := ho2.set j hjx (x + d)
            subst hD
            have HO3 := Lib.hid ho3
            have HP2 := Lib.hid (HP1.out.ext e2)
            have HOW2 := Lib.hid ((HO.out.ext HX1.out).ext e2)
            have HB2 := Lib.hid ((HB.out.ext HX1.out).ext e2)
            have HE2 := Lib.hid ((HE.out.trans HX1.out).trans e2)
            have hws := HE.out.size
            have hw1 := HX1.out.size
            have hbl := HP1.out.lt
            have HFG : Hid (∀ ad, F2 = some ad → ad.block ≠ g) := fun ad had => by
              have := ((HO.out.ext HX1.out).lt ad had).2
              omega
            have HBG : Hid (G ≠ g) := by
              obtain ⟨b9, o9, e9, hc9⟩ := (HB.out.ext HX1.out).at_ 0 (by decide)
              injection e9 with e9
              injection e9 with e9 _ _
              have := World.block_lt_of_cell? w1 _ hc9
              exact (by simp at this; omega : G ≠ g)
            rw [← HL.out]
            have HSL : Hid ((xs.set j (x + d)).length = l) := by rw [List.length_set]; exact HL.out.symm
            have HSB : Hid (∀ k, -1000000 ≤ (xs.set j (x + d)).getD k 0 ∧ (xs.set j (x + d)).getD k 0 ≤ 1000000) := fun k => by
              by_cases hk : k < xs.length
              · by_cases hkj : j = k
                · subst hkj
                  rw [show (xs.set j (x + d)).getD j 0 = x + d by simp [List.getD, hk]]
                  omega
                · rw [show (xs.set j (x + d)).getD k 0 = xs.getD k 0 by simp [List.getD, hkj]]
                  have := HV.out k
                  omega
              · rw [show (xs.set j (x + d)).getD k 0 = 0 by simp [List.getD, hk]]
                omega
            obtain ⟨ys, hys⟩ : ∃ ys, ys = xs.set j (x + d) := ⟨_, rfl⟩
            rw [← hys] at HO3 HSL HSB HN2
            have HEG : Hid (w.heap.size ≤ g) := by exact (by omega : w.heap.size ≤ g)
            have hneg : g ≠ w.heap.size := by omega
            have HP3 : Hid (Bx2 (w2.setCell ⟨g, j, none⟩ (.int .i64 (x + d))) w.heap.size 27 (.int .i64 n) (.slice (some ⟨b, oA, none⟩) l c)) := HP2.out.far (by simp only []; omega) _
            have CRO := Lib.hid (CO.out (some ⟨g, 0, none⟩) q ys (w2.setCell ⟨g, j, none⟩ (.int .i64 (x + d))) HO3.out.rd HSL.out HSB.out)
            obtain ⟨z, hz⟩ : ∃ z, z = ofF n ys := ⟨_, rfl⟩
            have HZB : Hid (rhyB n z = true) := by rw [hz]; exact HOF.out ys
            rw [← hz] at CRO HN2
            have hwv : IntKind.i64.wrap (x + d) = x + d := IntWalk.i64_in _ (by omega)
            clear ho2 ho3 e2 q0 q1 p0 p1 hys hz hjx
            obtain ⟨q0, q1, p0, p1⟩ := HP3.out.cells
            go_wp2_with fail
            refine CRO.out.mono ?_
            intro e w3 hret
            obtain ⟨E, u, rfl, ho4, e4⟩ := hret.parts
            have CDZ := Lib.hid (CD.out E u z w3 ho4.rd HZB.out)
            have HX4 := Lib.hid e4
            clear hret ho4 e4
            go_wp2_with fail
            refine CDZ.out.mono ?_
            rintro e w4 ⟨rfl, e5⟩
            have HX5 := Lib.hid (HX4.out.trans e5)
            have HE5 : Hid (Ext w w4) := (HE2.out.setCell (by simp only []; exact HEG.out) _).trans HX5.out
            have HO5 : Hid (OwI w4 w.heap.size F2 f2 (cdL n (mvP n xs j s))) := (HOW2.out.setFar HFG.out _).ext HX5.out
            have HP5 : Hid (Bx2 w4 w.heap.size 27 (.int .i64 n) (.slice (some ⟨b, oA, none⟩) l c)) := HP3.out.ext HX5.out
            have HB5 : Hid (RdI w4 (some ⟨G, 0, none⟩) [1, -1]) := by
              have h1 : RdI (w2.setCell ⟨g, j, none⟩ (.int .i64 (x + d))) (some ⟨G, 0, none⟩) [1, -1] := by
                refine ⟨HB2.out.1, fun h0 => ?_⟩
                obtain ⟨b9, o9, e9, hc9⟩ := HB2.out.2 h0
                refine ⟨b9, o9, e9, fun k u hk => ?_⟩
                injection e9 with e9
                injection e9 with e9 _ _
                rw [World.cell?_of_block (Below.heap_setCell w2 ⟨g, j, none⟩ _ b9 (by simp only []; have := HBG.out; omega))]
                exact hc9 k u hk
              exact h1.ext HX5.out
            obtain ⟨cz, hcz⟩ : ∃ cz : Int, cz = (codeN n z : Nat) := ⟨_, rfl⟩
            have HN3 : Hid (cdL n (mvP n xs j (s + 1)) = cdL n (mvP n xs j s) ++ [cz]) := by rw [HN2.out, cdL_app, hcz]; exact rfl
            have hm2 : m2 ≤ 2 * j + s := by rw [← HM.out, cdL_len]; exact mvP_len n xs j s
            rw [← hcz]
            clear e5 q0 q1 p0 p1 hcz HZB CDZ CRO HN2
            have HLW : Hid (G < w4.heap.size) := by
              obtain ⟨b9, o9, e9, hc9⟩ := HB5.out.at_ 0 (by decide)
              injection e9 with e9
              injection e9 with e9 _ _
              subst e9
              exact World.block_lt_of_cell? w4 _ hc9
            go_wp2_with (at_builtin; refine app_int_l w w4 rfl _ _ rfl F2 f2 m2 (cdL n (mvP n xs j s)) cz w4.heap.size rfl rfl rfl HM.out HO5.out HE5.out (by omega) ?_; intro g6 c' w6 h1 h2 h3 h4; have HO6 := Lib.hid h1; have HE6 := Lib.hid h2; have HP6 := Lib.hid (HP5.out.grown (by decide) HO5.out h3); have HG6 := Lib.hid h3; have HA6 := Lib.hid h4; clear h1 h2 h3 h4)
            go_roundw
            case rel =>
              have HB6 : Hid (RdI w6 (some ⟨G, 0, none⟩) [1, -1]) := by
                refine Rd.grown HB5.out HG6.out ?_
                intro a ha he
                injection ha with ha
                subst ha
                cases F2 with
                | none => simp at he
                | some ad => simp at he; exact HNW.out ad rfl he
              have HN6 : Hid (∀ ad, some (⟨g6, 0, none⟩ : Addr) = some ad → ad.block ≠ G) := by
                intro ad had
                injection had with had
                subst had
                have hlw := HLW.out
                rcases HA6.out with h9 | h9
                · cases F2 with
                  | none => simp at h9
                  | some ad => simp at h9; have := HNW.out ad rfl; simp only []; omega
                · simp only []; omega
              exact ⟨s + 1, m2 + 1, some ⟨g6, 0, none⟩, c', by omega, by go_num, rfl, by rw [HN3.out, List.length_append, HM.out]; exact rfl, by rw [HN3.out]; exact HO6.out, HP6.out, HB6.out, HN6.out, HE6.out⟩
            case measure => simp [intOf]; omega
          · have HN2 : Hid (mvP n xs j (s + 1) = mvP n xs j s) := by rw [HNX.out]; exact List.append_nil _
            go_wp2_with fail
            go_roundw
            case rel => exact ⟨s + 1, m2, F2, f2, by omega, by go_num, rfl, by rw [HN2.out]; exact HM.out, by rw [HN2.out]; exact HO.out.ext HX1.out, HP1.out, HB.out.ext HX1.out, HNW.out, HE.out.trans HX1.out⟩
            case measure => simp [intOf]; omega
        · obtain rfl : s = 2 := by omega
          go_wp2_with fail
          go_roundw
          case rel => exact ⟨j + 1, m2, F2, f2, by omega, by go_num, rfl, by rw [← mvP_two]; exact HM.out, by rw [← mvP_two]; exact HO.out, HP.out, HE.out⟩
          case measure => simp [intOf]; omega
    · obtain rfl : j = l := by omega
      obtain ⟨cs, hcs⟩ : ∃ cs, cs = cdL n (mvL n xs j) := ⟨_, rfl⟩
      rw [← hcs] at HM HO HCL
      have hm48 : m ≤ 48 := by
        have h1 := HM.out
        rw [hcs, cdL_len] at h1
        have := mvL_len n xs j
        omega
      have CC := Lib.hid (coll_any F f cs wr HO.out.rd (by rw [HM.out]; omega))
      rw [HM.out] at CC
      obtain ⟨ks, hks⟩ : ∃ ks, ks = colF cs := ⟨_, rfl⟩
      rw [← hks] at CC HCL
      have hkl : ks.length ≤ 48 := by
        rw [hks]
        have h1 := colF_len cs
        have h2 := HM.out
        omega
      have HKC : Hid (∀ q ∈ ks, ∃ z, q = (codeN n z : Nat)) := fun q hq => by
        rw [hks, (colF_up cs).2, hcs] at hq
        unfold cdL at hq
        rw [List.mem_map] at hq
        obtain ⟨z, _, rfl⟩ := hq
        exact ⟨z, rfl⟩
      have HGP := Lib.hid HP.out.lt
      clear hcs hks HM
      go_wp2_with fail
      refine CC.out.mono ?_
      rintro e w1 ⟨B, d, rfl, ob, eb⟩
      obtain ⟨kl, hkk⟩ : ∃ kl, kl = ks.length := ⟨_, rfl⟩
      have HKL := Lib.hid hkk
      have CR := Lib.hid (rev_own wr.heap.size B d ks w1 ob (by omega))
      rw [← hkk] at CR hkl ⊢
      have HOB := Lib.hid ob
      have HEB := Lib.hid eb
      have HPB := Lib.hid (HP.out.ext eb)
      clear ob eb hkk CC HO
      go_wp2_with fail
      refine CR.out.mono ?_
      rintro e w2 ⟨rfl, or, hgr⟩
      have HOR := Lib.hid or
      have HEX : Hid (Ext wr w2) := Ext.grown HEB.out hgr (fun k hk => by obtain ⟨a, ha, rfl⟩ := Option.map_eq_some_iff.1 hk; exact (HOB.out.lt a ha).1)
      have HPR : Hid (Bx2 w2 w.heap.size 27 (.int .i64 n) (.slice A j c)) := HP.out.ext HEX.out
      have HEW := Lib.hid (HE.out.trans HEX.out)
      obtain ⟨rs, hrs⟩ : ∃ rs, rs = ks.reverse := ⟨_, rfl⟩
      have HRL : Hid (rs.length = kl) := by rw [hrs, List.length_reverse]; exact HKL.out.symm
      have HRC : Hid (∀ q ∈ rs, ∃ z, q = (codeN n z : Nat)) := fun q hq => HKC.out q (by rw [hrs, List.mem_reverse] at hq; exact hq)
      have HZS : Hid (mvZ n xs = rs.map fun q => atL n q.toNat) := by rw [hrs]; exact HCL.out
      rw [← hrs] at HOR
      clear or hgr hrs CR HOB HEB HPB HP HE HEX HKC HKL HCL
      go_wp2_with fail
      go_loopw [9, 56] (fun o i wr => ∃ (k : Nat) (E : Option Addr) (u : Nat) (es : List (Int × Option Addr × Nat × List Int)), k ≤ kl ∧ i = .int .i64 k ∧ o = .slice E k u ∧ Hid (es.length = k) ∧ Hid (es.map (fun x : Int × Option Addr × Nat × List Int => (x.1, x.2.2.2)) = rsM n ((rs.take k).map fun q => atL n q.toNat)) ∧ Hid (OwQ wr w2.heap.size E u es) ∧ Hid (InQ wr w2.heap.size es) ∧ Hid (Ext w2 wr)) (fun _ i _ => kl - (intOf i).toNat)
      case atStart => exact ⟨0, none, 0, [], by omega, rfl, rfl, rfl, rfl, OwQ.nil _ _, InQ.nil _ _, Ext.refl w2⟩
      case round =>
        obtain ⟨k, E, u, es, hk, rfl, rfl, HL, HZ, HO, HI, HE⟩ := hrel
        have HP := Lib.hid (HPR.out.ext HE.out)
        by_cases hlt : k < kl
        · have hkx : k < rs.length := by rw [HRL.out]; exact hlt
          obtain ⟨b, oA, hA, hc⟩ := (HOR.out.rd.ext HE.out).at_ k hkx
          subst hA
          obtain ⟨y, hy⟩ := HRC.out (rs.getD k 0) (by simp [List.getD, hkx])
          obtain ⟨q, hq⟩ : ∃ q, q = codeN n y := ⟨_, rfl⟩
          rw [← hq] at hy
          have HQL : Hid (q < 16777216) := by rw [hq]; exact HLT.out y
          obtain ⟨z, hz⟩ : ∃ z, z = atL n q := ⟨_, rfl⟩
          have CAQ := Lib.hid (CA.out q wr HQL.out)
          have HTK : Hid ((rs.take (k + 1)).map (fun q => atL n q.toNat) = (rs.take k).map (fun q => atL n q.toNat) ++ [z]) := by rw [take_snoc rs k hkx, hy, List.map_append, hz]; exact rfl
          rw [hy] at hc
          rw [← hz] at CAQ
          have hqb : (q : Int) < 16777216 := by have := HQL.out; omega
          obtain ⟨q0, q1, p0, p1⟩ := HP.out.cells
          clear hy hq hz hkx
          go_wp2_with fail
          refine CAQ.out.mono ?_
          intro e w3 hret
          obtain ⟨D, d2, rfl, o2, e2⟩ := hret.parts
          have HO2 := Lib.hid o2
          have HX2 := Lib.hid e2
          have HWW := Lib.hid HE.out.size
          have HE3 := Lib.hid (HE.out.trans e2)
          clear hret o2 e2 q0 q1 p0 p1 hc
          go_wp2_with (at_builtin; refine app_q w2 w3 rfl _ _ rfl E u k es ((n : Int), D, d2, z) w3.heap.size rfl rfl rfl HL.out (HO.out.ext HX2.out) (HI.out.ext HX2.out) (HO2.out.lower HWW.out) HE3.out (by omega) ?_; intro A2 c2 w4 h1 h2 h3; have HO4 := Lib.hid h1; have HI4 := Lib.hid h2; have HE4 := Lib.hid h3; clear h1 h2 h3)
          go_roundw
          case rel => exact ⟨k + 1, A2, c2, es ++ [((n : Int), D, d2, z)], by omega, by go_num, rfl, by rw [List.length_append, HL.out]; exact rfl, by rw [HTK.out, List.map_append, HZ.out]; unfold rsM; rw [List.map_append]; exact rfl, HO4.out, HI4.out, HE4.out⟩
          case measure => simp [intOf]; omega
        · obtain rfl : k = kl := by omega
          have HV : Hid ((rs.take k).map (fun q => atL n q.toNat) = mvZ n xs) := by rw [HZS.out, List.take_of_length_le (by rw [HRL.out]; exact Nat.le_refl _)]; exact rfl
          have HML : Hid ((mvZ n xs).length ≤ 48) := by rw [HZS.out, List.length_map, HRL.out]; exact hkl
          go_wp2_with fail
          go_ret
          have h9 := HL.out
          subst h9
          exact ⟨E, u, es, mvZ n xs, rfl, by rw [HZ.out, HV.out], HO.out.lower HEW.out.size, HI.out.lower HEW.out.size, HML.out, HZZ.out, HEW.out.trans HE.out⟩
end Go.Proofs.Ytnhppeknkeblfaa
