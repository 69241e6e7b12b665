/- Contract of l24Moves, the walk. -/
import Derived.Test.YtnhppeknkeblfaaMvS
import Derived.Deep.RegionHeld3
namespace Go.Proofs.Ytnhppeknkeblfaa
open Go.RowKit Go.Sort

theorem rsM_app (n : Int) (a b : List (List Int)) : rsM n (a ++ b) = rsM n a ++ rsM n b := by simp [rsM]
theorem ins_mem {zss S T : List (List Int)} {k : Nat} {z : List Int} (h : ∀ y, y ∈ zss ↔ y ∈ S) (hT : T = S ++ [z]) : ∀ y, y ∈ zss.take k ++ [z] ++ zss.drop k ↔ y ∈ T := by
  intro y
  have h1 := h y
  have e : y ∈ zss ↔ y ∈ zss.take k ∨ y ∈ zss.drop k := by
    conv => lhs; rw [← List.take_append_drop k zss]
    rw [List.mem_append]
  rw [hT, List.mem_append, List.mem_append, List.mem_append, ← h1, e]
  constructor
  · rintro ((h | h) | h)
    · exact Or.inl (Or.inl h)
    · exact Or.inr h
    · exact Or.inl (Or.inr h)
  · rintro ((h | h) | h)
    · exact Or.inl (Or.inl h)
    · exact Or.inr h
    · exact Or.inl (Or.inr h)
theorem ins_len {α : Type} {es : List α} {k m : Nat} {e : α} (h : es.length = m) (hk : k ≤ m) : (es.take k ++ [e] ++ es.drop k).length = m + 1 := by
  rw [List.length_append, List.length_append, List.length_take, List.length_drop, h, Nat.min_eq_left hk]
  simp
  omega
theorem ins_rs {es : List (Int × Option Addr × Nat × List Int)} {zss : List (List Int)} {n : Int} {k u : Nat} {E : Option Addr} {z : List Int} (h : es.map (fun x : Int × Option Addr × Nat × List Int => (x.1, x.2.2.2)) = rsM n zss) :
    (es.take k ++ [(n, E, u, z)] ++ es.drop k).map (fun x : Int × Option Addr × Nat × List Int => (x.1, x.2.2.2)) = rsM n (zss.take k ++ [z] ++ zss.drop k) := by
  rw [rsM_app, rsM_app, List.map_append, List.map_append, List.map_take, List.map_drop, h]
  unfold rsM
  rw [← List.map_take, ← List.map_drop]
  rfl
set_option maxRecDepth 20000 in
set_option maxHeartbeats 8000000 in
theorem mvS_any (n : Nat) (A : Option Addr) (c : Nat) (xs : List Int) (w : World) (hr : RdI w A xs) (hb : rhyB n xs = true) :
    Calls Try.prog 39 #[.agg #[.int .i64 n, .slice A xs.length c]] w (RetMv w n (mvL n xs xs.length)) := by
  have hv := rhyB_vals hb
  have hn := (rhyB_iff hb).1
  have hln := rhyB_len hb
  obtain ⟨l, hll⟩ : ∃ l, l = xs.length := ⟨_, rfl⟩
  have CM : Hid (∀ (k : Int) (W : World), -1000 ≤ k → k ≤ 1000 → Calls Try.prog 44 #[.int .i64 k, .int .i64 n] W fun e w' => e = .returned (.int .i64 (k % (n : Int))) ∧ ∃ q, w' = W.drewN q) := fun k W h1 h2 => modS_any k n W (by omega) (by omega)
  have CH : Hid (∀ (k : Int) (W : World), Ext w W → Calls Try.prog 53 #[.slice A l c, .int .i64 k] W fun e w' => e = .returned (.bool (xs.contains k)) ∧ W = w') := fun k W he => by
    rw [hll]; exact has_any A c xs k W (hr.ext he) (by omega)
  have CO : Hid (∀ (D : Option Addr) (d j : Nat) (v : Int) (W : World), RdI W D (xs.set j (v % (n : Int))) → Calls Try.prog 49 #[.int .i64 n, .slice D l d] W (RetR W ((n : Int), ofF n (xs.set j v)))) := fun D d j v W h => by
    have := l02Of_any n D d (xs.set j (v % (n : Int))) W h (by omega) (by rw [List.length_set]; omega)
    rw [List.length_set, ofF_set hb] at this
    rw [hll]
    exact this
  have CT : Hid (∀ (y z : List Int), y.length ≤ 24 → z.length ≤ 24 → ∃ R : Bool, ∀ (D E : Option Addr) (d e : Nat) (W : World), RdI W D y → RdI W E z → Calls Try.prog 54 #[.agg #[.int .i64 n, .slice D y.length d], .agg #[.int .i64 n, .slice E z.length e]] W fun e w' => e = .returned (.bool R) ∧ Ext W w') := fun y z h3 h4 => ⟨_, fun D E d e W h1 h2 => after_any n D E d e y z W h1 h2 (by omega) (by omega) (by omega)⟩
  have CQ : Hid (∀ (D E : Option Addr) (d e : Nat) (y z : List Int) (W : World), RdI W D y → RdI W E z → y.length ≤ 24 → z.length ≤ 24 → Calls Try.prog 40 #[.slice D y.length d, .slice E z.length e] W fun e w' => e = .returned (.bool (decide (y = z))) ∧ Ext W w') := fun D E d e y z W h1 h2 h3 h4 => (same_any D E d e y z W h1 h2 (by omega) (by omega)).mono fun _ _ ⟨h1, q, h2⟩ => ⟨h1, by rw [h2]; exact (Ext.refl _).drewN _⟩
  have HOF : Hid (∀ ys, (ofF n ys).length ≤ 24) := fun ys => by have := rhyB_len (ofF_rhy (n := n) ys (by omega) (by omega)); omega
  have HML : Hid (∀ j s, ∀ z ∈ mvP n xs j s, z.length ≤ 24) := fun j s z hz => by
    have h1 : ∀ s, ∀ z ∈ mvP n xs j s, rhyB n z = true := by
      intro s
      induction s with
      | zero => exact mvL_rhy (by omega) (by omega) j
      | succ s ih =>
        intro z hz
        rw [mvP, List.mem_append] at hz
        rcases hz with hz | hz
        · exact ih z hz
        · exact mv1_rhy (by omega) (by omega) z hz
    have := rhyB_len (h1 s z hz)
    omega
  have HRD := Lib.hid hr
  have HV := Lib.hid hv
  have HL := Lib.hid hll
  have HX0 : Hid (Ext w ((w.alloc (.cells #[.int .i64 n, .slice A l c] 27)).alloc (.cells #[] 27))) := ((Ext.refl w).alloc _).alloc _
  have HG0 := Lib.hid ((Bx2.new w 27 (.int .i64 n) (.slice A l c)).ext ((Ext.refl _).alloc (.cells #[] 27)))
  have HO0 : Hid (OwQ ((w.alloc (.cells #[.int .i64 n, .slice A l c] 27)).alloc (.cells #[] 27)) w.heap.size (some ⟨w.heap.size + 1, 0, none⟩) 0 []) := by
    have := (OwQ.empty (w.alloc (.cells #[.int .i64 n, .slice A l c] 27))).lower ((Ext.refl w).alloc (.cells #[.int .i64 n, .slice A l c] 27)).size
    rwa [show (w.alloc (.cells #[.int .i64 n, .slice A l c] 27)).heap.size = w.heap.size + 1 by simp] at this
  rw [← hll]
  rw [← hll] at hln
  clear hr hb hv hll
  go_enter Try.func39, Try.ntmps39
  go_wp2_with fail
  obtain ⟨W0, hW0⟩ : ∃ W0, W0 = ((w.alloc (.cells #[.int .i64 n, .slice A l c] 27)).alloc (.cells #[] 27)) := ⟨_, rfl⟩
  rw [← hW0] at HX0 HG0 HO0 ⊢
  clear hW0
  obtain ⟨q0, q1, p0, p1⟩ := HG0.out.cells
  go_wp2_with fail
  clear q0 q1 p0 p1
  go_loopw [3, 17] (fun o i wr => ∃ (j m g c2 : Nat) (es : List (Int × Option Addr × Nat × List Int)) (zss : List (List Int)), j ≤ l ∧ m ≤ 2 * j ∧ i = .int .i64 j ∧ o = .slice (some ⟨g, 0, none⟩) m c2 ∧ Hid (es.length = m) ∧ Hid (es.map (fun x : Int × Option Addr × Nat × List Int => (x.1, x.2.2.2)) = rsM n zss) ∧ Hid (∀ z, z ∈ zss ↔ z ∈ mvL n xs j) ∧ Hid (OwQ wr w.heap.size (some ⟨g, 0, none⟩) c2 es) ∧ Hid (InQ wr w.heap.size es) ∧ Hid (Ext W0 wr)) (fun _ i _ => l - (intOf i).toNat)
  case atStart => exact ⟨0, 0, w.heap.size + 1, 0, [], [], by omega, by omega, rfl, rfl, rfl, rfl, fun z => Iff.rfl, HO0.out, InQ.nil _ _, Ext.refl W0⟩
  case round =>
    clear HO0
    obtain ⟨j, m, g, c2, es, zss, hj, hm, rfl, rfl, HLE, HZ, HMZ, HO, HI, HE⟩ := hrel
    by_cases hlt : j < l
    · have hjx : j < xs.length := by rw [← HL.out]; exact hlt
      obtain ⟨b, oA, hA, hc⟩ := (HRD.out.ext (HX0.out.trans HE.out)).at_ j hjx
      subst hA
      obtain ⟨x, hx⟩ : ∃ x, x = xs.getD j 0 := ⟨_, rfl⟩
      have hxr := HV.out j
      rw [← hx] at hc hxr
      have HXE := Lib.hid hx
      obtain ⟨G, hG⟩ : ∃ G, G = wr.heap.size := ⟨_, rfl⟩
      obtain ⟨U, hU⟩ : ∃ U, U = wr.alloc (.cells #[.int .i64 1, .int .i64 (-1)] 3) := ⟨_, rfl⟩
      have HEU : Hid (Ext wr U) := by rw [hU]; exact (Ext.refl _).alloc _
      have HB1 : Hid (RdI U (some ⟨G, 0, none⟩) [1, -1]) := by rw [hU, hG]; exact RdI.built wr [1, -1]
      have HE1 := Lib.hid (HX0.out.trans (HE.out.trans HEU.out))
      have HG1 := Lib.hid (HG0.out.ext (HE.out.trans HEU.out))
      have HO1 := Lib.hid (HO.out.ext HEU.out)
      have HI1 := Lib.hid (HI.out.ext HEU.out)
      clear hx hjx
      go_wp2_with fail
      clear hc
      rw [← hU, ← hG]
      have HEW := Lib.hid (HE.out.trans HEU.out)
      clear hU hG HE HEU HO HI
      go_loopw [3, 24] (fun o i wr => ∃ (s m2 g2 c3 : Nat) (es : List (Int × Option Addr × Nat × List Int)) (zss : List (List Int)), s ≤ 2 ∧ m2 ≤ 2 * j + s ∧ i = .int .i64 s ∧ o = .slice (some ⟨g2, 0, none⟩) m2 c3 ∧ Hid (es.length = m2) ∧ Hid (es.map (fun x : Int × Option Addr × Nat × List Int => (x.1, x.2.2.2)) = rsM n zss) ∧ Hid (∀ z, z ∈ zss ↔ z ∈ mvP n xs j s) ∧ Hid (OwQ wr w.heap.size (some ⟨g2, 0, none⟩) c3 es) ∧ Hid (InQ wr w.heap.size es) ∧ Hid (Ext U wr)) (fun _ i _ => 2 - (intOf i).toNat)
      case atStart => exact ⟨0, m, g, c2, es, zss, by omega, by omega, rfl, rfl, HLE.out, HZ.out, HMZ.out, HO1.out, HI1.out, Ext.refl U⟩
      case round =>
        clear HO1 HI1 HLE HZ HMZ
        obtain ⟨s, m2, g2, c3, es, zss, hs, hm2, rfl, rfl, HLE, HZ, HMZ, HO, HI, HE⟩ := hrel
        have HP := Lib.hid (HG1.out.ext HE.out)
        obtain ⟨q0, q1, p0, p1⟩ := HP.out.cells
        by_cases hlt2 : s < 2
        · obtain ⟨b2, o2, e2, hc2⟩ := (HB1.out.ext HE.out).at_ s hlt2
          injection e2 with e2
          injection e2 with e2 e3 _
          subst e2 e3
          obtain ⟨d, hd⟩ : ∃ d, d = dI s := ⟨_, rfl⟩
          have hdb : -1 ≤ d ∧ d ≤ 1 := by rw [hd]; unfold dI; split <;> omega
          have hcd : ([1, -1] : List Int).getD s 0 = d := by
            rw [hd]
            rcases (show s = 0 ∨ s = 1 by omega) with e | e <;> rw [e] <;> rfl
          rw [hcd, Nat.zero_add] at hc2
          have HNX : Hid (mvP n xs j (s + 1) = mvP n xs j s ++ (if xs.contains ((x + d) % (n : Int)) = true then [] else [ofF n (xs.set j (x + d))])) := by rw [mvP, ← hd, mv1, ← HXE.out]; exact rfl
          have CMX := Lib.hid (CM.out (x + d) wr (by omega) (by omega))
          obtain ⟨r, hr⟩ : ∃ r, r = (x + d) % (n : Int) := ⟨_, rfl⟩
          have CHX : Hid (∀ W : World, Ext w W → Calls Try.prog 53 #[.slice (some ⟨b, oA, none⟩) l c, .int .i64 r] W fun e w' => e = .returned (.bool (xs.contains r)) ∧ W = w') := fun W he => CH.out r W he
          have COX : Hid (∀ (D : Option Addr) (d2 : Nat) (W : World), RdI W D (xs.set j r) → Calls Try.prog 49 #[.int .i64 n, .slice D l d2] W (RetR W ((n : Int), ofF n (xs.set j (x + d))))) := fun D d2 W h => CO.out D d2 j (x + d) W (by rw [← hr]; exact h)
          rw [← hr] at CMX HNX
          obtain ⟨R, hR⟩ : ∃ R, R = xs.contains r := ⟨_, rfl⟩
          rw [← hR] at CHX HNX
          clear hd hcd hR hr
          go_wp2_with fail
          refine CMX.out.mono ?_
          rintro e w1 ⟨rfl, e1⟩
          have HX1 : Hid (Ext wr w1) := by obtain ⟨q, rfl⟩ := e1; exact (Ext.refl _).drewN _
          have HP1 := Lib.hid (HP.out.ext HX1.out)
          have HEX := Lib.hid (HE1.out.trans (HE.out.trans HX1.out))
          clear e1 q0 q1 p0 p1 hc2 CMX
          obtain ⟨q0, q1, p0, p1⟩ := HP1.out.cells
          go_wp2_with fail
          refine (CHX.out _ HEX.out).mono ?_
          rintro e w2 ⟨rfl, rfl⟩
          cases R
          · have HN2 : Hid (mvP n xs j (s + 1) = mvP n xs j s ++ [ofF n (xs.set j (x + d))]) := HNX.out
            have HRX := Lib.hid (HRD.out.ext (HEX.out.alloc (.cells #[] 3)))
            have HOE : Hid (OwI (w1.alloc (.cells #[] 3)) w1.heap.size (some ⟨w1.heap.size, 0, none⟩) 0 []) := OwI.empty w1
            have hjx : j < xs.length := by rw [← HL.out]; exact hlt
            have HJX := Lib.hid hjx
            have HPE := Lib.hid (HP1.out.ext ((Ext.refl _).alloc (.cells #[] 3)))
            clear hjx CHX q0 q1 p0 p1
            obtain ⟨q0, q1, p0, p1⟩ := HPE.out.cells
            go_wp2_with (at_builtin; refine app_ints w1 rfl _ _ rfl (some ⟨w1.heap.size, 0, none⟩) 0 0 [] _ l c xs rfl rfl rfl HL.out.symm HOE.out HRX.out ((Ext.refl _).alloc _) (by omega) ?_; intro A' c' w3 h1 h2 h3; obtain ⟨q, hD, hLg, hfz, hcg, ho4⟩ := OwI.set (xs := xs) h1 j HJX.out r; subst hD; have HO4 := Lib.hid ho4; have HLG := Lib.hid hLg; have HE4 : Hid (Ext w1 (w3.setCell ⟨q, j, none⟩ (.int .i64 r))) := h2.setCell hLg _; have HP4 := Lib.hid (HP1.out.ext HE4.out); clear h1 h2 h3 ho4 hLg q0 q1 p0 p1; obtain ⟨q0, q1, p0, p1⟩ := HP4.out.cells)
            clear HPE HRX HOE
            have HGE : Hid (w1.heap.size ≤ q) := HLG.out
            have CX4 := Lib.hid (COX.out (some ⟨q, 0, none⟩) c' _ HO4.out.rd)
            obtain ⟨z, hz⟩ := (⟨_, rfl⟩ : ∃ z, z = ofF n (xs.set j (x + d)))
            have HZL : Hid (z.length ≤ 24) := by rw [hz]; exact HOF.out _
            rw [← hz] at CX4 HN2
            have HQQ : Hid (q ≠ w.heap.size) := by
              have h1 := HEX.out.size
              have h3 := HLG.out
              have h2 := HP1.out.lt
              exact (by omega : q ≠ w.heap.size)
            clear hz COX
            refine CX4.out.mono ?_
            intro e w5 hret
            obtain ⟨E, u, rfl, o5, e5⟩ := hret.parts
            have HX5 := Lib.hid (HE4.out.trans e5)
            have HO5 := Lib.hid (o5.lower HE4.out.size)
            clear hret o5 e5 q0 q1 p0 p1 CX4 HP4
            go_wp2_with fail
            obtain ⟨hlen, hrow⟩ := row_atM HO.out HI.out HZ.out
            have HROW := Lib.hid hrow
            have HZLE : Hid (zss.length = m2) := by rw [← hlen]; exact HLE.out
            obtain ⟨H, hH⟩ : ∃ H, H = w5.heap.size := ⟨_, rfl⟩
            have HEL : Hid (∀ ad, E = some ad → ad.block ≠ H) := fun ad had => by have := (HO5.out.lt ad had).2; omega
            have HH := Lib.hid hH
            rw [← hH]
            have HHW : Hid (w1.heap.size ≤ H) := by rw [hH]; exact HX5.out.size
            clear hlen hrow hH
            go_loopw [11] (fun i wr => ∃ k : Nat, k ≤ m2 ∧ i = .int .i64 k ∧ Hid (Bx2 wr H 27 (.int .i64 n) (.slice E z.length u)) ∧ Hid (OwI wr w1.heap.size E u z) ∧ Hid (Ext w1 wr)) (fun i _ => m2 - (intOf i).toNat)
            case atStart =>
              have hhw := HHW.out
              exact ⟨0, by omega, rfl, by rw [HH.out]; exact Bx2.new w5 _ _ _, HO5.out.ext ((Ext.refl _).alloc _), HX5.out.alloc _⟩
            case round =>
              clear HO5 HX5
              obtain ⟨k, hkm, rfl, HBV, HOV, HEV⟩ := hrel
              obtain ⟨q2, q3, p2, p3⟩ := HBV.out.cells
              by_cases hlt3 : k < m2
              · obtain ⟨b9, o9, D, d9, hA9, z0, z1, hrd⟩ := HROW.out wr (HX1.out.trans HEV.out) k (by rw [HZLE.out]; exact hlt3)
                injection hA9 with hA9
                injection hA9 with hA9 hA8 _
                subst hA9 hA8
                rw [Nat.zero_add] at z0 z1
                obtain ⟨y, hy⟩ : ∃ y, y = zss.getD k [] := ⟨_, rfl⟩
                rw [← hy] at z1 hrd
                have HYM : Hid (y ∈ zss) := by rw [hy]; exact getD_memM (by rw [HZLE.out]; exact hlt3)
                have HYL : Hid (y.length ≤ 24) := HML.out j s y ((HMZ.out y).1 HYM.out)
                have HRY := Lib.hid hrd
                obtain ⟨R, hR⟩ := CT.out y z HYL.out HZL.out
                have CR : Hid (∀ W : World, Ext wr W → Calls Try.prog 54 #[.agg #[.int .i64 n, .slice D y.length d9], .agg #[.int .i64 n, .slice E z.length u]] W fun e w' => e = .returned (.bool R) ∧ Ext W w') := fun W he => hR D E d9 u W (HRY.out.ext he) (HOV.out.rd.ext he)
                have CS : Hid (∀ W : World, Ext wr W → Calls Try.prog 40 #[.slice D y.length d9, .slice E z.length u] W fun e w' => e = .returned (.bool (decide (y = z))) ∧ Ext W w') := fun W he => CQ.out D E d9 u y z W (HRY.out.ext he) (HOV.out.rd.ext he) HYL.out HZL.out
                have hd : decide ((k : Int) < (m2 : Int)) = true := by simpa using hlt3
                clear hy hrd hR p2 p3
                go_wp2_with fail
                go_region_held3 (fun V => V.cell? ⟨g2, k * 2, none⟩ = some (.int .i64 n) ∧ V.cell? ⟨g2, k * 2 + 1, none⟩ = some (.slice D y.length d9) ∧ V.cell? ⟨H, 0, none⟩ = some (.int .i64 n) ∧ V.cell? ⟨H, 1, none⟩ = some (.slice E z.length u))
                  (first | exact ⟨z0, z1, q2, q3⟩ | exact ⟨Ext.cell e1 z0, Ext.cell e1 z1, Ext.cell e1 q2, Ext.cell e1 q3⟩)
                  (first
                    | (go_at_call 54; refine (CR.out (World.drew wr) ((Ext.refl wr).drew)).mono ?_; rintro e V1 ⟨rfl, e1⟩))
                have HX2 := Lib.hid ((Ext.refl wr).drew.trans e1)
                have HBV1 := Lib.hid (HBV.out.ext HX2.out)
                have HOV1 := Lib.hid (HOV.out.ext HX2.out)
                have HEV1 := Lib.hid (HEV.out.trans HX2.out)
                have r0 := Ext.cell e1 z0
                have r1 := Ext.cell e1 z1
                clear e1 z0 z1 q2 q3 CR hd
                cases R
                · have hd2 : decide ((k : Int) < (m2 : Int)) = true := by simpa using hlt3
                  obtain ⟨q2, q3, p2, p3⟩ := HBV1.out.cells
                  clear p2 p3
                  have CSV := Lib.hid fun W he => CS.out W (HX2.out.trans he)
                  by_cases hyz : y = z
                  · rw [show decide (y = z) = true from decide_eq_true hyz] at CSV
                    have HNZ : Hid (∀ v, v ∈ zss ↔ v ∈ mvP n xs j (s + 1)) := fun v => by
                      rw [HN2.out, List.mem_append, ← HMZ.out v]
                      constructor
                      · exact fun h => Or.inl h
                      · rintro (h | h)
                        · exact h
                        · simp only [List.mem_cons, List.not_mem_nil, or_false] at h
                          rw [h, ← hyz]
                          exact HYM.out
                    clear hyz
                    go_wp2_with fail
                    go_region_held3 (fun V => V.cell? ⟨g2, k * 2, none⟩ = some (.int .i64 n) ∧ V.cell? ⟨g2, k * 2 + 1, none⟩ = some (.slice D y.length d9) ∧ V.cell? ⟨H, 0, none⟩ = some (.int .i64 n) ∧ V.cell? ⟨H, 1, none⟩ = some (.slice E z.length u))
                      (first | exact ⟨r0, r1, q2, q3⟩ | exact ⟨Ext.cell e1 r0, Ext.cell e1 r1, Ext.cell e1 q2, Ext.cell e1 q3⟩)
                      (first
                        | (go_at_call 40; refine (CSV.out (World.drew V1) ((Ext.refl V1).drew)).mono ?_; rintro e V2 ⟨rfl, e1⟩))
                    have HX3 := Lib.hid ((Ext.refl V1).drew.trans e1)
                    have HEE := Lib.hid (HE.out.trans (HX1.out.trans (HEV1.out.trans HX3.out)))
                    have HQE := Lib.hid (HO.out.ext (HX1.out.trans (HEV1.out.trans HX3.out)))
                    have HIE := Lib.hid (HI.out.ext (HX1.out.trans (HEV1.out.trans HX3.out)))
                    clear e1 r0 r1 q2 q3 CSV
                    go_wp2_with fail
                    go_roundw
                    case rel => exact ⟨s + 1, m2, g2, c3, es, zss, by omega, by omega, by go_num, rfl, HLE.out, HZ.out, HNZ.out, HQE.out, HIE.out, HEE.out⟩
                    case measure => simp [intOf]; omega
                  · rw [show decide (y = z) = false from decide_eq_false hyz] at CSV
                    clear hyz
                    go_wp2_with fail
                    go_region_held3 (fun V => V.cell? ⟨g2, k * 2, none⟩ = some (.int .i64 n) ∧ V.cell? ⟨g2, k * 2 + 1, none⟩ = some (.slice D y.length d9) ∧ V.cell? ⟨H, 0, none⟩ = some (.int .i64 n) ∧ V.cell? ⟨H, 1, none⟩ = some (.slice E z.length u))
                      (first | exact ⟨r0, r1, q2, q3⟩ | exact ⟨Ext.cell e1 r0, Ext.cell e1 r1, Ext.cell e1 q2, Ext.cell e1 q3⟩)
                      (first
                        | (go_at_call 40; refine (CSV.out (World.drew V1) ((Ext.refl V1).drew)).mono ?_; rintro e VV ⟨rfl, e1⟩))
                    have HX3 := Lib.hid ((Ext.refl V1).drew.trans e1)
                    clear HBV HOV HEV
                    have HBV := Lib.hid (HBV1.out.ext HX3.out)
                    have HOV := Lib.hid (HOV1.out.ext HX3.out)
                    have HEV := Lib.hid (HEV1.out.trans HX3.out)
                    have HCK : Hid (¬ c3 = k) := by have := HO.out.capLe.1; have := HLE.out; exact (by omega : ¬ c3 = k)
                    clear e1 r0 r1 q2 q3 CSV HBV1 HOV1 HEV1
                    have HCAP := Lib.hid (HO.out.capLe)
                    have hkc : k ≤ c3 := by have := HCAP.out.1; have := HLE.out; omega
                    have hkc2 : (k : Int) ≤ (c3 : Int) := by omega
                    have hce : ¬ (c3 = k) := HCK.out
                    have HLT : Hid ((es.take k).length = k) := by rw [List.length_take, HLE.out]; exact Nat.min_eq_left hkm
                    have HQV := Lib.hid ((HO.out.ext HX1.out).ext HEV.out)
                    have HIV := Lib.hid ((HI.out.ext HX1.out).ext HEV.out)
                    have HOW : Hid (OwI VV w.heap.size E u z) := HOV.out.lower HEX.out.size
                    go_wp2_with (first
                      | (at_builtin; refine app_qs VV _ rfl _ _ rfl VV.heap.size 0 0 [] ⟨g2, 0, none⟩ k c3 (es.take k) w.heap.size rfl rfl rfl HLT.out (OwQ.empty VV) (InQ.nil _ _) (fun f hf => (HIV.out.ext ((Ext.refl _).alloc _)) f (List.mem_of_mem_take hf)) (fun jj uu hh => by have := (HQV.out.ext ((Ext.refl VV).alloc (.cells #[] 27))).cellsAt jj uu (rowQ_take es k jj uu hh); simpa [Addr.add_lit] using this) ((Ext.refl _).alloc _) (by omega) ?_; intro g3 c4 V2 h1 h2 h3; rw [Nat.zero_add]; have HQ2 : Hid (OwQ V2 VV.heap.size (some ⟨g3, 0, none⟩) c4 (es.take k)) := h1; have HI2 : Hid (InQ V2 w.heap.size (es.take k)) := h2; have HE2 := Lib.hid h3; clear h1 h2 h3; have HB2 := Lib.hid (HBV.out.ext HE2.out); obtain ⟨q4, q5, p4, p5⟩ := HB2.out.cells)
                      | (at_builtin; refine app_q1 VV V2 rfl _ _ rfl g3 c4 k (es.take k) ((n : Int), E, u, z) V2.heap.size w.heap.size rfl rfl rfl HLT.out HQ2.out HI2.out (HOW.out.ext HE2.out) HE2.out (by omega) ?_; intro g4 c5 V3 h1 h2 h3; have HQ3 := Lib.hid h1; have HI3 := Lib.hid h2; have HE3 := Lib.hid h3; clear h1 h2 h3; clear q4 q5 p4 p5)
                      | (at_builtin; refine app_qs VV V3 rfl _ _ rfl g4 c5 (k + 1) (es.take k ++ [((n : Int), E, u, z)]) ⟨g2, k * 2, none⟩ (m2 - k) _ (es.drop k) w.heap.size rfl rfl (by rw [List.length_append, HLT.out]; exact rfl) (by rw [List.length_drop, HLE.out]) HQ3.out HI3.out (fun f hf => (HIV.out.ext HE3.out) f (List.mem_of_mem_drop hf)) (fun jj uu hh => by have := (HQV.out.ext HE3.out).cellsAt (k * 2 + jj) uu (rowQ_drop es k jj uu (by rw [HLE.out]; exact hkm) hh); simpa [Addr.add_lit] using this) HE3.out (by omega) ?_; intro g5 c6 V4 h1 h2 h3; rw [show k + 1 + (m2 - k) = m2 + 1 by omega]; have HQ4 := Lib.hid h1; have HI4 := Lib.hid h2; have HE4b := Lib.hid h3; clear h1 h2 h3))
                    go_roundw
                    case rel =>
                      have hsz := (HE.out.trans (HX1.out.trans HEV.out)).size
                      have hwz := HE1.out.size
                      exact ⟨s + 1, m2 + 1, g5, c6, es.take k ++ [((n : Int), E, u, z)] ++ es.drop k, zss.take k ++ [z] ++ zss.drop k, by omega, by omega, by go_num, rfl, ins_len HLE.out hkm, ins_rs HZ.out, ins_mem HMZ.out HN2.out, HQ4.out.lower (by omega), HI4.out, HE.out.trans (HX1.out.trans (HEV.out.trans HE4b.out))⟩
                    case measure => simp [intOf]; omega
                · go_wp2_with fail
                  go_roundw
                  case rel => exact ⟨k + 1, by omega, by go_num, HBV1.out, HOV1.out, HEV1.out⟩
                  case measure => simp [intOf]; omega
              · obtain rfl : k = m2 := by omega
                have hd : decide ((k : Int) < (k : Int)) = false := by simp
                go_wp2_with fail
                go_quiet (fail)
                obtain ⟨V1, hV1⟩ : ∃ V1, V1 = wr.drewN nq := ⟨_, rfl⟩
                have HX2 : Hid (Ext wr V1) := by rw [hV1]; exact (Ext.refl _).drewN _
                rw [← hV1]
                clear hV1
                go_wp2_with fail
                go_quiet (fail)
                obtain ⟨VV, hVV⟩ : ∃ VV, VV = V1.drewN nq := ⟨_, rfl⟩
                have HX3 : Hid (Ext wr VV) := by rw [hVV]; exact HX2.out.drewN _
                rw [← hVV]
                have HBV1 := HBV
                have HOV1 := HOV
                have HEV1 := HEV
                clear hVV HBV HOV HEV q2 q3 p2 p3 hd
                have HBV := Lib.hid (HBV1.out.ext HX3.out)
                have HOV := Lib.hid (HOV1.out.ext HX3.out)
                have HEV := Lib.hid (HEV1.out.trans HX3.out)
                clear HBV1 HOV1 HEV1
                by_cases hck : c3 = k
                · have hck2 := hck.symm
                  subst hck2
                  have HCAP := Lib.hid (HO.out.capLe)
                  have hkc : k ≤ k := by have := HCAP.out.1; have := HLE.out; omega
                  have hkc2 : (k : Int) ≤ (k : Int) := by omega
                  have HLT : Hid ((es.take k).length = k) := by rw [List.length_take, HLE.out]; exact Nat.min_eq_left hkm
                  have HQV := Lib.hid ((HO.out.ext HX1.out).ext HEV.out)
                  have HIV := Lib.hid ((HI.out.ext HX1.out).ext HEV.out)
                  have HOW : Hid (OwI VV w.heap.size E u z) := HOV.out.lower HEX.out.size
                  go_wp2_with (first
                    | (at_builtin; refine app_qs VV _ rfl _ _ rfl VV.heap.size 0 0 [] ⟨g2, 0, none⟩ k k (es.take k) w.heap.size rfl rfl rfl HLT.out (OwQ.empty VV) (InQ.nil _ _) (fun f hf => (HIV.out.ext ((Ext.refl _).alloc _)) f (List.mem_of_mem_take hf)) (fun jj uu hh => by have := (HQV.out.ext ((Ext.refl VV).alloc (.cells #[] 27))).cellsAt jj uu (rowQ_take es k jj uu hh); simpa [Addr.add_lit] using this) ((Ext.refl _).alloc _) (by omega) ?_; intro g3 c4 V2 h1 h2 h3; rw [Nat.zero_add]; have HQ2 : Hid (OwQ V2 VV.heap.size (some ⟨g3, 0, none⟩) c4 (es.take k)) := h1; have HI2 : Hid (InQ V2 w.heap.size (es.take k)) := h2; have HE2 := Lib.hid h3; clear h1 h2 h3; have HB2 := Lib.hid (HBV.out.ext HE2.out); obtain ⟨q4, q5, p4, p5⟩ := HB2.out.cells)
                    | (at_builtin; refine app_q1 VV V2 rfl _ _ rfl g3 c4 k (es.take k) ((n : Int), E, u, z) V2.heap.size w.heap.size rfl rfl rfl HLT.out HQ2.out HI2.out (HOW.out.ext HE2.out) HE2.out (by omega) ?_; intro g4 c5 V3 h1 h2 h3; have HQ3 := Lib.hid h1; have HI3 := Lib.hid h2; have HE3 := Lib.hid h3; clear h1 h2 h3; clear q4 q5 p4 p5)
                    | (at_builtin; refine app_qs VV V3 rfl _ _ rfl g4 c5 (k + 1) (es.take k ++ [((n : Int), E, u, z)]) _ 0 _ (es.drop k) w.heap.size rfl rfl (by rw [List.length_append, HLT.out]; exact rfl) (by rw [List.length_drop, HLE.out]; omega) HQ3.out HI3.out (fun f hf => (HIV.out.ext HE3.out) f (List.mem_of_mem_drop hf)) (fun jj uu hh => absurd hh (by rw [List.drop_eq_nil_of_le (by rw [HLE.out]; omega)]; simp [rowQ])) HE3.out (by omega) ?_; intro g5 c6 V4 h1 h2 h3; rw [show k + 1 + (0) = k + 1 by omega]; have HQ4 := Lib.hid h1; have HI4 := Lib.hid h2; have HE4b := Lib.hid h3; clear h1 h2 h3))
                  go_roundw
                  case rel =>
                    have hsz := (HE.out.trans (HX1.out.trans HEV.out)).size
                    have hwz := HE1.out.size
                    exact ⟨s + 1, k + 1, g5, c6, es.take k ++ [((n : Int), E, u, z)] ++ es.drop k, zss.take k ++ [z] ++ zss.drop k, by omega, by omega, by go_num, rfl, ins_len HLE.out hkm, ins_rs HZ.out, ins_mem HMZ.out HN2.out, HQ4.out.lower (by omega), HI4.out, HE.out.trans (HX1.out.trans (HEV.out.trans HE4b.out))⟩
                  case measure => simp [intOf]; omega
                · have HCK := Lib.hid hck
                  clear hck
                  have HCAP := Lib.hid (HO.out.capLe)
                  have hkc : k ≤ c3 := by have := HCAP.out.1; have := HLE.out; omega
                  have hkc2 : (k : Int) ≤ (c3 : Int) := by omega
                  have hce : ¬ (c3 = k) := HCK.out
                  have HLT : Hid ((es.take k).length = k) := by rw [List.length_take, HLE.out]; exact Nat.min_eq_left hkm
                  have HQV := Lib.hid ((HO.out.ext HX1.out).ext HEV.out)
                  have HIV := Lib.hid ((HI.out.ext HX1.out).ext HEV.out)
                  have HOW : Hid (OwI VV w.heap.size E u z) := HOV.out.lower HEX.out.size
                  go_wp2_with (first
                    | (at_builtin; refine app_qs VV _ rfl _ _ rfl VV.heap.size 0 0 [] ⟨g2, 0, none⟩ k c3 (es.take k) w.heap.size rfl rfl rfl HLT.out (OwQ.empty VV) (InQ.nil _ _) (fun f hf => (HIV.out.ext ((Ext.refl _).alloc _)) f (List.mem_of_mem_take hf)) (fun jj uu hh => by have := (HQV.out.ext ((Ext.refl VV).alloc (.cells #[] 27))).cellsAt jj uu (rowQ_take es k jj uu hh); simpa [Addr.add_lit] using this) ((Ext.refl _).alloc _) (by omega) ?_; intro g3 c4 V2 h1 h2 h3; rw [Nat.zero_add]; have HQ2 : Hid (OwQ V2 VV.heap.size (some ⟨g3, 0, none⟩) c4 (es.take k)) := h1; have HI2 : Hid (InQ V2 w.heap.size (es.take k)) := h2; have HE2 := Lib.hid h3; clear h1 h2 h3; have HB2 := Lib.hid (HBV.out.ext HE2.out); obtain ⟨q4, q5, p4, p5⟩ := HB2.out.cells)
                    | (at_builtin; refine app_q1 VV V2 rfl _ _ rfl g3 c4 k (es.take k) ((n : Int), E, u, z) V2.heap.size w.heap.size rfl rfl rfl HLT.out HQ2.out HI2.out (HOW.out.ext HE2.out) HE2.out (by omega) ?_; intro g4 c5 V3 h1 h2 h3; have HQ3 := Lib.hid h1; have HI3 := Lib.hid h2; have HE3 := Lib.hid h3; clear h1 h2 h3; clear q4 q5 p4 p5)
                    | (at_builtin; refine app_qs VV V3 rfl _ _ rfl g4 c5 (k + 1) (es.take k ++ [((n : Int), E, u, z)]) _ 0 _ (es.drop k) w.heap.size rfl rfl (by rw [List.length_append, HLT.out]; exact rfl) (by rw [List.length_drop, HLE.out]; omega) HQ3.out HI3.out (fun f hf => (HIV.out.ext HE3.out) f (List.mem_of_mem_drop hf)) (fun jj uu hh => absurd hh (by rw [List.drop_eq_nil_of_le (by rw [HLE.out]; omega)]; simp [rowQ])) HE3.out (by omega) ?_; intro g5 c6 V4 h1 h2 h3; rw [show k + 1 + (0) = k + 1 by omega]; have HQ4 := Lib.hid h1; have HI4 := Lib.hid h2; have HE4b := Lib.hid h3; clear h1 h2 h3))
                  go_roundw
                  case rel =>
                    have hsz := (HE.out.trans (HX1.out.trans HEV.out)).size
                    have hwz := HE1.out.size
                    exact ⟨s + 1, k + 1, g5, c6, es.take k ++ [((n : Int), E, u, z)] ++ es.drop k, zss.take k ++ [z] ++ zss.drop k, by omega, by omega, by go_num, rfl, ins_len HLE.out hkm, ins_rs HZ.out, ins_mem HMZ.out HN2.out, HQ4.out.lower (by omega), HI4.out, HE.out.trans (HX1.out.trans (HEV.out.trans HE4b.out))⟩
                  case measure => simp [intOf]; omega
          · have HN2 : Hid (mvP n xs j (s + 1) = mvP n xs j s) := by rw [HNX.out]; exact List.append_nil _
            go_wp2_with fail
            go_roundw
            case rel => exact ⟨s + 1, m2, g2, c3, es, zss, by omega, by omega, by go_num, rfl, HLE.out, HZ.out, by rw [HN2.out]; exact HMZ.out, HO.out.ext HX1.out, HI.out.ext HX1.out, HE.out.trans HX1.out⟩
            case measure => simp [intOf]; omega
        · obtain rfl : s = 2 := by omega
          go_wp2_with fail
          go_roundw
          case rel => exact ⟨j + 1, m2, g2, c3, es, zss, by omega, by omega, by go_num, rfl, HLE.out, HZ.out, by rw [← mvP_two]; exact HMZ.out, HO.out, HI.out, HEW.out.trans HE.out⟩
          case measure => simp [intOf]; omega
    · obtain rfl : j = l := by omega
      have hzl : zss.length ≤ 48 := by
        have h1 := congrArg List.length HZ.out
        unfold rsM at h1
        rw [List.length_map, List.length_map, HLE.out] at h1
        omega
      have HZL := Lib.hid hzl
      clear hzl
      go_wp2_with fail
      go_ret
      have h9 := HLE.out
      subst h9
      exact ⟨_, c2, es, zss, rfl, HZ.out, HO.out, HI.out, HZL.out, HMZ.out, HX0.out.trans HE.out⟩
end Go.Proofs.Ytnhppeknkeblfaa
