/- FnBars: facts about a doubled bar; the law's walk. -/
import Derived.Test.YtedlmidhakmgpaaFbA
import Derived.Test.YtedlmidhakmgpaaFbB
namespace Go.Proofs.Ytedlmidhakmgpaa
open Go.RowKit

theorem dblF_sum (xs : List Int) : (dblF xs).sum = 2 * xs.sum := by
  induction xs with
  | nil => rfl
  | cons x xs ih =>
    have e : dblF (x :: xs) = x :: x :: dblF xs := rfl
    rw [e, List.sum_cons, List.sum_cons, List.sum_cons, ih]
    omega
theorem dblF_mem (xs : List Int) (y : Int) : y ∈ dblF xs → y ∈ xs := by
  unfold dblF
  simp only [List.mem_flatMap, List.mem_cons, List.not_mem_nil, or_false]
  rintro ⟨x, hx, rfl | rfl⟩ <;> exact hx
theorem dbB_of {ys : List Int} (h : okBar ys) : dbB ys = (decide (2 * ys.sum ≤ 24) && decide (2 * (ys.length : Int) ≤ 12)) := by
  have h1 := okBar_barB h
  have h2 : allB (dblF ys) 2 3 = true := allB_iff.2 fun y hy => h.2.2 y (dblF_mem ys y hy)
  have h3 : inB (dblF ys).length 1 12 = decide (2 * (ys.length : Int) ≤ 12) := by
    rw [dblF_len]
    by_cases h4 : 2 * (ys.length : Int) ≤ 12
    · rw [decide_eq_true h4, inB_iff]
      have := h.1
      omega
    · rw [decide_eq_false h4, ← Bool.not_eq_true, inB_iff]
      omega
  unfold dbB
  rw [h1, Bool.true_and]
  unfold barB
  rw [h2, h3, Bool.true_and, dblF_sum, Bool.and_comm]

set_option maxRecDepth 100000 in
set_option maxHeartbeats 8000000 in
theorem core_FnBars (w : World) (A0 : Option Addr) (c0 l0 : Nat) (hl0 : l0 ≤ 1048576)
    (CN : Hid (∀ (m : Int) (W : World), 0 ≤ m → m ≤ 1000 → Ext w W → Calls Try.prog 43 #[.slice A0 l0 c0, .int .i64 m] W (RetNum W)))
    (CB : Hid (∀ (m : Int) (W : World), 0 ≤ m → m ≤ 1000 → Ext w W → Calls Try.prog 46 #[.slice A0 l0 c0, .int .i64 m] W (RetDraw W W.heap.size))) :
    Calls Try.prog 12 #[.slice A0 l0 c0] w fun e w' => e = .returned (.bool true) ∧ Ext w w' := by
  go_enter Try.func12, Try.ntmps12
  go_wp2_with fail
  refine (CN.out _ _ (by omega) (by omega) (Ext.refl w)).mono ?_
  rintro e w1 ⟨a, rfl, ha, he1⟩
  have E1 := Lib.hid he1
  clear he1
  obtain ⟨N, hN⟩ : ∃ N : Nat, N = 3 + a % 12 := ⟨_, rfl⟩
  have hN1 : 3 ≤ N ∧ N ≤ 14 := by omega
  have hN' : (3 : Int) + (a : Int) % 12 = (N : Int) := by omega
  clear hN
  have hff := fb_facts (n := N) hN1.1 hN1.2
  obtain ⟨L, hL⟩ : ∃ L, L = barsL N := ⟨_, rfl⟩
  have CO : Hid (∀ W : World, Calls Try.prog 20 #[.int .i64 N] W (RetSS W L)) := fun W => by
    have := boI_any N W
    have e : boF N = L := by unfold boF; rw [if_pos (inB_iff.2 (by omega)), hL]; rfl
    rwa [e] at this
  obtain ⟨ln, hln⟩ : ∃ ln, ln = L.length := ⟨_, rfl⟩
  obtain ⟨c2, hc2⟩ : ∃ c2, c2 = (barsL (N - 2)).length := ⟨_, rfl⟩
  obtain ⟨c3, hc3⟩ : ∃ c3, c3 = (barsL (N - 3)).length := ⟨_, rfl⟩
  have C1 : Hid (∀ W : World, Calls Try.prog 14 #[.int .i64 N] W fun e w' => e = .returned (.int .i64 ln) ∧ Ext W w') := fun W => by
    have := cbI_any N W
    have e : cbF N = ln := by unfold cbF; rw [if_pos (inB_iff.2 (by omega)), Int.toNat_natCast, ← hL, hln]
    rwa [e] at this
  have C2 : Hid (∀ W : World, Calls Try.prog 14 #[.int .i64 ((N : Int) - 2)] W fun e w' => e = .returned (.int .i64 c2) ∧ Ext W w') := fun W => by
    have := cbI_any ((N : Int) - 2) W
    have e : cbF ((N : Int) - 2) = c2 := by unfold cbF; rw [if_pos (inB_iff.2 (by omega)), show ((N : Int) - 2).toNat = N - 2 by omega, hc2]
    rwa [e] at this
  have C3 : Hid (∀ W : World, Calls Try.prog 14 #[.int .i64 ((N : Int) - 3)] W fun e w' => e = .returned (.int .i64 c3) ∧ Ext W w') := fun W => by
    have := cbI_any ((N : Int) - 3) W
    have e : cbF ((N : Int) - 3) = c3 := by unfold cbF; rw [if_pos (inB_iff.2 (by omega)), show ((N : Int) - 3).toNat = N - 3 by omega, hc3]
    rwa [e] at this
  obtain ⟨rd, hrd⟩ : ∃ rd, rd = (L.filter roundB).length := ⟨_, rfl⟩
  have C4 : Hid (∀ W : World, Calls Try.prog 34 #[.int .i64 N] W fun e w' => e = .returned (.int .i64 rd) ∧ Ext W w') := fun W => by
    have := crI_any N W
    have e : crF N = rd := by unfold crF; rw [if_pos (inB_iff.2 (by omega)), Int.toNat_natCast, ← hL, hrd]
    rwa [e] at this
  rw [← hL] at hff
  obtain ⟨f1, f2, f3, f4, f5⟩ := hff
  rw [← hln, ← hc2, ← hc3] at f1
  rw [← hln] at f2 f4 f5
  rw [← hrd] at f3
  have hb1 : ((ln : Int) != (c2 : Int) + (c3 : Int)) = false := by simp; omega
  have HF := Lib.hid f5
  have HLN := Lib.hid hln
  have HRD := Lib.hid hrd
  have hrl : rd ≤ ln := by rw [hrd, hln]; exact List.length_filter_le _ _
  have hc2b : c2 ≤ ln ∧ c3 ≤ ln := by omega
  clear f1 f5 hL hln hc2 hc3 hrd
  go_wp2_with fail
  try rw [hN']
  clear hN' ha
  refine (CO.out _).mono ?_
  rintro e w2 ⟨v, rfl, ho, he⟩
  obtain ⟨A, c, l, vs, rfl, hll, _, _⟩ := ho.parts
  have HO := Lib.hid ho
  have E2 := Lib.hid (E1.out.trans he)
  obtain rfl : ln = l := by rw [HLN.out, hll]
  clear ho he hll E1 CO
  go_wp2_with fail
  refine (C1.out _).mono ?_
  rintro e w3 ⟨rfl, e3⟩
  have E3 := Lib.hid (E2.out.trans e3)
  have X3 := Lib.hid e3
  clear e3
  go_wp2_with fail
  refine (C1.out _).mono ?_
  rintro e w4 ⟨rfl, e4⟩
  have X4 := Lib.hid (X3.out.trans e4)
  clear e4 X3 E3
  go_wp2_with fail
  refine (C2.out _).mono ?_
  rintro e w5 ⟨rfl, e5⟩
  have X5 := Lib.hid (X4.out.trans e5)
  clear e5 X4
  go_wp2_with fail
  refine (C3.out _).mono ?_
  rintro e w6 ⟨rfl, e6⟩
  have X6 := Lib.hid (X5.out.trans e6)
  clear e6 X5
  go_wp2_with fail
  clear hb1 C1 C2 C3
  go_loopw [5, 50] (fun s i wr => ∃ (k t : Nat), k ≤ ln ∧ i = .int .i64 k ∧ s = .int .i64 t ∧ t ≤ k ∧ Hid (t = ((L.take k).filter roundB).length) ∧ Hid (Ext w2 wr)) (fun _ i _ => ln - (intOf i).toNat)
  case atStart => exact ⟨0, 0, Nat.zero_le _, rfl, rfl, by omega, rfl, X6.out⟩
  case round =>
    clear X6
    obtain ⟨k, t, hk, rfl, rfl, ht, HT, HE⟩ := hrel
    by_cases hlt : k < ln
    · have hkx : k < L.length := by rw [← HLN.out]; exact hlt
      obtain ⟨b1, o1, A1, c1, L1, M1, hA1, hc1, ho1, _⟩ := (HO.out.ext HE.out).at_ k hkx
      subst hA1
      obtain ⟨_, _, e1, r1, hcap⟩ := ho1.rdc
      injection e1 with e11 _ e13
      subst e11 e13
      obtain ⟨g1, g2, g3, g4, g5, g6⟩ := HF.out k hlt
      have HNX : Hid (∀ V : World, Ext wr V → k + 1 < ln → ∃ (A' : Option Addr) (c' : Nat), V.cell? ⟨b1, o1 + (k + 1), none⟩ = some (.slice A' (L.getD (k + 1) []).length c') ∧ RdI V A' (L.getD (k + 1) [])) := fun V he h => by
        obtain ⟨b9, o9, A9, c9, L9, M9, hA9, hc9, ho9, _⟩ := ((HO.out.ext HE.out).ext he).at_ (k + 1) (by rw [← HLN.out]; exact h)
        injection hA9 with hA9
        injection hA9 with hA9 hB9 _
        subst hA9 hB9
        obtain ⟨_, _, e9, r9, _⟩ := ho9.rdc
        injection e9 with e91 _ e93
        subst e91 e93
        exact ⟨_, _, hc9, r9⟩
      obtain ⟨b, hb⟩ : ∃ b, b = L.getD k [] := ⟨_, rfl⟩
      obtain ⟨b', hb'⟩ : ∃ b', b' = L.getD (k + 1) [] := ⟨_, rfl⟩
      rw [← hb] at hc1 r1 hcap g1 g2 g3 g4 g5 g6
      rw [← hb'] at g4 HNX
      have hb12 := (barB_iff g2).1
      have HTN : Hid (t + (if roundB b = true then 1 else 0) = ((L.take (k + 1)).filter roundB).length) := by
        rw [takeSS_snoc L k hkx, List.filter_append, List.length_append, ← HT.out, ← hb]
        congr 1
        simp only [List.filter_cons, List.filter_nil]
        split <;> simp
      obtain ⟨q, hq⟩ : ∃ q, q = b.length := ⟨_, rfl⟩
      have D1 : Hid (∀ V : World, Ext wr V → Calls Try.prog 38 #[.slice A1 q c1] V (RetIB V (nbF b) (decide (k + 1 < ln)))) := fun V he => by
        rw [hq, ← g3]
        exact nbI_any A1 c1 b V (r1.ext he) (by omega)
      have D2 : Hid (∀ V : World, Ext wr V → Calls Try.prog 29 #[.slice A1 q c1] V (RetRB V ((N : Int), preF b 0) true)) := fun V he => by
        have := brI_any A1 c1 b V (r1.ext he) (by omega)
        have e : brF b = ((N : Int), preF b 0) := by unfold brF; rw [if_pos g2, g1]
        rw [hq]
        rwa [e, g2] at this
      have D3 : Hid (∀ (D : Option Addr) (d : Nat) (V : World), RdI V D (preF b 0) → Calls Try.prog 42 #[.agg #[.int .i64 N, .slice D q d]] V (RetIB V b true)) := fun D d V h => by
        have := bofI_any D d N (preF b 0) V h (by rw [preF_len]; omega)
        rw [g5, g6] at this
        rw [hq]
        rwa [preF_len] at this
      have D4 : Hid (∀ V : World, Ext wr V → Calls Try.prog 44 #[.slice A1 q c1] V fun e w' => e = .returned (.int .i64 N) ∧ Ext V w') := fun V he => by
        rw [hq, ← g1]
        exact sum_any A1 c1 b V (r1.ext he) (by omega) (fun x hx => by have := (barB_iff g2).2.1 x hx; omega)
      have D5 : Hid (∀ V : World, Ext wr V → Calls Try.prog 17 #[.slice A1 q c1] V fun e w' => e = .returned (.bool true) ∧ Ext V w') := fun V he => by
        rw [hq, ← g2]
        exact barI_any A1 c1 b V (r1.ext he) (by omega)
      have D6 : Hid (∀ (D : Option Addr) (d : Nat) (V : World), Ext wr V → RdI V D b → Calls Try.prog 45 #[.slice D q d, .slice A1 q c1] V fun e w' => e = .returned (.bool true) ∧ Ext V w') := fun D d V he h => by
        rw [hq]
        exact lsame_any D A1 d c1 b b V h (r1.ext he) (by omega) rfl
      have D7 : Hid (∀ V : World, Ext wr V → Calls Try.prog 36 #[.slice A1 q c1] V fun e w' => e = .returned (.bool (roundB b)) ∧ Ext V w') := fun V he => by
        have := rbI_any A1 c1 b V (r1.ext he) (by omega) hcap
        have e : rbB b = roundB b := by unfold rbB; rw [g2]; rfl
        rw [hq]
        rwa [e] at this
      have D8 : Hid (k + 1 < ln → ∀ (D E : Option Addr) (d e : Nat) (V : World), RdI V D (nbF b) → RdI V E b' → Calls Try.prog 45 #[.slice D (nbF b).length d, .slice E b'.length e] V fun e w' => e = .returned (.bool true) ∧ Ext V w') := fun h D E d e V h1 h2 => by
        have h3 := g4 h
        have hl : (nbF b).length ≤ 1048576 := by
          have h4 := (barB_iff (HF.out (k + 1) h).2.1).1
          rw [← hb'] at h4
          rw [h3]
          omega
        exact lsame_any D E d e (nbF b) b' V h1 h2 hl h3
      have HQ := Lib.hid hq
      obtain ⟨rb, hrb⟩ : ∃ rb, rb = roundB b := ⟨_, rfl⟩
      rw [← hrb] at HTN D7
      rw [← hq] at hc1
      have hq12 : 1 ≤ q ∧ q ≤ 12 := by omega
      clear r1 hcap g1 g2 g3 g4 g5 g6 hb hb' hb12 hq hkx ho1 hrb
      go_wp2_with fail
      refine (D1.out _ (Ext.refl _)).mono ?_
      rintro e w3 ⟨AN, cN, rfl, oN, e3⟩
      have ON := Lib.hid oN
      have X3 := Lib.hid e3
      clear oN e3 hc1
      go_wp2_with fail
      refine (D2.out _ X3.out).mono ?_
      rintro e w4 ⟨v4, rfl, ⟨AR, cR, e4, AR2, cR2, e42, oR, _, _⟩, e5⟩
      injection e42 with e421 _ e423
      subst e4 e421 e423
      have HPL : Hid ((preF b 0).length = q) := by rw [preF_len]; exact HQ.out.symm
      rw [HPL.out]
      have OR := Lib.hid oR
      have HXB : Hid (Ext w4 (w4.alloc (.cells #[.int .i64 N, .slice AR q cR] 36))) := (Ext.refl _).alloc _
      have HB4 := Lib.hid (Bx2.new w4 36 (.int .i64 N) (.slice AR q cR))
      have X4 := Lib.hid (X3.out.trans (e5.trans HXB.out))
      have ON4 := Lib.hid (ON.out.ext (e5.trans HXB.out))
      have C3 := Lib.hid (D3.out AR cR _ (OR.out.ext HXB.out).rd)
      clear oR e5 ON
      obtain ⟨q0, q1, p0, p1⟩ := HB4.out.cells
      go_wp2_with fail
      refine C3.out.mono ?_
      rintro e w5 ⟨AB, cB, rfl, oB, e6⟩
      have OB := Lib.hid oB
      have HB5 := Lib.hid (HB4.out.ext e6)
      have X5 := Lib.hid (X4.out.trans e6)
      have ON5 := Lib.hid (ON4.out.ext e6)
      rw [← HQ.out]
      clear oB e6 q0 q1 p0 p1 HB4 ON4 C3 X4 X3 HXB
      go_wp2_with fail
      refine (D4.out _ X5.out).mono ?_
      rintro e w6 ⟨rfl, e7⟩
      have X6 := Lib.hid (X5.out.trans e7)
      have OB6 := Lib.hid (OB.out.ext e7)
      have ON6 := Lib.hid (ON5.out.ext e7)
      have HB6 := Lib.hid (HB5.out.ext e7)
      clear e7 OB ON5 HB5 X5
      go_wp2_with fail
      refine (D5.out _ X6.out).mono ?_
      rintro e w7 ⟨rfl, e8⟩
      have X7 := Lib.hid (X6.out.trans e8)
      have OB7 := Lib.hid (OB6.out.ext e8)
      have ON7 := Lib.hid (ON6.out.ext e8)
      have HB7 := Lib.hid (HB6.out.ext e8)
      clear e8 OB6 ON6 HB6 X6
      by_cases hm : k + 1 < ln
      · obtain ⟨A9, c9, hc9, r9⟩ := HNX.out w7 X7.out hm
        have C8 := Lib.hid (D8.out hm AN A9 cN c9 w7 ON7.out.rd r9)
        have hd : decide (k + 1 < ln) = true := decide_eq_true hm
        have hmi : (k : Int) + 1 < (ln : Int) := by omega
        clear r9
        rw [hd]
        clear hd
        go_wp2_with fail
        refine C8.out.mono ?_
        rintro e w8 ⟨rfl, e8⟩
        have X8 := Lib.hid (X7.out.trans e8)
        have OB8 := Lib.hid (OB7.out.ext e8)
        have HB8 := Lib.hid (HB7.out.ext e8)
        clear e8 OB7 ON7 HB7 X7 C8 hc9
        obtain ⟨q0, q1, p0, p1⟩ := HB8.out.cells
        go_wp2_with fail
        refine (D6.out AB cB _ X8.out OB8.out.rd).mono ?_
        rintro e w9 ⟨rfl, e9⟩
        have X9 := Lib.hid (X8.out.trans e9)
        clear e9 q0 q1 p0 p1 HB8 OB8 X8
        go_wp2_with fail
        refine (D7.out _ X9.out).mono ?_
        rintro e w10 ⟨rfl, e10⟩
        have HEN := Lib.hid (HE.out.trans (X9.out.trans e10))
        clear e10 X9
        cases rb
        · go_wp2_with fail
          go_roundw
          case rel => exact ⟨k + 1, t, by omega, by go_num, rfl, by omega, (by have := HTN.out; simp at this; exact this), HEN.out⟩
          case measure => simp [intOf]; omega
        · go_wp2_with fail
          go_roundw
          case rel => exact ⟨k + 1, t + 1, by omega, by go_num, by go_num, by omega, (by have := HTN.out; simp at this; exact this), HEN.out⟩
          case measure => simp [intOf]; omega
      · have hd : decide (k + 1 < ln) = false := decide_eq_false hm
        have hmi : ¬ (k : Int) + 1 < (ln : Int) := by omega
        rw [hd]
        clear hd
        obtain ⟨q0, q1, p0, p1⟩ := HB7.out.cells
        go_wp2_with fail
        refine (D6.out AB cB _ X7.out OB7.out.rd).mono ?_
        rintro e w9 ⟨rfl, e9⟩
        have X9 := Lib.hid (X7.out.trans e9)
        clear e9 q0 q1 p0 p1 HB7 OB7 X7
        go_wp2_with fail
        refine (D7.out _ X9.out).mono ?_
        rintro e w10 ⟨rfl, e10⟩
        have HEN := Lib.hid (HE.out.trans (X9.out.trans e10))
        clear e10 X9
        cases rb
        · go_wp2_with fail
          go_roundw
          case rel => exact ⟨k + 1, t, by omega, by go_num, rfl, by omega, (by have := HTN.out; simp at this; exact this), HEN.out⟩
          case measure => simp [intOf]; omega
        · go_wp2_with fail
          go_roundw
          case rel => exact ⟨k + 1, t + 1, by omega, by go_num, by go_num, by omega, (by have := HTN.out; simp at this; exact this), HEN.out⟩
          case measure => simp [intOf]; omega
    · obtain rfl : k = ln := by omega
      have HTR : Hid (t = rd) := by rw [HT.out, HRD.out, HLN.out, List.take_length]; exact rfl
      have htr := HTR.out
      subst htr
      clear HT HTR HF HO
      go_wp2_with fail
      refine (CB.out _ _ (by omega) (by omega) (E2.out.trans HE.out)).mono ?_
      rintro e w3 ⟨B, d, ys, rfl, ho, hb, he⟩
      have E3 := Lib.hid ((E2.out.trans HE.out).trans he)
      have OY := Lib.hid ho
      obtain ⟨q, hq⟩ : ∃ q, q = ys.length := ⟨_, rfl⟩
      obtain ⟨S, hS⟩ : ∃ S, S = ys.sum := ⟨_, rfl⟩
      have hbb := okBar_barB hb
      have hq6 : 1 ≤ q ∧ q ≤ 6 := ⟨by have := hb.1; omega, by have := hb.2.1; omega⟩
      have hSb : 0 ≤ S ∧ S ≤ 24 := by
        have h2 := (barB_iff hbb).2.2
        have h3 : ∀ zs : List Int, (∀ z ∈ zs, 2 ≤ z ∧ z ≤ 3) → 0 ≤ zs.sum := by
          intro zs
          induction zs with
          | nil => intro _; simp
          | cons z zs ih =>
            intro hz
            have := ih (fun y hy => hz y (by simp [hy]))
            have := hz z (by simp)
            rw [List.sum_cons]
            omega
        have := h3 ys (barB_iff hbb).2.1
        omega
      have D1 : Hid (∀ V : World, Ext w3 V → Calls Try.prog 25 #[.slice B q d] V (RetIB V (dbF ys) (dbB ys))) := fun V he => by rw [hq]; exact dbI_any B d ys V (OY.out.ext he).rd (by omega)
      have D2 : Hid (∀ V : World, Ext w3 V → Calls Try.prog 17 #[.slice B q d] V fun e w' => e = .returned (.bool true) ∧ Ext V w') := fun V he => by
        rw [hq, ← hbb]
        exact barI_any B d ys V (OY.out.ext he).rd (by omega)
      have D3 : Hid (∀ V : World, Ext w3 V → Calls Try.prog 44 #[.slice B q d] V fun e w' => e = .returned (.int .i64 S) ∧ Ext V w') := fun V he => by
        rw [hq, hS]
        exact sum_any B d ys V (OY.out.ext he).rd (by omega) (fun x hx => by have := (barB_iff hbb).2.1 x hx; omega)
      have D4 : Hid (∀ (D : Option Addr) (g : Nat) (V : World), RdI V D (dblF ys) → Calls Try.prog 44 #[.slice D (2 * q) g] V fun e w' => e = .returned (.int .i64 (2 * S)) ∧ Ext V w') := fun D g V h => by
        have := sum_any D g (dblF ys) V h (by rw [dblF_len]; omega) (fun x hx => by have := (barB_iff hbb).2.1 x (dblF_mem ys x hx); omega)
        rw [dblF_sum, dblF_len, ← hq, ← hS] at this
        exact this
      have hdb := dbB_of hb
      rw [← hq, ← hS] at hdb
      have HDL : Hid ((dblF ys).length = 2 * q) := by rw [dblF_len, hq]; exact rfl
      rw [← hq]
      have HD0 : Hid (dbB ys = false → dbF ys = []) := fun h => by unfold dbF; rw [h]; rfl
      have HD1 : Hid (dbB ys = true → dbF ys = dblF ys) := fun h => by unfold dbF; rw [h]; rfl
      clear ho hb he hq hS hbb
      go_wp2_with fail
      refine (D1.out _ (Ext.refl _)).mono ?_
      rintro e w4 ⟨D, g, rfl, od, e4⟩
      have X4 := Lib.hid e4
      have OD := Lib.hid od
      clear od e4
      by_cases h1 : 2 * S ≤ 24 ∧ 2 * (q : Int) ≤ 12
      · have hdt : dbB ys = true := by rw [hdb, decide_eq_true h1.1, decide_eq_true h1.2]; rfl
        obtain ⟨h2, h3⟩ := h1
        have HE9 := HD1.out hdt
        rw [HE9] at OD ⊢
        rw [hdt, HDL.out]
        clear HD0 HD1 hdt hdb HE9
        go_wp2_with fail
        refine (C4.out _).mono ?_
        rintro e w5 ⟨rfl, e5⟩
        have X5 := Lib.hid (X4.out.trans e5)
        have OD5 := Lib.hid (OD.out.ext e5)
        clear e5 X4 OD
        go_wp2_with fail
        refine (D2.out _ X5.out).mono ?_
        rintro e w6 ⟨rfl, e6⟩
        have X6 := Lib.hid (X5.out.trans e6)
        have OD6 := Lib.hid (OD5.out.ext e6)
        clear e6 X5 OD5
        go_wp2_with fail
        refine (D3.out _ X6.out).mono ?_
        rintro e w7 ⟨rfl, e7⟩
        have X7 := Lib.hid (X6.out.trans e7)
        have OD7 := Lib.hid (OD6.out.ext e7)
        clear e7 X6 OD6
        go_wp2_with fail
        refine (D4.out D g _ OD7.out.rd).mono ?_
        rintro e w8 ⟨rfl, e8⟩
        have X8 := Lib.hid (X7.out.trans e8)
        clear e8 X7 OD7
        go_wp2_with fail
        refine (D3.out _ X8.out).mono ?_
        rintro e w9 ⟨rfl, e9⟩
        have X9 := Lib.hid (X8.out.trans e9)
        clear e9 X8
        go_wp2_with fail
        go_ret
        exact ⟨rfl, E3.out.trans X9.out⟩
      · have hdf : dbB ys = false := by
          rw [hdb]
          by_cases h2 : 2 * S ≤ 24
          · rw [decide_eq_true h2, Bool.true_and]
            exact decide_eq_false (fun h3 => h1 ⟨h2, h3⟩)
          · rw [decide_eq_false h2]; rfl
        have HE9 := HD0.out hdf
        rw [HE9] at OD ⊢
        rw [hdf]
        clear HD0 HD1 hdf hdb HE9
        by_cases h2 : 2 * S ≤ 24
        · exact absurd ⟨h2, by omega⟩ h1
        · clear h1
          go_wp2_with fail
          refine (C4.out _).mono ?_
          rintro e w5 ⟨rfl, e5⟩
          have X5 := Lib.hid (X4.out.trans e5)
          have OD5 := Lib.hid (OD.out.ext e5)
          clear e5 X4 OD
          go_wp2_with fail
          refine (D2.out _ X5.out).mono ?_
          rintro e w6 ⟨rfl, e6⟩
          have X6 := Lib.hid (X5.out.trans e6)
          have OD6 := Lib.hid (OD5.out.ext e6)
          clear e6 X5 OD5
          go_wp2_with fail
          refine (D3.out _ X6.out).mono ?_
          rintro e w7 ⟨rfl, e7⟩
          have X7 := Lib.hid (X6.out.trans e7)
          have OD7 := Lib.hid (OD6.out.ext e7)
          clear e7 X6 OD6
          go_wp2_with fail
          go_ret
          exact ⟨rfl, E3.out.trans X7.out⟩
end Go.Proofs.Ytedlmidhakmgpaa
