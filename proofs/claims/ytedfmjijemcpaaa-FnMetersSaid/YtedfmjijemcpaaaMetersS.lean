/- Contracts of l18Meters, MetersOf. -/
import Derived.Test.YtedfmjijemcpaaaMeters
import Derived.Test.YtedfmjijemcpaaaOwnSS
namespace Go.Proofs.Ytedfmjijemcpaaa
open Go.RowKit

/-- What l18Meters leaves. -/
def RetMt (w : World) (L : Nat) (xss : List (List Int)) (e : Ending) (w' : World) : Prop := ∃ v, e = .returned v ∧ OwnSS w' L w'.heap.size v xss ∧ FrO L w w'

theorem rd_built1 (W : World) (o : Obj) (ys : List Int) : RdI ((W.alloc o).alloc (.cells (ys.map (Value.int .i64)).toArray 3)) (some ⟨W.heap.size + 1, 0, none⟩) ys := by
  have h := RdI.built (W.alloc o) ys
  rwa [show (W.alloc o).heap.size = W.heap.size + 1 by simp] at h
theorem own_start1 (W : World) (o : Obj) : OwI ((W.alloc o).alloc (.cells #[] 3)) W.heap.size (some ⟨W.heap.size + 1, 0, none⟩) 0 [] := by
  have h := (OwI.empty (W.alloc o)).lower (B' := W.heap.size) (by simp)
  rwa [show (W.alloc o).heap.size = W.heap.size + 1 by simp] at h
/-- Room for what is still to come. -/
structure capM (l f : Nat) : Prop where
  out : l + 1000 * (f + 1) ≤ 100000
structure leM (l' l : Nat) : Prop where
  out : l' ≤ l + 600
theorem capM.step {l l' f : Nat} (h : capM l (f + 1)) (h2 : leM l' l) : capM l' f := by
  have h1 := h.out
  have h3 := h2.out
  refine ⟨?_⟩
  rw [Nat.mul_add 1000 (f + 1) 1] at h1
  generalize 1000 * (f + 1) = z at *
  omega
theorem capM.le {l f : Nat} (h : capM l f) : l ≤ 100000 := Nat.le_trans (Nat.le_add_right _ _) h.out
theorem capM.zero : capM 0 5 := ⟨by decide⟩
theorem leM.refl (l : Nat) : leM l l := ⟨Nat.le_add_right _ _⟩
theorem leM.of {f n k l l' : Nat} (hf : f ≤ 5) (hn : n ≤ 24) (h2 : 2 ≤ k) (h8 : k ≤ 8) (h : l' = l + (metP f n k).length) : leM l' l := by
  have := metP_len hf hn k h2 h8
  exact ⟨by omega⟩

set_option maxHeartbeats 4000000 in
theorem l18Meters_any : ∀ (f n : Nat), f ≤ 5 → 1 ≤ n → n ≤ 24 → ∀ (A : Option Addr) (c : Nat) (bs : List Int) (O : Option Addr) (d l : Nat) (xss : List (List Int)) (vs : List Value) (L M U : Nat) (w : World),
    OwnS w M U (.slice A bs.length c) bs → l = xss.length → OwO w L O d vs → OwnIn w L M vs xss → M ≤ U → bs.length + f = 5 → capM l f →
    Calls Try.prog 56 #[.int .i64 n, .slice A bs.length c, .slice O l d] w (RetMt w L (xss ++ (metL f n).map (bs ++ ·))) := by
  intro f
  induction f with
  | zero =>
    intro n hf hn1 hn A c bs O d l xss vs L M U w hs hl ho hi hMU hb hlb
    have HS := Lib.hid hs
    have HL := Lib.hid hl
    have HO := Lib.hid ho
    have HI := Lib.hid hi
    have hUw : U ≤ w.heap.size := hs.choose_spec.choose_spec.2.2.2
    have hLM := hi.le
    by_cases hz : n = 1
    · subst hz
      have e0 : (metL 0 1).map (bs ++ ·) = [bs] := by rw [metL_one, List.map_cons, List.map_nil, List.append_nil]
      rw [e0]
      have hlb := hlb.le
      obtain ⟨m, hm⟩ : ∃ m, m = bs.length := ⟨_, rfl⟩
      rw [← hm] at HS hb ⊢
      clear hs hl ho hi e0 hm
      go_enter Try.func56, Try.ntmps56
      go_wp2_with (at_builtin; refine app_out rfl _ _ rfl L M O d l vs xss rfl HL.out (HO.out.ext ((Ext.refl w).alloc _)) (HI.out.frO (((Ext.refl w).alloc _).frO 0)) (some ⟨w.heap.size, 0, none⟩) 1 1 [.slice A m c] [bs] rfl rfl (OwO.lit1 w _).rd (OwnIn.one ((HS.out.frO (((Ext.refl w).alloc _).frO 0)).upper (by simp; omega) (Nat.le_refl _)) (by simp; omega)) (by omega) ?_; intro A6 c6 w4 h1 h2; have HO6 := Lib.hid h1; have HX4 := Lib.hid ((((Ext.refl w).alloc (.cells #[.slice A m c] 23)).frO L).trans h2); clear h1 h2)
      go_ret
      exact ⟨_, rfl, HO6.out, HX4.out⟩
    · have hz2 : ((n : Int) == 1) = false := by simp; omega
      have hz1 : ¬ (n : Int) = 1 := by omega
      obtain ⟨m, hm⟩ : ∃ m, m = bs.length := ⟨_, rfl⟩
      have hm5 : m = 5 := by omega
      have hmi : (m : Int) = 5 := by omega
      have HST : Hid (OwnSS w L w.heap.size (.slice O l d) xss) := ⟨O, d, vs, by rw [hl], ho, fun a ha => (ho.lt a ha).2, hi.up hLM.2 (Nat.le_refl _)⟩
      rw [← hm, metL_zero hz, List.map_nil, List.append_nil]
      clear hs hl ho hi hb hm hz HS HL HO HI
      go_enter Try.func56, Try.ntmps56
      go_wp2_with fail
      go_ret
      exact ⟨_, rfl, HST.out, (Ext.refl w).frO L⟩
  | succ f ih =>
    intro n hf hn1 hn A c bs O d l xss vs L M U w hs hl ho hi hMU hb hlb
    have HS := Lib.hid hs
    have HL := Lib.hid hl
    have HO := Lib.hid ho
    have HI := Lib.hid hi
    have hUw : U ≤ w.heap.size := hs.choose_spec.choose_spec.2.2.2
    have hLM := hi.le
    by_cases hz : n = 1
    · subst hz
      have e0 : (metL (f + 1) 1).map (bs ++ ·) = [bs] := by rw [metL_one, List.map_cons, List.map_nil, List.append_nil]
      rw [e0]
      have hlb := hlb.le
      obtain ⟨m, hm⟩ : ∃ m, m = bs.length := ⟨_, rfl⟩
      rw [← hm] at HS hb ⊢
      clear hs hl ho hi ih e0 hm
      go_enter Try.func56, Try.ntmps56
      go_wp2_with (at_builtin; refine app_out rfl _ _ rfl L M O d l vs xss rfl HL.out (HO.out.ext ((Ext.refl w).alloc _)) (HI.out.frO (((Ext.refl w).alloc _).frO 0)) (some ⟨w.heap.size, 0, none⟩) 1 1 [.slice A m c] [bs] rfl rfl (OwO.lit1 w _).rd (OwnIn.one ((HS.out.frO (((Ext.refl w).alloc _).frO 0)).upper (by simp; omega) (Nat.le_refl _)) (by simp; omega)) (by omega) ?_; intro A6 c6 w4 h1 h2; have HO6 := Lib.hid h1; have HX4 := Lib.hid ((((Ext.refl w).alloc (.cells #[.slice A m c] 23)).frO L).trans h2); clear h1 h2)
      go_ret
      exact ⟨_, rfl, HO6.out, HX4.out⟩
    · have HIH := Lib.hid ih
      have hst : OwnSS w L w.heap.size (.slice O l d) xss := ⟨O, d, vs, by rw [hl], ho, fun a ha => (ho.lt a ha).2, hi.up hLM.2 (Nat.le_refl _)⟩
      have HST := Lib.hid hst
      have HPE := Lib.hid (metP_end (f := f) (n := n) hz)
      obtain ⟨m, hm⟩ : ∃ m, m = bs.length := ⟨_, rfl⟩
      have HM := Lib.hid hm
      have hz2 : ((n : Int) == 1) = false := by simp; omega
      have hz1 : ¬ (n : Int) = 1 := by omega
      rw [← hm] at HS hb ⊢
      have hmi : ¬ (m : Int) = 5 := by omega
      have hmj : ((m : Int) == 5) = false := by simp; omega
      have hm4 : m ≤ 4 := by omega
      have HLB := Lib.hid hlb
      clear hs hl ho hi ih hm hst hz hlb
      have HBB := Lib.hid hb
      clear hb
      go_enter Try.func56, Try.ntmps56
      go_wp2_with fail
      clear hmi hmj hz2 hz1
      go_loopw [2, 7] (fun o i wr => ∃ (k : Nat) (A' : Option Addr) (c' l' : Nat), 2 ≤ k ∧ k ≤ 8 ∧ i = .int .i64 k ∧ o = .slice A' l' c' ∧ Hid (leM l' l) ∧ Hid (l' = l + (metP f n k).length) ∧ Hid (OwnSS wr L wr.heap.size (.slice A' l' c') (xss ++ (metP f n k).map (bs ++ ·))) ∧ Hid (FrO L w wr)) (fun _ i _ => 10 - (intOf i).toNat)
      case atStart => exact ⟨2, O, d, l, by omega, by omega, rfl, rfl, leM.refl l, rfl, by (have := HST.out); simp [metP_two, Hid]; exact this, (Ext.refl w).frO L⟩
      case round =>
        obtain ⟨k, A', c', l', hk2, hk3, rfl, rfl, hl', HL', HO', HE⟩ := hrel
        by_cases hlt : k ≤ 7
        · by_cases hd : n % k = 0
          · obtain ⟨q, hq, hq24, d1, d2, d3, d4, d5, d6⟩ := div_nums hn hd
            have hq1 : 1 ≤ q := by rw [hq]; exact Nat.div_pos (Nat.le_of_dvd (by omega) (Nat.dvd_of_mod_eq_zero hd)) (by omega)
            have HPS : Hid (metP f n (k + 1) = metP f n k ++ (metL f q).map ((k : Int) :: ·)) := by rw [metP_step hk2, if_pos hd, ← hq]; exact rfl
            have d7 : ¬ k = 0 := by omega
            have d8 : ¬ (k : Int) = 0 := by omega
            have CI : Hid (∀ A c w2, OwnS w2 wr.heap.size w2.heap.size (.slice A (m + 1) c) (bs ++ [(k : Int)]) → Ext wr w2 → Calls Try.prog 56 #[.int .i64 (q : Int), .slice A (m + 1) c, .slice A' l' c'] w2 (RetMt w2 L ((xss ++ (metP f n k).map (bs ++ ·)) ++ (metL f q).map ((bs ++ [(k : Int)]) ++ ·)))) := by
              intro A c w2 h he
              obtain ⟨A5, c5, l5, vs, hv5, hl5, ho5, hi5⟩ := HO'.out.parts
              injection hv5 with hA5 hl6 hc5
              subst hA5 hl6 hc5
              have := HIH.out q (by omega) hq1 hq24 A c (bs ++ [(k : Int)]) A' c' l' _ vs L wr.heap.size w2.heap.size w2 (by rw [List.length_append, ← HM.out]; exact h) hl5 (ho5.ext he) (hi5.frO (he.frO 0)) he.size (by rw [List.length_append, ← HM.out]; have := HBB.out; simp; omega) (HLB.out.step hl'.out)
              rw [List.length_append, ← HM.out] at this
              exact this
            have HLW := Lib.hid (HS.out.frO HE.out)
            have HRW : Hid (∀ w2, Ext wr w2 → RdI w2 A bs) := fun w2 h => by
              obtain ⟨A3, c3, e3, h3⟩ := (HLW.out.frO (h.frO 0)).rd
              injection e3 with e3 _ _
              subst e3
              exact h3
            clear HLW hq hd
            go_wp2_with fail
            go_region_law (first
              | (refine step_of_list (by rfl) (app_ints wr (by rfl) _ _ (by rfl) _ 0 0 [] A m c bs rfl rfl rfl HM.out.symm (by first | exact OwI.empty (World.drew wr) | exact (OwI.empty (World.drew wr)).ext ((Ext.refl _).alloc _) | exact own_start1 (World.drew wr) _) (HRW.out _ (by first | exact (Ext.refl wr).drew.alloc _ | exact ((Ext.refl wr).drew.alloc _).alloc _)) (by first | exact (Ext.refl wr).drew.alloc _ | exact ((Ext.refl wr).drew.alloc _).alloc _) (by omega) ?_); intro A2 c2 w1 h1 h2 h3; have HO2 : Hid (OwI w1 wr.heap.size A2 c2 bs) := h1; have HE2 := Lib.hid h2; clear h1 h2; refine stepK ?_)
              | (refine step_of_list (by rfl) (app_ints wr (by rfl) _ _ (by rfl) A2 c2 m bs _ 1 1 [(k : Int)] rfl rfl HM.out.symm rfl (by first | exact HO2.out | exact HO2.out.ext ((Ext.refl _).alloc _)) (by first | exact RdI.built w1 [(k : Int)] | exact Rd.grown (rd_built1 (World.drew wr) _ [(k : Int)]) h3 (fun a ha => by injection ha with ha; subst ha; simp) | exact Rd.grown (Rd.ext (RdI.built (World.drew wr) [(k : Int)]) ((Ext.refl _).alloc _)) h3 (fun a ha => by injection ha with ha; subst ha; simp)) (by first | exact HE2.out | exact HE2.out.alloc _) (by omega) ?_); intro A3 c3 w2 h4 h5 _; have HO3 := Lib.hid h4; have HE3 := Lib.hid h5; clear h4 h5 h3; refine stepK ?_)
              | (go_simp; go_at_call 56; refine (CI.out _ _ _ ⟨A3, c3, by simp [← HM.out], HO3.out, fun a ha => (HO3.out.lt a ha).2, Nat.le_refl _⟩ HE3.out).mono ?_; rintro e w3 ⟨v, rfl, h1, h2⟩; obtain ⟨A4, c4, l4, us, rfl, hl4, _, _⟩ := h1.parts; have HO4 := Lib.hid h1; have HE4 := Lib.hid (HE.out.trans ((HE3.out.frO L).trans h2)); have HL9 := Lib.hid hl4; clear h1 h2 hl4))
            all_goals have HL4 : Hid (l4 = l + (metP f n (k + 1)).length) := (by
              rw [HL9.out, List.length_append, List.length_map]
              obtain ⟨A5, c5, l5, vs, hv5, hl5, _, _⟩ := HO'.out.parts
              injection hv5 with _ hl6 _
              rw [← hl5, ← hl6, HL'.out, HPS.out]
              simp [Hid, Nat.add_assoc])
            all_goals clear d1 d2 d3 d4 d5 d6 d7 d8
            all_goals go_wp2_with fail
            all_goals (go_roundw
                       case rel =>
                         refine ⟨k + 1, A4, c4, l4, by omega, by omega, by go_num, rfl, leM.of (by omega) hn (by omega) (by omega) HL4, HL4, ?_, HE4⟩
                         rw [HPS.out, List.map_append, map_appM, ← List.append_assoc]
                         exact HO4
                       case measure => simp [intOf]; omega)
          · obtain ⟨d1, d2⟩ := div_not hd
            have HPS : Hid (metP f n (k + 1) = metP f n k) := by rw [metP_step hk2, if_neg hd, List.append_nil]; exact rfl
            clear hd
            have d8 : ¬ (k : Int) = 0 := by omega
            go_wp2_with fail
            go_roundw
            case rel => exact ⟨k + 1, A', c', l', by omega, by omega, by go_num, rfl, hl', by rw [HPS.out]; exact HL', by rw [HPS.out]; exact HO', HE⟩
            case measure => simp [intOf]; omega
        · obtain rfl : k = 8 := by omega
          rw [HPE.out] at HO'
          go_wp2_with fail
          go_ret
          exact ⟨_, rfl, HO'.out, HE.out⟩

/-- The answer of MetersOf. -/
def moF (n : Int) : List (List Int) := if inB n 2 24 = true then metL 5 n.toNat else []

theorem moS_any (n : Int) (w : World) : Calls Try.prog 43 #[.int .i64 n] w (RetSS w (moF n)) := by
  by_cases h : inB n 2 24 = true
  · have e : moF n = metL 5 n.toNat := by unfold moF; rw [if_pos h]
    rw [e]
    have h' := inB_iff.1 h
    obtain ⟨k, rfl⟩ := Int.eq_ofNat_of_zero_le (show 0 ≤ n by omega)
    obtain ⟨W, hW⟩ : ∃ W, W = (w.alloc (.cells #[] 3)).alloc (.cells #[] 23) := ⟨_, rfl⟩
    have CB := Lib.hid (l18Meters_any 5 k (by omega) (by omega) (by omega) (some ⟨w.heap.size, 0, none⟩) 0 [] (some ⟨w.heap.size + 1, 0, none⟩) 0 0 [] [] w.heap.size w.heap.size (w.heap.size + 1) W
      (by rw [hW]; exact ⟨_, _, rfl, OwI.ext (OwI.empty w) ((Ext.refl _).alloc _), fun a ha => by cases ha; simp, by simp⟩) rfl
      (by rw [hW]; have := OwO.empty (w.alloc (.cells #[] 3)); simp at this; exact this.lower (by omega)) ⟨Nat.le_refl _, by rw [hW]; simp; omega⟩ (by omega) (by simp) capM.zero)
    have HX : Hid (Ext w W) := by rw [hW]; exact ((Ext.refl w).alloc _).alloc _
    rw [hW] at CB HX
    rw [Int.toNat_natCast]
    clear e h' hW W
    go_enter Try.func43, Try.ntmps43
    go_wp2_with fail
    refine (l01In_any _ _ _ _).mono ?_
    rintro e w1 ⟨rfl, rfl⟩
    go_wp2_with fail
    refine CB.out.mono ?_
    rintro e w2 ⟨v, rfl, ho, hf⟩
    have HO := Lib.hid ho
    have HE := Lib.hid (HX.out.then_frO hf (Nat.le_refl _))
    clear ho hf
    go_wp2_with fail
    go_ret
    refine ⟨_, rfl, ?_, HE.out⟩
    have := HO.out
    simpa using this
  · have h : inB n 2 24 = false := by simpa using h
    have e : moF n = [] := by unfold moF; rw [h]; rfl
    rw [e]
    clear e
    go_enter Try.func43, Try.ntmps43
    go_wp2_with fail
    refine (l01In_any _ _ _ _).mono ?_
    rintro e w1 ⟨rfl, rfl⟩
    go_wp2_with fail
    go_ret
    exact ⟨_, rfl, OwnSS.nil w, Ext.refl _⟩

theorem moI_any (n : Int) (w : World) : Calls Try.prog 15 #[.int .i64 n] w (RetSS w (moF n)) := by
  by_cases h : inB n 2 24 = true
  · have e : moF n = metL 5 n.toNat := by unfold moF; rw [if_pos h]
    rw [e]
    have h' := inB_iff.1 h
    obtain ⟨k, rfl⟩ := Int.eq_ofNat_of_zero_le (show 0 ≤ n by omega)
    have CB := Lib.hid (mfrom_any 5 k (by omega) (by omega) (by omega) none 0 [] w (Rd.nil _ _ _) (by simp))
    rw [Int.toNat_natCast]
    clear e h'
    go_enter Try.func15, Try.ntmps15
    go_wp2_with fail
    refine (within_any _ _ _ _).mono ?_
    rintro e w1 ⟨rfl, rfl⟩
    go_wp2_with fail
    refine CB.out.mono ?_
    rintro e w2 ⟨v, rfl, ho, he⟩
    have HO := Lib.hid ho
    have HE := Lib.hid he
    clear ho he
    go_wp2_with fail
    go_ret
    refine ⟨_, rfl, ?_, HE.out⟩
    have := HO.out
    simpa using this
  · have h : inB n 2 24 = false := by simpa using h
    have e : moF n = [] := by unfold moF; rw [h]; rfl
    rw [e]
    clear e
    go_enter Try.func15, Try.ntmps15
    go_wp2_with fail
    refine (within_any _ _ _ _).mono ?_
    rintro e w1 ⟨rfl, rfl⟩
    go_wp2_with fail
    go_ret
    exact ⟨_, rfl, OwnSS.nil w, Ext.refl _⟩
end Go.Proofs.Ytedfmjijemcpaaa
