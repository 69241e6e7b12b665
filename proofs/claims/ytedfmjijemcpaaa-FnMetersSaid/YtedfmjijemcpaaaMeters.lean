/- Contracts of metersFrom, l18Meters, MetersOf. -/
import Derived.Test.YtedfmjijemcpaaaMtO
import Derived.Test.YtedfmjijemcpaaaRegL
import Derived.Test.YtedfmjijemcpaaaClone
import Derived.Test.YtedfmjijemcpaaaSS
namespace Go.Proofs.Ytedfmjijemcpaaa
open Go.RowKit

theorem map_appM (bs : List Int) (k : Int) (l : List (List Int)) : (l.map (k :: ·)).map (bs ++ ·) = l.map ((bs ++ [k]) ++ ·) := by simp
theorem metL_one (f : Nat) : metL f 1 = [[]] := by cases f <;> rfl
theorem metL_zero {n : Nat} (h : n ≠ 1) : metL 0 n = [] := by rw [metL.eq_1, if_neg h]
/-- The numbers of a division that comes out even. -/
theorem div_nums {n k : Nat} (hn : n ≤ 24) (h : n % k = 0) : ∃ q : Nat, q = n / k ∧ q ≤ 24 ∧ (n : Int) % (k : Int) = 0 ∧ (n : Int).tmod k = 0 ∧ (n : Int) / (k : Int) = (q : Int) ∧ (n : Int).tdiv k = (q : Int) ∧ IntKind.i64.wrap (q : Int) = (q : Int) ∧ wrap64 (q : Int) = (q : Int) := by
  obtain ⟨q, hq⟩ : ∃ q, q = n / k := ⟨_, rfl⟩
  have hqn : q ≤ 24 := by rw [hq]; exact Nat.le_trans (Nat.div_le_self _ _) hn
  have h1 : (n : Int) % (k : Int) = 0 := by rw [← Int.natCast_emod, h]; rfl
  have h2 : (n : Int) / (k : Int) = (q : Int) := by rw [hq]; simp
  refine ⟨q, hq, hqn, h1, ?_, h2, ?_, ?_, ?_⟩
  · rw [Int.tmod_eq_emod_of_nonneg (Int.natCast_nonneg _), h1]
  · rw [Int.tdiv_eq_ediv_of_nonneg (Int.natCast_nonneg _), h2]
  · exact IntWalk.i64_in _ (by clear h1 h2 hq; omega)
  · exact IntWalk.wrap64_in _ (by clear h1 h2 hq; omega)
theorem div_not {n k : Nat} (h : ¬ n % k = 0) : ¬ (n : Int) % (k : Int) = 0 ∧ ¬ (n : Int).tmod k = 0 := by
  have h1 : ¬ (n : Int) % (k : Int) = 0 := by rw [← Int.natCast_emod]; intro h2; exact h (by exact_mod_cast h2)
  exact ⟨h1, by rw [Int.tmod_eq_emod_of_nonneg (Int.natCast_nonneg _)]; exact h1⟩

set_option maxHeartbeats 4000000 in
theorem mfrom_any : ∀ (f n : Nat), f ≤ 5 → 1 ≤ n → n ≤ 24 → ∀ (A : Option Addr) (c : Nat) (bs : List Int) (w : World), RdI w A bs → bs.length + f = 5 →
    Calls Try.prog 39 #[.int .i64 n, .slice A bs.length c] w (RetSS w ((metL f n).map (bs ++ ·))) := by
  intro f
  induction f with
  | zero =>
    intro n hf hn1 hn A c bs w hr hb
    by_cases hz : n = 1
    · subst hz
      have CC := Lib.hid (clone_any A c bs w hr (by omega))
      obtain ⟨m, hm⟩ : ∃ m, m = bs.length := ⟨_, rfl⟩
      have HM := Lib.hid hm
      rw [← hm] at CC hb ⊢
      clear hm hr
      go_enter Try.func39, Try.ntmps39
      go_wp2_with fail
      refine CC.out.mono ?_
      rintro e w1 ⟨A', c', rfl, ho, he⟩
      have HO := Lib.hid ho
      have HE := Lib.hid he
      clear ho he
      go_wp2_with fail
      go_ret
      refine ⟨_, rfl, ⟨_, _, [.slice A' bs.length c'], rfl, (OwO.lit1 w1 _).lower HE.out.size, fun a ha => by cases ha; simp, ?_⟩, HE.out.alloc _⟩
      rw [metL_one, List.map_cons, List.map_nil, List.append_nil]
      refine OwnIn.one ⟨A', c', rfl, HO.out.ext ((Ext.refl _).alloc _), fun a ha => ?_, Nat.le_refl _⟩ (by have := HE.out.size; simp; omega)
      have := (HO.out.lt a ha).2
      simp
      omega
    · have hz2 : ((n : Int) == 1) = false := by simp; omega
      have hz1 : ¬ (n : Int) = 1 := by omega
      obtain ⟨m, hm⟩ : ∃ m, m = bs.length := ⟨_, rfl⟩
      have hm5 : m = 5 := by omega
      have hmi : ¬ (m : Int) < 5 := by omega
      rw [← hm, metL_zero hz, List.map_nil]
      clear hr hb hm
      go_enter Try.func39, Try.ntmps39
      go_wp2_with fail
      go_loopw [5, 6] (fun o i wr => i = .int .i64 2 ∧ o = .slice none 0 0 ∧ Hid (w = wr)) (fun _ _ _ => 0)
      case atStart => exact ⟨rfl, rfl, rfl⟩
      case round =>
        obtain ⟨rfl, rfl, HW⟩ := hrel
        have hw := HW.out
        subst hw
        go_wp2_with fail
        go_ret
        exact ⟨_, rfl, OwnSS.nil w, Ext.refl _⟩
  | succ f ih =>
    intro n hf hn1 hn A c bs w hr hb
    by_cases hz : n = 1
    · subst hz
      have CC := Lib.hid (clone_any A c bs w hr (by omega))
      obtain ⟨m, hm⟩ : ∃ m, m = bs.length := ⟨_, rfl⟩
      have HM := Lib.hid hm
      rw [← hm] at CC hb ⊢
      clear hm hr ih
      go_enter Try.func39, Try.ntmps39
      go_wp2_with fail
      refine CC.out.mono ?_
      rintro e w1 ⟨A', c', rfl, ho, he⟩
      have HO := Lib.hid ho
      have HE := Lib.hid he
      clear ho he
      go_wp2_with fail
      go_ret
      refine ⟨_, rfl, ⟨_, _, [.slice A' bs.length c'], rfl, (OwO.lit1 w1 _).lower HE.out.size, fun a ha => by cases ha; simp, ?_⟩, HE.out.alloc _⟩
      rw [metL_one, List.map_cons, List.map_nil, List.append_nil]
      refine OwnIn.one ⟨A', c', rfl, HO.out.ext ((Ext.refl _).alloc _), fun a ha => ?_, Nat.le_refl _⟩ (by have := HE.out.size; simp; omega)
      have := (HO.out.lt a ha).2
      simp
      omega
    · have hz2 : ((n : Int) == 1) = false := by simp; omega
      have hz1 : ¬ (n : Int) = 1 := by omega
      have HR := Lib.hid hr
      have HI := Lib.hid ih
      have CC : Hid (∀ V : World, Ext w V → Calls Try.prog _ #[.slice A bs.length c] V (RetI V bs)) := fun V h => clone_any A c bs V (hr.ext h) (by omega)
      have HPE := Lib.hid (metP_end (f := f) (n := n) hz)
      obtain ⟨m, hm⟩ : ∃ m, m = bs.length := ⟨_, rfl⟩
      have HM := Lib.hid hm
      rw [← hm] at CC hb ⊢
      clear hm hr ih hz
      have hmi : (m : Int) < 5 := by omega
      go_enter Try.func39, Try.ntmps39
      go_wp2_with fail
      go_loopw [5, 6] (fun o i wr => ∃ (k : Nat) (A' : Option Addr) (c' l : Nat), 2 ≤ k ∧ k ≤ 8 ∧ i = .int .i64 k ∧ o = .slice A' l c' ∧ l ≤ 600 ∧ Hid (l = (metP f n k).length) ∧ Hid (OwnSS wr w.heap.size wr.heap.size (.slice A' l c') ((metP f n k).map (bs ++ ·))) ∧ Hid (Ext w wr)) (fun _ i _ => 10 - (intOf i).toNat)
      case atStart => exact ⟨2, none, 0, 0, by omega, by omega, rfl, rfl, by omega, rfl, OwnSS.nil w, Ext.refl w⟩
      case round =>
        obtain ⟨k, A', c', l, hk2, hk3, rfl, rfl, hl, HL, HO, HE⟩ := hrel
        by_cases hlt : k ≤ 7
        · by_cases hd : n % k = 0
          · obtain ⟨q, hq, hq24, d1, d2, d3, d4, d5, d6⟩ := div_nums hn hd
            have hq1 : 1 ≤ q := by rw [hq]; exact Nat.div_pos (Nat.le_of_dvd (by omega) (Nat.dvd_of_mod_eq_zero hd)) (by omega)
            have HPS : Hid (metP f n (k + 1) = metP f n k ++ (metL f q).map ((k : Int) :: ·)) := by rw [metP_step hk2, if_pos hd, ← hq]; exact rfl
            have CI : Hid (∀ A c w, RdI w A (bs ++ [(k : Int)]) → Calls Try.prog 39 #[.int .i64 (q : Int), .slice A (m + 1) c] w (RetSS w ((metL f q).map ((bs ++ [(k : Int)]) ++ ·)))) := by
              intro A c w h
              have := HI.out q (by omega) hq1 hq24 A c (bs ++ [(k : Int)]) w h (by simp; rw [← HM.out]; omega)
              rw [List.length_append, ← HM.out] at this
              exact this
            have hlen2 := metL_len f q (by omega) hq24
            have hlen3 := metP_len (f := f) (n := n) (by omega) hn (k + 1) (by omega) (by omega)
            have d7 : ¬ k = 0 := by omega
            have d8 : ¬ (k : Int) = 0 := by omega
            obtain ⟨A5, c5, l5, vs, hv5, hl5, ho5, hi5⟩ := HO.out.parts
            injection hv5 with hA5 hl6 hc5
            subst hA5 hl6 hc5
            have HO5 := Lib.hid ho5
            have HI5 := Lib.hid hi5
            have HL5 := Lib.hid hl5
            clear hq hd hl5 ho5 hi5
            go_wp2_with fail
            go_region_law (first
              | (go_simp; go_at_call 55; refine (CC.out _ (by first | exact HE.out.drew | exact HE.out.drew.alloc _)).mono ?_; rintro e w1 ⟨A2, c2, rfl, ho, he⟩; have HE1 : Hid (Ext wr w1) := (by first | exact (Ext.refl wr).drew.trans he | exact ((Ext.refl wr).drew.alloc _).trans he); have HO1 : Hid (OwI w1 wr.heap.size A2 c2 bs) := (by first | exact ho | exact ho.lower (by simp)); rw [← HM.out])
              | (refine step_of_list (by rfl) (app_ints wr (by rfl) _ _ (by rfl) A2 c2 m bs _ 1 1 [(k : Int)] (by rfl) (by rfl) HM.out.symm rfl (by first | exact HO1.out | exact HO1.out.ext ((Ext.refl _).alloc _)) (by first | exact RdI.built w1 [(k : Int)] | exact (RdI.built (World.drew wr) [(k : Int)]).ext he) (by first | exact HE1.out | exact HE1.out.alloc _) (by omega) ?_); intro A3 c3 w2 h1 h2 _; have HO3 := Lib.hid h1; have HE3 := Lib.hid h2; clear h1 h2 he ho; refine stepK ?_)
              | (go_simp; go_at_call 39; refine (CI.out _ _ _ HO3.out.rd).mono ?_; rintro e w3 ⟨v, rfl, ho4', he4⟩; obtain ⟨A4, c4, l2, us, rfl, hl2, ho4, hi4⟩ := ho4'.parts; have HE4 : Hid (Ext wr w3) := (HE3.out.trans he4); have HO4 := Lib.hid ho4.rd; have HI4 := Lib.hid (hi4.down HE3.out.size); have HL4 := Lib.hid hl2; have hle : l2 ≤ 100 := (by rw [hl2]; simpa using hlen2); clear ho4' he4 hl2 ho4 hi4)
              | (refine step_of_list (by rfl) (app_out (by rfl) _ _ (by rfl) w.heap.size wr.heap.size A' c' l vs _ (by rfl) HL5.out (HO5.out.ext HE4.out) (HI5.out.frO (HE4.out.frO 0)) A4 l2 c4 us _ (by rfl) HL4.out HO4.out HI4.out (by omega) ?_); intro A6 c6 w4 h1 h2; have HO6 := Lib.hid h1; have HX4 := Lib.hid ((HE.out.trans HE4.out).then_frO h2 (Nat.le_refl _)); clear h1 h2; refine stepK ?_))
            all_goals have HL6 : Hid (l + l2 = (metP f n (k + 1)).length) := (by rw [HL5.out, HL4.out, HPS.out]; simp [Hid])
            all_goals clear d1 d2 d3 d4 d5 d6 d7 d8
            all_goals go_wp2_with fail
            all_goals (go_roundw
                       case rel =>
                         refine ⟨k + 1, A6, c6, l + l2, by omega, by omega, by go_num, rfl, by rw [HL6.out]; omega, HL6, ?_, HX4⟩
                         rw [HPS.out, List.map_append, map_appM]
                         exact HO6
                       case measure => simp [intOf]; omega)
          · obtain ⟨d1, d2⟩ := div_not hd
            have HPS : Hid (metP f n (k + 1) = metP f n k) := by rw [metP_step hk2, if_neg hd, List.append_nil]; exact rfl
            clear hd
            have d8 : ¬ (k : Int) = 0 := by omega
            go_wp2_with fail
            go_roundw
            case rel => exact ⟨k + 1, A', c', l, by omega, by omega, by go_num, rfl, hl, by rw [HPS.out]; exact HL, by rw [HPS.out]; exact HO, HE⟩
            case measure => simp [intOf]; omega
        · obtain rfl : k = 8 := by omega
          rw [HPE.out] at HO
          go_wp2_with fail
          go_ret
          exact ⟨_, rfl, HO.out, HE.out⟩
end Go.Proofs.Ytedfmjijemcpaaa
