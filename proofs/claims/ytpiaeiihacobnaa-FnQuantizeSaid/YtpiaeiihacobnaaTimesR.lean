/- Contracts of TimesRhythm. -/
import Derived.Test.YtpiaeiihacobnaaMapI
import Derived.Test.YtpiaeiihacobnaaQuantD
namespace Go.Proofs.Ytpiaeiihacobnaa
open Go.RowKit

def trB (xs : List Int) (g n : Int) : Bool := tgB xs g && inB n 1 24
def trP (xs : List Int) (g n : Int) : List Int := setL n.toNat (fun p : Nat => (xs.map fun x => nearF x g / g % n).contains (p : Int))
def trF (xs : List Int) (g n : Int) : Int × List Int := if trB xs g n = true then (n, trP xs g n) else (0, [])
theorem RetRB.own0 {w w' : World} (h : Ext w w') : RetRB w (0, []) false (.returned (.tuple #[.agg #[.int .i64 0, .slice none 0 0], .bool false])) w' :=
  ⟨_, rfl, ⟨none, 0, rfl, none, 0, rfl, OwI.nil _ _, (fun a ha => by cases ha), Nat.le_refl _⟩, h⟩

set_option maxHeartbeats 2000000 in
theorem trS_any (A : Option Addr) (c : Nat) (xs : List Int) (g n : Int) (w : World) (hr : RdI w A xs) (hn : xs.length ≤ 1048576) :
    Calls Try.prog 30 #[.slice A xs.length c, .int .i64 g, .int .i64 n] w (RetRB w (trF xs g n) (trB xs g n)) := by
  have CT := Lib.hid (fun (W : World) (he : Ext w W) => tgS_any A c xs g W (hr.ext he) hn)
  have HR := Lib.hid hr
  have HX0 : Hid (Ext w (w.alloc (.cells #[.int .i64 0, .slice none 0 0] 35))) := (Ext.refl w).alloc _
  have HG0 := Lib.hid (Bx2.new w 35 (.int .i64 0) (.slice none 0 0))
  by_cases hok : tgB xs g = true
  · obtain ⟨h1, h2, h3⟩ := tgB_iff hok
    by_cases hp : inB n 1 24 = true
    · have hp' := inB_iff.1 hp
      have HF := Lib.hid h2
      have e2 : trB xs g n = true := by unfold trB; rw [hok, hp]; rfl
      have e : trF xs g n = (n, trP xs g n) := by unfold trF; rw [if_pos e2]
      rw [e, e2]
      obtain ⟨N, rfl⟩ := Int.eq_ofNat_of_zero_le (show 0 ≤ n by omega)
      obtain ⟨h, hh⟩ : ∃ h : Int → Int, h = fun x => nearF x g / g % (N : Int) := ⟨_, rfl⟩
      obtain ⟨zs, hzs⟩ : ∃ zs, zs = trP xs g N := ⟨_, rfl⟩
      obtain ⟨m, hm⟩ : ∃ m, m = xs.length := ⟨_, rfl⟩
      have CO : Hid (∀ (B : Option Addr) (d : Nat) (W : World), RdI W B (xs.map h) → Calls Try.prog 58 #[.int .i64 N, .slice B m d] W (RetR W ((N : Int), zs))) := fun B d W hw => by
        have := l02Of_any N B d (xs.map h) W hw (by omega) (by rw [List.length_map]; omega)
        rw [List.length_map, ← hm] at this
        rw [hzs, hh] at *
        exact this
      have HH := Lib.hid hh
      rw [hok] at CT
      rw [← hzs]
      rw [← hm] at CT hn ⊢
      have HM := Lib.hid hm
      have HP := Lib.hid hp
      have hg1 := h3.1
      have hg2 := h3.2
      clear e e2 hr hok h1 h2 h3 hm hh hzs hp
      go_enter Try.func30, Try.ntmps30
      go_wp2_with fail
      refine (CT.out _ HX0.out).mono ?_
      rintro e w1 ⟨rfl, he⟩
      have HX1 := Lib.hid (HX0.out.trans he)
      have HG1 := Lib.hid (HG0.out.ext he)
      clear he
      go_wp2_with fail
      refine (l01In_any _ _ _ _).mono ?_
      rintro e w2 ⟨rfl, rfl⟩
      rw [HP.out]
      go_wp2_with fail
      go_loopw [8, 24] (fun o i wr => ∃ (j : Nat) (B : Option Addr) (d : Nat), j ≤ m ∧ i = .int .i64 j ∧ o = .slice B j d ∧ Hid (Bx2 wr w.heap.size 35 (.int .i64 0) (.slice none 0 0)) ∧ Hid (OwI wr w.heap.size B d ((xs.take j).map h)) ∧ Hid (Ext w wr)) (fun _ i _ => m - (intOf i).toNat)
      case atStart => exact ⟨0, _, _, by omega, rfl, rfl, HG1.out.ext ((Ext.refl _).alloc _), own_empty1 _ _ HX1.out.size, HX1.out.alloc _⟩
      case round =>
        clear HX0 HG0 HX1 HG1
        obtain ⟨j, B, d, hj, rfl, rfl, HQ, HO, HE⟩ := hrel
        by_cases hlt : j < m
        · have hjx : j < xs.length := by rw [← HM.out]; exact hlt
          obtain ⟨b, o, hA, hc⟩ := (HR.out.ext HE.out).at_ j hjx
          subst hA
          obtain ⟨x, hx⟩ : ∃ x, x = xs.getD j 0 := ⟨_, rfl⟩
          have hxr := HF.out x (by rw [hx]; exact getD_in hjx)
          rw [← hx] at hc
          have hnb := near_bd hg1 hg2 hxr.1 hxr.2
          obtain ⟨v, hv⟩ : ∃ v, v = nearF x g := ⟨_, rfl⟩
          have CN : Hid (∀ W : World, Calls Try.prog 46 #[.int .i64 x, .int .i64 g] W fun e w' => e = .returned (.int .i64 v) ∧ W = w') := fun W => by rw [hv]; exact nearS_any x g W hg1 hg2 hxr.1 hxr.2
          obtain ⟨y, hy⟩ : ∃ y, y = v / g := ⟨_, rfl⟩
          have hyb : 0 ≤ y ∧ y ≤ 100500 := by
            rw [hy, hv]
            unfold nearF
            rw [Int.mul_ediv_cancel _ (by omega)]
            exact ⟨hnb.1, hnb.2.1⟩
          have hvb : 0 ≤ v ∧ v ≤ 100500 := by rw [hv]; exact hnb.2.2
          obtain ⟨z, hz⟩ : ∃ z, z = y % (N : Int) := ⟨_, rfl⟩
          have hzb : 0 ≤ z ∧ z < N := by rw [hz]; exact ⟨Int.emod_nonneg _ (by omega), Int.emod_lt_of_pos _ (by omega)⟩
          have HS : Hid ((xs.take (j + 1)).map h = (xs.take j).map h ++ [z]) := by rw [take_snoc xs j hjx, List.map_append, ← hx, hz, hy, hv, HH.out]; exact rfl
          have HLJ : Hid (((xs.take j).map h).length = j) := by rw [List.length_map, List.length_take]; exact (by omega : min j xs.length = j)
          have hy' := hy.symm
          have hz' := hz.symm
          clear hx hv hy hjx hnb hz
          go_wp2_with fail
          refine (CN.out _).mono ?_
          rintro e w2 ⟨rfl, rfl⟩
          go_wp2_with (at_builtin; refine app_ints w rfl _ _ rfl B d j ((xs.take j).map h) _ 1 1 [z] rfl rfl HLJ.out rfl (HO.out.ext ((Ext.refl _).alloc _)) (RdI.built wr [z]) (HE.out.alloc _) (by omega) ?_; intro A' c' w3 h1 h2 h3; have HO3 := Lib.hid h1; have HE3 := Lib.hid h2; have HQ3 := Lib.hid ((HQ.out.ext ((Ext.refl _).alloc _)).grown (by decide) (HO.out.ext ((Ext.refl _).alloc _)) h3); clear h1 h2 h3)
          go_roundw
          case rel => exact ⟨j + 1, A', c', by omega, by go_num, rfl, HQ3.out, by rw [HS.out]; exact HO3.out, HE3.out⟩
          case measure => simp [intOf]; omega
        · obtain rfl : j = m := by omega
          have HO2 : Hid (RdI wr B (xs.map h)) := by have := HO.out.rd; rw [take_all xs j HM.out] at this; exact this
          go_wp2_with fail
          refine (CO.out _ _ _ HO2.out).mono ?_
          intro e w2 hret
          obtain ⟨A2, c2, rfl, ho, he⟩ := hret.parts
          have HQ2 := Lib.hid (HQ.out.ext he)
          have HE2 := Lib.hid (HE.out.trans he)
          have HO3 := Lib.hid ho
          have hgw := HQ.out.lt
          have HNE : Hid (∀ ad, A2 = some ad → ad.block ≠ w.heap.size) := fun ad had => by have := (ho.lt ad had).1; omega
          have HSZ := Lib.hid HE.out.size
          clear ho he hret
          obtain ⟨q2, q3, p2, p3⟩ := HQ2.out.cells
          go_wp2_with fail
          refine bodyPost_ret (v := .tuple #[.agg #[.int .i64 N, .slice A2 zs.length c2], .bool true]) (by simp [results, Try.results30, go_sem, q2, q3]) rfl ?_
          exact retRB_intro rfl (((HO3.out.lower HSZ.out).setFar (fun ad had => HNE.out ad had) _).setFar (fun ad had => HNE.out ad had) _) ((HE2.out.setCell (by simp) _).setCell (by simp) _)
    · have hp : inB n 1 24 = false := by simpa using hp
      have e2 : trB xs g n = false := by unfold trB; rw [hok, hp]; rfl
      have e : trF xs g n = (0, []) := by unfold trF; rw [e2]; rfl
      rw [e, e2]
      rw [hok] at CT
      obtain ⟨m, hm⟩ : ∃ m, m = xs.length := ⟨_, rfl⟩
      rw [← hm] at CT hn ⊢
      have HP := Lib.hid hp
      clear e e2 hr hok h1 h2 hm hp
      go_enter Try.func30, Try.ntmps30
      go_wp2_with fail
      refine (CT.out _ HX0.out).mono ?_
      rintro e w1 ⟨rfl, he⟩
      have HX1 := Lib.hid (HX0.out.trans he)
      have HG1 := Lib.hid (HG0.out.ext he)
      clear he
      go_wp2_with fail
      refine (l01In_any _ _ _ _).mono ?_
      rintro e w2 ⟨rfl, rfl⟩
      rw [HP.out]
      obtain ⟨q2, q3, p2, p3⟩ := HG1.out.cells
      go_wp2_with fail
      refine bodyPost_ret (v := .tuple #[.agg #[.int .i64 0, .slice none 0 0], .bool false]) (by simp [results, Try.results30, go_sem, q2, q3]) rfl ?_
      exact RetRB.own0 ((HX1.out.setCell (by simp) _).setCell (by simp) _)
  · have hok : tgB xs g = false := by simpa using hok
    have e2 : trB xs g n = false := by unfold trB; rw [hok]; rfl
    have e : trF xs g n = (0, []) := by unfold trF; rw [e2]; rfl
    rw [e, e2]
    rw [hok] at CT
    obtain ⟨m, hm⟩ : ∃ m, m = xs.length := ⟨_, rfl⟩
    rw [← hm] at CT hn ⊢
    clear e e2 hr hok hm
    go_enter Try.func30, Try.ntmps30
    go_wp2_with fail
    refine (CT.out _ HX0.out).mono ?_
    rintro e w1 ⟨rfl, he⟩
    have HX1 := Lib.hid (HX0.out.trans he)
    have HG1 := Lib.hid (HG0.out.ext he)
    clear he
    obtain ⟨q2, q3, p2, p3⟩ := HG1.out.cells
    go_wp2_with fail
    refine bodyPost_ret (v := .tuple #[.agg #[.int .i64 0, .slice none 0 0], .bool false]) (by simp [results, Try.results30, go_sem, q2, q3]) rfl ?_
    exact RetRB.own0 ((HX1.out.setCell (by simp) _).setCell (by simp) _)
set_option maxHeartbeats 2000000 in
theorem trI_any (A : Option Addr) (c : Nat) (xs : List Int) (g n : Int) (w : World) (hr : RdI w A xs) (hn : xs.length ≤ 1048576) :
    Calls Try.prog 31 #[.slice A xs.length c, .int .i64 g, .int .i64 n] w (RetRB w (trF xs g n) (trB xs g n)) := by
  have CT := Lib.hid (fun (W : World) (he : Ext w W) => tgI_any A c xs g W (hr.ext he) hn)
  have HR := Lib.hid hr
  have HX0 : Hid (Ext w (w.alloc (.cells #[.int .i64 0, .slice none 0 0] 35))) := (Ext.refl w).alloc _
  have HG0 := Lib.hid (Bx2.new w 35 (.int .i64 0) (.slice none 0 0))
  by_cases hok : tgB xs g = true
  · obtain ⟨h1, h2, h3⟩ := tgB_iff hok
    by_cases hp : inB n 1 24 = true
    · have hp' := inB_iff.1 hp
      have HF := Lib.hid h2
      have e2 : trB xs g n = true := by unfold trB; rw [hok, hp]; rfl
      have e : trF xs g n = (n, trP xs g n) := by unfold trF; rw [if_pos e2]
      rw [e, e2]
      obtain ⟨N, rfl⟩ := Int.eq_ofNat_of_zero_le (show 0 ≤ n by omega)
      obtain ⟨h, hh⟩ : ∃ h : Int → Int, h = fun x => nearF x g / g := ⟨_, rfl⟩
      obtain ⟨zs, hzs⟩ : ∃ zs, zs = trP xs g N := ⟨_, rfl⟩
      obtain ⟨m, hm⟩ : ∃ m, m = xs.length := ⟨_, rfl⟩
      have CO : Hid (∀ (B : Option Addr) (d : Nat) (W : World), RdI W B (xs.map h) → Calls Try.prog 59 #[.int .i64 N, .slice B m d] W (RetR W ((N : Int), zs))) := fun B d W hw => by
        have hb : ∀ j, -1000000 ≤ (xs.map h).getD j 0 ∧ (xs.map h).getD j 0 ≤ 1000000 := fun j => by
          by_cases hj : j < xs.length
          · rw [getD_map h xs j hj, hh]
            have hx := h2 _ (getD_in hj)
            have hnb := near_bd h3.1 h3.2 hx.1 hx.2
            simp only []
            unfold nearF
            rw [Int.mul_ediv_cancel _ (by omega)]
            omega
          · have : (xs.map h).getD j 0 = 0 := by simp [List.getD, List.getElem?_eq_none (by omega : xs.length ≤ j)]
            omega
        have := rof_any N B d (xs.map h) W hw (by omega) (by rw [List.length_map]; omega) hb
        rw [List.length_map, ← hm, List.map_map] at this
        rw [hzs, hh] at *
        exact this
      have HH := Lib.hid hh
      rw [hok] at CT
      rw [← hzs]
      rw [← hm] at CT hn ⊢
      have HM := Lib.hid hm
      have HP := Lib.hid hp
      have hg1 := h3.1
      have hg2 := h3.2
      clear e e2 hr hok h1 h2 h3 hm hh hzs hp
      go_enter Try.func31, Try.ntmps31
      go_wp2_with fail
      refine (CT.out _ HX0.out).mono ?_
      rintro e w1 ⟨rfl, he⟩
      have HX1 := Lib.hid (HX0.out.trans he)
      have HG1 := Lib.hid (HG0.out.ext he)
      clear he
      go_wp2_with fail
      refine (within_any _ _ _ _).mono ?_
      rintro e w2 ⟨rfl, rfl⟩
      rw [HP.out]
      go_wp2_with fail
      go_loopw [8, 23] (fun o i wr => ∃ (j : Nat) (B : Option Addr) (d : Nat), j ≤ m ∧ i = .int .i64 j ∧ o = .slice B j d ∧ Hid (Bx2 wr w.heap.size 35 (.int .i64 0) (.slice none 0 0)) ∧ Hid (OwI wr w.heap.size B d ((xs.take j).map h)) ∧ Hid (Ext w wr)) (fun _ i _ => m - (intOf i).toNat)
      case atStart => exact ⟨0, _, _, by omega, rfl, rfl, HG1.out, OwI.nil _ _, HX1.out⟩
      case round =>
        clear HX0 HG0 HX1 HG1
        obtain ⟨j, B, d, hj, rfl, rfl, HQ, HO, HE⟩ := hrel
        by_cases hlt : j < m
        · have hjx : j < xs.length := by rw [← HM.out]; exact hlt
          obtain ⟨b, o, hA, hc⟩ := (HR.out.ext HE.out).at_ j hjx
          subst hA
          obtain ⟨x, hx⟩ : ∃ x, x = xs.getD j 0 := ⟨_, rfl⟩
          have hxr := HF.out x (by rw [hx]; exact getD_in hjx)
          rw [← hx] at hc
          have hnb := near_bd hg1 hg2 hxr.1 hxr.2
          obtain ⟨v, hv⟩ : ∃ v, v = nearF x g := ⟨_, rfl⟩
          have CN : Hid (∀ W : World, Calls Try.prog 51 #[.int .i64 x, .int .i64 g] W fun e w' => e = .returned (.int .i64 v) ∧ W = w') := fun W => by rw [hv]; exact nearI_any x g W hg1 hg2 hxr.1 hxr.2
          obtain ⟨y, hy⟩ : ∃ y, y = v / g := ⟨_, rfl⟩
          have hyb : 0 ≤ y ∧ y ≤ 100500 := by
            rw [hy, hv]
            unfold nearF
            rw [Int.mul_ediv_cancel _ (by omega)]
            exact ⟨hnb.1, hnb.2.1⟩
          have hvb : 0 ≤ v ∧ v ≤ 100500 := by rw [hv]; exact hnb.2.2
          obtain ⟨z, hz⟩ : ∃ z, z = y := ⟨_, rfl⟩
          have hzb : 0 ≤ z := by omega
          have HS : Hid ((xs.take (j + 1)).map h = (xs.take j).map h ++ [z]) := by rw [take_snoc xs j hjx, List.map_append, ← hx, hz, hy, hv, HH.out]; exact rfl
          have HLJ : Hid (((xs.take j).map h).length = j) := by rw [List.length_map, List.length_take]; exact (by omega : min j xs.length = j)
          have hy' := hy.symm
          subst hz
          clear hx hv hy hjx hnb
          go_wp2_with fail
          refine (CN.out _).mono ?_
          rintro e w2 ⟨rfl, rfl⟩
          go_wp2_with (at_builtin; refine app_ints w rfl _ _ rfl B d j ((xs.take j).map h) _ 1 1 [z] rfl rfl HLJ.out rfl (HO.out.ext ((Ext.refl _).alloc _)) (RdI.built wr [z]) (HE.out.alloc _) (by omega) ?_; intro A' c' w3 h1 h2 h3; have HO3 := Lib.hid h1; have HE3 := Lib.hid h2; have HQ3 := Lib.hid ((HQ.out.ext ((Ext.refl _).alloc _)).grown (by decide) (HO.out.ext ((Ext.refl _).alloc _)) h3); clear h1 h2 h3)
          go_roundw
          case rel => exact ⟨j + 1, A', c', by omega, by go_num, rfl, HQ3.out, by rw [HS.out]; exact HO3.out, HE3.out⟩
          case measure => simp [intOf]; omega
        · obtain rfl : j = m := by omega
          have HO2 : Hid (RdI wr B (xs.map h)) := by have := HO.out.rd; rw [take_all xs j HM.out] at this; exact this
          go_wp2_with fail
          refine (CO.out _ _ _ HO2.out).mono ?_
          intro e w2 hret
          obtain ⟨A2, c2, rfl, ho, he⟩ := hret.parts
          have HQ2 := Lib.hid (HQ.out.ext he)
          have HE2 := Lib.hid (HE.out.trans he)
          have HO3 := Lib.hid ho
          have hgw := HQ.out.lt
          have HNE : Hid (∀ ad, A2 = some ad → ad.block ≠ w.heap.size) := fun ad had => by have := (ho.lt ad had).1; omega
          have HSZ := Lib.hid HE.out.size
          clear ho he hret
          obtain ⟨q2, q3, p2, p3⟩ := HQ2.out.cells
          go_wp2_with fail
          refine bodyPost_ret (v := .tuple #[.agg #[.int .i64 N, .slice A2 zs.length c2], .bool true]) (by simp [results, Try.results31, go_sem, q2, q3]) rfl ?_
          exact retRB_intro rfl (((HO3.out.lower HSZ.out).setFar (fun ad had => HNE.out ad had) _).setFar (fun ad had => HNE.out ad had) _) ((HE2.out.setCell (by simp) _).setCell (by simp) _)
    · have hp : inB n 1 24 = false := by simpa using hp
      have e2 : trB xs g n = false := by unfold trB; rw [hok, hp]; rfl
      have e : trF xs g n = (0, []) := by unfold trF; rw [e2]; rfl
      rw [e, e2]
      rw [hok] at CT
      obtain ⟨m, hm⟩ : ∃ m, m = xs.length := ⟨_, rfl⟩
      rw [← hm] at CT hn ⊢
      have HP := Lib.hid hp
      clear e e2 hr hok h1 h2 hm hp
      go_enter Try.func31, Try.ntmps31
      go_wp2_with fail
      refine (CT.out _ HX0.out).mono ?_
      rintro e w1 ⟨rfl, he⟩
      have HX1 := Lib.hid (HX0.out.trans he)
      have HG1 := Lib.hid (HG0.out.ext he)
      clear he
      go_wp2_with fail
      refine (within_any _ _ _ _).mono ?_
      rintro e w2 ⟨rfl, rfl⟩
      rw [HP.out]
      obtain ⟨q2, q3, p2, p3⟩ := HG1.out.cells
      go_wp2_with fail
      refine bodyPost_ret (v := .tuple #[.agg #[.int .i64 0, .slice none 0 0], .bool false]) (by simp [results, Try.results31, go_sem, q2, q3]) rfl ?_
      exact RetRB.own0 ((HX1.out.setCell (by simp) _).setCell (by simp) _)
  · have hok : tgB xs g = false := by simpa using hok
    have e2 : trB xs g n = false := by unfold trB; rw [hok]; rfl
    have e : trF xs g n = (0, []) := by unfold trF; rw [e2]; rfl
    rw [e, e2]
    rw [hok] at CT
    obtain ⟨m, hm⟩ : ∃ m, m = xs.length := ⟨_, rfl⟩
    rw [← hm] at CT hn ⊢
    clear e e2 hr hok hm
    go_enter Try.func31, Try.ntmps31
    go_wp2_with fail
    refine (CT.out _ HX0.out).mono ?_
    rintro e w1 ⟨rfl, he⟩
    have HX1 := Lib.hid (HX0.out.trans he)
    have HG1 := Lib.hid (HG0.out.ext he)
    clear he
    obtain ⟨q2, q3, p2, p3⟩ := HG1.out.cells
    go_wp2_with fail
    refine bodyPost_ret (v := .tuple #[.agg #[.int .i64 0, .slice none 0 0], .bool false]) (by simp [results, Try.results31, go_sem, q2, q3]) rfl ?_
    exact RetRB.own0 ((HX1.out.setCell (by simp) _).setCell (by simp) _)
end Go.Proofs.Ytpiaeiihacobnaa
