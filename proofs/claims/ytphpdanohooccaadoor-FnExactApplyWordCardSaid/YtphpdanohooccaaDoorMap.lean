/- The reference's rhythm functions: contracts of l02Has, l02Of, l02Map. -/
import Derived.Test.YtphpdanohooccaaDoorRhyB
import Derived.Test.YtphpdanohooccaaDoorSet
import Derived.Test.YtphpdanohooccaaDoorMod
import Derived.Test.YtphpdanohooccaaDoorRhyV
namespace Go.Proofs.YtphpdanohooccaaDoor
open Go.RowKit

theorem Bx2.new1' (w : World) (x : Obj) (t : TypeId) (a b : Value) : Bx2 ((w.alloc x).alloc (.cells #[a, b] t)) (w.heap.size + 1) t a b := by
  have := Bx2.new (w.alloc x) t a b
  rwa [show (w.alloc x).heap.size = w.heap.size + 1 by simp] at this
/-- What a list carried by f, around, holds. -/
def mapF (n : Nat) (xs : List Int) (f : Int → Int) : List Int := setL n (fun p => (xs.map fun q => f q % (n : Int)).contains (p : Int))

theorem retR_intro {w w' : World} {n : Int} {A : Option Addr} {l c : Nat} {xs : List Int} (hl : l = xs.length) (ho : OwI w' w.heap.size A c xs) (he : Ext w w') :
    RetR w (n, xs) (.returned (.agg #[.int .i64 n, .slice A l c])) w' := by
  subst hl
  exact ⟨_, rfl, ⟨A, c, rfl, A, c, rfl, ho, fun a ha => (ho.lt a ha).2, Nat.le_refl _⟩, he⟩
theorem RetR.parts {w w' : World} {n : Int} {xs : List Int} {e : Ending} (h : RetR w (n, xs) e w') : ∃ A c, e = .returned (.agg #[.int .i64 n, .slice A xs.length c]) ∧ OwI w' w.heap.size A c xs ∧ Ext w w' := by
  obtain ⟨v, rfl, ⟨A, c, rfl, A3, c3, e3, ho, _, _⟩, he⟩ := h
  injection e3 with e1 _ e3
  subst e1 e3
  exact ⟨_, _, rfl, ho, he⟩
theorem RetRB.parts {w w' : World} {n : Int} {xs : List Int} {b : Bool} {e : Ending} (h : RetRB w (n, xs) b e w') : ∃ A c, e = .returned (.tuple #[.agg #[.int .i64 n, .slice A xs.length c], .bool b]) ∧ OwI w' w.heap.size A c xs ∧ Ext w w' := by
  obtain ⟨v, rfl, ⟨A, c, rfl, A3, c3, e3, ho, _, _⟩, he⟩ := h
  injection e3 with e1 _ e3
  subst e1 e3
  exact ⟨_, _, rfl, ho, he⟩
theorem own_empty2 (w : World) (x y : Obj) : OwI (((w.alloc x).alloc y).alloc (.cells #[] 3)) w.heap.size (some ⟨w.heap.size + 1 + 1, 0, none⟩) 0 [] := by
  have h := (OwI.empty ((w.alloc x).alloc y)).lower (((Ext.refl w).alloc x).alloc y).size
  have e : ((w.alloc x).alloc y).heap.size = w.heap.size + 1 + 1 := by simp
  rwa [e] at h
theorem own_empty1 (w w1 : World) (he : w.heap.size ≤ w1.heap.size) : OwI (w1.alloc (.cells #[] 3)) w.heap.size (some ⟨w1.heap.size, 0, none⟩) 0 [] := (OwI.empty w1).lower he
theorem mul_bnd {u x : Int} (hu : -30 ≤ u ∧ u ≤ 30) (hx : 0 ≤ x ∧ x ≤ 23) : -690 ≤ u * x ∧ u * x ≤ 690 := by
  have h1 := Int.mul_le_mul_of_nonneg_right hu.2 hx.1
  have h2 := Int.mul_le_mul_of_nonneg_right hu.1 hx.1
  omega

theorem has_any (A : Option Addr) (c : Nat) (xs : List Int) (x : Int) (w : World) (hr : RdI w A xs) (hn : xs.length ≤ 1048576) :
    Calls Tryd.prog 27 #[.slice A xs.length c, .int .i64 x] w fun e w' => e = .returned (.bool (xs.contains x)) ∧ w = w' := by
  obtain ⟨l, hl⟩ : ∃ l, l = xs.length := ⟨_, rfl⟩
  obtain ⟨R, hR⟩ : ∃ R, R = xs.contains x := ⟨_, rfl⟩
  rw [← hl, ← hR]
  rw [← hl] at hn
  have HL := Lib.hid hl
  have HRR := Lib.hid hR
  have HR := Lib.hid hr
  clear hl hR hr
  go_enter Tryd.func27, Tryd.ntmps27
  go_wp2_with fail
  go_loop [9] (fun i => ∃ k : Nat, k ≤ l ∧ i = .int .i64 k ∧ Hid (∀ j, j < k → xs.getD j 0 ≠ x)) (fun i => l - (intOf i).toNat)
  case atStart => exact ⟨0, Nat.zero_le _, rfl, fun j hj => absurd hj (by omega)⟩
  case round =>
    obtain ⟨k, hk, rfl, HJ⟩ := hrel
    by_cases hlt : k < l
    · have hkx : k < xs.length := by rw [← HL.out]; exact hlt
      obtain ⟨b, o, hA, hc⟩ := HR.out.at_ k hkx
      subst hA
      obtain ⟨y, hy⟩ : ∃ y, y = xs.getD k 0 := ⟨_, rfl⟩
      rw [← hy] at hc
      by_cases hxy : x = y
      · have HT : Hid (R = true) := by rw [HRR.out, List.contains_iff_mem, hxy, hy]; exact getD_in hkx
        subst hxy
        clear hy hkx
        go_wp2_with fail
        go_ret
        exact ⟨ret_bool HT.out.symm, rfl⟩
      · have HY := Lib.hid hy
        have hxy2 : (x == y) = false := by simpa using hxy
        clear hy hkx
        go_wp2_with fail
        go_round
        case rel =>
          refine ⟨k + 1, by omega, by go_num, fun j hj => ?_⟩
          by_cases hjk : j < k
          · exact HJ.out j hjk
          · obtain rfl : j = k := by omega
            rw [← HY.out]
            exact fun e => hxy e.symm
        case measure => simp [intOf]; omega
    · obtain rfl : k = l := by omega
      have HF : Hid (R = false) := by
        rw [HRR.out]
        refine Bool.eq_false_iff.2 (fun h => ?_)
        rw [List.contains_iff_mem] at h
        obtain ⟨j, hj, e⟩ := List.mem_iff_getElem.1 h
        refine HJ.out j (by rw [HL.out]; exact hj) ?_
        simpa [List.getD, hj] using e
      go_wp2_with fail
      go_ret
      exact ⟨ret_bool HF.out.symm, rfl⟩

set_option maxHeartbeats 2000000 in
theorem l02Of_any (n : Nat) (A : Option Addr) (c : Nat) (ys : List Int) (w : World) (hr : RdI w A ys) (hn : n ≤ 24) (hl : ys.length ≤ 1048576) :
    Calls Tryd.prog 26 #[.int .i64 n, .slice A ys.length c] w (RetR w ((n : Int), setL n (fun p : Nat => ys.contains (p : Int)))) := by
  obtain ⟨l, hll⟩ : ∃ l, l = ys.length := ⟨_, rfl⟩
  obtain ⟨P, hP⟩ : ∃ P : Nat → Bool, P = fun p : Nat => ys.contains (p : Int) := ⟨_, rfl⟩
  have CH : Hid (∀ (p : Nat) (W : World), Ext w W → Calls Tryd.prog 27 #[.slice A l c, .int .i64 p] W fun e w' => e = .returned (.bool (P p)) ∧ W = w') := fun p W he => by
    rw [hP, hll]
    exact has_any A c ys p W (hr.ext he) hl
  rw [← hll, ← hP]
  clear hP hll hr hl
  go_enter Tryd.func26, Tryd.ntmps26
  go_wp2_with fail
  go_loopw [6] (fun i wr => ∃ (p m : Nat) (B : Option Addr) (d : Nat), p ≤ n ∧ m ≤ p ∧ i = .int .i64 p ∧ Hid ((setL p P).length = m) ∧ Hid (Bx2 wr (w.heap.size + 1) 26 (.int .i64 n) (.slice B m d)) ∧ Hid (Bx2 wr w.heap.size 26 (.int .i64 0) (.slice none 0 0)) ∧ Hid (OwI wr w.heap.size B d (setL p P)) ∧ Hid (Ext w wr)) (fun i _ => n - (intOf i).toNat)
  case atStart =>
    exact ⟨0, 0, none, 0, by omega, by omega, rfl, rfl, Bx2.new1' _ _ _ _ _, (Bx2.new w _ _ _).ext ((Ext.refl _).alloc _), OwI.nil _ _, ((Ext.refl w).alloc _).alloc _⟩
  case round =>
    obtain ⟨p, m, B, d, hp, hm, rfl, HM, HB, HG, HO, HE⟩ := hrel
    by_cases hlt : p < n
    · have HS := Lib.hid (setL_succ p P)
      have CP := Lib.hid (CH.out p wr HE.out)
      obtain ⟨b, hb⟩ : ∃ b, b = P p := ⟨_, rfl⟩
      rw [← hb] at HS CP
      clear hb
      go_wp2_with fail
      refine CP.out.mono ?_
      rintro e w1 ⟨rfl, rfl⟩
      cases b
      · have HS2 : Hid (setL (p + 1) P = setL p P) := HS.out
        go_wp2_with fail
        go_roundw
        case rel => exact ⟨p + 1, m, B, d, by omega, by omega, by go_num, by rw [HS2.out]; exact HM.out, HB.out, HG.out, by rw [HS2.out]; exact HO.out, HE.out⟩
        case measure => simp [intOf]; omega
      · have HS2 : Hid (setL (p + 1) P = setL p P ++ [(p : Int)]) := HS.out
        obtain ⟨q0, q1, p0, p1⟩ := HB.out.cells
        go_wp2_with (at_builtin; refine app_ints w rfl _ _ rfl B d m (setL p P) _ 1 1 [(p : Int)] rfl rfl HM.out rfl (HO.out.ext ((Ext.refl _).alloc _)) (RdI.built wr [(p : Int)]) (HE.out.alloc _) (by omega) ?_; intro A' c' w2 h1 h2 h3; have HO2 := Lib.hid h1; have HE3 := Lib.hid h2; have HB2 := Lib.hid ((HB.out.ext ((Ext.refl _).alloc _)).grown (by decide) (HO.out.ext ((Ext.refl _).alloc _)) h3); have HG3 := Lib.hid ((HG.out.ext ((Ext.refl _).alloc _)).grown (by decide) (HO.out.ext ((Ext.refl _).alloc _)) h3); obtain ⟨r0, r1, s0, s1⟩ := HB2.out.cells; clear h1 h2 h3)
        go_roundw
        case rel =>
          exact ⟨p + 1, m + 1, A', c', by omega, by omega, by go_num, by rw [HS2.out, List.length_append, HM.out]; exact rfl, HB2.out.set1 _, HG3.out.far (by simp only []; omega) _,
            by rw [HS2.out]; exact HO2.out.setFar (fun ad had => HB2.out.ne (by decide) HO2.out ad had) _, HE3.out.setCell (by simp only []; omega) _⟩
        case measure => simp [intOf]; omega
    · obtain rfl : p = n := by omega
      obtain ⟨q0, q1, p0, p1⟩ := HB.out.cells
      obtain ⟨z0, z1, y0, y1⟩ := HG.out.cells
      have HNE := Lib.hid (HG.out.ne (by decide) HO.out)
      go_wp2_with fail
      refine bodyPost_ret (v := .agg #[.int .i64 p, .slice B m d]) (by simp [results, Tryd.results26, go_sem, z0, z1]) rfl ?_
      exact retR_intro HM.out.symm ((HO.out.setFar (fun ad had => HNE.out ad had) _).setFar (fun ad had => HNE.out ad had) _) ((HE.out.setCell (by simp) _).setCell (by simp) _)

set_option maxHeartbeats 2000000 in
theorem l02Map_any (n : Nat) (A : Option Addr) (c : Nat) (xs : List Int) (u k : Int) (w : World) (hr : RdI w A xs) (hb : rhyB n xs = true) (hu : -30 ≤ u ∧ u ≤ 30) (hk : -2000 ≤ k ∧ k ≤ 2000) :
    Calls Tryd.prog 13 #[.agg #[.int .i64 n, .slice A xs.length c], .int .i64 u, .int .i64 k] w (RetR w ((n : Int), mapF n xs (fun q => u * q + k))) := by
  have hv := rhyB_vals hb
  have hn := (rhyB_iff hb).1
  have hln := rhyB_len hb
  obtain ⟨l, hll⟩ : ∃ l, l = xs.length := ⟨_, rfl⟩
  obtain ⟨g, hg⟩ : ∃ g : Int → Int, g = fun q => (u * q + k) % (n : Int) := ⟨_, rfl⟩
  have hm : mapF n xs (fun q => u * q + k) = setL n (fun p : Nat => (xs.map g).contains (p : Int)) := by rw [hg]; rfl
  rw [hm]
  obtain ⟨zs, hzs⟩ : ∃ zs, zs = setL n (fun p : Nat => (xs.map g).contains (p : Int)) := ⟨_, rfl⟩
  have CO : Hid (∀ (B : Option Addr) (d : Nat) (W : World), RdI W B (xs.map g) → Calls Tryd.prog 26 #[.int .i64 n, .slice B l d] W (RetR W ((n : Int), zs))) := fun B d W h => by
    have := l02Of_any n B d (xs.map g) W h (by omega) (by rw [List.length_map]; omega)
    rwa [List.length_map, ← hll, ← hzs] at this
  have HG := Lib.hid hg
  have HL := Lib.hid hll
  have HR := Lib.hid hr
  have HV := Lib.hid hv
  rw [← hzs, ← hll]
  rw [← hll] at hln
  clear hm hzs hll hr hv hb hg
  have HX0 : Hid (Ext w ((w.alloc (.cells #[.int .i64 n, .slice A l c] 26)).alloc (.cells #[.int .i64 0, .slice none 0 0] 26))) := ((Ext.refl w).alloc _).alloc _
  have HG0 : Hid (Bx2 ((w.alloc (.cells #[.int .i64 n, .slice A l c] 26)).alloc (.cells #[.int .i64 0, .slice none 0 0] 26)) w.heap.size 26 (.int .i64 n) (.slice A l c)) := (Bx2.new w _ _ _).ext ((Ext.refl _).alloc _)
  have HG1 : Hid (Bx2 ((w.alloc (.cells #[.int .i64 n, .slice A l c] 26)).alloc (.cells #[.int .i64 0, .slice none 0 0] 26)) (w.heap.size + 1) 26 (.int .i64 0) (.slice none 0 0)) := Bx2.new1' _ _ _ _ _
  go_enter Tryd.func13, Tryd.ntmps13
  go_wp2_with fail
  go_loopw [7, 14] (fun o i wr => ∃ (j : Nat) (B : Option Addr) (d : Nat), j ≤ l ∧ i = .int .i64 j ∧ o = .slice B j d ∧ Hid (Bx2 wr w.heap.size 26 (.int .i64 n) (.slice A l c)) ∧ Hid (Bx2 wr (w.heap.size + 1) 26 (.int .i64 0) (.slice none 0 0)) ∧ Hid (OwI wr w.heap.size B d ((xs.take j).map g)) ∧ Hid (Ext w wr)) (fun _ i _ => l - (intOf i).toNat)
  case atStart => exact ⟨0, _, _, by omega, rfl, rfl, HG0.out.ext ((Ext.refl _).alloc _), HG1.out.ext ((Ext.refl _).alloc _), own_empty2 w _ _, HX0.out.alloc _⟩
  case round =>
    clear HX0 HG0 HG1
    obtain ⟨j, B, d, hj, rfl, rfl, HP, HQ, HO, HE⟩ := hrel
    obtain ⟨q0, q1, p0, p1⟩ := HP.out.cells
    obtain ⟨q2, q3, p2, p3⟩ := HQ.out.cells
    by_cases hlt : j < l
    · have hjx : j < xs.length := by rw [← HL.out]; exact hlt
      obtain ⟨b, o, hA, hc⟩ := (HR.out.ext HE.out).at_ j hjx
      subst hA
      obtain ⟨x, hx⟩ : ∃ x, x = xs.getD j 0 := ⟨_, rfl⟩
      have hxr := HV.out j
      rw [← hx] at hc hxr
      obtain ⟨ux, hux⟩ : ∃ ux, ux = u * x := ⟨_, rfl⟩
      have huxb : -690 ≤ ux ∧ ux ≤ 690 := by rw [hux]; exact mul_bnd hu hxr
      have hw : IntKind.i64.wrap (u * x) = ux := by rw [← hux]; exact IntWalk.i64_in _ (by omega)
      obtain ⟨y, hy⟩ : ∃ y, y = g x := ⟨_, rfl⟩
      have CM : Hid (∀ W : World, Calls Tryd.prog 25 #[.int .i64 (ux + k), .int .i64 n] W fun e w' => e = .returned (.int .i64 y) ∧ ∃ q, w' = W.drewN q) := fun W => by
        rw [hy, HG.out, hux]
        exact modS_any _ _ W (by rw [← hux]; omega) (by omega)
      have HS : Hid ((xs.take (j + 1)).map g = (xs.take j).map g ++ [y]) := by rw [take_snoc xs j hjx, List.map_append, ← hx, hy]; exact rfl
      have HLJ : Hid (((xs.take j).map g).length = j) := by rw [List.length_map, List.length_take]; exact (by omega : min j xs.length = j)
      clear hx hux hy hjx
      go_wp2_with fail
      refine (CM.out _).mono ?_
      rintro e w2 ⟨rfl, hw2⟩
      have HE2 : Hid (Ext wr w2) := by obtain ⟨q, rfl⟩ := hw2; exact (Ext.refl _).drewN _
      have HP2 := Lib.hid (HP.out.ext HE2.out)
      have HQ2 := Lib.hid (HQ.out.ext HE2.out)
      have HO2 := Lib.hid (HO.out.ext HE2.out)
      have HX2 := Lib.hid (HE.out.trans HE2.out)
      clear hw2 q0 q1 p0 p1 q2 q3 p2 p3 hc
      go_wp2_with (at_builtin; refine app_ints w rfl _ _ rfl B d j ((xs.take j).map g) _ 1 1 [y] rfl rfl HLJ.out rfl (HO2.out.ext ((Ext.refl _).alloc _)) (RdI.built w2 [y]) (HX2.out.alloc _) (by omega) ?_; intro A' c' w3 h1 h2 h3; have HO3 := Lib.hid h1; have HE3 := Lib.hid h2; have HP3 := Lib.hid ((HP2.out.ext ((Ext.refl _).alloc _)).grown (by decide) (HO2.out.ext ((Ext.refl _).alloc _)) h3); have HQ3 := Lib.hid ((HQ2.out.ext ((Ext.refl _).alloc _)).grown (by decide) (HO2.out.ext ((Ext.refl _).alloc _)) h3); clear h1 h2 h3)
      go_roundw
      case rel => exact ⟨j + 1, A', c', by omega, by go_num, rfl, HP3.out, HQ3.out, by rw [HS.out]; exact HO3.out, HE3.out⟩
      case measure => simp [intOf]; omega
    · obtain rfl : j = l := by omega
      have HO2 : Hid (RdI wr B (xs.map g)) := by have := HO.out.rd; rw [take_all xs j HL.out] at this; exact this
      have hgw := HQ.out.lt
      go_wp2_with fail
      refine (CO.out _ _ _ HO2.out).mono ?_
      intro e w2 hret
      obtain ⟨A2, c2, rfl, ho, he⟩ := hret.parts
      have HQ2 := Lib.hid (HQ.out.ext he)
      have HE2 := Lib.hid (HE.out.trans he)
      have HO3 := Lib.hid ho
      have HNE : Hid (∀ ad, A2 = some ad → ad.block ≠ w.heap.size + 1) := fun ad had => by have := (ho.lt ad had).1; omega
      have HSZ := Lib.hid HE.out.size
      clear ho he hret q0 q1 p0 p1 q2 q3 p2 p3
      obtain ⟨q2, q3, p2, p3⟩ := HQ2.out.cells
      go_wp2_with fail
      refine bodyPost_ret (v := .agg #[.int .i64 n, .slice A2 zs.length c2]) (by simp [results, Tryd.results13, go_sem, q2, q3]) rfl ?_
      exact retR_intro rfl (((HO3.out.lower HSZ.out).setFar (fun ad had => HNE.out ad had) _).setFar (fun ad had => HNE.out ad had) _) ((HE2.out.setCell (by simp) _).setCell (by simp) _)
end Go.Proofs.YtphpdanohooccaaDoor
