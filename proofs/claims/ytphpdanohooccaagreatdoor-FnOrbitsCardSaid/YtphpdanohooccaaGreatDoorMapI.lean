/- The program's rhythm functions: contracts of rhythmOf, moved, rotated, mirrored, stretched. -/
import Derived.Test.YtphpdanohooccaaGreatDoorMap
import Derived.Test.YtphpdanohooccaaGreatDoorColl
namespace Go.Proofs.YtphpdanohooccaaGreatDoor
open Go.RowKit

theorem own_nil1 (w : World) (x : Obj) : OwI (w.alloc x) w.heap.size none 0 [] := (OwI.nil (w.alloc x) _)

set_option maxHeartbeats 2000000 in
theorem rof_any (n : Nat) (A : Option Addr) (c : Nat) (ys : List Int) (w : World) (hr : RdI w A ys) (hn : 1 ≤ n ∧ n ≤ 24) (hl : ys.length ≤ 1000000) (hb : ∀ j, -1000000 ≤ ys.getD j 0 ∧ ys.getD j 0 ≤ 1000000) :
    Calls Tryz.prog 78 #[.int .i64 n, .slice A ys.length c] w (RetR w ((n : Int), setL n (fun p : Nat => (ys.map (· % (n : Int))).contains (p : Int)))) := by
  obtain ⟨l, hll⟩ : ∃ l, l = ys.length := ⟨_, rfl⟩
  obtain ⟨g, hg⟩ : ∃ g : Int → Int, g = fun q => q % (n : Int) := ⟨_, rfl⟩
  rw [← hg]
  obtain ⟨zs, hzs⟩ : ∃ zs, zs = setL n (fun p : Nat => (ys.map g).contains (p : Int)) := ⟨_, rfl⟩
  have hc : colF (ys.map g) = zs := by
    rw [hzs]
    refine colF_set (fun x hx => ?_)
    rw [List.mem_map] at hx
    obtain ⟨q, _, rfl⟩ := hx
    rw [hg]
    exact ⟨Int.emod_nonneg _ (by omega), Int.emod_lt_of_pos _ (by omega)⟩
  have CO : Hid (∀ (B : Option Addr) (d : Nat) (W : World), RdI W B (ys.map g) → Calls Tryz.prog 26 #[.slice B l d] W (RetI W zs)) := fun B d W h => by
    have := coll_any B d (ys.map g) W h (by rw [List.length_map]; omega)
    rwa [List.length_map, ← hll, hc] at this
  have HG := Lib.hid hg
  have HL := Lib.hid hll
  have HR := Lib.hid hr
  have HV := Lib.hid hb
  rw [← hzs, ← hll]
  rw [← hll] at hl
  clear hzs hll hr hb hg hc
  go_enter Tryz.func78, Tryz.ntmps78
  go_wp2_with fail
  go_loopw [5, 10] (fun o i wr => ∃ (j : Nat) (B : Option Addr) (d : Nat), j ≤ l ∧ i = .int .i64 j ∧ o = .slice B j d ∧ Hid (Bx2 wr w.heap.size 25 (.int .i64 0) (.slice none 0 0)) ∧ Hid (OwI wr w.heap.size B d ((ys.take j).map g)) ∧ Hid (Ext w wr)) (fun _ i _ => l - (intOf i).toNat)
  case atStart => exact ⟨0, none, 0, by omega, rfl, rfl, Bx2.new _ _ _ _, OwI.nil _ _, (Ext.refl w).alloc _⟩
  case round =>
    obtain ⟨j, B, d, hj, rfl, rfl, HQ, HO, HE⟩ := hrel
    by_cases hlt : j < l
    · have hjx : j < ys.length := by rw [← HL.out]; exact hlt
      obtain ⟨b, o, hA, hc⟩ := (HR.out.ext HE.out).at_ j hjx
      subst hA
      obtain ⟨x, hx⟩ : ∃ x, x = ys.getD j 0 := ⟨_, rfl⟩
      have hxr := HV.out j
      rw [← hx] at hc hxr
      obtain ⟨y, hy⟩ : ∃ y, y = g x := ⟨_, rfl⟩
      have CM : Hid (∀ W : World, Calls Tryz.prog 38 #[.int .i64 x, .int .i64 n] W fun e w' => e = .returned (.int .i64 y) ∧ ∃ q, w' = W.drewN q) := fun W => by
        rw [hy, HG.out]
        exact modI_any _ _ W (by omega) (by omega)
      have HS : Hid ((ys.take (j + 1)).map g = (ys.take j).map g ++ [y]) := by rw [take_snoc ys j hjx, List.map_append, ← hx, hy]; exact rfl
      have HLJ : Hid (((ys.take j).map g).length = j) := by rw [List.length_map, List.length_take]; exact (by omega : min j ys.length = j)
      clear hx hy hjx
      go_wp2_with fail
      refine (CM.out _).mono ?_
      rintro e w2 ⟨rfl, hw2⟩
      have HE2 : Hid (Ext wr w2) := by obtain ⟨q, rfl⟩ := hw2; exact (Ext.refl _).drewN _
      have HQ2 := Lib.hid (HQ.out.ext HE2.out)
      have HO2 := Lib.hid (HO.out.ext HE2.out)
      have HX2 := Lib.hid (HE.out.trans HE2.out)
      clear hw2 hc
      go_wp2_with (at_builtin; refine app_ints w rfl _ _ rfl B d j ((ys.take j).map g) _ 1 1 [y] rfl rfl HLJ.out rfl (HO2.out.ext ((Ext.refl _).alloc _)) (RdI.built w2 [y]) (HX2.out.alloc _) (by omega) ?_; intro A' c' w3 h1 h2 h3; have HO3 := Lib.hid h1; have HE3 := Lib.hid h2; have HQ3 := Lib.hid ((HQ2.out.ext ((Ext.refl _).alloc _)).grown (by decide) (HO2.out.ext ((Ext.refl _).alloc _)) h3); clear h1 h2 h3)
      go_roundw
      case rel => exact ⟨j + 1, A', c', by omega, by go_num, rfl, HQ3.out, by rw [HS.out]; exact HO3.out, HE3.out⟩
      case measure => simp [intOf]; omega
    · obtain rfl : j = l := by omega
      have HO2 : Hid (RdI wr B (ys.map g)) := by have := HO.out.rd; rw [take_all ys j HL.out] at this; exact this
      go_wp2_with fail
      refine (CO.out _ _ _ HO2.out).mono ?_
      rintro e w2 ⟨A2, c2, rfl, ho, he⟩
      have HQ2 := Lib.hid (HQ.out.ext he)
      have HE2 := Lib.hid (HE.out.trans he)
      have HO3 := Lib.hid ho
      have hgw := HQ.out.lt
      have HNE : Hid (∀ ad, A2 = some ad → ad.block ≠ w.heap.size) := fun ad had => by have := (ho.lt ad had).1; omega
      have HSZ := Lib.hid HE.out.size
      clear ho he
      obtain ⟨q2, q3, p2, p3⟩ := HQ2.out.cells
      go_wp2_with fail
      refine bodyPost_ret (v := .agg #[.int .i64 n, .slice A2 zs.length c2]) (by simp [results, Tryz.results78, go_sem, q2, q3]) rfl ?_
      exact retR_intro rfl (((HO3.out.lower HSZ.out).setFar (fun ad had => HNE.out ad had) _).setFar (fun ad had => HNE.out ad had) _) ((HE2.out.setCell (by simp) _).setCell (by simp) _)

/-- What a carrier does to a beat. -/
def Carries (fn : FuncId) (cap : Array Value) (f : Int → Int) (w : World) : Prop :=
  ∀ (p : Int) (W : World), 0 ≤ p → p ≤ 23 → Ext w W → Calls Tryz.prog fn (#[.int .i64 p] ++ cap) W fun e w' => e = .returned (.int .i64 (f p)) ∧ W = w'

set_option maxHeartbeats 2000000 in
theorem movedRot_any (n : Nat) (A : Option Addr) (c q : Nat) (xs : List Int) (f : Int → Int) (w : World) (hr : RdI w A xs) (hb : rhyB n xs = true)
    (hf : ∀ p, 0 ≤ p → p ≤ 23 → -1000000 ≤ f p ∧ f p ≤ 1000000) (hcar : Carries 63 #[.pointer (some ⟨q, 0, none⟩)] f w) :
    Calls Tryz.prog 62 #[.agg #[.int .i64 n, .slice A xs.length c], .func (.func 63) #[] #[.pointer (some ⟨q, 0, none⟩)]] w (RetR w ((n : Int), mapF n xs f)) := by
  have hv := rhyB_vals hb
  have hn := (rhyB_iff hb).1
  have hln := rhyB_len hb
  obtain ⟨l, hll⟩ : ∃ l, l = xs.length := ⟨_, rfl⟩
  obtain ⟨zs, hzs⟩ : ∃ zs, zs = mapF n xs f := ⟨_, rfl⟩
  have hz : setL n (fun p : Nat => ((xs.map f).map (· % (n : Int))).contains (p : Int)) = zs := by rw [hzs, List.map_map]; rfl
  have hfb : ∀ j, -1000000 ≤ (xs.map f).getD j 0 ∧ (xs.map f).getD j 0 ≤ 1000000 := fun j => by
    by_cases hj : j < xs.length
    · rw [getD_map f xs j hj]
      exact hf _ (hv j).1 (hv j).2
    · have : (xs.map f).getD j 0 = 0 := by simp [List.getD, List.getElem?_eq_none (by omega : xs.length ≤ j)]
      omega
  have CO : Hid (∀ (B : Option Addr) (d : Nat) (W : World), RdI W B (xs.map f) → Calls Tryz.prog 78 #[.int .i64 n, .slice B l d] W (RetR W ((n : Int), zs))) := fun B d W h => by
    have := rof_any n B d (xs.map f) W h (by omega) (by rw [List.length_map]; omega) hfb
    rwa [List.length_map, ← hll, hz] at this
  have HL := Lib.hid hll
  have HR := Lib.hid hr
  have HV := Lib.hid hv
  have HF := Lib.hid hf
  have HC := Lib.hid hcar
  rw [← hzs, ← hll]
  rw [← hll] at hln
  clear hz hzs hll hr hv hb hfb hf hcar
  have HX0 : Hid (Ext w ((w.alloc (.cells #[.int .i64 n, .slice A l c] 25)).alloc (.cells #[.int .i64 0, .slice none 0 0] 25))) := ((Ext.refl w).alloc _).alloc _
  have HG0 : Hid (Bx2 ((w.alloc (.cells #[.int .i64 n, .slice A l c] 25)).alloc (.cells #[.int .i64 0, .slice none 0 0] 25)) w.heap.size 25 (.int .i64 n) (.slice A l c)) := (Bx2.new w _ _ _).ext ((Ext.refl _).alloc _)
  have HG1 : Hid (Bx2 ((w.alloc (.cells #[.int .i64 n, .slice A l c] 25)).alloc (.cells #[.int .i64 0, .slice none 0 0] 25)) (w.heap.size + 1) 25 (.int .i64 0) (.slice none 0 0)) := Bx2.new1' _ _ _ _ _
  go_enter Tryz.func62, Tryz.ntmps62
  go_wp2_with fail
  go_loopw [5, 11] (fun o i wr => ∃ (j : Nat) (B : Option Addr) (d : Nat), j ≤ l ∧ i = .int .i64 j ∧ o = .slice B j d ∧ Hid (Bx2 wr w.heap.size 25 (.int .i64 n) (.slice A l c)) ∧ Hid (Bx2 wr (w.heap.size + 1) 25 (.int .i64 0) (.slice none 0 0)) ∧ Hid (OwI wr w.heap.size B d ((xs.take j).map f)) ∧ Hid (Ext w wr)) (fun _ i _ => l - (intOf i).toNat)
  case atStart => exact ⟨0, none, 0, by omega, rfl, rfl, HG0.out, HG1.out, OwI.nil _ _, HX0.out⟩
  case round =>
    clear HX0 HG0 HG1
    obtain ⟨j, B, d, hj, rfl, rfl, HP, HQ, HO, HE⟩ := hrel
    obtain ⟨q0, q1, p0, p1⟩ := HP.out.cells
    by_cases hlt : j < l
    · have hjx : j < xs.length := by rw [← HL.out]; exact hlt
      obtain ⟨b, o, hA, hc⟩ := (HR.out.ext HE.out).at_ j hjx
      subst hA
      obtain ⟨x, hx⟩ : ∃ x, x = xs.getD j 0 := ⟨_, rfl⟩
      have hxr := HV.out j
      rw [← hx] at hc hxr
      have CM := Lib.hid (HC.out x wr hxr.1 hxr.2 HE.out)
      obtain ⟨y, hy⟩ : ∃ y, y = f x := ⟨_, rfl⟩
      rw [← hy] at CM
      have HS : Hid ((xs.take (j + 1)).map f = (xs.take j).map f ++ [y]) := by rw [take_snoc xs j hjx, List.map_append, ← hx, hy]; exact rfl
      have HLJ : Hid (((xs.take j).map f).length = j) := by rw [List.length_map, List.length_take]; exact (by omega : min j xs.length = j)
      clear hx hy hjx
      go_wp2_with fail
      refine CM.out.mono ?_
      rintro e w2 ⟨rfl, rfl⟩
      go_wp2_with (at_builtin; refine app_ints w rfl _ _ rfl B d j ((xs.take j).map f) _ 1 1 [y] rfl rfl HLJ.out rfl (HO.out.ext ((Ext.refl _).alloc _)) (RdI.built wr [y]) (HE.out.alloc _) (by omega) ?_; intro A' c' w3 h1 h2 h3; have HO3 := Lib.hid h1; have HE3 := Lib.hid h2; have HP3 := Lib.hid ((HP.out.ext ((Ext.refl _).alloc _)).grown (by decide) (HO.out.ext ((Ext.refl _).alloc _)) h3); have HQ3 := Lib.hid ((HQ.out.ext ((Ext.refl _).alloc _)).grown (by decide) (HO.out.ext ((Ext.refl _).alloc _)) h3); clear h1 h2 h3)
      go_roundw
      case rel => exact ⟨j + 1, A', c', by omega, by go_num, rfl, HP3.out, HQ3.out, by rw [HS.out]; exact HO3.out, HE3.out⟩
      case measure => simp [intOf]; omega
    · obtain rfl : j = l := by omega
      have HO2 : Hid (RdI wr B (xs.map f)) := by have := HO.out.rd; rw [take_all xs j HL.out] at this; exact this
      have hgw := HQ.out.lt
      go_wp2_with fail
      refine (CO.out _ _ _ HO2.out).mono ?_
      intro e w2 hret
      obtain ⟨A2, c2, rfl, ho, he⟩ := hret.parts
      have HQ2 := Lib.hid (HQ.out.ext he)
      have HE2 := Lib.hid (HE.out.trans he)
      have HO3 := Lib.hid ho
      have HNE : Hid (∀ ad, A2 = some ad → ad.block ≠ w.heap.size + 1) := fun ad had => by have := (ho.lt ad had).1; omega
      have HSZ := Lib.hid HE.out.size
      clear ho he hret q0 q1 p0 p1
      obtain ⟨q2, q3, p2, p3⟩ := HQ2.out.cells
      go_wp2_with fail
      refine bodyPost_ret (v := .agg #[.int .i64 n, .slice A2 zs.length c2]) (by simp [results, Tryz.results62, go_sem, q2, q3]) rfl ?_
      exact retR_intro rfl (((HO3.out.lower HSZ.out).setFar (fun ad had => HNE.out ad had) _).setFar (fun ad had => HNE.out ad had) _) ((HE2.out.setCell (by simp) _).setCell (by simp) _)
set_option maxHeartbeats 2000000 in
theorem movedMir_any (n : Nat) (A : Option Addr) (c : Nat) (xs : List Int) (f : Int → Int) (w : World) (hr : RdI w A xs) (hb : rhyB n xs = true)
    (hf : ∀ p, 0 ≤ p → p ≤ 23 → -1000000 ≤ f p ∧ f p ≤ 1000000) (hcar : Carries 64 #[] f w) :
    Calls Tryz.prog 62 #[.agg #[.int .i64 n, .slice A xs.length c], .func (.func 64) #[] #[]] w (RetR w ((n : Int), mapF n xs f)) := by
  have hv := rhyB_vals hb
  have hn := (rhyB_iff hb).1
  have hln := rhyB_len hb
  obtain ⟨l, hll⟩ : ∃ l, l = xs.length := ⟨_, rfl⟩
  obtain ⟨zs, hzs⟩ : ∃ zs, zs = mapF n xs f := ⟨_, rfl⟩
  have hz : setL n (fun p : Nat => ((xs.map f).map (· % (n : Int))).contains (p : Int)) = zs := by rw [hzs, List.map_map]; rfl
  have hfb : ∀ j, -1000000 ≤ (xs.map f).getD j 0 ∧ (xs.map f).getD j 0 ≤ 1000000 := fun j => by
    by_cases hj : j < xs.length
    · rw [getD_map f xs j hj]
      exact hf _ (hv j).1 (hv j).2
    · have : (xs.map f).getD j 0 = 0 := by simp [List.getD, List.getElem?_eq_none (by omega : xs.length ≤ j)]
      omega
  have CO : Hid (∀ (B : Option Addr) (d : Nat) (W : World), RdI W B (xs.map f) → Calls Tryz.prog 78 #[.int .i64 n, .slice B l d] W (RetR W ((n : Int), zs))) := fun B d W h => by
    have := rof_any n B d (xs.map f) W h (by omega) (by rw [List.length_map]; omega) hfb
    rwa [List.length_map, ← hll, hz] at this
  have HL := Lib.hid hll
  have HR := Lib.hid hr
  have HV := Lib.hid hv
  have HF := Lib.hid hf
  have HC := Lib.hid hcar
  rw [← hzs, ← hll]
  rw [← hll] at hln
  clear hz hzs hll hr hv hb hfb hf hcar
  have HX0 : Hid (Ext w ((w.alloc (.cells #[.int .i64 n, .slice A l c] 25)).alloc (.cells #[.int .i64 0, .slice none 0 0] 25))) := ((Ext.refl w).alloc _).alloc _
  have HG0 : Hid (Bx2 ((w.alloc (.cells #[.int .i64 n, .slice A l c] 25)).alloc (.cells #[.int .i64 0, .slice none 0 0] 25)) w.heap.size 25 (.int .i64 n) (.slice A l c)) := (Bx2.new w _ _ _).ext ((Ext.refl _).alloc _)
  have HG1 : Hid (Bx2 ((w.alloc (.cells #[.int .i64 n, .slice A l c] 25)).alloc (.cells #[.int .i64 0, .slice none 0 0] 25)) (w.heap.size + 1) 25 (.int .i64 0) (.slice none 0 0)) := Bx2.new1' _ _ _ _ _
  go_enter Tryz.func62, Tryz.ntmps62
  go_wp2_with fail
  go_loopw [5, 11] (fun o i wr => ∃ (j : Nat) (B : Option Addr) (d : Nat), j ≤ l ∧ i = .int .i64 j ∧ o = .slice B j d ∧ Hid (Bx2 wr w.heap.size 25 (.int .i64 n) (.slice A l c)) ∧ Hid (Bx2 wr (w.heap.size + 1) 25 (.int .i64 0) (.slice none 0 0)) ∧ Hid (OwI wr w.heap.size B d ((xs.take j).map f)) ∧ Hid (Ext w wr)) (fun _ i _ => l - (intOf i).toNat)
  case atStart => exact ⟨0, none, 0, by omega, rfl, rfl, HG0.out, HG1.out, OwI.nil _ _, HX0.out⟩
  case round =>
    clear HX0 HG0 HG1
    obtain ⟨j, B, d, hj, rfl, rfl, HP, HQ, HO, HE⟩ := hrel
    obtain ⟨q0, q1, p0, p1⟩ := HP.out.cells
    by_cases hlt : j < l
    · have hjx : j < xs.length := by rw [← HL.out]; exact hlt
      obtain ⟨b, o, hA, hc⟩ := (HR.out.ext HE.out).at_ j hjx
      subst hA
      obtain ⟨x, hx⟩ : ∃ x, x = xs.getD j 0 := ⟨_, rfl⟩
      have hxr := HV.out j
      rw [← hx] at hc hxr
      have CM := Lib.hid (HC.out x wr hxr.1 hxr.2 HE.out)
      obtain ⟨y, hy⟩ : ∃ y, y = f x := ⟨_, rfl⟩
      rw [← hy] at CM
      have HS : Hid ((xs.take (j + 1)).map f = (xs.take j).map f ++ [y]) := by rw [take_snoc xs j hjx, List.map_append, ← hx, hy]; exact rfl
      have HLJ : Hid (((xs.take j).map f).length = j) := by rw [List.length_map, List.length_take]; exact (by omega : min j xs.length = j)
      clear hx hy hjx
      go_wp2_with fail
      refine CM.out.mono ?_
      rintro e w2 ⟨rfl, rfl⟩
      go_wp2_with (at_builtin; refine app_ints w rfl _ _ rfl B d j ((xs.take j).map f) _ 1 1 [y] rfl rfl HLJ.out rfl (HO.out.ext ((Ext.refl _).alloc _)) (RdI.built wr [y]) (HE.out.alloc _) (by omega) ?_; intro A' c' w3 h1 h2 h3; have HO3 := Lib.hid h1; have HE3 := Lib.hid h2; have HP3 := Lib.hid ((HP.out.ext ((Ext.refl _).alloc _)).grown (by decide) (HO.out.ext ((Ext.refl _).alloc _)) h3); have HQ3 := Lib.hid ((HQ.out.ext ((Ext.refl _).alloc _)).grown (by decide) (HO.out.ext ((Ext.refl _).alloc _)) h3); clear h1 h2 h3)
      go_roundw
      case rel => exact ⟨j + 1, A', c', by omega, by go_num, rfl, HP3.out, HQ3.out, by rw [HS.out]; exact HO3.out, HE3.out⟩
      case measure => simp [intOf]; omega
    · obtain rfl : j = l := by omega
      have HO2 : Hid (RdI wr B (xs.map f)) := by have := HO.out.rd; rw [take_all xs j HL.out] at this; exact this
      have hgw := HQ.out.lt
      go_wp2_with fail
      refine (CO.out _ _ _ HO2.out).mono ?_
      intro e w2 hret
      obtain ⟨A2, c2, rfl, ho, he⟩ := hret.parts
      have HQ2 := Lib.hid (HQ.out.ext he)
      have HE2 := Lib.hid (HE.out.trans he)
      have HO3 := Lib.hid ho
      have HNE : Hid (∀ ad, A2 = some ad → ad.block ≠ w.heap.size + 1) := fun ad had => by have := (ho.lt ad had).1; omega
      have HSZ := Lib.hid HE.out.size
      clear ho he hret q0 q1 p0 p1
      obtain ⟨q2, q3, p2, p3⟩ := HQ2.out.cells
      go_wp2_with fail
      refine bodyPost_ret (v := .agg #[.int .i64 n, .slice A2 zs.length c2]) (by simp [results, Tryz.results62, go_sem, q2, q3]) rfl ?_
      exact retR_intro rfl (((HO3.out.lower HSZ.out).setFar (fun ad had => HNE.out ad had) _).setFar (fun ad had => HNE.out ad had) _) ((HE2.out.setCell (by simp) _).setCell (by simp) _)
set_option maxHeartbeats 2000000 in
theorem movedStr_any (n : Nat) (A : Option Addr) (c q : Nat) (xs : List Int) (f : Int → Int) (w : World) (hr : RdI w A xs) (hb : rhyB n xs = true)
    (hf : ∀ p, 0 ≤ p → p ≤ 23 → -1000000 ≤ f p ∧ f p ≤ 1000000) (hcar : Carries 71 #[.pointer (some ⟨q, 0, none⟩)] f w) :
    Calls Tryz.prog 62 #[.agg #[.int .i64 n, .slice A xs.length c], .func (.func 71) #[] #[.pointer (some ⟨q, 0, none⟩)]] w (RetR w ((n : Int), mapF n xs f)) := by
  have hv := rhyB_vals hb
  have hn := (rhyB_iff hb).1
  have hln := rhyB_len hb
  obtain ⟨l, hll⟩ : ∃ l, l = xs.length := ⟨_, rfl⟩
  obtain ⟨zs, hzs⟩ : ∃ zs, zs = mapF n xs f := ⟨_, rfl⟩
  have hz : setL n (fun p : Nat => ((xs.map f).map (· % (n : Int))).contains (p : Int)) = zs := by rw [hzs, List.map_map]; rfl
  have hfb : ∀ j, -1000000 ≤ (xs.map f).getD j 0 ∧ (xs.map f).getD j 0 ≤ 1000000 := fun j => by
    by_cases hj : j < xs.length
    · rw [getD_map f xs j hj]
      exact hf _ (hv j).1 (hv j).2
    · have : (xs.map f).getD j 0 = 0 := by simp [List.getD, List.getElem?_eq_none (by omega : xs.length ≤ j)]
      omega
  have CO : Hid (∀ (B : Option Addr) (d : Nat) (W : World), RdI W B (xs.map f) → Calls Tryz.prog 78 #[.int .i64 n, .slice B l d] W (RetR W ((n : Int), zs))) := fun B d W h => by
    have := rof_any n B d (xs.map f) W h (by omega) (by rw [List.length_map]; omega) hfb
    rwa [List.length_map, ← hll, hz] at this
  have HL := Lib.hid hll
  have HR := Lib.hid hr
  have HV := Lib.hid hv
  have HF := Lib.hid hf
  have HC := Lib.hid hcar
  rw [← hzs, ← hll]
  rw [← hll] at hln
  clear hz hzs hll hr hv hb hfb hf hcar
  have HX0 : Hid (Ext w ((w.alloc (.cells #[.int .i64 n, .slice A l c] 25)).alloc (.cells #[.int .i64 0, .slice none 0 0] 25))) := ((Ext.refl w).alloc _).alloc _
  have HG0 : Hid (Bx2 ((w.alloc (.cells #[.int .i64 n, .slice A l c] 25)).alloc (.cells #[.int .i64 0, .slice none 0 0] 25)) w.heap.size 25 (.int .i64 n) (.slice A l c)) := (Bx2.new w _ _ _).ext ((Ext.refl _).alloc _)
  have HG1 : Hid (Bx2 ((w.alloc (.cells #[.int .i64 n, .slice A l c] 25)).alloc (.cells #[.int .i64 0, .slice none 0 0] 25)) (w.heap.size + 1) 25 (.int .i64 0) (.slice none 0 0)) := Bx2.new1' _ _ _ _ _
  go_enter Tryz.func62, Tryz.ntmps62
  go_wp2_with fail
  go_loopw [5, 11] (fun o i wr => ∃ (j : Nat) (B : Option Addr) (d : Nat), j ≤ l ∧ i = .int .i64 j ∧ o = .slice B j d ∧ Hid (Bx2 wr w.heap.size 25 (.int .i64 n) (.slice A l c)) ∧ Hid (Bx2 wr (w.heap.size + 1) 25 (.int .i64 0) (.slice none 0 0)) ∧ Hid (OwI wr w.heap.size B d ((xs.take j).map f)) ∧ Hid (Ext w wr)) (fun _ i _ => l - (intOf i).toNat)
  case atStart => exact ⟨0, none, 0, by omega, rfl, rfl, HG0.out, HG1.out, OwI.nil _ _, HX0.out⟩
  case round =>
    clear HX0 HG0 HG1
    obtain ⟨j, B, d, hj, rfl, rfl, HP, HQ, HO, HE⟩ := hrel
    obtain ⟨q0, q1, p0, p1⟩ := HP.out.cells
    by_cases hlt : j < l
    · have hjx : j < xs.length := by rw [← HL.out]; exact hlt
      obtain ⟨b, o, hA, hc⟩ := (HR.out.ext HE.out).at_ j hjx
      subst hA
      obtain ⟨x, hx⟩ : ∃ x, x = xs.getD j 0 := ⟨_, rfl⟩
      have hxr := HV.out j
      rw [← hx] at hc hxr
      have CM := Lib.hid (HC.out x wr hxr.1 hxr.2 HE.out)
      obtain ⟨y, hy⟩ : ∃ y, y = f x := ⟨_, rfl⟩
      rw [← hy] at CM
      have HS : Hid ((xs.take (j + 1)).map f = (xs.take j).map f ++ [y]) := by rw [take_snoc xs j hjx, List.map_append, ← hx, hy]; exact rfl
      have HLJ : Hid (((xs.take j).map f).length = j) := by rw [List.length_map, List.length_take]; exact (by omega : min j xs.length = j)
      clear hx hy hjx
      go_wp2_with fail
      refine CM.out.mono ?_
      rintro e w2 ⟨rfl, rfl⟩
      go_wp2_with (at_builtin; refine app_ints w rfl _ _ rfl B d j ((xs.take j).map f) _ 1 1 [y] rfl rfl HLJ.out rfl (HO.out.ext ((Ext.refl _).alloc _)) (RdI.built wr [y]) (HE.out.alloc _) (by omega) ?_; intro A' c' w3 h1 h2 h3; have HO3 := Lib.hid h1; have HE3 := Lib.hid h2; have HP3 := Lib.hid ((HP.out.ext ((Ext.refl _).alloc _)).grown (by decide) (HO.out.ext ((Ext.refl _).alloc _)) h3); have HQ3 := Lib.hid ((HQ.out.ext ((Ext.refl _).alloc _)).grown (by decide) (HO.out.ext ((Ext.refl _).alloc _)) h3); clear h1 h2 h3)
      go_roundw
      case rel => exact ⟨j + 1, A', c', by omega, by go_num, rfl, HP3.out, HQ3.out, by rw [HS.out]; exact HO3.out, HE3.out⟩
      case measure => simp [intOf]; omega
    · obtain rfl : j = l := by omega
      have HO2 : Hid (RdI wr B (xs.map f)) := by have := HO.out.rd; rw [take_all xs j HL.out] at this; exact this
      have hgw := HQ.out.lt
      go_wp2_with fail
      refine (CO.out _ _ _ HO2.out).mono ?_
      intro e w2 hret
      obtain ⟨A2, c2, rfl, ho, he⟩ := hret.parts
      have HQ2 := Lib.hid (HQ.out.ext he)
      have HE2 := Lib.hid (HE.out.trans he)
      have HO3 := Lib.hid ho
      have HNE : Hid (∀ ad, A2 = some ad → ad.block ≠ w.heap.size + 1) := fun ad had => by have := (ho.lt ad had).1; omega
      have HSZ := Lib.hid HE.out.size
      clear ho he hret q0 q1 p0 p1
      obtain ⟨q2, q3, p2, p3⟩ := HQ2.out.cells
      go_wp2_with fail
      refine bodyPost_ret (v := .agg #[.int .i64 n, .slice A2 zs.length c2]) (by simp [results, Tryz.results62, go_sem, q2, q3]) rfl ?_
      exact retR_intro rfl (((HO3.out.lower HSZ.out).setFar (fun ad had => HNE.out ad had) _).setFar (fun ad had => HNE.out ad had) _) ((HE2.out.setCell (by simp) _).setCell (by simp) _)
end Go.Proofs.YtphpdanohooccaaGreatDoor
