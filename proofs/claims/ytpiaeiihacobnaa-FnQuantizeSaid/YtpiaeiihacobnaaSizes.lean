/- Contract of l03Sizes: the numbers of a list, ascending, each once. -/
import Derived.Test.YtpiaeiihacobnaaSet
import Derived.Test.YtpiaeiihacobnaaOwn
import Derived.Test.YtpiaeiihacobnaaApp
namespace Go.Proofs.Ytpiaeiihacobnaa
open Go.RowKit

theorem RdI.drop {w : World} {b o : Nat} {xs : List Int} (h : RdI w (some ⟨b, o, none⟩) xs) (k : Nat) : RdI w (some ⟨b, o + k, none⟩) (xs.drop k) := by
  refine ⟨by simp, fun hp => ?_⟩
  have hx : 0 < xs.length := by simp at hp; omega
  obtain ⟨b', o', e, hc⟩ := h.2 hx
  injection e with e
  injection e with e1 e2 _
  subst e1 e2
  refine ⟨b, o + k, rfl, fun j u hu => ?_⟩
  have := hc (k + j) u (by rw [List.map_drop] at hu; simpa using hu)
  rw [Nat.add_assoc]
  exact this
theorem RdI.take {w : World} {b o : Nat} {xs : List Int} (h : RdI w (some ⟨b, o, none⟩) xs) (k : Nat) : RdI w (some ⟨b, o, none⟩) (xs.take k) := by
  refine ⟨by simp, fun hp => ?_⟩
  have hx : 0 < xs.length := by simp at hp; omega
  obtain ⟨b', o', e, hc⟩ := h.2 hx
  refine ⟨b', o', e, fun j u hu => ?_⟩
  refine hc j u ?_
  rw [List.map_take, List.getElem?_take] at hu
  split at hu
  · exact hu
  · cases hu
theorem RdI.none (w : World) (X : Option Addr) : RdI w X [] := Rd.nil w 1 X
theorem up_getD {ys : List Int} (h : Up ys) {i j : Nat} (hij : i < j) (hj : j < ys.length) : ys.getD i 0 < ys.getD j 0 := by
  unfold Up at h
  rw [List.pairwise_iff_getElem] at h
  have := h i j (by omega) hj hij
  simpa [List.getD, hj, show i < ys.length by omega] using this
theorem mem_take_lt {ys : List Int} {k : Nat} {a : Int} (h : a ∈ ys.take k) : ∃ i, i < k ∧ i < ys.length ∧ a = ys.getD i 0 := by
  obtain ⟨i, hi, e⟩ := List.mem_iff_getElem.1 h
  rw [List.length_take] at hi
  refine ⟨i, by omega, by omega, ?_⟩
  rw [← e, List.getElem_take]
  simp [List.getD, show i < ys.length by omega]
theorem mem_drop_ge {ys : List Int} {k : Nat} {a : Int} (h : a ∈ ys.drop k) : ∃ i, k ≤ i ∧ i < ys.length ∧ a = ys.getD i 0 := by
  obtain ⟨i, hi, e⟩ := List.mem_iff_getElem.1 h
  rw [List.length_drop] at hi
  refine ⟨k + i, by omega, by omega, ?_⟩
  rw [← e, List.getElem_drop]
  simp [List.getD, show k + i < ys.length by omega]
/-- A number put in its place. -/
theorem ins_up {ys : List Int} {x : Int} {k : Nat} (h : Up ys) (hlt : ∀ i, i < k → ys.getD i 0 < x) (hge : k < ys.length → x < ys.getD k 0) :
    Up (ys.take k ++ [x] ++ ys.drop k) := by
  unfold Up
  rw [List.pairwise_append, List.pairwise_append]
  refine ⟨⟨h.sublist (List.take_sublist _ _), by simp, fun a ha b hb => ?_⟩, h.sublist (List.drop_sublist _ _), fun a ha b hb => ?_⟩
  · obtain ⟨i, hi, _, rfl⟩ := mem_take_lt ha
    simp only [List.mem_singleton] at hb
    subst hb
    exact hlt i hi
  · obtain ⟨j, hj, hjl, rfl⟩ := mem_drop_ge hb
    have hx : x < ys.getD j 0 := by
      by_cases e : k = j
      · subst e; exact hge hjl
      · have := up_getD h (show k < j by omega) hjl
        have := hge (by omega)
        omega
    rw [List.mem_append] at ha
    rcases ha with ha | ha
    · obtain ⟨i, hi, hil, rfl⟩ := mem_take_lt ha
      have := hlt i hi
      omega
    · simp only [List.mem_singleton] at ha
      omega
theorem ins_col {zs : List Int} {x : Int} {k : Nat} (hlt : ∀ i, i < k → (colF zs).getD i 0 < x) (hge : k < (colF zs).length → x < (colF zs).getD k 0) :
    colF (zs ++ [x]) = (colF zs).take k ++ [x] ++ (colF zs).drop k := by
  obtain ⟨h1, h2⟩ := colF_up zs
  obtain ⟨h3, h4⟩ := colF_up (zs ++ [x])
  refine up_ext h3 (ins_up h1 hlt hge) (fun a => ?_)
  rw [h4]
  have e : a ∈ (colF zs).take k ∨ a ∈ (colF zs).drop k ↔ a ∈ colF zs := by
    rw [← List.mem_append, List.take_append_drop]
  simp only [List.mem_append, List.mem_singleton]
  rw [← h2 a, ← e]
  constructor
  · rintro ((h | h) | h)
    · exact Or.inl (Or.inl h)
    · exact Or.inr h
    · exact Or.inl (Or.inr h)
  · rintro ((h | h) | h)
    · exact Or.inl (Or.inl h)
    · exact Or.inr h
    · exact Or.inl (Or.inr h)
theorem old_col {zs : List Int} {x : Int} (h : x ∈ colF zs) : colF (zs ++ [x]) = colF zs := by
  obtain ⟨h1, h2⟩ := colF_up zs
  obtain ⟨h3, h4⟩ := colF_up (zs ++ [x])
  refine up_ext h3 h1 (fun a => ?_)
  rw [h4, h2, List.mem_append, List.mem_singleton]
  constructor
  · rintro (h | rfl)
    · exact h
    · exact (h2 _).1 h
  · exact Or.inl
theorem colF_nil : colF [] = [] := by simp [colF, Lib.compact, Lib.compactUpTo]
theorem own_some {w : World} {L c : Nat} {A : Option Addr} {xs : List Int} (h : OwI w L A c xs) (hx : xs ≠ []) : ∃ g, A = some ⟨g, 0, none⟩ ∧ L ≤ g ∧ g < w.heap.size := by
  rcases h.2 with ⟨e, _⟩ | ⟨g, cap, cur, e, h3, hg, _⟩
  · injection e with e _ _
    subst e
    exact absurd (by
      rcases Nat.eq_zero_or_pos xs.length with h0 | h0
      · exact List.length_eq_zero_iff.1 h0
      · obtain ⟨b, o, e, _⟩ := h.rd.2 h0; simp at e) hx
  · injection e with e _ _
    exact ⟨g, e, h3, (Array.getElem?_eq_some_iff.1 hg).1⟩
theorem own_cap {w : World} {L c : Nat} {A : Option Addr} {xs : List Int} (h : OwI w L A c xs) : xs.length ≤ c := by
  obtain ⟨A', c', e, h1, _⟩ := own_form h
  injection e with _ _ e
  omega

set_option maxHeartbeats 4000000 in
theorem sizes_any (A : Option Addr) (c : Nat) (xs : List Int) (w : World) (hr : RdI w A xs) (hn : xs.length ≤ 100000) :
    Calls Try.prog 55 #[.slice A xs.length c] w (RetI w (colF xs)) := by
  obtain ⟨l, hl⟩ : ∃ l, l = xs.length := ⟨_, rfl⟩
  rw [← hl]
  rw [← hl] at hn
  have HL := Lib.hid hl
  have HR := Lib.hid hr
  clear hl hr
  go_enter Try.func55, Try.ntmps55
  go_wp2_with fail
  go_loopw [3, 11] (fun o i wr => ∃ (j m g d : Nat), j ≤ l ∧ m ≤ j ∧ m ≤ d ∧ i = .int .i64 j ∧ o = .slice (some ⟨g, 0, none⟩) m d ∧ g < wr.heap.size ∧ w.heap.size ≤ g ∧ Hid ((colF (xs.take j)).length = m) ∧ Hid (OwI wr w.heap.size (some ⟨g, 0, none⟩) d (colF (xs.take j))) ∧ Hid (Ext w wr)) (fun _ i _ => l - (intOf i).toNat)
  case atStart => exact ⟨0, 0, w.heap.size, 0, by omega, by omega, by omega, rfl, rfl, by simp, by omega, by rw [List.take_zero, colF_nil]; exact rfl, by rw [List.take_zero, colF_nil]; exact OwI.empty w, (Ext.refl w).alloc _⟩
  case round =>
    obtain ⟨j, m, g, d, hj, hmj, hmd, rfl, rfl, hgl, hwg, HM, HO, HE⟩ := hrel
    by_cases hlt : j < l
    · have hjx : j < xs.length := by rw [← HL.out]; exact hlt
      obtain ⟨b, o, hA, hc⟩ := (HR.out.ext HE.out).at_ j hjx
      subst hA
      obtain ⟨x, hx⟩ : ∃ x, x = xs.getD j 0 := ⟨_, rfl⟩
      rw [← hx] at hc
      have HT : Hid (xs.take (j + 1) = xs.take j ++ [x]) := by rw [take_snoc xs j hjx, ← hx]; exact rfl
      obtain ⟨ys, hys⟩ : ∃ ys, ys = colF (xs.take j) := ⟨_, rfl⟩
      have HY := Lib.hid hys
      rw [← hys] at HM HO
      clear hx hjx hys
      go_wp2_with fail
      clear hc
      go_loop [6] (fun i => ∃ k : Nat, k ≤ m ∧ i = .int .i64 k ∧ Hid (∀ i, i < k → ys.getD i 0 < x)) (fun i => m - (intOf i).toNat)
      case atStart => exact ⟨0, by omega, rfl, fun i hi => absurd hi (by omega)⟩
      case round =>
        obtain ⟨k, hk, rfl, HK⟩ := hrel
        by_cases hkm : k < m
        · obtain ⟨b2, o2, hA2, hc2⟩ := HO.out.rd.at_ k (by rw [HM.out]; exact hkm)
          injection hA2 with hA2
          injection hA2 with e1 e2 _
          subst e1 e2
          obtain ⟨y, hy⟩ : ∃ y, y = ys.getD k 0 := ⟨_, rfl⟩
          rw [← hy, Nat.zero_add] at hc2
          have HYK := Lib.hid hy
          clear hy
          by_cases hyx : y < x
          · go_wp2_with fail
            go_round
            case rel =>
              refine ⟨k + 1, by omega, by go_num, fun i hi => ?_⟩
              by_cases hik : i < k
              · exact HK.out i hik
              · obtain rfl : i = k := by omega
                rw [← HYK.out]
                exact hyx
            case measure => simp [intOf]; omega
          · by_cases hye : y = x
            · have HN : Hid (colF (xs.take (j + 1)) = ys) := by
                rw [HT.out, old_col (by rw [← HY.out, ← hye, HYK.out]; exact getD_in (by rw [HM.out]; exact hkm)), ← HY.out]
                exact rfl
              subst hye
              have hkm2 : ((k : Int) == m) = false := by rw [beq_eq_false_iff_ne]; omega
              go_wp2_with fail
              all_goals first
                | exact ⟨⟨j + 1, m, g, d, by omega, by omega, by omega, by go_num, rfl, hgl, hwg, by rw [HN.out]; exact HM.out, by rw [HN.out]; exact HO.out, HE.out⟩, by simp [intOf]; omega⟩
                | (go_roundw
                   case rel => exact ⟨j + 1, m, g, d, by omega, by omega, by omega, by go_num, rfl, hgl, hwg, by rw [HN.out]; exact HM.out, by rw [HN.out]; exact HO.out, HE.out⟩
                   case measure => simp [intOf]; omega)
            · have hxy : x < y := by omega
              have hye2 : (y == x) = false := by simpa using hye
              have hye3 : (y != x) = true := by simpa using hye
              have hkm2 : ((k : Int) == m) = false := by rw [beq_eq_false_iff_ne]; omega
              have HN : Hid (colF (xs.take (j + 1)) = ys.take k ++ [x] ++ ys.drop k) := by
                rw [HT.out, ins_col (k := k) (by rw [← HY.out]; exact HK.out) (fun _ => by rw [← HY.out, ← HYK.out]; exact hxy), ← HY.out]
                exact rfl
              have hkd : ¬ d = k := by omega
              have hkd2 : k ≤ d := by omega
              have hkd3 : (k : Int) ≤ d := by omega
              have HL1 : Hid ((ys.take k).length = k) := by rw [List.length_take, HM.out]; exact (by omega : min k m = k)
              have HL2 : Hid ((ys.drop k).length = m - k) := by rw [List.length_drop, HM.out]; exact rfl
              have HL3 : Hid (([] ++ ys.take k ++ [x]).length = k + 1) := by rw [List.length_append, List.nil_append, HL1.out]; exact rfl
              have HD : Hid (RdI wr (some ⟨g, k, none⟩) (ys.drop k)) := by have := HO.out.rd.drop k; rwa [Nat.zero_add] at this
              go_wp2_with (first
                | (at_builtin; refine app_ints wr rfl _ _ rfl (some ⟨wr.heap.size, 0, none⟩) 0 0 [] (some ⟨g, 0, none⟩) k d (ys.take k) rfl rfl rfl HL1.out (OwI.empty wr) ((HO.out.rd.take k).ext ((Ext.refl wr).alloc _)) ((Ext.refl wr).alloc _) (by omega) ?_; intro A1 c1 w1 h1 h2 h3; have HO1 := Lib.hid h1; have HE1 := Lib.hid h2; clear h1 h2 h3)
                | (at_builtin; refine app_ints wr rfl _ _ rfl A1 c1 k ([] ++ ys.take k) _ 1 1 [x] rfl rfl HL1.out rfl (HO1.out.ext ((Ext.refl _).alloc _)) (RdI.built w1 [x]) (HE1.out.alloc _) (by omega) ?_; intro A2 c2 w2 h1 h2 h3; have HO2 := Lib.hid h1; have HE2 := Lib.hid h2; clear h1 h2 h3)
                | (at_builtin; refine app_ints wr rfl _ _ rfl A2 c2 (k + 1) ([] ++ ys.take k ++ [x]) (some ⟨g, k, none⟩) (m - k) (d - k) (ys.drop k) rfl rfl HL3.out HL2.out HO2.out (HD.out.ext HE2.out) HE2.out (by omega) ?_; intro A3 c3 w3 h1 h2 h3; have HO3 := Lib.hid h1; have HE3 := Lib.hid h2; clear h1 h2 h3))
              go_wp2_with fail
              have HNE : Hid (([] ++ ys.take k ++ [x]) ++ ys.drop k ≠ []) := by simp [Hid]
              obtain ⟨g3, hg3, hgb, hgl3⟩ := own_some HO3.out HNE.out
              subst hg3
              have hcap := own_cap HO3.out
              have HLN : Hid ((([] ++ ys.take k ++ [x]) ++ ys.drop k).length = k + 1 + (m - k)) := by rw [List.length_append, HL3.out, HL2.out]; exact rfl
              rw [HLN.out] at hcap
              go_roundw
              case rel => exact ⟨j + 1, k + 1 + (m - k), g3, c3, by omega, by omega, hcap, by go_num, rfl, hgl3, by omega, by rw [HN.out]; exact HLN.out, by rw [HN.out]; exact HO3.out.lower HE.out.size, HE.out.trans HE3.out⟩
              case measure => simp [intOf]; omega
        · obtain rfl : k = m := by omega
          have HN : Hid (colF (xs.take (j + 1)) = ys.take k ++ [x] ++ ys.drop k) := by
            rw [HT.out, ins_col (k := k) (by rw [← HY.out]; exact HK.out) (fun h => absurd h (by rw [← HY.out, HM.out]; omega)), ← HY.out]
            exact rfl
          have HL1 : Hid ((ys.take k).length = k) := by rw [List.length_take, HM.out]; exact (by omega : min k k = k)
          have HL2 : Hid ((ys.drop k).length = k - k) := by rw [List.length_drop, HM.out]; exact rfl
          have HL3 : Hid (([] ++ ys.take k ++ [x]).length = k + 1) := by rw [List.length_append, List.nil_append, HL1.out]; exact rfl
          have HDN : Hid (ys.drop k = []) := by rw [← HM.out]; exact List.drop_length
          have hkk : k - k = 0 := by omega
          have hkk2 : (k : Int) ≤ k := by omega
          have hkd2 : k ≤ d := by omega
          have hkd3 : (k : Int) ≤ d := by omega
          by_cases hkd : d = k
          · subst hkd
            go_wp2_with (first
                | (at_builtin; refine app_ints wr rfl _ _ rfl (some ⟨wr.heap.size, 0, none⟩) 0 0 [] (some ⟨g, 0, none⟩) d d (ys.take d) rfl rfl rfl HL1.out (OwI.empty wr) ((HO.out.rd.take d).ext ((Ext.refl wr).alloc _)) ((Ext.refl wr).alloc _) (by omega) ?_; intro A1 c1 w1 h1 h2 h3; have HO1 := Lib.hid h1; have HE1 := Lib.hid h2; clear h1 h2 h3)
                | (at_builtin; refine app_ints wr rfl _ _ rfl A1 c1 d ([] ++ ys.take d) _ 1 1 [x] rfl rfl HL1.out rfl (HO1.out.ext ((Ext.refl _).alloc _)) (RdI.built w1 [x]) (HE1.out.alloc _) (by omega) ?_; intro A2 c2 w2 h1 h2 h3; have HO2 := Lib.hid h1; have HE2 := Lib.hid h2; clear h1 h2 h3)
                | (at_builtin; refine app_ints wr rfl _ _ rfl A2 c2 (d + 1) ([] ++ ys.take d ++ [x]) _ 0 _ [] rfl rfl HL3.out rfl HO2.out (RdI.none _ _) HE2.out (by omega) ?_; intro A3 c3 w3 h1 h2 h3; have HO3 := Lib.hid h1; have HE3 := Lib.hid h2; clear h1 h2 h3))
            go_wp2_with fail
            have HNE : Hid (([] ++ ys.take d ++ [x]) ++ [] ≠ []) := by simp [Hid]
            obtain ⟨g3, hg3, hgb, hgl3⟩ := own_some HO3.out HNE.out
            subst hg3
            have hcap := own_cap HO3.out
            have HLN : Hid ((([] ++ ys.take d ++ [x]) ++ []).length = d + 1) := by rw [List.append_nil, HL3.out]; exact rfl
            rw [HLN.out] at hcap
            go_roundw
            case rel => exact ⟨j + 1, d + 1, g3, c3, by omega, by omega, hcap, by go_num, rfl, hgl3, by omega, by rw [HN.out, HDN.out]; exact HLN.out, by rw [HN.out, HDN.out]; exact HO3.out.lower HE.out.size, HE.out.trans HE3.out⟩
            case measure => simp [intOf]; omega
          · go_wp2_with (first
                | (at_builtin; refine app_ints wr rfl _ _ rfl (some ⟨wr.heap.size, 0, none⟩) 0 0 [] (some ⟨g, 0, none⟩) k d (ys.take k) rfl rfl rfl HL1.out (OwI.empty wr) ((HO.out.rd.take k).ext ((Ext.refl wr).alloc _)) ((Ext.refl wr).alloc _) (by omega) ?_; intro A1 c1 w1 h1 h2 h3; have HO1 := Lib.hid h1; have HE1 := Lib.hid h2; clear h1 h2 h3)
                | (at_builtin; refine app_ints wr rfl _ _ rfl A1 c1 k ([] ++ ys.take k) _ 1 1 [x] rfl rfl HL1.out rfl (HO1.out.ext ((Ext.refl _).alloc _)) (RdI.built w1 [x]) (HE1.out.alloc _) (by omega) ?_; intro A2 c2 w2 h1 h2 h3; have HO2 := Lib.hid h1; have HE2 := Lib.hid h2; clear h1 h2 h3)
                | (at_builtin; refine app_ints wr rfl _ _ rfl A2 c2 (k + 1) ([] ++ ys.take k ++ [x]) _ 0 _ [] rfl rfl HL3.out rfl HO2.out (RdI.none _ _) HE2.out (by omega) ?_; intro A3 c3 w3 h1 h2 h3; have HO3 := Lib.hid h1; have HE3 := Lib.hid h2; clear h1 h2 h3))
            go_wp2_with fail
            have HNE : Hid (([] ++ ys.take k ++ [x]) ++ [] ≠ []) := by simp [Hid]
            obtain ⟨g3, hg3, hgb, hgl3⟩ := own_some HO3.out HNE.out
            subst hg3
            have hcap := own_cap HO3.out
            have HLN : Hid ((([] ++ ys.take k ++ [x]) ++ []).length = k + 1) := by rw [List.append_nil, HL3.out]; exact rfl
            rw [HLN.out] at hcap
            go_roundw
            case rel => exact ⟨j + 1, k + 1, g3, c3, by omega, by omega, hcap, by go_num, rfl, hgl3, by omega, by rw [HN.out, HDN.out]; exact HLN.out, by rw [HN.out, HDN.out]; exact HO3.out.lower HE.out.size, HE.out.trans HE3.out⟩
            case measure => simp [intOf]; omega
    · obtain rfl : j = l := by omega
      go_wp2_with fail
      go_ret
      exact ⟨_, _, by rw [← HM.out, take_all xs j HL.out]; rfl, by have := HO.out; rwa [take_all xs j HL.out] at this, HE.out⟩
end Go.Proofs.Ytpiaeiihacobnaa
