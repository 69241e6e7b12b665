/- Contract of l19Round. -/
import Derived.Test.YtedlmidhakmgpaaRoundB
namespace Go.Proofs.Ytedlmidhakmgpaa
open Go.RowKit

/-- 'append(out, src...)' as a step of a region that draws its order. -/
theorem step_ints {ops : Array Oper} {o : Oper} {a : Act} {w : World} {K : Act → World → Prop} {Q : Exit → Act → World → Prop} {E : Prop} (wb : World) (hgd : o.guard = none) (s x : Operand)
    (ho : o.op = .call { callee := .builtin .append, args := #[s, x], argTypes := #[24, 24] })
    (A : Option Addr) (c n : Nat) (xs : List Int) (ad : Addr) (m d : Nat) (ys : List Int) (hs : a.eval s = .slice A n c) (hx : a.eval x = .slice (some ad) m d)
    (hl : xs.length = n) (hl2 : ys.length = m) (hown : OwI w wb.heap.size A c xs) (hr : RdI w (some ad) ys) (he : Ext wb w) (hn : n + m ≤ 1099511627776)
    (h : ∀ A' c' w', OwI w' wb.heap.size A' c' (xs ++ ys) → Ext wb w' → K (a.put o.dst (.slice A' (n + m) c')) w') :
    if Region.wanted o (yielded ops a.tmps) = true then Oper.wp Try.prog o a w K Q else E := by
  have hw : Region.wanted o (yielded ops a.tmps) = true := by simp [Region.wanted, hgd]
  rw [if_pos hw]
  subst hl hl2
  obtain ⟨i0, hi, hz0, hz1, hz2⟩ := info_parts info_int
  refine wp_append_own _ s x 24 ho wb.heap.size 3 i0 (.int .i64 0) 1 8 Try.underlying24 hi hz0 hz1 hz2 rfl (by decide) _ xs.length (xs.map (Value.int .i64)) hs hown
    ad ys.length d (ys.map (Value.int .i64)) hx (by simp) ?_ (one_ints _) (by simp only [maxLen]; omega) (by omega) he.size ?_
  · intro j u hj
    have hjl : j < ys.length := by have := (List.getElem?_eq_some_iff.1 hj).1; simpa using this
    obtain ⟨b, o', e', hc⟩ := hr.2 (by omega)
    injection e' with e'
    subst e'
    simpa [Addr.add_lit] using hc j u hj
  · intro v' w' hown' hg _
    obtain ⟨A', c', rfl, _, _⟩ := own_form hown'
    refine h A' c' w' ?_ (Ext.grown he hg (fun k hk => (World.ownsRow.lt hown k hk).1))
    unfold OwI
    rw [List.length_append, List.map_append]
    exact hown'

set_option maxHeartbeats 2000000 in
theorem roundS_any (A : Option Addr) (c : Nat) (xs : List Int) (w : World) (hr : RdI w A xs) (hcap : xs.length ≤ c) (hn : xs.length ≤ 1000) :
    Calls Try.prog 55 #[.slice A xs.length c] w fun e w' => e = .returned (.bool (roundB xs)) ∧ Ext w w' := by
  obtain ⟨n, hnn⟩ : ∃ n, n = xs.length := ⟨_, rfl⟩
  obtain ⟨R, hR⟩ : ∃ R, R = roundB xs := ⟨_, rfl⟩
  rw [← hnn, ← hR]
  rw [← hnn] at hn hcap
  have HN := Lib.hid hnn
  have HR := Lib.hid hr
  have HRB := Lib.hid hR
  clear hnn hr hR
  go_enter Try.func55, Try.ntmps55
  go_wp2
  go_loopw [9] (fun i wr => ∃ k : Nat, k ≤ n ∧ i = .int .i64 k ∧ Hid (∀ j, j < k → 0 ≤ cmpF (rotF xs j) xs) ∧ Hid (Ext w wr)) (fun i _ => n - (intOf i).toNat)
  case atStart => exact ⟨0, Nat.zero_le _, rfl, fun j hj => absurd hj (by omega), Ext.refl w⟩
  case round =>
    obtain ⟨k, hk, rfl, HJ, HE⟩ := hrel
    by_cases hlt : k < n
    · have hkx : k < xs.length := by rw [← HN.out]; exact hlt
      obtain ⟨b, o, hA, _⟩ := HR.out.at_ k hkx
      subst hA
      have HRW := Lib.hid (HR.out.ext HE.out)
      have HL1 : Hid ((xs.drop k).length = n - k) := by rw [List.length_drop, HN.out]; exact rfl
      have HL2 : Hid ((xs.take k).length = k) := (by rw [List.length_take]; omega : (xs.take k).length = k)
      have hk0 : (k : Int) ≤ n := by omega
      have hk1 : k ≤ c := by omega
      have hkc : ¬ c = k := by omega
      have hk2 : (k : Int) ≤ c := by omega
      have hnk : n - k + k = n := by omega
      clear hkx
      go_wp2
      go_region_law (first
        | (refine step_ints (World.drew wr) (by rfl) _ _ (by rfl) (some ⟨(World.drew wr).heap.size, 0, none⟩) 0 0 [] ⟨b, o + k, none⟩ (n - k) (c - k) (xs.drop k) (by rfl) (by rfl) rfl HL1.out (OwI.empty _) ((HRW.out.drop k).ext (((Ext.refl wr).drew).alloc _)) ((Ext.refl _).alloc _) (by omega) ?_; intro A2 c2 w2 h1 h2; have HO2 := Lib.hid h1; have HE2 := Lib.hid h2; clear h1 h2)
        | (refine step_ints (World.drew wr) (by rfl) _ _ (by rfl) A2 c2 (n - k) ([] ++ xs.drop k) ⟨b, o, none⟩ k c (xs.take k) (by rfl) (by rfl) HL1.out HL2.out HO2.out ((HRW.out.take k).ext ((Ext.refl wr).drew.trans HE2.out)) HE2.out (by omega) ?_; intro A3 c3 w3 h1 h2; have HO3 := Lib.hid h1; have HE3 := Lib.hid h2; clear h1 h2))
      obtain ⟨T, hT⟩ : ∃ T, T = rotF xs k := ⟨_, rfl⟩
      have HT3 : Hid (RdI w3 A3 T) := by have := HO3.out.rd; rw [List.nil_append] at this; rw [hT]; exact this
      have HTL : Hid (T.length = n) := by rw [hT, rotF_len, HN.out]; exact rfl
      have HX3 : Hid (RdI w3 (some ⟨b, o, none⟩) xs) := HRW.out.ext ((Ext.refl wr).drew.trans HE3.out)
      have HE4 : Hid (Ext w w3) := HE.out.drew.trans HE3.out
      have HTT := Lib.hid hT
      clear hT HO2 HE2 HO3 HE3 HRW HL1 HL2 hk0 hk1 hkc hk2 hnk
      go_simp
      go_wp2
      go_loop [23] (fun i => ∃ j : Nat, j ≤ n ∧ i = .int .i64 j ∧ Hid (cmpF T xs = cmpF (T.drop j) (xs.drop j))) (fun i => n - (intOf i).toNat)
      case atStart => exact ⟨0, Nat.zero_le _, rfl, rfl⟩
      case round =>
        obtain ⟨j, hj, rfl, HK⟩ := hrel
        by_cases hlt2 : j < n
        · have hjx : j < xs.length := by rw [← HN.out]; exact hlt2
          have hjt : j < T.length := by rw [HTL.out]; exact hlt2
          obtain ⟨b1, o1, hA1, hc1⟩ := HT3.out.at_ j hjt
          subst hA1
          obtain ⟨b2, o2, hA2, hc2⟩ := HX3.out.at_ j hjx
          injection hA2 with hA2
          injection hA2 with hA21 hA22 _
          subst hA21 hA22
          obtain ⟨x, hx⟩ : ∃ x, x = T.getD j 0 := ⟨_, rfl⟩
          obtain ⟨y, hy⟩ : ∃ y, y = xs.getD j 0 := ⟨_, rfl⟩
          rw [← hx] at hc1
          rw [← hy] at hc2
          have h1 := HK.out
          rw [drop_cons' T j hjt, drop_cons' xs j hjx, ← hx, ← hy] at h1
          simp only [cmpF] at h1
          have H1 := Lib.hid h1
          clear hx hy h1 hjx hjt HK
          by_cases hxy : x = y
          · subst hxy
            have HKN : Hid (cmpF T xs = cmpF (T.drop (j + 1)) (xs.drop (j + 1))) := by have := H1.out; rw [cmpF_eq, if_pos rfl] at this; exact this
            clear H1
            go_wp2
            go_round
            case rel => exact ⟨j + 1, by omega, by go_num, HKN⟩
            case measure => simp [intOf]; omega
          · by_cases hl : x < y
            · have HB : Hid (R = false) := by
                rw [HRB.out]
                refine roundB_no (by rw [← HN.out]; exact hlt) ?_
                rw [← HTT.out, H1.out]
                simp [cmpI, hl]
              clear H1
              go_wp2
              go_ret
              exact ⟨ret_bool HB.out.symm, HE4.out⟩
            · have HP : Hid (0 ≤ cmpF T xs) := by
                have hg : y < x := by omega
                rw [H1.out]
                simp [cmpI, hl, hg, Hid]
              clear H1
              go_wp2
              go_roundw
              case rel =>
                refine ⟨k + 1, by omega, by go_num, fun j hj => ?_, HE4.out⟩
                by_cases hjk : j < k
                · exact HJ.out j hjk
                · obtain rfl : j = k := by omega
                  rw [← HTT.out]
                  exact HP.out
              case measure => simp [intOf]; omega
        · obtain rfl : j = n := by omega
          have HP : Hid (0 ≤ cmpF T xs) := by
            rw [HK.out, show T.drop j = [] by rw [← HTL.out]; simp, show xs.drop j = [] by rw [HN.out]; simp]
            exact Int.le_refl 0
          go_wp2
          go_roundw
          case rel =>
            refine ⟨k + 1, by omega, by go_num, fun j hj => ?_, HE4.out⟩
            by_cases hjk : j < k
            · exact HJ.out j hjk
            · obtain rfl : j = k := by omega
              rw [← HTT.out]
              exact HP.out
          case measure => simp [intOf]; omega
    · obtain rfl : k = n := by omega
      go_wp2
      go_ret
      exact ⟨ret_bool (by rw [HRB.out, roundB_of (xs := xs) (fun j hj => HJ.out j (by rw [HN.out]; exact hj))]), HE.out⟩
end Go.Proofs.Ytedlmidhakmgpaa
