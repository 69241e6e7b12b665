/- Contracts of FromSteps on a bar, BarRhythm. -/
import Derived.Test.YtedlmidhakmgpaaRhyB
import Derived.Test.YtedlmidhakmgpaaBarB
namespace Go.Proofs.Ytedlmidhakmgpaa
open Go.RowKit

set_option maxHeartbeats 4000000 in
theorem fromS_bar (A : Option Addr) (c : Nat) (xs : List Int) (w : World) (hr : RdI w A xs) (hb : barB xs = true) :
    Calls Try.prog 53 #[.slice A xs.length c, .int .i64 0] w (RetRB w (xs.sum, preF xs 0) true) := by
  have hbb := barB_iff hb
  have hx1 := hbb.1.1
  have hx12 := hbb.1.2
  have hs24 := hbb.2.2
  have HV : Hid (∀ x ∈ xs, 2 ≤ x ∧ x ≤ 3) := hbb.2.1
  obtain ⟨n, hnn⟩ : ∃ n, n = xs.length := ⟨_, rfl⟩
  obtain ⟨S, hS⟩ : ∃ S, S = xs.sum := ⟨_, rfl⟩
  rw [← hnn] at hx1 hx12 ⊢
  rw [← hS] at hs24 ⊢
  have HN := Lib.hid hnn
  have HS := Lib.hid hS
  have HR := Lib.hid hr
  have HX0 : Hid (Ext w (w.alloc (.cells #[.int .i64 0, .slice none 0 0] 36))) := (Ext.refl w).alloc _
  have HG0 := Lib.hid (Bx2.new w 36 (.int .i64 0) (.slice none 0 0))
  clear hbb hb hnn hS hr
  go_enter Try.func53, Try.ntmps53
  go_wp2_with fail
  go_loopw [6, 15] (fun s i wr => ∃ (k : Nat) (t : Int), k ≤ n ∧ i = .int .i64 k ∧ s = .int .i64 t ∧ 0 ≤ t ∧ t ≤ k * 3 ∧ t ≤ 24 ∧ Hid (t = (xs.take k).sum) ∧ Hid (Bx2 wr w.heap.size 36 (.int .i64 0) (.slice none 0 0)) ∧ Hid (Ext w wr)) (fun _ i _ => n - (intOf i).toNat)
  case atStart => exact ⟨0, 0, Nat.zero_le _, rfl, rfl, by omega, by omega, by omega, rfl, HG0.out, HX0.out⟩
  case round =>
    obtain ⟨k, t, hk, rfl, rfl, ht0, ht1, ht2, HT, HG, HE⟩ := hrel
    by_cases hlt : k < n
    · have hkx : k < xs.length := by rw [← HN.out]; exact hlt
      obtain ⟨b, o, hA, hc⟩ := (HR.out.ext HE.out).at_ k hkx
      subst hA
      obtain ⟨x, hx⟩ : ∃ x, x = xs.getD k 0 := ⟨_, rfl⟩
      rw [← hx] at hc
      have hx23 := HV.out x (by rw [hx]; exact mem_getD hkx)
      have hstep := sum_take_step xs k hkx
      rw [← hx, ← HT.out] at hstep
      have hle := (sum_take_le xs (fun x hx => by have := HV.out x hx; omega) (k + 1)).2
      rw [hstep, ← HS.out] at hle
      have HST := Lib.hid hstep
      have hin : inB x 1 24 = true := inB_iff.2 ⟨by omega, by omega⟩
      clear hx hkx hstep
      go_wp2_with (go_at_call 47; refine (l01In_any _ _ _ _).mono ?_; rintro e w' ⟨rfl, rfl⟩)
      go_roundw
      case rel => exact ⟨k + 1, t + x, by omega, by go_num, rfl, by omega, by omega, by omega, HST.out.symm, HG.out, HE.out⟩
      case measure => simp [intOf]; omega
    · obtain rfl : k = n := by omega
      have htS : t = S := by rw [HT.out, take_all xs k HN.out, HS.out]
      subst htS
      have hkx : k - 1 < xs.length := by rw [← HN.out]; omega
      obtain ⟨b, o, hA, hc⟩ := (HR.out.ext HE.out).at_ (k - 1) hkx
      subst hA
      obtain ⟨y, hy⟩ : ∃ y, y = xs.getD (k - 1) 0 := ⟨_, rfl⟩
      rw [← hy] at hc
      have hy23 := HV.out y (by rw [hy]; exact mem_getD hkx)
      have hin : inB 0 0 (y - 1) = true := inB_iff.2 ⟨by omega, by omega⟩
      have hk0 : ¬ (k : Int) = 0 := by omega
      have hkb : ((k : Int) == 0) = false := by simpa using hk0
      have hk1 : ((k : Int) - 1).toNat = k - 1 := by omega
      have hk2 : (k : Int) - 1 < k := by omega
      have hk3 : (1 : Int) ≤ k := by omega
      obtain ⟨q0, q1, p0, p1⟩ := HG.out.cells
      have HE1 : Hid (Ext w (wr.alloc (.cells #[.int .i64 t, .slice none 0 0] 36))) := HE.out.alloc _
      have HB1 := Lib.hid (Bx2.new wr 36 (.int .i64 t) (.slice none 0 0))
      have HG1 : Hid (Bx2 (wr.alloc (.cells #[.int .i64 t, .slice none 0 0] 36)) w.heap.size 36 (.int .i64 0) (.slice none 0 0)) := HG.out.ext ((Ext.refl _).alloc _)
      have hgw := HG.out.lt
      clear hy hkx HT
      go_wp2_with (go_at_call 47; refine (l01In_any _ _ _ _).mono ?_; rintro e w' ⟨rfl, rfl⟩)
      clear hc q0 q1 p0 p1
      go_loopw [10, 56] (fun v i ws => ∃ (j : Nat) (p : Int) (B : Option Addr) (d : Nat), j ≤ k ∧ i = .int .i64 j ∧ v = .int .i64 p ∧ 0 ≤ p ∧ p ≤ j * 3 ∧ Hid (p = (xs.take j).sum) ∧ Hid (Bx2 ws wr.heap.size 36 (.int .i64 t) (.slice B j d)) ∧ Hid (Bx2 ws w.heap.size 36 (.int .i64 0) (.slice none 0 0)) ∧ Hid (OwI ws w.heap.size B d (preF (xs.take j) 0)) ∧ Hid (Ext w ws)) (fun _ i _ => k - (intOf i).toNat)
      case atStart => exact ⟨0, 0, none, 0, Nat.zero_le _, rfl, rfl, by omega, by omega, rfl, HB1.out, HG1.out, OwI.nil _ _, HE1.out⟩
      case round =>
        obtain ⟨j, p, B, d, hj, rfl, rfl, hp0, hp1, HP, HB, HG2, HO, HE2⟩ := hrel
        obtain ⟨q0, q1, p0, p1⟩ := HB.out.cells
        by_cases hlt2 : j < k
        · have hjx : j < xs.length := by rw [← HN.out]; exact hlt2
          obtain ⟨b', o', hA', hc⟩ := (HR.out.ext HE2.out).at_ j hjx
          injection hA' with hA'
          injection hA' with e1 e2 _
          subst e1 e2
          obtain ⟨x, hx⟩ : ∃ x, x = xs.getD j 0 := ⟨_, rfl⟩
          rw [← hx] at hc
          have hx23 := HV.out x (by rw [hx]; exact mem_getD hjx)
          have HLJ : Hid ((preF (xs.take j) 0).length = j) := by rw [preF_len, List.length_take]; exact (by omega : min j xs.length = j)
          have HPN : Hid (p + x = (xs.take (j + 1)).sum) := by rw [sum_take_step xs j hjx, ← HP.out, hx]; exact rfl
          have HPF : Hid (preF (xs.take (j + 1)) 0 = preF (xs.take j) 0 ++ [p]) := by rw [take_snoc xs j hjx, preF_snoc, HP.out, Int.zero_add]; exact rfl
          clear hx hjx
          go_wp2_with (at_builtin; refine app_ints w rfl _ _ rfl B d j (preF (xs.take j) 0) _ 1 1 [p] rfl rfl HLJ.out rfl (HO.out.ext ((Ext.refl _).alloc _)) (RdI.built wr [p]) (HE2.out.alloc _) (by omega) ?_; intro A' c' w2 h1 h2 h3; have HO2 := Lib.hid h1; have HE3 := Lib.hid h2; have HB2 := Lib.hid ((HB.out.ext ((Ext.refl _).alloc _)).grown (by decide) (HO.out.ext ((Ext.refl _).alloc _)) h3); have HG3 := Lib.hid ((HG2.out.ext ((Ext.refl _).alloc _)).grown (by decide) (HO.out.ext ((Ext.refl _).alloc _)) h3); obtain ⟨r0, r1, s0, s1⟩ := HB2.out.cells; clear h1 h2 h3)
          go_roundw
          case rel =>
            exact ⟨j + 1, p + x, A', c', by omega, by go_num, rfl, by omega, by omega, HPN, HB2.out.set1 _, HG3.out.far (by simp only []; omega) _,
              by rw [HPF.out]; exact HO2.out.setFar (fun ad had => HB2.out.ne (by decide) HO2.out ad had) _, HE3.out.setCell (by simp only []; omega) _⟩
          case measure => simp [intOf]; omega
        · obtain rfl : j = k := by omega
          have HPA : Hid (OwI wr w.heap.size B d (preF xs 0) ∧ j = (preF xs 0).length) := by
            have := HO.out
            rw [take_all xs j HN.out] at this
            exact ⟨this, by rw [preF_len]; exact HN.out⟩
          obtain ⟨z0, z1, y0, y1⟩ := HG2.out.cells
          have HNE := Lib.hid (HG2.out.ne (by decide) HPA.out.1)
          go_wp2_with fail
          refine bodyPost_ret (v := .tuple #[.agg #[.int .i64 t, .slice B j d], .bool true]) (by simp [results, Try.results53, go_sem, z0, z1]) rfl ?_
          exact retRB_intro HPA.out.2 ((HPA.out.1.setFar (fun ad had => HNE.out ad had) _).setFar (fun ad had => HNE.out ad had) _) ((HE2.out.setCell (by simp) _).setCell (by simp) _)

set_option maxHeartbeats 4000000 in
theorem fromI_bar (A : Option Addr) (c : Nat) (xs : List Int) (w : World) (hr : RdI w A xs) (hb : barB xs = true) :
    Calls Try.prog 54 #[.slice A xs.length c, .int .i64 0] w (RetRB w (xs.sum, preF xs 0) true) := by
  have hbb := barB_iff hb
  have hx1 := hbb.1.1
  have hx12 := hbb.1.2
  have hs24 := hbb.2.2
  have HV : Hid (∀ x ∈ xs, 2 ≤ x ∧ x ≤ 3) := hbb.2.1
  obtain ⟨n, hnn⟩ : ∃ n, n = xs.length := ⟨_, rfl⟩
  obtain ⟨S, hS⟩ : ∃ S, S = xs.sum := ⟨_, rfl⟩
  rw [← hnn] at hx1 hx12 ⊢
  rw [← hS] at hs24 ⊢
  have HN := Lib.hid hnn
  have HS := Lib.hid hS
  have HR := Lib.hid hr
  have hall : allB xs 1 24 = true := allB_iff.2 (fun x hx => by have := HV.out x hx; omega)
  have CA : Hid (∀ w, RdI w A xs → Calls Try.prog _ #[.slice A xs.length c, .int .i64 1, .int .i64 24] w fun e w' => e = .returned (.bool (allB xs 1 24)) ∧ Ext w w') := fun w h => allWithin_any A c xs 1 24 w h (by omega)
  have CS : Hid (∀ w, RdI w A xs → Calls Try.prog _ #[.slice A xs.length c] w fun e w' => e = .returned (.int .i64 xs.sum) ∧ w = w') := fun w h => sumOf_any A c xs w h (by omega) (fun x hx => by have := HV.out x hx; omega)
  rw [hall, ← hnn] at CA
  rw [← hnn, ← hS] at CS
  have CR : Hid (∀ w B d, RdI w B (preF xs 0) → Calls Try.prog 71 #[.agg #[.int .i64 S, .slice B n d]] w fun e w' => e = .returned (.bool true) ∧ Ext w w') := fun w B d h => by
    have h1 := rhyI_any B d S (preF xs 0) w h (by rw [preF_len]; omega)
    rw [preF_len, ← hnn, hS, preF_rhy xs (by omega) (fun x hx => by have := HV.out x hx; omega) (by omega), ← hS] at h1
    exact h1
  have HX0 : Hid (Ext w (w.alloc (.cells #[.int .i64 0, .slice none 0 0] 36))) := (Ext.refl w).alloc _
  have HG0 := Lib.hid (Bx2.new w 36 (.int .i64 0) (.slice none 0 0))
  clear hbb hb hnn hS hr hall
  go_enter Try.func54, Try.ntmps54
  have hk0 : ¬ (n : Int) = 0 := by omega
  have hkb : ((n : Int) == 0) = false := by simpa using hk0
  have hk24 : ¬ (24 : Int) < n := by omega
  go_wp2_with fail
  refine (CA.out _ (HR.out.ext HX0.out)).mono ?_
  rintro e w1 ⟨rfl, he⟩
  have HE := Lib.hid (HX0.out.trans he)
  have HG := Lib.hid (HG0.out.ext he)
  clear he
  go_wp2_with fail
  refine (CS.out _ (HR.out.ext HE.out)).mono ?_
  rintro e w2 ⟨rfl, rfl⟩
  obtain ⟨k, hkn⟩ : ∃ k, k = n := ⟨_, rfl⟩
  obtain ⟨t, htS⟩ : ∃ t, t = S := ⟨_, rfl⟩
  subst hkn
  subst htS
  have HE1 : Hid (Ext w (w1.alloc (.cells #[.int .i64 t, .slice none 0 0] 36))) := HE.out.alloc _
  have HB1 := Lib.hid (Bx2.new w1 36 (.int .i64 t) (.slice none 0 0))
  have HG1 : Hid (Bx2 (w1.alloc (.cells #[.int .i64 t, .slice none 0 0] 36)) w.heap.size 36 (.int .i64 0) (.slice none 0 0)) := HG.out.ext ((Ext.refl _).alloc _)
  have hgw := HG.out.lt
  go_wp2_with fail
  go_loopw [1, 32] (fun v i ws => ∃ (j : Nat) (p : Int) (B : Option Addr) (d : Nat), j ≤ k ∧ i = .int .i64 j ∧ v = .int .i64 p ∧ 0 ≤ p ∧ p ≤ j * 3 ∧ Hid (p = (xs.take j).sum) ∧ Hid (Bx2 ws w1.heap.size 36 (.int .i64 t) (.slice B j d)) ∧ Hid (Bx2 ws w.heap.size 36 (.int .i64 0) (.slice none 0 0)) ∧ Hid (OwI ws w.heap.size B d (preF (xs.take j) 0)) ∧ Hid (Ext w ws)) (fun _ i _ => k - (intOf i).toNat)
  case atStart => exact ⟨0, 0, none, 0, Nat.zero_le _, rfl, rfl, by omega, by omega, rfl, HB1.out, HG1.out, OwI.nil _ _, HE1.out⟩
  case round =>
    obtain ⟨j, p, B, d, hj, rfl, rfl, hp0, hp1, HP, HB, HG2, HO, HE2⟩ := hrel
    obtain ⟨q0, q1, p0, p1⟩ := HB.out.cells
    by_cases hlt2 : j < k
    · have hjx : j < xs.length := by rw [← HN.out]; exact hlt2
      obtain ⟨b, o, hA, hc⟩ := (HR.out.ext HE2.out).at_ j hjx
      subst hA
      obtain ⟨x, hx⟩ : ∃ x, x = xs.getD j 0 := ⟨_, rfl⟩
      rw [← hx] at hc
      have hx23 := HV.out x (by rw [hx]; exact mem_getD hjx)
      have HLJ : Hid ((preF (xs.take j) 0).length = j) := by rw [preF_len, List.length_take]; exact (by omega : min j xs.length = j)
      have HPN : Hid (p + x = (xs.take (j + 1)).sum) := by rw [sum_take_step xs j hjx, ← HP.out, hx]; exact rfl
      have HPF : Hid (preF (xs.take (j + 1)) 0 = preF (xs.take j) 0 ++ [p]) := by rw [take_snoc xs j hjx, preF_snoc, HP.out, Int.zero_add]; exact rfl
      clear hx hjx
      go_wp2_with (at_builtin; refine app_ints w rfl _ _ rfl B d j (preF (xs.take j) 0) _ 1 1 [p] rfl rfl HLJ.out rfl (HO.out.ext ((Ext.refl _).alloc _)) (RdI.built wr [p]) (HE2.out.alloc _) (by omega) ?_; intro A' c' w2 h1 h2 h3; have HO2 := Lib.hid h1; have HE3 := Lib.hid h2; have HB2 := Lib.hid ((HB.out.ext ((Ext.refl _).alloc _)).grown (by decide) (HO.out.ext ((Ext.refl _).alloc _)) h3); have HG3 := Lib.hid ((HG2.out.ext ((Ext.refl _).alloc _)).grown (by decide) (HO.out.ext ((Ext.refl _).alloc _)) h3); obtain ⟨r0, r1, s0, s1⟩ := HB2.out.cells; clear h1 h2 h3)
      go_roundw
      case rel =>
        exact ⟨j + 1, p + x, A', c', by omega, by go_num, rfl, by omega, by omega, HPN, HB2.out.set1 _, HG3.out.far (by simp only []; omega) _,
          by rw [HPF.out]; exact HO2.out.setFar (fun ad had => HB2.out.ne (by decide) HO2.out ad had) _, HE3.out.setCell (by simp only []; omega) _⟩
      case measure => simp [intOf]; omega
    · obtain rfl : j = k := by omega
      have HPA : Hid (OwI wr w.heap.size B d (preF xs 0) ∧ j = (preF xs 0).length) := by
        have := HO.out
        rw [take_all xs j HN.out] at this
        exact ⟨this, by rw [preF_len]; exact HN.out⟩
      obtain ⟨z0, z1, y0, y1⟩ := HG2.out.cells
      have HNE := Lib.hid (HG2.out.ne (by decide) HPA.out.1)
      go_wp2_with fail
      refine (CR.out _ _ _ HPA.out.1.rd).mono ?_
      rintro e w3 ⟨rfl, he⟩
      have HE3 := Lib.hid (HE2.out.trans he)
      have HB3 := Lib.hid (HB.out.ext he)
      have HG3 := Lib.hid (HG2.out.ext he)
      have HO3 := Lib.hid (HPA.out.1.ext he)
      clear he q0 q1 p0 p1 z0 z1 y0 y1 HNE
      obtain ⟨q0, q1, p0, p1⟩ := HB3.out.cells
      obtain ⟨z0, z1, y0, y1⟩ := HG3.out.cells
      have HNE := Lib.hid (HG3.out.ne (by decide) HO3.out)
      go_wp2_with fail
      refine bodyPost_ret (v := .tuple #[.agg #[.int .i64 t, .slice B j d], .bool true]) (by simp [results, Try.results54, go_sem, z0, z1]) rfl ?_
      exact retRB_intro HPA.out.2 ((HO3.out.setFar (fun ad had => HNE.out ad had) _).setFar (fun ad had => HNE.out ad had) _) ((HE3.out.setCell (by simp) _).setCell (by simp) _)
end Go.Proofs.Ytedlmidhakmgpaa
