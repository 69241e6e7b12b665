/- Contract of spec.NextBar. -/
import Derived.Test.YtedlmidhakmgpaaNextD
namespace Go.Proofs.Ytedlmidhakmgpaa
open Go.RowKit

theorem sum_ge (xs : List Int) (h : ∀ x ∈ xs, 2 ≤ x ∧ x ≤ 3) : 0 ≤ xs.sum ∧ xs.sum ≤ 3 * xs.length := by
  induction xs with
  | nil => simp
  | cons x xs ih =>
    have := ih (fun y hy => h y (by simp [hy]))
    have := h x (by simp)
    simp only [List.sum_cons, List.length_cons]
    omega

set_option maxHeartbeats 2000000 in
theorem nbS_any (A : Option Addr) (c : Nat) (xs : List Int) (w : World) (hr : RdI w A xs) (hn : xs.length ≤ 1048576) (hcap : xs.length ≤ c) :
    Calls Try.prog 37 #[.slice A xs.length c] w (RetIB w (nbF xs) (nbB xs)) := by
  have CT := Lib.hid (barS_any A c xs w hr (by omega))
  have HR := Lib.hid hr
  by_cases hok : barB xs = true
  · have hb := barB_iff hok
    have e1 : nbF xs = (nextS xs xs.length).1 := by unfold nbF; rw [if_pos hok]
    have e2 : nbB xs = (nextS xs xs.length).2 := by unfold nbB; rw [if_pos hok]
    rw [e1, e2]
    have HV : Hid (∀ x ∈ xs, 2 ≤ x ∧ x ≤ 3) := hb.2.1
    have hx12 := hb.1.2
    obtain ⟨n, hnn⟩ : ∃ n, n = xs.length := ⟨_, rfl⟩
    have HN := Lib.hid hnn
    obtain ⟨P, hP⟩ : ∃ P, P = nextS xs n := ⟨_, rfl⟩
    rw [hok] at CT
    rw [← hnn] at CT hn hx12 hcap ⊢
    rw [← hP]
    have HP := Lib.hid hP
    clear e1 e2 hr hok hb hnn hP
    go_enter Try.func37, Try.ntmps37
    go_wp2_with fail
    refine CT.out.mono ?_
    rintro e w1 ⟨rfl, rfl⟩
    go_wp2_with fail
    go_loopw [4] (fun i wr => ∃ k : Nat, k ≤ n ∧ i = .int .i64 ((k : Int) - 1) ∧ Hid (P = nextS xs k) ∧ Hid (Ext w wr)) (fun i _ => (intOf i + 1).toNat)
    case atStart => exact ⟨n, Nat.le_refl _, rfl, HP.out, Ext.refl w⟩
    case round =>
      obtain ⟨k, hk, rfl, HK, HE⟩ := hrel
      cases k with
      | zero =>
        have HPZ : Hid (P = ([], false)) := HK.out
        go_wp2_with fail
        go_ret2
        rw [HPZ.out]
        exact ⟨none, 0, rfl, OwI.nil _ _, HE.out⟩
      | succ j =>
        have hi : ((j + 1 : Nat) : Int) - 1 = j := by omega
        rw [hi]
        have hjx : j < xs.length := by rw [← HN.out]; omega
        obtain ⟨b, o, hA, hc⟩ := (HR.out.ext HE.out).at_ j hjx
        subst hA
        obtain ⟨x, hx⟩ : ∃ x, x = xs.getD j 0 := ⟨_, rfl⟩
        rw [← hx] at hc
        have hK := HK.out
        simp only [nextS] at hK
        rw [← hx] at hK
        have HPK := Lib.hid hK
        have hjn : j < n := by omega
        have hjn' : (j : Int) < n := by omega
        clear hK hi HK hx
        by_cases h3 : x = 3
        · have HPN : Hid (P = nextS xs j) := by have := HPK.out; rw [if_pos h3] at this; exact this
          clear HPK
          go_wp2_with fail
          go_roundw
          case rel => exact ⟨j, by omega, rfl, HPN, HE.out⟩
          case measure => simp [intOf]
        · have hdl : (xs.drop j).length = n - j := by rw [List.length_drop, HN.out]
          have hsb := sum_ge (xs.drop j) (fun y hy => HV.out y (List.mem_of_mem_drop hy))
          rw [hdl] at hsb
          have HRW := Lib.hid (HR.out.ext HE.out)
          have CS := Lib.hid (l19Sum_any (some ⟨b, o + j, none⟩) (c - j) (xs.drop j) wr (HRW.out.drop j) (by rw [hdl]; omega) (fun y hy => by have := HV.out y (List.mem_of_mem_drop hy); omega))
          rw [hdl] at CS
          obtain ⟨s, hs⟩ : ∃ s, s = (xs.drop j).sum := ⟨_, rfl⟩
          rw [← hs] at CS hsb
          have hs0 : 0 ≤ s := hsb.1
          have hs1 : s ≤ 36 := by omega
          have HPN := HPK.out
          rw [if_neg h3, ← hs] at HPN
          have HPN2 := Lib.hid HPN
          have hjc : ¬ c = j := by omega
          have hjc2 : j ≤ c := by omega
          have hjc3 : (j : Int) ≤ c := by omega
          have hjn3 : (j : Int) ≤ n := by omega
          clear HPK HPN hs hsb hdl
          by_cases hbad : s - 3 = 1 ∨ s - 3 < 0
          · have HPB : Hid (P = nextS xs j) := by have := HPN2.out; rw [if_pos hbad] at this; exact this
            have CF := Lib.hid (fun w => first_bad (s - 3) w hbad)
            clear HPN2 hbad
            go_wp2_with fail
            refine CS.out.mono ?_
            rintro e w2 ⟨rfl, rfl⟩
            go_wp2_with fail
            refine (CF.out _).mono ?_
            rintro e w3 ⟨A3, c3, rfl, _, he⟩
            have HE3 := Lib.hid (HE.out.trans he)
            clear he
            go_wp2_with fail
            go_roundw
            case rel => exact ⟨j, by omega, rfl, HPB, HE3.out⟩
            case measure => simp [intOf]
          · obtain ⟨r, hr⟩ : ∃ r : Nat, s - 3 = r := ⟨(s - 3).toNat, by omega⟩
            have HPB : Hid (P = (xs.take j ++ [3] ++ firstL r, true)) := by have := HPN2.out; rw [if_neg hbad, hr, Int.toNat_natCast] at this; exact this
            have CF := Lib.hid (fun w => first_ok r w (by omega) (by omega))
            rw [← hr] at CF
            have HTL : Hid ((xs.take j).length = j) := (by rw [List.length_take]; omega : (xs.take j).length = j)
            have hrb : (firstL r).length ≤ 1000 := by
              have : ∀ r, r ≤ 100 → (firstL r).length ≤ 1000 := by decide
              exact this r (by omega)
            clear HPN2 hbad hr
            go_wp2_with fail
            refine CS.out.mono ?_
            rintro e w2 ⟨rfl, rfl⟩
            go_wp2_with fail
            refine (CF.out _).mono ?_
            rintro e w3 ⟨A3, c3, rfl, ho, he⟩
            have HE3 := Lib.hid (HE.out.trans he)
            have HX3 := Lib.hid (HRW.out.ext he)
            have HO3 := Lib.hid ho
            obtain ⟨q, hq⟩ : ∃ q, q = (firstL r).length := ⟨_, rfl⟩
            rw [← hq] at hrb ⊢
            have HQ := Lib.hid hq
            clear ho he hq hc HRW CS CF
            go_wp2_with (first
              | (at_builtin; refine app_ints w3 rfl _ _ rfl _ _ 0 [] (some ⟨b, o, none⟩) j c (xs.take j) rfl rfl rfl HTL.out (OwI.empty w3) ((HX3.out.take j).ext ((Ext.refl _).alloc _)) ((Ext.refl w3).alloc _) (by omega) ?_; intro A4 c4 w4 h4 h5 _; have HO4 := Lib.hid h4; have HE4 := Lib.hid h5; clear h4 h5)
              | (at_builtin; refine app_int w3 w4 rfl _ _ rfl A4 c4 j ([] ++ xs.take j) 3 rfl rfl HTL.out HO4.out HE4.out (by omega) ?_; intro A5 c5 w5 h4 h5; have HO5 := Lib.hid h4; have HE5 := Lib.hid h5; clear h4 h5)
              | (at_builtin; refine app_ints w3 rfl _ _ rfl A5 c5 (j + 1) ([] ++ xs.take j ++ [3]) A3 q c3 (firstL r) rfl rfl (by simp [HTL.out]) HQ.out.symm HO5.out (HO3.out.rd.ext HE5.out) HE5.out (by omega) ?_; intro A6 c6 w6 h4 h5 _; have HO6 := Lib.hid h4; have HE6 := Lib.hid h5; clear h4 h5))
            go_ret2
            rw [HPB.out]
            refine ⟨A6, c6, ?_, ?_, HE3.out.trans HE6.out⟩
            · have : (xs.take j ++ [3] ++ firstL r).length = j + 1 + q := by rw [List.length_append, List.length_append, HTL.out, ← HQ.out]; rfl
              rw [this]
              rfl
            · exact HO6.out.lower HE3.out.size
  · have hok : barB xs = false := by simpa using hok
    have e1 : nbF xs = [] := by unfold nbF; rw [hok]; rfl
    have e2 : nbB xs = false := by unfold nbB; rw [hok]; rfl
    rw [e1, e2]
    rw [hok] at CT
    obtain ⟨n, hnn⟩ : ∃ n, n = xs.length := ⟨_, rfl⟩
    rw [← hnn] at CT ⊢
    clear e1 e2 hr hn hok hcap hnn
    go_enter Try.func37, Try.ntmps37
    go_wp2_with fail
    refine CT.out.mono ?_
    rintro e w1 ⟨rfl, rfl⟩
    go_wp2_with fail
    go_ret2
    exact ⟨none, 0, rfl, OwI.nil _ _, Ext.refl w⟩

theorem firstL_len : ∀ r, r ≤ 100 → (firstL r).length ≤ 1000 := by decide
theorem nextS_len (xs : List Int) (hs : ∀ i, (xs.drop i).sum ≤ 100) (hl : xs.length ≤ 12) : ∀ k, (nextS xs k).1.length ≤ 1100
  | 0 => by simp [nextS]
  | k + 1 => by
    have ih := nextS_len xs hs hl k
    simp only [nextS]
    split
    · exact ih
    · split
      · exact ih
      · have h1 := hs k
        have h2 := firstL_len ((xs.drop k).sum - 3).toNat (by omega)
        simp only [List.length_append, List.length_take, List.length_cons, List.length_nil]
        omega
theorem nbF_sz (xs : List Int) : (nbF xs).length ≤ 1099511627776 := by
  unfold nbF
  split
  · rename_i h
    have hb := barB_iff h
    refine Nat.le_trans (nextS_len xs (fun i => ?_) hb.1.2 _) (by omega)
    have := sum_ge (xs.drop i) (fun y hy => hb.2.1 y (List.mem_of_mem_drop hy))
    have h3 : (xs.drop i).length ≤ 12 := by rw [List.length_drop]; omega
    omega
  · simp
end Go.Proofs.Ytedlmidhakmgpaa
