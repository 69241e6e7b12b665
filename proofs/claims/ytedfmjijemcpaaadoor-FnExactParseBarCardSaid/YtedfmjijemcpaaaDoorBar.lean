/- Contracts of BarOk, DoubleBar. -/
import Derived.Test.YtedfmjijemcpaaaDoorAllWithin
import Derived.Test.YtedfmjijemcpaaaDoorApp
namespace Go.Proofs.YtedfmjijemcpaaaDoor
open Go.RowKit

/-- A bar is valid. -/
def barB (xs : List Int) : Bool := inB xs.length 1 12 && (allB xs 2 3 && decide (xs.sum ≤ 24))
theorem barB_iff {xs : List Int} (h : barB xs = true) : (1 ≤ xs.length ∧ xs.length ≤ 12) ∧ (∀ x ∈ xs, 2 ≤ x ∧ x ≤ 3) ∧ xs.sum ≤ 24 := by
  unfold barB at h
  simp only [Bool.and_eq_true, decide_eq_true_eq] at h
  have := inB_iff.1 h.1
  exact ⟨⟨by omega, by omega⟩, allB_iff.1 h.2.1, h.2.2⟩
theorem mem_getD {xs : List Int} {k : Nat} (h : k < xs.length) : xs.getD k 0 ∈ xs := by simp [List.getD, h]
theorem allB_take {xs : List Int} {lo hi : Int} {k : Nat} (h : ∀ j, j < k → inB (xs.getD j 0) lo hi = true) (hk : k = xs.length) : allB xs lo hi = true := by
  rw [allB_iff]
  intro x hx
  obtain ⟨j, hj, e⟩ := List.mem_iff_getElem.1 hx
  have := h j (by omega)
  rw [← e]
  exact inB_iff.1 (by simpa [List.getD, hj] using this)
theorem allB_bad {xs : List Int} {lo hi x : Int} (hm : x ∈ xs) (h : inB x lo hi = false) : allB xs lo hi = false := by
  rw [← Bool.not_eq_true, allB_iff]
  intro ha
  rw [inB_iff.2 (ha x hm)] at h
  cases h

set_option maxHeartbeats 1000000 in
theorem barS_any (A : Option Addr) (c : Nat) (xs : List Int) (w : World) (hr : RdI w A xs) (hn : xs.length ≤ 4194304) :
    Calls Tryd.prog 19 #[.slice A xs.length c] w fun e w' => e = .returned (.bool (barB xs)) ∧ w = w' := by
  obtain ⟨n, hnn⟩ : ∃ n, n = xs.length := ⟨_, rfl⟩
  obtain ⟨B, hB⟩ : ∃ B, B = barB xs := ⟨_, rfl⟩
  rw [← hB, ← hnn]
  rw [← hnn] at hn
  have HN := Lib.hid hnn
  have HB := Lib.hid hB
  have HR := Lib.hid hr
  clear hnn hB hr
  by_cases hlen : inB n 1 12 = true
  · have h12 := inB_iff.1 hlen
    go_enter Tryd.func19, Tryd.ntmps19
    go_wp2_with (go_at_call 30; refine (l01In_any _ _ _ _).mono ?_; rintro e w' ⟨rfl, rfl⟩)
    go_loop [3, 12] (fun s i => ∃ (k : Nat) (t : Int), k ≤ n ∧ i = .int .i64 k ∧ s = .int .i64 t ∧ 0 ≤ t ∧ t ≤ k * 3 ∧ Hid (∀ j, j < k → inB (xs.getD j 0) 2 3 = true) ∧ Hid (t = (xs.take k).sum)) (fun _ i => n - (intOf i).toNat)
    case atStart => exact ⟨0, 0, Nat.zero_le _, rfl, rfl, by omega, by omega, fun j hj => absurd hj (by omega), rfl⟩
    case round =>
      obtain ⟨k, t, hk, rfl, rfl, ht0, ht1, HJ, HT⟩ := hrel
      by_cases hlt : k < n
      · have hkx : k < xs.length := by rw [← HN.out]; exact hlt
        obtain ⟨b, o, hA, hc⟩ := HR.out.at_ k hkx
        subst hA
        obtain ⟨x, hx⟩ : ∃ x, x = xs.getD k 0 := ⟨_, rfl⟩
        rw [← hx] at hc
        have hm : x ∈ xs := by rw [hx]; exact mem_getD hkx
        have HM := Lib.hid hm
        have HX := Lib.hid hx
        have HK := Lib.hid hkx
        clear hx hkx hm
        by_cases h1 : inB x 2 3 = true
        · have hx23 := inB_iff.1 h1
          go_wp2_with (go_at_call 30; refine (l01In_any _ _ _ _).mono ?_; rintro e w' ⟨rfl, rfl⟩)
          go_round
          case rel =>
            refine ⟨k + 1, t + x, by omega, by go_num, rfl, by omega, by omega, fun j hj => ?_, by rw [take_snoc xs k HK.out, List.sum_append, ← HT.out, ← HX.out]; simp [Hid]⟩
            by_cases hjk : j < k
            · exact HJ.out j hjk
            · obtain rfl : j = k := by omega
              rw [← HX.out]
              exact h1
          case measure => simp [intOf]; omega
        · have h1 : inB x 2 3 = false := by simpa using h1
          have hb : B = false := by rw [HB.out]; unfold barB; rw [allB_bad HM.out h1]; simp
          go_wp2_with (go_at_call 30; refine (l01In_any _ _ _ _).mono ?_; rintro e w' ⟨rfl, rfl⟩)
          go_ret
          exact ⟨ret_bool hb.symm, rfl⟩
      · obtain rfl : k = n := by omega
        go_wp2
        go_ret
        refine ⟨ret_bool ?_, rfl⟩
        rw [HB.out]
        unfold barB
        rw [allB_take HJ.out HN.out, ← HN.out, hlen, HT.out, take_all xs k HN.out]
        rfl
  · have hlen : inB n 1 12 = false := by simpa using hlen
    go_enter Tryd.func19, Tryd.ntmps19
    go_wp2_with (go_at_call 30; refine (l01In_any _ _ _ _).mono ?_; rintro e w' ⟨rfl, rfl⟩)
    go_ret
    exact ⟨ret_bool (by rw [HB.out]; unfold barB; rw [← HN.out, hlen]; rfl), rfl⟩

theorem barI_any (A : Option Addr) (c : Nat) (xs : List Int) (w : World) (hr : RdI w A xs) (hn : xs.length ≤ 4194304) :
    Calls Tryd.prog 22 #[.slice A xs.length c] w fun e w' => e = .returned (.bool (barB xs)) ∧ Ext w w' := by
  obtain ⟨n, hnn⟩ : ∃ n, n = xs.length := ⟨_, rfl⟩
  obtain ⟨B, hB⟩ : ∃ B, B = barB xs := ⟨_, rfl⟩
  have HR := Lib.hid hr
  by_cases hlen : inB n 1 12 = true
  · have CA := Lib.hid (allWithin_any A c xs 2 3 w hr (by omega))
    by_cases hall : allB xs 2 3 = true
    · have hb : ∀ x ∈ xs, 0 ≤ x ∧ x ≤ 4294967296 := fun x hx => by have := allB_iff.1 hall x hx; omega
      have hlen' := inB_iff.1 hlen
      have CS : Hid (∀ w, RdI w A xs → Calls Tryd.prog _ #[.slice A xs.length c] w fun e w' => e = .returned (.int .i64 xs.sum) ∧ w = w') := fun w h => sumOf_any A c xs w h (by omega) hb
      have hBB : B = decide (xs.sum ≤ 24) := by rw [hB]; unfold barB; rw [← hnn, hlen, hall]; rfl
      rw [← hB]
      rw [hall] at CA
      obtain ⟨S, hS⟩ : ∃ S, S = xs.sum := ⟨_, rfl⟩
      rw [← hS] at CS hBB
      rw [← hnn] at CA CS ⊢
      have HBB := Lib.hid hBB
      clear hr hn hnn hB hall hb hS hBB hlen'
      go_enter Tryd.func22, Tryd.ntmps22
      go_wp2_with fail
      refine (within_any _ _ _ _).mono ?_
      rintro e w1 ⟨rfl, rfl⟩
      go_wp2_with fail
      refine CA.out.mono ?_
      rintro e w2 ⟨rfl, he⟩
      have HX := Lib.hid he
      clear he
      go_wp2_with fail
      refine (CS.out _ (HR.out.ext HX.out)).mono ?_
      rintro e w3 ⟨rfl, rfl⟩
      go_wp2_with fail
      go_ret
      exact ⟨ret_bool HBB.out.symm, HX.out⟩
    · have hall : allB xs 2 3 = false := by simpa using hall
      have hBB : B = false := by rw [hB]; unfold barB; rw [hall]; simp
      rw [← hB, hBB]
      rw [hall] at CA
      rw [← hnn] at CA ⊢
      clear hr hn hnn hB hall hBB
      go_enter Tryd.func22, Tryd.ntmps22
      go_wp2_with fail
      refine (within_any _ _ _ _).mono ?_
      rintro e w1 ⟨rfl, rfl⟩
      go_wp2_with fail
      refine CA.out.mono ?_
      rintro e w2 ⟨rfl, he⟩
      have HX := Lib.hid he
      clear he
      go_wp2_with fail
      go_ret
      exact ⟨rfl, HX.out⟩
  · have hlen : inB n 1 12 = false := by simpa using hlen
    have hBB : B = false := by rw [hB]; unfold barB; rw [← hnn, hlen]; rfl
    rw [← hB, hBB]
    rw [← hnn]
    clear hr hn hnn hB hBB
    go_enter Tryd.func22, Tryd.ntmps22
    go_wp2_with fail
    refine (within_any _ _ _ _).mono ?_
    rintro e w1 ⟨rfl, rfl⟩
    go_wp2_with fail
    go_ret
    exact ⟨rfl, Ext.refl _⟩
end Go.Proofs.YtedfmjijemcpaaaDoor
