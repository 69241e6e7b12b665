/- Contracts of the reference's QuantizeError and MostError, and of PartQuantize and ShiftTimes. -/
import Derived.Test.YtpiaeiihacobnaaQuantB
namespace Go.Proofs.Ytpiaeiihacobnaa
open Go.RowKit

set_option maxHeartbeats 400000 in
theorem qeS_any (A : Option Addr) (c : Nat) (xs : List Int) (g : Int) (w : World) (hr : RdI w A xs) (hn : xs.length ≤ 1048576) :
    Calls Try.prog 18 #[.slice A xs.length c, .int .i64 g] w fun e w' => e = .returned (.int .i64 (qeF xs g)) ∧ Ext w w' := by
  have CT := Lib.hid (tgS_any A c xs g w hr hn)
  have HR := Lib.hid hr
  by_cases hok : tgB xs g = true
  · obtain ⟨h1, h2, h3⟩ := tgB_iff hok
    have HF := Lib.hid h2
    have e : qeF xs g = (xs.map fun x => distF x g).sum := by unfold qeF; rw [if_pos hok]
    rw [e]
    rw [hok] at CT
    obtain ⟨m, hm⟩ : ∃ m, m = xs.length := ⟨_, rfl⟩
    rw [← hm] at CT hn ⊢
    have HM := Lib.hid hm
    obtain ⟨s, hs⟩ : ∃ s, s = (xs.map fun x => distF x g).sum := ⟨_, rfl⟩
    rw [← hs]
    have HS := Lib.hid hs
    clear e hr hok h1 h2 hm hs
    go_enter Try.func18, Try.ntmps18
    go_wp2_with fail
    refine CT.out.mono ?_
    rintro e w1 ⟨rfl, he⟩
    have HX := Lib.hid he
    clear he
    go_wp2_with fail
    go_loop [5, 14] (fun s i => ∃ (k : Nat) (t : Int), k ≤ m ∧ i = .int .i64 k ∧ s = .int .i64 t ∧ 0 ≤ t ∧ t ≤ k * 1000 ∧ Hid (t = ((xs.take k).map fun x => distF x g).sum)) (fun _ i => m - (intOf i).toNat)
    case atStart => exact ⟨0, 0, Nat.zero_le _, rfl, rfl, by omega, by omega, rfl⟩
    case round =>
      obtain ⟨k, t, hk, rfl, rfl, ht0, ht1, HT⟩ := hrel
      by_cases hlt : k < m
      · have hkx : k < xs.length := by rw [← HM.out]; exact hlt
        obtain ⟨b, o, hA, hc⟩ := (HR.out.ext HX.out).at_ k hkx
        subst hA
        obtain ⟨x, hx⟩ : ∃ x, x = xs.getD k 0 := ⟨_, rfl⟩
        rw [← hx] at hc
        have hb := HF.out x (by rw [hx]; simp [List.getD, hkx])
        have hd := distF_bd h3 hb
        have HD : Hid (distF x g = max (x - nearF x g) (nearF x g - x)) := rfl
        have hnb := (near_bd h3.1 h3.2 hb.1 hb.2).2.2
        rw [HD.out] at hd
        have HXX := Lib.hid hx
        have HK := Lib.hid hkx
        clear hx hkx
        go_wp2_with (first | (go_at_call 46; refine (nearS_any _ _ _ h3.1 h3.2 hb.1 hb.2).mono ?_; rintro e w' ⟨rfl, rfl⟩) | (go_at_call 45; refine (distS_any _ _ _ (by omega) (by omega)).mono ?_; rintro e w' ⟨rfl, rfl⟩))
        go_round
        case rel => exact ⟨k + 1, t + distF x g, by omega, by go_num, by rw [HD.out], by rw [HD.out]; omega, by rw [HD.out]; omega, by rw [take_snoc xs k HK.out, List.map_append, List.sum_append, ← HT.out, ← HXX.out]; simp [Hid]⟩
        case measure => simp [intOf]; omega
      · obtain rfl : k = m := by omega
        go_wp2
        go_ret
        exact ⟨ret_int (by rw [HS.out, HT.out, take_all xs k HM.out]), HX.out⟩
  · have hok : tgB xs g = false := by simpa using hok
    have e : qeF xs g = -1 := by unfold qeF; rw [hok]; rfl
    rw [e]
    rw [hok] at CT
    obtain ⟨n, hnn⟩ : ∃ n, n = xs.length := ⟨_, rfl⟩
    rw [← hnn] at CT ⊢
    clear e hr hn hok hnn
    go_enter Try.func18, Try.ntmps18
    go_wp2_with fail
    refine CT.out.mono ?_
    rintro e w1 ⟨rfl, he⟩
    have HX := Lib.hid he
    clear he
    go_wp2_with fail
    go_ret
    exact ⟨rfl, HX.out⟩

set_option maxHeartbeats 400000 in
theorem meS_any (A : Option Addr) (c : Nat) (xs : List Int) (g : Int) (w : World) (hr : RdI w A xs) (hn : xs.length ≤ 1048576) :
    Calls Try.prog 16 #[.slice A xs.length c, .int .i64 g] w fun e w' => e = .returned (.int .i64 (meF xs g)) ∧ Ext w w' := by
  have CT := Lib.hid (tgS_any A c xs g w hr hn)
  have HR := Lib.hid hr
  by_cases hok : tgB xs g = true
  · obtain ⟨h1, h2, h3⟩ := tgB_iff hok
    have HF := Lib.hid h2
    have e : meF xs g = maxF (xs.map fun x => distF x g) := by unfold meF; rw [if_pos hok]
    rw [e]
    rw [hok] at CT
    obtain ⟨m, hm⟩ : ∃ m, m = xs.length := ⟨_, rfl⟩
    rw [← hm] at CT hn ⊢
    have HM := Lib.hid hm
    obtain ⟨s, hs⟩ : ∃ s, s = maxF (xs.map fun x => distF x g) := ⟨_, rfl⟩
    rw [← hs]
    have HS := Lib.hid hs
    clear e hr hok h1 h2 hm hs
    go_enter Try.func16, Try.ntmps16
    go_wp2_with fail
    refine CT.out.mono ?_
    rintro e w1 ⟨rfl, he⟩
    have HX := Lib.hid he
    clear he
    go_wp2_with fail
    go_loop [5, 14] (fun s i => ∃ (k : Nat) (t : Int), k ≤ m ∧ i = .int .i64 k ∧ s = .int .i64 t ∧ Hid (t = maxF ((xs.take k).map fun x => distF x g))) (fun _ i => m - (intOf i).toNat)
    case atStart => exact ⟨0, 0, Nat.zero_le _, rfl, rfl, rfl⟩
    case round =>
      obtain ⟨k, t, hk, rfl, rfl, HT⟩ := hrel
      by_cases hlt : k < m
      · have hkx : k < xs.length := by rw [← HM.out]; exact hlt
        obtain ⟨b, o, hA, hc⟩ := (HR.out.ext HX.out).at_ k hkx
        subst hA
        obtain ⟨x, hx⟩ : ∃ x, x = xs.getD k 0 := ⟨_, rfl⟩
        rw [← hx] at hc
        have hb := HF.out x (by rw [hx]; simp [List.getD, hkx])
        have HD : Hid (distF x g = max (x - nearF x g) (nearF x g - x)) := rfl
        have hnb := (near_bd h3.1 h3.2 hb.1 hb.2).2.2
        have HXX := Lib.hid hx
        have HK := Lib.hid hkx
        clear hx hkx
        go_wp2_with (first | (go_at_call 46; refine (nearS_any _ _ _ h3.1 h3.2 hb.1 hb.2).mono ?_; rintro e w' ⟨rfl, rfl⟩) | (go_at_call 45; refine (distS_any _ _ _ (by omega) (by omega)).mono ?_; rintro e w' ⟨rfl, rfl⟩))
        go_round
        case rel => exact ⟨k + 1, max t (distF x g), by omega, by go_num, by rw [HD.out], by rw [take_snoc xs k HK.out, List.map_append, List.map_cons, List.map_nil, maxF_snoc, ← HT.out, ← HXX.out]; exact rfl⟩
        case measure => simp [intOf]; omega
      · obtain rfl : k = m := by omega
        go_wp2
        go_ret
        exact ⟨ret_int (by rw [HS.out, HT.out, take_all xs k HM.out]), HX.out⟩
  · have hok : tgB xs g = false := by simpa using hok
    have e : meF xs g = -1 := by unfold meF; rw [hok]; rfl
    rw [e]
    rw [hok] at CT
    obtain ⟨n, hnn⟩ : ∃ n, n = xs.length := ⟨_, rfl⟩
    rw [← hnn] at CT ⊢
    clear e hr hn hok hnn
    go_enter Try.func16, Try.ntmps16
    go_wp2_with fail
    refine CT.out.mono ?_
    rintro e w1 ⟨rfl, he⟩
    have HX := Lib.hid he
    clear he
    go_wp2_with fail
    go_ret
    exact ⟨rfl, HX.out⟩
end Go.Proofs.Ytpiaeiihacobnaa
