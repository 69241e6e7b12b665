/- Contracts of Quantize, QuantizeError, MostError, PartQuantize and ShiftTimes. -/
import Derived.Test.YtpiaeiihacobnaaTimes
namespace Go.Proofs.Ytpiaeiihacobnaa
open Go.RowKit

set_option maxHeartbeats 400000 in
theorem quantdS_any (A : Option Addr) (c : Nat) (xs : List Int) (g : Int) (w : World) (hr : RdI w A xs) (hn : xs.length ≤ 1048576) (hx : ∀ x ∈ xs, 0 ≤ x ∧ x ≤ 100000) (hg : 1 ≤ g ∧ g ≤ 1000) :
    Calls Try.prog 52 #[.slice A xs.length c, .int .i64 g] w (RetI w (xs.map fun x => nearF x g)) := by
  obtain ⟨m, hm⟩ : ∃ m, m = xs.length := ⟨_, rfl⟩
  rw [← hm] at hn ⊢
  have HM := Lib.hid hm
  have HR := Lib.hid hr
  have HF := Lib.hid hx
  obtain ⟨ys, hys⟩ : ∃ ys, ys = xs.map fun x => nearF x g := ⟨_, rfl⟩
  rw [← hys]
  have HY := Lib.hid hys
  clear hm hr hys hx
  go_enter Try.func52, Try.ntmps52
  go_wp2
  go_loopw [5, 11] (fun v i wr => ∃ (k : Nat) (A' : Option Addr) (c' : Nat), k ≤ m ∧ i = .int .i64 k ∧ v = .slice A' k c' ∧ Hid (OwI wr w.heap.size A' c' (ys.take k)) ∧ Hid (Ext w wr)) (fun _ i _ => m - (intOf i).toNat)
  case atStart => exact ⟨0, _, _, Nat.zero_le _, rfl, rfl, by rw [List.take_zero]; exact OwI.empty w, (Ext.refl w).alloc _⟩
  case round =>
    obtain ⟨k, A', c', hk, rfl, rfl, HO, HE⟩ := hrel
    by_cases hlt : k < m
    · have hkx : k < xs.length := by rw [← HM.out]; exact hlt
      obtain ⟨b, o, hA, hc⟩ := (HR.out.ext HE.out).at_ k hkx
      subst hA
      obtain ⟨x, hx⟩ : ∃ x, x = xs.getD k 0 := ⟨_, rfl⟩
      rw [← hx] at hc
      have hxm : x ∈ xs := by rw [hx]; simp [List.getD, hkx]
      have HXM := Lib.hid hxm
      have HX := Lib.hid hx
      have HK := Lib.hid hkx
      clear hx hkx hxm
      have hb := HF.out x HXM.out
      go_wp2_with (first | (go_at_call 46; refine (nearS_any _ _ _ hg.1 hg.2 hb.1 hb.2).mono ?_; rintro e w' ⟨rfl, rfl⟩) | (at_builtin; refine app_int w _ rfl _ _ rfl _ _ _ _ _ rfl rfl ?c1 HO.out HE.out ?c2 ?c3))
      case c1 => have := HK.out; have := HY.out; subst this; simp; omega
      case c2 => omega
      intro A2 c2 w2 ho he
      have HO2 := Lib.hid ho
      have HE2 := Lib.hid he
      clear ho he
      go_wp2
      go_roundw
      case rel =>
        refine ⟨k + 1, A2, c2, by omega, by go_num, rfl, ?_, HE2⟩
        rw [take_snoc ys k (by rw [HY.out, List.length_map]; exact HK.out), HY.out, getD_map _ _ _ HK.out, ← HX.out, ← HY.out]; exact HO2
      case measure => simp [intOf]; omega
    · obtain rfl : k = m := by omega
      have hl : k = ys.length := by rw [HY.out, List.length_map]; exact HM.out
      have ho := HO.out
      rw [take_all ys k hl] at ho
      have HL := Lib.hid hl
      have HO2 := Lib.hid ho
      clear hl ho HO
      go_wp2
      go_ret
      exact ⟨A', c', by rw [HL.out]; rfl, HO2.out, HE.out⟩
set_option maxHeartbeats 400000 in
theorem quantdI_any (A : Option Addr) (c : Nat) (xs : List Int) (g : Int) (w : World) (hr : RdI w A xs) (hn : xs.length ≤ 1048576) (hx : ∀ x ∈ xs, 0 ≤ x ∧ x ≤ 100000) (hg : 1 ≤ g ∧ g ≤ 1000) :
    Calls Try.prog 53 #[.slice A xs.length c, .int .i64 g] w (RetI w (xs.map fun x => nearF x g)) := by
  obtain ⟨m, hm⟩ : ∃ m, m = xs.length := ⟨_, rfl⟩
  rw [← hm] at hn ⊢
  have HM := Lib.hid hm
  have HR := Lib.hid hr
  have HF := Lib.hid hx
  obtain ⟨ys, hys⟩ : ∃ ys, ys = xs.map fun x => nearF x g := ⟨_, rfl⟩
  rw [← hys]
  have HY := Lib.hid hys
  clear hm hr hys hx
  go_enter Try.func53, Try.ntmps53
  go_wp2
  go_loopw [5, 10] (fun v i wr => ∃ (k : Nat) (A' : Option Addr) (c' : Nat), k ≤ m ∧ i = .int .i64 k ∧ v = .slice A' k c' ∧ Hid (OwI wr w.heap.size A' c' (ys.take k)) ∧ Hid (Ext w wr)) (fun _ i _ => m - (intOf i).toNat)
  case atStart => exact ⟨0, _, _, Nat.zero_le _, rfl, rfl, by rw [List.take_zero]; exact OwI.nil w _, Ext.refl w⟩
  case round =>
    obtain ⟨k, A', c', hk, rfl, rfl, HO, HE⟩ := hrel
    by_cases hlt : k < m
    · have hkx : k < xs.length := by rw [← HM.out]; exact hlt
      obtain ⟨b, o, hA, hc⟩ := (HR.out.ext HE.out).at_ k hkx
      subst hA
      obtain ⟨x, hx⟩ : ∃ x, x = xs.getD k 0 := ⟨_, rfl⟩
      rw [← hx] at hc
      have hxm : x ∈ xs := by rw [hx]; simp [List.getD, hkx]
      have HXM := Lib.hid hxm
      have HX := Lib.hid hx
      have HK := Lib.hid hkx
      clear hx hkx hxm
      have hb := HF.out x HXM.out
      go_wp2_with (first | (go_at_call 51; refine (nearI_any _ _ _ hg.1 hg.2 hb.1 hb.2).mono ?_; rintro e w' ⟨rfl, rfl⟩) | (at_builtin; refine app_int w _ rfl _ _ rfl _ _ _ _ _ rfl rfl ?c1 HO.out HE.out ?c2 ?c3))
      case c1 => have := HK.out; have := HY.out; subst this; simp; omega
      case c2 => omega
      intro A2 c2 w2 ho he
      have HO2 := Lib.hid ho
      have HE2 := Lib.hid he
      clear ho he
      go_wp2
      go_roundw
      case rel =>
        refine ⟨k + 1, A2, c2, by omega, by go_num, rfl, ?_, HE2⟩
        rw [take_snoc ys k (by rw [HY.out, List.length_map]; exact HK.out), HY.out, getD_map _ _ _ HK.out, ← HX.out, ← HY.out]; exact HO2
      case measure => simp [intOf]; omega
    · obtain rfl : k = m := by omega
      have hl : k = ys.length := by rw [HY.out, List.length_map]; exact HM.out
      have ho := HO.out
      rw [take_all ys k hl] at ho
      have HL := Lib.hid hl
      have HO2 := Lib.hid ho
      clear hl ho HO
      go_wp2
      go_ret
      exact ⟨A', c', by rw [HL.out]; rfl, HO2.out, HE.out⟩

/-- Quantize. -/
def quantF (xs : List Int) (g : Int) : List Int := if tgB xs g = true then xs.map fun x => nearF x g else []
theorem quantS_any (A : Option Addr) (c : Nat) (xs : List Int) (g : Int) (w : World) (hr : RdI w A xs) (hn : xs.length ≤ 1048576) :
    Calls Try.prog 24 #[.slice A xs.length c, .int .i64 g] w (RetIB w (quantF xs g) (tgB xs g)) := by
  have CT := Lib.hid (tgS_any A c xs g w hr hn)
  have HR := Lib.hid hr
  by_cases hok : tgB xs g = true
  · obtain ⟨h1, h2, h3⟩ := tgB_iff hok
    obtain ⟨ys, hys, CQ⟩ : ∃ ys, ys = (xs.map fun x => nearF x g) ∧ Hid (∀ w, RdI w A xs → Calls Try.prog 52 #[.slice A xs.length c, .int .i64 g] w (RetI w ys)) := ⟨_, rfl, fun w h => quantdS_any A c xs g w h hn h2 h3⟩
    have e : quantF xs g = ys := by unfold quantF; rw [if_pos hok, hys]
    rw [e, hok]
    rw [hok] at CT
    obtain ⟨n, hnn⟩ : ∃ n, n = xs.length := ⟨_, rfl⟩
    rw [← hnn] at CT CQ ⊢
    clear e hr hn hok h1 h2 h3 hnn hys
    go_enter Try.func24, Try.ntmps24
    go_wp2_with fail
    refine CT.out.mono ?_
    rintro e w1 ⟨rfl, he⟩
    have HX := Lib.hid he
    clear he
    go_wp2_with fail
    refine (CQ.out _ (HR.out.ext HX.out)).mono ?_
    rintro e w2 ⟨A2, c2, rfl, ho, he⟩
    have HO := Lib.hid ho
    have HX2 := Lib.hid he
    clear ho he
    go_wp2_with fail
    go_ret2
    exact ⟨A2, c2, rfl, HO.out.lower HX.out.size, HX.out.trans HX2.out⟩
  · have hok : tgB xs g = false := by simpa using hok
    have e : quantF xs g = [] := by unfold quantF; rw [hok]; rfl
    rw [e, hok]
    rw [hok] at CT
    obtain ⟨n, hnn⟩ : ∃ n, n = xs.length := ⟨_, rfl⟩
    rw [← hnn] at CT ⊢
    clear e hr hn hok hnn
    go_enter Try.func24, Try.ntmps24
    go_wp2_with fail
    refine CT.out.mono ?_
    rintro e w1 ⟨rfl, he⟩
    have HX := Lib.hid he
    clear he
    go_wp2_with fail
    go_ret2
    exact ⟨none, 0, rfl, OwI.nil _ _, HX.out⟩
theorem quantI_any (A : Option Addr) (c : Nat) (xs : List Int) (g : Int) (w : World) (hr : RdI w A xs) (hn : xs.length ≤ 1048576) :
    Calls Try.prog 25 #[.slice A xs.length c, .int .i64 g] w (RetIB w (quantF xs g) (tgB xs g)) := by
  have CT := Lib.hid (tgI_any A c xs g w hr hn)
  have HR := Lib.hid hr
  by_cases hok : tgB xs g = true
  · obtain ⟨h1, h2, h3⟩ := tgB_iff hok
    obtain ⟨ys, hys, CQ⟩ : ∃ ys, ys = (xs.map fun x => nearF x g) ∧ Hid (∀ w, RdI w A xs → Calls Try.prog 53 #[.slice A xs.length c, .int .i64 g] w (RetI w ys)) := ⟨_, rfl, fun w h => quantdI_any A c xs g w h hn h2 h3⟩
    have e : quantF xs g = ys := by unfold quantF; rw [if_pos hok, hys]
    rw [e, hok]
    rw [hok] at CT
    obtain ⟨n, hnn⟩ : ∃ n, n = xs.length := ⟨_, rfl⟩
    rw [← hnn] at CT CQ ⊢
    clear e hr hn hok h1 h2 h3 hnn hys
    go_enter Try.func25, Try.ntmps25
    go_wp2_with fail
    refine CT.out.mono ?_
    rintro e w1 ⟨rfl, he⟩
    have HX := Lib.hid he
    clear he
    go_wp2_with fail
    refine (CQ.out _ (HR.out.ext HX.out)).mono ?_
    rintro e w2 ⟨A2, c2, rfl, ho, he⟩
    have HO := Lib.hid ho
    have HX2 := Lib.hid he
    clear ho he
    go_wp2_with fail
    go_ret2
    exact ⟨A2, c2, rfl, HO.out.lower HX.out.size, HX.out.trans HX2.out⟩
  · have hok : tgB xs g = false := by simpa using hok
    have e : quantF xs g = [] := by unfold quantF; rw [hok]; rfl
    rw [e, hok]
    rw [hok] at CT
    obtain ⟨n, hnn⟩ : ∃ n, n = xs.length := ⟨_, rfl⟩
    rw [← hnn] at CT ⊢
    clear e hr hn hok hnn
    go_enter Try.func25, Try.ntmps25
    go_wp2_with fail
    refine CT.out.mono ?_
    rintro e w1 ⟨rfl, he⟩
    have HX := Lib.hid he
    clear he
    go_wp2_with fail
    go_ret2
    exact ⟨none, 0, rfl, OwI.nil _ _, HX.out⟩
end Go.Proofs.Ytpiaeiihacobnaa
