/- Contracts of QuantizeError, MostError, PartQuantize and ShiftTimes. -/
import Derived.Test.YtpiaeiihacobnaaQuant
import Derived.Lib.MinMax
namespace Go.Proofs.Ytpiaeiihacobnaa
open Go.RowKit

/-- The distance of a time from the nearest multiple. -/
def distF (t g : Int) : Int := max (t - nearF t g) (nearF t g - t)
theorem distF_bd {t g : Int} (hg : 1 ≤ g ∧ g ≤ 1000) (_h0 : 0 ≤ t ∧ t ≤ 100000) : 0 ≤ distF t g ∧ distF t g ≤ 1000 ∧ -1000 ≤ nearF t g - t ∧ nearF t g - t ≤ 1000 := by
  have a2 : (t + (g - 1) / 2) / g * g ≤ t + (g - 1) / 2 := Int.ediv_mul_le _ (by omega)
  have a3 := Int.lt_ediv_add_one_mul_self (t + (g - 1) / 2) (show 0 < g by omega)
  rw [Int.add_mul, Int.one_mul] at a3
  unfold distF nearF
  omega

theorem distS_any (a b : Int) (w : World) (ha : 0 ≤ a ∧ a ≤ 200000) (hb : 0 ≤ b ∧ b ≤ 200000) :
    Calls Try.prog 45 #[.int .i64 a, .int .i64 b] w fun e w' => e = .returned (.int .i64 (max (a - b) (b - a))) ∧ w = w' := by
  go_enter Try.func45, Try.ntmps45
  go_wp2
  go_ret
  exact ⟨rfl, rfl⟩

set_option maxHeartbeats 400000 in
theorem errors_any (A : Option Addr) (c : Nat) (xs : List Int) (g : Int) (w : World) (hr : RdI w A xs) (hn : xs.length ≤ 1048576) (hx : ∀ x ∈ xs, 0 ≤ x ∧ x ≤ 100000) (hg : 1 ≤ g ∧ g ≤ 1000) :
    Calls Try.prog 48 #[.slice A xs.length c, .int .i64 g] w (RetI w (xs.map fun x => distF x g)) := by
  have e : (xs.map fun x => distF x g) = xs.map fun x => max (nearF x g - x) (-(nearF x g - x)) := by
    apply List.map_congr_left
    intro x _
    unfold distF
    omega
  rw [e]
  obtain ⟨m, hm⟩ : ∃ m, m = xs.length := ⟨_, rfl⟩
  rw [← hm] at hn ⊢
  have HM := Lib.hid hm
  have HR := Lib.hid hr
  have HF := Lib.hid hx
  obtain ⟨ys, hys⟩ : ∃ ys, ys = xs.map fun x => max (nearF x g - x) (-(nearF x g - x)) := ⟨_, rfl⟩
  rw [← hys]
  have HY := Lib.hid hys
  clear hm hr hys hx e
  go_enter Try.func48, Try.ntmps48
  go_wp2
  go_loopw [5, 11] (fun v i wr => ∃ (k : Nat) (A' : Option Addr) (c' : Nat), k ≤ m ∧ i = .int .i64 k ∧ v = .slice A' k c' ∧ Hid (OwI wr w.heap.size A' c' (ys.take k)) ∧ Hid (Ext w wr)) (fun _ i _ => m - (intOf i).toNat)
  case atStart => exact ⟨0, _, _, Nat.zero_le _, rfl, rfl, by rw [List.take_zero]; exact OwI.nil w _, Ext.refl w⟩
  case round =>
    obtain ⟨k, A', c', hk, rfl, rfl, HO, HE⟩ := hrel
    by_cases hlt : k < m
    · have hkx : k < xs.length := by rw [← HM.out]; exact hlt
      obtain ⟨b, o, hA, hc⟩ := (HR.out.ext HE.out).at_ k hkx
      subst hA
      obtain ⟨x, hx⟩ : ∃ x, x = xs.getD k 0 := ⟨_, rfl⟩
      rw [← hx] at hc
      have hxm : x ∈ xs := by rw [hx]; simp [List.getD, hkx]
      have HXM := Lib.hid hxm
      have HX := Lib.hid hx
      have HK := Lib.hid hkx
      clear hx hkx hxm
      (have hb := HF.out x HXM.out); have hd := (distF_bd hg hb).2.2
      go_wp2_with (first | (go_at_call 51; refine (nearI_any _ _ _ hg.1 hg.2 hb.1 hb.2).mono ?_; rintro e w' ⟨rfl, rfl⟩) | (at_builtin; refine app_int w _ rfl _ _ rfl _ _ _ _ _ rfl rfl ?c1 HO.out HE.out ?c2 ?c3))
      case c1 => have := HK.out; have := HY.out; subst this; simp; omega
      case c2 => omega
      intro A2 c2 w2 ho he
      have HO2 := Lib.hid ho
      have HE2 := Lib.hid he
      clear ho he
      go_wp2
      go_roundw
      case rel =>
        refine ⟨k + 1, A2, c2, by omega, by go_num, rfl, ?_, HE2⟩
        rw [take_snoc ys k (by rw [HY.out, List.length_map]; exact HK.out), HY.out, getD_map _ _ _ HK.out, ← HX.out, ← HY.out]; exact HO2
      case measure => simp [intOf]; omega
    · obtain rfl : k = m := by omega
      have hl : k = ys.length := by rw [HY.out, List.length_map]; exact HM.out
      have ho := HO.out
      rw [take_all ys k hl] at ho
      have HL := Lib.hid hl
      have HO2 := Lib.hid ho
      clear hl ho HO
      go_wp2
      go_ret
      exact ⟨A', c', by rw [HL.out]; rfl, HO2.out, HE.out⟩

/-- QuantizeError. -/
def qeF (xs : List Int) (g : Int) : Int := if tgB xs g = true then (xs.map fun x => distF x g).sum else -1
/-- The greatest of a list, or 0. -/
def maxF (xs : List Int) : Int := xs.foldl max 0
theorem maxF_snoc (xs : List Int) (x : Int) : maxF (xs ++ [x]) = max (maxF xs) x := by simp [maxF]
/-- MostError. -/
def meF (xs : List Int) (g : Int) : Int := if tgB xs g = true then maxF (xs.map fun x => distF x g) else -1

set_option maxHeartbeats 400000 in
theorem qeI_any (A : Option Addr) (c : Nat) (xs : List Int) (g : Int) (w : World) (hr : RdI w A xs) (hn : xs.length ≤ 1048576) :
    Calls Try.prog 19 #[.slice A xs.length c, .int .i64 g] w fun e w' => e = .returned (.int .i64 (qeF xs g)) ∧ Ext w w' := by
  have CT := Lib.hid (tgI_any A c xs g w hr hn)
  have HR := Lib.hid hr
  by_cases hok : tgB xs g = true
  · obtain ⟨h1, h2, h3⟩ := tgB_iff hok
    obtain ⟨ys, hys, CQ⟩ : ∃ ys, ys = (xs.map fun x => distF x g) ∧ Hid (∀ w, RdI w A xs → Calls Try.prog 48 #[.slice A xs.length c, .int .i64 g] w (RetI w ys)) := ⟨_, rfl, fun w h => errors_any A c xs g w h hn h2 h3⟩
    have e : qeF xs g = ys.sum := by unfold qeF; rw [if_pos hok, hys]
    have hb : Hid (∀ y ∈ ys, 0 ≤ y ∧ y ≤ 4294967296) := by
      intro y hy
      rw [hys] at hy
      obtain ⟨x, hx, rfl⟩ := List.mem_map.1 hy
      have := distF_bd h3 (h2 x hx)
      omega
    have hl : Hid (ys.length ≤ 1048576) := by show ys.length ≤ _; rw [hys, List.length_map]; exact hn
    rw [e]
    rw [hok] at CT
    obtain ⟨n, hnn⟩ : ∃ n, n = xs.length := ⟨_, rfl⟩
    rw [← hnn] at CT CQ ⊢
    obtain ⟨s, hs⟩ : ∃ s, s = ys.sum := ⟨_, rfl⟩
    rw [← hs]
    have HS := Lib.hid hs
    clear e hr hn hok h1 h2 h3 hnn hys hs
    go_enter Try.func19, Try.ntmps19
    go_wp2_with fail
    refine CT.out.mono ?_
    rintro e w1 ⟨rfl, he⟩
    have HX := Lib.hid he
    clear he
    go_wp2_with fail
    refine (CQ.out _ (HR.out.ext HX.out)).mono ?_
    rintro e w2 ⟨A2, c2, rfl, ho, he⟩
    have HO := Lib.hid ho
    have HX2 := Lib.hid he
    clear ho he
    go_wp2_with fail
    refine (sumOf_any _ _ ys _ HO.out.rd hl.out hb.out).mono ?_
    rintro e w3 ⟨rfl, rfl⟩
    go_wp2_with fail
    go_ret
    exact ⟨ret_int HS.out.symm, HX.out.trans HX2.out⟩
  · have hok : tgB xs g = false := by simpa using hok
    have e : qeF xs g = -1 := by unfold qeF; rw [hok]; rfl
    rw [e]
    rw [hok] at CT
    obtain ⟨n, hnn⟩ : ∃ n, n = xs.length := ⟨_, rfl⟩
    rw [← hnn] at CT ⊢
    clear e hr hn hok hnn
    go_enter Try.func19, Try.ntmps19
    go_wp2_with fail
    refine CT.out.mono ?_
    rintro e w1 ⟨rfl, he⟩
    have HX := Lib.hid he
    clear he
    go_wp2_with fail
    go_ret
    exact ⟨rfl, HX.out⟩

set_option maxHeartbeats 400000 in
theorem meI_any (A : Option Addr) (c : Nat) (xs : List Int) (g : Int) (w : World) (hr : RdI w A xs) (hn : xs.length ≤ 1048576) :
    Calls Try.prog 17 #[.slice A xs.length c, .int .i64 g] w fun e w' => e = .returned (.int .i64 (meF xs g)) ∧ Ext w w' := by
  have CT := Lib.hid (tgI_any A c xs g w hr hn)
  have HR := Lib.hid hr
  by_cases hok : tgB xs g = true
  · obtain ⟨h1, h2, h3⟩ := tgB_iff hok
    obtain ⟨ys, hys, CQ⟩ : ∃ ys, ys = (xs.map fun x => distF x g) ∧ Hid (∀ w, RdI w A xs → Calls Try.prog 48 #[.slice A xs.length c, .int .i64 g] w (RetI w ys)) := ⟨_, rfl, fun w h => errors_any A c xs g w h hn h2 h3⟩
    have e : meF xs g = maxF ys := by unfold meF; rw [if_pos hok, hys]
    have hl : ys.length ≤ 1048576 := by rw [hys, List.length_map]; exact hn
    rw [e]
    rw [hok] at CT
    obtain ⟨n, hnn⟩ : ∃ n, n = xs.length := ⟨_, rfl⟩
    rw [← hnn] at CT CQ ⊢
    obtain ⟨s, hs⟩ : ∃ s, s = maxF ys := ⟨_, rfl⟩
    rw [← hs]
    have HS := Lib.hid hs
    obtain ⟨m, hm⟩ : ∃ m, m = ys.length := ⟨_, rfl⟩
    rw [← hm] at hl
    have HM := Lib.hid hm
    clear e hr hn hok h1 h2 h3 hnn hys hs hm
    go_enter Try.func17, Try.ntmps17
    go_wp2_with fail
    refine CT.out.mono ?_
    rintro e w1 ⟨rfl, he⟩
    have HX := Lib.hid he
    clear he
    go_wp2_with fail
    refine (CQ.out _ (HR.out.ext HX.out)).mono ?_
    rintro e w2 ⟨A2, c2, rfl, ho, he⟩
    have HO := Lib.hid ho.rd
    have HX2 := Lib.hid (HX.out.trans he)
    clear ho he
    rw [← HM.out]
    go_wp2_with fail
    go_loop [5, 16] (fun s i => ∃ (k : Nat) (t : Int), k ≤ m ∧ i = .int .i64 k ∧ s = .int .i64 t ∧ Hid (t = maxF (ys.take k))) (fun _ i => m - (intOf i).toNat)
    case atStart => exact ⟨0, 0, Nat.zero_le _, rfl, rfl, rfl⟩
    case round =>
      obtain ⟨k, t, hk, rfl, rfl, HT⟩ := hrel
      by_cases hlt : k < m
      · have hkx : k < ys.length := by rw [← HM.out]; exact hlt
        obtain ⟨b, o, hA, hc⟩ := HO.out.at_ k hkx
        subst hA
        obtain ⟨x, hx⟩ : ∃ x, x = ys.getD k 0 := ⟨_, rfl⟩
        rw [← hx] at hc
        have HXX := Lib.hid hx
        have HK := Lib.hid hkx
        clear hx hkx
        go_wp2
        go_round
        case rel => exact ⟨k + 1, max t x, by omega, by go_num, rfl, by rw [take_snoc ys k HK.out, maxF_snoc, ← HT.out, ← HXX.out]; exact rfl⟩
        case measure => simp [intOf]; omega
      · obtain rfl : k = m := by omega
        go_wp2
        go_ret
        exact ⟨ret_int (by rw [HS.out, HT.out, take_all ys k HM.out]), HX2.out⟩
  · have hok : tgB xs g = false := by simpa using hok
    have e : meF xs g = -1 := by unfold meF; rw [hok]; rfl
    rw [e]
    rw [hok] at CT
    obtain ⟨n, hnn⟩ : ∃ n, n = xs.length := ⟨_, rfl⟩
    rw [← hnn] at CT ⊢
    clear e hr hn hok hnn
    go_enter Try.func17, Try.ntmps17
    go_wp2_with fail
    refine CT.out.mono ?_
    rintro e w1 ⟨rfl, he⟩
    have HX := Lib.hid he
    clear he
    go_wp2_with fail
    go_ret
    exact ⟨rfl, HX.out⟩
end Go.Proofs.Ytpiaeiihacobnaa
