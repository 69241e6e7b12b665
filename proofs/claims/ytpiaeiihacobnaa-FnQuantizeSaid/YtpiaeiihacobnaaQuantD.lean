/- Contracts of PartQuantize and ShiftTimes. -/
import Derived.Test.YtpiaeiihacobnaaQuantB
namespace Go.Proofs.Ytpiaeiihacobnaa
open Go.RowKit

/-- One time on its way to the nearest multiple. -/
def partF (g p x : Int) : Int := x + ((nearF x g - x) * p).tdiv 100
theorem part_bd {x g p : Int} (hg : 1 ≤ g ∧ g ≤ 1000) (hx : 0 ≤ x ∧ x ≤ 100000) (hp : 0 ≤ p ∧ p ≤ 100) :
    (-1000 ≤ nearF x g - x ∧ nearF x g - x ≤ 1000) ∧ (-100000 ≤ (nearF x g - x) * p ∧ (nearF x g - x) * p ≤ 100000) ∧ -1000 ≤ ((nearF x g - x) * p).tdiv 100 ∧ ((nearF x g - x) * p).tdiv 100 ≤ 1000 := by
  have h := (distF_bd hg hx).2.2
  generalize nearF x g - x = d at h
  have h1 : d * p ≤ 1000 * p := Int.mul_le_mul_of_nonneg_right h.2 hp.1
  have h2 : (-1000) * p ≤ d * p := Int.mul_le_mul_of_nonneg_right h.1 hp.1
  have h3 : -100000 ≤ d * p ∧ d * p ≤ 100000 := by omega
  refine ⟨h, h3, ?_⟩
  generalize d * p = m at h3
  rcases Int.le_total 0 m with h0 | h0
  · rw [Int.tdiv_eq_ediv_of_nonneg h0]; omega
  · have : m.tdiv 100 = -((-m) / 100) := by rw [← Int.tdiv_eq_ediv_of_nonneg (by omega), Int.neg_tdiv]; omega
    rw [this]; omega

/-- PartQuantize. -/
def pqB (xs : List Int) (g p : Int) : Bool := tgB xs g && inB p 0 100
def pqF (xs : List Int) (g p : Int) : List Int := if pqB xs g p = true then xs.map (partF g p) else []

set_option maxHeartbeats 400000 in
theorem pqS_any (A : Option Addr) (c : Nat) (xs : List Int) (g p : Int) (w : World) (hr : RdI w A xs) (hn : xs.length ≤ 1048576) :
    Calls Try.prog 20 #[.slice A xs.length c, .int .i64 g, .int .i64 p] w (RetIB w (pqF xs g p) (pqB xs g p)) := by
  have CT := Lib.hid (tgS_any A c xs g w hr hn)
  have HR := Lib.hid hr
  by_cases hok : tgB xs g = true
  · obtain ⟨h1, h2, h3⟩ := tgB_iff hok
    by_cases hp : inB p 0 100 = true
    · have hp' := inB_iff.1 hp
      have HF := Lib.hid h2
      obtain ⟨ys, hys⟩ : ∃ ys, ys = xs.map (partF g p) := ⟨_, rfl⟩
      have e : pqF xs g p = ys := by unfold pqF pqB; rw [hok, hp]; exact hys.symm
      have e2 : pqB xs g p = true := by unfold pqB; rw [hok, hp]; rfl
      rw [e, e2]
      rw [hok] at CT
      have HY := Lib.hid hys
      obtain ⟨m, hm⟩ : ∃ m, m = xs.length := ⟨_, rfl⟩
      rw [← hm] at CT hn ⊢
      have HM := Lib.hid hm
      clear e e2 hr hok h1 h2 hm hys
      go_enter Try.func20, Try.ntmps20
      go_wp2_with fail
      refine CT.out.mono ?_
      rintro e w1 ⟨rfl, he⟩
      have HX := Lib.hid he
      clear he
      go_wp2_with fail
      refine (l01In_any _ _ _ _).mono ?_
      rintro e w2 ⟨rfl, rfl⟩
      go_wp2_with fail
      go_loopw [8, 23] (fun v i wr => ∃ (k : Nat) (A' : Option Addr) (c' : Nat), k ≤ m ∧ i = .int .i64 k ∧ v = .slice A' k c' ∧ Hid (OwI wr w.heap.size A' c' (ys.take k)) ∧ Hid (Ext w wr)) (fun _ i _ => m - (intOf i).toNat)
      case atStart => exact ⟨0, _, _, Nat.zero_le _, rfl, rfl, by rw [List.take_zero]; exact OwI.lower (OwI.empty _) HX.out.size, HX.out.alloc _⟩
      case round =>
        obtain ⟨k, A', c', hk, rfl, rfl, HO, HE⟩ := hrel
        by_cases hlt : k < m
        · have hkx : k < xs.length := by rw [← HM.out]; exact hlt
          obtain ⟨b, o, hA, hc⟩ := (HR.out.ext HE.out).at_ k hkx
          subst hA
          obtain ⟨x, hx⟩ : ∃ x, x = xs.getD k 0 := ⟨_, rfl⟩
          rw [← hx] at hc
          have hxm : x ∈ xs := by rw [hx]; simp [List.getD, hkx]
          have HXM := Lib.hid hxm
          have HX := Lib.hid hx
          have HK := Lib.hid hkx
          clear hx hkx hxm
          (have hb := HF.out x HXM.out); (have hd := part_bd h3 hb hp'); have hnb := (near_bd h3.1 h3.2 hb.1 hb.2).2.2
          go_wp2_with (first | (go_at_call 46; refine (nearS_any _ _ _ h3.1 h3.2 hb.1 hb.2).mono ?_; rintro e w' ⟨rfl, rfl⟩) | (at_builtin; refine app_int w _ rfl _ _ rfl _ _ _ _ _ rfl rfl ?c1 HO.out HE.out ?c2 ?c3))
          case c1 => have := HK.out; have := HY.out; subst this; simp; omega
          case c2 => omega
          intro A2 c2 w2 ho he
          have HO2 := Lib.hid ho
          have HE2 := Lib.hid he
          clear ho he
          go_wp2
          go_roundw
          case rel =>
            refine ⟨k + 1, A2, c2, by omega, by go_num, rfl, ?_, HE2⟩
            rw [take_snoc ys k (by rw [HY.out, List.length_map]; exact HK.out), HY.out, getD_map _ _ _ HK.out, ← HX.out, ← HY.out]; exact HO2
          case measure => simp [intOf]; omega
        · obtain rfl : k = m := by omega
          have hl : k = ys.length := by rw [HY.out, List.length_map]; exact HM.out
          have ho := HO.out
          rw [take_all ys k hl] at ho
          have HL := Lib.hid hl
          have HO2 := Lib.hid ho
          clear hl ho HO
          go_wp2
          go_ret2
          exact ⟨A', c', by rw [HL.out]; rfl, HO2.out, HE.out⟩
    · have hp : inB p 0 100 = false := by simpa using hp
      have e : pqF xs g p = [] := by unfold pqF pqB; rw [hok, hp]; rfl
      have e2 : pqB xs g p = false := by unfold pqB; rw [hok, hp]; rfl
      rw [e, e2]
      rw [hok] at CT
      obtain ⟨m, hm⟩ : ∃ m, m = xs.length := ⟨_, rfl⟩
      rw [← hm] at CT hn ⊢
      clear e e2 hr hok h1 h2 hm
      go_enter Try.func20, Try.ntmps20
      go_wp2_with fail
      refine CT.out.mono ?_
      rintro e w1 ⟨rfl, he⟩
      have HX := Lib.hid he
      clear he
      go_wp2_with fail
      refine (l01In_any _ _ _ _).mono ?_
      rintro e w2 ⟨rfl, rfl⟩
      go_wp2_with fail
      go_ret2
      exact ⟨none, 0, rfl, OwI.nil _ _, HX.out⟩
  · have hok : tgB xs g = false := by simpa using hok
    have e : pqF xs g p = [] := by unfold pqF pqB; rw [hok]; rfl
    have e2 : pqB xs g p = false := by unfold pqB; rw [hok]; rfl
    rw [e, e2]
    rw [hok] at CT
    obtain ⟨n, hnn⟩ : ∃ n, n = xs.length := ⟨_, rfl⟩
    rw [← hnn] at CT ⊢
    clear e e2 hr hn hok hnn
    go_enter Try.func20, Try.ntmps20
    go_wp2_with fail
    refine CT.out.mono ?_
    rintro e w1 ⟨rfl, he⟩
    have HX := Lib.hid he
    clear he
    go_wp2_with fail
    go_ret2
    exact ⟨none, 0, rfl, OwI.nil _ _, HX.out⟩
set_option maxHeartbeats 400000 in
theorem pqI_any (A : Option Addr) (c : Nat) (xs : List Int) (g p : Int) (w : World) (hr : RdI w A xs) (hn : xs.length ≤ 1048576) :
    Calls Try.prog 21 #[.slice A xs.length c, .int .i64 g, .int .i64 p] w (RetIB w (pqF xs g p) (pqB xs g p)) := by
  have CT := Lib.hid (tgI_any A c xs g w hr hn)
  have HR := Lib.hid hr
  by_cases hok : tgB xs g = true
  · obtain ⟨h1, h2, h3⟩ := tgB_iff hok
    by_cases hp : inB p 0 100 = true
    · have hp' := inB_iff.1 hp
      have HF := Lib.hid h2
      obtain ⟨ys, hys⟩ : ∃ ys, ys = xs.map (partF g p) := ⟨_, rfl⟩
      have e : pqF xs g p = ys := by unfold pqF pqB; rw [hok, hp]; exact hys.symm
      have e2 : pqB xs g p = true := by unfold pqB; rw [hok, hp]; rfl
      rw [e, e2]
      rw [hok] at CT
      have HY := Lib.hid hys
      obtain ⟨m, hm⟩ : ∃ m, m = xs.length := ⟨_, rfl⟩
      rw [← hm] at CT hn ⊢
      have HM := Lib.hid hm
      clear e e2 hr hok h1 h2 hm hys
      go_enter Try.func21, Try.ntmps21
      go_wp2_with fail
      refine CT.out.mono ?_
      rintro e w1 ⟨rfl, he⟩
      have HX := Lib.hid he
      clear he
      go_wp2_with fail
      refine (within_any _ _ _ _).mono ?_
      rintro e w2 ⟨rfl, rfl⟩
      go_wp2_with fail
      go_loopw [8, 22] (fun v i wr => ∃ (k : Nat) (A' : Option Addr) (c' : Nat), k ≤ m ∧ i = .int .i64 k ∧ v = .slice A' k c' ∧ Hid (OwI wr w.heap.size A' c' (ys.take k)) ∧ Hid (Ext w wr)) (fun _ i _ => m - (intOf i).toNat)
      case atStart => exact ⟨0, _, _, Nat.zero_le _, rfl, rfl, by rw [List.take_zero]; exact OwI.nil _ _, HX.out⟩
      case round =>
        obtain ⟨k, A', c', hk, rfl, rfl, HO, HE⟩ := hrel
        by_cases hlt : k < m
        · have hkx : k < xs.length := by rw [← HM.out]; exact hlt
          obtain ⟨b, o, hA, hc⟩ := (HR.out.ext HE.out).at_ k hkx
          subst hA
          obtain ⟨x, hx⟩ : ∃ x, x = xs.getD k 0 := ⟨_, rfl⟩
          rw [← hx] at hc
          have hxm : x ∈ xs := by rw [hx]; simp [List.getD, hkx]
          have HXM := Lib.hid hxm
          have HX := Lib.hid hx
          have HK := Lib.hid hkx
          clear hx hkx hxm
          (have hb := HF.out x HXM.out); (have hd := part_bd h3 hb hp'); have hnb := (near_bd h3.1 h3.2 hb.1 hb.2).2.2
          go_wp2_with (first | (go_at_call 51; refine (nearI_any _ _ _ h3.1 h3.2 hb.1 hb.2).mono ?_; rintro e w' ⟨rfl, rfl⟩) | (at_builtin; refine app_int w _ rfl _ _ rfl _ _ _ _ _ rfl rfl ?c1 HO.out HE.out ?c2 ?c3))
          case c1 => have := HK.out; have := HY.out; subst this; simp; omega
          case c2 => omega
          intro A2 c2 w2 ho he
          have HO2 := Lib.hid ho
          have HE2 := Lib.hid he
          clear ho he
          go_wp2
          go_roundw
          case rel =>
            refine ⟨k + 1, A2, c2, by omega, by go_num, rfl, ?_, HE2⟩
            rw [take_snoc ys k (by rw [HY.out, List.length_map]; exact HK.out), HY.out, getD_map _ _ _ HK.out, ← HX.out, ← HY.out]; exact HO2
          case measure => simp [intOf]; omega
        · obtain rfl : k = m := by omega
          have hl : k = ys.length := by rw [HY.out, List.length_map]; exact HM.out
          have ho := HO.out
          rw [take_all ys k hl] at ho
          have HL := Lib.hid hl
          have HO2 := Lib.hid ho
          clear hl ho HO
          go_wp2
          go_ret2
          exact ⟨A', c', by rw [HL.out]; rfl, HO2.out, HE.out⟩
    · have hp : inB p 0 100 = false := by simpa using hp
      have e : pqF xs g p = [] := by unfold pqF pqB; rw [hok, hp]; rfl
      have e2 : pqB xs g p = false := by unfold pqB; rw [hok, hp]; rfl
      rw [e, e2]
      rw [hok] at CT
      obtain ⟨m, hm⟩ : ∃ m, m = xs.length := ⟨_, rfl⟩
      rw [← hm] at CT hn ⊢
      clear e e2 hr hok h1 h2 hm
      go_enter Try.func21, Try.ntmps21
      go_wp2_with fail
      refine CT.out.mono ?_
      rintro e w1 ⟨rfl, he⟩
      have HX := Lib.hid he
      clear he
      go_wp2_with fail
      refine (within_any _ _ _ _).mono ?_
      rintro e w2 ⟨rfl, rfl⟩
      go_wp2_with fail
      go_ret2
      exact ⟨none, 0, rfl, OwI.nil _ _, HX.out⟩
  · have hok : tgB xs g = false := by simpa using hok
    have e : pqF xs g p = [] := by unfold pqF pqB; rw [hok]; rfl
    have e2 : pqB xs g p = false := by unfold pqB; rw [hok]; rfl
    rw [e, e2]
    rw [hok] at CT
    obtain ⟨n, hnn⟩ : ∃ n, n = xs.length := ⟨_, rfl⟩
    rw [← hnn] at CT ⊢
    clear e e2 hr hn hok hnn
    go_enter Try.func21, Try.ntmps21
    go_wp2_with fail
    refine CT.out.mono ?_
    rintro e w1 ⟨rfl, he⟩
    have HX := Lib.hid he
    clear he
    go_wp2_with fail
    go_ret2
    exact ⟨none, 0, rfl, OwI.nil _ _, HX.out⟩

/-- ShiftTimes. -/
def shB (xs : List Int) (d : Int) : Bool := timesB xs && (inB d (-100000) 100000 && timesB (xs.map (· + d)))
def shF (xs : List Int) (d : Int) : List Int := if shB xs d = true then xs.map (· + d) else []
theorem timesB_len {xs : List Int} (h : timesB xs = true) : xs.length ≤ 32 ∧ ∀ x ∈ xs, 0 ≤ x ∧ x ≤ 100000 := by
  unfold timesB at h
  simp only [Bool.and_eq_true, decide_eq_true_eq] at h
  exact ⟨h.1, fun x hx => allB_iff.1 h.2.1 x hx⟩

set_option maxHeartbeats 400000 in
theorem shS_any (A : Option Addr) (c : Nat) (xs : List Int) (d : Int) (w : World) (hr : RdI w A xs) (hn : xs.length ≤ 1048576) :
    Calls Try.prog 26 #[.slice A xs.length c, .int .i64 d] w (RetIB w (shF xs d) (shB xs d)) := by
  have CT := Lib.hid (timesS_any A c xs w hr hn)
  have HR := Lib.hid hr
  by_cases hok : timesB xs = true
  · obtain ⟨h1, h2⟩ := timesB_len hok
    by_cases hp : inB d (-100000) 100000 = true
    · have hp' := inB_iff.1 hp
      have HF := Lib.hid h2
      obtain ⟨ys, hys⟩ : ∃ ys, ys = xs.map (· + d) := ⟨_, rfl⟩
      have e : shF xs d = if timesB ys = true then ys else [] := by unfold shF shB; rw [hok, hp, ← hys]; rfl
      have e2 : shB xs d = timesB ys := by unfold shB; rw [hok, hp, ← hys]; rfl
      rw [e, e2]
      rw [hok] at CT
      have HY := Lib.hid hys
      obtain ⟨m, hm⟩ : ∃ m, m = xs.length := ⟨_, rfl⟩
      rw [← hm] at CT hn ⊢
      have HM := Lib.hid hm
      obtain ⟨bb, hbb⟩ : ∃ bb, bb = timesB ys := ⟨_, rfl⟩
      rw [← hbb]
      have HBB := Lib.hid hbb
      obtain ⟨zs, hzs⟩ : ∃ zs, zs = if bb = true then ys else [] := ⟨_, rfl⟩
      rw [← hzs]
      have HZ := Lib.hid hzs
      clear e e2 hr hok h1 h2 hm hys hbb hzs
      go_enter Try.func26, Try.ntmps26
      go_wp2_with fail
      refine CT.out.mono ?_
      rintro e w1 ⟨rfl, he⟩
      have HX := Lib.hid he
      clear he
      go_wp2_with fail
      refine (l01In_any _ _ _ _).mono ?_
      rintro e w2 ⟨rfl, rfl⟩
      go_wp2_with fail
      go_loopw [6, 20] (fun v i wr => ∃ (k : Nat) (A' : Option Addr) (c' : Nat), k ≤ m ∧ i = .int .i64 k ∧ v = .slice A' k c' ∧ Hid (OwI wr w.heap.size A' c' (ys.take k)) ∧ Hid (Ext w wr)) (fun _ i _ => m - (intOf i).toNat)
      case atStart => exact ⟨0, _, _, Nat.zero_le _, rfl, rfl, by rw [List.take_zero]; exact OwI.lower (OwI.empty _) HX.out.size, HX.out.alloc _⟩
      case round =>
        obtain ⟨k, A', c', hk, rfl, rfl, HO, HE⟩ := hrel
        by_cases hlt : k < m
        · have hkx : k < xs.length := by rw [← HM.out]; exact hlt
          obtain ⟨b, o, hA, hc⟩ := (HR.out.ext HE.out).at_ k hkx
          subst hA
          obtain ⟨x, hx⟩ : ∃ x, x = xs.getD k 0 := ⟨_, rfl⟩
          rw [← hx] at hc
          have hxm : x ∈ xs := by rw [hx]; simp [List.getD, hkx]
          have HXM := Lib.hid hxm
          have HX := Lib.hid hx
          have HK := Lib.hid hkx
          clear hx hkx hxm
          have hb := HF.out x HXM.out
          go_wp2_with (first | (at_builtin; refine app_int w _ rfl _ _ rfl _ _ _ _ _ rfl rfl ?c1 HO.out HE.out ?c2 ?c3))
          case c1 => have := HK.out; have := HY.out; subst this; simp; omega
          case c2 => omega
          intro A2 c2 w2 ho he
          have HO2 := Lib.hid ho
          have HE2 := Lib.hid he
          clear ho he
          go_wp2
          go_roundw
          case rel =>
            refine ⟨k + 1, A2, c2, by omega, by go_num, rfl, ?_, HE2⟩
            rw [take_snoc ys k (by rw [HY.out, List.length_map]; exact HK.out), HY.out, getD_map _ _ _ HK.out, ← HX.out, ← HY.out]; exact HO2
          case measure => simp [intOf]; omega
        · obtain rfl : k = m := by omega
          have hl : k = ys.length := by rw [HY.out, List.length_map]; exact HM.out
          have ho := HO.out
          rw [take_all ys k hl] at ho
          have HL := Lib.hid hl
          have HO2 := Lib.hid ho
          clear hl ho HO
          have C2 := Lib.hid (timesS_any A' c' ys wr HO2.out.rd (by rw [← HL.out]; exact hn))
          rw [← HBB.out, ← HL.out] at C2
          cases bb with
          | true =>
            go_wp2_with fail
            refine C2.out.mono ?_
            rintro e w3 ⟨rfl, he⟩
            have HX3 := Lib.hid (HE.out.trans he)
            have HO3 := Lib.hid (HO2.out.ext he)
            clear he
            go_wp2_with fail
            go_ret2
            have hz : zs = ys := HZ.out
            rw [hz]
            exact ⟨A', c', by rw [HL.out]; rfl, HO3.out, HX3.out⟩
          | false =>
            go_wp2_with fail
            refine C2.out.mono ?_
            rintro e w3 ⟨rfl, he⟩
            have HX3 := Lib.hid (HE.out.trans he)
            clear he
            go_wp2_with fail
            go_ret2
            have hz : zs = [] := HZ.out
            rw [hz]
            exact ⟨none, 0, rfl, OwI.nil _ _, HX3.out⟩
    · have hp : inB d (-100000) 100000 = false := by simpa using hp
      have e : shF xs d = [] := by unfold shF shB; rw [hok, hp]; rfl
      have e2 : shB xs d = false := by unfold shB; rw [hok, hp]; rfl
      rw [e, e2]
      rw [hok] at CT
      obtain ⟨m, hm⟩ : ∃ m, m = xs.length := ⟨_, rfl⟩
      rw [← hm] at CT hn ⊢
      clear e e2 hr hok h1 h2 hm
      go_enter Try.func26, Try.ntmps26
      go_wp2_with fail
      refine CT.out.mono ?_
      rintro e w1 ⟨rfl, he⟩
      have HX := Lib.hid he
      clear he
      go_wp2_with fail
      refine (l01In_any _ _ _ _).mono ?_
      rintro e w2 ⟨rfl, rfl⟩
      go_wp2_with fail
      go_ret2
      exact ⟨none, 0, rfl, OwI.nil _ _, HX.out⟩
  · have hok : timesB xs = false := by simpa using hok
    have e : shF xs d = [] := by unfold shF shB; rw [hok]; rfl
    have e2 : shB xs d = false := by unfold shB; rw [hok]; rfl
    rw [e, e2]
    rw [hok] at CT
    obtain ⟨n, hnn⟩ : ∃ n, n = xs.length := ⟨_, rfl⟩
    rw [← hnn] at CT ⊢
    clear e e2 hr hn hok hnn
    go_enter Try.func26, Try.ntmps26
    go_wp2_with fail
    refine CT.out.mono ?_
    rintro e w1 ⟨rfl, he⟩
    have HX := Lib.hid he
    clear he
    go_wp2_with fail
    go_ret2
    exact ⟨none, 0, rfl, OwI.nil _ _, HX.out⟩
set_option maxHeartbeats 400000 in
theorem shI_any (A : Option Addr) (c : Nat) (xs : List Int) (d : Int) (w : World) (hr : RdI w A xs) (hn : xs.length ≤ 1048576) :
    Calls Try.prog 27 #[.slice A xs.length c, .int .i64 d] w (RetIB w (shF xs d) (shB xs d)) := by
  have CT := Lib.hid (timesI_any A c xs w hr hn)
  have HR := Lib.hid hr
  by_cases hok : timesB xs = true
  · obtain ⟨h1, h2⟩ := timesB_len hok
    by_cases hp : inB d (-100000) 100000 = true
    · have hp' := inB_iff.1 hp
      have HF := Lib.hid h2
      obtain ⟨ys, hys⟩ : ∃ ys, ys = xs.map (· + d) := ⟨_, rfl⟩
      have e : shF xs d = if timesB ys = true then ys else [] := by unfold shF shB; rw [hok, hp, ← hys]; rfl
      have e2 : shB xs d = timesB ys := by unfold shB; rw [hok, hp, ← hys]; rfl
      rw [e, e2]
      rw [hok] at CT
      have HY := Lib.hid hys
      obtain ⟨m, hm⟩ : ∃ m, m = xs.length := ⟨_, rfl⟩
      rw [← hm] at CT hn ⊢
      have HM := Lib.hid hm
      obtain ⟨bb, hbb⟩ : ∃ bb, bb = timesB ys := ⟨_, rfl⟩
      rw [← hbb]
      have HBB := Lib.hid hbb
      obtain ⟨zs, hzs⟩ : ∃ zs, zs = if bb = true then ys else [] := ⟨_, rfl⟩
      rw [← hzs]
      have HZ := Lib.hid hzs
      clear e e2 hr hok h1 h2 hm hys hbb hzs
      go_enter Try.func27, Try.ntmps27
      go_wp2_with fail
      refine CT.out.mono ?_
      rintro e w1 ⟨rfl, he⟩
      have HX := Lib.hid he
      clear he
      go_wp2_with fail
      refine (within_any _ _ _ _).mono ?_
      rintro e w2 ⟨rfl, rfl⟩
      go_wp2_with fail
      go_loopw [6, 19] (fun v i wr => ∃ (k : Nat) (A' : Option Addr) (c' : Nat), k ≤ m ∧ i = .int .i64 k ∧ v = .slice A' k c' ∧ Hid (OwI wr w.heap.size A' c' (ys.take k)) ∧ Hid (Ext w wr)) (fun _ i _ => m - (intOf i).toNat)
      case atStart => exact ⟨0, _, _, Nat.zero_le _, rfl, rfl, by rw [List.take_zero]; exact OwI.nil _ _, HX.out⟩
      case round =>
        obtain ⟨k, A', c', hk, rfl, rfl, HO, HE⟩ := hrel
        by_cases hlt : k < m
        · have hkx : k < xs.length := by rw [← HM.out]; exact hlt
          obtain ⟨b, o, hA, hc⟩ := (HR.out.ext HE.out).at_ k hkx
          subst hA
          obtain ⟨x, hx⟩ : ∃ x, x = xs.getD k 0 := ⟨_, rfl⟩
          rw [← hx] at hc
          have hxm : x ∈ xs := by rw [hx]; simp [List.getD, hkx]
          have HXM := Lib.hid hxm
          have HX := Lib.hid hx
          have HK := Lib.hid hkx
          clear hx hkx hxm
          have hb := HF.out x HXM.out
          go_wp2_with (first | (at_builtin; refine app_int w _ rfl _ _ rfl _ _ _ _ _ rfl rfl ?c1 HO.out HE.out ?c2 ?c3))
          case c1 => have := HK.out; have := HY.out; subst this; simp; omega
          case c2 => omega
          intro A2 c2 w2 ho he
          have HO2 := Lib.hid ho
          have HE2 := Lib.hid he
          clear ho he
          go_wp2
          go_roundw
          case rel =>
            refine ⟨k + 1, A2, c2, by omega, by go_num, rfl, ?_, HE2⟩
            rw [take_snoc ys k (by rw [HY.out, List.length_map]; exact HK.out), HY.out, getD_map _ _ _ HK.out, ← HX.out, ← HY.out]; exact HO2
          case measure => simp [intOf]; omega
        · obtain rfl : k = m := by omega
          have hl : k = ys.length := by rw [HY.out, List.length_map]; exact HM.out
          have ho := HO.out
          rw [take_all ys k hl] at ho
          have HL := Lib.hid hl
          have HO2 := Lib.hid ho
          clear hl ho HO
          have C2 := Lib.hid (timesI_any A' c' ys wr HO2.out.rd (by rw [← HL.out]; exact hn))
          rw [← HBB.out, ← HL.out] at C2
          cases bb with
          | true =>
            go_wp2_with fail
            refine C2.out.mono ?_
            rintro e w3 ⟨rfl, he⟩
            have HX3 := Lib.hid (HE.out.trans he)
            have HO3 := Lib.hid (HO2.out.ext he)
            clear he
            go_wp2_with fail
            go_ret2
            have hz : zs = ys := HZ.out
            rw [hz]
            exact ⟨A', c', by rw [HL.out]; rfl, HO3.out, HX3.out⟩
          | false =>
            go_wp2_with fail
            refine C2.out.mono ?_
            rintro e w3 ⟨rfl, he⟩
            have HX3 := Lib.hid (HE.out.trans he)
            clear he
            go_wp2_with fail
            go_ret2
            have hz : zs = [] := HZ.out
            rw [hz]
            exact ⟨none, 0, rfl, OwI.nil _ _, HX3.out⟩
    · have hp : inB d (-100000) 100000 = false := by simpa using hp
      have e : shF xs d = [] := by unfold shF shB; rw [hok, hp]; rfl
      have e2 : shB xs d = false := by unfold shB; rw [hok, hp]; rfl
      rw [e, e2]
      rw [hok] at CT
      obtain ⟨m, hm⟩ : ∃ m, m = xs.length := ⟨_, rfl⟩
      rw [← hm] at CT hn ⊢
      clear e e2 hr hok h1 h2 hm
      go_enter Try.func27, Try.ntmps27
      go_wp2_with fail
      refine CT.out.mono ?_
      rintro e w1 ⟨rfl, he⟩
      have HX := Lib.hid he
      clear he
      go_wp2_with fail
      refine (within_any _ _ _ _).mono ?_
      rintro e w2 ⟨rfl, rfl⟩
      go_wp2_with fail
      go_ret2
      exact ⟨none, 0, rfl, OwI.nil _ _, HX.out⟩
  · have hok : timesB xs = false := by simpa using hok
    have e : shF xs d = [] := by unfold shF shB; rw [hok]; rfl
    have e2 : shB xs d = false := by unfold shB; rw [hok]; rfl
    rw [e, e2]
    rw [hok] at CT
    obtain ⟨n, hnn⟩ : ∃ n, n = xs.length := ⟨_, rfl⟩
    rw [← hnn] at CT ⊢
    clear e e2 hr hn hok hnn
    go_enter Try.func27, Try.ntmps27
    go_wp2_with fail
    refine CT.out.mono ?_
    rintro e w1 ⟨rfl, he⟩
    have HX := Lib.hid he
    clear he
    go_wp2_with fail
    go_ret2
    exact ⟨none, 0, rfl, OwI.nil _ _, HX.out⟩
end Go.Proofs.Ytpiaeiihacobnaa
