/- Contracts of ScaleTempo and SplitTempo. -/
import Derived.Test.YtoobffhchbgkjaaTempoB
import Derived.Test.YtoobffhchbgkjaaOwnP
namespace Go.Proofs.Ytoobffhchbgkjaa
open Go.RowKit

/-- ScaleTempo. -/
def scB (xs : List (Int × Int)) (k : Int) : Bool := tempoB xs && (inB k 1 20 && tempoB (xs.map fun q => (q.1, k * q.2)))
def scF (xs : List (Int × Int)) (k : Int) : List (Int × Int) := if scB xs k = true then xs.map fun q => (q.1, k * q.2) else []
theorem getD_mapP (f : Int × Int → Int × Int) (xs : List (Int × Int)) (k : Nat) (h : k < xs.length) : (xs.map f).getD k (0, 0) = f (xs.getD k (0, 0)) := by simp [List.getD, h]

set_option maxHeartbeats 1000000 in
theorem scS_any (A : Option Addr) (c : Nat) (xs : List (Int × Int)) (d : Int) (w : World) (hr : RdP w A xs) (hn : xs.length ≤ 1048576) :
    Calls Try.prog 19 #[.slice A xs.length c, .int .i64 d] w (RetP0B w (scF xs d) (scB xs d)) := by
  have CT := Lib.hid (tempoS_any A c xs w hr hn)
  have HR := Lib.hid hr
  by_cases hok : tempoB xs = true
  · have hps : Passes xs := (tempoB_iff hok).2
    by_cases hp : inB d 1 20 = true
    · have hp' := inB_iff.1 hp
      have HF := Lib.hid hps
      obtain ⟨ys, hys⟩ : ∃ ys, ys = xs.map fun q => (q.1, d * q.2) := ⟨_, rfl⟩
      obtain ⟨bb, hbb⟩ : ∃ bb, bb = tempoB ys := ⟨_, rfl⟩
      obtain ⟨zs, hzs⟩ : ∃ zs, zs = if bb = true then ys else [] := ⟨_, rfl⟩
      have e2 : scB xs d = bb := by unfold scB; rw [hok, hp, ← hys, hbb]; rfl
      have e : scF xs d = zs := by unfold scF; rw [e2, hzs, hys]
      rw [e, e2]
      rw [hok] at CT
      have HY := Lib.hid hys
      obtain ⟨m, hm⟩ : ∃ m, m = xs.length := ⟨_, rfl⟩
      rw [← hm] at CT hn ⊢
      have HM := Lib.hid hm
      have HBB := Lib.hid hbb
      have HZ := Lib.hid hzs
      clear e e2 hr hok hps hm hys hbb hzs
      go_enter Try.func19, Try.ntmps19
      go_wp2_with fail
      refine CT.out.mono ?_
      rintro e w1 ⟨rfl, he⟩
      have HX := Lib.hid he
      clear he
      go_wp2_with fail
      refine (l01In_any _ _ _ _).mono ?_
      rintro e w2 ⟨rfl, rfl⟩
      go_wp2_with fail
      go_loopw [6, 20] (fun v i wr => ∃ (k : Nat) (A' : Option Addr) (c' : Nat), k ≤ m ∧ i = .int .i64 k ∧ v = .slice A' k c' ∧ Hid (OwP wr w.heap.size A' c' (ys.take k)) ∧ Hid (Ext w wr)) (fun _ i _ => m - (intOf i).toNat)
      case atStart => exact ⟨0, _, _, Nat.zero_le _, rfl, rfl, by rw [List.take_zero]; exact OwP.lower (OwP.empty _) HX.out.size, HX.out.alloc _⟩
      case round =>
        obtain ⟨k, A', c', hk, rfl, rfl, HO, HE⟩ := hrel
        by_cases hlt : k < m
        · have hkx : k < xs.length := by rw [← HM.out]; exact hlt
          obtain ⟨b, o, hA, hc, hc2⟩ := (HR.out.ext HE.out).at_ k hkx
          subst hA
          obtain ⟨⟨x, y⟩, hx⟩ : ∃ x, x = xs.getD k (0, 0) := ⟨_, rfl⟩
          rw [← hx] at hc hc2
          simp only [] at hc hc2
          have hb := HF.out (x, y) (by rw [hx]; exact getD_mem _ _ _ hkx)
          simp only [] at hb
          have g2 := hb.2.1
          have hmul := Int.mul_le_mul hp'.2 g2.2 (by omega) (by omega)
          have hmul0 : 0 ≤ d * y := Int.mul_nonneg (by omega) (by omega)
          have HX1 := Lib.hid hx
          have HK := Lib.hid hkx
          clear hx hkx hb
          go_wp2_with (at_builtin; refine app_pair w _ rfl _ _ rfl _ _ _ _ _ _ _ rfl rfl (by simp) ?c1 ((HO.out).ext ((Ext.refl _).alloc _)) (HE.out.alloc _) ?c2 ?c3)
          case c1 => have := HK.out; have := HY.out; subst this; simp; omega
          case c2 => omega
          intro A2 c2 w2 ho he _ _
          have HO2 := Lib.hid ho
          have HE2 := Lib.hid he
          clear ho he
          go_wp2
          go_roundw
          case rel =>
            refine ⟨k + 1, A2, c2, by omega, by go_num, rfl, ?_, HE2⟩
            rw [take_snocP ys k (by rw [HY.out, List.length_map]; exact HK.out), HY.out, getD_mapP _ _ _ HK.out, ← HX1.out, ← HY.out]; exact HO2
          case measure => simp [intOf]; omega
        · obtain rfl : k = m := by omega
          have hl : k = ys.length := by rw [HY.out, List.length_map]; exact HM.out
          have ho := HO.out
          rw [take_allP ys k hl] at ho
          have HL := Lib.hid hl
          have HO2 := Lib.hid ho
          clear hl ho HO
          have C2 := Lib.hid (tempoS_any A' c' ys wr HO2.out.rd (by rw [← HL.out]; exact hn))
          rw [← HBB.out, ← HL.out] at C2
          cases bb with
          | true =>
            go_wp2_with fail
            refine C2.out.mono ?_
            rintro e w3 ⟨rfl, he⟩
            have HX3 := Lib.hid (HE.out.trans he)
            have HO3 := Lib.hid (HO2.out.ext he)
            clear he
            go_wp2_with fail
            go_ret2
            have hz : zs = ys := HZ.out
            rw [hz]
            exact ⟨A', c', by rw [HL.out]; rfl, HO3.out, HX3.out⟩
          | false =>
            go_wp2_with fail
            refine C2.out.mono ?_
            rintro e w3 ⟨rfl, he⟩
            have HX3 := Lib.hid (HE.out.trans he)
            clear he
            go_wp2_with fail
            go_ret2
            have hz : zs = [] := HZ.out
            rw [hz]
            exact ⟨none, 0, rfl, OwP.nil _ _, HX3.out⟩
    · have hp : inB d 1 20 = false := by simpa using hp
      have e2 : scB xs d = false := by unfold scB; rw [hok, hp]; rfl
      have e : scF xs d = [] := by unfold scF; rw [e2]; rfl
      rw [e, e2]
      rw [hok] at CT
      obtain ⟨m, hm⟩ : ∃ m, m = xs.length := ⟨_, rfl⟩
      rw [← hm] at CT hn ⊢
      clear e e2 hr hok hps hm
      go_enter Try.func19, Try.ntmps19
      go_wp2_with fail
      refine CT.out.mono ?_
      rintro e w1 ⟨rfl, he⟩
      have HX := Lib.hid he
      clear he
      go_wp2_with fail
      refine (l01In_any _ _ _ _).mono ?_
      rintro e w2 ⟨rfl, rfl⟩
      go_wp2_with fail
      go_ret2
      exact ⟨none, 0, rfl, OwP.nil _ _, HX.out⟩
  · have hok : tempoB xs = false := by simpa using hok
    have e2 : scB xs d = false := by unfold scB; rw [hok]; rfl
    have e : scF xs d = [] := by unfold scF; rw [e2]; rfl
    rw [e, e2]
    rw [hok] at CT
    obtain ⟨n, hnn⟩ : ∃ n, n = xs.length := ⟨_, rfl⟩
    rw [← hnn] at CT ⊢
    clear e e2 hr hn hok hnn
    go_enter Try.func19, Try.ntmps19
    go_wp2_with fail
    refine CT.out.mono ?_
    rintro e w1 ⟨rfl, he⟩
    have HX := Lib.hid he
    clear he
    go_wp2_with fail
    go_ret2
    exact ⟨none, 0, rfl, OwP.nil _ _, HX.out⟩
set_option maxHeartbeats 1000000 in
theorem scI_any (A : Option Addr) (c : Nat) (xs : List (Int × Int)) (d : Int) (w : World) (hr : RdP w A xs) (hn : xs.length ≤ 1048576) :
    Calls Try.prog 20 #[.slice A xs.length c, .int .i64 d] w (RetP0B w (scF xs d) (scB xs d)) := by
  have CT := Lib.hid (tempoI_any A c xs w hr hn)
  have HR := Lib.hid hr
  by_cases hok : tempoB xs = true
  · have hps : Passes xs := (tempoB_iff hok).2
    by_cases hp : inB d 1 20 = true
    · have hp' := inB_iff.1 hp
      have HF := Lib.hid hps
      obtain ⟨ys, hys⟩ : ∃ ys, ys = xs.map fun q => (q.1, d * q.2) := ⟨_, rfl⟩
      obtain ⟨bb, hbb⟩ : ∃ bb, bb = tempoB ys := ⟨_, rfl⟩
      obtain ⟨zs, hzs⟩ : ∃ zs, zs = if bb = true then ys else [] := ⟨_, rfl⟩
      have e2 : scB xs d = bb := by unfold scB; rw [hok, hp, ← hys, hbb]; rfl
      have e : scF xs d = zs := by unfold scF; rw [e2, hzs, hys]
      rw [e, e2]
      rw [hok] at CT
      have HY := Lib.hid hys
      obtain ⟨m, hm⟩ : ∃ m, m = xs.length := ⟨_, rfl⟩
      rw [← hm] at CT hn ⊢
      have HM := Lib.hid hm
      have HBB := Lib.hid hbb
      have HZ := Lib.hid hzs
      clear e e2 hr hok hps hm hys hbb hzs
      go_enter Try.func20, Try.ntmps20
      go_wp2_with fail
      refine CT.out.mono ?_
      rintro e w1 ⟨rfl, he⟩
      have HX := Lib.hid he
      clear he
      go_wp2_with fail
      refine (within_any _ _ _ _).mono ?_
      rintro e w2 ⟨rfl, rfl⟩
      go_wp2_with fail
      go_loopw [6, 19] (fun v i wr => ∃ (k : Nat) (A' : Option Addr) (c' : Nat), k ≤ m ∧ i = .int .i64 k ∧ v = .slice A' k c' ∧ Hid (OwP wr w.heap.size A' c' (ys.take k)) ∧ Hid (Ext w wr)) (fun _ i _ => m - (intOf i).toNat)
      case atStart => exact ⟨0, _, _, Nat.zero_le _, rfl, rfl, by rw [List.take_zero]; exact OwP.nil _ _, HX.out⟩
      case round =>
        obtain ⟨k, A', c', hk, rfl, rfl, HO, HE⟩ := hrel
        by_cases hlt : k < m
        · have hkx : k < xs.length := by rw [← HM.out]; exact hlt
          obtain ⟨b, o, hA, hc, hc2⟩ := (HR.out.ext HE.out).at_ k hkx
          subst hA
          obtain ⟨⟨x, y⟩, hx⟩ : ∃ x, x = xs.getD k (0, 0) := ⟨_, rfl⟩
          rw [← hx] at hc hc2
          simp only [] at hc hc2
          have hb := HF.out (x, y) (by rw [hx]; exact getD_mem _ _ _ hkx)
          simp only [] at hb
          have g2 := hb.2.1
          have hmul := Int.mul_le_mul hp'.2 g2.2 (by omega) (by omega)
          have hmul0 : 0 ≤ d * y := Int.mul_nonneg (by omega) (by omega)
          have HX1 := Lib.hid hx
          have HK := Lib.hid hkx
          clear hx hkx hb
          go_wp2_with (at_builtin; refine app_pair w _ rfl _ _ rfl _ _ _ _ _ _ _ rfl rfl (by simp) ?c1 ((HO.out).ext ((Ext.refl _).alloc _)) (HE.out.alloc _) ?c2 ?c3)
          case c1 => have := HK.out; have := HY.out; subst this; simp; omega
          case c2 => omega
          intro A2 c2 w2 ho he _ _
          have HO2 := Lib.hid ho
          have HE2 := Lib.hid he
          clear ho he
          go_wp2
          go_roundw
          case rel =>
            refine ⟨k + 1, A2, c2, by omega, by go_num, rfl, ?_, HE2⟩
            rw [take_snocP ys k (by rw [HY.out, List.length_map]; exact HK.out), HY.out, getD_mapP _ _ _ HK.out, ← HX1.out, ← HY.out]; exact HO2
          case measure => simp [intOf]; omega
        · obtain rfl : k = m := by omega
          have hl : k = ys.length := by rw [HY.out, List.length_map]; exact HM.out
          have ho := HO.out
          rw [take_allP ys k hl] at ho
          have HL := Lib.hid hl
          have HO2 := Lib.hid ho
          clear hl ho HO
          have C2 := Lib.hid (tempoI_any A' c' ys wr HO2.out.rd (by rw [← HL.out]; exact hn))
          rw [← HBB.out, ← HL.out] at C2
          cases bb with
          | true =>
            go_wp2_with fail
            refine C2.out.mono ?_
            rintro e w3 ⟨rfl, he⟩
            have HX3 := Lib.hid (HE.out.trans he)
            have HO3 := Lib.hid (HO2.out.ext he)
            clear he
            go_wp2_with fail
            go_ret2
            have hz : zs = ys := HZ.out
            rw [hz]
            exact ⟨A', c', by rw [HL.out]; rfl, HO3.out, HX3.out⟩
          | false =>
            go_wp2_with fail
            refine C2.out.mono ?_
            rintro e w3 ⟨rfl, he⟩
            have HX3 := Lib.hid (HE.out.trans he)
            clear he
            go_wp2_with fail
            go_ret2
            have hz : zs = [] := HZ.out
            rw [hz]
            exact ⟨none, 0, rfl, OwP.nil _ _, HX3.out⟩
    · have hp : inB d 1 20 = false := by simpa using hp
      have e2 : scB xs d = false := by unfold scB; rw [hok, hp]; rfl
      have e : scF xs d = [] := by unfold scF; rw [e2]; rfl
      rw [e, e2]
      rw [hok] at CT
      obtain ⟨m, hm⟩ : ∃ m, m = xs.length := ⟨_, rfl⟩
      rw [← hm] at CT hn ⊢
      clear e e2 hr hok hps hm
      go_enter Try.func20, Try.ntmps20
      go_wp2_with fail
      refine CT.out.mono ?_
      rintro e w1 ⟨rfl, he⟩
      have HX := Lib.hid he
      clear he
      go_wp2_with fail
      refine (within_any _ _ _ _).mono ?_
      rintro e w2 ⟨rfl, rfl⟩
      go_wp2_with fail
      go_ret2
      exact ⟨none, 0, rfl, OwP.nil _ _, HX.out⟩
  · have hok : tempoB xs = false := by simpa using hok
    have e2 : scB xs d = false := by unfold scB; rw [hok]; rfl
    have e : scF xs d = [] := by unfold scF; rw [e2]; rfl
    rw [e, e2]
    rw [hok] at CT
    obtain ⟨n, hnn⟩ : ∃ n, n = xs.length := ⟨_, rfl⟩
    rw [← hnn] at CT ⊢
    clear e e2 hr hn hok hnn
    go_enter Try.func20, Try.ntmps20
    go_wp2_with fail
    refine CT.out.mono ?_
    rintro e w1 ⟨rfl, he⟩
    have HX := Lib.hid he
    clear he
    go_wp2_with fail
    go_ret2
    exact ⟨none, 0, rfl, OwP.nil _ _, HX.out⟩
end Go.Proofs.Ytoobffhchbgkjaa
