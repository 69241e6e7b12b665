/- Contracts of SameTime. -/
import Derived.Test.YtoobffhchbgkjaaTimeC
namespace Go.Proofs.Ytoobffhchbgkjaa
open Go.RowKit

/-- The answer of SameTime. -/
def smB (xs ys : List (Int × Int)) : Bool := tempoB xs && (tempoB ys && decide (unitsF xs (beatsF xs) = unitsF ys (beatsF ys)))

theorem toOk_ct (xs : List (Int × Int)) : toOk xs (ctF xs) = tempoB xs := by
  by_cases hok : tempoB xs = true
  · have hps : Passes xs := (tempoB_iff hok).2
    have := beatsF_bd hps
    unfold toOk ctF
    rw [if_pos hok, inB_iff.2 ⟨this.1, by omega⟩, hok]
    rfl
  · have hok : tempoB xs = false := by simpa using hok
    unfold toOk
    rw [hok]
    rfl
theorem sm_eq {xs ys : List (Int × Int)} (h : tempoB xs = true) (k : tempoB ys = true) :
    smB xs ys = decide (toT xs (ctF xs) = toT ys (ctF ys) ∧ toBt xs (ctF xs) = toBt ys (ctF ys)) := by
  have a := beatsF_bd (tempoB_iff h).2
  have b := beatsF_bd (tempoB_iff k).2
  have a1 := unitsF_bd (tempoB_iff h).2 (beatsF xs) a.1
  have b1 := unitsF_bd (tempoB_iff k).2 (beatsF ys) b.1
  have e1 : ctF xs = beatsF xs := by unfold ctF; rw [if_pos h]
  have e2 : ctF ys = beatsF ys := by unfold ctF; rw [if_pos k]
  have o1 := toOk_ct xs
  have o2 := toOk_ct ys
  rw [h, e1] at o1
  rw [k, e2] at o2
  unfold smB toT toBt
  rw [h, k, e1, e2, if_pos o1, if_pos o2, if_pos o1, if_pos o2, Bool.true_and, Bool.true_and]
  have := topF_inj (u := 50 * unitsF xs (beatsF xs)) (v := 50 * unitsF ys (beatsF ys)) (by omega) (by omega)
  rw [decide_eq_decide]
  rw [this]
  omega

set_option maxHeartbeats 1000000 in
theorem smS_any (A : Option Addr) (c : Nat) (xs : List (Int × Int)) (A' : Option Addr) (c' : Nat) (ys : List (Int × Int)) (w : World) (hr : RdP w A xs) (hn : xs.length ≤ 1048576) (hr' : RdP w A' ys) (hn' : ys.length ≤ 1048576) :
    Calls Try.prog 25 #[.slice A xs.length c, .slice A' ys.length c'] w fun e w' => e = .returned (.bool (smB xs ys)) ∧ Ext w w' := by
  have C1 : Hid (∀ w, RdP w A xs → Calls Try.prog _ #[.slice A xs.length c] w fun e w' => e = .returned (.int .i64 (ctF xs)) ∧ Ext w w') := fun w h => ctS_any A c xs w h hn
  have C2 : Hid (∀ w, RdP w A' ys → Calls Try.prog _ #[.slice A' ys.length c'] w fun e w' => e = .returned (.int .i64 (ctF ys)) ∧ Ext w w') := fun w h => ctS_any A' c' ys w h hn'
  have D1 : Hid (∀ w, RdP w A xs → Calls Try.prog _ #[.slice A xs.length c, .int .i64 (ctF xs)] w (RetTime w (toT xs (ctF xs)) (toBt xs (ctF xs)) (toOk xs (ctF xs)))) := fun w h => toS_any A c xs _ w h hn
  have D2 : Hid (∀ w, RdP w A' ys → Calls Try.prog _ #[.slice A' ys.length c', .int .i64 (ctF ys)] w (RetTime w (toT ys (ctF ys)) (toBt ys (ctF ys)) (toOk ys (ctF ys)))) := fun w h => toS_any A' c' ys _ w h hn'
  rw [toOk_ct] at D1 D2
  have HR := Lib.hid hr
  have HR' := Lib.hid hr'
  have HS : Hid (tempoB xs = true → tempoB ys = true → smB xs ys = decide (toT xs (ctF xs) = toT ys (ctF ys) ∧ toBt xs (ctF xs) = toBt ys (ctF ys))) := sm_eq
  have HF : Hid (tempoB xs = false ∨ tempoB ys = false → smB xs ys = false) := fun h => by unfold smB; rcases h with h | h <;> simp [h]
  obtain ⟨S, hS⟩ : ∃ S, S = smB xs ys := ⟨_, rfl⟩
  obtain ⟨a, ha⟩ : ∃ a, a = tempoB xs := ⟨_, rfl⟩
  obtain ⟨b, hb⟩ : ∃ b, b = tempoB ys := ⟨_, rfl⟩
  obtain ⟨i, hi⟩ : ∃ i, i = ctF xs := ⟨_, rfl⟩
  obtain ⟨j, hj⟩ : ∃ j, j = ctF ys := ⟨_, rfl⟩
  obtain ⟨T, hT⟩ : ∃ T, T = toT xs i := ⟨_, rfl⟩
  obtain ⟨B, hB⟩ : ∃ B, B = toBt xs i := ⟨_, rfl⟩
  obtain ⟨T', hT'⟩ : ∃ T', T' = toT ys j := ⟨_, rfl⟩
  obtain ⟨B', hB'⟩ : ∃ B', B' = toBt ys j := ⟨_, rfl⟩
  obtain ⟨n, hnn⟩ : ∃ n, n = xs.length := ⟨_, rfl⟩
  obtain ⟨m, hmm⟩ : ∃ m, m = ys.length := ⟨_, rfl⟩
  rw [← hS, ← ha, ← hb, ← hi, ← hj, ← hT, ← hT', ← hB, ← hB'] at HS
  rw [← hS, ← ha, ← hb] at HF
  rw [← hi, ← hnn] at C1
  rw [← hj, ← hmm] at C2
  rw [← hi, ← hnn, ← hT, ← hB, ← ha] at D1
  rw [← hj, ← hmm, ← hT', ← hB', ← hb] at D2
  rw [← hS, ← hnn, ← hmm]
  clear hr hr' hn hn' hS ha hb hi hj hT hB hT' hB' hnn hmm
  have key : S = (a && (b && decide (T = T' ∧ B = B'))) := by
    cases a with
    | false => rw [HF.out (Or.inl rfl)]; rfl
    | true => cases b with
      | false => rw [HF.out (Or.inr rfl)]; rfl
      | true => rw [HS.out rfl rfl]; rfl
  have HK := Lib.hid key
  clear key
  go_enter Try.func25, Try.ntmps25
  go_wp2_with fail
  refine (C1.out _ HR.out).mono ?_
  rintro e w1 ⟨rfl, he⟩
  have HX := Lib.hid he
  clear he
  go_wp2_with fail
  refine (D1.out _ (HR.out.ext HX.out)).mono ?_
  rintro e w2 ⟨rfl, he⟩
  have HX2 := Lib.hid ((HX.out.trans he).alloc (.cells #[.int .i64 T, .int .i64 B] 38))
  have HB := Lib.hid (Blk2.new w2 38 (.int .i64 T) (.int .i64 B))
  clear he
  go_wp2_with fail
  refine (C2.out _ (HR'.out.ext HX2.out)).mono ?_
  rintro e w3 ⟨rfl, he⟩
  have HX3 := Lib.hid (HX2.out.trans he)
  have HB3 := Lib.hid (HB.out.ext he)
  clear he
  go_wp2_with fail
  refine (D2.out _ (HR'.out.ext HX3.out)).mono ?_
  rintro e w4 ⟨rfl, he⟩
  have HX4 := Lib.hid (HX3.out.trans he)
  have HB4 := Lib.hid (HB3.out.ext he)
  obtain ⟨q0, q1, p0, p1⟩ := HB4.out.cells
  clear he
  cases a with
  | false =>
    go_wp2_with fail
    go_ret
    exact ⟨ret_bool (by rw [HK.out]; rfl), HX4.out.alloc _⟩
  | true => cases b with
    | false =>
      go_wp2_with fail
      go_ret
      exact ⟨ret_bool (by rw [HK.out]; rfl), HX4.out.alloc _⟩
    | true =>
      have hlt : w2.heap.size < w4.heap.size := (Array.getElem?_eq_some_iff.1 HB4.out).1
      clear C1 C2 D1 D2 HF HS
      go_wp2_with fail
      all_goals go_ret
      all_goals refine ⟨ret_bool ?_, HX4.out.alloc _⟩
      all_goals rw [HK.out]
      all_goals simp_all

theorem smI_any (A : Option Addr) (c : Nat) (xs : List (Int × Int)) (A' : Option Addr) (c' : Nat) (ys : List (Int × Int)) (w : World) (hr : RdP w A xs) (hn : xs.length ≤ 1048576) (hr' : RdP w A' ys) (hn' : ys.length ≤ 1048576) :
    Calls Try.prog 26 #[.slice A xs.length c, .slice A' ys.length c'] w fun e w' => e = .returned (.bool (smB xs ys)) ∧ Ext w w' := by
  have C1 := Lib.hid (tempoI_any A c xs w hr hn)
  have HR := Lib.hid hr
  have HR' := Lib.hid hr'
  by_cases h1 : tempoB xs = true
  · have C2 : Hid (∀ w, RdP w A' ys → Calls Try.prog _ #[.slice A' ys.length c'] w fun e w' => e = .returned (.bool (tempoB ys)) ∧ Ext w w') := fun w h => tempoI_any A' c' ys w h hn'
    rw [h1] at C1
    by_cases h2 : tempoB ys = true
    · have p1 := (tempoB_iff h1).2
      have p2 := (tempoB_iff h2).2
      obtain ⟨a, ha, B1⟩ : ∃ R, R = beatsF xs ∧ Hid (∀ w, RdP w A xs → Calls Try.prog _ #[.slice A xs.length c] w fun e w' => e = .returned (.int .i64 R) ∧ Ext w w') := ⟨_, rfl, fun w h => beatsI_any A c xs w h hn p1⟩
      obtain ⟨b, hb, B2⟩ : ∃ R, R = beatsF ys ∧ Hid (∀ w, RdP w A' ys → Calls Try.prog _ #[.slice A' ys.length c'] w fun e w' => e = .returned (.int .i64 R) ∧ Ext w w') := ⟨_, rfl, fun w h => beatsI_any A' c' ys w h hn' p2⟩
      have q1 := beatsF_bd p1
      have q2 := beatsF_bd p2
      rw [← ha] at q1
      rw [← hb] at q2
      obtain ⟨u, hu, U1⟩ : ∃ R, R = unitsF xs a ∧ Hid (∀ w, RdP w A xs → Calls Try.prog _ #[.slice A xs.length c, .int .i64 a] w fun e w' => e = .returned (.int .i64 R) ∧ Ext w w') := ⟨_, rfl, fun w h => units_any A c xs a w h hn p1 q1.1 (by omega)⟩
      obtain ⟨v, hv, U2⟩ : ∃ R, R = unitsF ys b ∧ Hid (∀ w, RdP w A' ys → Calls Try.prog _ #[.slice A' ys.length c', .int .i64 b] w fun e w' => e = .returned (.int .i64 R) ∧ Ext w w') := ⟨_, rfl, fun w h => units_any A' c' ys b w h hn' p2 q2.1 (by omega)⟩
      have e : smB xs ys = decide (u = v) := by unfold smB; rw [h1, h2, hu, hv, ha, hb]; rfl
      rw [e]
      rw [h2] at C2
      obtain ⟨n, hnn⟩ : ∃ n, n = xs.length := ⟨_, rfl⟩
      obtain ⟨m, hmm⟩ : ∃ m, m = ys.length := ⟨_, rfl⟩
      rw [← hnn] at C1 B1 U1 ⊢
      rw [← hmm] at C2 B2 U2 ⊢
      clear e hr hr' hn hn' h1 h2 p1 p2 q1 q2 ha hb hu hv hnn hmm
      go_enter Try.func26, Try.ntmps26
      go_wp2_with fail
      refine C1.out.mono ?_
      rintro e w1 ⟨rfl, he⟩
      have X1 := Lib.hid he
      clear he
      go_wp2_with fail
      refine (C2.out _ (HR'.out.ext X1.out)).mono ?_
      rintro e w2 ⟨rfl, he⟩
      have X2 := Lib.hid (X1.out.trans he)
      clear he
      go_wp2_with fail
      refine (B1.out _ (HR.out.ext X2.out)).mono ?_
      rintro e w3 ⟨rfl, he⟩
      have X3 := Lib.hid (X2.out.trans he)
      clear he
      go_wp2_with fail
      refine (U1.out _ (HR.out.ext X3.out)).mono ?_
      rintro e w4 ⟨rfl, he⟩
      have X4 := Lib.hid (X3.out.trans he)
      clear he
      go_wp2_with fail
      refine (B2.out _ (HR'.out.ext X4.out)).mono ?_
      rintro e w5 ⟨rfl, he⟩
      have X5 := Lib.hid (X4.out.trans he)
      clear he
      go_wp2_with fail
      refine (U2.out _ (HR'.out.ext X5.out)).mono ?_
      rintro e w6 ⟨rfl, he⟩
      have X6 := Lib.hid (X5.out.trans he)
      clear he
      by_cases huv : u = v
      · subst huv
        go_wp2_with fail
        go_ret
        exact ⟨ret_bool (by simp), X6.out⟩
      · go_wp2_with fail
        go_ret
        exact ⟨ret_bool (by simp [huv]), X6.out⟩
    · have h2 : tempoB ys = false := by simpa using h2
      have e : smB xs ys = false := by unfold smB; rw [h1, h2]; rfl
      rw [e]
      rw [h2] at C2
      obtain ⟨n, hnn⟩ : ∃ n, n = xs.length := ⟨_, rfl⟩
      obtain ⟨m, hmm⟩ : ∃ m, m = ys.length := ⟨_, rfl⟩
      rw [← hnn] at C1 ⊢
      rw [← hmm] at C2 ⊢
      clear e hr hr' hn hn' h1 h2 hnn hmm
      go_enter Try.func26, Try.ntmps26
      go_wp2_with fail
      refine C1.out.mono ?_
      rintro e w1 ⟨rfl, he⟩
      have X1 := Lib.hid he
      clear he
      go_wp2_with fail
      refine (C2.out _ (HR'.out.ext X1.out)).mono ?_
      rintro e w2 ⟨rfl, he⟩
      have X2 := Lib.hid (X1.out.trans he)
      clear he
      go_wp2_with fail
      go_ret
      exact ⟨rfl, X2.out⟩
  · have h1 : tempoB xs = false := by simpa using h1
    have e : smB xs ys = false := by unfold smB; rw [h1]; rfl
    rw [e]
    rw [h1] at C1
    obtain ⟨n, hnn⟩ : ∃ n, n = xs.length := ⟨_, rfl⟩
    obtain ⟨m, hmm⟩ : ∃ m, m = ys.length := ⟨_, rfl⟩
    rw [← hnn] at C1 ⊢
    rw [← hmm]
    clear e hr hr' hn hn' h1 hnn hmm
    go_enter Try.func26, Try.ntmps26
    go_wp2_with fail
    refine C1.out.mono ?_
    rintro e w1 ⟨rfl, he⟩
    have X1 := Lib.hid he
    clear he
    go_wp2_with fail
    go_ret
    exact ⟨rfl, X1.out⟩
end Go.Proofs.Ytoobffhchbgkjaa
