/- Contracts of StepsOf, BarOf. -/
import Derived.Test.YtedlmidhakmgpaaSteps
import Derived.Test.YtedlmidhakmgpaaBarB
namespace Go.Proofs.Ytedlmidhakmgpaa
open Go.RowKit

def soF (n : Int) (xs : List Int) : List Int := if rhyB n xs = true then stepsF n xs else []
theorem soF_len (n : Int) (xs : List Int) : (soF n xs).length ≤ xs.length := by
  unfold soF
  split
  · exact Nat.le_of_eq (stP_len _ _ _)
  · simp

theorem soS_any (A : Option Addr) (c : Nat) (n : Int) (xs : List Int) (w : World) (hr : RdI w A xs) (hl : xs.length ≤ 1048576) :
    Calls Try.prog 63 #[.agg #[.int .i64 n, .slice A xs.length c]] w (RetI w (soF n xs)) := by
  have CR : Hid (∀ w, RdI w A xs → Calls Try.prog _ #[.agg #[.int .i64 n, .slice A xs.length c]] w fun e w' => e = .returned (.bool (rhyB n xs)) ∧ Ext w w') := fun w h => rhyS_any A c n xs w h (by omega)
  have HR := Lib.hid hr
  have HX0 : Hid (Ext w (w.alloc (.cells #[.int .i64 n, .slice A xs.length c] 36))) := (Ext.refl w).alloc _
  have HG0 := Lib.hid (Bx2.new w 36 (.int .i64 n) (.slice A xs.length c))
  by_cases hv : rhyB n xs = true
  · have e : soF n xs = stepsF n xs := by unfold soF; rw [if_pos hv]
    rw [e]
    have CS : Hid (∀ w, RdI w A xs → Calls Try.prog _ #[.agg #[.int .i64 n, .slice A xs.length c]] w (RetI w (stepsF n xs))) := fun w h => l03_any A c n xs w h hv hl
    have hrl : (stepsF n xs).length = xs.length := stP_len _ _ _
    obtain ⟨R, hR⟩ : ∃ R, R = stepsF n xs := ⟨_, rfl⟩
    have HZ : Hid (xs.length = 0 → R = []) := fun h => by rw [← List.length_eq_zero_iff, hR, hrl]; exact h
    obtain ⟨l, hll⟩ : ∃ l, l = xs.length := ⟨_, rfl⟩
    rw [← hR] at CS ⊢
    rw [← hll] at CR CS HX0 HG0 HZ ⊢
    rw [hv] at CR
    clear e hr hl hv hrl hR hll
    by_cases hl0 : l = 0
    · have hRn := HZ.out hl0
      subst hl0
      subst hRn
      go_enter Try.func63, Try.ntmps63
      go_wp2_with fail
      refine (CR.out _ (HR.out.ext HX0.out)).mono ?_
      rintro e w1 ⟨rfl, he⟩
      have HX := Lib.hid (HX0.out.trans he)
      have HG := Lib.hid (HG0.out.ext he)
      clear he
      obtain ⟨q0, q1, p0, p1⟩ := HG.out.cells
      go_wp2_with (refine (CS.out _ (HR.out.ext HX.out)).mono ?_; rintro e w2 ⟨A2, c2, rfl, ho, he⟩; have HO2 := Lib.hid (ho.lower HX.out.size); have HX2 := Lib.hid (HX.out.trans he); clear ho he)
      go_ret
      first
        | exact ⟨A2, c2, rfl, HO2.out, HX2.out⟩
        | exact ⟨none, 0, rfl, OwI.nil _ _, HX.out⟩
    · have hl1 : ¬ (l : Int) = 0 := by omega
      have hl2 : ((l : Int) == 0) = false := by simpa using hl0
      go_enter Try.func63, Try.ntmps63
      go_wp2_with fail
      refine (CR.out _ (HR.out.ext HX0.out)).mono ?_
      rintro e w1 ⟨rfl, he⟩
      have HX := Lib.hid (HX0.out.trans he)
      have HG := Lib.hid (HG0.out.ext he)
      clear he
      obtain ⟨q0, q1, p0, p1⟩ := HG.out.cells
      go_wp2_with fail
      refine (CS.out _ (HR.out.ext HX.out)).mono ?_
      rintro e w2 ⟨A2, c2, rfl, ho, he⟩
      have HO2 := Lib.hid (ho.lower HX.out.size)
      have HX2 := Lib.hid (HX.out.trans he)
      clear ho he
      go_wp2_with fail
      go_ret
      exact ⟨A2, c2, rfl, HO2.out, HX2.out⟩
  · have hv : rhyB n xs = false := by simpa using hv
    have e : soF n xs = [] := by unfold soF; rw [hv]; rfl
    rw [e]
    obtain ⟨l, hll⟩ : ∃ l, l = xs.length := ⟨_, rfl⟩
    rw [← hll] at CR HX0 HG0 ⊢
    rw [hv] at CR
    clear e hr hl hv hll
    go_enter Try.func63, Try.ntmps63
    go_wp2_with fail
    refine (CR.out _ (HR.out.ext HX0.out)).mono ?_
    rintro e w1 ⟨rfl, he⟩
    have HX := Lib.hid (HX0.out.trans he)
    clear he
    go_wp2_with fail
    go_ret
    exact ⟨none, 0, rfl, OwI.nil _ _, HX.out⟩
theorem soI_any (A : Option Addr) (c : Nat) (n : Int) (xs : List Int) (w : World) (hr : RdI w A xs) (hl : xs.length ≤ 1048576) :
    Calls Try.prog 64 #[.agg #[.int .i64 n, .slice A xs.length c]] w (RetI w (soF n xs)) := by
  have CR : Hid (∀ w, RdI w A xs → Calls Try.prog _ #[.agg #[.int .i64 n, .slice A xs.length c]] w fun e w' => e = .returned (.bool (rhyB n xs)) ∧ Ext w w') := fun w h => rhyI_any A c n xs w h (by omega)
  have HR := Lib.hid hr
  have HX0 : Hid (Ext w (w.alloc (.cells #[.int .i64 n, .slice A xs.length c] 36))) := (Ext.refl w).alloc _
  have HG0 := Lib.hid (Bx2.new w 36 (.int .i64 n) (.slice A xs.length c))
  by_cases hv : rhyB n xs = true
  · have e : soF n xs = stepsF n xs := by unfold soF; rw [if_pos hv]
    rw [e]
    have CS : Hid (∀ w, RdI w A xs → Calls Try.prog _ #[.agg #[.int .i64 n, .slice A xs.length c]] w (RetI w (stepsF n xs))) := fun w h => steps_any A c n xs w h hv hl
    have hrl : (stepsF n xs).length = xs.length := stP_len _ _ _
    obtain ⟨R, hR⟩ : ∃ R, R = stepsF n xs := ⟨_, rfl⟩
    have HZ : Hid (xs.length = 0 → R = []) := fun h => by rw [← List.length_eq_zero_iff, hR, hrl]; exact h
    obtain ⟨l, hll⟩ : ∃ l, l = xs.length := ⟨_, rfl⟩
    rw [← hR] at CS ⊢
    rw [← hll] at CR CS HX0 HG0 HZ ⊢
    rw [hv] at CR
    clear e hr hl hv hrl hR hll
    by_cases hl0 : l = 0
    · have hRn := HZ.out hl0
      subst hl0
      subst hRn
      go_enter Try.func64, Try.ntmps64
      go_wp2_with fail
      refine (CR.out _ (HR.out.ext HX0.out)).mono ?_
      rintro e w1 ⟨rfl, he⟩
      have HX := Lib.hid (HX0.out.trans he)
      have HG := Lib.hid (HG0.out.ext he)
      clear he
      obtain ⟨q0, q1, p0, p1⟩ := HG.out.cells
      go_wp2_with (refine (CS.out _ (HR.out.ext HX.out)).mono ?_; rintro e w2 ⟨A2, c2, rfl, ho, he⟩; have HO2 := Lib.hid (ho.lower HX.out.size); have HX2 := Lib.hid (HX.out.trans he); clear ho he)
      go_ret
      first
        | exact ⟨A2, c2, rfl, HO2.out, HX2.out⟩
        | exact ⟨none, 0, rfl, OwI.nil _ _, HX.out⟩
    · have hl1 : ¬ (l : Int) = 0 := by omega
      have hl2 : ((l : Int) == 0) = false := by simpa using hl0
      go_enter Try.func64, Try.ntmps64
      go_wp2_with fail
      refine (CR.out _ (HR.out.ext HX0.out)).mono ?_
      rintro e w1 ⟨rfl, he⟩
      have HX := Lib.hid (HX0.out.trans he)
      have HG := Lib.hid (HG0.out.ext he)
      clear he
      obtain ⟨q0, q1, p0, p1⟩ := HG.out.cells
      go_wp2_with fail
      refine (CS.out _ (HR.out.ext HX.out)).mono ?_
      rintro e w2 ⟨A2, c2, rfl, ho, he⟩
      have HO2 := Lib.hid (ho.lower HX.out.size)
      have HX2 := Lib.hid (HX.out.trans he)
      clear ho he
      go_wp2_with fail
      go_ret
      exact ⟨A2, c2, rfl, HO2.out, HX2.out⟩
  · have hv : rhyB n xs = false := by simpa using hv
    have e : soF n xs = [] := by unfold soF; rw [hv]; rfl
    rw [e]
    obtain ⟨l, hll⟩ : ∃ l, l = xs.length := ⟨_, rfl⟩
    rw [← hll] at CR HX0 HG0 ⊢
    rw [hv] at CR
    clear e hr hl hv hll
    go_enter Try.func64, Try.ntmps64
    go_wp2_with fail
    refine (CR.out _ (HR.out.ext HX0.out)).mono ?_
    rintro e w1 ⟨rfl, he⟩
    have HX := Lib.hid (HX0.out.trans he)
    clear he
    go_wp2_with fail
    go_ret
    exact ⟨none, 0, rfl, OwI.nil _ _, HX.out⟩

/-- The answers of BarOf. -/
def bofB (n : Int) (xs : List Int) : Bool := barB (soF n xs) && decide (xs.getD 0 0 = 0)
def bofF (n : Int) (xs : List Int) : List Int := if bofB n xs = true then soF n xs else []

theorem bofS_any (A : Option Addr) (c : Nat) (n : Int) (xs : List Int) (w : World) (hr : RdI w A xs) (hl : xs.length ≤ 1048576) :
    Calls Try.prog 40 #[.agg #[.int .i64 n, .slice A xs.length c]] w (RetIB w (bofF n xs) (bofB n xs)) := by
  have CS : Hid (∀ w, RdI w A xs → Calls Try.prog _ #[.agg #[.int .i64 n, .slice A xs.length c]] w (RetI w (soF n xs))) := fun w h => soS_any A c n xs w h hl
  have CB : Hid (∀ B d w, RdI w B (soF n xs) → Calls Try.prog _ #[.slice B (soF n xs).length d] w fun e w' => e = .returned (.bool (barB (soF n xs))) ∧ Ext w w') := fun B d w h => barS_ext B d _ w h (by have := soF_len n xs; omega)
  have HR := Lib.hid hr
  have HX0 : Hid (Ext w (w.alloc (.cells #[.int .i64 n, .slice A xs.length c] 36))) := (Ext.refl w).alloc _
  have HG0 := Lib.hid (Bx2.new w 36 (.int .i64 n) (.slice A xs.length c))
  have hpos : barB (soF n xs) = true → 0 < xs.length := fun h => by have := (barB_iff h).1.1; have := soF_len n xs; omega
  obtain ⟨R, hR⟩ : ∃ R, R = soF n xs := ⟨_, rfl⟩
  obtain ⟨v, hv⟩ : ∃ v, v = barB (soF n xs) := ⟨_, rfl⟩
  have hB : bofB n xs = (v && decide (xs.getD 0 0 = 0)) := by unfold bofB; rw [hv]
  have hF : bofF n xs = if (v && decide (xs.getD 0 0 = 0)) = true then R else [] := by unfold bofF; rw [hB, hR]
  rw [hF, hB]
  rw [← hv] at CB hpos
  rw [← hR] at CS CB
  have HP := Lib.hid hpos
  obtain ⟨l, hll⟩ : ∃ l, l = xs.length := ⟨_, rfl⟩
  have HL := Lib.hid hll
  rw [← hll] at CS HX0 HG0 HP ⊢
  clear hr hl hpos hR hv hB hF hll
  cases v with
  | false =>
    rw [Bool.false_and]
    show Calls Try.prog 40 _ w (RetIB w [] false)
    go_enter Try.func40, Try.ntmps40
    go_wp2_with fail
    refine (CS.out _ (HR.out.ext HX0.out)).mono ?_
    rintro e w1 ⟨A2, c2, rfl, ho, he⟩
    have HX := Lib.hid (HX0.out.trans he)
    have HO := Lib.hid ho
    obtain ⟨q, hq⟩ : ∃ q, q = R.length := ⟨_, rfl⟩
    rw [← hq] at CB ⊢
    clear ho he hq
    go_wp2_with fail
    refine (CB.out _ _ _ HO.out.rd).mono ?_
    rintro e w2 ⟨rfl, he⟩
    have HX2 := Lib.hid (HX.out.trans he)
    clear he
    go_wp2_with fail
    go_ret2
    exact ⟨none, 0, rfl, OwI.nil _ _, HX2.out⟩
  | true =>
    rw [Bool.true_and]
    have hl0 : 0 < l := HP.out rfl
    have hl1 : (0 : Int) < l := by omega
    obtain ⟨x, hx⟩ : ∃ x, x = xs.getD 0 0 := ⟨_, rfl⟩
    rw [← hx]
    have HC0 : Hid (∀ W, Ext w W → ∃ b o, A = some ⟨b, o, none⟩ ∧ W.cell? ⟨b, o, none⟩ = some (.int .i64 x)) := fun W hW => by
      obtain ⟨b, o, hA, hc⟩ := (HR.out.ext hW).at_ 0 (by rw [← HL.out]; exact hl0)
      exact ⟨b, o, hA, by rw [hx]; exact hc⟩
    clear hx HP
    by_cases hx0 : x = 0
    · rw [decide_eq_true hx0]
      show Calls Try.prog 40 _ w (RetIB w R true)
      subst hx0
      go_enter Try.func40, Try.ntmps40
      go_wp2_with fail
      refine (CS.out _ (HR.out.ext HX0.out)).mono ?_
      rintro e w1 ⟨A2, c2, rfl, ho, he⟩
      have HX := Lib.hid (HX0.out.trans he)
      have HG := Lib.hid (HG0.out.ext he)
      have HO := Lib.hid (ho.lower HX0.out.size)
      obtain ⟨q, hq⟩ : ∃ q, q = R.length := ⟨_, rfl⟩
      have HQ := Lib.hid hq
      rw [← hq] at CB ⊢
      clear ho he hq
      go_wp2_with fail
      refine (CB.out _ _ _ HO.out.rd).mono ?_
      rintro e w2 ⟨rfl, he⟩
      have HX2 := Lib.hid (HX.out.trans he)
      have HG2 := Lib.hid (HG.out.ext he)
      have HO2 := Lib.hid (HO.out.ext he)
      clear he
      obtain ⟨q0, q1, p0, p1⟩ := HG2.out.cells
      obtain ⟨b, o, hA, hc⟩ := HC0.out _ HX2.out
      subst hA
      go_wp2_with fail
      go_ret2
      exact ⟨A2, c2, by rw [HQ.out]; rfl, HO2.out, HX2.out⟩
    · rw [decide_eq_false hx0]
      show Calls Try.prog 40 _ w (RetIB w [] false)
      have hxb : (x != 0) = true := by simpa using hx0
      go_enter Try.func40, Try.ntmps40
      go_wp2_with fail
      refine (CS.out _ (HR.out.ext HX0.out)).mono ?_
      rintro e w1 ⟨A2, c2, rfl, ho, he⟩
      have HX := Lib.hid (HX0.out.trans he)
      have HG := Lib.hid (HG0.out.ext he)
      have HO := Lib.hid (ho.lower HX0.out.size)
      obtain ⟨q, hq⟩ : ∃ q, q = R.length := ⟨_, rfl⟩
      rw [← hq] at CB ⊢
      clear ho he hq
      go_wp2_with fail
      refine (CB.out _ _ _ HO.out.rd).mono ?_
      rintro e w2 ⟨rfl, he⟩
      have HX2 := Lib.hid (HX.out.trans he)
      have HG2 := Lib.hid (HG.out.ext he)
      clear he
      obtain ⟨q0, q1, p0, p1⟩ := HG2.out.cells
      obtain ⟨b, o, hA, hc⟩ := HC0.out _ HX2.out
      subst hA
      go_wp2_with fail
      go_ret2
      exact ⟨none, 0, rfl, OwI.nil _ _, HX2.out⟩
theorem bofI_any (A : Option Addr) (c : Nat) (n : Int) (xs : List Int) (w : World) (hr : RdI w A xs) (hl : xs.length ≤ 1048576) :
    Calls Try.prog 42 #[.agg #[.int .i64 n, .slice A xs.length c]] w (RetIB w (bofF n xs) (bofB n xs)) := by
  have CS : Hid (∀ w, RdI w A xs → Calls Try.prog _ #[.agg #[.int .i64 n, .slice A xs.length c]] w (RetI w (soF n xs))) := fun w h => soI_any A c n xs w h hl
  have CB : Hid (∀ B d w, RdI w B (soF n xs) → Calls Try.prog _ #[.slice B (soF n xs).length d] w fun e w' => e = .returned (.bool (barB (soF n xs))) ∧ Ext w w') := fun B d w h => barI_any B d _ w h (by have := soF_len n xs; omega)
  have HR := Lib.hid hr
  have HX0 : Hid (Ext w (w.alloc (.cells #[.int .i64 n, .slice A xs.length c] 36))) := (Ext.refl w).alloc _
  have HG0 := Lib.hid (Bx2.new w 36 (.int .i64 n) (.slice A xs.length c))
  have hpos : barB (soF n xs) = true → 0 < xs.length := fun h => by have := (barB_iff h).1.1; have := soF_len n xs; omega
  obtain ⟨R, hR⟩ : ∃ R, R = soF n xs := ⟨_, rfl⟩
  obtain ⟨v, hv⟩ : ∃ v, v = barB (soF n xs) := ⟨_, rfl⟩
  have hB : bofB n xs = (v && decide (xs.getD 0 0 = 0)) := by unfold bofB; rw [hv]
  have hF : bofF n xs = if (v && decide (xs.getD 0 0 = 0)) = true then R else [] := by unfold bofF; rw [hB, hR]
  rw [hF, hB]
  rw [← hv] at CB hpos
  rw [← hR] at CS CB
  have HP := Lib.hid hpos
  obtain ⟨l, hll⟩ : ∃ l, l = xs.length := ⟨_, rfl⟩
  have HL := Lib.hid hll
  rw [← hll] at CS HX0 HG0 HP ⊢
  clear hr hl hpos hR hv hB hF hll
  cases v with
  | false =>
    rw [Bool.false_and]
    show Calls Try.prog 42 _ w (RetIB w [] false)
    go_enter Try.func42, Try.ntmps42
    go_wp2_with fail
    refine (CS.out _ (HR.out.ext HX0.out)).mono ?_
    rintro e w1 ⟨A2, c2, rfl, ho, he⟩
    have HX := Lib.hid (HX0.out.trans he)
    have HO := Lib.hid ho
    obtain ⟨q, hq⟩ : ∃ q, q = R.length := ⟨_, rfl⟩
    rw [← hq] at CB ⊢
    clear ho he hq
    go_wp2_with fail
    refine (CB.out _ _ _ HO.out.rd).mono ?_
    rintro e w2 ⟨rfl, he⟩
    have HX2 := Lib.hid (HX.out.trans he)
    clear he
    go_wp2_with fail
    go_ret2
    exact ⟨none, 0, rfl, OwI.nil _ _, HX2.out⟩
  | true =>
    rw [Bool.true_and]
    have hl0 : 0 < l := HP.out rfl
    have hl1 : (0 : Int) < l := by omega
    obtain ⟨x, hx⟩ : ∃ x, x = xs.getD 0 0 := ⟨_, rfl⟩
    rw [← hx]
    have HC0 : Hid (∀ W, Ext w W → ∃ b o, A = some ⟨b, o, none⟩ ∧ W.cell? ⟨b, o, none⟩ = some (.int .i64 x)) := fun W hW => by
      obtain ⟨b, o, hA, hc⟩ := (HR.out.ext hW).at_ 0 (by rw [← HL.out]; exact hl0)
      exact ⟨b, o, hA, by rw [hx]; exact hc⟩
    clear hx HP
    by_cases hx0 : x = 0
    · rw [decide_eq_true hx0]
      show Calls Try.prog 42 _ w (RetIB w R true)
      subst hx0
      go_enter Try.func42, Try.ntmps42
      go_wp2_with fail
      refine (CS.out _ (HR.out.ext HX0.out)).mono ?_
      rintro e w1 ⟨A2, c2, rfl, ho, he⟩
      have HX := Lib.hid (HX0.out.trans he)
      have HG := Lib.hid (HG0.out.ext he)
      have HO := Lib.hid (ho.lower HX0.out.size)
      obtain ⟨q, hq⟩ : ∃ q, q = R.length := ⟨_, rfl⟩
      have HQ := Lib.hid hq
      rw [← hq] at CB ⊢
      clear ho he hq
      go_wp2_with fail
      refine (CB.out _ _ _ HO.out.rd).mono ?_
      rintro e w2 ⟨rfl, he⟩
      have HX2 := Lib.hid (HX.out.trans he)
      have HG2 := Lib.hid (HG.out.ext he)
      have HO2 := Lib.hid (HO.out.ext he)
      clear he
      obtain ⟨q0, q1, p0, p1⟩ := HG2.out.cells
      obtain ⟨b, o, hA, hc⟩ := HC0.out _ HX2.out
      subst hA
      go_wp2_with fail
      go_ret2
      exact ⟨A2, c2, by rw [HQ.out]; rfl, HO2.out, HX2.out⟩
    · rw [decide_eq_false hx0]
      show Calls Try.prog 42 _ w (RetIB w [] false)
      have hxb : (x != 0) = true := by simpa using hx0
      go_enter Try.func42, Try.ntmps42
      go_wp2_with fail
      refine (CS.out _ (HR.out.ext HX0.out)).mono ?_
      rintro e w1 ⟨A2, c2, rfl, ho, he⟩
      have HX := Lib.hid (HX0.out.trans he)
      have HG := Lib.hid (HG0.out.ext he)
      have HO := Lib.hid (ho.lower HX0.out.size)
      obtain ⟨q, hq⟩ : ∃ q, q = R.length := ⟨_, rfl⟩
      rw [← hq] at CB ⊢
      clear ho he hq
      go_wp2_with fail
      refine (CB.out _ _ _ HO.out.rd).mono ?_
      rintro e w2 ⟨rfl, he⟩
      have HX2 := Lib.hid (HX.out.trans he)
      have HG2 := Lib.hid (HG.out.ext he)
      clear he
      obtain ⟨q0, q1, p0, p1⟩ := HG2.out.cells
      obtain ⟨b, o, hA, hc⟩ := HC0.out _ HX2.out
      subst hA
      go_wp2_with fail
      go_ret2
      exact ⟨none, 0, rfl, OwI.nil _ _, HX2.out⟩
end Go.Proofs.Ytedlmidhakmgpaa
