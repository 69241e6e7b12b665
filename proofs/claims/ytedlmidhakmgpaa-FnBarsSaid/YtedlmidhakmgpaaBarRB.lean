/- Contracts of BarRhythm. -/
import Derived.Test.YtedlmidhakmgpaaBarR
namespace Go.Proofs.Ytedlmidhakmgpaa
open Go.RowKit

/-- The answer of BarRhythm. -/
def brF (xs : List Int) : Int × List Int := if barB xs = true then (xs.sum, preF xs 0) else (0, [])

set_option maxHeartbeats 1000000 in
theorem brS_any (A : Option Addr) (c : Nat) (xs : List Int) (w : World) (hr : RdI w A xs) (hn : xs.length ≤ 1048576) :
    Calls Try.prog 28 #[.slice A xs.length c] w (RetRB w (brF xs) (barB xs)) := by
  have HR := Lib.hid hr
  have CB : Hid (∀ w, RdI w A xs → Calls Try.prog _ #[.slice A xs.length c] w fun e w' => e = .returned (.bool (barB xs)) ∧ Ext w w') := fun w h => barS_ext A c xs w h (by omega)
  have HX0 : Hid (Ext w (w.alloc (.cells #[.int .i64 0, .slice none 0 0] 36))) := (Ext.refl w).alloc _
  have HG0 := Lib.hid (Bx2.new w 36 (.int .i64 0) (.slice none 0 0))
  by_cases hb : barB xs = true
  · have e : brF xs = (xs.sum, preF xs 0) := by unfold brF; rw [if_pos hb]
    rw [e]
    have CF : Hid (∀ w, RdI w A xs → Calls Try.prog _ #[.slice A xs.length c, .int .i64 0] w (RetRB w (xs.sum, preF xs 0) true)) := fun w h => fromS_bar A c xs w h hb
    obtain ⟨S, hS⟩ : ∃ S, S = xs.sum := ⟨_, rfl⟩
    obtain ⟨zs, hz⟩ : ∃ zs, zs = preF xs 0 := ⟨_, rfl⟩
    obtain ⟨n, hnn⟩ : ∃ n, n = xs.length := ⟨_, rfl⟩
    rw [← hS, ← hz] at CF ⊢
    rw [← hnn] at CF CB ⊢
    rw [hb] at CB ⊢
    clear e hr hn hb hS hz hnn
    go_enter Try.func28, Try.ntmps28
    go_wp2_with fail
    refine (CB.out _ (HR.out.ext HX0.out)).mono ?_
    rintro e w1 ⟨rfl, he⟩
    have HX := Lib.hid (HX0.out.trans he)
    have HG := Lib.hid (HG0.out.ext he)
    clear he
    go_wp2_with fail
    refine (CF.out _ (HR.out.ext HX.out)).mono ?_
    rintro e w2 ⟨v, rfl, ⟨A2, c2, rfl, A3, c3, e3, ho, _, _⟩, he⟩
    injection e3 with e31 _ e33
    subst e31 e33
    have HX2 := Lib.hid (HX.out.trans he)
    have HG2 := Lib.hid (HG.out.ext he)
    have HO := Lib.hid (ho.lower HX.out.size)
    have HNE := Lib.hid (HG2.out.ne (by decide) ho)
    clear he ho
    obtain ⟨q0, q1, p0, p1⟩ := HG2.out.cells
    go_wp2_with fail
    refine bodyPost_ret (v := .tuple #[.agg #[.int .i64 S, .slice A2 zs.length c2], .bool true]) (by simp [results, Try.results28, go_sem, q0, q1]) rfl ?_
    exact retRB_intro rfl ((HO.out.setFar (fun ad had => HNE.out ad had) _).setFar (fun ad had => HNE.out ad had) _) ((HX2.out.setCell (by simp) _).setCell (by simp) _)
  · have hb : barB xs = false := by simpa using hb
    have e : brF xs = (0, []) := by unfold brF; rw [hb]; rfl
    rw [e]
    obtain ⟨n, hnn⟩ : ∃ n, n = xs.length := ⟨_, rfl⟩
    rw [← hnn] at CB ⊢
    rw [hb] at CB ⊢
    clear e hr hn hb hnn
    go_enter Try.func28, Try.ntmps28
    go_wp2_with fail
    refine (CB.out _ (HR.out.ext HX0.out)).mono ?_
    rintro e w1 ⟨rfl, he⟩
    have HX := Lib.hid (HX0.out.trans he)
    have HG := Lib.hid (HG0.out.ext he)
    clear he
    obtain ⟨q0, q1, p0, p1⟩ := HG.out.cells
    go_wp2_with fail
    refine bodyPost_ret (v := .tuple #[.agg #[.int .i64 0, .slice none 0 0], .bool false]) (by simp [results, Try.results28, go_sem, q0, q1]) rfl ?_
    exact retRB_intro rfl (OwI.nil _ _) ((HX.out.setCell (by simp) _).setCell (by simp) _)
set_option maxHeartbeats 1000000 in
theorem brI_any (A : Option Addr) (c : Nat) (xs : List Int) (w : World) (hr : RdI w A xs) (hn : xs.length ≤ 1048576) :
    Calls Try.prog 29 #[.slice A xs.length c] w (RetRB w (brF xs) (barB xs)) := by
  have HR := Lib.hid hr
  have CB : Hid (∀ w, RdI w A xs → Calls Try.prog _ #[.slice A xs.length c] w fun e w' => e = .returned (.bool (barB xs)) ∧ Ext w w') := fun w h => barI_any A c xs w h (by omega)
  have HX0 : Hid (Ext w (w.alloc (.cells #[.int .i64 0, .slice none 0 0] 36))) := (Ext.refl w).alloc _
  have HG0 := Lib.hid (Bx2.new w 36 (.int .i64 0) (.slice none 0 0))
  by_cases hb : barB xs = true
  · have e : brF xs = (xs.sum, preF xs 0) := by unfold brF; rw [if_pos hb]
    rw [e]
    have CF : Hid (∀ w, RdI w A xs → Calls Try.prog _ #[.slice A xs.length c, .int .i64 0] w (RetRB w (xs.sum, preF xs 0) true)) := fun w h => fromI_bar A c xs w h hb
    obtain ⟨S, hS⟩ : ∃ S, S = xs.sum := ⟨_, rfl⟩
    obtain ⟨zs, hz⟩ : ∃ zs, zs = preF xs 0 := ⟨_, rfl⟩
    obtain ⟨n, hnn⟩ : ∃ n, n = xs.length := ⟨_, rfl⟩
    rw [← hS, ← hz] at CF ⊢
    rw [← hnn] at CF CB ⊢
    rw [hb] at CB ⊢
    clear e hr hn hb hS hz hnn
    go_enter Try.func29, Try.ntmps29
    go_wp2_with fail
    refine (CB.out _ (HR.out.ext HX0.out)).mono ?_
    rintro e w1 ⟨rfl, he⟩
    have HX := Lib.hid (HX0.out.trans he)
    have HG := Lib.hid (HG0.out.ext he)
    clear he
    go_wp2_with fail
    refine (CF.out _ (HR.out.ext HX.out)).mono ?_
    rintro e w2 ⟨v, rfl, ⟨A2, c2, rfl, A3, c3, e3, ho, _, _⟩, he⟩
    injection e3 with e31 _ e33
    subst e31 e33
    have HX2 := Lib.hid (HX.out.trans he)
    have HG2 := Lib.hid (HG.out.ext he)
    have HO := Lib.hid (ho.lower HX.out.size)
    have HNE := Lib.hid (HG2.out.ne (by decide) ho)
    clear he ho
    obtain ⟨q0, q1, p0, p1⟩ := HG2.out.cells
    go_wp2_with fail
    refine bodyPost_ret (v := .tuple #[.agg #[.int .i64 S, .slice A2 zs.length c2], .bool true]) (by simp [results, Try.results29, go_sem, q0, q1]) rfl ?_
    exact retRB_intro rfl ((HO.out.setFar (fun ad had => HNE.out ad had) _).setFar (fun ad had => HNE.out ad had) _) ((HX2.out.setCell (by simp) _).setCell (by simp) _)
  · have hb : barB xs = false := by simpa using hb
    have e : brF xs = (0, []) := by unfold brF; rw [hb]; rfl
    rw [e]
    obtain ⟨n, hnn⟩ : ∃ n, n = xs.length := ⟨_, rfl⟩
    rw [← hnn] at CB ⊢
    rw [hb] at CB ⊢
    clear e hr hn hb hnn
    go_enter Try.func29, Try.ntmps29
    go_wp2_with fail
    refine (CB.out _ (HR.out.ext HX0.out)).mono ?_
    rintro e w1 ⟨rfl, he⟩
    have HX := Lib.hid (HX0.out.trans he)
    have HG := Lib.hid (HG0.out.ext he)
    clear he
    obtain ⟨q0, q1, p0, p1⟩ := HG.out.cells
    go_wp2_with fail
    refine bodyPost_ret (v := .tuple #[.agg #[.int .i64 0, .slice none 0 0], .bool false]) (by simp [results, Try.results29, go_sem, q0, q1]) rfl ?_
    exact retRB_intro rfl (OwI.nil _ _) ((HX.out.setCell (by simp) _).setCell (by simp) _)
end Go.Proofs.Ytedlmidhakmgpaa
