/- The rhythm with a number, at all sizes: contract of rhythmAt. -/
import Derived.Test.YtnhppeknkeblfaaAt
namespace Go.Proofs.Ytnhppeknkeblfaa
open Go.RowKit

theorem at_bitG {c k : Nat} (hc : c < 16777216) : bits .and .i64 ((c : Int) / 2 ^ k) 1 = if c / 2 ^ k % 2 = 1 then 1 else 0 := by
  have h3 : ((c / 2 ^ k : Nat) : Int) = (c : Int) / 2 ^ k := by rw [Int.natCast_ediv]; simp
  have h1 : c / 2 ^ k < 16777216 := Nat.lt_of_le_of_lt (Nat.div_le_self _ _) hc
  rw [← h3]
  generalize c / 2 ^ k = q at h1
  have h2 := bits_mask .i64 62 (by decide) (fun n h0 h1 => IntWalk.i64_in _ (by omega)) 1 (by decide) (q : Int) (by omega) (by omega)
  rw [show ((2 : Int) ^ 1 - 1) = 1 by decide, show ((2 : Int) ^ 1) = 2 by decide] at h2
  rw [h2]
  split <;> omega
set_option maxHeartbeats 2000000 in
theorem atG_any (n c : Nat) (w : World) (hn : 1 ≤ n ∧ n ≤ 24) (hc : c < 16777216) :
    Calls Try.prog 48 #[.int .i64 n, .int .i64 c] w (RetR w ((n : Int), atL n c)) := by
  obtain ⟨P, hP⟩ : ∃ P : Nat → Bool, P = atP n c := ⟨_, rfl⟩
  unfold atL
  rw [← hP]
  have HPP := Lib.hid hP
  clear hP
  go_enter Try.func48, Try.ntmps48
  go_wp2_with fail
  go_loopw [10] (fun i wr => ∃ (p m : Nat) (B : Option Addr) (d : Nat), p ≤ n ∧ m ≤ p ∧ i = .int .i64 p ∧ Hid ((setL p P).length = m) ∧ Hid (Bx2 wr (w.heap.size + 1) 27 (.int .i64 n) (.slice B m d)) ∧ Hid (Bx2 wr w.heap.size 27 (.int .i64 0) (.slice none 0 0)) ∧ Hid (OwI wr w.heap.size B d (setL p P)) ∧ Hid (Ext w wr)) (fun i _ => n - (intOf i).toNat)
  case atStart =>
    exact ⟨0, 0, none, 0, by omega, by omega, rfl, rfl, Bx2.new1' _ _ _ _ _, (Bx2.new w _ _ _).ext ((Ext.refl _).alloc _), OwI.nil _ _, ((Ext.refl w).alloc _).alloc _⟩
  case round =>
    obtain ⟨p, m, B, d, hp, hm, rfl, HM, HB, HG, HO, HE⟩ := hrel
    by_cases hlt : p < n
    · have HS := Lib.hid (setL_succ p P)
      obtain ⟨b, hb⟩ : ∃ b, b = P p := ⟨_, rfl⟩
      have hbit := at_bitG (k := n - 1 - p) hc
      have HB0 : Hid (b = decide (c / 2 ^ (n - 1 - p) % 2 = 1)) := by rw [hb, HPP.out]; exact rfl
      rw [← hb] at HS
      clear hb
      cases b
      · have HS2 : Hid (setL (p + 1) P = setL p P) := HS.out
        have hne : ¬ (c / 2 ^ (n - 1 - p) % 2 = 1) := of_decide_eq_false HB0.out.symm
        rw [if_neg hne] at hbit
        clear hne
        go_wp2_with fail
        go_roundw
        case rel => exact ⟨p + 1, m, B, d, by omega, by omega, by go_num, by rw [HS2.out]; exact HM.out, HB.out, HG.out, by rw [HS2.out]; exact HO.out, HE.out⟩
        case measure => simp [intOf]; omega
      · have HS2 : Hid (setL (p + 1) P = setL p P ++ [(p : Int)]) := HS.out
        have hne : c / 2 ^ (n - 1 - p) % 2 = 1 := of_decide_eq_true HB0.out.symm
        rw [if_pos hne] at hbit
        clear hne
        obtain ⟨q0, q1, p0, p1⟩ := HB.out.cells
        go_wp2_with (at_builtin; refine app_ints w rfl _ _ rfl B d m (setL p P) _ 1 1 [(p : Int)] rfl rfl HM.out rfl (HO.out.ext ((Ext.refl _).alloc _)) (RdI.built wr [(p : Int)]) (HE.out.alloc _) (by omega) ?_; intro A' c' w2 h1 h2 h3; have HO2 := Lib.hid h1; have HE3 := Lib.hid h2; have HB2 := Lib.hid ((HB.out.ext ((Ext.refl _).alloc _)).grown (by decide) (HO.out.ext ((Ext.refl _).alloc _)) h3); have HG3 := Lib.hid ((HG.out.ext ((Ext.refl _).alloc _)).grown (by decide) (HO.out.ext ((Ext.refl _).alloc _)) h3); obtain ⟨r0, r1, s0, s1⟩ := HB2.out.cells; clear h1 h2 h3)
        go_roundw
        case rel =>
          exact ⟨p + 1, m + 1, A', c', by omega, by omega, by go_num, by rw [HS2.out, List.length_append, HM.out]; exact rfl, HB2.out.set1 _, HG3.out.far (by simp only []; omega) _,
            by rw [HS2.out]; exact HO2.out.setFar (fun ad had => HB2.out.ne (by decide) HO2.out ad had) _, HE3.out.setCell (by simp only []; omega) _⟩
        case measure => simp [intOf]; omega
    · obtain rfl : p = n := by omega
      obtain ⟨q0, q1, p0, p1⟩ := HB.out.cells
      obtain ⟨z0, z1, y0, y1⟩ := HG.out.cells
      have HNE := Lib.hid (HG.out.ne (by decide) HO.out)
      go_wp2_with fail
      refine bodyPost_ret (v := .agg #[.int .i64 p, .slice B m d]) (by simp [results, Try.results48, go_sem, z0, z1]) rfl ?_
      exact retR_intro HM.out.symm ((HO.out.setFar (fun ad had => HNE.out ad had) _).setFar (fun ad had => HNE.out ad had) _) ((HE.out.setCell (by simp) _).setCell (by simp) _)
end Go.Proofs.Ytnhppeknkeblfaa
