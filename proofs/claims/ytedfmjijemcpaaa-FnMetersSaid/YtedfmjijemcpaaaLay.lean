/- Contract of layer: k beats with equal steps. -/
import Derived.Test.YtedfmjijemcpaaaEven
namespace Go.Proofs.Ytedfmjijemcpaaa
open Go.RowKit

set_option maxHeartbeats 4000000 in
theorem layer_any (k n : Nat) (w : World) (h0 : 1 ≤ k) (h1 : n ≤ 24) (h2 : k ≤ n) :
    Calls Try.prog 33 #[.int .i64 k, .int .i64 n] w (RetR w ((n : Int), evL k n)) := by
  have HE1 : Hid (evP k n k = evL k n) := rfl
  go_enter Try.func33, Try.ntmps33
  go_wp2_with fail
  go_loopw [10] (fun i wr => ∃ (j : Nat) (B : Option Addr) (d : Nat), j ≤ k ∧ i = .int .i64 j ∧ Hid (Bx2 wr (w.heap.size + 1) 29 (.int .i64 n) (.slice B j d)) ∧ Hid (Bx2 wr w.heap.size 29 (.int .i64 0) (.slice none 0 0)) ∧ Hid (OwI wr w.heap.size B d (evP k n j)) ∧ Hid (Ext w wr)) (fun i _ => k - (intOf i).toNat)
  case atStart => exact ⟨0, none, 0, by omega, rfl, Bx2.new1' _ _ _ _ _, (Bx2.new w _ _ _).ext ((Ext.refl _).alloc _), OwI.nil _ _, ((Ext.refl w).alloc _).alloc _⟩
  case round =>
    obtain ⟨j, B, d, hj, rfl, HB, HQ, HO, HE⟩ := hrel
    obtain ⟨q0, q1, p0, p1⟩ := HB.out.cells
    by_cases hlt : j < k
    · obtain ⟨p, q, hpl, hql, hw, hd, htd, hwp, hwq, hw6, hw7, hS⟩ := ev_nums k n j h1 h2 hlt
      have HS := Lib.hid hS
      have hk1 : ¬ (k : Int) = 0 := by omega
      have hk2 : ¬ k = 0 := by omega
      clear hS
      have HLJ := Lib.hid (evP_len k n j)
      have HO2 : Hid (OwI (World.drew wr) w.heap.size B d (evP k n j)) := HO.out.ext (Ext.drew (Ext.refl _))
      have HE2 := Lib.hid HE.out.drew
      obtain ⟨u0, u1, v0, v1⟩ := (HB.out.ext ((Ext.refl wr).alloc (.cells #[.int .i64 q] 3))).cells
      clear q0 p0 p1 u0 v0 v1
      go_wp2_with fail
      go_region_law ((refine step_int2 w (World.drew wr) (by rfl) _ _ (by rfl) B d j (evP k n j) (q : Int) (World.drew wr).heap.size (by rfl) (by rfl) rfl HLJ.out HO2.out HE2.out (by omega) ?_; intro A' c' w2 h1 h2 h3; have HO3 := Lib.hid h1; have HE3 := Lib.hid h2; have HB3 := Lib.hid ((Bx2.ext (w := World.drew wr) HB.out ((Ext.refl _).alloc _)).grown (by decide) (HO2.out.ext ((Ext.refl _).alloc _)) h3); have HQ3 := Lib.hid ((Bx2.ext (w := World.drew wr) HQ.out ((Ext.refl _).alloc _)).grown (by decide) (HO2.out.ext ((Ext.refl _).alloc _)) h3); obtain ⟨r0, r1, s0, s1⟩ := HB3.out.cells; clear h1 h2 h3))
      all_goals clear hw hd htd hwp hwq hw6 hw7 hk1 hk2 q1 u1 r0 r1 s0 s1
      all_goals go_wp2_with fail
      all_goals (go_roundw
                 case rel => exact ⟨j + 1, A', c', by omega, by go_num, HB3.out.set1 _, HQ3.out.far (by simp only []; omega) _, by rw [HS.out]; exact HO3.out.setFar (fun ad had => HB3.out.ne (by decide) HO3.out ad had) _, HE3.out.setCell (by simp only []; omega) _⟩
                 case measure => simp [intOf]; omega)
    · obtain rfl : j = k := by omega
      have HNE : Hid (∀ ad, B = some ad → ad.block ≠ w.heap.size) := fun ad had => HQ.out.ne (by decide) HO.out ad had
      obtain ⟨z0, z1, y0, y1⟩ := HQ.out.cells
      have HLJ := Lib.hid (evP_len j n j)
      go_wp2_with fail
      refine bodyPost_ret (v := .agg #[.int .i64 n, .slice B j d]) (by simp [results, Try.results33, go_sem, z0, z1]) rfl ?_
      exact retR_intro (by rw [← HE1.out, HLJ.out]) ((HO.out.setFar HNE.out _).setFar HNE.out _) ((HE.out.setCell (by simp) _).setCell (by simp) _)
end Go.Proofs.Ytedfmjijemcpaaa
