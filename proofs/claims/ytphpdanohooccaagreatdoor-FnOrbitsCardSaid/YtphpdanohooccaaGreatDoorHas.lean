/- Contracts of has, HasBeat, CountBeats. -/
import Derived.Test.YtphpdanohooccaaGreatDoorRhyB
import Derived.Test.YtphpdanohooccaaGreatDoorRhy
import Derived.Test.YtphpdanohooccaaGreatDoorInts
import Derived.Deep.RegionHeld3
namespace Go.Proofs.YtphpdanohooccaaGreatDoor
open Go.RowKit

set_option maxHeartbeats 1000000 in
theorem rhas_any (n : Nat) (A : Option Addr) (c : Nat) (xs : List Int) (k : Int) (w : World) (hr : RdI w A xs) (hn : 1 ≤ n ∧ n ≤ 24) (hl : xs.length ≤ 24) (hk : -1000 ≤ k ∧ k ≤ 1000) :
    Calls Tryz.prog 65 #[.agg #[.int .i64 n, .slice A xs.length c], .int .i64 k] w fun e w' => e = .returned (.bool (xs.contains (k % (n : Int)))) ∧ Ext w w' := by
  obtain ⟨l, hll⟩ : ∃ l, l = xs.length := ⟨_, rfl⟩
  obtain ⟨W, hW⟩ : ∃ W, W = w.alloc (.cells #[.int .i64 n, .slice A l c] 25) := ⟨_, rfl⟩
  obtain ⟨r, hrr⟩ : ∃ r, r = k % (n : Int) := ⟨_, rfl⟩
  obtain ⟨R, hR⟩ : ∃ R, R = xs.contains r := ⟨_, rfl⟩
  have HX0 : Hid (Ext w W) := by rw [hW]; exact (Ext.refl w).alloc _
  have HG0 : Hid (Bx2 W w.heap.size 25 (.int .i64 n) (.slice A l c)) := by rw [hW]; exact Bx2.new w _ _ _
  have CM : Hid (∀ V : World, Calls Tryz.prog 38 #[.int .i64 k, .int .i64 n] V fun e w' => e = .returned (.int .i64 r) ∧ ∃ q, w' = V.drewN q) := fun V => by
    rw [hrr]
    exact modI_any _ _ V (by omega) (by omega)
  have CC : Hid (∀ V : World, Ext w V → Calls Tryz.prog 79 #[.slice A l c, .int .i64 r] V fun e w' => e = .returned (.bool R) ∧ V = w') := fun V he => by
    have := slContains_any A c xs r V (hr.ext he) (by omega)
    rw [hll, hR, List.contains_eq_mem]
    exact this
  rw [← hll, ← hrr, ← hR]
  have HW := Lib.hid hW
  clear hll hrr hR hW hr hl
  go_enter Tryz.func65, Tryz.ntmps65
  go_wp2_with fail
  rw [← HW.out]
  obtain ⟨q0, q1, p0, p1⟩ := HG0.out.cells
  go_wp2_with fail
  go_quiet ((first | (go_at_call 38; exact quiet_draws (CM.out _)) | (go_at_call 79; exact quiet_same (CC.out _ (HX0.out.drewN _)))))
  go_wp2_with fail
  go_ret
  exact ⟨rfl, by first | exact HX0.out.drewN _ | exact HX0.out⟩
set_option maxHeartbeats 1000000 in
theorem cbeI_any (n : Nat) (A : Option Addr) (c : Nat) (xs : List Int) (w : World) (hr : RdI w A xs) (hb : rhyB n xs = true) :
    Calls Tryz.prog 15 #[.agg #[.int .i64 n, .slice A xs.length c]] w fun e w' => e = .returned (.int .i64 xs.length) ∧ Ext w w' := by
  have hn := (rhyB_iff hb).1
  have hxl := rhyB_len hb
  obtain ⟨l, hll⟩ : ∃ l, l = xs.length := ⟨_, rfl⟩
  have CO : Hid (∀ W : World, Ext w W → Calls Tryz.prog 28 #[.agg #[.int .i64 n, .slice A l c]] W fun e w' => e = .returned (.bool true) ∧ Ext W w') := fun W he => by rw [hll, ← hb]; exact rhyI_any A c n xs W (hr.ext he) (by omega)
  obtain ⟨W, hW⟩ : ∃ W, W = (w.alloc (.cells #[.int .i64 n, .slice A l c] 25)) := ⟨_, rfl⟩
  have HX0 : Hid (Ext w W) := by rw [hW]; exact (Ext.refl w).alloc _
  have HG0 : Hid (Bx2 W w.heap.size 25 (.int .i64 n) (.slice A l c)) := by rw [hW]; exact Bx2.new w _ _ _
  rw [← hll]
  have HW := Lib.hid hW
  clear hll hr hb hxl hW
  go_enter Tryz.func15, Tryz.ntmps15
  go_wp2_with fail
  rw [← HW.out]
  obtain ⟨q0, q1, p0, p1⟩ := HG0.out.cells
  go_wp2_with fail
  refine (CO.out _ HX0.out).mono ?_
  rintro e w1 ⟨rfl, e1⟩
  have HX1 := Lib.hid (HX0.out.trans e1)
  have HG1 := Lib.hid (HG0.out.ext e1)
  clear e1 q0 q1 p0 p1
  obtain ⟨q0, q1, p0, p1⟩ := HG1.out.cells
  go_wp2_with fail
  go_ret
  exact ⟨rfl, HX1.out⟩
end Go.Proofs.YtphpdanohooccaaGreatDoor
