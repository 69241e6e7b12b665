/- Contracts of IsLeastRotation. -/
import Derived.Test.YtphpdanohooccaaGreatDoorFromN
import Derived.Test.YtphpdanohooccaaGreatDoorLeast
namespace Go.Proofs.YtphpdanohooccaaGreatDoor
open Go.RowKit

def lsB (n : Nat) (xs : List Int) : Bool := decide (lrF n xs n = xs)
set_option maxHeartbeats 2000000 in
theorem ilI_any (n : Nat) (A : Option Addr) (c : Nat) (xs : List Int) (w : World) (hr : RdI w A xs) (hb : rhyB n xs = true) :
    Calls Tryz.prog 14 #[.agg #[.int .i64 n, .slice A xs.length c]] w fun e w' => e = .returned (.bool (lsB n xs)) ∧ Ext w w' := by
  have hn := (rhyB_iff hb).1
  have hxl := rhy_short hb
  obtain ⟨l, hll⟩ : ∃ l, l = xs.length := ⟨_, rfl⟩
  obtain ⟨ys, hys⟩ : ∃ ys, ys = lrF n xs n := ⟨_, rfl⟩
  have hyl : ys.length ≤ 24 := by rw [hys]; exact rhy_short (n := n) (lrF_rhy (by omega) (by omega) n)
  obtain ⟨b, hbb⟩ : ∃ b, b = lsB n xs := ⟨_, rfl⟩
  have CO : Hid (∀ W : World, Ext w W → Calls Tryz.prog 28 #[.agg #[.int .i64 n, .slice A l c]] W fun e w' => e = .returned (.bool true) ∧ Ext W w') := fun W he => by rw [hll, ← hb]; exact rhyI_any A c n xs W (hr.ext he) (by omega)
  have CL : Hid (∀ W : World, Ext w W → Calls Tryz.prog 41 #[.agg #[.int .i64 n, .slice A l c]] W (RetR W ((n : Int), ys))) := fun W he => by rw [hll, hys]; exact lrI_any n A c xs W (hr.ext he) hb
  have CS : Hid (∀ (D : Option Addr) (q : Nat) (W : World), Ext w W → RdI W D ys → Calls Tryz.prog 27 #[.agg #[.int .i64 n, .slice D ys.length q], .agg #[.int .i64 n, .slice A l c]] W fun e w' => e = .returned (.bool b) ∧ Ext W w') := fun D q W he h => by
    rw [hll, hbb, show lsB n xs = decide (ys = xs) by rw [hys]; rfl]
    exact equals_any n D A q c ys xs W h (hr.ext he) (by omega) (by omega)
  have HX0 : Hid (Ext w (w.alloc (.cells #[.int .i64 n, .slice A l c] 25))) := (Ext.refl w).alloc _
  have HG0 := Lib.hid (Bx2.new w 25 (.int .i64 n) (.slice A l c))
  rw [← hll, ← hbb]
  clear hll hr hb hxl hys hyl hbb
  go_enter Tryz.func14, Tryz.ntmps14
  go_wp2_with fail
  obtain ⟨q0, q1, p0, p1⟩ := HG0.out.cells
  clear p0 p1
  obtain ⟨W, hW⟩ : ∃ W, W = (w.alloc (.cells #[.int .i64 n, .slice A l c] 25)) := ⟨_, rfl⟩
  rw [← hW] at q0 q1 HX0 HG0 ⊢
  clear hW
  go_region_held3 (fun V => V.cell? ⟨w.heap.size, 0, none⟩ = some (.int .i64 n) ∧ V.cell? ⟨w.heap.size, 1, none⟩ = some (.slice A l c))
    (first | exact ⟨q0, q1⟩ | exact ⟨Ext.cell e1 q0, Ext.cell e1 q1⟩ | exact ⟨Ext.cell e2 (Ext.cell e1 q0), Ext.cell e2 (Ext.cell e1 q1)⟩ | exact ⟨Ext.cell e3 (Ext.cell e2 (Ext.cell e1 q0)), Ext.cell e3 (Ext.cell e2 (Ext.cell e1 q1))⟩)
    (first
      | (go_at_call 28; refine (CO.out (World.drew W) HX0.out.drew).mono ?_; rintro e w1 ⟨rfl, e1⟩)
      | (go_at_call 41; refine (CL.out w1 (HX0.out.drew.trans e1)).mono ?_; intro e w2 hret; obtain ⟨D, d, rfl, o2, e2⟩ := hret.parts; clear hret)
      | (go_at_call 27; refine (CS.out D d w2 ((HX0.out.drew.trans e1).trans e2) o2.rd).mono ?_; rintro e w3 ⟨rfl, e3⟩))
  have HX := Lib.hid (((HX0.out.drew.trans e1).trans e2).trans e3)
  clear e1 e2 e3 o2 q0 q1 HX0 HG0
  go_wp2_with fail
  go_ret
  exact ⟨rfl, HX.out⟩
end Go.Proofs.YtphpdanohooccaaGreatDoor
