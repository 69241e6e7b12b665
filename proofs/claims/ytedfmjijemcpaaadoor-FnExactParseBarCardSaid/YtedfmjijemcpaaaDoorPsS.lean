/- The reference's SplitAny at one separator. -/
import Derived.Test.YtedfmjijemcpaaaDoorPsQ
import Derived.Test.YtedfmjijemcpaaaDoorNumT
import Derived.Laws.Strings3
import Derived.BigQuiet
namespace Go.Proofs.YtedfmjijemcpaaaDoor
open Go.RowKit

def RetW (w : World) (ll : List (List UInt8)) (e : Ending) (w' : World) : Prop := ∃ A d ws, e = .returned (.slice A (ws.length) d) ∧ OwT w' w.heap.size A d ws ∧ ws.length ≤ 1048577 ∧ ws.map (·.data.toList) = ll ∧ Ext w w'
set_option maxHeartbeats 2000000 in
theorem spS_any (s : ByteArray) (c : UInt8) (w : World) (hs : s.size ≤ 1048576) :
    Calls Tryd.prog 27 #[.string s, .string ⟨#[c]⟩] w (RetW w (splitL c s.data.toList)) := by
  obtain ⟨b, hb⟩ : ∃ b : ByteArray, b = ⟨#[c]⟩ := ⟨_, rfl⟩
  have hbs : b.size = 1 := by rw [hb]; rfl
  have hb0 : b[0] = c := by subst hb; rfl
  rw [← hb]
  clear hb
  go_enter Tryd.func27, Tryd.ntmps27
  go_wp2_with fail
  go_loopw [5, 6, 7] (fun o f i wr => ∃ (j fr : Nat) (B : Option Addr) (d : Nat) (ws : List ByteArray), j ≤ s.size ∧ i = .int .i64 j ∧ f = .int .i64 fr ∧ o = .slice B ws.length d ∧ Hid (CutAt c s j fr ws) ∧ Hid (OwT wr w.heap.size B d ws) ∧ Hid (Ext w wr)) (fun _ _ i _ => s.size - (intOf i).toNat)
  case atStart => exact ⟨0, 0, _, _, [], by omega, rfl, rfl, rfl, CutAt.start c s, OwT.empty _, (Ext.refl w).alloc _⟩
  case round =>
    obtain ⟨j, fr, B, d, ws, hj, rfl, rfl, rfl, HC, HO, HE⟩ := hrel
    by_cases hlt : j < s.size
    · have hjz : (j : Int) < (s.size : Int) := by omega
      obtain ⟨x, hx⟩ : ∃ x : UInt8, s[j] = x := ⟨_, rfl⟩
      by_cases hxc : x = c
      · have hxe : ((x.toNat : Int) == (c.toNat : Int)) = true := by rw [hxc]; exact beq_self_eq_true _
        have HC2 := Lib.hid (HC.out.cut hlt (by rw [hx]; exact hxc))
        have hle := HC.out.le
        have hlen := HC.out.len
        have hfz : (fr : Int) ≤ (j : Int) := by omega
        have hjs : (j : Int) ≤ (s.size : Int) := by omega
        go_wp2_with fail
        go_loopw [5, 6, 8] (fun o f k wq => o = .slice B ws.length d ∧ f = .int .i64 fr ∧ k = .int .i64 0 ∧ wq = wr) (fun _ _ _ _ => 0)
        case atStart => exact ⟨rfl, rfl, rfl, rfl⟩
        case round =>
          obtain ⟨rfl, rfl, rfl, rfl⟩ := hrel
          go_wp2_with fail
          go_quiet (fail)
          have HE2 : Hid (Ext w (World.drewN wr nq)) := HE.out.drewN nq
          have HO2 : Hid (OwT (World.drewN wr nq) w.heap.size B d ws) := HO.out.ext ((Ext.refl _).drewN nq)
          go_wp2_with (at_builtin; refine app_strs w rfl _ _ rfl B d ws.length ws _ 1 1 [s.extract fr j] rfl rfl rfl rfl (HO2.out.ext ((Ext.refl _).alloc _)) (RdT.built _ [s.extract fr j]) (HE2.out.alloc _) (by omega) ?_; intro A' c' w3 h1 h2 h3; have HO3 := Lib.hid h1; have HE3 := Lib.hid h2; clear h1 h2 h3)
          go_roundw
          case rel => exact ⟨j + 1, j + 1, A', c', ws ++ [s.extract fr j], by omega, by go_num, by go_num, by rw [List.length_append]; exact rfl, HC2.out, HO3.out, HE3.out⟩
          case measure => simp [intOf]; omega
      · have hxe : ((x.toNat : Int) == (c.toNat : Int)) = false := by
          rw [beq_eq_false_iff_ne]
          intro e
          exact hxc (UInt8.toNat_inj.1 (by omega))
        have HC2 := Lib.hid (HC.out.stay hlt (by rw [hx]; exact hxc))
        go_wp2_with fail
        go_loopw [5, 6, 8] (fun o f k wq => o = .slice B ws.length d ∧ f = .int .i64 fr ∧ (∃ q : Nat, q ≤ 1 ∧ k = .int .i64 q) ∧ Hid (OwT wq w.heap.size B d ws) ∧ Hid (Ext w wq)) (fun _ _ k _ => 1 - (intOf k).toNat)
        case atStart => exact ⟨rfl, rfl, ⟨0, by omega, rfl⟩, HO.out, HE.out⟩
        case round =>
          obtain ⟨rfl, rfl, ⟨q, hq, rfl⟩, HO2, HE2⟩ := hrel
          by_cases hq0 : q = 0
          · subst hq0
            go_wp2_with fail
            go_quiet (fail)
            go_wp2_with fail
            go_roundw
            case rel => exact ⟨rfl, rfl, ⟨1, by omega, rfl⟩, HO2.out.ext ((Ext.refl _).drewN _), HE2.out.drewN _⟩
            case measure => simp [intOf]
          · obtain rfl : q = 1 := by omega
            go_wp2_with fail
            go_roundw
            case rel => exact ⟨j + 1, fr, B, d, ws, by omega, by go_num, rfl, rfl, HC2.out, HO2.out, HE2.out⟩
            case measure => simp [intOf]; omega
    · obtain rfl : j = s.size := by omega
      have hle := HC.out.le
      have hlen := HC.out.len
      have hfz : (fr : Int) ≤ (s.size : Int) := by omega
      have HF := Lib.hid HC.out.done
      go_wp2_with (at_builtin; refine app_strs w rfl _ _ rfl B d ws.length ws _ 1 1 [s.extract fr s.size] rfl rfl rfl rfl (HO.out.ext ((Ext.refl _).alloc _)) (RdT.built _ [s.extract fr s.size]) (HE.out.alloc _) (by omega) ?_; intro A' c' w3 h1 h2 h3; have HO3 := Lib.hid h1; have HE3 := Lib.hid h2; clear h1 h2 h3)
      go_ret
      exact ⟨A', c', ws ++ [s.extract fr s.size], by rw [List.length_append]; exact rfl, HO3.out, by rw [List.length_append]; exact (by omega : ws.length + 1 ≤ 1048577), HF.out, HE3.out⟩
end Go.Proofs.YtedfmjijemcpaaaDoor
