/- Contract of slices.Clone at []int. -/
import Derived.Test.YtphpdanohooccaaGreatDoorOwn
import Derived.Test.YtphpdanohooccaaGreatDoorInts
import Derived.Lib.SliceRun
namespace Go.Proofs.YtphpdanohooccaaGreatDoor
open Go.RowKit

theorem clone_any (A : Option Addr) (c : Nat) (xs : List Int) (w : World) (hr : RdI w A xs) (hn : xs.length ≤ 1048576) :
    Calls Tryz.prog 51 #[.slice A xs.length c] w (RetI w xs) := by
  have hq : ∀ (w : World) (a : Option Addr) (n c n' c' : Nat), (binOp .eql 23 (.slice a n c) (.slice none n' c')).run Tryz.prog w = .ok (.bool a.isNone) w := fun w a n c n' c' => Lib.run_eql_slice_nil w _ _ a n c n' c' Tryz.underlying23
  cases A with
  | none =>
    have hx : xs = [] := by
      rcases Nat.eq_zero_or_pos xs.length with h0 | h0
      · exact List.length_eq_zero_iff.1 h0
      · obtain ⟨b, o, e, _⟩ := hr.2 h0; simp at e
    subst hx
    go_enter Tryz.func51, Tryz.ntmps51
    go_wp2_with fail
    go_ret
    exact RetI.nil (Ext.refl w)
  | some ad =>
    obtain ⟨n, hnn⟩ : ∃ n, n = xs.length := ⟨_, rfl⟩
    have HN := Lib.hid hnn
    have HR := Lib.hid hr
    rw [← hnn] at hn ⊢
    clear hnn hr
    go_enter Tryz.func51, Tryz.ntmps51
    go_wp2_with (at_builtin; refine app_ints w rfl _ _ rfl _ _ 0 [] (some ad) n c xs rfl rfl rfl HN.out.symm (OwI.empty w) (HR.out.ext ((Ext.refl w).alloc _)) ((Ext.refl w).alloc _) (by omega) ?_; intro A' c' w2 h1 h2 _; have HO2 := Lib.hid h1; have HE2 := Lib.hid h2; clear h1 h2)
    go_ret
    exact ⟨A', c', by rw [← HN.out]; rfl, HO2.out, HE2.out⟩

end Go.Proofs.YtphpdanohooccaaGreatDoor
