/- strings.Trim at the moves' letters. -/
import Derived.Test.YtphpdanohooccaaGreatDoorShelf
import Derived.Test.YtphpdanohooccaaGreatDoorWd
import Derived.Shelf.Strings.SlTrimAscii
namespace Go.Proofs.YtphpdanohooccaaGreatDoor
open Go.RowKit Go.Shelf Go.Lib

theorem trim_any (s : ByteArray) (w : World) (hs : s.size ≤ 1048576) :
    Calls Tryz.prog 29 #[.string s, .string ⟨#[84, 77, 83]⟩] w fun e w' => e = .returned (.string ⟨(Lib.trimS s.data.toList [84, 77, 83]).toArray⟩) ∧ Ext w w' := by
  have hcon := Any.strings_Trim_laid Tryz.lays160 (by kernel_rfl) s ⟨#[84, 77, 83]⟩ w (by omega) (by decide) (ascii_of_all (by decide))
  exact hcon
theorem trim_empty (s : ByteArray) (h : s.data.toList.all inW = true) (hs : s.size ≤ 1048576) : ∃ r : ByteArray, r.toList.isEmpty = true ∧ ∀ w : World,
    Calls Tryz.prog 29 #[.string s, .string ⟨#[84, 77, 83]⟩] w fun e w' => e = .returned (.string r) ∧ Ext w w' := by
  have e : Lib.trimS s.data.toList [84, 77, 83] = [] := of_decide_eq_true ((trim_all _).trans h)
  refine ⟨⟨(Lib.trimS s.data.toList [84, 77, 83]).toArray⟩, ?_, fun w => trim_any s w hs⟩
  rw [ByteArray.toList_eq, e]
  rfl
theorem trim_full (s : ByteArray) (h : s.data.toList.all inW = false) (hs : s.size ≤ 1048576) : ∃ r : ByteArray, r.toList.isEmpty = false ∧ ∀ w : World,
    Calls Tryz.prog 29 #[.string s, .string ⟨#[84, 77, 83]⟩] w fun e w' => e = .returned (.string r) ∧ Ext w w' := by
  have e : Lib.trimS s.data.toList [84, 77, 83] ≠ [] := of_decide_eq_false ((trim_all _).trans h)
  refine ⟨⟨(Lib.trimS s.data.toList [84, 77, 83]).toArray⟩, ?_, fun w => trim_any s w hs⟩
  rw [ByteArray.toList_eq]
  cases hh : Lib.trimS s.data.toList [84, 77, 83] with
  | nil => exact absurd hh e
  | cons a l => rfl
end Go.Proofs.YtphpdanohooccaaGreatDoor
