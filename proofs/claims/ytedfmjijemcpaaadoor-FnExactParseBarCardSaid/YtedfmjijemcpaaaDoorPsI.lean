/- The program's ParseInt at every text. -/
import Derived.Test.YtedfmjijemcpaaaDoorParse
import Derived.Test.YtedfmjijemcpaaaDoorPsQ
import Derived.Lib.LaidTab
import Derived.Lib.AtoiAllCases
import Derived.Lib.SmallJoins
import Derived.Lib.AppendIntMem
namespace Go.Proofs.YtedfmjijemcpaaaDoor
open Go.RowKit

/-- What the library's tables and errors hold. -/
structure PW (w : World) : Prop where
  tab : Lib.TabIs Tryd.prog w "internal/strconv.uint64pow10" .u64 Lib.pow10Tab
  syn : ∃ t p, w.var? Tryd.prog "strconv.ErrSyntax" = some #[.iface t p]
  rng : ∃ t p, w.var? Tryd.prog "strconv.ErrRange" = some #[.iface t p]
theorem var?_ext {w w' : World} {n : String} {cs : Array Value} (h : w.var? Tryd.prog n = some cs) (he : Ext w w') : w'.var? Tryd.prog n = some cs := by
  unfold World.var? at h ⊢
  cases hg : Tryd.prog.globalNamed n with
  | none => simp [hg] at h
  | some g =>
    simp only [hg, Option.bind_some] at h ⊢
    have hlt : g < w.heap.size := by
      rcases Nat.lt_or_ge g w.heap.size with h' | h'
      · exact h'
      · simp [Array.getElem?_eq_none h'] at h
    rw [he.block g hlt]
    exact h
theorem PW.ext {w w' : World} (h : PW w) (he : Ext w w') : PW w' := by
  obtain ⟨h1, ⟨t2, p2, h2⟩, ⟨t3, p3, h3⟩⟩ := h
  exact ⟨var?_ext h1 he, ⟨t2, p2, var?_ext h2 he⟩, ⟨t3, p3, var?_ext h3 he⟩⟩
theorem fiJ_any (x : Int) (w : World) (hx : -9223372036854775808 ≤ x ∧ x ≤ 9223372036854775807) (hp : PW w) :
    Calls Tryd.prog 35 #[.int .i64 x] w fun e w' => e = .returned (.string ⟨(Lib.itoa x).toArray⟩) ∧ Ext w w' := by
  obtain ⟨d, hd⟩ : ∃ d : ByteArray, d = ⟨(Lib.itoa x).toArray⟩ := ⟨_, rfl⟩
  have CI : Hid (Calls Tryd.prog 49 #[.int .i64 x] w fun e w' => e = .returned (.string d) ∧ Ext w w') := by
    rw [hd]
    refine (Tryd.strconv_Itoa x hx.1 hx.2 w hp.tab).mono ?_
    rintro e w' ⟨rfl, k, os, rfl⟩
    exact ⟨rfl, Lib.below_grow _ _ (Nat.le_refl _) _ _⟩
  rw [← hd]
  clear hd hx hp
  go_enter Tryd.func35, Tryd.ntmps35
  go_wp2_with fail
  refine CI.out.mono ?_
  rintro e w' ⟨rfl, he⟩
  have HE := Lib.hid he
  clear he
  go_wp2_with fail
  go_ret
  exact ⟨rfl, HE.out⟩
def piB (x : ByteArray) : Bool := match Lib.atoiAll x.data.toList with
  | .ok v => Lib.itoa v == x.data.toList
  | _ => false
def piF (x : ByteArray) : Int := match Lib.atoiAll x.data.toList with
  | .ok v => if Lib.itoa v = x.data.toList then v else 0
  | _ => 0
set_option maxHeartbeats 1000000 in
theorem piI_any (x : ByteArray) (w : World) (hx : x.size ≤ 1048576) (hp : PW w) :
    Calls Tryd.prog 40 #[.string x] w fun e w' => e = .returned (.tuple #[.int .i64 (piF x), .bool (piB x)]) ∧ Ext w w' := by
  obtain ⟨r, hr⟩ : ∃ r, r = piF x := ⟨_, rfl⟩
  obtain ⟨b, hb⟩ : ∃ b, b = piB x := ⟨_, rfl⟩
  rw [← hr, ← hb]
  unfold piF at hr
  unfold piB at hb
  cases h : Lib.atoiAll x.data.toList with
  | ok v =>
    rw [h] at hr hb
    have hv := Lib.atoiAll_bounds h
    obtain ⟨S, hS⟩ : ∃ S : ByteArray, S = ⟨(Lib.itoa v).toArray⟩ := ⟨_, rfl⟩
    have CA : Hid (Calls Tryd.prog 52 #[.string x] w fun e w' => e = .returned (.tuple #[.int .i64 v, .nilIface]) ∧ Ext w w') := by
      refine (Tryd.strconv_Atoi_ok x (by omega) v h w).mono ?_
      rintro e w' ⟨rfl, rfl | ⟨t, rfl⟩⟩
      · exact ⟨rfl, Ext.refl _⟩
      · exact ⟨rfl, Lib.bytesWorld_below _ _ _⟩
    have CF : Hid (∀ W : World, Ext w W → Calls Tryd.prog 35 #[.int .i64 v] W fun e w' => e = .returned (.string S) ∧ Ext W w') := fun W he => by rw [hS]; exact fiJ_any v W hv (hp.ext he)
    have hSx : S.data.toList = Lib.itoa v := by rw [hS]
    by_cases he : Lib.itoa v = x.data.toList
    · have hrv : r = v := by rw [hr]; exact if_pos he
      have hbv : b = true := by rw [hb]; exact beq_iff_eq.2 he
      have hS2 : S = x := by
        refine ByteArray.ext (Array.ext' ?_)
        rw [hSx, he]
      subst hS2 hrv hbv
      have hne : (S.toList == S.toList) = true := beq_self_eq_true _
      clear hr hb hS hSx he h hv hx
      go_enter Tryd.func40, Tryd.ntmps40
      go_wp2_with fail
      refine CA.out.mono ?_
      rintro e w1 ⟨rfl, h1⟩
      have CF1 := Lib.hid (CF.out w1 h1)
      have H1 := Lib.hid h1
      clear h1
      go_wp2_with fail
      refine CF1.out.mono ?_
      rintro e w2 ⟨rfl, h2⟩
      have H2 := Lib.hid (H1.out.trans h2)
      clear h2
      go_wp2_with fail
      go_ret2
      exact ⟨rfl, H2.out⟩
    · have hrv : r = 0 := by rw [hr]; exact if_neg he
      have hbv : b = false := by rw [hb]; exact beq_eq_false_iff_ne.2 he
      have hne : (S.toList == x.toList) = false := by
        rw [beq_eq_false_iff_ne, ByteArray.toList_eq, ByteArray.toList_eq, hSx]
        exact he
      subst hrv hbv
      clear hr hb hS hSx he h hv hx
      go_enter Tryd.func40, Tryd.ntmps40
      go_wp2_with fail
      refine CA.out.mono ?_
      rintro e w1 ⟨rfl, h1⟩
      have CF1 := Lib.hid (CF.out w1 h1)
      have H1 := Lib.hid h1
      clear h1
      go_wp2_with fail
      refine CF1.out.mono ?_
      rintro e w2 ⟨rfl, h2⟩
      have H2 := Lib.hid (H1.out.trans h2)
      clear h2
      go_wp2_with fail
      go_ret2
      exact ⟨rfl, H2.out⟩
  | «syntax» =>
    rw [h] at hr hb
    obtain rfl : r = 0 := hr
    obtain rfl : b = false := hb
    obtain ⟨t, p, hvar⟩ := hp.syn
    have CA : Hid (Calls Tryd.prog 52 #[.string x] w fun e w' => ∃ N, e = .returned (.tuple #[.int .i64 0, .iface 78 (.pointer (some ⟨N, 0, none⟩))]) ∧ Ext w w') := by
      refine (Tryd.strconv_Atoi_syntax_var x (by omega) h t p w hvar).mono ?_
      rintro e w' ⟨N, rfl, _, _, he⟩
      exact ⟨N, rfl, he⟩
    clear h hx hvar
    go_enter Tryd.func40, Tryd.ntmps40
    go_wp2_with fail
    refine CA.out.mono ?_
    rintro e w1 ⟨N, rfl, h1⟩
    have H1 := Lib.hid h1
    clear h1
    go_wp2_with fail
    go_ret2
    exact ⟨rfl, H1.out⟩
  | range =>
    rw [h] at hr hb
    obtain rfl : r = 0 := hr
    obtain rfl : b = false := hb
    obtain ⟨t, p, hvar⟩ := hp.rng
    obtain ⟨z, hz⟩ : ∃ z, z = Lib.atoiSat x.data.toList := ⟨_, rfl⟩
    have CA : Hid (Calls Tryd.prog 52 #[.string x] w fun e w' => ∃ N, e = .returned (.tuple #[.int .i64 z, .iface 78 (.pointer (some ⟨N, 0, none⟩))]) ∧ Ext w w') := by
      rw [hz]
      refine (Tryd.strconv_Atoi_range_var x (by omega) h t p w hvar).mono ?_
      rintro e w' ⟨N, rfl, _, _, he⟩
      exact ⟨N, rfl, he⟩
    clear h hx hvar hz
    go_enter Tryd.func40, Tryd.ntmps40
    go_wp2_with fail
    refine CA.out.mono ?_
    rintro e w1 ⟨N, rfl, h1⟩
    have H1 := Lib.hid h1
    clear h1
    go_wp2_with fail
    go_ret2
    exact ⟨rfl, H1.out⟩
end Go.Proofs.YtedfmjijemcpaaaDoor
