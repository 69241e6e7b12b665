/- The reference's ParseInt at every text. -/
import Derived.Test.YtedfmjijemcpaaaDoorPsG
import Derived.Deep.CutRange
import Derived.Laws.Strings3
namespace Go.Proofs.YtedfmjijemcpaaaDoor
open Go.RowKit

/-- A number is read, or none; right about the single digits. -/
def PiS (w : World) (l : List UInt8) (e : Ending) (w' : World) : Prop := ∃ v b, e = .returned (.tuple #[.int .i64 v, .bool b]) ∧ (b = true → Good l v) ∧ (b = false → Bad l) ∧ Ext w w'
def I64 (x : Int) : Prop := -9223372036854775808 ≤ x ∧ x ≤ 9223372036854775807
theorem I64.wrap (x : Int) : I64 (wrap64 x) := by unfold I64 wrap64; omega
theorem PiS.no {w w' : World} {l : List UInt8} (hb : Bad l) (he : Ext w w') : PiS w l (.returned (.tuple #[.int .i64 0, .bool false])) w' := ⟨0, false, rfl, fun h => (nomatch h), fun _ => hb, he⟩
def SomeD (w : World) (x : Int) (e : Ending) (w' : World) : Prop := ∃ S : ByteArray, e = .returned (.string S) ∧ (0 ≤ x ∧ x ≤ 9 → S = dg x) ∧ Ext w w'
theorem fiA_any (x : Int) (h : I64 x) (w : World) : Calls Tryd.prog 20 #[.int .i64 x] w (SomeD w x) := by
  by_cases h9 : 0 ≤ x ∧ x ≤ 9
  · exact (fiS_any x w h9).mono fun e w' ⟨he, hx⟩ => ⟨_, he, fun _ => rfl, hx⟩
  · exact (fiAll_any x h w).mono fun e w' ⟨S, he, hx⟩ => ⟨S, he, fun h => absurd h h9, hx⟩
theorem good_of {s S : ByteArray} {x : Int} (hb : Bad s.data.toList) (h : 0 ≤ x ∧ x ≤ 9 → S = dg x) (he : S = s) : Good s.data.toList x := by
  refine ⟨fun hx => ?_, fun y hy e => absurd e (hb y hy)⟩
  rw [← he, h (by omega)]
  rfl
theorem toL_ne {a b : ByteArray} (h : ¬ a = b) : (a.toList == b.toList) = false := by
  rw [beq_eq_false_iff_ne]
  intro e
  rw [ByteArray.toList_eq, ByteArray.toList_eq] at e
  exact h (ByteArray.ext (Array.ext' e))
set_option maxHeartbeats 2000000 in
theorem piS_bad (s : ByteArray) (w : World) (hs : s.size ≤ 1048576) (hb : Bad s.data.toList) : Calls Tryd.prog 28 #[.string s] w (PiS w s.data.toList) := by
  have HB := Lib.hid hb
  clear hb
  go_enter Tryd.func28, Tryd.ntmps28
  go_upto_region 1 with fail
  go_cut [4] from 9 to 16 (fun s4 wx => ∃ b : Bool, s4 = .bool b ∧ Hid (b = true → 1 ≤ s.size) ∧ wx = w)
  case first =>
    by_cases h0 : s.size = 0
    · go_wp2_with fail
      go_meet
      exact ⟨false, rfl, fun h => (nomatch h), rfl⟩
    · have h0z : (0 : Int) < (s.size : Int) := by omega
      obtain ⟨x, hx⟩ : ∃ x : UInt8, s[0] = x := ⟨_, rfl⟩
      go_wp2_with fail
      go_meet
      exact ⟨_, rfl, fun _ => by omega, rfl⟩
  case rest =>
    obtain ⟨b, rfl, HN, rfl⟩ := hcut
    go_upto_if 18 with fail
    go_cut [5] from 19 to 20 (fun s5 wx => ∃ T : ByteArray, s5 = .string T ∧ T.size ≤ 1048576 ∧ wx = wc)
    case first =>
      cases b with
      | false =>
        go_wp2_with fail
        go_meet
        exact ⟨_, rfl, hs, rfl⟩
      | true =>
        have h1 : (1 : Int) ≤ (s.size : Int) := by have := HN.out rfl; omega
        go_wp2_with fail
        go_meet
        exact ⟨_, rfl, by rw [ByteArray.size_extract]; omega, rfl⟩
    case rest =>
      obtain ⟨T, rfl, hT, rfl⟩ := hcut
      clear HN hs
      have CD := Lib.hid (dgS_any T wc hT)
      go_wp2_with fail
      refine CD.out.mono ?_
      rintro e w1 ⟨⟨bd, rfl⟩, rfl⟩
      cases bd with
      | false =>
        go_wp2_with fail
        go_ret2
        exact PiS.no HB.out (Ext.refl _)
      | true =>
        by_cases hlen : 19 < T.size
        · have hlz : (19 : Int) < (T.size : Int) := by omega
          go_wp2_with fail
          go_ret2
          exact PiS.no HB.out (Ext.refl _)
        · have hlz : ¬ (19 : Int) < (T.size : Int) := by omega
          go_wp2_with fail
          go_loopw [6, 7] (fun m i wr => ∃ (x : Int) (j : Nat), m = .int .i64 x ∧ Hid (I64 x) ∧ j ≤ T.size ∧ i = .int .i64 j ∧ wr = wc) (fun _ i _ => T.size - (intOf i).toNat)
          case atStart => exact ⟨0, 0, rfl, (show I64 0 from ⟨by decide, by decide⟩), by omega, rfl, rfl⟩
          case round =>
            obtain ⟨x, j, rfl, HX, hj, rfl, rfl⟩ := hrel
            by_cases hlt : j < T.size
            · have hjz : (j : Int) < (T.size : Int) := by omega
              obtain ⟨c, hc⟩ : ∃ c : UInt8, T[j] = c := ⟨_, rfl⟩
              go_wp2_with fail
              · go_ret2
                exact PiS.no HB.out (Ext.refl _)
              · go_roundw
                case rel => exact ⟨_, j + 1, rfl, I64.wrap _, by omega, by go_num, trivial⟩
                case measure => simp [intOf]; omega
            · obtain rfl : j = T.size := by omega
              have CF1 := Lib.hid (fiA_any x HX.out wr)
              have CF2 := Lib.hid (fiA_any (wrap64 (-x)) (I64.wrap _) wr)
              go_wp2_with fail
              · go_ret2
                exact PiS.no HB.out (Ext.refl _)
              · refine CF2.out.mono ?_
                rintro e w2 ⟨S, rfl, HS, he⟩
                by_cases hS : S = s
                · have hne : (S.toList == s.toList) = true := by rw [hS]; exact beq_self_eq_true _
                  have HG := Lib.hid (good_of HB.out HS hS)
                  have HE := Lib.hid he
                  clear HS hS he
                  go_wp2_with fail
                  go_ret2
                  exact ⟨_, true, rfl, fun _ => HG.out, fun h => (nomatch h), HE.out⟩
                · have hne : (S.toList == s.toList) = false := toL_ne hS
                  have HE := Lib.hid he
                  clear HS hS he
                  go_wp2_with fail
                  go_ret2
                  exact PiS.no HB.out HE.out
              · refine CF1.out.mono ?_
                rintro e w2 ⟨S, rfl, HS, he⟩
                by_cases hS : S = s
                · have hne : (S.toList == s.toList) = true := by rw [hS]; exact beq_self_eq_true _
                  have HG := Lib.hid (good_of HB.out HS hS)
                  have HE := Lib.hid he
                  clear HS hS he
                  go_wp2_with fail
                  go_ret2
                  exact ⟨_, true, rfl, fun _ => HG.out, fun h => (nomatch h), HE.out⟩
                · have hne : (S.toList == s.toList) = false := toL_ne hS
                  have HE := Lib.hid he
                  clear HS hS he
                  go_wp2_with fail
                  go_ret2
                  exact PiS.no HB.out HE.out
end Go.Proofs.YtedfmjijemcpaaaDoor
