/- The program's parsedBy, over a contract of its ParseInt. -/
import Derived.Test.YtedfmjijemcpaaaDoorNumT
namespace Go.Proofs.YtedfmjijemcpaaaDoor
open Go.RowKit

/-- The words of a text. -/
def wordsB (s : ByteArray) (by_ : ByteArray) : List ByteArray := Lib.splitB by_ 0 (Lib.countB s by_) s
set_option maxHeartbeats 2000000 in
theorem parsedBy_any (s : ByteArray) (c : UInt8) (most : Nat) (m : Int) (pi : ByteArray → Int) (pb : ByteArray → Bool) (w : World) (hm : w.cell? ⟨0, 0, none⟩ = some (.int .i64 m)) (hs : s.size ≤ 1048576) (hmost : most ≤ 12)
    (hwl : (wordsB s ⟨#[c]⟩).length = Lib.countB s ⟨#[c]⟩ + 1) (hcn : Lib.countB s ⟨#[c]⟩ ≤ 1048577)
    (CP : ∀ (x : ByteArray) (W : World), Ext w W → x ∈ wordsB s ⟨#[c]⟩ → Calls Tryd.prog 40 #[.string x] W fun e w' => e = .returned (.tuple #[.int .i64 (pi x), .bool (pb x)]) ∧ Ext W w') :
    Calls Tryd.prog 29 #[.string s, .string ⟨#[c]⟩, .int .i64 most] w (RetI w (if (wordsB s ⟨#[c]⟩).length ≤ most then (wordsB s ⟨#[c]⟩).map pi else [])) := by
  obtain ⟨ws, hws⟩ : ∃ ws, ws = wordsB s ⟨#[c]⟩ := ⟨_, rfl⟩
  obtain ⟨l, hll⟩ : ∃ l, l = ws.length := ⟨_, rfl⟩
  obtain ⟨b, hb⟩ : ∃ b : ByteArray, b = ⟨#[c]⟩ := ⟨_, rfl⟩
  have hl : l ≤ 1048578 := by rw [hll, hws, hwl]; omega
  have CS : Hid (Calls Tryd.prog 39 #[.string s, .string b] w fun e w' => e = .returned (.slice (some ⟨w.heap.size, 0, none⟩) l l) ∧ w' = w.alloc (.cells (ws.map Value.string).toArray 9)) := by
    rw [hb, hll, hws, hwl]
    exact Tryd.strings_Split s ⟨#[c]⟩ m w (by omega) hm (show 1 ≤ 1 from Nat.le_refl 1)
  have HRT : Hid (RdT (w.alloc (.cells (ws.map Value.string).toArray 9)) (some ⟨w.heap.size, 0, none⟩) ws) := RdT.built w ws
  have HP : Hid (∀ (x : ByteArray) (W : World), Ext w W → x ∈ ws → Calls Tryd.prog 40 #[.string x] W fun e w' => e = .returned (.tuple #[.int .i64 (pi x), .bool (pb x)]) ∧ Ext W w') := by rw [hws]; exact CP
  rw [← hws, ← hb, ← hll]
  obtain ⟨R, hR⟩ : ∃ R, R = (if l ≤ most then ws.map pi else []) := ⟨_, rfl⟩
  have HY : Hid (l ≤ most → R = ws.map pi) := fun h => by rw [hR, if_pos h]
  have HN : Hid (¬ l ≤ most → R = []) := fun h => by rw [hR, if_neg h]
  rw [← hR]
  clear hR
  have HL := Lib.hid hll
  clear hws hll hb hwl hcn CP hm
  obtain ⟨W0, hW0⟩ : ∃ W0, W0 = w.alloc (.cells (ws.map Value.string).toArray 9) := ⟨_, rfl⟩
  rw [← hW0] at CS HRT
  have HX0 : Hid (Ext w W0) := by rw [hW0]; exact (Ext.refl w).alloc _
  clear hW0
  go_enter Tryd.func29, Tryd.ntmps29
  go_wp2_with fail
  refine CS.out.mono ?_
  rintro e w1 ⟨rfl, rfl⟩
  by_cases hlm : l ≤ most
  · have hlz : ¬ ((most : Int) < (l : Int)) := by omega
    have HLM := Lib.hid hlm
    go_wp2_with fail
    have hdec : decide (most < l) = false := decide_eq_false (by omega)
    rw [hdec]
    clear hlm hlz hdec
    go_loopw [8, 22] (fun o i wr => ∃ (j : Nat) (B : Option Addr) (d : Nat), j ≤ l ∧ i = .int .i64 j ∧ o = .slice B j d ∧ Hid (OwI wr w1.heap.size B d ((ws.take j).map pi)) ∧ Hid (Ext w1 wr)) (fun _ i _ => l - (intOf i).toNat)
    case atStart => exact ⟨0, _, _, by omega, rfl, rfl, OwI.nil _ _, Ext.refl w1⟩
    case round =>
      obtain ⟨j, B, d, hj, rfl, rfl, HO, HE⟩ := hrel
      by_cases hlt : j < l
      · have hjx : j < ws.length := by rw [← HL.out]; exact hlt
        obtain ⟨x, hx⟩ : ∃ x, x = ws[j] := ⟨_, rfl⟩
        obtain ⟨b0, o, hA, hc⟩ := (HRT.out.ext HE.out).at_ j x (by rw [hx]; simp [hjx])
        injection hA with hA
        injection hA with e1 e2
        subst e1 e2
        rw [Nat.zero_add] at hc
        obtain ⟨v, hv⟩ : ∃ v, v = pi x := ⟨_, rfl⟩
        have CF : Hid (∀ W : World, Ext w W → Calls Tryd.prog 40 #[.string x] W fun e w' => e = .returned (.tuple #[.int .i64 v, .bool (pb x)]) ∧ Ext W w') := fun W he => by rw [hv]; exact HP.out x W he (by rw [hx]; exact List.getElem_mem hjx)
        have HS : Hid ((ws.take (j + 1)).map pi = (ws.take j).map pi ++ [v]) := by rw [List.take_succ_eq_append_getElem hjx, List.map_append, ← hx, hv]; exact rfl
        have HLJ : Hid (((ws.take j).map pi).length = j) := by rw [List.length_map, List.length_take]; exact (by omega : min j ws.length = j)
        clear hx hv hjx
        go_wp2_with fail
        refine (CF.out _ (HX0.out.trans HE.out)).mono ?_
        rintro e w2 ⟨rfl, h2⟩
        have HO2 := Lib.hid (HO.out.ext h2)
        have HE2 := Lib.hid (HE.out.trans h2)
        clear h2 hc
        go_wp2_with (at_builtin; refine app_ints w1 rfl _ _ rfl B d j ((ws.take j).map pi) _ 1 1 [v] rfl rfl HLJ.out rfl (HO2.out.ext ((Ext.refl _).alloc _)) (RdI.built w2 [v]) (HE2.out.alloc _) (by omega) ?_; intro A' c' w3 h1 h2 h3; have HO3 := Lib.hid h1; have HE3 := Lib.hid h2; clear h1 h2 h3)
        go_roundw
        case rel =>
          exact ⟨j + 1, A', c', by omega, by go_num, rfl, by rw [HS.out]; exact HO3.out, HE3.out⟩
        case measure => simp [intOf]; omega
      · obtain rfl : j = l := by omega
        have HO2 := HO.out.lower HX0.out.size
        rw [List.take_of_length_le (by rw [← HL.out]; exact Nat.le_refl _), ← HY.out HLM.out] at HO2
        have HRL : R.length = j := by rw [HY.out HLM.out, List.length_map]; exact HL.out.symm
        have HX := Lib.hid (HX0.out.trans HE.out)
        go_wp2_with fail
        go_ret
        exact ⟨B, d, by rw [HRL]; exact rfl, HO2, HX.out⟩
  · have HRN := HN.out hlm
    subst HRN
    go_wp2_with fail
    go_ret
    exact RetI.nil HX0.out
end Go.Proofs.YtedfmjijemcpaaaDoor
