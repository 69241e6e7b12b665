/- The reference's FormatMeter, FormatBar. -/
import Derived.Test.YtedfmjijemcpaaaDoorNumS
namespace Go.Proofs.YtedfmjijemcpaaaDoor
open Go.RowKit

theorem OwT.empty (w : World) : OwT (w.alloc (.cells #[] 9)) w.heap.size (some ⟨w.heap.size, 0, none⟩) 0 [] := World.ownsRow_lit w #[] 0 (Nat.le_refl _) (by simp [maxLen]) rfl
set_option maxHeartbeats 2000000 in
theorem fSM_any (A : Option Addr) (c : Nat) (xs : List Int) (w : World) (hr : RdI w A xs) (hl : xs.length ≤ 1048576) :
    Calls Tryd.prog 11 #[.slice A xs.length c] w fun e w' => e = .returned (.string (fmtF metB 42 xs)) ∧ Ext w w' := by
  obtain ⟨l, hll⟩ : ∃ l, l = xs.length := ⟨_, rfl⟩
  have CO : Hid (Calls Tryd.prog 25 #[.slice A l c] w fun e w' => e = .returned (.bool (metB xs)) ∧ w = w') := by rw [hll]; exact metS_any A c xs w hr (by omega)
  by_cases hb : metB xs = true
  · have hd := metB_dig hb
    have hl12 : l ≤ 12 := by omega
    obtain ⟨R, hR⟩ : ∃ R : ByteArray, R = fmtF metB 42 xs := ⟨_, rfl⟩
    have CJ : Hid (∀ (D : Option Addr) (d : Nat) (W : World), RdT W D (xs.map dg) → Calls Tryd.prog 21 #[.slice D l d, .string ⟨#[42]⟩] W fun e w' => e = .returned (.string R) ∧ W = w') := fun D d W h => by
      rw [hll, hR]
      unfold fmtF
      rw [if_pos hb]
      exact joS_any D d xs 42 W h hd.2.2
    have HD := Lib.hid (dig_of (by decide) (by decide) hd.1)
    have HL := Lib.hid hll
    have HR := Lib.hid hr
    rw [← hll, ← hR]
    rw [hb] at CO
    clear hR hd hll hr hl hb
    go_enter Tryd.func11, Tryd.ntmps11
    go_wp2_with fail
    refine CO.out.mono ?_
    rintro e w1 ⟨rfl, rfl⟩
    go_wp2_with fail
    go_loopw [3, 12] (fun o i wr => ∃ (j : Nat) (B : Option Addr) (d : Nat), j ≤ l ∧ i = .int .i64 j ∧ o = .slice B j d ∧ Hid (OwT wr w.heap.size B d ((xs.take j).map dg)) ∧ Hid (Ext w wr)) (fun _ i _ => l - (intOf i).toNat)
    case atStart => exact ⟨0, _, _, by omega, rfl, rfl, OwT.empty _, (Ext.refl w).alloc _⟩
    case round =>
      obtain ⟨j, B, d, hj, rfl, rfl, HO, HE⟩ := hrel
      by_cases hlt : j < l
      · have hjx : j < xs.length := by rw [← HL.out]; exact hlt
        obtain ⟨b, o, hA, hc⟩ := (HR.out.ext HE.out).at_ j hjx
        subst hA
        have HDJ := HD.out j
        obtain ⟨x, hx⟩ : ∃ x, x = xs.getD j 0 := ⟨_, rfl⟩
        rw [← hx] at hc HDJ
        have CF : Hid (∀ W : World, Calls Tryd.prog 20 #[.int .i64 x] W fun e w' => e = .returned (.string (dg x)) ∧ Ext W w') := fun W => fiS_any x W HDJ
        have HS : Hid ((xs.take (j + 1)).map dg = (xs.take j).map dg ++ [dg x]) := by rw [take_snoc xs j hjx, List.map_append, ← hx]; exact rfl
        have HLJ : Hid (((xs.take j).map dg).length = j) := by rw [List.length_map, List.length_take]; exact (by omega : min j xs.length = j)
        obtain ⟨y, hy⟩ : ∃ y, y = dg x := ⟨_, rfl⟩
        rw [← hy] at CF HS
        clear hx hjx hy
        go_wp2_with fail
        refine (CF.out _).mono ?_
        rintro e w2 ⟨rfl, h2⟩
        have HO2 := Lib.hid (HO.out.ext h2)
        have HE2 := Lib.hid (HE.out.trans h2)
        clear h2 hc
        go_wp2_with (at_builtin; refine app_strs w rfl _ _ rfl B d j ((xs.take j).map dg) _ 1 1 [y] rfl rfl HLJ.out rfl (HO2.out.ext ((Ext.refl _).alloc _)) (RdT.built w2 [y]) (HE2.out.alloc _) (by omega) ?_; intro A' c' w3 h1 h2 h3; have HO3 := Lib.hid h1; have HE3 := Lib.hid h2; clear h1 h2 h3)
        go_roundw
        case rel => exact ⟨j + 1, A', c', by omega, by go_num, rfl, by rw [HS.out]; exact HO3.out, HE3.out⟩
        case measure => simp [intOf]; omega
      · obtain rfl : j = l := by omega
        have HO2 := HO.out
        rw [take_all xs j HL.out] at HO2
        have HRD := Lib.hid HO2.rd
        clear HO2
        go_wp2_with fail
        refine (CJ.out _ _ _ HRD.out).mono ?_
        rintro e w2 ⟨rfl, rfl⟩
        go_wp2_with fail
        go_ret
        exact ⟨rfl, HE.out⟩
  · have hb : metB xs = false := by simpa using hb
    have e : fmtF metB 42 xs = ⟨#[]⟩ := by unfold fmtF; rw [hb]; rfl
    rw [e, ← hll]
    rw [hb] at CO
    clear hll hr hl hb e
    go_enter Tryd.func11, Tryd.ntmps11
    go_wp2_with fail
    refine CO.out.mono ?_
    rintro e w1 ⟨rfl, rfl⟩
    go_wp2_with fail
    go_ret
    exact ⟨rfl, Ext.refl w⟩
set_option maxHeartbeats 2000000 in
theorem fSB_any (A : Option Addr) (c : Nat) (xs : List Int) (w : World) (hr : RdI w A xs) (hl : xs.length ≤ 1048576) :
    Calls Tryd.prog 7 #[.slice A xs.length c] w fun e w' => e = .returned (.string (fmtF barB 43 xs)) ∧ Ext w w' := by
  obtain ⟨l, hll⟩ : ∃ l, l = xs.length := ⟨_, rfl⟩
  have CO : Hid (Calls Tryd.prog 19 #[.slice A l c] w fun e w' => e = .returned (.bool (barB xs)) ∧ w = w') := by rw [hll]; exact barS_any A c xs w hr (by omega)
  by_cases hb : barB xs = true
  · have hd := barB_dig hb
    have hl12 : l ≤ 12 := by omega
    obtain ⟨R, hR⟩ : ∃ R : ByteArray, R = fmtF barB 43 xs := ⟨_, rfl⟩
    have CJ : Hid (∀ (D : Option Addr) (d : Nat) (W : World), RdT W D (xs.map dg) → Calls Tryd.prog 21 #[.slice D l d, .string ⟨#[43]⟩] W fun e w' => e = .returned (.string R) ∧ W = w') := fun D d W h => by
      rw [hll, hR]
      unfold fmtF
      rw [if_pos hb]
      exact joS_any D d xs 43 W h hd.2.2
    have HD := Lib.hid (dig_of (by decide) (by decide) hd.1)
    have HL := Lib.hid hll
    have HR := Lib.hid hr
    rw [← hll, ← hR]
    rw [hb] at CO
    clear hR hd hll hr hl hb
    go_enter Tryd.func7, Tryd.ntmps7
    go_wp2_with fail
    refine CO.out.mono ?_
    rintro e w1 ⟨rfl, rfl⟩
    go_wp2_with fail
    go_loopw [3, 12] (fun o i wr => ∃ (j : Nat) (B : Option Addr) (d : Nat), j ≤ l ∧ i = .int .i64 j ∧ o = .slice B j d ∧ Hid (OwT wr w.heap.size B d ((xs.take j).map dg)) ∧ Hid (Ext w wr)) (fun _ i _ => l - (intOf i).toNat)
    case atStart => exact ⟨0, _, _, by omega, rfl, rfl, OwT.empty _, (Ext.refl w).alloc _⟩
    case round =>
      obtain ⟨j, B, d, hj, rfl, rfl, HO, HE⟩ := hrel
      by_cases hlt : j < l
      · have hjx : j < xs.length := by rw [← HL.out]; exact hlt
        obtain ⟨b, o, hA, hc⟩ := (HR.out.ext HE.out).at_ j hjx
        subst hA
        have HDJ := HD.out j
        obtain ⟨x, hx⟩ : ∃ x, x = xs.getD j 0 := ⟨_, rfl⟩
        rw [← hx] at hc HDJ
        have CF : Hid (∀ W : World, Calls Tryd.prog 20 #[.int .i64 x] W fun e w' => e = .returned (.string (dg x)) ∧ Ext W w') := fun W => fiS_any x W HDJ
        have HS : Hid ((xs.take (j + 1)).map dg = (xs.take j).map dg ++ [dg x]) := by rw [take_snoc xs j hjx, List.map_append, ← hx]; exact rfl
        have HLJ : Hid (((xs.take j).map dg).length = j) := by rw [List.length_map, List.length_take]; exact (by omega : min j xs.length = j)
        obtain ⟨y, hy⟩ : ∃ y, y = dg x := ⟨_, rfl⟩
        rw [← hy] at CF HS
        clear hx hjx hy
        go_wp2_with fail
        refine (CF.out _).mono ?_
        rintro e w2 ⟨rfl, h2⟩
        have HO2 := Lib.hid (HO.out.ext h2)
        have HE2 := Lib.hid (HE.out.trans h2)
        clear h2 hc
        go_wp2_with (at_builtin; refine app_strs w rfl _ _ rfl B d j ((xs.take j).map dg) _ 1 1 [y] rfl rfl HLJ.out rfl (HO2.out.ext ((Ext.refl _).alloc _)) (RdT.built w2 [y]) (HE2.out.alloc _) (by omega) ?_; intro A' c' w3 h1 h2 h3; have HO3 := Lib.hid h1; have HE3 := Lib.hid h2; clear h1 h2 h3)
        go_roundw
        case rel => exact ⟨j + 1, A', c', by omega, by go_num, rfl, by rw [HS.out]; exact HO3.out, HE3.out⟩
        case measure => simp [intOf]; omega
      · obtain rfl : j = l := by omega
        have HO2 := HO.out
        rw [take_all xs j HL.out] at HO2
        have HRD := Lib.hid HO2.rd
        clear HO2
        go_wp2_with fail
        refine (CJ.out _ _ _ HRD.out).mono ?_
        rintro e w2 ⟨rfl, rfl⟩
        go_wp2_with fail
        go_ret
        exact ⟨rfl, HE.out⟩
  · have hb : barB xs = false := by simpa using hb
    have e : fmtF barB 43 xs = ⟨#[]⟩ := by unfold fmtF; rw [hb]; rfl
    rw [e, ← hll]
    rw [hb] at CO
    clear hll hr hl hb e
    go_enter Tryd.func7, Tryd.ntmps7
    go_wp2_with fail
    refine CO.out.mono ?_
    rintro e w1 ⟨rfl, rfl⟩
    go_wp2_with fail
    go_ret
    exact ⟨rfl, Ext.refl w⟩
end Go.Proofs.YtedfmjijemcpaaaDoor
