/- Texts of short lists of digits: the program's numbersText. -/
import Derived.Test.YtedfmjijemcpaaaDoorStr
import Derived.Test.YtedfmjijemcpaaaDoorShelf
namespace Go.Proofs.YtedfmjijemcpaaaDoor
open Go.RowKit

def dg (x : Int) : ByteArray := ⟨#[UInt8.ofNat (48 + x.toNat)]⟩
/-- The digits with a separator between. -/
def jn (sep : UInt8) (xs : List Int) : List UInt8 := Lib.join ((xs.map dg).map (·.data.toList)) [sep]
def Dig (xs : List Int) : Prop := ∀ j, 0 ≤ xs.getD j 0 ∧ xs.getD j 0 ≤ 9
theorem dig_of {xs : List Int} {lo hi : Int} (h0 : 0 ≤ lo) (h9 : hi ≤ 9) (h : ∀ x ∈ xs, lo ≤ x ∧ x ≤ hi) : Dig xs := by
  intro j
  by_cases hj : j < xs.length
  · have hm : xs.getD j 0 ∈ xs := by simp [List.getD, hj]
    have := h _ hm
    omega
  · simp [List.getD, List.getElem?_eq_none (show xs.length ≤ j by omega)]
theorem jn_len (sep : UInt8) (xs : List Int) : (jn sep xs).length ≤ 2 * xs.length := by
  unfold jn
  induction xs with
  | nil => simp [Lib.join]
  | cons x xs ih =>
    cases xs with
    | nil => simp [Lib.join, List.intercalate, dg]
    | cons y ys =>
      simp only [Lib.join, List.intercalate, List.map_cons, List.intersperse_cons_cons, List.flatten_cons, List.length_append, List.length_cons, List.length_nil] at ih ⊢
      have : (dg x).data.toList.length = 1 := rfl
      omega
theorem fiI_any (x : Int) (w : World) (hx : 0 ≤ x ∧ x ≤ 9) :
    Calls Tryd.prog 35 #[.int .i64 x] w fun e w' => e = .returned (.string (dg x)) ∧ w = w' := by
  obtain ⟨n, rfl⟩ := Int.eq_ofNat_of_zero_le hx.1
  obtain ⟨d, hd⟩ : ∃ d, d = dg (n : Int) := ⟨_, rfl⟩
  have CI : Hid (Calls Tryd.prog 49 #[.int .i64 n] w fun e w' => e = .returned (.string d) ∧ w' = w) := by
    have h := Tryd.strconv_Itoa_small n (by omega) w
    rw [Lib.decDigits_one (by omega)] at h
    rw [hd]
    exact h
  rw [← hd]
  clear hd
  go_enter Tryd.func35, Tryd.ntmps35
  go_wp2_with fail
  refine CI.out.mono ?_
  rintro e w' ⟨rfl, rfl⟩
  go_wp2_with fail
  go_ret
  exact ⟨rfl, rfl⟩
theorem joI_any (A : Option Addr) (c : Nat) (ws : List ByteArray) (sep : ByteArray) (w : World) (hr : RdT w A ws) (hne : 1 ≤ ws.length) (hc : ws.length ≤ c) (hl : ws.length ≤ 1000) (hj : (Lib.join (ws.map (·.data.toList)) sep.data.toList).length ≤ 100000) :
    Calls Tryd.prog 36 #[.slice A ws.length c, .string sep] w fun e w' => e = .returned (.string ⟨(Lib.join (ws.map (·.data.toList)) sep.data.toList).toArray⟩) ∧ Ext w w' := by
  obtain ⟨b, o, rfl, hcell⟩ := hr.2 (by omega)
  have hbk : b < w.heap.size := by
    obtain ⟨x, xs, rfl⟩ : ∃ x xs, ws = x :: xs := by
      cases ws with
      | nil => simp at hne
      | cons x xs => exact ⟨x, xs, rfl⟩
    exact World.block_lt_of_cell? _ _ (hcell 0 (.string x) rfl)
  obtain ⟨n, hn⟩ : ∃ n, n = ws.length := ⟨_, rfl⟩
  obtain ⟨R, hR⟩ : ∃ R : ByteArray, R = ⟨(Lib.join (ws.map (·.data.toList)) sep.data.toList).toArray⟩ := ⟨_, rfl⟩
  have CJ : Hid (Calls Tryd.prog 50 #[.slice (some ⟨b, o, none⟩) n c, .string sep] w fun e w' => e = .returned (.string R) ∧ Ext w w') := by
    rw [hn, hR]
    exact Tryd.strings_Join b o c ws sep w (fun j x hx => hcell j _ (by rw [List.getElem?_map, hx]; rfl)) hbk (by omega) hc (by omega)
  rw [← hn, ← hR]
  clear hn hR hj hcell hr hne hc hl hbk
  go_enter Tryd.func36, Tryd.ntmps36
  go_wp2_with fail
  refine CJ.out.mono ?_
  rintro e w' ⟨rfl, he⟩
  have HE := Lib.hid he
  clear he
  go_wp2_with fail
  go_ret
  exact ⟨rfl, HE.out⟩
set_option maxHeartbeats 2000000 in
theorem ntI_any (A : Option Addr) (c : Nat) (xs : List Int) (w : World) (hr : RdI w A xs) (hd : Dig xs) (hne : 1 ≤ xs.length) (hl : xs.length ≤ 12) :
    Calls Tryd.prog 24 #[.slice A xs.length c] w fun e w' => e = .returned (.string ⟨(jn 44 xs).toArray⟩) ∧ Ext w w' := by
  obtain ⟨l, hll⟩ : ∃ l, l = xs.length := ⟨_, rfl⟩
  obtain ⟨R, hR⟩ : ∃ R : ByteArray, R = ⟨(jn 44 xs).toArray⟩ := ⟨_, rfl⟩
  have CJ : Hid (∀ (B : Option Addr) (d : Nat) (W : World), RdT W B (xs.map dg) → l ≤ d → Calls Tryd.prog 36 #[.slice B l d, .string ⟨#[44]⟩] W fun e w' => e = .returned (.string R) ∧ Ext W w') := fun B d W h hd => by
    have h2 := jn_len 44 xs
    have := joI_any B d (xs.map dg) ⟨#[44]⟩ W h (by rw [List.length_map]; omega) (by rw [List.length_map]; omega) (by rw [List.length_map]; omega) (by show (jn 44 xs).length ≤ 100000; omega)
    rw [List.length_map, ← hll] at this
    rw [hR]
    exact this
  have HL := Lib.hid hll
  have HR := Lib.hid hr
  have HD := Lib.hid hd
  rw [← hll, ← hR]
  rw [← hll] at hl hne
  clear hll hR hr hd
  go_enter Tryd.func24, Tryd.ntmps24
  go_wp2_with fail
  go_loopw [3, 8] (fun o i wr => ∃ (j : Nat) (B : Option Addr) (d : Nat), j ≤ l ∧ i = .int .i64 j ∧ o = .slice B j d ∧ Hid (OwT wr w.heap.size B d ((xs.take j).map dg)) ∧ Hid (Ext w wr)) (fun _ i _ => l - (intOf i).toNat)
  case atStart => exact ⟨0, _, _, by omega, rfl, rfl, OwT.nil _ _, Ext.refl w⟩
  case round =>
    obtain ⟨j, B, d, hj, rfl, rfl, HO, HE⟩ := hrel
    by_cases hlt : j < l
    · have hjx : j < xs.length := by rw [← HL.out]; exact hlt
      obtain ⟨b, o, hA, hc⟩ := (HR.out.ext HE.out).at_ j hjx
      subst hA
      have HDJ := HD.out j
      obtain ⟨x, hx⟩ : ∃ x, x = xs.getD j 0 := ⟨_, rfl⟩
      rw [← hx] at hc HDJ
      have CF : Hid (∀ W : World, Calls Tryd.prog 35 #[.int .i64 x] W fun e w' => e = .returned (.string (dg x)) ∧ W = w') := fun W => fiI_any x W HDJ
      have HS : Hid ((xs.take (j + 1)).map dg = (xs.take j).map dg ++ [dg x]) := by rw [take_snoc xs j hjx, List.map_append, ← hx]; exact rfl
      have HLJ : Hid (((xs.take j).map dg).length = j) := by rw [List.length_map, List.length_take]; exact (by omega : min j xs.length = j)
      obtain ⟨y, hy⟩ : ∃ y, y = dg x := ⟨_, rfl⟩
      rw [← hy] at CF HS
      clear hx hjx hy
      go_wp2_with fail
      refine (CF.out _).mono ?_
      rintro e w2 ⟨rfl, rfl⟩
      go_wp2_with (at_builtin; refine app_strs w rfl _ _ rfl B d j ((xs.take j).map dg) _ 1 1 [y] rfl rfl HLJ.out rfl (HO.out.ext ((Ext.refl _).alloc _)) (RdT.built wr [y]) (HE.out.alloc _) (by omega) ?_; intro A' c' w3 h1 h2 h3; have HO3 := Lib.hid h1; have HE3 := Lib.hid h2; clear h1 h2 h3)
      go_roundw
      case rel => exact ⟨j + 1, A', c', by omega, by go_num, rfl, by rw [HS.out]; exact HO3.out, HE3.out⟩
      case measure => simp [intOf]; omega
    · obtain rfl : j = l := by omega
      have HX : xs.take j = xs := take_all xs j HL.out
      have HO2 := HO.out
      rw [HX] at HO2
      have HC := HO2.cap
      rw [List.length_map, ← HL.out] at HC
      have HRD := Lib.hid HO2.rd
      clear HO2 HX
      go_wp2_with fail
      refine (CJ.out _ _ _ HRD.out HC).mono ?_
      rintro e w2 ⟨rfl, he⟩
      have HE2 := Lib.hid (HE.out.trans he)
      clear he
      go_wp2_with fail
      go_ret
      exact ⟨rfl, HE2.out⟩
end Go.Proofs.YtedfmjijemcpaaaDoor
