/- FnQuantize: the drawn times. -/
import Derived.Test.YtpiaeiihacobnaaDraw
import Derived.Test.YtpiaeiihacobnaaFqB
namespace Go.Proofs.Ytpiaeiihacobnaa
open Go.RowKit

theorem sort_snoc {xs : List Int} {t : Int} (h : sortB xs = true) (hb : ∀ x ∈ xs, x ≤ t) : sortB (xs ++ [t]) = true := by
  refine sortB_iff.2 fun i hi => ?_
  rw [List.length_append] at hi
  simp only [List.length_cons, List.length_nil] at hi
  by_cases h1 : i + 1 < xs.length
  · have e1 : (xs ++ [t]).getD i 0 = xs.getD i 0 := by simp [List.getD, List.getElem?_append_left (show i < xs.length by omega)]
    have e2 : (xs ++ [t]).getD (i + 1) 0 = xs.getD (i + 1) 0 := by simp [List.getD, List.getElem?_append_left h1]
    rw [e1, e2]
    exact sortB_iff.1 h i h1
  · have e1 : (xs ++ [t]).getD i 0 = xs.getD i 0 := by simp [List.getD, List.getElem?_append_left (show i < xs.length by omega)]
    have e2 : (xs ++ [t]).getD (i + 1) 0 = t := by simp [List.getD, List.getElem?_append_right (show xs.length ≤ i + 1 by omega), show i + 1 - xs.length = 0 by omega]
    rw [e1, e2]
    exact hb _ (getD_mem0 (by omega))
def RetDrawT (v : World) (L : Nat) (e : Ending) (w' : World) : Prop := ∃ B d ys, e = .returned (.slice B ys.length d) ∧ OwI w' L B d ys ∧ okTimes ys ∧ Ext v w'
set_option maxHeartbeats 2000000 in
theorem draw22_any (g n c : Nat) (A : Option Addr) (xs : List Int) (v w : World) (hc : Cur w g A n c) (hr : Rd v 1 A n (xs.map (Value.int .u8))) (hn : n ≤ 1048576) (hA : ∀ a, A = some a → 0 < n → a.block < g) (hv : Ext v w) (hg : v.heap.size ≤ g) :
    Calls Try.prog 60 #[.pointer (some ⟨g, 0, none⟩)] w (RetDrawT v v.heap.size) := by
  have CB : Hid (∀ (m : Nat) (W : World), 1 ≤ m → m ≤ 256 → Ext v W → Cur W g A n c → Calls Try.prog 73 #[.pointer (some ⟨g, 0, none⟩), .int .i64 (m : Int)] W (RetBelow W g m A n c)) := fun m W h1 h2 he h => below_any g n c m A xs W h (hr.ext he) hn hA ⟨h1, h2⟩
  have HC : Hid (Cur (w.alloc (.cells #[] 3)) g A n c) := hc.ext ((Ext.refl _).alloc _)
  have HV : Hid (Ext v (w.alloc (.cells #[] 3))) := hv.alloc _
  have HO : Hid (OwI (w.alloc (.cells #[] 3)) v.heap.size (some ⟨w.heap.size, 0, none⟩) 0 []) := (OwI.empty w).lower hv.size
  obtain ⟨W, hW⟩ : ∃ W, W = (w.alloc (.cells #[] 3)) := ⟨_, rfl⟩
  rw [← hW] at HC HV HO
  have C30 := Lib.hid (CB.out 30 W (by omega) (by omega) HV.out HC.out)
  have HGV := Lib.hid hg
  clear hc hr hv hA
  go_enter Try.func60, Try.ntmps60
  go_wp2_with fail
  rw [← hW]
  refine C30.out.mono ?_
  rintro e w1 ⟨⟨x, rfl, hx⟩, hc1, hg1⟩
  have HC1 := Lib.hid hc1
  have HO1 := Lib.hid (HO.out.keptBy hg1 (HC.out.ne HO.out))
  have HV1 := Lib.hid (HV.out.row hg1 HGV.out)
  clear hc1 hg1 HC HO HV hW C30
  have C7 := Lib.hid (CB.out 7 w1 (by omega) (by omega) HV1.out HC1.out)
  go_wp2_with fail
  refine C7.out.mono ?_
  rintro e w2 ⟨⟨y, rfl, hy⟩, hc1, hg1⟩
  have HC2 := Lib.hid hc1
  have HO2 := Lib.hid (HO1.out.keptBy hg1 (HC1.out.ne HO1.out))
  have HV2 := Lib.hid (HV1.out.row hg1 HGV.out)
  clear hc1 hg1 HC1 HO1 HV1 C7
  go_wp2_with fail
  go_loopw [3, 4, 5] (fun o t i wr => ∃ (k m T : Nat) (B : Option Addr) (d : Nat) (ys : List Int), i = .int .i64 k ∧ o = .slice B m d ∧ t = .int .i64 T ∧ k + m = y ∧ T ≤ 30 + 60 * m ∧ Hid (ys.length = m) ∧ Hid (∀ z ∈ ys, 0 ≤ z ∧ z ≤ T) ∧ Hid (sortB ys = true) ∧ Hid (Cur wr g A n c) ∧ Hid (OwI wr v.heap.size B d ys) ∧ Hid (Ext v wr)) (fun _ _ i _ => (intOf i).toNat)
  case atStart => exact ⟨y, 0, x, _, 0, [], rfl, rfl, rfl, by omega, by omega, rfl, fun z hz => absurd hz (by simp), rfl, HC2.out, HO2.out, HV2.out⟩
  case round =>
    clear HC2 HO2 HV2
    obtain ⟨k, m, T, B, d, ys, rfl, rfl, rfl, hkm, hT, HM, HY, HS, HC, HO, HE⟩ := hrel
    by_cases hlt : 0 < k
    · go_wp2_with (at_builtin; refine app_ints v rfl _ _ rfl B d m ys _ 1 1 [(T : Int)] rfl rfl HM.out rfl (HO.out.ext ((Ext.refl _).alloc _)) (RdI.built wr [(T : Int)]) (HE.out.alloc _) (by omega) ?_; intro A' c' w3 h1 h2 h3; have HO3 := Lib.hid h1; have HE3 := Lib.hid h2; have HC3 := Lib.hid ((HC.out.ext ((Ext.refl _).alloc _)).grown (HO.out.ext ((Ext.refl _).alloc _)) h3); clear h1 h2 h3)
      have C60 := Lib.hid (CB.out 60 w3 (by omega) (by omega) HE3.out HC3.out)
      refine C60.out.mono ?_
      rintro e w4 ⟨⟨z, rfl, hz⟩, hc1, hg1⟩
      have HC4 := Lib.hid hc1
      have HO4 := Lib.hid (HO3.out.keptBy hg1 (HC3.out.ne HO3.out))
      have HE4 := Lib.hid (HE3.out.row hg1 HGV.out)
      clear hc1 hg1 C60
      go_wp2_with fail
      go_roundw
      case rel =>
        refine ⟨k - 1, m + 1, T + z, A', c', ys ++ [(T : Int)], by go_num, rfl, by go_num, by omega, by omega, by rw [List.length_append, HM.out]; exact rfl, ?_, sort_snoc HS.out (fun u hu => (HY.out u hu).2), HC4.out, HO4.out, HE4.out⟩
        refine Lib.hid fun u hu => ?_
        rw [List.mem_append] at hu
        rcases hu with hu | hu
        · have := HY.out u hu
          omega
        · simp only [List.mem_cons, List.not_mem_nil, or_false] at hu
          omega
      case measure => simp [intOf]; omega
    · obtain rfl : k = 0 := by omega
      go_wp2_with fail
      go_ret
      have := HM.out
      subst this
      exact ⟨B, d, ys, rfl, HO.out, ⟨by omega, fun u hu => by have := HY.out u hu; omega, HS.out⟩, HE.out⟩
theorem makeTimes_any (n c m : Nat) (A : Option Addr) (xs : List Int) (w : World) (hr : Rd w 1 A n (xs.map (Value.int .u8))) (hn : n ≤ 1048576) (hm : m ≤ 1000) :
    Calls Try.prog 35 #[.slice A n c, .int .i64 (m : Int)] w (RetDrawT w w.heap.size) := by
  have HR := Lib.hid hr
  have HL := Lib.hid hr.block_lt
  clear hr
  go_enter Try.func35, Try.ntmps35
  go_wp2_with fail
  refine (l31New_any _ _ _ _ xs _ HR.out hn hm).mono ?_
  rintro e w1 ⟨g, rfl, hcu, hg, he⟩
  have C := Lib.hid (draw22_any g n c A xs w w1 hcu HR.out hn (fun a ha h0 => by have := HL.out a ha h0; omega) he hg)
  clear hcu hg he
  go_wp2_with fail
  refine C.out.mono ?_
  rintro e w2 ⟨B, d, ys, rfl, ho, hb, he⟩
  have H : Hid (RetDrawT w w.heap.size (.returned (.slice B ys.length d)) w2) := ⟨B, d, ys, rfl, ho, hb, he⟩
  clear ho hb he
  go_wp2_with fail
  go_ret
  exact H.out
end Go.Proofs.Ytpiaeiihacobnaa
