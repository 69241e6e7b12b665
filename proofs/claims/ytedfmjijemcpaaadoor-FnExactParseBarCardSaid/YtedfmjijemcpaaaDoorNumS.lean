/- The reference's FormatInt, Join, FormatMeter, FormatBar. -/
import Derived.Test.YtedfmjijemcpaaaDoorNumP
import Derived.Lib.SlBytesRow
namespace Go.Proofs.YtedfmjijemcpaaaDoor
open Go.RowKit

theorem conv_dg (n : Nat) (hn : n ≤ 9) (w : World) (cap : Nat) :
    (convert 40 9 (.slice (some ⟨w.heap.size, 0, none⟩) 1 cap)).run Tryd.prog (w.alloc (.cells #[.int .u8 (48 + (n : Int))] 5)) = .ok (.string (dg n)) (w.alloc (.cells #[.int .u8 (48 + (n : Int))] 5)) := by
  have hb : Lib.Bytes (w.alloc (.cells #[.int .u8 (48 + (n : Int))] 5)) w.heap.size 0 (dg n) := by
    intro i hi
    obtain rfl : i = 0 := by have : (dg n).size = 1 := rfl; omega
    have e := cell_of_row _ _ 0 #[.int .u8 (48 + (n : Int))] 5 (0, 0) (heap_alloc_new w _)
    rw [Nat.zero_add]
    refine e.trans ?_
    have h2 : ((dg n)[0]).toNat = 48 + n := by
      show (UInt8.ofNat (48 + ((n : Int)).toNat)).toNat = 48 + n
      rw [UInt8.toNat_ofNat']
      omega
    rw [h2]
    simp
  exact Lib.run_convert_whole _ 40 5 9 Tryd.underlying40 Tryd.underlying5 Tryd.underlying9 w.heap.size 0 (dg n) hb cap
set_option maxRecDepth 20000 in
set_option maxHeartbeats 1000000 in
theorem fiS_any (x : Int) (w : World) (hx : 0 ≤ x ∧ x ≤ 9) :
    Calls Tryd.prog 20 #[.int .i64 x] w fun e w' => e = .returned (.string (dg x)) ∧ Ext w w' := by
  obtain ⟨n, rfl⟩ := Int.eq_ofNat_of_zero_le hx.1
  have hcv := conv_dg n (by omega) w 1
  have hu8 : IntKind.u8.wrap (48 + (n : Int)) = 48 + (n : Int) := IntWalk.u8_in _ (by omega)
  have HE : Hid (Ext w (w.alloc (.cells #[.int .u8 (48 + (n : Int))] 5))) := (Ext.refl w).alloc _
  obtain ⟨d, hd⟩ : ∃ d, d = dg (n : Int) := ⟨_, rfl⟩
  have hds : ¬ 9223372036854775807 < d.size := by rw [hd]; show ¬ 9223372036854775807 < 1; omega
  have hap : d ++ (⟨#[]⟩ : ByteArray) = d := ByteArray.ext (by simp)
  rw [← hd] at hcv ⊢
  have HAP := Lib.hid hap
  clear hd hap
  go_enter Tryd.func20, Tryd.ntmps20
  go_wp2_with fail
  go_loopw [0, 3] (fun i s wr => i = .int .i64 n ∧ s = .string ⟨#[]⟩ ∧ w = wr) (fun _ _ _ => 0)
  case atStart => exact ⟨rfl, rfl, rfl⟩
  case round =>
    obtain ⟨rfl, rfl, rfl⟩ := hrel
    go_wp2_with fail
    go_ret
    exact ⟨by rw [HAP.out]; exact rfl, HE.out⟩

theorem jn_nil (s : UInt8) : jn s [] = [] := rfl
theorem jn_snoc (s : UInt8) (x : Int) : ∀ (xs : List Int), 1 ≤ xs.length → jn s (xs ++ [x]) = (jn s xs ++ [s]) ++ [dgb x]
  | [], h => by simp at h
  | [y], _ => by rw [List.cons_append, List.nil_append, jn_cons, jn_one, jn_one]; rfl
  | y :: z :: ys, _ => by
    have ih := jn_snoc s x (z :: ys) (by simp)
    rw [List.cons_append] at ih
    rw [List.cons_append, List.cons_append, jn_cons, ih, jn_cons]
    rfl
theorem ba_app (a b : List UInt8) : (⟨a.toArray⟩ : ByteArray) ++ (⟨b.toArray⟩ : ByteArray) = ⟨(a ++ b).toArray⟩ := ByteArray.ext (by simp)
set_option maxHeartbeats 1000000 in
theorem joS_any (B : Option Addr) (d : Nat) (xs : List Int) (s : UInt8) (w : World) (hr : RdT w B (xs.map dg)) (hl : xs.length ≤ 12) :
    Calls Tryd.prog 21 #[.slice B xs.length d, .string ⟨#[s]⟩] w fun e w' => e = .returned (.string ⟨(jn s xs).toArray⟩) ∧ w = w' := by
  obtain ⟨l, hll⟩ : ∃ l, l = xs.length := ⟨_, rfl⟩
  obtain ⟨R, hR⟩ : ∃ R : ByteArray, R = ⟨(jn s xs).toArray⟩ := ⟨_, rfl⟩
  obtain ⟨b, hb⟩ : ∃ b : ByteArray, b = ⟨#[s]⟩ := ⟨_, rfl⟩
  have hbs : b.size = 1 := by rw [hb]; rfl
  have HL := Lib.hid hll
  have HR := Lib.hid hr
  have HRR := Lib.hid hR
  have HB := Lib.hid hb
  rw [← hll, ← hR, ← hb]
  rw [← hll] at hl
  clear hll hr hR hb
  go_enter Tryd.func21, Tryd.ntmps21
  go_wp2_with fail
  go_loop [5, 10] (fun o i => ∃ (j : Nat) (S : ByteArray), j ≤ l ∧ i = .int .i64 j ∧ o = .string S ∧ S.size ≤ 24 ∧ Hid (S = ⟨(jn s (xs.take j)).toArray⟩)) (fun _ i => l - (intOf i).toNat)
  case atStart => exact ⟨0, ⟨#[]⟩, by omega, rfl, rfl, by decide, rfl⟩
  case round =>
    obtain ⟨j, S, hj, rfl, rfl, hS, HS⟩ := hrel
    by_cases hlt : j < l
    · have hjx : j < xs.length := by rw [← HL.out]; exact hlt
      obtain ⟨x, hx⟩ : ∃ x, x = xs.getD j 0 := ⟨_, rfl⟩
      obtain ⟨b0, o, hA, hc⟩ := HR.out.at_ j (dg x) (by rw [List.getElem?_map, hx]; simp [List.getD, hjx])
      subst hA
      have HT : Hid (xs.take (j + 1) = xs.take j ++ [x]) := by rw [take_snoc xs j hjx, ← hx]; exact rfl
      have HLJ : Hid ((xs.take j).length = j) := by rw [List.length_take]; exact (by omega : min j xs.length = j)
      obtain ⟨y, hy⟩ : ∃ y, y = dg x := ⟨_, rfl⟩
      have hys : y.size = 1 := by rw [hy]; rfl
      have hsy : ¬ 9223372036854775807 < S.size + y.size := by omega
      have hsb : ¬ 9223372036854775807 < S.size + b.size := by omega
      have hsby : ¬ 9223372036854775807 < S.size + b.size + y.size := by omega
      have HY := Lib.hid hy
      rw [← hy] at hc
      have hlen := jn_len s (xs.take (j + 1))
      have hlen2 : (xs.take (j + 1)).length ≤ 12 := by rw [List.length_take]; omega
      have HSZ : Hid ((⟨(jn s (xs.take (j + 1))).toArray⟩ : ByteArray).size ≤ 24) := show (jn s (xs.take (j + 1))).length ≤ 24 by omega
      clear hx hy hjx hlen hlen2
      by_cases h0 : j = 0
      · subst h0
        rw [Nat.add_zero] at hc
        have HE : Hid (S ++ y = ⟨(jn s (xs.take (0 + 1))).toArray⟩) := by
          rw [HT.out, HS.out, HY.out]
          simp only [List.take_zero, List.nil_append, jn_nil, jn_one]
          exact ba_app [] [dgb x]
        go_wp2_with fail
        go_round
        case rel => exact ⟨0 + 1, S ++ y, by omega, by go_num, rfl, by rw [HE.out]; exact HSZ.out, HE.out⟩
        case measure => simp [intOf]; omega
      · have h0z : (0 : Int) < (j : Int) := by omega
        have HE : Hid (S ++ b ++ y = ⟨(jn s (xs.take (j + 1))).toArray⟩) := by
          rw [HT.out, jn_snoc s x _ (by rw [HLJ.out]; omega), HS.out, HY.out, HB.out]
          rw [show (⟨#[s]⟩ : ByteArray) = ⟨[s].toArray⟩ from rfl, ba_app, show dg x = ⟨[dgb x].toArray⟩ from rfl, ba_app]
          exact rfl
        go_wp2_with fail
        go_round
        case rel => exact ⟨j + 1, S ++ b ++ y, by omega, by go_num, rfl, by rw [HE.out]; exact HSZ.out, HE.out⟩
        case measure => simp [intOf]; omega
    · obtain rfl : j = l := by omega
      have HF : Hid (S = R) := by rw [HS.out, HRR.out, take_all xs j HL.out]; exact rfl
      go_wp2_with fail
      go_ret
      exact ⟨by rw [HF.out]; exact rfl, rfl⟩
end Go.Proofs.YtedfmjijemcpaaaDoor
