/- Contracts of impl.allWithin, with the library's ContainsFunc and IndexFunc over its closure, and of impl.sumOf. -/
import Derived.Test.YtedfmjijemcpaaaDoorInts
namespace Go.Proofs.YtedfmjijemcpaaaDoor
open Go.RowKit

/-- Each number of the list lies from lo to hi. -/
def allB (xs : List Int) (lo hi : Int) : Bool := xs.all fun x => inB x lo hi
theorem allB_iff {xs : List Int} {lo hi : Int} : allB xs lo hi = true ↔ ∀ x ∈ xs, lo ≤ x ∧ x ≤ hi := by simp [allB, inB_iff]

theorem allClos_any (x lo hi : Int) (b1 b2 : Nat) (w : World) (h1 : w.cell? ⟨b1, 0, none⟩ = some (.int .i64 lo)) (h2 : w.cell? ⟨b2, 0, none⟩ = some (.int .i64 hi)) :
    Calls Tryd.prog 42 #[.int .i64 x, .pointer (some ⟨b1, 0, none⟩), .pointer (some ⟨b2, 0, none⟩)] w fun e w' => e = .returned (.bool (!inB x lo hi)) ∧ w = w' := by
  go_enter Tryd.func42, Tryd.ntmps42
  go_wp2_with (go_at_call 31; refine (within_any _ _ _ _).mono ?_; rintro e w' ⟨rfl, rfl⟩)
  go_ret
  exact ⟨rfl, rfl⟩

/-- What IndexFunc leaves. -/
def RetIdx (w : World) (P : Prop) (e : Ending) (w' : World) : Prop := ∃ i : Int, e = .returned (.int .i64 i) ∧ (0 ≤ i ↔ P) ∧ w = w'

set_option maxHeartbeats 400000 in
theorem allIdx_any (A : Option Addr) (c : Nat) (xs : List Int) (lo hi : Int) (b1 b2 : Nat) (w : World) (hr : RdI w A xs) (hn : xs.length ≤ 9223372036854775806)
    (h1 : w.cell? ⟨b1, 0, none⟩ = some (.int .i64 lo)) (h2 : w.cell? ⟨b2, 0, none⟩ = some (.int .i64 hi)) :
    Calls Tryd.prog 53 #[.slice A xs.length c, .func (.func 42) #[] #[.pointer (some ⟨b1, 0, none⟩), .pointer (some ⟨b2, 0, none⟩)]] w (RetIdx w (allB xs lo hi = false)) := by
  obtain ⟨n, hnn⟩ : ∃ n, n = xs.length := ⟨_, rfl⟩
  rw [← hnn] at hn ⊢
  have HN := Lib.hid hnn
  have HR := Lib.hid hr
  have C1 := Lib.hid h1
  have C2 := Lib.hid h2
  clear hnn hr h1 h2
  go_enter Tryd.func53, Tryd.ntmps53
  go_wp2
  go_loop [8] (fun i => ∃ k : Nat, k ≤ n ∧ i = .int .i64 k ∧ Hid (∀ j, j < k → inB (xs.getD j 0) lo hi = true)) (fun i => n - (intOf i).toNat)
  case atStart => exact ⟨0, Nat.zero_le _, rfl, fun j hj => absurd hj (by omega)⟩
  case round =>
    obtain ⟨k, hk, rfl, HJ⟩ := hrel
    by_cases hlt : k < n
    · obtain ⟨b, o, hA, hc⟩ := HR.out.at_ k (by rw [← HN.out]; exact hlt)
      subst hA
      obtain ⟨x, hx⟩ : ∃ x, x = xs.getD k 0 := ⟨_, rfl⟩
      rw [← hx] at hc
      have HX := Lib.hid hx
      clear hx
      by_cases he : inB x lo hi = true
      · go_wp2_with (go_at_call 42; refine (allClos_any _ _ _ _ _ _ C1.out C2.out).mono ?_; rintro e w' ⟨rfl, rfl⟩)
        go_round
        case rel =>
          refine ⟨k + 1, by omega, by go_num, fun j hj => ?_⟩
          by_cases hjk : j < k
          · exact HJ.out j hjk
          · obtain rfl : j = k := by omega
            rw [← HX.out]
            exact he
        case measure => simp [intOf]; omega
      · have he : inB x lo hi = false := by simpa using he
        go_wp2_with (go_at_call 42; refine (allClos_any _ _ _ _ _ _ C1.out C2.out).mono ?_; rintro e w' ⟨rfl, rfl⟩)
        go_ret
        refine ⟨k, rfl, ⟨fun _ => ?_, fun _ => by omega⟩, rfl⟩
        have hm : x ∈ xs := by rw [HX.out]; have : k < xs.length := by rw [← HN.out]; exact hlt
                               simp [List.getD, this]
        rw [← Bool.not_eq_true, allB, List.all_eq_true]
        intro ha
        rw [ha x hm] at he
        cases he
    · obtain rfl : k = n := by omega
      go_wp2
      go_ret
      refine ⟨-1, rfl, ⟨fun h => absurd h (by omega), fun h => ?_⟩, rfl⟩
      exfalso
      rw [← Bool.not_eq_true, allB, List.all_eq_true] at h
      refine h fun x hx => ?_
      obtain ⟨j, hj, e⟩ := List.mem_iff_getElem.1 hx
      have := HJ.out j (by rw [HN.out]; exact hj)
      rw [← e]
      simpa [List.getD, hj] using this

theorem allHas_any (A : Option Addr) (c : Nat) (xs : List Int) (lo hi : Int) (b1 b2 : Nat) (w : World) (hr : RdI w A xs) (hn : xs.length ≤ 9223372036854775806)
    (h1 : w.cell? ⟨b1, 0, none⟩ = some (.int .i64 lo)) (h2 : w.cell? ⟨b2, 0, none⟩ = some (.int .i64 hi)) :
    Calls Tryd.prog 41 #[.slice A xs.length c, .func (.func 42) #[] #[.pointer (some ⟨b1, 0, none⟩), .pointer (some ⟨b2, 0, none⟩)]] w fun e w' => e = .returned (.bool (!allB xs lo hi)) ∧ w = w' := by
  have H := Lib.hid (allIdx_any A c xs lo hi b1 b2 w hr hn h1 h2)
  obtain ⟨b, hb⟩ : ∃ b, b = allB xs lo hi := ⟨_, rfl⟩
  rw [← hb] at H ⊢
  clear hb h1 h2 hr
  go_enter Tryd.func41, Tryd.ntmps41
  go_wp2_with fail
  refine H.out.mono ?_
  rintro e w' ⟨i, rfl, hi, rfl⟩
  have HI := Lib.hid hi
  clear hi
  go_wp2_with fail
  go_ret
  refine ⟨ret_bool ?_, rfl⟩
  have := HI.out
  cases b with
  | true => simp at this; simp; exact this
  | false => simp at this; simpa using this

theorem allWithin_any (A : Option Addr) (c : Nat) (xs : List Int) (lo hi : Int) (w : World) (hr : RdI w A xs) (hn : xs.length ≤ 9223372036854775806) :
    Calls Tryd.prog 32 #[.slice A xs.length c, .int .i64 lo, .int .i64 hi] w fun e w' => e = .returned (.bool (allB xs lo hi)) ∧ Ext w w' := by
  have HR := Lib.hid hr
  clear hr
  have hmf : ∀ (fn : Fn) (first cap : Array Value) (w : World), (Instr.makeFunc fn first cap).run Tryd.prog w = .ok (.func fn first cap) w := fun _ _ _ _ => rfl
  have he : Hid (Ext w ((w.alloc (.cells #[.int .i64 lo] 3)).alloc (.cells #[.int .i64 hi] 3))) := ((Ext.refl w).alloc _).alloc _
  go_enter Tryd.func32, Tryd.ntmps32
  go_wp2_with fail
  refine (allHas_any _ _ _ lo hi _ _ _ (HR.out.ext he.out) hn ?_ ?_).mono ?_
  · exact Ext.cell ((Ext.refl _).alloc _) (cell_of_row _ _ 0 #[.int .i64 lo] _ (0, 0) (heap_alloc_new w _))
  · exact cell_of_row _ _ 0 #[.int .i64 hi] _ (0, 0) (by rw [show w.heap.size + 1 = (w.alloc (.cells #[.int .i64 lo] 3)).heap.size by simp]; exact heap_alloc_new _ _)
  rintro e w' ⟨rfl, rfl⟩
  go_wp2_with fail
  go_ret
  exact ⟨ret_bool (by simp), he.out⟩

set_option maxHeartbeats 400000 in
/-- impl.sumOf, of numbers whose sums fit. -/
theorem sumOf_any (A : Option Addr) (c : Nat) (xs : List Int) (w : World) (hr : RdI w A xs) (hn : xs.length ≤ 1048576) (hb : ∀ x ∈ xs, 0 ≤ x ∧ x ≤ 4294967296) :
    Calls Tryd.prog 33 #[.slice A xs.length c] w fun e w' => e = .returned (.int .i64 xs.sum) ∧ w = w' := by
  obtain ⟨n, hnn⟩ : ∃ n, n = xs.length := ⟨_, rfl⟩
  rw [← hnn] at hn ⊢
  have HN := Lib.hid hnn
  have HR := Lib.hid hr
  have HB := Lib.hid hb
  clear hnn hr hb
  go_enter Tryd.func33, Tryd.ntmps33
  go_wp2
  go_loop [3, 8] (fun s i => ∃ (k : Nat) (t : Int), k ≤ n ∧ i = .int .i64 k ∧ s = .int .i64 t ∧ Hid (t = (xs.take k).sum) ∧ 0 ≤ t ∧ t ≤ k * 4294967296) (fun _ i => n - (intOf i).toNat)
  case atStart => exact ⟨0, 0, Nat.zero_le _, rfl, rfl, rfl, by omega, by omega⟩
  case round =>
    obtain ⟨k, t, hk, rfl, rfl, HT, ht0, ht1⟩ := hrel
    by_cases hlt : k < n
    · have hkx : k < xs.length := by rw [← HN.out]; exact hlt
      obtain ⟨b, o, hA, hc⟩ := HR.out.at_ k hkx
      subst hA
      obtain ⟨x, hx⟩ : ∃ x, x = xs.getD k 0 := ⟨_, rfl⟩
      rw [← hx] at hc
      have hbx := HB.out x (by rw [hx]; simp [List.getD, hkx])
      have HX := Lib.hid hx
      have HK := Lib.hid hkx
      clear hx hkx
      go_wp2
      go_round
      case rel => exact ⟨k + 1, t + x, by omega, by go_num, rfl, by rw [take_snoc xs k HK.out, List.sum_append, ← HT.out, ← HX.out]; simp [Hid], by omega, by omega⟩
      case measure => simp [intOf]; omega
    · obtain rfl : k = n := by omega
      go_wp2
      go_ret
      exact ⟨ret_int (by rw [HT.out, take_all xs k HN.out]), rfl⟩
end Go.Proofs.YtedfmjijemcpaaaDoor
