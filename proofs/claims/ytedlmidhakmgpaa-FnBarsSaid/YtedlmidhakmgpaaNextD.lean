/- Contracts of l19Sum, l19First, spec.NextBar. -/
import Derived.Test.YtedlmidhakmgpaaNextC
namespace Go.Proofs.Ytedlmidhakmgpaa
open Go.RowKit

set_option maxHeartbeats 400000 in
theorem l19Sum_any (A : Option Addr) (c : Nat) (xs : List Int) (w : World) (hr : RdI w A xs) (hn : xs.length ≤ 1048576) (hb : ∀ x ∈ xs, 0 ≤ x ∧ x ≤ 4294967296) :
    Calls Try.prog 58 #[.slice A xs.length c] w fun e w' => e = .returned (.int .i64 xs.sum) ∧ w = w' := by
  obtain ⟨n, hnn⟩ : ∃ n, n = xs.length := ⟨_, rfl⟩
  rw [← hnn] at hn ⊢
  have HN := Lib.hid hnn
  have HR := Lib.hid hr
  have HB := Lib.hid hb
  clear hnn hr hb
  go_enter Try.func58, Try.ntmps58
  go_wp2
  go_loop [3, 8] (fun s i => ∃ (k : Nat) (t : Int), k ≤ n ∧ i = .int .i64 k ∧ s = .int .i64 t ∧ Hid (t = (xs.take k).sum) ∧ 0 ≤ t ∧ t ≤ k * 4294967296) (fun _ i => n - (intOf i).toNat)
  case atStart => exact ⟨0, 0, Nat.zero_le _, rfl, rfl, rfl, by omega, by omega⟩
  case round =>
    obtain ⟨k, t, hk, rfl, rfl, HT, ht0, ht1⟩ := hrel
    by_cases hlt : k < n
    · have hkx : k < xs.length := by rw [← HN.out]; exact hlt
      obtain ⟨b, o, hA, hc⟩ := HR.out.at_ k hkx
      subst hA
      obtain ⟨x, hx⟩ : ∃ x, x = xs.getD k 0 := ⟨_, rfl⟩
      rw [← hx] at hc
      have hbx := HB.out x (by rw [hx]; simp [List.getD, hkx])
      have HX := Lib.hid hx
      have HK := Lib.hid hkx
      clear hx hkx
      go_wp2
      go_round
      case rel => exact ⟨k + 1, t + x, by omega, by go_num, rfl, by rw [take_snoc xs k HK.out, List.sum_append, ← HT.out, ← HX.out]; simp [Hid], by omega, by omega⟩
      case measure => simp [intOf]; omega
    · obtain rfl : k = n := by omega
      go_wp2
      go_ret
      exact ⟨ret_int (by rw [HT.out, take_all xs k HN.out]), rfl⟩

theorem first_bad (r : Int) (w : World) (h : r = 1 ∨ r < 0) : Calls Try.prog 57 #[.int .i64 r] w (RetIB w [] false) := by
  by_cases h1 : r = 1
  · subst h1
    go_enter Try.func57, Try.ntmps57
    go_wp2
    go_ret2
    exact ⟨none, 0, rfl, OwI.nil _ _, Ext.refl w⟩
  · have h2 : r < 0 := by omega
    clear h
    go_enter Try.func57, Try.ntmps57
    go_wp2
    go_ret2
    exact ⟨none, 0, rfl, OwI.nil _ _, Ext.refl w⟩

set_option maxHeartbeats 1000000 in
theorem first_ok (N : Nat) (w : World) (h1 : N ≠ 1) (hN : N ≤ 100) : Calls Try.prog 57 #[.int .i64 N] w (RetIB w (firstL N) true) := by
  obtain ⟨R, hR⟩ : ∃ R, R = firstL N := ⟨_, rfl⟩
  rw [← hR]
  have HR := Lib.hid hR
  have hi1 : ¬ (N : Int) = 1 := by omega
  have hi2 : ¬ (N : Int) < 0 := by omega
  clear hR
  go_enter Try.func57, Try.ntmps57
  go_wp2
  go_loopw [0, 4] (fun v o wr => ∃ (k l : Nat) (zs : List Int) (A : Option Addr) (c : Nat), v = .int .i64 k ∧ o = .slice A l c ∧ k ≠ 1 ∧ k + l ≤ 100 ∧ Hid (zs.length = l) ∧ Hid (zs ++ firstL k = R) ∧ Hid (OwI wr w.heap.size A c zs) ∧ Hid (Ext w wr)) (fun v _ _ => (intOf v).toNat)
  case atStart => exact ⟨N, 0, [], _, _, rfl, rfl, h1, by omega, rfl, HR.out.symm, OwI.empty w, (Ext.refl w).alloc _⟩
  case round =>
    obtain ⟨k, l, zs, A, c, rfl, rfl, hk1, hkl, HL, HZ, HO, HE⟩ := hrel
    by_cases hlt : 3 < k
    · have hlt' : (3 : Int) < k := by omega
      go_wp2_with (at_builtin; refine app_int w wr rfl _ _ rfl A c l zs 2 rfl rfl HL.out HO.out HE.out (by omega) ?_; intro A' c' w2 h2 h3; have HO2 := Lib.hid h2; have HE2 := Lib.hid h3; clear h2 h3)
      obtain ⟨q, rfl⟩ : ∃ q, k = q + 4 := ⟨k - 4, by omega⟩
      go_roundw
      case rel =>
        refine ⟨q + 2, l + 1, zs ++ [2], A', c', by go_num, rfl, by omega, by omega, by simp [HL.out, Hid], ?_, HO2.out, HE2.out⟩
        have := HZ.out
        rw [show firstL (q + 4) = 2 :: firstL (q + 2) from rfl] at this
        simpa [Hid] using this
      case measure => simp [intOf]; omega
    · have hlt' : ¬ (3 : Int) < k := by omega
      by_cases h0 : k = 0
      · subst h0
        have HZ2 : Hid (zs = R) := by have := HZ.out; simpa [firstL, Hid] using this
        go_wp2_with fail
        go_ret2
        exact ⟨A, c, by rw [← HZ2.out, HL.out]; rfl, by rw [← HZ2.out]; exact HO.out, HE.out⟩
      · have h0' : (0 : Int) < k := by omega
        have HZ2 : Hid (zs ++ [(k : Int)] = R) := by
          have := HZ.out
          have hk : k = 2 ∨ k = 3 := by omega
          rcases hk with rfl | rfl <;> exact this
        go_wp2_with (at_builtin; refine app_int w wr rfl _ _ rfl A c l zs k rfl rfl HL.out HO.out HE.out (by omega) ?_; intro A' c' w2 h2 h3; have HO2 := Lib.hid h2; have HE2 := Lib.hid h3; clear h2 h3)
        go_ret2
        refine ⟨A', c', ?_, by rw [← HZ2.out]; exact HO2.out, HE2.out⟩
        rw [← HZ2.out]
        simp [HL.out]
end Go.Proofs.Ytedlmidhakmgpaa
