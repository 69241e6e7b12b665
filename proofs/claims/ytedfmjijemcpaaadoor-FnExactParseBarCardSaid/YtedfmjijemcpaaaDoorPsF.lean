/- The reference's FormatInt at every int: some string. -/
import Derived.Test.YtedfmjijemcpaaaDoorNumT
import Derived.Deep.RegionWith
namespace Go.Proofs.YtedfmjijemcpaaaDoor
open Go.RowKit

def SomeT (w : World) (b : Nat) (e : Ending) (w' : World) : Prop := ∃ s : ByteArray, e = .returned (.string s) ∧ s.size ≤ b ∧ Ext w w'
theorem fp_meas {x : Int} {q n : Nat} (h : x = (q : Int)) (hq : q < n) : (intOf (Value.int .i64 x)).toNat < (intOf (Value.int .i64 (n : Int))).toNat := by
  subst h
  exact hq
theorem fp_round {n N : Nat} {S : ByteArray} (hS : 9 * S.size + n ≤ N) (hN : N ≤ 9223372036854775807) (h9 : 9 < n) :
    n % 10 ≤ 9 ∧ (n : Int) % 10 = ((n % 10 : Nat) : Int) ∧ (n : Int) / 10 = ((n / 10 : Nat) : Int) ∧ IntKind.u8.wrap (48 + ((n % 10 : Nat) : Int)) = 48 + ((n % 10 : Nat) : Int) ∧ wrap64 ((n / 10 : Nat) : Int) = ((n / 10 : Nat) : Int) ∧ n / 10 < n ∧
    ∀ D : ByteArray, D.size = 1 → ¬ 9223372036854775807 < D.size + S.size ∧ 9 * (D ++ S).size + n / 10 ≤ N := by
  refine ⟨by omega, by omega, by omega, IntWalk.u8_in _ (by omega), IntWalk.wrap64_in _ (by omega), by omega, fun D hD => ⟨by omega, ?_⟩⟩
  rw [ByteArray.size_append]
  omega
theorem fp_end {n N : Nat} {S : ByteArray} (hS : 9 * S.size + n ≤ N) (hN : N ≤ 9223372036854775807) (h9 : ¬ 9 < n) :
    n ≤ 9 ∧ IntKind.u8.wrap (48 + (n : Int)) = 48 + (n : Int) ∧ ∀ D : ByteArray, D.size = 1 → ¬ 9223372036854775807 < D.size + S.size ∧ (D ++ S).size ≤ N + 1 := by
  refine ⟨by omega, IntWalk.u8_in _ (by omega), fun D hD => ⟨by omega, ?_⟩⟩
  rw [ByteArray.size_append]
  omega
set_option maxRecDepth 20000 in
set_option maxHeartbeats 1000000 in
theorem fiP_any (N : Nat) (w : World) (hN : N ≤ 9223372036854775807) :
    Calls Tryd.prog 20 #[.int .i64 (N : Int)] w (SomeT w (N + 1)) := by
  have HNN := Lib.hid hN
  clear hN
  go_enter Tryd.func20, Tryd.ntmps20
  go_wp2_with fail
  go_loopw [0, 3] (fun i s wr => ∃ (n : Nat) (S : ByteArray), i = .int .i64 n ∧ s = .string S ∧ Hid (9 * S.size + n ≤ N) ∧ Hid (Ext w wr)) (fun i _ _ => (intOf i).toNat)
  case atStart => exact ⟨N, ⟨#[]⟩, rfl, rfl, Nat.le_of_eq (Nat.zero_add N), Ext.refl w⟩
  case round =>
    obtain ⟨n, S, rfl, rfl, HS, HE⟩ := hrel
    by_cases hlt : 9 < n
    · obtain ⟨k1, e1, e2, hu8, hwq, hqn, kD⟩ := fp_round HS.out HNN.out hlt
      obtain ⟨d, hd⟩ : ∃ d : Nat, d = n % 10 := ⟨_, rfl⟩
      obtain ⟨q, hq⟩ : ∃ q : Nat, q = n / 10 := ⟨_, rfl⟩
      have hcv := conv_dg (n % 10) k1 wr 1
      obtain ⟨D, hD⟩ : ∃ D, D = dg ((n % 10 : Nat) : Int) := ⟨_, rfl⟩
      obtain ⟨hsz, hs2⟩ := kD D (by rw [hD]; rfl)
      have HSZ := Lib.hid hs2
      have HQN := Lib.hid hqn
      rw [← hD] at hcv
      rw [← hd] at e1 hu8 hcv
      rw [← hq] at e2 hwq HSZ HQN
      have HE2 := Lib.hid (HE.out.alloc (.cells #[.int .u8 (48 + (d : Int))] 5))
      clear hd hq hD hs2 kD k1 hqn
      go_wp2_with fail
      go_roundw
      case rel => exact ⟨q, D ++ S, congrArg (Value.int .i64) hwq, rfl, HSZ.out, HE2.out⟩
      case measure => exact fp_meas hwq HQN.out
    · obtain ⟨k1, hu8, kD⟩ := fp_end HS.out HNN.out hlt
      have hcv := conv_dg n k1 wr 1
      obtain ⟨D, hD⟩ : ∃ D, D = dg (n : Int) := ⟨_, rfl⟩
      obtain ⟨hsz, hs2⟩ := kD D (by rw [hD]; rfl)
      have HSZ := Lib.hid hs2
      have HE2 := Lib.hid (HE.out.alloc (.cells #[.int .u8 (48 + (n : Int))] 5))
      rw [← hD] at hcv
      clear hD hs2 kD k1
      go_wp2_with fail
      go_ret
      exact ⟨_, rfl, HSZ.out, HE2.out⟩

set_option maxRecDepth 20000 in
set_option maxHeartbeats 1000000 in
/-- One digit below zero. -/
theorem fiN1_any (d : Nat) (w : World) (hd : 1 ≤ d ∧ d ≤ 9) :
    Calls Tryd.prog 20 #[.int .i64 (-(d : Int))] w (SomeT w 2) := by
  have h0 : (-(d : Int)) < 0 := by omega
  have hq : (-(d : Int)).tdiv 10 = 0 := by rw [Int.neg_tdiv, Int.tdiv_eq_ediv_of_nonneg (by omega)]; omega
  have hs : (48 : Int) - (-(d : Int)) = 48 + (d : Int) := by omega
  have hu8 : IntKind.u8.wrap (48 + (d : Int)) = 48 + (d : Int) := IntWalk.u8_in _ (by omega)
  have hcv := conv_dg d hd.2 w 1
  obtain ⟨D, hD⟩ : ∃ D, D = dg (d : Int) := ⟨_, rfl⟩
  have hds : D.size = 1 := by rw [hD]; rfl
  have h1 : (⟨#[45]⟩ : ByteArray).size = 1 := rfl
  have HSZ : Hid (((⟨#[45]⟩ : ByteArray) ++ D).size ≤ 2) := show ((⟨#[45]⟩ : ByteArray) ++ D).size ≤ 2 by rw [ByteArray.size_append]; omega
  have hsz : ¬ 9223372036854775807 < 1 + D.size := by omega
  have HE2 := Lib.hid ((Ext.refl w).alloc (.cells #[.int .u8 (48 + (d : Int))] 5))
  obtain ⟨n, hn⟩ : ∃ n : Int, n = -(d : Int) := ⟨_, rfl⟩
  have hn0 : n < 0 := by omega
  have hn9 : -9 ≤ n := by omega
  rw [← hD] at hcv
  rw [← hn] at hq hs ⊢
  clear hd h0 hds hD h1 hn
  go_enter Tryd.func20, Tryd.ntmps20
  go_wp2_with fail
  go_ret
  exact ⟨_, rfl, HSZ.out, HE2.out⟩
theorem conv_dgE (n : Nat) (hn : n ≤ 9) (w W : World) (cap : Nat) (he : Ext (w.alloc (.cells #[.int .u8 (48 + (n : Int))] 5)) W) :
    (convert 40 9 (.slice (some ⟨w.heap.size, 0, none⟩) 1 cap)).run Tryd.prog W = .ok (.string (dg n)) W := by
  have hb : Lib.Bytes W w.heap.size 0 (dg n) := by
    intro i hi
    obtain rfl : i = 0 := by have : (dg n).size = 1 := rfl; omega
    have e := he.cell (cell_of_row _ _ 0 #[.int .u8 (48 + (n : Int))] 5 (0, 0) (heap_alloc_new w _))
    rw [Nat.zero_add]
    refine e.trans ?_
    have h2 : ((dg n)[0]).toNat = 48 + n := by
      show (UInt8.ofNat (48 + ((n : Int)).toNat)).toNat = 48 + n
      rw [UInt8.toNat_ofNat']
      omega
    rw [h2]
    simp
  exact Lib.run_convert_whole _ 40 5 9 Tryd.underlying40 Tryd.underlying5 Tryd.underlying9 w.heap.size 0 (dg n) hb cap
theorem fn_nums (q d : Nat) (hq : q ≤ 922337203685477580) (hd : d ≤ 9) : wrap64 (-(q : Int)) = -(q : Int) ∧ IntKind.i64.wrap (-(q : Int)) = -(q : Int) ∧ IntKind.i64.wrap (48 + (d : Int)) = 48 + (d : Int) ∧ wrap64 (48 + (d : Int)) = 48 + (d : Int) ∧ wrap64 (-(d : Int)) = -(d : Int) ∧ IntKind.i64.wrap (-(d : Int)) = -(d : Int) := by
  have h1 : -922337203685477580 ≤ (q : Int) ∧ (q : Int) ≤ 922337203685477580 := by omega
  have h2 : -9 ≤ (d : Int) ∧ (d : Int) ≤ 9 := by omega
  obtain ⟨x, hx⟩ : ∃ x : Int, x = q := ⟨_, rfl⟩
  obtain ⟨y, hy⟩ : ∃ y : Int, y = d := ⟨_, rfl⟩
  rw [← hx, ← hy]
  rw [← hx] at h1
  rw [← hy] at h2
  clear hx hy hq hd
  exact ⟨IntWalk.wrap64_in _ (by omega), IntWalk.i64_in _ (by omega), IntWalk.i64_in _ (by omega), IntWalk.wrap64_in _ (by omega), IntWalk.wrap64_in _ (by omega), IntWalk.i64_in _ (by omega)⟩
set_option maxRecDepth 20000 in
set_option maxHeartbeats 1000000 in
/-- More digits below zero. -/
theorem fiN2_any (m : Nat) (w : World) (hm : 10 ≤ m) (hM : m ≤ 9223372036854775808)
    (IH : Hid (∀ W : World, Calls Tryd.prog 20 #[.int .i64 (-((m / 10 : Nat) : Int))] W (SomeT W (m / 10 + 1)))) :
    Calls Tryd.prog 20 #[.int .i64 (-(m : Int))] w (SomeT w (m + 1)) := by
  obtain ⟨q, hq⟩ : ∃ q, q = m / 10 := ⟨_, rfl⟩
  obtain ⟨d, hd⟩ : ∃ d, d = m % 10 := ⟨_, rfl⟩
  have e1 : (-(m : Int)).tdiv 10 = -(q : Int) := by rw [Int.neg_tdiv, Int.tdiv_eq_ediv_of_nonneg (by omega)]; omega
  have e2 : (-(m : Int)).tmod 10 = -(d : Int) := by rw [Int.neg_tmod, Int.tmod_eq_emod_of_nonneg (by omega)]; omega
  have hs : (48 : Int) - (-(d : Int)) = 48 + (d : Int) := by omega
  have hd9 : d ≤ 9 := by omega
  have hq1 : 1 ≤ q := by omega
  have hq2 : q + 2 ≤ m := by omega
  have hq3 : q ≤ 922337203685477580 := by omega
  have hu8 : IntKind.u8.wrap (48 + (d : Int)) = 48 + (d : Int) := IntWalk.u8_in _ (by omega)
  have HCV : Hid (∀ W W2 : World, Ext (W.alloc (.cells #[.int .u8 (48 + (d : Int))] 5)) W2 → (convert 40 9 (.slice (some ⟨W.heap.size, 0, none⟩) 1 1)).run Tryd.prog W2 = .ok (.string (dg d)) W2) := fun W W2 he => conv_dgE d hd9 W W2 1 he
  obtain ⟨D, hD⟩ : ∃ D, D = dg (d : Int) := ⟨_, rfl⟩
  have hds : D.size = 1 := by rw [hD]; rfl
  have HM := Lib.hid hM
  rw [← hD] at HCV
  rw [← hq] at IH
  have h0 : (-(q : Int)) < 0 := by omega
  obtain ⟨n, hn⟩ : ∃ n : Int, n = -(m : Int) := ⟨_, rfl⟩
  obtain ⟨p, hp⟩ : ∃ p : Int, p = -(q : Int) := ⟨_, rfl⟩
  have hn0 : n < 0 := by omega
  have hn1 : -9223372036854775808 ≤ n := by omega
  have hp0 : p < 0 := by omega
  have hpz : ¬ p = 0 := by omega
  have HNM := Lib.hid (fn_nums q d hq3 hd9)
  have HQ2 := Lib.hid hq2
  have HQ3 := Lib.hid hq3
  clear hq2 hq3 hn1 hd9
  obtain ⟨hw, hw2, hw3, hw4, hw5, hw6⟩ := HNM.out
  rw [← hn] at e1 e2 ⊢
  rw [← hp] at e1 IH hw hw2
  clear hd hq hm hM hD hn hp h0 hq1
  go_enter Tryd.func20, Tryd.ntmps20
  go_wp2_with fail
  have hcv1 : (convert 40 9 (.slice (some ⟨w.heap.size, 0, none⟩) 1 1)).run Tryd.prog (w.alloc (.cells #[.int .u8 (48 + (d : Int))] 5)).drew = .ok (.string D) (w.alloc (.cells #[.int .u8 (48 + (d : Int))] 5)).drew := HCV.out (World.drew w) _ (Ext.refl _)
  go_region_with (go_at_call 20; refine (IH.out _).mono ?_; rintro e w3 ⟨S, rfl, hS, e3⟩; have hA := HCV.out w3 _ (Ext.refl _); (try have hB : (convert 40 9 (.slice (some ⟨w.heap.size, 0, none⟩) 1 1)).run Tryd.prog w3 = .ok (.string D) w3 := HCV.out (World.drew w) w3 e3); have hsz : ¬ 9223372036854775807 < S.size + D.size := (by have := HQ3.out; omega); have HSZ : Hid ((S ++ D).size ≤ m + 1) := (by have := HQ2.out; refine (show (S ++ D).size ≤ m + 1 from ?_); rw [ByteArray.size_append]; omega); have HE := Lib.hid e3; clear e3)
  all_goals go_wp2_with fail
  all_goals go_ret
  all_goals first
    | exact ⟨_, rfl, HSZ.out, ((Ext.refl w).drew.trans HE.out).alloc _⟩
    | exact ⟨_, rfl, HSZ.out, ((Ext.refl w).alloc _).drew.trans HE.out⟩
theorem fiN_any : ∀ (k m : Nat), m ≤ k → 1 ≤ m → m ≤ 9223372036854775808 → ∀ w : World, Calls Tryd.prog 20 #[.int .i64 (-(m : Int))] w (SomeT w (m + 1))
  | 0, m, h, h1, _, _ => absurd h1 (by omega)
  | k + 1, m, h, h1, hM, w => by
    by_cases h9 : m ≤ 9
    · exact (fiN1_any m w ⟨h1, h9⟩).mono fun e w' ⟨s, he, hs, hx⟩ => ⟨s, he, Nat.le_trans hs (by omega), hx⟩
    · exact fiN2_any m w (by omega) hM (Lib.hid fun W => fiN_any k (m / 10) (by omega) (by omega) (by omega) W)
theorem fiAll_any (x : Int) (h : -9223372036854775808 ≤ x ∧ x ≤ 9223372036854775807) (w : World) :
    Calls Tryd.prog 20 #[.int .i64 x] w fun e w' => ∃ s : ByteArray, e = .returned (.string s) ∧ Ext w w' := by
  by_cases h0 : 0 ≤ x
  · obtain ⟨n, rfl⟩ := Int.eq_ofNat_of_zero_le h0
    exact (fiP_any n w (by omega)).mono fun e w' ⟨s, he, _, hx⟩ => ⟨s, he, hx⟩
  · obtain ⟨n, rfl⟩ : ∃ n : Nat, x = -(n : Int) := ⟨(-x).toNat, by omega⟩
    exact (fiN_any n n (Nat.le_refl _) (by omega) (by omega) w).mono fun e w' ⟨s, he, _, hx⟩ => ⟨s, he, hx⟩
end Go.Proofs.YtedfmjijemcpaaaDoor
