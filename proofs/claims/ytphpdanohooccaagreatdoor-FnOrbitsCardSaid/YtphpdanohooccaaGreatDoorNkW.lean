/- Contracts of NecklacesOf. -/
import Derived.Test.YtphpdanohooccaaGreatDoorNk
import Derived.Test.YtphpdanohooccaaGreatDoorOwnRS
namespace Go.Proofs.YtphpdanohooccaaGreatDoor
open Go.RowKit

def okN (n k : Int) : Bool := inB n 1 12 && inB k 0 n
def noF (n k : Int) : List (Int × List Int) := if okN n k = true then rsOf n (rfL n.toNat k.toNat (lsB n.toNat) (2 ^ n.toNat) (2 ^ n.toNat)) else []
theorem szRS_le : ∀ rs : List (Int × List Int), (∀ r ∈ rs, r.2.length ≤ 24) → szRS rs ≤ 25 * rs.length
  | [], _ => by simp [szRS]
  | r :: rs, h => by
    have h1 := h r (by simp)
    have h2 := szRS_le rs (fun x hx => h x (by simp [hx]))
    rw [szRS, List.length_cons]
    omega
theorem rfL_mem {n k : Nat} {wq : List Int → Bool} {N : Nat} (h1 : 1 ≤ n) (h2 : n ≤ 24) : ∀ s, ∀ z ∈ rfL n k wq N s, rhyB n z = true
  | 0 => by simp [rfL]
  | s + 1 => by
    intro z hz
    rw [rfL] at hz
    split at hz
    · rw [List.mem_append] at hz
      rcases hz with hz | hz
      · exact rfL_mem h1 h2 s z hz
      · simp only [List.mem_cons, List.not_mem_nil, or_false] at hz
        rw [hz]
        exact atL_rhy h1 h2
    · exact rfL_mem h1 h2 s z hz
theorem noF_sz (n k : Int) : szRS (noF n k) ≤ 1099511627776 := by
  unfold noF
  split
  · rename_i h
    unfold okN at h
    rw [Bool.and_eq_true] at h
    have g := inB_iff.1 h.1
    have hp : 2 ^ n.toNat ≤ 4096 := Nat.pow_le_pow_right (by decide) (by omega : n.toNat ≤ 12)
    have h1 := rfL_len n.toNat k.toNat (lsB n.toNat) (2 ^ n.toNat) (2 ^ n.toNat)
    have h2 := szRS_le (rsOf n (rfL n.toNat k.toNat (lsB n.toNat) (2 ^ n.toNat) (2 ^ n.toNat))) (fun r hr => by
      unfold rsOf at hr
      rw [List.mem_map] at hr
      obtain ⟨z, hz, rfl⟩ := hr
      exact rhy_short (rfL_mem (by omega) (by omega) _ z hz))
    have h3 : (rsOf n (rfL n.toNat k.toNat (lsB n.toNat) (2 ^ n.toNat) (2 ^ n.toNat))).length ≤ 2 ^ n.toNat := by unfold rsOf; rw [List.length_map]; exact h1
    omega
  · simp [szRS]
theorem RetQ.nil {w w' : World} (h : Ext w w') : RetQ w [] (.returned (.slice none 0 0)) w' := ⟨none, 0, [], rfl, rfl, OwQ.nil _ _, InQ.nil _ _, List.Pairwise.nil, h⟩
theorem noI_good (n k : Nat) (w : World) (hn : 1 ≤ n ∧ n ≤ 12) (hk : k ≤ n) (h1 : inB n 1 12 = true) (h2 : inB k 0 n = true) :
    Calls Tryz.prog 10 #[.int .i64 n, .int .i64 k] w (RetQ w (rsOf n (rfL n k (lsB n) (2 ^ n) (2 ^ n)))) := by
  have CF := Lib.hid (from_any n k (lsB n) w hn hk (Lib.hid fun A c xs W hr hb => ilI_any n A c xs W hr hb))
  obtain ⟨rs, hrs⟩ : ∃ rs, rs = rsOf n (rfL n k (lsB n) (2 ^ n) (2 ^ n)) := ⟨_, rfl⟩
  rw [← hrs] at CF ⊢
  clear hrs
  go_enter Tryz.func10, Tryz.ntmps10
  go_wp2_with fail
  refine (within_any _ _ _ _).mono ?_
  rintro e w1 ⟨rfl, rfl⟩
  rw [h1]
  go_wp2_with fail
  refine (within_any _ _ _ _).mono ?_
  rintro e w1 ⟨rfl, rfl⟩
  rw [h2]
  go_wp2_with fail
  refine CF.out.mono ?_
  rintro e w2 ⟨A, c, es, rfl, hz, ho, hi, hd, he⟩
  have HR : Hid (RetQ w rs (.returned (.slice A es.length c)) w2) := ⟨A, c, es, rfl, hz, ho, hi, hd, he⟩
  clear hz ho hi hd he
  go_wp2_with fail
  go_ret
  exact HR.out

set_option maxHeartbeats 1000000 in
theorem noI_any (n k : Int) (w : World) : Calls Tryz.prog 10 #[.int .i64 n, .int .i64 k] w (RetQ w (noF n k)) := by
  by_cases h1 : inB n 1 12 = true
  · by_cases h2 : inB k 0 n = true
    · have HV : Hid (noF n k = rsOf n (rfL n.toNat k.toNat (lsB n.toNat) (2 ^ n.toNat) (2 ^ n.toNat))) := by unfold noF okN; rw [h1, h2]; exact rfl
      rw [HV.out]
      have g1 := inB_iff.1 h1
      have g2 := inB_iff.1 h2
      obtain ⟨N, rfl⟩ := Int.eq_ofNat_of_zero_le (show 0 ≤ n by omega)
      obtain ⟨K, rfl⟩ := Int.eq_ofNat_of_zero_le (show 0 ≤ k by omega)
      exact noI_good N K w (by omega) (by omega) h1 h2
    · have h2 : inB k 0 n = false := by simpa using h2
      have HV : Hid (noF n k = []) := by unfold noF okN; rw [h1, h2]; exact rfl
      rw [HV.out]
      go_enter Tryz.func10, Tryz.ntmps10
      go_wp2_with fail
      refine (within_any _ _ _ _).mono ?_
      rintro e w1 ⟨rfl, rfl⟩
      rw [h1]
      go_wp2_with fail
      refine (within_any _ _ _ _).mono ?_
      rintro e w1 ⟨rfl, rfl⟩
      rw [h2]
      go_wp2_with fail
      go_ret
      exact RetQ.nil (Ext.refl _)
  · have h1 : inB n 1 12 = false := by simpa using h1
    have HV : Hid (noF n k = []) := by unfold noF okN; rw [h1]; exact rfl
    rw [HV.out]
    go_enter Tryz.func10, Tryz.ntmps10
    go_wp2_with fail
    refine (within_any _ _ _ _).mono ?_
    rintro e w1 ⟨rfl, rfl⟩
    rw [h1]
    go_wp2_with fail
    go_ret
    exact RetQ.nil (Ext.refl _)
end Go.Proofs.YtphpdanohooccaaGreatDoor
