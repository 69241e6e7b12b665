/- Contracts of isRound, l19Round. -/
import Derived.Test.YtedlmidhakmgpaaRound
import Derived.Test.YtedlmidhakmgpaaBarsB
namespace Go.Proofs.Ytedlmidhakmgpaa
open Go.RowKit

def rotF (xs : List Int) (k : Nat) : List Int := xs.drop k ++ xs.take k
theorem rotF_len (xs : List Int) (k : Nat) : (rotF xs k).length = xs.length := by simp [rotF]; omega
/-- No rotation is less. -/
def roundB (xs : List Int) : Bool := (List.range xs.length).all fun k => !decide (cmpF (rotF xs k) xs < 0)
theorem roundB_of {xs : List Int} (h : ∀ j, j < xs.length → 0 ≤ cmpF (rotF xs j) xs) : roundB xs = true := by
  unfold roundB
  rw [List.all_eq_true]
  intro k hk
  have := h k (List.mem_range.1 hk)
  simp
  omega
theorem roundB_no {xs : List Int} {k : Nat} (hk : k < xs.length) (h : cmpF (rotF xs k) xs < 0) : roundB xs = false := by
  rw [← Bool.not_eq_true]
  unfold roundB
  rw [List.all_eq_true]
  intro ha
  have := ha k (List.mem_range.2 hk)
  simp at this
  omega
theorem RdI.drop {w : World} {b o : Nat} {xs : List Int} (h : RdI w (some ⟨b, o, none⟩) xs) (k : Nat) : RdI w (some ⟨b, o + k, none⟩) (xs.drop k) := by
  refine ⟨by simp, fun hp => ?_⟩
  have hx : 0 < xs.length := by simp at hp; omega
  obtain ⟨b', o', e, hc⟩ := h.2 hx
  injection e with e
  injection e with e1 e2 _
  subst e1 e2
  refine ⟨b, o + k, rfl, fun j u hu => ?_⟩
  have := hc (k + j) u (by rw [List.map_drop] at hu; simpa using hu)
  rw [Nat.add_assoc]
  exact this
theorem RdI.take {w : World} {b o : Nat} {xs : List Int} (h : RdI w (some ⟨b, o, none⟩) xs) (k : Nat) : RdI w (some ⟨b, o, none⟩) (xs.take k) := by
  refine ⟨by simp, fun hp => ?_⟩
  have hx : 0 < xs.length := by simp at hp; omega
  obtain ⟨b', o', e, hc⟩ := h.2 hx
  refine ⟨b', o', e, fun j u hu => ?_⟩
  refine hc j u ?_
  rw [List.map_take, List.getElem?_take] at hu
  split at hu
  · exact hu
  · cases hu

set_option maxHeartbeats 2000000 in
theorem roundI_any (A : Option Addr) (c : Nat) (xs : List Int) (w : World) (hr : RdI w A xs) (hcap : xs.length ≤ c) (hn : xs.length ≤ 1000) :
    Calls Try.prog 56 #[.slice A xs.length c] w fun e w' => e = .returned (.bool (roundB xs)) ∧ Ext w w' := by
  obtain ⟨n, hnn⟩ : ∃ n, n = xs.length := ⟨_, rfl⟩
  obtain ⟨R, hR⟩ : ∃ R, R = roundB xs := ⟨_, rfl⟩
  rw [← hnn, ← hR]
  rw [← hnn] at hn hcap
  have HN := Lib.hid hnn
  have HR := Lib.hid hr
  have HRB := Lib.hid hR
  clear hnn hr hR
  go_enter Try.func56, Try.ntmps56
  go_wp2
  go_loopw [6] (fun i wr => ∃ k : Nat, k ≤ n ∧ i = .int .i64 k ∧ Hid (∀ j, j < k → 0 ≤ cmpF (rotF xs j) xs) ∧ Hid (Ext w wr)) (fun i _ => n - (intOf i).toNat)
  case atStart => exact ⟨0, Nat.zero_le _, rfl, fun j hj => absurd hj (by omega), Ext.refl w⟩
  case round =>
    obtain ⟨k, hk, rfl, HJ, HE⟩ := hrel
    by_cases hlt : k < n
    · have hkx : k < xs.length := by rw [← HN.out]; exact hlt
      obtain ⟨b, o, hA, _⟩ := HR.out.at_ k hkx
      subst hA
      have HRW := Lib.hid (HR.out.ext HE.out)
      have CC : Hid (∀ V g, V.heap.size = g → Ext wr V → Calls Try.prog 73 #[.slice (some ⟨g, 0, none⟩) 2 2] (V.alloc (.cells #[.slice (some ⟨b, o + k, none⟩) (n - k) (c - k), .slice (some ⟨b, o, none⟩) k c] 24))
          (fun e w' => ∃ A2 c2, e = .returned (.slice A2 n c2) ∧ Hid (RdI w' A2 (rotF xs k)) ∧ Hid (Ext wr w'))) := by
        intro V g hg hV
        have e1 : (xs.drop k).length = n - k := by rw [List.length_drop, HN.out]
        have e2 : (xs.take k).length = k := by rw [List.length_take]; omega
        have hX : Ext wr (V.alloc (.cells #[.slice (some ⟨b, o + k, none⟩) (n - k) (c - k), .slice (some ⟨b, o, none⟩) k c] 24)) := hV.alloc _
        have hcs := box2 V g (.slice (some ⟨b, o + k, none⟩) (n - k) (c - k)) (.slice (some ⟨b, o, none⟩) k c) 24 hg
        refine (concat_any g 2 (some ⟨b, o + k, none⟩) (some ⟨b, o, none⟩) (c - k) c (xs.drop k) (xs.take k) _ (by rw [e1]; exact hcs.1) (by rw [e2]; exact hcs.2) ((HRW.out.drop k).ext hX) ((HRW.out.take k).ext hX) (by rw [e1]; omega) (by rw [e2]; omega)).mono ?_
        rintro e w' ⟨A2, c2, rfl, ho, he⟩
        have : (xs.drop k ++ xs.take k).length = n := by rw [List.length_append, e1, e2]; omega
        exact ⟨A2, c2, by rw [this], ho.rd, hX.trans he⟩
      obtain ⟨z, hz⟩ : ∃ z, z = cmpF (rotF xs k) xs := ⟨_, rfl⟩
      have CM : Hid (∀ V A2 c2, Hid (RdI V A2 (rotF xs k)) → Hid (Ext wr V) → Calls Try.prog 72 #[.slice A2 n c2, .slice (some ⟨b, o, none⟩) n c] V (fun e w' => e = .returned (.int .i64 z) ∧ V = w')) := by
        intro V A2 c2 h1 h2
        have := compare_any A2 (some ⟨b, o, none⟩) c2 c (rotF xs k) xs V h1.out (HRW.out.ext h2.out) (by rw [rotF_len, ← HN.out]; omega) (by rw [← HN.out]; omega)
        rw [rotF_len, ← HN.out, ← hz] at this
        exact this
      have hk0 : (k : Int) ≤ n := by omega
      have hk1 : k ≤ c := by omega
      have hkc : ¬ c = k := by omega
      have hk2 : (k : Int) ≤ c := by omega
      have HZ := Lib.hid hz
      clear hz
      by_cases hz0 : z < 0
      · have HB : Hid (R = false) := by rw [HRB.out]; exact roundB_no hkx (by rw [← HZ.out]; exact hz0)
        clear hkx
        go_wp2
        go_region_with (first
          | (go_at_call 73; refine (CC.out (World.drew wr) _ rfl (Ext.refl wr).drew).mono ?_; rintro e w2 ⟨A2, c2, rfl, HA2, HE2⟩)
          | (go_at_call 72; refine (CM.out _ _ _ HA2 HE2).mono ?_; rintro e w3 ⟨rfl, rfl⟩))
        clear CC CM HRW
        go_simp
        go_wp2
        go_ret
        exact ⟨ret_bool HB.out.symm, HE.out.trans HE2.out⟩
      · have hz1 : 0 ≤ z := by omega
        clear hkx
        go_wp2
        go_region_with (first
          | (go_at_call 73; refine (CC.out (World.drew wr) _ rfl (Ext.refl wr).drew).mono ?_; rintro e w2 ⟨A2, c2, rfl, HA2, HE2⟩)
          | (go_at_call 72; refine (CM.out _ _ _ HA2 HE2).mono ?_; rintro e w3 ⟨rfl, rfl⟩))
        clear CC CM HRW
        go_simp
        go_wp2
        go_roundw
        case rel =>
          refine ⟨k + 1, by omega, by go_num, fun j hj => ?_, HE.out.trans HE2.out⟩
          by_cases hjk : j < k
          · exact HJ.out j hjk
          · obtain rfl : j = k := by omega
            rw [← HZ.out]
            exact hz1
        case measure => simp [intOf]; omega
    · obtain rfl : k = n := by omega
      go_wp2
      go_ret
      exact ⟨ret_bool (by rw [HRB.out, roundB_of (xs := xs) (fun j hj => HJ.out j (by rw [HN.out]; exact hj))]), HE.out⟩
end Go.Proofs.Ytedlmidhakmgpaa
