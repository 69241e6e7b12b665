/- Contracts of NecklacesOf. -/
import Derived.Test.YtphpdanohooccaaNk
import Derived.Test.YtphpdanohooccaaOwnRS
namespace Go.Proofs.Ytphpdanohooccaa
open Go.RowKit

def okN (n k : Int) : Bool := inB n 1 12 && inB k 0 n
def noF (n k : Int) : List (Int × List Int) := if okN n k = true then rsOf n (rfL n.toNat k.toNat (lsB n.toNat) (2 ^ n.toNat) (2 ^ n.toNat)) else []
theorem szRS_le : ∀ rs : List (Int × List Int), (∀ r ∈ rs, r.2.length ≤ 24) → szRS rs ≤ 25 * rs.length
  | [], _ => by simp [szRS]
  | r :: rs, h => by
    have h1 := h r (by simp)
    have h2 := szRS_le rs (fun x hx => h x (by simp [hx]))
    rw [szRS, List.length_cons]
    omega
theorem rfL_mem {n k : Nat} {wq : List Int → Bool} {N : Nat} (h1 : 1 ≤ n) (h2 : n ≤ 24) : ∀ s, ∀ z ∈ rfL n k wq N s, rhyB n z = true
  | 0 => by simp [rfL]
  | s + 1 => by
    intro z hz
    rw [rfL] at hz
    split at hz
    · rw [List.mem_append] at hz
      rcases hz with hz | hz
      · exact rfL_mem h1 h2 s z hz
      · simp only [List.mem_cons, List.not_mem_nil, or_false] at hz
        rw [hz]
        exact atL_rhy h1 h2
    · exact rfL_mem h1 h2 s z hz
theorem noF_sz (n k : Int) : szRS (noF n k) ≤ 1099511627776 := by
  unfold noF
  split
  · rename_i h
    unfold okN at h
    rw [Bool.and_eq_true] at h
    have g := inB_iff.1 h.1
    have hp : 2 ^ n.toNat ≤ 4096 := Nat.pow_le_pow_right (by decide) (by omega : n.toNat ≤ 12)
    have h1 := rfL_len n.toNat k.toNat (lsB n.toNat) (2 ^ n.toNat) (2 ^ n.toNat)
    have h2 := szRS_le (rsOf n (rfL n.toNat k.toNat (lsB n.toNat) (2 ^ n.toNat) (2 ^ n.toNat))) (fun r hr => by
      unfold rsOf at hr
      rw [List.mem_map] at hr
      obtain ⟨z, hz, rfl⟩ := hr
      exact rhy_short (rfL_mem (by omega) (by omega) _ z hz))
    have h3 : (rsOf n (rfL n.toNat k.toNat (lsB n.toNat) (2 ^ n.toNat) (2 ^ n.toNat))).length ≤ 2 ^ n.toNat := by unfold rsOf; rw [List.length_map]; exact h1
    omega
  · simp [szRS]
theorem RetQ.nil {w w' : World} (h : Ext w w') : RetQ w [] (.returned (.slice none 0 0)) w' := ⟨none, 0, [], rfl, rfl, OwQ.nil _ _, InQ.nil _ _, List.Pairwise.nil, h⟩
theorem noI_good (n k : Nat) (w : World) (hn : 1 ≤ n ∧ n ≤ 12) (hk : k ≤ n) (h1 : inB n 1 12 = true) (h2 : inB k 0 n = true) :
    Calls Try.prog 34 #[.int .i64 n, .int .i64 k] w (RetQ w (rsOf n (rfL n k (lsB n) (2 ^ n) (2 ^ n)))) := by
  have CF := Lib.hid (from_any n k (lsB n) w hn hk (Lib.hid fun A c xs W hr hb => ilI_any n A c xs W hr hb))
  obtain ⟨rs, hrs⟩ : ∃ rs, rs = rsOf n (rfL n k (lsB n) (2 ^ n) (2 ^ n)) := ⟨_, rfl⟩
  rw [← hrs] at CF ⊢
  clear hrs
  go_enter Try.func34, Try.ntmps34
  go_wp2_with fail
  refine (within_any _ _ _ _).mono ?_
  rintro e w1 ⟨rfl, rfl⟩
  rw [h1]
  go_wp2_with fail
  refine (within_any _ _ _ _).mono ?_
  rintro e w1 ⟨rfl, rfl⟩
  rw [h2]
  go_wp2_with fail
  refine CF.out.mono ?_
  rintro e w2 ⟨A, c, es, rfl, hz, ho, hi, hd, he⟩
  have HR : Hid (RetQ w rs (.returned (.slice A es.length c)) w2) := ⟨A, c, es, rfl, hz, ho, hi, hd, he⟩
  clear hz ho hi hd he
  go_wp2_with fail
  go_ret
  exact HR.out

set_option maxHeartbeats 1000000 in
theorem noI_any (n k : Int) (w : World) : Calls Try.prog 34 #[.int .i64 n, .int .i64 k] w (RetQ w (noF n k)) := by
  by_cases h1 : inB n 1 12 = true
  · by_cases h2 : inB k 0 n = true
    · have HV : Hid (noF n k = rsOf n (rfL n.toNat k.toNat (lsB n.toNat) (2 ^ n.toNat) (2 ^ n.toNat))) := by unfold noF okN; rw [h1, h2]; exact rfl
      rw [HV.out]
      have g1 := inB_iff.1 h1
      have g2 := inB_iff.1 h2
      obtain ⟨N, rfl⟩ := Int.eq_ofNat_of_zero_le (show 0 ≤ n by omega)
      obtain ⟨K, rfl⟩ := Int.eq_ofNat_of_zero_le (show 0 ≤ k by omega)
      exact noI_good N K w (by omega) (by omega) h1 h2
    · have h2 : inB k 0 n = false := by simpa using h2
      have HV : Hid (noF n k = []) := by unfold noF okN; rw [h1, h2]; exact rfl
      rw [HV.out]
      go_enter Try.func34, Try.ntmps34
      go_wp2_with fail
      refine (within_any _ _ _ _).mono ?_
      rintro e w1 ⟨rfl, rfl⟩
      rw [h1]
      go_wp2_with fail
      refine (within_any _ _ _ _).mono ?_
      rintro e w1 ⟨rfl, rfl⟩
      rw [h2]
      go_wp2_with fail
      go_ret
      exact RetQ.nil (Ext.refl _)
  · have h1 : inB n 1 12 = false := by simpa using h1
    have HV : Hid (noF n k = []) := by unfold noF okN; rw [h1]; exact rfl
    rw [HV.out]
    go_enter Try.func34, Try.ntmps34
    go_wp2_with fail
    refine (within_any _ _ _ _).mono ?_
    rintro e w1 ⟨rfl, rfl⟩
    rw [h1]
    go_wp2_with fail
    go_ret
    exact RetQ.nil (Ext.refl _)
set_option maxRecDepth 20000 in
set_option maxHeartbeats 4000000 in
theorem noS_good (n k : Nat) (w : World) (hn : 1 ≤ n ∧ n ≤ 12) (hk : k ≤ n) (h1 : inB n 1 12 = true) (h2 : inB k 0 n = true) :
    Calls Try.prog 33 #[.int .i64 n, .int .i64 k] w (RetQ w (rsOf n (rfL n k (lsB n) (2 ^ n) (2 ^ n)))) := by
  obtain ⟨N, hN⟩ : ∃ N, N = 2 ^ n := ⟨_, rfl⟩
  have hN2 : N ≤ 4096 := by rw [hN]; exact Nat.pow_le_pow_right (by decide) hn.2
  have hshl : wrap64 (2 ^ n) = (N : Int) := by rw [hN]; exact shl_pow ⟨n, by omega⟩
  have CA : Hid (∀ (c : Nat) (W : World), c < N → Calls Try.prog 65 #[.int .i64 n, .int .i64 c] W (RetR W ((n : Int), atL n c))) := fun c W h => atS_any n c W hn (by omega)
  rw [← hN]
  have HNN := Lib.hid hN
  clear hN
  go_enter Try.func33, Try.ntmps33
  go_wp2_with fail
  refine (l01In_any _ _ _ _).mono ?_
  rintro e w1 ⟨rfl, rfl⟩
  rw [h1]
  go_wp2_with fail
  refine (l01In_any _ _ _ _).mono ?_
  rintro e w1 ⟨rfl, rfl⟩
  rw [h2]
  clear h1 h2
  go_wp2_with fail
  rw [hshl]
  clear hshl
  go_loopw [5, 6] (fun o i wr => ∃ (s : Nat) (A : Option Addr) (c m : Nat) (es : List (Int × Option Addr × Nat × List Int)), s ≤ N ∧ i = .int .i64 ((N : Int) - s - 1) ∧ o = .slice A m c ∧ m ≤ s ∧ Hid (es.length = m) ∧ Hid (es.map (fun x : Int × Option Addr × Nat × List Int => (x.1, x.2.2.2)) = rsOf n (rfL n k (lsB n) N s)) ∧ Hid (OwQ wr w.heap.size A c es) ∧ Hid (InQ wr w.heap.size es) ∧ Hid (DisQ es) ∧ Hid (Ext w wr)) (fun _ i _ => ((intOf i) + 1).toNat)
  case atStart => exact ⟨0, _, _, 0, [], by omega, by go_num, rfl, Nat.le_refl _, rfl, rfl, OwQ.empty w, InQ.nil _ _, List.Pairwise.nil, (Ext.refl w).alloc _⟩
  case round =>
    obtain ⟨s, A, c, m, es, hs, rfl, rfl, hms, HL, HZ, HO, HI, HD, HE⟩ := hrel
    by_cases hlt : s < N
    · obtain ⟨q, hq⟩ : ∃ q, q = N - (s + 1) := ⟨_, rfl⟩
      have hqi : (N : Int) - s - 1 = (q : Int) := by omega
      rw [hqi]
      obtain ⟨z, hz⟩ : ∃ z, z = atL n q := ⟨_, rfl⟩
      have hzb : rhyB n z = true := by rw [hz]; exact atL_rhy (by omega) (by omega)
      have hq2 : q < N := by omega
      have HNX : Hid (rfL n k (lsB n) N (s + 1) = if z.length = k ∧ lsB n z = true then rfL n k (lsB n) N s ++ [z] else rfL n k (lsB n) N s) := by rw [rfL, ← hq, ← hz]; exact rfl
      have C2 := Lib.hid (CA.out q wr hq2)
      rw [← hz] at C2
      have hl24 : z.length ≤ 24 := by have := rhyB_len hzb; omega
      have C3 : Hid (∀ (D : Option Addr) (d : Nat) (W : World), RdI W D z → Calls Try.prog 66 #[.agg #[.int .i64 n, .slice D z.length d]] W fun e w' => e = .returned (.bool (lsB n z)) ∧ Ext W w') := fun D d W h => ilS_any n D d z W h hzb
      obtain ⟨b, hb⟩ : ∃ b, b = lsB n z := ⟨_, rfl⟩
      rw [← hb] at C3 HNX
      have HQ : Hid (q + s + 1 = N) := by exact (by omega : q + s + 1 = N)
      clear hz hzb CA hb hq hqi
      go_wp2_with fail
      refine C2.out.mono ?_
      intro e w2 hret
      obtain ⟨D, d, rfl, o2, e2⟩ := hret.parts
      have HX2 : Hid (Ext wr (w2.alloc (.cells #[.int .i64 n, .slice D z.length d] 33))) := e2.alloc _
      have HB2 := Lib.hid (Bx2.new w2 33 (.int .i64 n) (.slice D z.length d))
      have HO2 := Lib.hid (o2.ext ((Ext.refl _).alloc (.cells #[.int .i64 n, .slice D z.length d] 33)))
      clear hret o2 e2
      obtain ⟨q0, q1, p0, p1⟩ := HB2.out.cells
      by_cases hlk : z.length = k
      · subst hlk
        go_wp2_with fail
        refine (C3.out D d _ HO2.out.rd).mono ?_
        rintro e w3 ⟨rfl, e3⟩
        have HX3 := Lib.hid (HX2.out.trans e3)
        have HB3 := Lib.hid (HB2.out.ext e3)
        have HO3 := Lib.hid (HO2.out.ext e3)
        clear e3 q0 q1 p0 p1 HX2 HB2 HO2
        obtain ⟨q0, q1, p0, p1⟩ := HB3.out.cells
        cases b
        · have HN2 : Hid (rfL n z.length (lsB n) N (s + 1) = rfL n z.length (lsB n) N s) := by rw [HNX.out]; simp [Hid]
          go_wp2_with fail
          go_roundw
          case rel => exact ⟨s + 1, A, c, m, es, by omega, by have := HQ.out; go_num, rfl, by omega, HL.out, by rw [HN2.out]; exact HZ.out, HO.out.ext HX3.out, HI.out.ext HX3.out, HD.out, HE.out.trans HX3.out⟩
          case measure => (simp [intOf] <;> omega)
        · have HN2 : Hid (rfL n z.length (lsB n) N (s + 1) = rfL n z.length (lsB n) N s ++ [z]) := by rw [HNX.out]; simp [Hid]
          have HDN : Hid (DisQ (es ++ [((n : Int), D, d, z)])) := DisQ.snoc (w := w3) HD.out (fun f hf x hx => ((HI.out f hf).lt x hx).2) HO3.out
          have HWW := Lib.hid HE.out.size
          go_wp2_with (at_builtin; refine app_q w w3 rfl _ _ rfl A c m es ((n : Int), D, d, z) w3.heap.size rfl rfl rfl HL.out (HO.out.ext HX3.out) (HI.out.ext HX3.out) (HO3.out.lower HWW.out) (HE.out.trans HX3.out) (by omega) ?_; intro A2 c2 w4 h1 h2 h3; have HO4 := Lib.hid h1; have HI4 := Lib.hid h2; have HE4 := Lib.hid h3; clear h1 h2 h3)
          go_roundw
          case rel => exact ⟨s + 1, A2, c2, m + 1, es ++ [((n : Int), D, d, z)], by omega, by have := HQ.out; go_num, rfl, by omega, by rw [List.length_append, HL.out]; exact rfl, by rw [HN2.out, List.map_append, HZ.out]; unfold rsOf; rw [List.map_append]; exact rfl, HO4.out, HI4.out, HDN.out, HE4.out⟩
          case measure => (simp [intOf] <;> omega)
      · have HN2 : Hid (rfL n k (lsB n) N (s + 1) = rfL n k (lsB n) N s) := by rw [HNX.out, if_neg (fun h => hlk h.1)]; exact rfl
        have hlk2 : ¬ ((z.length : Int) = (k : Int)) := by omega
        go_wp2_with fail
        go_roundw
        case rel => exact ⟨s + 1, A, c, m, es, by omega, by have := HQ.out; go_num, rfl, by omega, HL.out, by rw [HN2.out]; exact HZ.out, HO.out.ext HX2.out, HI.out.ext HX2.out, HD.out, HE.out.trans HX2.out⟩
        case measure => (simp [intOf] <;> omega)
    · obtain rfl : s = N := by omega
      go_wp2_with fail
      go_ret
      have := HL.out
      subst this
      exact ⟨A, c, es, rfl, HZ.out, HO.out, HI.out, HD.out, HE.out⟩

set_option maxHeartbeats 1000000 in
theorem noS_any (n k : Int) (w : World) : Calls Try.prog 33 #[.int .i64 n, .int .i64 k] w (RetQ w (noF n k)) := by
  by_cases h1 : inB n 1 12 = true
  · by_cases h2 : inB k 0 n = true
    · have HV : Hid (noF n k = rsOf n (rfL n.toNat k.toNat (lsB n.toNat) (2 ^ n.toNat) (2 ^ n.toNat))) := by unfold noF okN; rw [h1, h2]; exact rfl
      rw [HV.out]
      have g1 := inB_iff.1 h1
      have g2 := inB_iff.1 h2
      obtain ⟨N, rfl⟩ := Int.eq_ofNat_of_zero_le (show 0 ≤ n by omega)
      obtain ⟨K, rfl⟩ := Int.eq_ofNat_of_zero_le (show 0 ≤ k by omega)
      exact noS_good N K w (by omega) (by omega) h1 h2
    · have h2 : inB k 0 n = false := by simpa using h2
      have HV : Hid (noF n k = []) := by unfold noF okN; rw [h1, h2]; exact rfl
      rw [HV.out]
      go_enter Try.func33, Try.ntmps33
      go_wp2_with fail
      refine (l01In_any _ _ _ _).mono ?_
      rintro e w1 ⟨rfl, rfl⟩
      rw [h1]
      go_wp2_with fail
      refine (l01In_any _ _ _ _).mono ?_
      rintro e w1 ⟨rfl, rfl⟩
      rw [h2]
      go_wp2_with fail
      go_ret
      exact RetQ.nil (Ext.refl _)
  · have h1 : inB n 1 12 = false := by simpa using h1
    have HV : Hid (noF n k = []) := by unfold noF okN; rw [h1]; exact rfl
    rw [HV.out]
    go_enter Try.func33, Try.ntmps33
    go_wp2_with fail
    refine (l01In_any _ _ _ _).mono ?_
    rintro e w1 ⟨rfl, rfl⟩
    rw [h1]
    go_wp2_with fail
    go_ret
    exact RetQ.nil (Ext.refl _)
end Go.Proofs.Ytphpdanohooccaa
