/- Contracts of MostMoves. -/
import Derived.Test.YtnhppeknkeblfaaFromM
import Derived.Test.YtnhppeknkeblfaaFar
import Derived.Deep.RegionHeld3
namespace Go.Proofs.Ytnhppeknkeblfaa
open Go.RowKit

theorem rfL_mem {n k : Nat} {wq : List Int → Bool} {N : Nat} (h1 : 1 ≤ n) (h2 : n ≤ 24) : ∀ s, ∀ z ∈ rfL n k wq N s, rhyB n z = true
  | 0 => by simp [rfL]
  | s + 1 => by
    intro z hz
    rw [rfL] at hz
    split at hz
    · rw [List.mem_append] at hz
      rcases hz with hz | hz
      · exact rfL_mem h1 h2 s z hz
      · simp only [List.mem_cons, List.not_mem_nil, or_false] at hz
        rw [hz]
        exact atL_rhy h1 h2
    · exact rfL_mem h1 h2 s z hz
theorem rfL_iff {n k : Nat} {N : Nat} {z : List Int} : ∀ s, s ≤ N → (z ∈ rfL n k (fun _ => true) N s ↔ ∃ c, N - s ≤ c ∧ c < N ∧ z = atL n c ∧ z.length = k)
  | 0, _ => by
    simp only [rfL, List.not_mem_nil, false_iff]
    rintro ⟨c, h1, h2, _⟩
    omega
  | s + 1, hs => by
    have ih := rfL_iff (n := n) (k := k) (N := N) (z := z) s (by omega)
    rw [rfL]
    constructor
    · intro h
      split at h
      · rename_i hc
        rw [List.mem_append, ih] at h
        rcases h with ⟨c, h1, h2, h3⟩ | h
        · exact ⟨c, by omega, h2, h3⟩
        · simp only [List.mem_cons, List.not_mem_nil, or_false] at h
          subst h
          exact ⟨N - (s + 1), Nat.le_refl _, by omega, rfl, hc.1⟩
      · obtain ⟨c, h1, h2, h3⟩ := ih.1 h
        exact ⟨c, by omega, h2, h3⟩
    · rintro ⟨c, h1, h2, h3, h4⟩
      by_cases e : c = N - (s + 1)
      · subst e
        subst h3
        rw [if_pos ⟨h4, rfl⟩]
        simp
      · have h5 := ih.2 ⟨c, by omega, h2, h3, h4⟩
        split
        · rw [List.mem_append]; exact Or.inl h5
        · exact h5
/-- The rhythms with k beats of the numbers below c, upwards. -/
def asL (n k : Nat) : Nat → List (List Int)
  | 0 => []
  | c + 1 => if (atL n c).length = k then asL n k c ++ [atL n c] else asL n k c
theorem asL_iff {n k : Nat} {z : List Int} : ∀ N, z ∈ asL n k N ↔ ∃ c, c < N ∧ z = atL n c ∧ z.length = k
  | 0 => by simp [asL]
  | N + 1 => by
    have ih := asL_iff (n := n) (k := k) (z := z) N
    rw [asL]
    constructor
    · intro h
      split at h
      · rename_i hc
        rw [List.mem_append, ih] at h
        rcases h with ⟨c, h1, h2⟩ | h
        · exact ⟨c, by omega, h2⟩
        · simp only [List.mem_cons, List.not_mem_nil, or_false] at h
          subst h
          exact ⟨N, by omega, rfl, hc⟩
      · obtain ⟨c, h1, h2⟩ := ih.1 h
        exact ⟨c, by omega, h2⟩
    · rintro ⟨c, h1, h3, h4⟩
      by_cases e : c = N
      · subst e
        subst h3
        rw [if_pos h4]
        simp
      · have h5 := ih.2 ⟨c, by omega, h3, h4⟩
        split
        · rw [List.mem_append]; exact Or.inl h5
        · exact h5
theorem asL_len (n k : Nat) : ∀ N, (asL n k N).length ≤ N
  | 0 => by simp [asL]
  | N + 1 => by
    have := asL_len n k N
    rw [asL]
    split
    · rw [List.length_append]; simp; omega
    · omega
/-- M is the greatest of ys and 0. -/
def IsMx (M : Int) (ys : List Int) : Prop := 0 ≤ M ∧ (∀ y ∈ ys, y ≤ M) ∧ (M = 0 ∨ M ∈ ys)
theorem IsMx.nil : IsMx 0 [] := ⟨Int.le_refl _, fun y h => absurd h (by simp), Or.inl rfl⟩
theorem IsMx.snoc {M y : Int} {ys : List Int} (h : IsMx M ys) : IsMx (max M y) (ys ++ [y]) := by
  obtain ⟨h1, h2, h3⟩ := h
  refine ⟨by omega, ?_, ?_⟩
  · intro x hx
    rw [List.mem_append] at hx
    rcases hx with hx | hx
    · have := h2 x hx; omega
    · simp only [List.mem_cons, List.not_mem_nil, or_false] at hx
      omega
  · rcases Int.le_total y M with e | e
    · rw [Int.max_eq_left e]
      rcases h3 with h3 | h3
      · exact Or.inl h3
      · exact Or.inr (List.mem_append_left _ h3)
    · rw [Int.max_eq_right e]
      exact Or.inr (by simp)
theorem IsMx.uniq {M M' : Int} {ys zs : List Int} (h : IsMx M ys) (h' : IsMx M' zs) (hm : ∀ x, x ∈ ys ↔ x ∈ zs) : M = M' := by
  obtain ⟨h1, h2, h3⟩ := h
  obtain ⟨k1, k2, k3⟩ := h'
  have a : M ≤ M' := by
    rcases h3 with h3 | h3
    · omega
    · exact k2 M ((hm M).1 h3)
  have b : M' ≤ M := by
    rcases k3 with k3 | k3
    · omega
    · exact h2 M' ((hm M').2 k3)
  omega
def mxL : List Int → Int
  | [] => 0
  | y :: ys => max y (mxL ys)
theorem mxL_is : ∀ ys : List Int, IsMx (mxL ys) ys
  | [] => IsMx.nil
  | y :: ys => by
    obtain ⟨h1, h2, h3⟩ := mxL_is ys
    rw [mxL]
    refine ⟨by omega, ?_, ?_⟩
    · intro x hx
      rw [List.mem_cons] at hx
      rcases hx with rfl | hx
      · omega
      · have := h2 x hx; omega
    · rcases Int.le_total y (mxL ys) with e | e
      · rw [Int.max_eq_right e]
        rcases h3 with h3 | h3
        · exact Or.inl h3
        · exact Or.inr (List.mem_cons_of_mem _ h3)
      · rw [Int.max_eq_left e]
        exact Or.inr (by simp)
/-- The distances of all pairs. -/
def prL (n : Nat) (L : List (List Int)) (T : List (List Int)) : List Int := T.flatMap fun a => L.map (farF n a)
def mmN (n k : Nat) : Int := mxL (prL n (rfL n k (fun _ => true) (2 ^ n) (2 ^ n)) (rfL n k (fun _ => true) (2 ^ n) (2 ^ n)))
def okMM (n k : Int) : Bool := inB n 1 8 && inB k 0 n
def mmF (n k : Int) : Int := if okMM n k = true then mmN n.toNat k.toNat else -1
theorem prL_snoc (n : Nat) (L T : List (List Int)) (j : Nat) (h : j < T.length) : prL n L (T.take (j + 1)) = prL n L (T.take j) ++ L.map (farF n (T.getD j [])) := by
  unfold prL
  rw [List.take_succ_eq_append_getElem h, List.flatMap_append]
  simp [List.getD, h]
theorem map_snoc (f : List Int → Int) (T : List (List Int)) (j : Nat) (h : j < T.length) : (T.take (j + 1)).map f = (T.take j).map f ++ [f (T.getD j [])] := by
  rw [List.take_succ_eq_append_getElem h, List.map_append]
  simp [List.getD, h]
/-- What a row of rhythms of one size holds. -/
theorem row_at {w : World} {L : Nat} {A : Option Addr} {c : Nat} {n : Int} {es : List (Int × Option Addr × Nat × List Int)} {zss : List (List Int)} (ho : OwQ w L A c es) (hi : InQ w L es) (hz : es.map (fun x : Int × Option Addr × Nat × List Int => (x.1, x.2.2.2)) = rsOf n zss) :
    es.length = zss.length ∧ ∀ V : World, Ext w V → ∀ j, j < zss.length → ∃ b o D d, A = some ⟨b, o, none⟩ ∧ V.cell? ⟨b, o + j * 2, none⟩ = some (.int .i64 n) ∧ V.cell? ⟨b, o + j * 2 + 1, none⟩ = some (.slice D (zss.getD j []).length d) ∧ RdI V D (zss.getD j []) := by
  have hl : es.length = zss.length := by
    have := congrArg List.length hz
    unfold rsOf at this
    simpa using this
  refine ⟨hl, fun V he j hj => ?_⟩
  have hje : j < es.length := by omega
  have e1 : (es[j].1, es[j].2.2.2) = (n, zss.getD j []) := by
    have h1 : (es.map (fun x : Int × Option Addr × Nat × List Int => (x.1, x.2.2.2)))[j]? = (rsOf n zss)[j]? := by rw [hz]
    unfold rsOf at h1
    rw [List.getElem?_map, List.getElem?_map, List.getElem?_eq_getElem hje, List.getElem?_eq_getElem hj] at h1
    injection h1 with h1
    have h2 : zss.getD j [] = zss[j] := by simp [List.getD, hj]
    rw [h2]
    exact h1
  injection e1 with e1 e2
  obtain ⟨b, o, hA, h1, h2⟩ := (ho.ext he).at_ j hje
  refine ⟨b, o, es[j].2.1, es[j].2.2.1, hA, by rw [h1, e1], by rw [h2, e2], ?_⟩
  rw [← e2]
  exact ((hi es[j] (List.getElem_mem hje)).ext he).rd
theorem getD_memL {zss : List (List Int)} {j : Nat} (h : j < zss.length) : zss.getD j [] ∈ zss := by simp [List.getD, h]

set_option maxRecDepth 20000 in
set_option maxHeartbeats 4000000 in
theorem mmI_good (n k : Nat) (w : World) (hn : 1 ≤ n ∧ n ≤ 8) (hk : k ≤ n) (h1 : inB n 1 8 = true) (h2 : inB k 0 n = true) :
    Calls Try.prog 13 #[.int .i64 n, .int .i64 k] w fun e w' => e = .returned (.int .i64 (mmN n k)) ∧ Ext w w' := by
  have CF := Lib.hid (from_any n k (fun _ => true) w ⟨hn.1, by omega⟩ hk (Lib.hid fun A c xs W hr hb => by have h3 := rhyI_any A c n xs W hr (by have := rhyB_len hb; omega); rwa [hb] at h3))
  obtain ⟨N, hN⟩ : ∃ N, N = 2 ^ n := ⟨_, rfl⟩
  have hN2 : N ≤ 256 := by rw [hN]; exact Nat.pow_le_pow_right (n := 2) (by decide) hn.2
  obtain ⟨zss, hzs⟩ : ∃ zss, zss = rfL n k (fun _ => true) (2 ^ n) (2 ^ n) := ⟨_, rfl⟩
  have hzl : zss.length ≤ 256 := by rw [hzs]; have h3 := rfL_len n k (fun _ => true) (2 ^ n) (2 ^ n); rw [← hN] at h3 ⊢; omega
  have HZB : Hid (∀ z ∈ zss, rhyB n z = true ∧ z.length = k) := fun z hz => by
    rw [hzs] at hz
    refine ⟨rfL_mem (by omega) (by omega) _ z hz, ?_⟩
    obtain ⟨_, _, _, _, h⟩ := (rfL_iff _ (Nat.le_refl _)).1 hz
    exact h
  have hR : mmN n k = mxL (prL n zss zss) := by unfold mmN; rw [hzs]
  rw [← hzs] at CF
  rw [hR]
  clear hR hzs hN hN2
  go_enter Try.func13, Try.ntmps13
  go_wp2_with fail
  refine (within_any _ _ _ _).mono ?_
  rintro e w1 ⟨rfl, rfl⟩
  rw [h1]
  go_wp2_with fail
  refine (within_any _ _ _ _).mono ?_
  rintro e w1 ⟨rfl, rfl⟩
  rw [h2]
  clear h1 h2
  go_wp2_with fail
  refine CF.out.mono ?_
  rintro e W ⟨A, c, es, rfl, hz, ho, hi, _, hew⟩
  have HEW := Lib.hid hew
  obtain ⟨hlen, hrow⟩ := row_at ho hi hz
  have HROW := Lib.hid hrow
  rw [hlen]
  obtain ⟨m, hm⟩ : ∃ m, m = zss.length := ⟨_, rfl⟩
  rw [← hm] at hzl HROW ⊢
  have HM := Lib.hid hm
  clear CF hz ho hi hew hlen hrow hm
  go_wp2_with fail
  go_loopw [5, 25] (fun o i wr => ∃ (j : Nat) (M : Int), j ≤ m ∧ i = .int .i64 j ∧ o = .int .i64 M ∧ Hid (IsMx M (prL n zss (zss.take j))) ∧ Hid (Ext W wr)) (fun _ i _ => m - (intOf i).toNat)
  case atStart => exact ⟨0, 0, Nat.zero_le _, rfl, rfl, IsMx.nil, Ext.refl W⟩
  case round =>
    obtain ⟨j, M, hj, rfl, rfl, HMX, HE⟩ := hrel
    by_cases hlt : j < m
    · obtain ⟨b, o, D, d, hA, z0, z1, hrd⟩ := HROW.out wr HE.out j hlt
      subst hA
      obtain ⟨z, hz⟩ : ∃ z, z = zss.getD j [] := ⟨_, rfl⟩
      rw [← hz] at z1 hrd
      have HRD := Lib.hid hrd
      have HZ : Hid (rhyB n z = true ∧ z.length = k) := HZB.out z (by rw [hz]; exact getD_memL (by rw [← HM.out]; exact hlt))
      have HZE := Lib.hid hz
      have HX1 : Hid (Ext W (wr.alloc (.cells #[.int .i64 n, .slice D z.length d] 27))) := HE.out.alloc _
      have HP1 := Lib.hid (Bx2.new wr 27 (.int .i64 n) (.slice D z.length d))
      have HR1 : Hid (RdI (wr.alloc (.cells #[.int .i64 n, .slice D z.length d] 27)) D z) := HRD.out.ext ((Ext.refl _).alloc _)
      have HWL : Hid (Ext wr (wr.alloc (.cells #[.int .i64 n, .slice D z.length d] 27))) := (Ext.refl _).alloc _
      clear hrd hz
      go_wp2_with fail
      clear z0 z1
      go_loopw [5, 31] (fun o i ws => ∃ (i2 : Nat) (M2 : Int), i2 ≤ m ∧ i = .int .i64 i2 ∧ o = .int .i64 M2 ∧ Hid (IsMx M2 (prL n zss (zss.take j) ++ (zss.take i2).map (farF n z))) ∧ Hid (Bx2 ws wr.heap.size 27 (.int .i64 n) (.slice D z.length d)) ∧ Hid (RdI ws D z) ∧ Hid (Ext W ws)) (fun _ i _ => m - (intOf i).toNat)
      case atStart => exact ⟨0, M, Nat.zero_le _, rfl, rfl, by rw [List.take_zero, List.map_nil, List.append_nil]; exact HMX.out, HP1.out, HR1.out, HX1.out⟩
      case round =>
        clear HX1 HP1 HR1 HWL HRD
        obtain ⟨i2, M2, hi2, rfl, rfl, HMY, HP, HRD, HE2⟩ := hrel
        by_cases hlt2 : i2 < m
        · obtain ⟨b2, o2, D2, d2, hA2, y0, y1, hrd2⟩ := HROW.out wr HE2.out i2 hlt2
          injection hA2 with hA2
          injection hA2 with hA2 hA3 _
          subst hA2 hA3
          obtain ⟨y, hy⟩ : ∃ y, y = zss.getD i2 [] := ⟨_, rfl⟩
          rw [← hy] at y1 hrd2
          have HY : Hid (rhyB n y = true ∧ y.length = k) := HZB.out y (by rw [hy]; exact getD_memL (by rw [← HM.out]; exact hlt2))
          have HRD2 := Lib.hid hrd2
          obtain ⟨f, hf⟩ : ∃ f, f = farF n z y := ⟨_, rfl⟩
          have CD : Hid (∀ V : World, Ext wr V → Calls Try.prog 25 #[.agg #[.int .i64 n, .slice D z.length d], .agg #[.int .i64 n, .slice D2 y.length d2]] V fun e w' => e = .returned (.int .i64 f) ∧ Ext V w') := fun V he => by rw [hf]; exact farI_any n n D D2 d d2 z y V (HRD.out.ext he) (HRD2.out.ext he) HZ.out.1 HY.out.1 (by rw [HZ.out.2, HY.out.2])
          have HNX : Hid (IsMx (max M2 f) (prL n zss (zss.take j) ++ (zss.take (i2 + 1)).map (farF n z))) := by
            rw [map_snoc _ _ _ (by rw [← HM.out]; exact hlt2), ← List.append_assoc, ← hy, ← hf]
            exact HMY.out.snoc
          have HA : Hid (Ext wr (wr.alloc (.cells #[.int .i64 n, .slice D2 y.length d2] 27))) := (Ext.refl _).alloc _
          have HP2 := Lib.hid (HP.out.ext HA.out)
          have HQ2 := Lib.hid (Bx2.new wr 27 (.int .i64 n) (.slice D2 y.length d2))
          clear hy hrd2 hf
          obtain ⟨q0, q1, p0, p1⟩ := HP2.out.cells
          obtain ⟨q2, q3, p2, p3⟩ := HQ2.out.cells
          go_wp2_with fail
          refine (CD.out _ HA.out).mono ?_
          rintro e w3 ⟨rfl, e3⟩
          have HX3 := Lib.hid (HA.out.trans e3)
          clear e3 q0 q1 p0 p1 q2 q3 p2 p3 y0 y1
          go_wp2_with fail
          go_roundw
          case rel => exact ⟨i2 + 1, max M2 f, by omega, by go_num, by first | rfl | simp, HNX.out, HP.out.ext HX3.out, HRD.out.ext HX3.out, HE2.out.trans HX3.out⟩
          case measure => simp [intOf]; omega
        · obtain rfl : i2 = m := by omega
          have HNX : Hid (IsMx M2 (prL n zss (zss.take (j + 1)))) := by
            rw [prL_snoc n zss zss j (by rw [← HM.out]; exact hlt), ← HZE.out]
            have h3 := HMY.out
            rw [show zss.take i2 = zss from List.take_of_length_le (by rw [← HM.out]; exact Nat.le_refl _)] at h3
            exact h3
          go_wp2_with fail
          go_roundw
          case rel => exact ⟨j + 1, M2, by omega, by go_num, rfl, HNX.out, HE2.out⟩
          case measure => simp [intOf]; omega
    · obtain rfl : j = m := by omega
      have HV : Hid (M = mxL (prL n zss zss)) := by
        have h3 := HMX.out
        rw [show zss.take j = zss from List.take_of_length_le (by rw [← HM.out]; exact Nat.le_refl _)] at h3
        exact h3.uniq (mxL_is _) (fun x => Iff.rfl)
      go_wp2_with fail
      go_ret
      exact ⟨ret_int HV.out, HEW.out.trans HE.out⟩
end Go.Proofs.Ytnhppeknkeblfaa
