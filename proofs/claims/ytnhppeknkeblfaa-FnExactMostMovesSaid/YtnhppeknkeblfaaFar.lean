/- How far two rhythms lie apart: the plain functions; contracts of l24Far, distance. -/
import Derived.Test.YtnhppeknkeblfaaRhyB
import Derived.Test.YtnhppeknkeblfaaMod
import Derived.Test.YtnhppeknkeblfaaRhyV
import Derived.Lib.MinMax
namespace Go.Proofs.Ytnhppeknkeblfaa
open Go.RowKit


/-- How far beat i has to go where turn t is chosen. -/
def termF (n : Int) (xs ys : List Int) (t : Int) (i : Nat) : Int :=
  let k : Int := xs.length
  let j := (i + t) % k
  let q := ys.getD j.toNat 0 + ((i + t - j) / k) * n
  max (xs.getD i 0 - q) (q - xs.getD i 0)
/-- How far the first i beats go. -/
def sumF (n : Int) (xs ys : List Int) (t : Int) : Nat → Int
  | 0 => 0
  | i + 1 => sumF n xs ys t i + termF n xs ys t i
/-- The least of the first m turns. -/
def bestF (n : Int) (xs ys : List Int) : Nat → Int
  | 0 => -1
  | m + 1 => if bestF n xs ys m < 0 ∨ sumF n xs ys (m - xs.length) xs.length < bestF n xs ys m then sumF n xs ys (m - xs.length) xs.length else bestF n xs ys m
def farF (n : Int) (xs ys : List Int) : Int := bestF n xs ys (2 * xs.length + 1)

theorem div_of_lt {a k c : Int} (hk : 0 < k) (h : a = c * k) : a.tdiv k = c ∧ a / k = c := by
  subst h
  exact ⟨Int.mul_tdiv_cancel _ (by omega), Int.mul_ediv_cancel _ (by omega)⟩
/-- The place and the bar of the beat that is 'at' beats on. -/
theorem at_parts (a k : Int) (hk : 1 ≤ k) (h1 : -k ≤ a) (h2 : a ≤ 2 * k) : ∃ j b : Int, j = a % k ∧ b = (a - j) / k ∧ b = (a - j).tdiv k ∧ 0 ≤ j ∧ j < k ∧ -1 ≤ b ∧ b ≤ 2 := by
  have e1 := Int.mul_ediv_add_emod a k
  have e2 := Int.emod_nonneg a (show k ≠ 0 by omega)
  have e3 := Int.emod_lt_of_pos a (show 0 < k by omega)
  have e4 : a - a % k = (a / k) * k := by rw [Int.mul_comm]; omega
  obtain ⟨e5, e6⟩ := div_of_lt (show 0 < k by omega) e4
  refine ⟨a % k, a / k, rfl, e6.symm, e5.symm, e2, e3, ?_, ?_⟩
  · exact (Int.le_ediv_iff_mul_le (by omega)).2 (by omega)
  · exact Int.ediv_le_of_le_mul (by omega) (by omega)
theorem termF_of {n : Int} {xs ys : List Int} {t : Int} {i : Nat} {j b : Int} (hj : j = (i + t) % xs.length) (hb : b = (i + t - j) / xs.length) :
    termF n xs ys t i = max (xs.getD i 0 - (ys.getD j.toNat 0 + b * n)) (ys.getD j.toNat 0 + b * n - xs.getD i 0) := by subst hb hj; rfl

theorem mul_small {b n : Int} (hb : -1 ≤ b ∧ b ≤ 2) (hn : 1 ≤ n ∧ n ≤ 24) : -24 ≤ b * n ∧ b * n ≤ 48 := by
  have : b = -1 ∨ b = 0 ∨ b = 1 ∨ b = 2 := by omega
  rcases this with rfl | rfl | rfl | rfl <;> omega


theorem Bx2.new1 (w : World) (x : Obj) (t : TypeId) (a b : Value) : Bx2 ((w.alloc x).alloc (.cells #[a, b] t)) (w.heap.size + 1) t a b := by
  have := Bx2.new (w.alloc x) t a b
  rwa [show (w.alloc x).heap.size = w.heap.size + 1 by simp] at this
theorem sumF_bound {n : Int} {xs ys : List Int} {t : Int} {i : Nat} {x y bn s j b : Int} (hs : s = sumF n xs ys t i) (hj : j = (i + t) % xs.length) (hb : b = (i + t - j) / xs.length)
    (hx : x = xs.getD i 0) (hy : y = ys.getD j.toNat 0) (hbn : bn = b * n) : s + max (x - (y + bn)) (y + bn - x) = sumF n xs ys t (i + 1) := by
  subst hx hy hbn hs
  rw [sumF, termF_of hj hb]

set_option maxHeartbeats 4000000 in
theorem farS_any (n m : Int) (A B : Option Addr) (c d : Nat) (xs ys : List Int) (w : World) (hr : RdI w A xs) (hr2 : RdI w B ys) (hx : rhyB n xs = true) (hy : rhyB m ys = true) (hl : ys.length = xs.length) :
    Calls Try.prog 22 #[.agg #[.int .i64 n, .slice A xs.length c], .agg #[.int .i64 m, .slice B ys.length d]] w fun e w' => e = .returned (.int .i64 (farF n xs ys)) ∧ Ext w w' := by
  obtain ⟨k, hk⟩ : ∃ k, k = xs.length := ⟨_, rfl⟩
  obtain ⟨R, hR⟩ : ∃ R, R = farF n xs ys := ⟨_, rfl⟩
  rw [hl, ← hk, ← hR]
  have hv1 := rhyB_vals hx
  have hv2 := rhyB_vals hy
  have hn := (rhyB_iff hx).1
  have hkn := rhyB_len hx
  rw [← hk] at hkn
  have HK := Lib.hid hk
  have HL := Lib.hid hl
  have HR := Lib.hid hr
  have HR2 := Lib.hid hr2
  have HRR := Lib.hid hR
  have HV1 := Lib.hid hv1
  have HV2 := Lib.hid hv2
  have HX0 : Hid (Ext w ((w.alloc (.cells #[.int .i64 n, .slice A k c] 27)).alloc (.cells #[.int .i64 m, .slice B k d] 27))) := ((Ext.refl w).alloc _).alloc _
  have HG0 : Hid (Bx2 ((w.alloc (.cells #[.int .i64 n, .slice A k c] 27)).alloc (.cells #[.int .i64 m, .slice B k d] 27)) w.heap.size 27 (.int .i64 n) (.slice A k c)) := (Bx2.new w _ _ _).ext ((Ext.refl _).alloc _)
  have HG1 : Hid (Bx2 ((w.alloc (.cells #[.int .i64 n, .slice A k c] 27)).alloc (.cells #[.int .i64 m, .slice B k d] 27)) (w.heap.size + 1) 27 (.int .i64 m) (.slice B k d)) := Bx2.new1 _ _ _ _ _
  clear hk hl hr hr2 hR hv1 hv2 hx hy
  by_cases hk0 : k = 0
  · subst hk0
    have HZ : Hid (R = 0) := by rw [HRR.out]; simp [farF, ← HK.out, bestF, sumF, Hid]
    go_enter Try.func22, Try.ntmps22
    go_wp2_with fail
    go_ret
    exact ⟨ret_int HZ.out.symm, HX0.out⟩
  have hkz : ((k : Int) == 0) = false := by simp; omega
  have hk1 : 1 ≤ k := by omega
  go_enter Try.func22, Try.ntmps22
  go_wp2_with fail
  go_loopw [6, 7] (fun be s wr => ∃ (M : Nat) (v t : Int), M ≤ 2 * k + 1 ∧ be = .int .i64 v ∧ s = .int .i64 t ∧ -(k : Int) ≤ t ∧ t ≤ k + 1 ∧ Hid (t = M - (k : Int)) ∧ Hid (v = bestF n xs ys M) ∧ Hid (Bx2 wr w.heap.size 27 (.int .i64 n) (.slice A k c)) ∧ Hid (Bx2 wr (w.heap.size + 1) 27 (.int .i64 m) (.slice B k d)) ∧ Hid (Ext w wr)) (fun _ s _ => (k + 1 - intOf s).toNat)
  case atStart => exact ⟨0, -1, -k, by omega, rfl, rfl, by omega, by omega, by simp [Hid], rfl, HG0.out, HG1.out, HX0.out⟩
  case round =>
    obtain ⟨M, v, t, hM, rfl, rfl, ht1, ht2, HT, HB, HP, HQ, HE⟩ := hrel
    obtain ⟨q0, q1, p0, p1⟩ := HP.out.cells
    obtain ⟨q2, q3, p2, p3⟩ := HQ.out.cells
    by_cases htk : t ≤ k
    · go_wp2_with fail
      clear q0 q1 p0 p1 q2 q3 p2 p3
      go_loopw [8, 28] (fun su ii wr => ∃ (i : Nat) (s : Int), i ≤ k ∧ ii = .int .i64 i ∧ su = .int .i64 s ∧ 0 ≤ s ∧ s ≤ 200 * i ∧ Hid (s = sumF n xs ys t i) ∧ Hid (Bx2 wr w.heap.size 27 (.int .i64 n) (.slice A k c)) ∧ Hid (Bx2 wr (w.heap.size + 1) 27 (.int .i64 m) (.slice B k d)) ∧ Hid (Ext w wr)) (fun _ ii _ => k - (intOf ii).toNat)
      case atStart => exact ⟨0, 0, by omega, rfl, rfl, by omega, by omega, rfl, HP.out, HQ.out, HE.out⟩
      case round =>
        clear HP HQ HE
        obtain ⟨i, s, hi, rfl, rfl, hs0, hs1, HS, HP, HQ, HE⟩ := hrel
        by_cases hik : i < k
        · obtain ⟨ba, oa, hA, hca⟩ := (HR.out.ext HE.out).at_ i (by rw [← HK.out]; exact hik)
          subst hA
          obtain ⟨j, b, hj, hb1, hb2, hj0, hjk, hb3, hb4⟩ := at_parts (i + t) k (by omega) (by omega) (by omega)
          obtain ⟨bb, ob, hB, hcb⟩ := (HR2.out.ext HE.out).at_ j.toNat (by rw [HL.out, ← HK.out]; omega)
          subst hB
          obtain ⟨x, hx⟩ : ∃ x, x = xs.getD i 0 := ⟨_, rfl⟩
          obtain ⟨y, hy⟩ : ∃ y, y = ys.getD j.toNat 0 := ⟨_, rfl⟩
          obtain ⟨bn, hbn⟩ : ∃ bn, bn = b * n := ⟨_, rfl⟩
          have hxr := HV1.out i
          have hyr := HV2.out j.toNat
          have hbr := mul_small ⟨hb3, hb4⟩ hn
          rw [← hbn] at hbr
          rw [← hx] at hca hxr
          rw [← hy] at hcb hyr
          have HSN : Hid (s + max (x - (y + bn)) (y + bn - x) = sumF n xs ys t (i + 1)) := sumF_bound HS.out (by rw [← HK.out]; exact hj) (by rw [← HK.out]; exact hb1) hx hy hbn
          have hwn : IntKind.i64.wrap (b * n) = bn := by rw [← hbn]; exact IntWalk.i64_in _ (by omega)
          have HJ := Lib.hid hj
          have HD := Lib.hid hb2
          have HC := Lib.hid hca
          have HC2 := Lib.hid hcb
          have HW := Lib.hid hwn
          clear hx hy hbn hj hb1 hb2 HS hca hcb hwn
          obtain ⟨q0, q1, p0, p1⟩ := HP.out.cells
          obtain ⟨q2, q3, p2, p3⟩ := HQ.out.cells
          have hca := HC.out
          go_wp2_with fail
          refine (modS_any _ _ _ (by omega) (by omega)).mono ?_
          rintro e w3 ⟨rfl, hw3⟩
          rw [← HJ.out]
          have HE3 : Hid (Ext wr w3) := by obtain ⟨q, rfl⟩ := hw3; exact (Ext.refl _).drewN _
          have HP3 := Lib.hid (HP.out.ext HE3.out)
          have HQ3 := Lib.hid (HQ.out.ext HE3.out)
          have HX3 := Lib.hid (HE.out.trans HE3.out)
          have hcb : w3.cell? ⟨bb, ob + j.toNat, none⟩ = some (.int .i64 y) := ((Ext.cell HE3.out (by have := HC2.out; exact this)))
          clear q0 q1 p0 p1 q2 q3 p2 p3 hca hw3
          obtain ⟨q0, q1, p0, p1⟩ := HP3.out.cells
          obtain ⟨q2, q3, p2, p3⟩ := HQ3.out.cells
          have hwn := HW.out
          have hbt := HD.out.symm
          go_wp2_with fail
          go_quiet (fail)
          go_wp2_with fail
          go_roundw
          case rel => exact ⟨i + 1, _, by omega, by go_num, rfl, by omega, by omega, HSN.out, HP3.out, HQ3.out, HX3.out.drewN _⟩
          case measure => simp [intOf]; omega
        · obtain rfl : i = k := by omega
          have HF : Hid (s = sumF n xs ys (M - xs.length) xs.length) := by rw [HS.out, HT.out, ← HK.out]; exact rfl
          have HN : Hid (bestF n xs ys (M + 1) = if v < 0 ∨ s < v then s else v) := by rw [bestF, ← HF.out, ← HB.out]; exact rfl
          clear HS HF
          by_cases hv : v < 0
          · have HV : Hid (s = bestF n xs ys (M + 1)) := by rw [HN.out, if_pos (Or.inl hv)]; exact rfl
            go_wp2_with fail
            go_roundw
            case rel => exact ⟨M + 1, s, t + 1, by have := HT.out; omega, rfl, by go_num, by omega, by omega, by have := HT.out; simp only [Hid]; omega, HV.out, HP.out, HQ.out, HE.out⟩
            case measure => simp [intOf]; omega
          · by_cases hsv : s < v
            · have HV : Hid (s = bestF n xs ys (M + 1)) := by rw [HN.out, if_pos (Or.inr hsv)]; exact rfl
              go_wp2_with fail
              go_roundw
              case rel => exact ⟨M + 1, s, t + 1, by have := HT.out; omega, rfl, by go_num, by omega, by omega, by have := HT.out; simp only [Hid]; omega, HV.out, HP.out, HQ.out, HE.out⟩
              case measure => simp [intOf]; omega
            · have HV : Hid (v = bestF n xs ys (M + 1)) := by rw [HN.out, if_neg (by omega)]; exact rfl
              go_wp2_with fail
              go_roundw
              case rel => exact ⟨M + 1, v, t + 1, by have := HT.out; omega, rfl, by go_num, by omega, by omega, by have := HT.out; simp only [Hid]; omega, HV.out, HP.out, HQ.out, HE.out⟩
              case measure => simp [intOf]; omega
    · have HZ : Hid (v = R) := by
        rw [HB.out, HRR.out, farF, ← HK.out, show M = 2 * k + 1 by have := HT.out; omega]
        exact rfl
      go_wp2_with fail
      go_ret
      exact ⟨ret_int HZ.out, HE.out⟩
set_option maxHeartbeats 4000000 in
theorem farI_any (n m : Int) (A B : Option Addr) (c d : Nat) (xs ys : List Int) (w : World) (hr : RdI w A xs) (hr2 : RdI w B ys) (hx : rhyB n xs = true) (hy : rhyB m ys = true) (hl : ys.length = xs.length) :
    Calls Try.prog 25 #[.agg #[.int .i64 n, .slice A xs.length c], .agg #[.int .i64 m, .slice B ys.length d]] w fun e w' => e = .returned (.int .i64 (farF n xs ys)) ∧ Ext w w' := by
  obtain ⟨k, hk⟩ : ∃ k, k = xs.length := ⟨_, rfl⟩
  obtain ⟨R, hR⟩ : ∃ R, R = farF n xs ys := ⟨_, rfl⟩
  rw [hl, ← hk, ← hR]
  have hv1 := rhyB_vals hx
  have hv2 := rhyB_vals hy
  have hn := (rhyB_iff hx).1
  have hkn := rhyB_len hx
  rw [← hk] at hkn
  have HK := Lib.hid hk
  have HL := Lib.hid hl
  have HR := Lib.hid hr
  have HR2 := Lib.hid hr2
  have HRR := Lib.hid hR
  have HV1 := Lib.hid hv1
  have HV2 := Lib.hid hv2
  have HX0 : Hid (Ext w ((w.alloc (.cells #[.int .i64 n, .slice A k c] 27)).alloc (.cells #[.int .i64 m, .slice B k d] 27))) := ((Ext.refl w).alloc _).alloc _
  have HG0 : Hid (Bx2 ((w.alloc (.cells #[.int .i64 n, .slice A k c] 27)).alloc (.cells #[.int .i64 m, .slice B k d] 27)) w.heap.size 27 (.int .i64 n) (.slice A k c)) := (Bx2.new w _ _ _).ext ((Ext.refl _).alloc _)
  have HG1 : Hid (Bx2 ((w.alloc (.cells #[.int .i64 n, .slice A k c] 27)).alloc (.cells #[.int .i64 m, .slice B k d] 27)) (w.heap.size + 1) 27 (.int .i64 m) (.slice B k d)) := Bx2.new1 _ _ _ _ _
  clear hk hl hr hr2 hR hv1 hv2 hx hy
  by_cases hk0 : k = 0
  · subst hk0
    have HZ : Hid (R = 0) := by rw [HRR.out]; simp [farF, ← HK.out, bestF, sumF, Hid]
    have HB1 : Hid (farF n xs ys = 0) := HRR.out.symm.trans HZ.out
    go_enter Try.func25, Try.ntmps25
    go_wp2_with fail
    go_loopw [6, 7] (fun be s wr => ∃ (M : Nat) (v : Int), M ≤ 1 ∧ be = .int .i64 v ∧ s = .int .i64 M ∧ Hid (v = (M : Int) - 1) ∧ Hid (Bx2 wr w.heap.size 27 (.int .i64 n) (.slice A 0 c)) ∧ Hid (Ext w wr)) (fun _ s _ => 1 - (intOf s).toNat)
    case atStart => exact ⟨0, -1, by omega, rfl, rfl, rfl, HG0.out, HX0.out⟩
    case round =>
      obtain ⟨M, v, hM, rfl, rfl, HV, HP, HE⟩ := hrel
      obtain ⟨q0, q1, p0, p1⟩ := HP.out.cells
      by_cases hM0 : M = 0
      · subst hM0
        obtain rfl : v = -1 := HV.out
        go_wp2_with fail
        go_loopw [8, 27] (fun su ii wr => ∃ s : Int, ii = .int .i64 0 ∧ su = .int .i64 0 ∧ s = 0 ∧ Hid (Bx2 wr w.heap.size 27 (.int .i64 n) (.slice A 0 c)) ∧ Hid (Ext w wr)) (fun _ _ _ => 0)
        case atStart => exact ⟨0, rfl, rfl, rfl, HP.out, HE.out⟩
        case round =>
          clear HP HE q0 q1 p0 p1
          obtain ⟨s, rfl, rfl, rfl, HP, HE⟩ := hrel
          go_wp2_with fail
          go_roundw
          case rel => exact ⟨1, 0, by omega, rfl, rfl, rfl, HP.out, HE.out⟩
          case measure => simp [intOf]
      · obtain rfl : M = 1 := by omega
        obtain rfl : v = 0 := HV.out
        go_wp2_with fail
        go_ret
        exact ⟨ret_int HZ.out.symm, HE.out⟩
  have hkz : ((k : Int) == 0) = false := by simp; omega
  have hk1 : 1 ≤ k := by omega
  go_enter Try.func25, Try.ntmps25
  go_wp2_with fail
  go_loopw [6, 7] (fun be s wr => ∃ (M : Nat) (v t : Int), M ≤ 2 * k + 1 ∧ be = .int .i64 v ∧ s = .int .i64 t ∧ -(k : Int) ≤ t ∧ t ≤ k + 1 ∧ Hid (t = M - (k : Int)) ∧ Hid (v = bestF n xs ys M) ∧ Hid (Bx2 wr w.heap.size 27 (.int .i64 n) (.slice A k c)) ∧ Hid (Bx2 wr (w.heap.size + 1) 27 (.int .i64 m) (.slice B k d)) ∧ Hid (Ext w wr)) (fun _ s _ => (k + 1 - intOf s).toNat)
  case atStart => exact ⟨0, -1, -k, by omega, rfl, rfl, by omega, by omega, by simp [Hid], rfl, HG0.out, HG1.out, HX0.out⟩
  case round =>
    obtain ⟨M, v, t, hM, rfl, rfl, ht1, ht2, HT, HB, HP, HQ, HE⟩ := hrel
    obtain ⟨q0, q1, p0, p1⟩ := HP.out.cells
    obtain ⟨q2, q3, p2, p3⟩ := HQ.out.cells
    by_cases htk : t ≤ k
    · go_wp2_with fail
      clear q0 q1 p0 p1 q2 q3 p2 p3
      go_loopw [8, 27] (fun su ii wr => ∃ (i : Nat) (s : Int), i ≤ k ∧ ii = .int .i64 i ∧ su = .int .i64 s ∧ 0 ≤ s ∧ s ≤ 200 * i ∧ Hid (s = sumF n xs ys t i) ∧ Hid (Bx2 wr w.heap.size 27 (.int .i64 n) (.slice A k c)) ∧ Hid (Bx2 wr (w.heap.size + 1) 27 (.int .i64 m) (.slice B k d)) ∧ Hid (Ext w wr)) (fun _ ii _ => k - (intOf ii).toNat)
      case atStart => exact ⟨0, 0, by omega, rfl, rfl, by omega, by omega, rfl, HP.out, HQ.out, HE.out⟩
      case round =>
        clear HP HQ HE
        obtain ⟨i, s, hi, rfl, rfl, hs0, hs1, HS, HP, HQ, HE⟩ := hrel
        by_cases hik : i < k
        · obtain ⟨ba, oa, hA, hca⟩ := (HR.out.ext HE.out).at_ i (by rw [← HK.out]; exact hik)
          subst hA
          obtain ⟨j, b, hj, hb1, hb2, hj0, hjk, hb3, hb4⟩ := at_parts (i + t) k (by omega) (by omega) (by omega)
          obtain ⟨bb, ob, hB, hcb⟩ := (HR2.out.ext HE.out).at_ j.toNat (by rw [HL.out, ← HK.out]; omega)
          subst hB
          obtain ⟨x, hx⟩ : ∃ x, x = xs.getD i 0 := ⟨_, rfl⟩
          obtain ⟨y, hy⟩ : ∃ y, y = ys.getD j.toNat 0 := ⟨_, rfl⟩
          obtain ⟨bn, hbn⟩ : ∃ bn, bn = b * n := ⟨_, rfl⟩
          have hxr := HV1.out i
          have hyr := HV2.out j.toNat
          have hbr := mul_small ⟨hb3, hb4⟩ hn
          rw [← hbn] at hbr
          rw [← hx] at hca hxr
          rw [← hy] at hcb hyr
          have HSN : Hid (s + max (x - (y + bn)) (y + bn - x) = sumF n xs ys t (i + 1)) := sumF_bound HS.out (by rw [← HK.out]; exact hj) (by rw [← HK.out]; exact hb1) hx hy hbn
          have hwn : IntKind.i64.wrap (b * n) = bn := by rw [← hbn]; exact IntWalk.i64_in _ (by omega)
          have HJ := Lib.hid hj
          have HD := Lib.hid hb2
          have HC := Lib.hid hca
          have HC2 := Lib.hid hcb
          have HW := Lib.hid hwn
          clear hx hy hbn hj hb1 hb2 HS hca hcb hwn
          obtain ⟨q0, q1, p0, p1⟩ := HP.out.cells
          obtain ⟨q2, q3, p2, p3⟩ := HQ.out.cells
          have hca := HC.out
          have CM : Hid (∀ W : World, Calls Try.prog 46 #[.int .i64 (i + t), .int .i64 k] W fun e w' => e = .returned (.int .i64 j) ∧ ∃ q, w' = W.drewN q) := fun W => by
            rw [HJ.out]
            exact modI_any _ _ W (by omega) (by omega)
          go_wp2_with fail
          refine (CM.out _).mono ?_
          rintro e w3 ⟨rfl, hw3⟩
          have HE3 : Hid (Ext wr w3) := by obtain ⟨q, rfl⟩ := hw3; exact (Ext.refl _).drewN _
          have HP3 := Lib.hid (HP.out.ext HE3.out)
          have HQ3 := Lib.hid (HQ.out.ext HE3.out)
          have HX3 := Lib.hid (HE.out.trans HE3.out)
          have hcb : w3.cell? ⟨bb, ob + j.toNat, none⟩ = some (.int .i64 y) := ((Ext.cell HE3.out (by have := HC2.out; exact this)))
          clear q0 q1 p0 p1 q2 q3 p2 p3 hca hw3
          obtain ⟨q0, q1, p0, p1⟩ := HP3.out.cells
          obtain ⟨q2, q3, p2, p3⟩ := HQ3.out.cells
          have hwn := HW.out
          have hbt := HD.out.symm
          go_wp2_with fail
          go_quiet ((go_at_call 46; exact quiet_draws (CM.out _)))
          go_wp2_with fail
          go_roundw
          case rel => exact ⟨i + 1, _, by omega, by go_num, rfl, by omega, by omega, by rw [← HSN.out]; simp only [Hid]; omega, HP3.out, HQ3.out, HX3.out.drewN _⟩
          case measure => simp [intOf]; omega
        · obtain rfl : i = k := by omega
          have HF : Hid (s = sumF n xs ys (M - xs.length) xs.length) := by rw [HS.out, HT.out, ← HK.out]; exact rfl
          have HN : Hid (bestF n xs ys (M + 1) = if v < 0 ∨ s < v then s else v) := by rw [bestF, ← HF.out, ← HB.out]; exact rfl
          clear HS HF
          by_cases hv : v < 0
          · have HV : Hid (s = bestF n xs ys (M + 1)) := by rw [HN.out, if_pos (Or.inl hv)]; exact rfl
            go_wp2_with fail
            go_roundw
            case rel => exact ⟨M + 1, s, t + 1, by have := HT.out; omega, rfl, by go_num, by omega, by omega, by have := HT.out; simp only [Hid]; omega, HV.out, HP.out, HQ.out, HE.out⟩
            case measure => simp [intOf]; omega
          · by_cases hsv : s < v
            · have HV : Hid (s = bestF n xs ys (M + 1)) := by rw [HN.out, if_pos (Or.inr hsv)]; exact rfl
              go_wp2_with fail
              go_roundw
              case rel => exact ⟨M + 1, s, t + 1, by have := HT.out; omega, rfl, by go_num, by omega, by omega, by have := HT.out; simp only [Hid]; omega, HV.out, HP.out, HQ.out, HE.out⟩
              case measure => simp [intOf]; omega
            · have HV : Hid (v = bestF n xs ys (M + 1)) := by rw [HN.out, if_neg (by omega)]; exact rfl
              go_wp2_with fail
              go_roundw
              case rel => exact ⟨M + 1, v, t + 1, by have := HT.out; omega, rfl, by go_num, by omega, by omega, by have := HT.out; simp only [Hid]; omega, HV.out, HP.out, HQ.out, HE.out⟩
              case measure => simp [intOf]; omega
    · have HZ : Hid (v = R) := by
        rw [HB.out, HRR.out, farF, ← HK.out, show M = 2 * k + 1 by have := HT.out; omega]
        exact rfl
      go_wp2_with fail
      go_ret
      exact ⟨ret_int HZ.out, HE.out⟩
end Go.Proofs.Ytnhppeknkeblfaa
