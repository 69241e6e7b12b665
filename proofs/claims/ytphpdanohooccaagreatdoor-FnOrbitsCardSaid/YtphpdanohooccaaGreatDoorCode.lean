/- The number that orders rhythms: contracts of code, l04After, equals, l02Same, later. -/
import Derived.Test.YtphpdanohooccaaGreatDoorRot
import Derived.Test.YtphpdanohooccaaGreatDoorOwn
import Derived.Lib.EndianBits
namespace Go.Proofs.YtphpdanohooccaaGreatDoor
open Go.RowKit

theorem up_lt {ys : List Int} (h : Up ys) {i j : Nat} (hij : i < j) (hj : j < ys.length) : ys.getD i 0 < ys.getD j 0 := by
  unfold Up at h
  rw [List.pairwise_iff_getElem] at h
  have := h i j (by omega) hj hij
  simpa [List.getD, hj, show i < ys.length by omega] using this
theorem mem_take_lt' {ys : List Int} {k : Nat} {a : Int} (h : a ∈ ys.take k) : ∃ i, i < k ∧ i < ys.length ∧ a = ys.getD i 0 := by
  obtain ⟨i, hi, e⟩ := List.mem_iff_getElem.1 h
  rw [List.length_take] at hi
  refine ⟨i, by omega, by omega, ?_⟩
  rw [← e, List.getElem_take]
  simp [List.getD, show i < ys.length by omega]
def codeH (P : Nat → Bool) : Nat → Nat
  | 0 => 0
  | p + 1 => 2 * codeH P p + (if P p = true then 1 else 0)
def inL (xs : List Int) (p : Nat) : Bool := xs.contains (p : Int)
def codeN (n : Nat) (xs : List Int) : Nat := codeH (inL xs) n
def codeS (n : Nat) (xs : List Int) : Nat := (xs.map fun x => 2 ^ (n - 1 - x.toNat)).sum
theorem codeH_lt {P Q : Nat → Bool} {p : Nat} (h : ∀ j, j < p → P j = Q j) (hp : P p = true) (hq : Q p = false) : ∀ m, p < m → codeH Q m < codeH P m := by
  have he : ∀ m, m ≤ p → codeH P m = codeH Q m := by
    intro m
    induction m with
    | zero => intro _; rfl
    | succ m ih => intro hm; rw [codeH, codeH, ih (by omega), h m (by omega)]
  intro m
  induction m with
  | zero => intro h; omega
  | succ m ih =>
    intro hm
    rw [codeH, codeH]
    by_cases e : m = p
    · subst e
      rw [he m (Nat.le_refl _), hp, hq]
      simp
    · have := ih (by omega)
      split <;> split <;> omega
theorem codeH_eq {P Q : Nat → Bool} {n : Nat} (h : ∀ j, j < n → P j = Q j) : codeH P n = codeH Q n := by
  induction n with
  | zero => rfl
  | succ m ih => rw [codeH, codeH, ih (fun j hj => h j (by omega)), h m (by omega)]
theorem codeH_inj {P Q : Nat → Bool} {n : Nat} (h : codeH P n = codeH Q n) : ∀ j, j < n → P j = Q j := by
  intro j
  induction j using Nat.strongRecOn with
  | _ j ih =>
    intro hj
    cases hp : P j <;> cases hq : Q j
    · rfl
    · have := codeH_lt (fun i hi => (ih i hi (by omega)).symm) hq hp n hj
      omega
    · have := codeH_lt (fun i hi => ih i hi (by omega)) hp hq n hj
      omega
    · rfl
theorem codeH_bd (P : Nat → Bool) (n : Nat) : codeH P n < 2 ^ n := by
  induction n with
  | zero => simp [codeH]
  | succ m ih => rw [codeH, Nat.pow_succ]; split <;> omega
theorem codeS_snoc (n : Nat) (xs : List Int) (x : Int) : codeS n (xs ++ [x]) = codeS n xs + 2 ^ (n - 1 - x.toNat) := by simp [codeS]
theorem codeS_setL (n : Nat) (P : Nat → Bool) : ∀ m, m ≤ n → codeS n (setL m P) = 2 ^ (n - m) * codeH P m := by
  intro m
  induction m with
  | zero => intro _; simp [codeS, setL, codeH]
  | succ m ih =>
    intro hm
    have h2 : 2 ^ (n - m) = 2 * 2 ^ (n - (m + 1)) := by rw [show n - m = (n - (m + 1)) + 1 by omega, Nat.pow_succ, Nat.mul_comm]
    rw [setL_succ, codeH]
    by_cases hp : P m = true
    · rw [if_pos hp, if_pos hp, codeS_snoc, ih (by omega), h2, Nat.mul_add, show n - 1 - (m : Int).toNat = n - (m + 1) by simp; omega, Nat.mul_one]
      congr 1
      rw [← Nat.mul_assoc, Nat.mul_comm 2, Nat.mul_assoc]
    · rw [if_neg hp, if_neg hp, ih (by omega), h2, Nat.mul_comm 2, Nat.mul_assoc]; rfl
theorem codeS_eq {n : Nat} {xs : List Int} (h : rhyB n xs = true) : codeS n xs = codeN n xs := by
  obtain ⟨h1, h2⟩ := rhy_up h
  have e := up_setEq h1 h2
  have := codeS_setL n (fun p => xs.contains (p : Int)) n (Nat.le_refl _)
  rw [← e, Nat.sub_self, Nat.pow_zero, Nat.one_mul] at this
  exact this
theorem codeS_dvd {n b : Nat} {xs : List Int} (hb : b ≤ n) (h : ∀ x ∈ xs, 0 ≤ x ∧ x < b) : 2 ^ (n - b) ∣ codeS n xs := by
  induction xs with
  | nil => exact Nat.dvd_zero _
  | cons x xs ih =>
    have h1 := h x (by simp)
    have e : codeS n (x :: xs) = 2 ^ (n - 1 - x.toNat) + codeS n xs := by simp [codeS]
    rw [e]
    exact Nat.dvd_add (Nat.pow_dvd_pow 2 (by omega)) (ih (fun y hy => h y (by simp [hy])))

theorem or_pow (v e : Nat) (hv : v ≤ 16777216) (he : e ≤ 24) (hd : 2 ^ (e + 1) ∣ v) : bits .or .i64 (v : Int) ((2 ^ e : Nat) : Int) = ((v + 2 ^ e : Nat) : Int) := by
  have hp : 2 ^ e ≤ 2 ^ 24 := Nat.pow_le_pow_right (by decide) he
  have hp2 : 2 ^ e < 2 ^ (e + 1) := by rw [Nat.pow_succ]; have := Nat.two_pow_pos e; omega
  rw [bits_join .i64 62 (by decide) (fun n h0 h1 => IntWalk.i64_in _ (by omega)) (e + 1) (v : Int) ((2 ^ e : Nat) : Int) (by omega) ?_ (by omega) (by omega) (by exact_mod_cast hp2) (by omega)]
  · omega
  · obtain ⟨q, hq⟩ := hd
    rw [hq, Int.natCast_mul, Int.natCast_pow]
    exact Int.mul_emod_right _ _
theorem codeS_le (n : Nat) (hn : n ≤ 24) : ∀ xs : List Int, (∀ x ∈ xs, 0 ≤ x ∧ x < n) → codeS n xs ≤ xs.length * 8388608
  | [], _ => by simp [codeS]
  | x :: xs, h => by
    have h1 := h x (by simp)
    have ih := codeS_le n hn xs (fun y hy => h y (by simp [hy]))
    have e : codeS n (x :: xs) = 2 ^ (n - 1 - x.toNat) + codeS n xs := by simp [codeS]
    have hp : 2 ^ (n - 1 - x.toNat) ≤ 2 ^ 23 := Nat.pow_le_pow_right (by decide) (by omega)
    rw [e, List.length_cons]
    omega
theorem codeS_take {n : Nat} {xs : List Int} (_h : rhyB n xs = true) (j : Nat) : codeS n (xs.take j) ≤ codeS n xs := by
  have e : xs.take j ++ xs.drop j = xs := List.take_append_drop _ _
  have : codeS n xs = codeS n (xs.take j) + codeS n (xs.drop j) := by
    have h2 : codeS n (xs.take j ++ xs.drop j) = codeS n (xs.take j) + codeS n (xs.drop j) := by unfold codeS; rw [List.map_append, List.sum_append]
    rwa [e] at h2
  omega

set_option maxHeartbeats 1000000 in
theorem code_any (n : Nat) (A : Option Addr) (c : Nat) (xs : List Int) (w : World) (hr : RdI w A xs) (hb : rhyB n xs = true) :
    Calls Tryz.prog 25 #[.agg #[.int .i64 n, .slice A xs.length c]] w fun e w' => e = .returned (.int .i64 (codeN n xs : Nat)) ∧ Ext w w' := by
  have hv := rhyB_vals hb
  have hn := (rhyB_iff hb).1
  have hln := rhyB_len hb
  have hup := rhy_up hb
  have hcs := codeS_eq hb
  have htk := codeS_take hb
  have hcb := codeH_bd (inL xs) n
  have hcp : 2 ^ n ≤ 2 ^ 24 := Nat.pow_le_pow_right (by decide) (by omega)
  have HTK : Hid (∀ j, codeS n (xs.take j) ≤ 16777216) := fun j => by
    have h1 := htk j
    rw [hcs] at h1
    have h2 : codeN n xs < 2 ^ n := hcb
    omega
  clear htk hcb hcp
  obtain ⟨l, hll⟩ : ∃ l, l = xs.length := ⟨_, rfl⟩
  obtain ⟨R, hR⟩ : ∃ R, R = codeN n xs := ⟨_, rfl⟩
  rw [← hR] at hcs
  have HL := Lib.hid hll
  have HR := Lib.hid hr
  have HV := Lib.hid hv
  have HU := Lib.hid hup
  have HCS := Lib.hid hcs
  rw [← hll, ← hR]
  rw [← hll] at hln
  clear hll hr hv hb hup hcs hR
  have HX0 : Hid (Ext w (w.alloc (.cells #[.int .i64 n, .slice A l c] 25))) := (Ext.refl w).alloc _
  have HG0 := Lib.hid (Bx2.new w 25 (.int .i64 n) (.slice A l c))
  go_enter Tryz.func25, Tryz.ntmps25
  go_wp2_with fail
  go_loopw [3, 9] (fun o i wr => ∃ j v : Nat, j ≤ l ∧ i = .int .i64 j ∧ o = .int .i64 v ∧ v ≤ 16777216 ∧ Hid (v = codeS n (xs.take j)) ∧ Hid (Bx2 wr w.heap.size 25 (.int .i64 n) (.slice A l c)) ∧ Hid (Ext w wr)) (fun _ i _ => l - (intOf i).toNat)
  case atStart => exact ⟨0, 0, by omega, rfl, rfl, by omega, rfl, HG0.out, HX0.out⟩
  case round =>
    clear HX0 HG0
    obtain ⟨j, v, hj, rfl, rfl, hv, HVV, HP, HE⟩ := hrel
    obtain ⟨q0, q1, p0, p1⟩ := HP.out.cells
    by_cases hlt : j < l
    · have hjx : j < xs.length := by rw [← HL.out]; exact hlt
      obtain ⟨b, o, hA, hc⟩ := (HR.out.ext HE.out).at_ j hjx
      subst hA
      obtain ⟨x, hx⟩ : ∃ x, x = xs.getD j 0 := ⟨_, rfl⟩
      have hxr := HV.out j
      have hxn := (HU.out.2 x (by rw [hx]; exact getD_in hjx))
      rw [← hx] at hc hxr
      obtain ⟨e, he⟩ : ∃ e : Nat, (n : Int) - 1 - x = e := ⟨((n : Int) - 1 - x).toNat, by omega⟩
      obtain ⟨P, hP⟩ : ∃ P, P = 2 ^ e := ⟨_, rfl⟩
      have hPl : P ≤ 2 ^ 24 := by rw [hP]; exact Nat.pow_le_pow_right (by decide) (by omega)
      have h2e : ((2 : Int) ^ e) = (P : Int) := by rw [hP, Int.natCast_pow]; rfl
      have hw2 : wrap64 ((2 : Int) ^ e) = (P : Int) := by rw [h2e]; exact IntWalk.wrap64_in _ (by omega)
      clear h2e
      have hdv : 2 ^ (e + 1) ∣ v := by
        rw [HVV.out]
        have := codeS_dvd (n := n) (b := x.toNat) (xs := xs.take j) (by omega) (fun y hy => by
          obtain ⟨i, hi, hil, rfl⟩ := mem_take_lt' hy
          have h1 := up_lt HU.out.1 hi hjx
          have h2 := HV.out i
          rw [← hx] at h1
          omega)
        rwa [show n - x.toNat = e + 1 by omega] at this
      have hor : bits .or .i64 (v : Int) (P : Int) = ((v + P : Nat) : Int) := by rw [hP]; exact or_pow v e hv (by omega) hdv
      have HN : Hid (v + P = codeS n (xs.take (j + 1))) := by
        rw [take_snoc xs j hjx, codeS_snoc, ← hx, ← HVV.out, hP, show n - 1 - x.toNat = e by omega]
        exact rfl
      have hvl : v + P ≤ 16777216 := by rw [HN.out]; exact HTK.out _
      have HOR := Lib.hid hor
      clear hx hjx hP hdv HVV hor
      go_wp2_with fail
      go_roundw
      case rel => exact ⟨j + 1, v + P, by omega, by go_num, by rw [HOR.out], hvl, HN.out, HP.out, HE.out⟩
      case measure => simp [intOf]; omega
    · obtain rfl : j = l := by omega
      have HF : Hid (v = R) := by rw [HVV.out, take_all xs j HL.out]; exact HCS.out
      go_wp2_with fail
      go_ret
      exact ⟨ret_int (by rw [HF.out]), HE.out⟩
end Go.Proofs.YtphpdanohooccaaGreatDoor
