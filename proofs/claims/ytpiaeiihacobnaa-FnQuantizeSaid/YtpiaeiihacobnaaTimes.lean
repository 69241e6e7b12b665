/- Contracts of TimesOk, and of the reference's and the program's look at times and a grid. -/
import Derived.Test.YtpiaeiihacobnaaAllWithin
import Derived.Test.YtpiaeiihacobnaaNear
import Derived.IntWalk
namespace Go.Proofs.Ytpiaeiihacobnaa
open Go.RowKit

/-- Each number is at most the next one. -/
def sortB (xs : List Int) : Bool := (List.range xs.length).all fun i => !decide (i + 1 < xs.length) || decide (xs.getD i 0 ≤ xs.getD (i + 1) 0)
theorem sortB_iff {xs : List Int} : sortB xs = true ↔ ∀ i, i + 1 < xs.length → xs.getD i 0 ≤ xs.getD (i + 1) 0 := by
  simp only [sortB, List.all_eq_true, List.mem_range, Bool.or_eq_true, Bool.not_eq_true', decide_eq_false_iff_not, decide_eq_true_eq]
  constructor
  · intro h i hi
    rcases h i (by omega) with h1 | h1
    · exact absurd hi h1
    · exact h1
  · intro h i hi
    by_cases h1 : i + 1 < xs.length
    · exact Or.inr (h i h1)
    · exact Or.inl h1
/-- Times are valid. -/
def timesB (xs : List Int) : Bool := decide (xs.length ≤ 32) && (allB xs 0 100000 && sortB xs)

theorem isNaN_any (x : Int) (w : World) : Calls Try.prog 77 #[.int .i64 x] w fun e w' => e = .returned (.bool false) ∧ w = w' := by
  go_enter Try.func77, Try.ntmps77
  go_wp2
  go_ret
  exact ⟨ret_bool (by simp), rfl⟩
theorem less_any (x y : Int) (w : World) : Calls Try.prog 67 #[.int .i64 x, .int .i64 y] w fun e w' => e = .returned (.bool (decide (x < y))) ∧ w = w' := by
  go_enter Try.func67, Try.ntmps67
  go_wp2_with (go_at_call 77; refine (isNaN_any _ _).mono ?_; rintro e w' ⟨rfl, rfl⟩)
  go_ret
  exact ⟨rfl, rfl⟩

set_option maxHeartbeats 400000 in
theorem isSorted_any (A : Option Addr) (c : Nat) (xs : List Int) (w : World) (hr : RdI w A xs) (hn : xs.length ≤ 1048576) :
    Calls Try.prog 43 #[.slice A xs.length c] w fun e w' => e = .returned (.bool (sortB xs)) ∧ Ext w w' := by
  obtain ⟨n, hnn⟩ : ∃ n, n = xs.length := ⟨_, rfl⟩
  obtain ⟨B, hB⟩ : ∃ B, B = sortB xs := ⟨_, rfl⟩
  rw [← hnn] at hn ⊢
  rw [← hB]
  have HN := Lib.hid hnn
  have HR := Lib.hid hr
  have HB := Lib.hid hB
  clear hnn hr hB
  go_enter Try.func43, Try.ntmps43
  go_wp2
  go_loopw [3] (fun i wr => ∃ (k : Int), -1 ≤ k ∧ k ≤ n - 1 ∧ i = .int .i64 k ∧ Hid (Ext w wr) ∧ Hid (∀ j : Nat, k < (j : Int) → 0 < j → j < n → xs.getD (j - 1) 0 ≤ xs.getD j 0)) (fun i _ => (intOf i + 1).toNat)
  case atStart => exact ⟨_, by omega, by omega, rfl, Ext.refl w, fun j h1 _ h2 => absurd h2 (by omega)⟩
  case round =>
    obtain ⟨k, hk0, hk1, rfl, HE0, HJ⟩ := hrel
    by_cases hlt : 0 < k
    · obtain ⟨j, rfl⟩ := Int.eq_ofNat_of_zero_le (by omega : (0 : Int) ≤ k)
      have hlt' : 0 < j := by omega
      have hsub : ((j : Int) - 1).toNat = j - 1 := by omega
      obtain ⟨b, o, hA, hc⟩ := (HR.out.ext HE0.out).at_ j (by rw [← HN.out]; omega)
      obtain ⟨b2, o2, hA2, hc2⟩ := (HR.out.ext HE0.out).at_ (j - 1) (by rw [← HN.out]; omega)
      subst hA
      injection hA2 with hA2
      injection hA2 with e1 e2
      subst e1 e2
      obtain ⟨x, hx⟩ : ∃ x, x = xs.getD j 0 := ⟨_, rfl⟩
      obtain ⟨y, hy⟩ : ∃ y, y = xs.getD (j - 1) 0 := ⟨_, rfl⟩
      rw [← hx] at hc
      rw [← hy] at hc2
      have HX := Lib.hid hx
      have HY := Lib.hid hy
      have HS := Lib.hid hsub
      have HW : Hid (IntKind.i64.wrap ((j : Int) - 1) = (j : Int) - 1) := IntWalk.i64_in _ (by omega)
      have hjn : j < n := by omega
      have hj1 : (j : Int) - 1 < n := by omega
      have hj2 : (1 : Int) ≤ j := by omega
      clear hx hy hsub
      by_cases he : x < y
      · have he' : decide (x < y) = true := by simpa using he
        go_wp2
        have hs1 := HW.out
        have hs2 := HS.out
        go_quiet ((go_at_call 67; exact quiet_same (less_any _ _ _)))
        clear hs1 hs2
        go_wp2
        go_ret
        refine ⟨ret_bool ?_, HE0.out.drewN _⟩
        rw [HB.out, eq_comm, ← Bool.not_eq_true, sortB_iff]
        intro h
        have := h (j - 1) (by rw [← HN.out]; omega)
        rw [show j - 1 + 1 = j by omega, ← HX.out, ← HY.out] at this
        omega
      · have he' : decide (x < y) = false := by simpa using he
        have he2 : y ≤ x := by omega
        clear he
        go_wp2
        have hs1 := HW.out
        have hs2 := HS.out
        go_quiet ((go_at_call 67; exact quiet_same (less_any _ _ _)))
        clear hs1 hs2
        go_wp2
        go_roundw
        case rel =>
          refine ⟨(j : Int) - 1, by omega, by omega, rfl, HE0.out.drewN _, fun i h1 h2 h3 => ?_⟩
          by_cases hij : j < i
          · exact HJ.out i (by omega) h2 h3
          · obtain rfl : i = j := by omega
            rw [← HX.out, ← HY.out]
            exact he2
        case measure => simp only [intOf]; omega
    · go_wp2
      go_ret
      refine ⟨ret_bool ?_, HE0.out⟩
      rw [HB.out, eq_comm, sortB_iff]
      intro i hi
      have := HJ.out (i + 1) (by omega) (by omega) (by rw [HN.out]; exact hi)
      simpa using this

set_option maxHeartbeats 400000 in
theorem timesI_any (A : Option Addr) (c : Nat) (xs : List Int) (w : World) (hr : RdI w A xs) (hn : xs.length ≤ 1048576) :
    Calls Try.prog 14 #[.slice A xs.length c] w fun e w' => e = .returned (.bool (timesB xs)) ∧ Ext w w' := by
  have CA := Lib.hid (fun w (h : RdI w A xs) => allWithin_any A c xs 0 100000 w h (by omega))
  have CS := Lib.hid (fun w (h : RdI w A xs) => isSorted_any A c xs w h hn)
  obtain ⟨n, hnn⟩ : ∃ n, n = xs.length := ⟨_, rfl⟩
  obtain ⟨B, hB⟩ : ∃ B, B = timesB xs := ⟨_, rfl⟩
  obtain ⟨B1, hB1⟩ : ∃ B1, B1 = allB xs 0 100000 := ⟨_, rfl⟩
  obtain ⟨B2, hB2⟩ : ∃ B2, B2 = sortB xs := ⟨_, rfl⟩
  have e : B = (decide (n ≤ 32) && (B1 && B2)) := by rw [hB, hB1, hB2, hnn]; rfl
  rw [← hB1, ← hnn] at CA
  rw [← hB2, ← hnn] at CS
  rw [← hnn] at hn ⊢
  rw [← hB]
  have HE := Lib.hid e
  have HR := Lib.hid hr
  clear hB hB1 hB2 e hnn hr
  by_cases h32 : n ≤ 32
  · cases B1 with
    | true =>
      go_enter Try.func14, Try.ntmps14
      go_wp2_with fail
      refine (CA.out _ HR.out).mono ?_
      rintro e w1 ⟨rfl, he⟩
      have HX := Lib.hid he
      clear he
      go_wp2_with fail
      refine (CS.out _ (HR.out.ext HX.out)).mono ?_
      rintro e w2 ⟨rfl, he⟩
      have HX2 := Lib.hid (HX.out.trans he)
      clear he
      go_wp2_with fail
      go_ret
      exact ⟨ret_bool (by rw [HE.out, decide_eq_true h32]; simp), HX2.out⟩
    | false =>
      go_enter Try.func14, Try.ntmps14
      go_wp2_with fail
      refine (CA.out _ HR.out).mono ?_
      rintro e w1 ⟨rfl, he⟩
      have HX := Lib.hid he
      clear he
      go_wp2_with fail
      go_ret
      exact ⟨ret_bool (by rw [HE.out]; simp), HX.out⟩
  · go_enter Try.func14, Try.ntmps14
    go_wp2_with fail
    go_ret
    exact ⟨ret_bool (by rw [HE.out, decide_eq_false h32]; simp), Ext.refl _⟩

theorem take_all_lt {xs : List Int} {k : Nat} {lo hi : Int} (h : ∀ j, j < k → inB (xs.getD j 0) lo hi = true) (hk : k = xs.length) : allB xs lo hi = true := by
  rw [allB, List.all_eq_true]
  intro x hx
  obtain ⟨j, hj, e⟩ := List.mem_iff_getElem.1 hx
  have := h j (by omega)
  rw [← e]
  simpa [List.getD, hj] using this

set_option maxHeartbeats 400000 in
theorem timesS_any (A : Option Addr) (c : Nat) (xs : List Int) (w : World) (hr : RdI w A xs) (hn : xs.length ≤ 1048576) :
    Calls Try.prog 12 #[.slice A xs.length c] w fun e w' => e = .returned (.bool (timesB xs)) ∧ Ext w w' := by
  obtain ⟨n, hnn⟩ : ∃ n, n = xs.length := ⟨_, rfl⟩
  obtain ⟨B, hB⟩ : ∃ B, B = timesB xs := ⟨_, rfl⟩
  rw [← hnn] at hn ⊢
  rw [← hB]
  have HN := Lib.hid hnn
  have HR := Lib.hid hr
  have HB := Lib.hid hB
  clear hnn hr hB
  by_cases h32 : 32 < n
  · go_enter Try.func12, Try.ntmps12
    go_wp2_with fail
    go_ret
    exact ⟨ret_bool (by rw [HB.out]; unfold timesB; rw [decide_eq_false (by rw [← HN.out]; omega)]; rfl), Ext.refl _⟩
  · go_enter Try.func12, Try.ntmps12
    go_wp2_with fail
    go_loop [10] (fun i => ∃ k : Nat, k ≤ n ∧ i = .int .i64 k ∧ Hid (∀ j, j < k → inB (xs.getD j 0) 0 100000 = true) ∧ Hid (∀ j, j + 1 < k → xs.getD j 0 ≤ xs.getD (j + 1) 0)) (fun i => n - (intOf i).toNat)
    case atStart => exact ⟨0, Nat.zero_le _, rfl, fun j hj => absurd hj (by omega), fun j hj => absurd hj (by omega)⟩
    case round =>
      obtain ⟨k, hk, rfl, HJ, HS⟩ := hrel
      by_cases hlt : k < n
      · obtain ⟨b, o, hA, hc⟩ := HR.out.at_ k (by rw [← HN.out]; exact hlt)
        subst hA
        obtain ⟨x, hx⟩ : ∃ x, x = xs.getD k 0 := ⟨_, rfl⟩
        rw [← hx] at hc
        have HX := Lib.hid hx
        clear hx
        by_cases he : inB x 0 100000 = true
        · by_cases hk0 : 0 < k
          · obtain ⟨b2, o2, hA2, hc2⟩ := HR.out.at_ (k - 1) (by rw [← HN.out]; omega)
            injection hA2 with hA2
            injection hA2 with e1 e2
            subst e1 e2
            obtain ⟨y, hy⟩ : ∃ y, y = xs.getD (k - 1) 0 := ⟨_, rfl⟩
            rw [← hy] at hc2
            have HY := Lib.hid hy
            clear hy
            by_cases hxy : x < y
            · go_wp2_with (go_at_call 41; refine (l01In_any _ _ _ _).mono ?_; rintro e w' ⟨rfl, rfl⟩)
              go_ret
              refine ⟨ret_bool ?_, Ext.refl _⟩
              rw [HB.out]
              have : sortB xs = false := by
                rw [← Bool.not_eq_true, sortB_iff]
                intro h
                have := h (k - 1) (by rw [← HN.out]; omega)
                rw [show k - 1 + 1 = k by omega, ← HX.out, ← HY.out] at this
                omega
              unfold timesB
              rw [this]
              simp
            · have hyx : y ≤ x := by omega
              clear hxy
              go_wp2_with (go_at_call 41; refine (l01In_any _ _ _ _).mono ?_; rintro e w' ⟨rfl, rfl⟩)
              go_round
              case rel =>
                refine ⟨k + 1, by omega, by go_num, fun j hj => ?_, fun j hj => ?_⟩
                · by_cases hjk : j < k
                  · exact HJ.out j hjk
                  · obtain rfl : j = k := by omega
                    rw [← HX.out]
                    exact he
                · by_cases hjk : j + 1 < k
                  · exact HS.out j hjk
                  · obtain rfl : j = k - 1 := by omega
                    rw [show k - 1 + 1 = k by omega, ← HX.out, ← HY.out]
                    exact hyx
              case measure => simp only [intOf]; omega
          · obtain rfl : k = 0 := by omega
            rw [Nat.add_zero] at hc
            go_wp2_with (go_at_call 41; refine (l01In_any _ _ _ _).mono ?_; rintro e w' ⟨rfl, rfl⟩)
            go_round
            case rel =>
              refine ⟨1, by omega, by go_num, fun j hj => ?_, fun j hj => absurd hj (by omega)⟩
              obtain rfl : j = 0 := by omega
              rw [← HX.out]
              exact he
            case measure => simp only [intOf]; omega
        · have he : inB x 0 100000 = false := by simpa using he
          go_wp2_with (go_at_call 41; refine (l01In_any _ _ _ _).mono ?_; rintro e w' ⟨rfl, rfl⟩)
          go_ret
          refine ⟨ret_bool ?_, Ext.refl _⟩
          rw [HB.out]
          have : allB xs 0 100000 = false := by
            rw [← Bool.not_eq_true, allB, List.all_eq_true]
            intro ha
            have hm : x ∈ xs := by rw [HX.out]; have : k < xs.length := by rw [← HN.out]; exact hlt
                                   simp [List.getD, this]
            rw [ha x hm] at he
            cases he
          unfold timesB
          rw [this]
          simp
      · obtain rfl : k = n := by omega
        go_wp2
        go_ret
        refine ⟨ret_bool ?_, Ext.refl _⟩
        rw [HB.out]
        unfold timesB
        rw [take_all_lt HJ.out HN.out, sortB_iff.2 (fun i hi => HS.out i (by rw [HN.out]; exact hi)), decide_eq_true (by rw [← HN.out]; omega)]
        rfl

/-- Times and a grid are valid. -/
def tgB (xs : List Int) (g : Int) : Bool := timesB xs && inB g 1 1000
theorem tgB_iff {xs : List Int} {g : Int} (h : tgB xs g = true) : xs.length ≤ 32 ∧ (∀ x ∈ xs, 0 ≤ x ∧ x ≤ 100000) ∧ 1 ≤ g ∧ g ≤ 1000 := by
  unfold tgB timesB at h
  simp only [Bool.and_eq_true, decide_eq_true_eq] at h
  exact ⟨h.1.1, fun x hx => allB_iff.1 h.1.2.1 x hx, inB_iff.1 h.2⟩
theorem tgS_any (A : Option Addr) (c : Nat) (xs : List Int) (g : Int) (w : World) (hr : RdI w A xs) (hn : xs.length ≤ 1048576) :
    Calls Try.prog 44 #[.slice A xs.length c, .int .i64 g] w fun e w' => e = .returned (.bool (tgB xs g)) ∧ Ext w w' := by
  have CT := Lib.hid (timesS_any A c xs w hr hn)
  obtain ⟨n, hnn⟩ : ∃ n, n = xs.length := ⟨_, rfl⟩
  obtain ⟨B, hB⟩ : ∃ B, B = timesB xs := ⟨_, rfl⟩
  obtain ⟨B2, hB2⟩ : ∃ B2, B2 = inB g 1 1000 := ⟨_, rfl⟩
  have HB : Hid (tgB xs g = (B && B2)) := by unfold tgB; rw [hB, hB2]; exact rfl
  rw [← hnn, ← hB] at CT
  rw [← hnn, HB.out]
  have HB2 := Lib.hid hB2
  clear hnn hB hB2 hr hn
  cases B with
  | true =>
    go_enter Try.func44, Try.ntmps44
    go_wp2_with fail
    refine CT.out.mono ?_
    rintro e w1 ⟨rfl, he⟩
    have HX := Lib.hid he
    clear he
    go_wp2_with fail
    refine (gridS_any _ _).mono ?_
    rintro e w2 ⟨rfl, rfl⟩
    go_wp2_with fail
    go_ret
    exact ⟨ret_bool (by rw [HB2.out]; simp), HX.out⟩
  | false =>
    go_enter Try.func44, Try.ntmps44
    go_wp2_with fail
    refine CT.out.mono ?_
    rintro e w1 ⟨rfl, he⟩
    have HX := Lib.hid he
    clear he
    go_wp2_with fail
    go_ret
    exact ⟨ret_bool (by simp), HX.out⟩
theorem tgI_any (A : Option Addr) (c : Nat) (xs : List Int) (g : Int) (w : World) (hr : RdI w A xs) (hn : xs.length ≤ 1048576) :
    Calls Try.prog 47 #[.slice A xs.length c, .int .i64 g] w fun e w' => e = .returned (.bool (tgB xs g)) ∧ Ext w w' := by
  have CT := Lib.hid (timesI_any A c xs w hr hn)
  obtain ⟨n, hnn⟩ : ∃ n, n = xs.length := ⟨_, rfl⟩
  obtain ⟨B, hB⟩ : ∃ B, B = timesB xs := ⟨_, rfl⟩
  obtain ⟨B2, hB2⟩ : ∃ B2, B2 = inB g 1 1000 := ⟨_, rfl⟩
  have HB : Hid (tgB xs g = (B && B2)) := by unfold tgB; rw [hB, hB2]; exact rfl
  rw [← hnn, ← hB] at CT
  rw [← hnn, HB.out]
  have HB2 := Lib.hid hB2
  clear hnn hB hB2 hr hn
  cases B with
  | true =>
    go_enter Try.func47, Try.ntmps47
    go_wp2_with fail
    refine CT.out.mono ?_
    rintro e w1 ⟨rfl, he⟩
    have HX := Lib.hid he
    clear he
    go_wp2_with fail
    refine (within_any _ _ _ _).mono ?_
    rintro e w2 ⟨rfl, rfl⟩
    go_wp2_with fail
    go_ret
    exact ⟨ret_bool (by rw [HB2.out]; simp), HX.out⟩
  | false =>
    go_enter Try.func47, Try.ntmps47
    go_wp2_with fail
    refine CT.out.mono ?_
    rintro e w1 ⟨rfl, he⟩
    have HX := Lib.hid he
    clear he
    go_wp2_with fail
    go_ret
    exact ⟨ret_bool (by simp), HX.out⟩
end Go.Proofs.Ytpiaeiihacobnaa
