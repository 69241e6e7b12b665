/- Contracts of the sums over passages: the beats, the units of time; CountTempo. -/
import Derived.Test.YtoobffhchbgkjaaTempo
import Derived.Lib.MinMax
namespace Go.Proofs.Ytoobffhchbgkjaa
open Go.RowKit

/-- The passages are valid. -/
def Passes (xs : List (Int × Int)) : Prop := ∀ q ∈ xs, (1 ≤ q.1 ∧ q.1 ≤ 1000) ∧ (20 ≤ q.2 ∧ q.2 ≤ 400) ∧ 3600 % q.2 = 0
/-- The number of beats. -/
def beatsF (xs : List (Int × Int)) : Int := (xs.map (·.1)).sum
theorem beatsF_snoc (xs : List (Int × Int)) (q : Int × Int) : beatsF (xs ++ [q]) = beatsF xs + q.1 := by simp [beatsF]
theorem beatsF_cons (xs : List (Int × Int)) (q : Int × Int) : beatsF (q :: xs) = q.1 + beatsF xs := by simp [beatsF]
theorem beatsF_bd {xs : List (Int × Int)} (h : Passes xs) : 0 ≤ beatsF xs ∧ beatsF xs ≤ xs.length * 1000 := by
  induction xs with
  | nil => simp [beatsF]
  | cons q xs ih =>
    have := ih (fun r hr => h r (by simp [hr]))
    have h1 := h q (by simp)
    rw [beatsF_cons]
    simp only [List.length_cons]
    omega
theorem Passes.take {xs : List (Int × Int)} (h : Passes xs) (k : Nat) : Passes (xs.take k) := fun q hq => h q (List.mem_of_mem_take hq)

set_option maxHeartbeats 400000 in
theorem beatsS_any (A : Option Addr) (c : Nat) (xs : List (Int × Int)) (w : World) (hr : RdP w A xs) (hn : xs.length ≤ 1048576) (hp : Passes xs) :
    Calls Try.prog 47 #[.slice A xs.length c] w fun e w' => e = .returned (.int .i64 (beatsF xs)) ∧ Ext w w' := by
  obtain ⟨m, hm⟩ : ∃ m, m = xs.length := ⟨_, rfl⟩
  rw [← hm] at hn ⊢
  have HM := Lib.hid hm
  have HR := Lib.hid hr
  have HP := Lib.hid hp
  clear hm hr hp
  go_enter Try.func47, Try.ntmps47
  go_wp2
  go_loopw [3, 8] (fun s i wr => ∃ (k : Nat) (t : Int), k ≤ m ∧ i = .int .i64 k ∧ s = .int .i64 t ∧ 0 ≤ t ∧ t ≤ k * 1000 ∧ Hid (t = beatsF (xs.take k)) ∧ Hid (Ext w wr)) (fun _ i _ => m - (intOf i).toNat)
  case atStart => exact ⟨0, 0, Nat.zero_le _, rfl, rfl, by omega, by omega, rfl, Ext.refl w⟩
  case round =>
    obtain ⟨k, t, hk, rfl, rfl, ht0, ht1, HT, HE⟩ := hrel
    by_cases hlt : k < m
    · have hkx : k < xs.length := by rw [← HM.out]; exact hlt
      obtain ⟨b, o, hA, hc, hc2⟩ := (HR.out.ext HE.out).at_ k hkx
      subst hA
      obtain ⟨⟨x, y⟩, hx⟩ : ∃ x, x = xs.getD k (0, 0) := ⟨_, rfl⟩
      rw [← hx] at hc hc2
      simp only [] at hc hc2
      have hb := HP.out (x, y) (by rw [hx]; exact getD_mem _ _ _ hkx)
      simp only [] at hb
      have hb1 := hb.1
      have HX := Lib.hid hx
      have HK := Lib.hid hkx
      clear hx hkx hb
      go_wp2
      go_roundw
      case rel => exact ⟨k + 1, t + x, by omega, by go_num, rfl, by omega, by omega, by rw [take_snocP xs k HK.out, beatsF_snoc, ← HT.out, ← HX.out]; exact rfl, HE.out.alloc _⟩
      case measure => simp [intOf]; omega
    · obtain rfl : k = m := by omega
      go_wp2
      go_ret
      exact ⟨ret_int (by rw [HT.out, take_allP xs k HM.out]), HE.out⟩
set_option maxHeartbeats 400000 in
theorem beatsI_any (A : Option Addr) (c : Nat) (xs : List (Int × Int)) (w : World) (hr : RdP w A xs) (hn : xs.length ≤ 1048576) (hp : Passes xs) :
    Calls Try.prog 48 #[.slice A xs.length c] w fun e w' => e = .returned (.int .i64 (beatsF xs)) ∧ Ext w w' := by
  obtain ⟨m, hm⟩ : ∃ m, m = xs.length := ⟨_, rfl⟩
  rw [← hm] at hn ⊢
  have HM := Lib.hid hm
  have HR := Lib.hid hr
  have HP := Lib.hid hp
  clear hm hr hp
  go_enter Try.func48, Try.ntmps48
  go_wp2
  go_loopw [3, 8] (fun s i wr => ∃ (k : Nat) (t : Int), k ≤ m ∧ i = .int .i64 k ∧ s = .int .i64 t ∧ 0 ≤ t ∧ t ≤ k * 1000 ∧ Hid (t = beatsF (xs.take k)) ∧ Hid (Ext w wr)) (fun _ i _ => m - (intOf i).toNat)
  case atStart => exact ⟨0, 0, Nat.zero_le _, rfl, rfl, by omega, by omega, rfl, Ext.refl w⟩
  case round =>
    obtain ⟨k, t, hk, rfl, rfl, ht0, ht1, HT, HE⟩ := hrel
    by_cases hlt : k < m
    · have hkx : k < xs.length := by rw [← HM.out]; exact hlt
      obtain ⟨b, o, hA, hc, hc2⟩ := (HR.out.ext HE.out).at_ k hkx
      subst hA
      obtain ⟨⟨x, y⟩, hx⟩ : ∃ x, x = xs.getD k (0, 0) := ⟨_, rfl⟩
      rw [← hx] at hc hc2
      simp only [] at hc hc2
      have hb := HP.out (x, y) (by rw [hx]; exact getD_mem _ _ _ hkx)
      simp only [] at hb
      have hb1 := hb.1
      have HX := Lib.hid hx
      have HK := Lib.hid hkx
      clear hx hkx hb
      go_wp2
      go_roundw
      case rel => exact ⟨k + 1, t + x, by omega, by go_num, rfl, by omega, by omega, by rw [take_snocP xs k HK.out, beatsF_snoc, ← HT.out, ← HX.out]; exact rfl, HE.out.alloc _⟩
      case measure => simp [intOf]; omega
    · obtain rfl : k = m := by omega
      go_wp2
      go_ret
      exact ⟨ret_int (by rw [HT.out, take_allP xs k HM.out]), HE.out⟩

/-- The time of a number of beats, in 3600ths of a minute; the beats that are left are taken passage by passage. -/
def unitsF : List (Int × Int) → Int → Int
  | [], _ => 0
  | q :: xs, b => min b q.1 * (3600 / q.2) + unitsF xs (b - min b q.1)
/-- The beats that are left behind the passages. -/
def leftF : List (Int × Int) → Int → Int
  | [], b => b
  | q :: xs, b => leftF xs (b - min b q.1)
theorem unitsF_snoc (xs : List (Int × Int)) (q : Int × Int) : ∀ b, unitsF (xs ++ [q]) b = unitsF xs b + min (leftF xs b) q.1 * (3600 / q.2) := by
  induction xs with
  | nil => intro b; simp [unitsF, leftF]
  | cons r xs ih => intro b; simp only [List.cons_append, unitsF, leftF, ih]; omega
theorem leftF_snoc (xs : List (Int × Int)) (q : Int × Int) : ∀ b, leftF (xs ++ [q]) b = leftF xs b - min (leftF xs b) q.1 := by
  induction xs with
  | nil => intro b; simp [leftF]
  | cons r xs ih => intro b; simp only [List.cons_append, leftF, ih]
theorem leftF_bd {xs : List (Int × Int)} (h : Passes xs) : ∀ b, 0 ≤ b → 0 ≤ leftF xs b ∧ leftF xs b ≤ b := by
  induction xs with
  | nil => intro b hb; simp [leftF, hb]
  | cons q xs ih =>
    intro b hb
    have h1 := h q (by simp)
    have := ih (fun r hr => h r (by simp [hr])) (b - min b q.1) (by omega)
    simp only [leftF]
    omega
theorem step_bd {n r : Int} (hn : 0 ≤ n ∧ n ≤ 1000) (hr : 20 ≤ r ∧ r ≤ 400) : (9 ≤ 3600 / r ∧ 3600 / r ≤ 180) ∧ 0 ≤ n * (3600 / r) ∧ n * (3600 / r) ≤ 180000 := by
  have h1 : 3600 / r ≤ 180 := Int.ediv_le_of_le_mul (by omega) (by omega)
  have h2 : 9 ≤ 3600 / r := by rw [Int.le_ediv_iff_mul_le (by omega)]; omega
  refine ⟨⟨h2, h1⟩, Int.mul_nonneg hn.1 (by omega), ?_⟩
  have : n * (3600 / r) ≤ 1000 * 180 := Int.mul_le_mul hn.2 h1 (by omega) (by omega)
  omega
theorem unitsF_bd {xs : List (Int × Int)} (h : Passes xs) : ∀ b, 0 ≤ b → 0 ≤ unitsF xs b ∧ unitsF xs b ≤ xs.length * 180000 := by
  induction xs with
  | nil => intro b hb; simp [unitsF]
  | cons q xs ih =>
    intro b hb
    have h1 := h q (by simp)
    have h2 := ih (fun r hr => h r (by simp [hr])) (b - min b q.1) (by omega)
    have h3 := (step_bd (n := min b q.1) (r := q.2) (by omega) h1.2.1).2
    simp only [unitsF, List.length_cons]
    omega

set_option maxHeartbeats 400000 in
theorem units_any (A : Option Addr) (c : Nat) (xs : List (Int × Int)) (b : Int) (w : World) (hr : RdP w A xs) (hn : xs.length ≤ 1048576) (hp : Passes xs) (hb0 : 0 ≤ b) (hb1 : b ≤ 1152921504606846976) :
    Calls Try.prog 49 #[.slice A xs.length c, .int .i64 b] w fun e w' => e = .returned (.int .i64 (unitsF xs b)) ∧ Ext w w' := by
  obtain ⟨m, hm⟩ : ∃ m, m = xs.length := ⟨_, rfl⟩
  rw [← hm] at hn ⊢
  have HM := Lib.hid hm
  have HR := Lib.hid hr
  have HP := Lib.hid hp
  obtain ⟨R, hR⟩ : ∃ R, R = unitsF xs b := ⟨_, rfl⟩
  rw [← hR]
  have HRR := Lib.hid hR
  clear hm hr hp hR
  go_enter Try.func49, Try.ntmps49
  go_wp2
  go_loopw [1, 5, 11] (fun l s i wr => ∃ (k : Nat) (t d : Int), k ≤ m ∧ i = .int .i64 k ∧ s = .int .i64 t ∧ l = .int .i64 d ∧ 0 ≤ t ∧ t ≤ k * 180000 ∧ 0 ≤ d ∧ d ≤ b ∧ Hid (t = unitsF (xs.take k) b) ∧ Hid (d = leftF (xs.take k) b) ∧ Hid (Ext w wr)) (fun _ _ i _ => m - (intOf i).toNat)
  case atStart => exact ⟨0, 0, b, Nat.zero_le _, rfl, rfl, rfl, by omega, by omega, by omega, by omega, rfl, rfl, Ext.refl w⟩
  case round =>
    obtain ⟨k, t, d, hk, rfl, rfl, rfl, ht0, ht1, hd0, hd1, HT, HD, HE⟩ := hrel
    by_cases hlt : k < m
    · have hkx : k < xs.length := by rw [← HM.out]; exact hlt
      obtain ⟨bb, o, hA, hc, hc2⟩ := (HR.out.ext HE.out).at_ k hkx
      subst hA
      obtain ⟨⟨x, y⟩, hx⟩ : ∃ x, x = xs.getD k (0, 0) := ⟨_, rfl⟩
      rw [← hx] at hc hc2
      simp only [] at hc hc2
      have hb := HP.out (x, y) (by rw [hx]; exact getD_mem _ _ _ hkx)
      simp only [] at hb
      have g1 := hb.1
      have g2 := hb.2.1
      have g3 := step_bd (n := min d x) (r := y) (by omega) g2
      have HX := Lib.hid hx
      have HK := Lib.hid hkx
      clear hx hkx hb
      go_wp2
      go_roundw
      case rel =>
        refine ⟨k + 1, t + min d x * (3600 / y), d - min d x, by omega, by go_num, rfl, rfl, by omega, by omega, by omega, by omega, ?_, ?_, HE.out.alloc _⟩
        · rw [take_snocP xs k HK.out, unitsF_snoc, ← HT.out, ← HD.out, ← HX.out]; exact rfl
        · rw [take_snocP xs k HK.out, leftF_snoc, ← HD.out, ← HX.out]; exact rfl
      case measure => simp [intOf]; omega
    · obtain rfl : k = m := by omega
      go_wp2
      go_ret
      exact ⟨ret_int (by rw [HRR.out, HT.out, take_allP xs k HM.out]), HE.out⟩

/-- CountTempo. -/
def ctF (xs : List (Int × Int)) : Int := if tempoB xs = true then beatsF xs else -1
theorem ctS_any (A : Option Addr) (c : Nat) (xs : List (Int × Int)) (w : World) (hr : RdP w A xs) (hn : xs.length ≤ 1048576) :
    Calls Try.prog 17 #[.slice A xs.length c] w fun e w' => e = .returned (.int .i64 (ctF xs)) ∧ Ext w w' := by
  have CT := Lib.hid (tempoS_any A c xs w hr hn)
  have HR := Lib.hid hr
  by_cases hok : tempoB xs = true
  · have hp : Passes xs := (tempoB_iff hok).2
    obtain ⟨R, hR, CB⟩ : ∃ R, R = beatsF xs ∧ Hid (∀ w, RdP w A xs → Calls Try.prog _ #[.slice A xs.length c] w fun e w' => e = .returned (.int .i64 R) ∧ Ext w w') := ⟨_, rfl, fun w h => beatsS_any A c xs w h hn hp⟩
    have e : ctF xs = R := by unfold ctF; rw [if_pos hok, hR]
    rw [e]
    rw [hok] at CT
    obtain ⟨n, hnn⟩ : ∃ n, n = xs.length := ⟨_, rfl⟩
    rw [← hnn] at CT CB ⊢
    clear e hr hn hok hnn hR hp
    go_enter Try.func17, Try.ntmps17
    go_wp2_with fail
    refine CT.out.mono ?_
    rintro e w1 ⟨rfl, he⟩
    have HX := Lib.hid he
    clear he
    go_wp2_with fail
    refine (CB.out _ (HR.out.ext HX.out)).mono ?_
    rintro e w2 ⟨rfl, he⟩
    have HX2 := Lib.hid (HX.out.trans he)
    clear he
    go_wp2_with fail
    go_ret
    exact ⟨rfl, HX2.out⟩
  · have hok : tempoB xs = false := by simpa using hok
    have e : ctF xs = -1 := by unfold ctF; rw [hok]; rfl
    rw [e]
    rw [hok] at CT
    obtain ⟨n, hnn⟩ : ∃ n, n = xs.length := ⟨_, rfl⟩
    rw [← hnn] at CT ⊢
    clear e hr hn hok hnn
    go_enter Try.func17, Try.ntmps17
    go_wp2_with fail
    refine CT.out.mono ?_
    rintro e w1 ⟨rfl, he⟩
    have HX := Lib.hid he
    clear he
    go_wp2_with fail
    go_ret
    exact ⟨rfl, HX.out⟩
theorem ctI_any (A : Option Addr) (c : Nat) (xs : List (Int × Int)) (w : World) (hr : RdP w A xs) (hn : xs.length ≤ 1048576) :
    Calls Try.prog 18 #[.slice A xs.length c] w fun e w' => e = .returned (.int .i64 (ctF xs)) ∧ Ext w w' := by
  have CT := Lib.hid (tempoI_any A c xs w hr hn)
  have HR := Lib.hid hr
  by_cases hok : tempoB xs = true
  · have hp : Passes xs := (tempoB_iff hok).2
    obtain ⟨R, hR, CB⟩ : ∃ R, R = beatsF xs ∧ Hid (∀ w, RdP w A xs → Calls Try.prog _ #[.slice A xs.length c] w fun e w' => e = .returned (.int .i64 R) ∧ Ext w w') := ⟨_, rfl, fun w h => beatsI_any A c xs w h hn hp⟩
    have e : ctF xs = R := by unfold ctF; rw [if_pos hok, hR]
    rw [e]
    rw [hok] at CT
    obtain ⟨n, hnn⟩ : ∃ n, n = xs.length := ⟨_, rfl⟩
    rw [← hnn] at CT CB ⊢
    clear e hr hn hok hnn hR hp
    go_enter Try.func18, Try.ntmps18
    go_wp2_with fail
    refine CT.out.mono ?_
    rintro e w1 ⟨rfl, he⟩
    have HX := Lib.hid he
    clear he
    go_wp2_with fail
    refine (CB.out _ (HR.out.ext HX.out)).mono ?_
    rintro e w2 ⟨rfl, he⟩
    have HX2 := Lib.hid (HX.out.trans he)
    clear he
    go_wp2_with fail
    go_ret
    exact ⟨rfl, HX2.out⟩
  · have hok : tempoB xs = false := by simpa using hok
    have e : ctF xs = -1 := by unfold ctF; rw [hok]; rfl
    rw [e]
    rw [hok] at CT
    obtain ⟨n, hnn⟩ : ∃ n, n = xs.length := ⟨_, rfl⟩
    rw [← hnn] at CT ⊢
    clear e hr hn hok hnn
    go_enter Try.func18, Try.ntmps18
    go_wp2_with fail
    refine CT.out.mono ?_
    rintro e w1 ⟨rfl, he⟩
    have HX := Lib.hid he
    clear he
    go_wp2_with fail
    go_ret
    exact ⟨rfl, HX.out⟩
end Go.Proofs.Ytoobffhchbgkjaa
