/- Texts of short lists of digits: plain facts, the program's FormatMeter and FormatBar. -/
import Derived.Test.YtedfmjijemcpaaaDoorNum
import Derived.Test.YtedfmjijemcpaaaDoorMtO
import Derived.Test.YtedfmjijemcpaaaDoorBar
import Derived.Lib.CountLaws
import Derived.Lib.Replace
namespace Go.Proofs.YtedfmjijemcpaaaDoor
open Go.RowKit

def dgb (x : Int) : UInt8 := UInt8.ofNat (48 + x.toNat)
theorem dgb_ne {x : Int} (c : UInt8) (hx : 0 ≤ x ∧ x ≤ 9) (hc : c.toNat < 48) : dgb x ≠ c := by
  intro e
  have h : (dgb x).toNat = 48 + x.toNat := by
    unfold dgb
    rw [UInt8.toNat_ofNat']
    omega
  rw [e] at h
  omega
theorem jn_one (s : UInt8) (x : Int) : jn s [x] = [dgb x] := by simp [jn, Lib.join, List.intercalate, dg, dgb]
theorem jn_cons (s : UInt8) (x y : Int) (ys : List Int) : jn s (x :: y :: ys) = dgb x :: s :: jn s (y :: ys) := by
  simp [jn, Lib.join, List.intercalate, dg, dgb]
theorem idx_one {d c : UInt8} (h : d ≠ c) (rest : List UInt8) : Lib.index (d :: c :: rest) [c] = ((1 : Nat) : Int) := by
  have h2 : (c == d) = false := by simpa using h.symm
  simp [Lib.index, List.isPrefixOf, h2]
theorem idx_none {d c : UInt8} (h : d ≠ c) : Lib.index [d] [c] = -1 := by
  have h2 : (c == d) = false := by simpa using h.symm
  simp [Lib.index, List.isPrefixOf, h2]
theorem repl_jn (s : UInt8) : ∀ (xs : List Int), (∀ x ∈ xs, 0 ≤ x ∧ x ≤ 9) → 1 ≤ xs.length → Lib.replaceK [44] [s] (Lib.count (jn 44 xs) [44]) (jn 44 xs) = jn s xs
  | [], _, h => by simp at h
  | [x], hd, _ => by
    have hi := idx_none (dgb_ne 44 (hd x (by simp)) (by decide))
    rw [jn_one, jn_one, Lib.count_miss hi, Lib.replaceK]
  | x :: y :: ys, hd, _ => by
    have hi := idx_one (dgb_ne 44 (hd x (by simp)) (by decide)) (jn 44 (y :: ys))
    have ih := repl_jn s (y :: ys) (fun z hz => hd z (by simp [hz])) (by simp)
    rw [jn_cons, jn_cons, Lib.count_hit (by simp) hi, Nat.add_comm, Lib.replaceK_hit _ _ _ _ _ hi]
    simp only [List.length_cons, List.length_nil, List.drop_succ_cons, List.drop_zero, List.take_succ_cons, List.take_zero]
    rw [ih]
    rfl
theorem replAll_jn (s : UInt8) (hs : s ≠ 44) (xs : List Int) (hd : ∀ x ∈ xs, 0 ≤ x ∧ x ≤ 9) (hl : 1 ≤ xs.length) : Lib.replaceAll (jn 44 xs) [44] [s] = jn s xs := by
  have h1 : (([44] : List UInt8) == [s]) = false := by
    refine Bool.eq_false_iff.2 (fun e => hs ?_)
    have := List.cons.inj (eq_of_beq e)
    exact this.1.symm
  unfold Lib.replaceAll Lib.replace
  rw [h1, if_neg (by simp)]
  unfold Lib.replaceNum
  rw [if_pos (by omega)]
  exact repl_jn s xs hd hl
/-- The answers of FormatMeter and FormatBar. -/
def fmtF (ok : List Int → Bool) (s : UInt8) (xs : List Int) : ByteArray := if ok xs = true then ⟨(jn s xs).toArray⟩ else ⟨#[]⟩

theorem metB_dig {xs : List Int} (h : metB xs = true) : (∀ x ∈ xs, 0 ≤ x ∧ x ≤ 9) ∧ 1 ≤ xs.length ∧ xs.length ≤ 12 := by
  unfold metB at h
  simp only [Bool.and_eq_true] at h
  have h1 := inB_iff.1 h.1
  have h2 := allB_iff.1 h.2.1
  exact ⟨fun x hx => by have := h2 x hx; omega, by omega, by omega⟩
theorem barB_dig {xs : List Int} (h : barB xs = true) : (∀ x ∈ xs, 0 ≤ x ∧ x ≤ 9) ∧ 1 ≤ xs.length ∧ xs.length ≤ 12 := by
  have h1 := barB_iff h
  exact ⟨fun x hx => by have := h1.2.1 x hx; omega, by omega, by omega⟩

theorem raI_any (s : UInt8) (hs : s ≠ 44) (xs : List Int) (hd : ∀ x ∈ xs, 0 ≤ x ∧ x ≤ 9) (hl : 1 ≤ xs.length) (hl2 : xs.length ≤ 12) (m : Int) (w : World) (hm : w.cell? ⟨0, 0, none⟩ = some (.int .i64 m)) :
    Calls Tryd.prog 23 #[.string ⟨(jn 44 xs).toArray⟩, .string ⟨#[44]⟩, .string ⟨#[s]⟩] w fun e w' => e = .returned (.string ⟨(jn s xs).toArray⟩) ∧ Ext w w' := by
  have h1 := jn_len 44 xs
  have hsz : (⟨(jn 44 xs).toArray⟩ : ByteArray).size = (jn 44 xs).length := rfl
  have hc : Lib.countB ⟨(jn 44 xs).toArray⟩ ⟨#[44]⟩ = Lib.count (jn 44 xs) [44] := rfl
  have hcl := Lib.count_le (jn 44 xs) [44]
  have h := Tryd.strings_ReplaceAll ⟨(jn 44 xs).toArray⟩ ⟨#[44]⟩ ⟨#[s]⟩ m w (by rw [hsz]; omega) hm (by decide) (by
    have hss : (⟨#[s]⟩ : ByteArray).size = 1 := rfl
    rw [hsz, hc, hss]
    omega)
  rw [← replAll_jn s hs xs hd hl]
  exact h
set_option maxHeartbeats 1000000 in
theorem fIM_any (A : Option Addr) (c : Nat) (xs : List Int) (m : Int) (w : World) (hm : w.cell? ⟨0, 0, none⟩ = some (.int .i64 m)) (hr : RdI w A xs) (hl : xs.length ≤ 1048576) :
    Calls Tryd.prog 12 #[.slice A xs.length c] w fun e w' => e = .returned (.string (fmtF metB 42 xs)) ∧ Ext w w' := by
  obtain ⟨l, hll⟩ : ∃ l, l = xs.length := ⟨_, rfl⟩
  have CO : Hid (Calls Tryd.prog 26 #[.slice A l c] w fun e w' => e = .returned (.bool (metB xs)) ∧ Ext w w') := by rw [hll]; exact metI_any A c xs w hr (by omega)
  by_cases hb : metB xs = true
  · have hd := metB_dig hb
    obtain ⟨S, hS⟩ : ∃ S : ByteArray, S = ⟨(jn 44 xs).toArray⟩ := ⟨_, rfl⟩
    obtain ⟨R, hR⟩ : ∃ R : ByteArray, R = fmtF metB 42 xs := ⟨_, rfl⟩
    have CN : Hid (∀ W : World, Ext w W → Calls Tryd.prog 24 #[.slice A l c] W fun e w' => e = .returned (.string S) ∧ Ext W w') := fun W he => by
      rw [hll, hS]
      exact ntI_any A c xs W (hr.ext he) (dig_of (by decide) (by decide) hd.1) hd.2.1 hd.2.2
    have CR : Hid (∀ W : World, Ext w W → Calls Tryd.prog 23 #[.string S, .string ⟨#[44]⟩, .string ⟨#[42]⟩] W fun e w' => e = .returned (.string R) ∧ Ext W w') := fun W he => by
      rw [hS, hR]
      unfold fmtF
      rw [if_pos hb]
      exact raI_any 42 (by decide) xs hd.1 hd.2.1 hd.2.2 m W (he.cell hm)
    rw [← hll, ← hR]
    rw [hb] at CO
    clear hS hR hd hll hr hl hm hb
    go_enter Tryd.func12, Tryd.ntmps12
    go_wp2_with fail
    refine CO.out.mono ?_
    rintro e w1 ⟨rfl, h1⟩
    have H1 := Lib.hid h1
    clear h1
    go_wp2_with fail
    refine (CN.out _ H1.out).mono ?_
    rintro e w2 ⟨rfl, h2⟩
    have H2 := Lib.hid (H1.out.trans h2)
    clear h2
    go_wp2_with fail
    refine (CR.out _ H2.out).mono ?_
    rintro e w3 ⟨rfl, h3⟩
    have H3 := Lib.hid (H2.out.trans h3)
    clear h3
    go_wp2_with fail
    go_ret
    exact ⟨rfl, H3.out⟩
  · have hb : metB xs = false := by simpa using hb
    have e : fmtF metB 42 xs = ⟨#[]⟩ := by unfold fmtF; rw [hb]; rfl
    rw [e, ← hll]
    rw [hb] at CO
    clear hll hr hl hm hb e
    go_enter Tryd.func12, Tryd.ntmps12
    go_wp2_with fail
    refine CO.out.mono ?_
    rintro e w1 ⟨rfl, h1⟩
    have H1 := Lib.hid h1
    clear h1
    go_wp2_with fail
    go_ret
    exact ⟨rfl, H1.out⟩
set_option maxHeartbeats 1000000 in
theorem fIB_any (A : Option Addr) (c : Nat) (xs : List Int) (m : Int) (w : World) (hm : w.cell? ⟨0, 0, none⟩ = some (.int .i64 m)) (hr : RdI w A xs) (hl : xs.length ≤ 1048576) :
    Calls Tryd.prog 9 #[.slice A xs.length c] w fun e w' => e = .returned (.string (fmtF barB 43 xs)) ∧ Ext w w' := by
  obtain ⟨l, hll⟩ : ∃ l, l = xs.length := ⟨_, rfl⟩
  have CO : Hid (Calls Tryd.prog 22 #[.slice A l c] w fun e w' => e = .returned (.bool (barB xs)) ∧ Ext w w') := by rw [hll]; exact barI_any A c xs w hr (by omega)
  by_cases hb : barB xs = true
  · have hd := barB_dig hb
    obtain ⟨S, hS⟩ : ∃ S : ByteArray, S = ⟨(jn 44 xs).toArray⟩ := ⟨_, rfl⟩
    obtain ⟨R, hR⟩ : ∃ R : ByteArray, R = fmtF barB 43 xs := ⟨_, rfl⟩
    have CN : Hid (∀ W : World, Ext w W → Calls Tryd.prog 24 #[.slice A l c] W fun e w' => e = .returned (.string S) ∧ Ext W w') := fun W he => by
      rw [hll, hS]
      exact ntI_any A c xs W (hr.ext he) (dig_of (by decide) (by decide) hd.1) hd.2.1 hd.2.2
    have CR : Hid (∀ W : World, Ext w W → Calls Tryd.prog 23 #[.string S, .string ⟨#[44]⟩, .string ⟨#[43]⟩] W fun e w' => e = .returned (.string R) ∧ Ext W w') := fun W he => by
      rw [hS, hR]
      unfold fmtF
      rw [if_pos hb]
      exact raI_any 43 (by decide) xs hd.1 hd.2.1 hd.2.2 m W (he.cell hm)
    rw [← hll, ← hR]
    rw [hb] at CO
    clear hS hR hd hll hr hl hm hb
    go_enter Tryd.func9, Tryd.ntmps9
    go_wp2_with fail
    refine CO.out.mono ?_
    rintro e w1 ⟨rfl, h1⟩
    have H1 := Lib.hid h1
    clear h1
    go_wp2_with fail
    refine (CN.out _ H1.out).mono ?_
    rintro e w2 ⟨rfl, h2⟩
    have H2 := Lib.hid (H1.out.trans h2)
    clear h2
    go_wp2_with fail
    refine (CR.out _ H2.out).mono ?_
    rintro e w3 ⟨rfl, h3⟩
    have H3 := Lib.hid (H2.out.trans h3)
    clear h3
    go_wp2_with fail
    go_ret
    exact ⟨rfl, H3.out⟩
  · have hb : barB xs = false := by simpa using hb
    have e : fmtF barB 43 xs = ⟨#[]⟩ := by unfold fmtF; rw [hb]; rfl
    rw [e, ← hll]
    rw [hb] at CO
    clear hll hr hl hm hb e
    go_enter Tryd.func9, Tryd.ntmps9
    go_wp2_with fail
    refine CO.out.mono ?_
    rintro e w1 ⟨rfl, h1⟩
    have H1 := Lib.hid h1
    clear h1
    go_wp2_with fail
    go_ret
    exact ⟨rfl, H1.out⟩
end Go.Proofs.YtedfmjijemcpaaaDoor
