/- Contracts of SplitTempo. -/
import Derived.Test.YtoobffhchbgkjaaTempoC
import Derived.Test.YtoobffhchbgkjaaOwnP
namespace Go.Proofs.Ytoobffhchbgkjaa
open Go.RowKit

/-- The passages ahead of a beat, the last one cut. -/
def splA : List (Int × Int) → Int → List (Int × Int)
  | [], _ => []
  | q :: xs, b => (if 0 < min b q.1 then [(min b q.1, q.2)] else []) ++ splA xs (b - min b q.1)
/-- The passages from a beat on, the first one cut. -/
def splB : List (Int × Int) → Int → List (Int × Int)
  | [], _ => []
  | q :: xs, b => (if min b q.1 < q.1 then [(q.1 - min b q.1, q.2)] else []) ++ splB xs (b - min b q.1)
theorem splA_snoc (xs : List (Int × Int)) (q : Int × Int) : ∀ b, splA (xs ++ [q]) b = splA xs b ++ (if 0 < min (leftF xs b) q.1 then [(min (leftF xs b) q.1, q.2)] else []) := by
  induction xs with
  | nil => intro b; simp [splA, leftF]; rfl
  | cons r xs ih => intro b; simp only [List.cons_append, splA, leftF, ih, List.append_assoc]; rfl
theorem splB_snoc (xs : List (Int × Int)) (q : Int × Int) : ∀ b, splB (xs ++ [q]) b = splB xs b ++ (if min (leftF xs b) q.1 < q.1 then [(q.1 - min (leftF xs b) q.1, q.2)] else []) := by
  induction xs with
  | nil => intro b; simp [splB, leftF]; rfl
  | cons r xs ih => intro b; simp only [List.cons_append, splB, leftF, ih, List.append_assoc]; rfl
theorem splA_len (xs : List (Int × Int)) : ∀ b, (splA xs b).length ≤ xs.length := by
  induction xs with
  | nil => intro b; simp [splA]
  | cons r xs ih => intro b; have := ih (b - min b r.1); simp only [splA, List.length_append, List.length_cons]; split <;> simp <;> omega
theorem splB_len (xs : List (Int × Int)) : ∀ b, (splB xs b).length ≤ xs.length := by
  induction xs with
  | nil => intro b; simp [splB]
  | cons r xs ih => intro b; have := ih (b - min b r.1); simp only [splB, List.length_append, List.length_cons]; split <;> simp <;> omega
/-- SplitTempo. -/
def spB (xs : List (Int × Int)) (b : Int) : Bool := tempoB xs && inB b 1 (beatsF xs - 1)
def spF1 (xs : List (Int × Int)) (b : Int) : List (Int × Int) := if spB xs b = true then splA xs b else []
def spF2 (xs : List (Int × Int)) (b : Int) : List (Int × Int) := if spB xs b = true then splB xs b else []

def Apart (A B : Option Addr) : Prop := ∀ a b, A = some a → B = some b → a.block ≠ b.block
theorem Apart.symm {A B : Option Addr} (h : Apart A B) : Apart B A := fun a b ha hb e => h b a hb ha e.symm
theorem OwP.other {w w' : World} {B : Nat} {A A1 : Option Addr} {c : Nat} {xs : List (Int × Int)} (h : OwP w B A c xs) (hg : w.grownBy w' (A1.map (·.block))) (hap : Apart A1 A) : OwP w' B A c xs :=
  h.kept hg (by
    cases A with
    | none => exact Or.inl rfl
    | some a =>
      right
      cases A1 with
      | none => simp [Value.ownBlock]
      | some a1 =>
        have := hap a1 a rfl rfl
        simp [Value.ownBlock]
        exact fun e => this e.symm)
theorem Apart.step {w : World} {B : Nat} {A A' A2 : Option Addr} {c : Nat} {xs : List (Int × Int)} {n : Nat} (h : Apart A A2) (ho : OwP w B A2 c xs) (hn : w.heap.size ≤ n) (hat : NewAt A' A n) : Apart A' A2 := by
  intro a b ha hb e
  subst ha hb
  have := (ho.lt b rfl).2
  rcases hat with h1 | h1
  · cases A with
    | none => simp at h1
    | some a1 => simp at h1; exact h a1 b rfl rfl (h1 ▸ e)
  · simp at h1
    omega

theorem start2 {w w1 : World} (h : Ext w w1) (o : Obj) : OwP ((w1.alloc o).alloc (.cells #[] 52)) w.heap.size (some ⟨w1.heap.size + 1, 0, none⟩) 0 [] := by
  have := OwP.lower (OwP.empty (w1.alloc o)) (B' := w.heap.size) (by have := h.size; simp; omega)
  simpa using this
theorem startAp {n : Nat} : Apart (some ⟨n, 0, none⟩) (some ⟨n + 1, 0, none⟩) := by
  intro a b ha hb
  injection ha with ha
  injection hb with hb
  subst ha hb
  simp
theorem box2' (w : World) (a b : Value) (t : TypeId) : (w.alloc (.cells #[a, b] t)).cell? ⟨w.heap.size, 0, none⟩ = some a ∧ (w.alloc (.cells #[a, b] t)).cell? ⟨w.heap.size, 1, none⟩ = some b := box2 w _ a b t rfl

/-- What SplitTempo leaves. -/
def RetPPB (w : World) (xs ys : List (Int × Int)) (b : Bool) (e : Ending) (w' : World) : Prop :=
  ∃ v0 v1 L0 U0 L1 U1, e = .returned (.tuple #[v0, v1, .bool b]) ∧ OwnP w' L0 U0 v0 xs ∧ OwnP w' L1 U1 v1 ys ∧ (w.heap.size ≤ L0 ∧ U0 ≤ w'.heap.size ∧ w.heap.size ≤ L1 ∧ U1 ≤ w'.heap.size ∧ (U0 ≤ L1 ∨ U1 ≤ L0)) ∧ Ext w w'
theorem own_at {w : World} {B : Nat} {A : Option Addr} {c : Nat} {xs : List (Int × Int)} (h : OwP w B A c xs) (hB : B ≤ w.heap.size) : ∃ L U, OwnP w L U (.slice A xs.length c) xs ∧ B ≤ L ∧ U ≤ w.heap.size ∧ (A = none → U ≤ B) ∧ (∀ a, A = some a → L = a.block ∧ U = a.block + 1) := by
  cases A with
  | none =>
    refine ⟨B, B, ⟨none, c, rfl, h, by simp, hB⟩, Nat.le_refl _, hB, fun _ => Nat.le_refl _, by simp⟩
  | some a =>
    have hl := h.lt a rfl
    refine ⟨a.block, a.block + 1, ⟨some a, c, rfl, ?_, ?_, by omega⟩, hl.1, by omega, by simp, ?_⟩
    · refine ⟨h.1, ?_⟩
      rcases h.2 with ⟨e, _⟩ | ⟨g, cap, cur, e, h3, h4⟩
      · simp at e
      · injection e with e1 e2 e3
        injection e1 with e1
        subst e1 e3
        exact Or.inr ⟨g, c, cur, rfl, Nat.le_refl _, h4⟩
    · intro a' ha
      injection ha with ha
      subst ha
      omega
    · intro a' ha
      injection ha with ha
      subst ha
      exact ⟨rfl, rfl⟩
theorem RetPPB.mk' {w w' : World} {A1 A2 : Option Addr} {c1 c2 : Nat} {xs ys : List (Int × Int)} {b : Bool} (h1 : OwP w' w.heap.size A1 c1 xs) (h2 : OwP w' w.heap.size A2 c2 ys) (hap : Apart A1 A2) (he : Ext w w') :
    RetPPB w xs ys b (.returned (.tuple #[.slice A1 xs.length c1, .slice A2 ys.length c2, .bool b])) w' := by
  obtain ⟨L0, U0, o1, a1, a2, a3, a4⟩ := own_at h1 he.size
  obtain ⟨L1, U1, o2, b1, b2, b3, b4⟩ := own_at h2 he.size
  refine ⟨_, _, L0, U0, L1, U1, rfl, o1, o2, ⟨a1, a2, b1, b2, ?_⟩, he⟩
  cases A1 with
  | none => have := a3 rfl; omega
  | some x =>
    cases A2 with
    | none => have := b3 rfl; omega
    | some y =>
      have h3 := hap x y rfl rfl
      have h4 := a4 x rfl
      have h5 := b4 y rfl
      omega

set_option maxHeartbeats 2000000 in
theorem spS_any (A : Option Addr) (c : Nat) (xs : List (Int × Int)) (d0 : Int) (w : World) (hr : RdP w A xs) (hn : xs.length ≤ 1048576) :
    Calls Try.prog 23 #[.slice A xs.length c, .int .i64 d0] w (RetPPB w (spF1 xs d0) (spF2 xs d0) (spB xs d0)) := by
  have CT := Lib.hid (tempoS_any A c xs w hr hn)
  have HR := Lib.hid hr
  by_cases hok : tempoB xs = true
  · have hps : Passes xs := (tempoB_iff hok).2
    obtain ⟨R, hR, CB⟩ : ∃ R, R = beatsF xs ∧ Hid (∀ w, RdP w A xs → Calls Try.prog _ #[.slice A xs.length c] w fun e w' => e = .returned (.int .i64 R) ∧ Ext w w') := ⟨_, rfl, fun w h => beatsS_any A c xs w h hn hps⟩
    have hRb := beatsF_bd hps
    rw [← hR] at hRb
    by_cases hp : inB d0 1 (R - 1) = true
    · have hp' := inB_iff.1 hp
      have HF := Lib.hid hps
      have e2 : spB xs d0 = true := by unfold spB; rw [hok, ← hR, hp]; rfl
      obtain ⟨Y1, hY1⟩ : ∃ Y, Y = splA xs d0 := ⟨_, rfl⟩
      obtain ⟨Y2, hY2⟩ : ∃ Y, Y = splB xs d0 := ⟨_, rfl⟩
      have e : spF1 xs d0 = Y1 := by unfold spF1; rw [if_pos e2, hY1]
      have e' : spF2 xs d0 = Y2 := by unfold spF2; rw [if_pos e2, hY2]
      rw [e, e', e2]
      rw [hok] at CT
      obtain ⟨m, hm⟩ : ∃ m, m = xs.length := ⟨_, rfl⟩
      rw [← hm] at CT CB hn ⊢
      have HM := Lib.hid hm
      have HY1 := Lib.hid hY1
      have HY2 := Lib.hid hY2
      rw [← hm] at hRb
      clear e e' e2 hr hok hps hm hY1 hY2 hR
      go_enter Try.func23, Try.ntmps23
      go_wp2_with fail
      refine CT.out.mono ?_
      rintro e w1 ⟨rfl, he⟩
      have HX1 := Lib.hid he
      clear he
      go_wp2_with fail
      refine (CB.out _ (HR.out.ext HX1.out)).mono ?_
      rintro e w2 ⟨rfl, he⟩
      have HX := Lib.hid (HX1.out.trans he)
      clear he
      go_wp2_with fail
      refine (l01In_any _ _ _ _).mono ?_
      rintro e w3 ⟨rfl, rfl⟩
      go_wp2_with fail
      go_loopw [1, 7, 8, 27] (fun l v1 v2 i wr => ∃ (k : Nat) (d : Int) (A1 : Option Addr) (c1 n1 : Nat) (z1 : List (Int × Int)) (A2 : Option Addr) (c2 n2 : Nat) (z2 : List (Int × Int)), k ≤ m ∧ i = .int .i64 k ∧ l = .int .i64 d ∧ v1 = .slice A1 n1 c1 ∧ v2 = .slice A2 n2 c2 ∧ 0 ≤ d ∧ d ≤ d0 ∧ n1 ≤ k ∧ n2 ≤ k ∧ Hid (z1.length = n1) ∧ Hid (z2.length = n2) ∧ Hid (z1 = splA (xs.take k) d0) ∧ Hid (z2 = splB (xs.take k) d0) ∧ Hid (d = leftF (xs.take k) d0) ∧ Hid (OwP wr w.heap.size A1 c1 z1) ∧ Hid (OwP wr w.heap.size A2 c2 z2) ∧ Hid (Apart A1 A2) ∧ Hid (Ext w wr)) (fun _ _ _ i _ => m - (intOf i).toNat)
      case atStart => exact ⟨0, d0, _, 0, 0, [], _, 0, 0, [], Nat.zero_le _, rfl, rfl, rfl, rfl, by omega, by omega, Nat.le_refl _, Nat.le_refl _, rfl, rfl, rfl, rfl, rfl, ((OwP.lower (OwP.empty _) HX.out.size).ext ((Ext.refl _).alloc _)), start2 HX.out _, startAp, (HX.out.alloc _).alloc _⟩
      case round =>
        obtain ⟨k, d, A1, c1, n1, z1, A2, c2, n2, z2, hk, rfl, rfl, rfl, rfl, hd0, hd1, hn1, hn2, HL1, HL2, HZ1, HZ2, HD, HO1, HO2, HAP, HE⟩ := hrel
        by_cases hlt : k < m
        · have hkx : k < xs.length := by rw [← HM.out]; exact hlt
          obtain ⟨b, o, hA, hc, hc2⟩ := (HR.out.ext HE.out).at_ k hkx
          subst hA
          obtain ⟨⟨x, y⟩, hx⟩ : ∃ x, x = xs.getD k (0, 0) := ⟨_, rfl⟩
          rw [← hx] at hc hc2
          simp only [] at hc hc2
          have hb := HF.out (x, y) (by rw [hx]; exact getD_mem _ _ _ hkx)
          simp only [] at hb
          have g1 := hb.1
          have HDN : Hid (d - min d x = leftF (xs.take (k + 1)) d0) := by rw [take_snocP xs k hkx, leftF_snoc, ← HD.out, ← hx]; exact rfl
          have HA := splA_snoc (xs.take k) (x, y) d0
          have HB := splB_snoc (xs.take k) (x, y) d0
          rw [hx, ← take_snocP xs k hkx, ← HD.out, ← HZ1.out, ← hx] at HA
          rw [hx, ← take_snocP xs k hkx, ← HD.out, ← HZ2.out, ← hx] at HB
          simp only [] at HA HB
          have HAH := Lib.hid HA
          have HBH := Lib.hid HB
          clear hx hkx hb HA HB HZ1 HZ2 HD
          by_cases hq1 : 0 < min d x
          · by_cases hq2 : min d x < x
            · go_wp2_with (at_builtin; refine app_pair w _ rfl _ _ rfl _ _ _ _ _ _ _ rfl rfl (by simp) HL1.out (HO1.out.ext ((Ext.refl _).alloc _)) (HE.out.alloc _) ?c2 ?c3)
              case c2 => omega
              intro A3 c3 w3 ho he hg hat
              have HO1' := Lib.hid ho
              have HE' := Lib.hid he
              have hsz : wr.heap.size + 1 < w3.heap.size := by have := hg.size; simp at this; omega
              have HO2' : Hid (OwP w3 w.heap.size A2 c2 z2) := ((HO2.out.ext ((Ext.refl _).alloc _)).ext ((Ext.refl _).alloc _)).other hg HAP.out
              have HAP' : Hid (Apart A3 A2) := HAP.out.step HO2.out (by first | omega | simp) hat
              have hb1 : w3.cell? ⟨wr.heap.size, 0, none⟩ = some (.int .i64 x) := hg.cell (Ext.cell ((Ext.refl _).alloc _) (box2' _ _ _ _).1) (fun e => by
                cases A1 with
                | none => simp at e
                | some a => simp at e; have := (HO1.out.lt a rfl).2; omega)
              have hb2 : w3.cell? ⟨wr.heap.size, 1, none⟩ = some (.int .i64 y) := hg.cell (Ext.cell ((Ext.refl _).alloc _) (box2' _ _ _ _).2) (fun e => by
                cases A1 with
                | none => simp at e
                | some a => simp at e; have := (HO1.out.lt a rfl).2; omega)
              clear ho he hg hat HO1 HO2 HAP hc hc2
              go_wp2_with (at_builtin; refine app_pair w _ rfl _ _ rfl _ _ _ _ _ _ _ rfl rfl (by simp) HL2.out HO2'.out HE'.out ?d2 ?d3)
              case d2 => omega
              intro A4 c4 w4 ho he hg hat
              have HO2'' := Lib.hid ho
              have HE'' := Lib.hid he
              have HO1'' : Hid (OwP w4 w.heap.size A3 c3 (z1 ++ [(min d x, y)])) := (HO1'.out.ext ((Ext.refl _).alloc _)).other hg HAP'.out.symm
              have HAP'' : Hid (Apart A3 A4) := (HAP'.out.symm.step HO1'.out (by first | omega | simp) hat).symm
              clear ho he hg hat HO1' HO2' HAP' hb1 hb2
              go_wp2
              go_roundw
              case rel => exact ⟨k + 1, d - min d x, A3, c3, n1 + 1, z1 ++ [(min d x, y)], A4, c4, n2 + 1, z2 ++ [(x - min d x, y)], by omega, by go_num, rfl, rfl, rfl, by omega, by omega, by omega, by omega, by have := HL1.out; simp [Hid]; omega, by have := HL2.out; simp [Hid]; omega, by rw [HAH.out, if_pos hq1]; exact rfl, by rw [HBH.out, if_pos hq2]; exact rfl, HDN, HO1'', HO2'', HAP'', HE''⟩
              case measure => simp [intOf]; omega
            · go_wp2_with (at_builtin; refine app_pair w _ rfl _ _ rfl _ _ _ _ _ _ _ rfl rfl (by simp) HL1.out (HO1.out.ext ((Ext.refl _).alloc _)) (HE.out.alloc _) ?e2 ?e3)
              case e2 => omega
              intro A3 c3 w3 ho he hg hat
              have HO1' := Lib.hid ho
              have HE' := Lib.hid he
              have HO2' : Hid (OwP w3 w.heap.size A2 c2 z2) := ((HO2.out.ext ((Ext.refl _).alloc _)).ext ((Ext.refl _).alloc _)).other hg HAP.out
              have HAP' : Hid (Apart A3 A2) := HAP.out.step HO2.out (by first | omega | simp) hat
              have hb1 : w3.cell? ⟨wr.heap.size, 0, none⟩ = some (.int .i64 x) := hg.cell (Ext.cell ((Ext.refl _).alloc _) (box2' _ _ _ _).1) (fun e => by
                cases A1 with
                | none => simp at e
                | some a => simp at e; have := (HO1.out.lt a rfl).2; omega)
              clear ho he hg hat HO1 HO2 HAP hc hc2
              go_wp2
              go_roundw
              case rel => exact ⟨k + 1, d - min d x, A3, c3, n1 + 1, z1 ++ [(min d x, y)], A2, c2, n2, z2, by omega, by go_num, rfl, rfl, rfl, by omega, by omega, by omega, by omega, by have := HL1.out; simp [Hid]; omega, HL2, by rw [HAH.out, if_pos hq1]; exact rfl, by rw [HBH.out, if_neg (by omega), List.append_nil]; exact rfl, HDN, HO1', HO2', HAP', HE'⟩
              case measure => simp [intOf]; omega
          · have hq2 : min d x < x := by omega
            go_wp2_with (at_builtin; refine app_pair w _ rfl _ _ rfl _ _ _ _ _ _ _ rfl rfl (by simp) HL2.out (HO2.out.ext ((Ext.refl _).alloc _)) (HE.out.alloc _) ?f2 ?f3)
            case f2 => omega
            intro A4 c4 w4 ho he hg hat
            have HO2'' := Lib.hid ho
            have HE'' := Lib.hid he
            have HO1'' : Hid (OwP w4 w.heap.size A1 c1 z1) := ((HO1.out.ext ((Ext.refl _).alloc _)).ext ((Ext.refl _).alloc _)).other hg HAP.out.symm
            have HAP'' : Hid (Apart A1 A4) := (HAP.out.symm.step HO1.out (by first | omega | simp) hat).symm
            clear ho he hg hat HO1 HO2 HAP hc hc2
            go_wp2
            go_roundw
            case rel => exact ⟨k + 1, d - min d x, A1, c1, n1, z1, A4, c4, n2 + 1, z2 ++ [(x - min d x, y)], by omega, by go_num, rfl, rfl, rfl, by omega, by omega, by omega, by omega, HL1, by have := HL2.out; simp [Hid]; omega, by rw [HAH.out, if_neg (by omega), List.append_nil]; exact rfl, by rw [HBH.out, if_pos hq2]; exact rfl, HDN, HO1'', HO2'', HAP'', HE''⟩
            case measure => simp [intOf]; omega
        · obtain rfl : k = m := by omega
          have e1 : Y1 = z1 := by rw [HY1.out, HZ1.out, take_allP xs k HM.out]
          have e2 : Y2 = z2 := by rw [HY2.out, HZ2.out, take_allP xs k HM.out]
          have HE1 := Lib.hid e1
          have HE2 := Lib.hid e2
          have HR1 := Lib.hid (RetPPB.mk' (b := true) HO1.out HO2.out HAP.out HE.out)
          rw [HL1.out, HL2.out] at HR1
          clear e1 e2
          go_wp2
          go_ret3
          rw [HE1.out, HE2.out]
          exact HR1.out
    · have hp : inB d0 1 (R - 1) = false := by simpa using hp
      have e2 : spB xs d0 = false := by unfold spB; rw [hok, ← hR, hp]; rfl
      have e : spF1 xs d0 = [] := by unfold spF1; rw [e2]; rfl
      have e' : spF2 xs d0 = [] := by unfold spF2; rw [e2]; rfl
      rw [e, e', e2]
      rw [hok] at CT
      obtain ⟨m, hm⟩ : ∃ m, m = xs.length := ⟨_, rfl⟩
      rw [← hm] at CT CB hn hRb ⊢
      clear e e' e2 hr hok hps hm hR
      go_enter Try.func23, Try.ntmps23
      go_wp2_with fail
      refine CT.out.mono ?_
      rintro e w1 ⟨rfl, he⟩
      have HX1 := Lib.hid he
      clear he
      go_wp2_with fail
      refine (CB.out _ (HR.out.ext HX1.out)).mono ?_
      rintro e w2 ⟨rfl, he⟩
      have HX := Lib.hid (HX1.out.trans he)
      clear he
      go_wp2_with fail
      refine (l01In_any _ _ _ _).mono ?_
      rintro e w3 ⟨rfl, rfl⟩
      go_wp2_with fail
      go_ret3
      exact RetPPB.mk' (xs := []) (ys := []) (OwP.nil _ _) (OwP.nil _ _) (fun a b h => by cases h) HX.out
  · have hok : tempoB xs = false := by simpa using hok
    have e2 : spB xs d0 = false := by unfold spB; rw [hok]; rfl
    have e : spF1 xs d0 = [] := by unfold spF1; rw [e2]; rfl
    have e' : spF2 xs d0 = [] := by unfold spF2; rw [e2]; rfl
    rw [e, e', e2]
    rw [hok] at CT
    obtain ⟨n, hnn⟩ : ∃ n, n = xs.length := ⟨_, rfl⟩
    rw [← hnn] at CT ⊢
    clear e e' e2 hr hn hok hnn
    go_enter Try.func23, Try.ntmps23
    go_wp2_with fail
    refine CT.out.mono ?_
    rintro e w1 ⟨rfl, he⟩
    have HX := Lib.hid he
    clear he
    go_wp2_with fail
    go_ret3
    exact RetPPB.mk' (xs := []) (ys := []) (OwP.nil _ _) (OwP.nil _ _) (fun a b h => by cases h) HX.out
set_option maxHeartbeats 2000000 in
theorem spI_any (A : Option Addr) (c : Nat) (xs : List (Int × Int)) (d0 : Int) (w : World) (hr : RdP w A xs) (hn : xs.length ≤ 1048576) :
    Calls Try.prog 24 #[.slice A xs.length c, .int .i64 d0] w (RetPPB w (spF1 xs d0) (spF2 xs d0) (spB xs d0)) := by
  have CT := Lib.hid (tempoI_any A c xs w hr hn)
  have HR := Lib.hid hr
  by_cases hok : tempoB xs = true
  · have hps : Passes xs := (tempoB_iff hok).2
    obtain ⟨R, hR, CB⟩ : ∃ R, R = beatsF xs ∧ Hid (∀ w, RdP w A xs → Calls Try.prog _ #[.slice A xs.length c] w fun e w' => e = .returned (.int .i64 R) ∧ Ext w w') := ⟨_, rfl, fun w h => beatsI_any A c xs w h hn hps⟩
    have hRb := beatsF_bd hps
    rw [← hR] at hRb
    by_cases hp : inB d0 1 (R - 1) = true
    · have hp' := inB_iff.1 hp
      have HF := Lib.hid hps
      have e2 : spB xs d0 = true := by unfold spB; rw [hok, ← hR, hp]; rfl
      obtain ⟨Y1, hY1⟩ : ∃ Y, Y = splA xs d0 := ⟨_, rfl⟩
      obtain ⟨Y2, hY2⟩ : ∃ Y, Y = splB xs d0 := ⟨_, rfl⟩
      have e : spF1 xs d0 = Y1 := by unfold spF1; rw [if_pos e2, hY1]
      have e' : spF2 xs d0 = Y2 := by unfold spF2; rw [if_pos e2, hY2]
      rw [e, e', e2]
      rw [hok] at CT
      obtain ⟨m, hm⟩ : ∃ m, m = xs.length := ⟨_, rfl⟩
      rw [← hm] at CT CB hn ⊢
      have HM := Lib.hid hm
      have HY1 := Lib.hid hY1
      have HY2 := Lib.hid hY2
      rw [← hm] at hRb
      clear e e' e2 hr hok hps hm hY1 hY2 hR
      go_enter Try.func24, Try.ntmps24
      go_wp2_with fail
      refine CT.out.mono ?_
      rintro e w1 ⟨rfl, he⟩
      have HX1 := Lib.hid he
      clear he
      go_wp2_with fail
      refine (CB.out _ (HR.out.ext HX1.out)).mono ?_
      rintro e w2 ⟨rfl, he⟩
      have HX := Lib.hid (HX1.out.trans he)
      clear he
      go_wp2_with fail
      refine (within_any _ _ _ _).mono ?_
      rintro e w3 ⟨rfl, rfl⟩
      go_wp2_with fail
      go_loopw [1, 7, 8, 25] (fun l v1 v2 i wr => ∃ (k : Nat) (d : Int) (A1 : Option Addr) (c1 n1 : Nat) (z1 : List (Int × Int)) (A2 : Option Addr) (c2 n2 : Nat) (z2 : List (Int × Int)), k ≤ m ∧ i = .int .i64 k ∧ l = .int .i64 d ∧ v1 = .slice A1 n1 c1 ∧ v2 = .slice A2 n2 c2 ∧ 0 ≤ d ∧ d ≤ d0 ∧ n1 ≤ k ∧ n2 ≤ k ∧ Hid (z1.length = n1) ∧ Hid (z2.length = n2) ∧ Hid (z1 = splA (xs.take k) d0) ∧ Hid (z2 = splB (xs.take k) d0) ∧ Hid (d = leftF (xs.take k) d0) ∧ Hid (OwP wr w.heap.size A1 c1 z1) ∧ Hid (OwP wr w.heap.size A2 c2 z2) ∧ Hid (Apart A1 A2) ∧ Hid (Ext w wr)) (fun _ _ _ i _ => m - (intOf i).toNat)
      case atStart => exact ⟨0, d0, none, 0, 0, [], none, 0, 0, [], Nat.zero_le _, rfl, rfl, rfl, rfl, by omega, by omega, Nat.le_refl _, Nat.le_refl _, rfl, rfl, rfl, rfl, rfl, OwP.nil _ _, OwP.nil _ _, (fun a b h => by cases h), HX.out⟩
      case round =>
        obtain ⟨k, d, A1, c1, n1, z1, A2, c2, n2, z2, hk, rfl, rfl, rfl, rfl, hd0, hd1, hn1, hn2, HL1, HL2, HZ1, HZ2, HD, HO1, HO2, HAP, HE⟩ := hrel
        by_cases hlt : k < m
        · have hkx : k < xs.length := by rw [← HM.out]; exact hlt
          obtain ⟨b, o, hA, hc, hc2⟩ := (HR.out.ext HE.out).at_ k hkx
          subst hA
          obtain ⟨⟨x, y⟩, hx⟩ : ∃ x, x = xs.getD k (0, 0) := ⟨_, rfl⟩
          rw [← hx] at hc hc2
          simp only [] at hc hc2
          have hb := HF.out (x, y) (by rw [hx]; exact getD_mem _ _ _ hkx)
          simp only [] at hb
          have g1 := hb.1
          have HDN : Hid (d - min d x = leftF (xs.take (k + 1)) d0) := by rw [take_snocP xs k hkx, leftF_snoc, ← HD.out, ← hx]; exact rfl
          have HA := splA_snoc (xs.take k) (x, y) d0
          have HB := splB_snoc (xs.take k) (x, y) d0
          rw [hx, ← take_snocP xs k hkx, ← HD.out, ← HZ1.out, ← hx] at HA
          rw [hx, ← take_snocP xs k hkx, ← HD.out, ← HZ2.out, ← hx] at HB
          simp only [] at HA HB
          have HAH := Lib.hid HA
          have HBH := Lib.hid HB
          clear hx hkx hb HA HB HZ1 HZ2 HD
          by_cases hq1 : 0 < min d x
          · by_cases hq2 : min d x < x
            · go_wp2_with (at_builtin; refine app_pair w _ rfl _ _ rfl _ _ _ _ _ _ _ rfl rfl (by simp) HL1.out (HO1.out.ext ((Ext.refl _).alloc _)) (HE.out.alloc _) ?c2 ?c3)
              case c2 => omega
              intro A3 c3 w3 ho he hg hat
              have HO1' := Lib.hid ho
              have HE' := Lib.hid he
              have hsz : wr.heap.size + 1 < w3.heap.size := by have := hg.size; simp at this; omega
              have HO2' : Hid (OwP w3 w.heap.size A2 c2 z2) := ((HO2.out.ext ((Ext.refl _).alloc _)).ext ((Ext.refl _).alloc _)).other hg HAP.out
              have HAP' : Hid (Apart A3 A2) := HAP.out.step HO2.out (by first | omega | simp) hat
              have hb1 : w3.cell? ⟨wr.heap.size, 0, none⟩ = some (.int .i64 x) := hg.cell (Ext.cell ((Ext.refl _).alloc _) (box2' _ _ _ _).1) (fun e => by
                cases A1 with
                | none => simp at e
                | some a => simp at e; have := (HO1.out.lt a rfl).2; omega)
              have hb2 : w3.cell? ⟨wr.heap.size, 1, none⟩ = some (.int .i64 y) := hg.cell (Ext.cell ((Ext.refl _).alloc _) (box2' _ _ _ _).2) (fun e => by
                cases A1 with
                | none => simp at e
                | some a => simp at e; have := (HO1.out.lt a rfl).2; omega)
              clear ho he hg hat HO1 HO2 HAP hc hc2
              go_wp2_with (at_builtin; refine app_pair w _ rfl _ _ rfl _ _ _ _ _ _ _ rfl rfl (by simp) HL2.out HO2'.out HE'.out ?d2 ?d3)
              case d2 => omega
              intro A4 c4 w4 ho he hg hat
              have HO2'' := Lib.hid ho
              have HE'' := Lib.hid he
              have HO1'' : Hid (OwP w4 w.heap.size A3 c3 (z1 ++ [(min d x, y)])) := (HO1'.out.ext ((Ext.refl _).alloc _)).other hg HAP'.out.symm
              have HAP'' : Hid (Apart A3 A4) := (HAP'.out.symm.step HO1'.out (by first | omega | simp) hat).symm
              clear ho he hg hat HO1' HO2' HAP' hb1 hb2
              go_wp2
              go_roundw
              case rel => exact ⟨k + 1, d - min d x, A3, c3, n1 + 1, z1 ++ [(min d x, y)], A4, c4, n2 + 1, z2 ++ [(x - min d x, y)], by omega, by go_num, rfl, rfl, rfl, by omega, by omega, by omega, by omega, by have := HL1.out; simp [Hid]; omega, by have := HL2.out; simp [Hid]; omega, by rw [HAH.out, if_pos hq1]; exact rfl, by rw [HBH.out, if_pos hq2]; exact rfl, HDN, HO1'', HO2'', HAP'', HE''⟩
              case measure => simp [intOf]; omega
            · go_wp2_with (at_builtin; refine app_pair w _ rfl _ _ rfl _ _ _ _ _ _ _ rfl rfl (by simp) HL1.out (HO1.out.ext ((Ext.refl _).alloc _)) (HE.out.alloc _) ?e2 ?e3)
              case e2 => omega
              intro A3 c3 w3 ho he hg hat
              have HO1' := Lib.hid ho
              have HE' := Lib.hid he
              have HO2' : Hid (OwP w3 w.heap.size A2 c2 z2) := ((HO2.out.ext ((Ext.refl _).alloc _)).ext ((Ext.refl _).alloc _)).other hg HAP.out
              have HAP' : Hid (Apart A3 A2) := HAP.out.step HO2.out (by first | omega | simp) hat
              have hb1 : w3.cell? ⟨wr.heap.size, 0, none⟩ = some (.int .i64 x) := hg.cell (Ext.cell ((Ext.refl _).alloc _) (box2' _ _ _ _).1) (fun e => by
                cases A1 with
                | none => simp at e
                | some a => simp at e; have := (HO1.out.lt a rfl).2; omega)
              clear ho he hg hat HO1 HO2 HAP hc hc2
              go_wp2
              go_roundw
              case rel => exact ⟨k + 1, d - min d x, A3, c3, n1 + 1, z1 ++ [(min d x, y)], A2, c2, n2, z2, by omega, by go_num, rfl, rfl, rfl, by omega, by omega, by omega, by omega, by have := HL1.out; simp [Hid]; omega, HL2, by rw [HAH.out, if_pos hq1]; exact rfl, by rw [HBH.out, if_neg (by omega), List.append_nil]; exact rfl, HDN, HO1', HO2', HAP', HE'⟩
              case measure => simp [intOf]; omega
          · have hq2 : min d x < x := by omega
            go_wp2_with (at_builtin; refine app_pair w _ rfl _ _ rfl _ _ _ _ _ _ _ rfl rfl (by simp) HL2.out (HO2.out.ext ((Ext.refl _).alloc _)) (HE.out.alloc _) ?f2 ?f3)
            case f2 => omega
            intro A4 c4 w4 ho he hg hat
            have HO2'' := Lib.hid ho
            have HE'' := Lib.hid he
            have HO1'' : Hid (OwP w4 w.heap.size A1 c1 z1) := ((HO1.out.ext ((Ext.refl _).alloc _)).ext ((Ext.refl _).alloc _)).other hg HAP.out.symm
            have HAP'' : Hid (Apart A1 A4) := (HAP.out.symm.step HO1.out (by first | omega | simp) hat).symm
            clear ho he hg hat HO1 HO2 HAP hc hc2
            go_wp2
            go_roundw
            case rel => exact ⟨k + 1, d - min d x, A1, c1, n1, z1, A4, c4, n2 + 1, z2 ++ [(x - min d x, y)], by omega, by go_num, rfl, rfl, rfl, by omega, by omega, by omega, by omega, HL1, by have := HL2.out; simp [Hid]; omega, by rw [HAH.out, if_neg (by omega), List.append_nil]; exact rfl, by rw [HBH.out, if_pos hq2]; exact rfl, HDN, HO1'', HO2'', HAP'', HE''⟩
            case measure => simp [intOf]; omega
        · obtain rfl : k = m := by omega
          have e1 : Y1 = z1 := by rw [HY1.out, HZ1.out, take_allP xs k HM.out]
          have e2 : Y2 = z2 := by rw [HY2.out, HZ2.out, take_allP xs k HM.out]
          have HE1 := Lib.hid e1
          have HE2 := Lib.hid e2
          have HR1 := Lib.hid (RetPPB.mk' (b := true) HO1.out HO2.out HAP.out HE.out)
          rw [HL1.out, HL2.out] at HR1
          clear e1 e2
          go_wp2
          go_ret3
          rw [HE1.out, HE2.out]
          exact HR1.out
    · have hp : inB d0 1 (R - 1) = false := by simpa using hp
      have e2 : spB xs d0 = false := by unfold spB; rw [hok, ← hR, hp]; rfl
      have e : spF1 xs d0 = [] := by unfold spF1; rw [e2]; rfl
      have e' : spF2 xs d0 = [] := by unfold spF2; rw [e2]; rfl
      rw [e, e', e2]
      rw [hok] at CT
      obtain ⟨m, hm⟩ : ∃ m, m = xs.length := ⟨_, rfl⟩
      rw [← hm] at CT CB hn hRb ⊢
      clear e e' e2 hr hok hps hm hR
      go_enter Try.func24, Try.ntmps24
      go_wp2_with fail
      refine CT.out.mono ?_
      rintro e w1 ⟨rfl, he⟩
      have HX1 := Lib.hid he
      clear he
      go_wp2_with fail
      refine (CB.out _ (HR.out.ext HX1.out)).mono ?_
      rintro e w2 ⟨rfl, he⟩
      have HX := Lib.hid (HX1.out.trans he)
      clear he
      go_wp2_with fail
      refine (within_any _ _ _ _).mono ?_
      rintro e w3 ⟨rfl, rfl⟩
      go_wp2_with fail
      go_ret3
      exact RetPPB.mk' (xs := []) (ys := []) (OwP.nil _ _) (OwP.nil _ _) (fun a b h => by cases h) HX.out
  · have hok : tempoB xs = false := by simpa using hok
    have e2 : spB xs d0 = false := by unfold spB; rw [hok]; rfl
    have e : spF1 xs d0 = [] := by unfold spF1; rw [e2]; rfl
    have e' : spF2 xs d0 = [] := by unfold spF2; rw [e2]; rfl
    rw [e, e', e2]
    rw [hok] at CT
    obtain ⟨n, hnn⟩ : ∃ n, n = xs.length := ⟨_, rfl⟩
    rw [← hnn] at CT ⊢
    clear e e' e2 hr hn hok hnn
    go_enter Try.func24, Try.ntmps24
    go_wp2_with fail
    refine CT.out.mono ?_
    rintro e w1 ⟨rfl, he⟩
    have HX := Lib.hid he
    clear he
    go_wp2_with fail
    go_ret3
    exact RetPPB.mk' (xs := []) (ys := []) (OwP.nil _ _) (OwP.nil _ _) (fun a b h => by cases h) HX.out
end Go.Proofs.Ytoobffhchbgkjaa
