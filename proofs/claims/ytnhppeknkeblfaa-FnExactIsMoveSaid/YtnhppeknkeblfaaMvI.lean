/- Contracts of has, slices.Reverse, moves. -/
import Derived.Test.YtnhppeknkeblfaaMv
import Derived.Test.YtnhppeknkeblfaaAtG
import Derived.Test.YtnhppeknkeblfaaSlContains
import Derived.Test.YtnhppeknkeblfaaMod
import Derived.Test.YtnhppeknkeblfaaColl
import Derived.Test.YtnhppeknkeblfaaMapI
import Derived.Test.YtnhppeknkeblfaaRS
import Derived.Deep.AppendLies
namespace Go.Proofs.Ytnhppeknkeblfaa
open Go.RowKit Go.Sort

/-- An element of a row of the call's own is stored. -/
theorem OwI.set {w : World} {L c : Nat} {A : Option Addr} {xs : List Int} (h : OwI w L A c xs) (k : Nat) (hk : k < xs.length) (v : Int) :
    ∃ g, A = some ⟨g, 0, none⟩ ∧ L ≤ g ∧ w.frozen? ⟨g, k, none⟩ = false ∧ w.cell? ⟨g, k, none⟩ = some (.int .i64 (xs.getD k 0)) ∧ OwI (w.setCell ⟨g, k, none⟩ (.int .i64 v)) L A c (xs.set k v) := by
  obtain ⟨g, hA, hLg⟩ : ∃ g, A = some ⟨g, 0, none⟩ ∧ L ≤ g := by
    rcases h.2 with ⟨e1, e2⟩ | ⟨g, cap, cur, e1, hb, _⟩
    · omega
    · injection e1 with e1 _ _
      exact ⟨g, e1, hb⟩
  subst hA
  refine ⟨g, rfl, hLg, World.ownsRow.frozenAt h k, ?_, ?_⟩
  · obtain ⟨b, o, e, hc⟩ := h.rd.at_ k hk
    rw [World.ownsRow.cellAt h k (by simpa using hk)]
    simp [List.getD, hk]
  · have h1 := (World.ownsRow.stored h k (.int .i64 v)).1
    unfold OwI
    rw [List.length_set, List.map_set]
    exact h1

set_option maxHeartbeats 1000000 in
theorem rhas_any (n : Nat) (A : Option Addr) (c : Nat) (xs : List Int) (k : Int) (w : World) (hr : RdI w A xs) (hn : 1 ≤ n ∧ n ≤ 24) (hl : xs.length ≤ 24) (hk : -1000 ≤ k ∧ k ≤ 1000) :
    Calls Try.prog 56 #[.agg #[.int .i64 n, .slice A xs.length c], .int .i64 k] w fun e w' => e = .returned (.bool (xs.contains (k % (n : Int)))) ∧ Ext w w' := by
  obtain ⟨l, hll⟩ : ∃ l, l = xs.length := ⟨_, rfl⟩
  obtain ⟨W, hW⟩ : ∃ W, W = w.alloc (.cells #[.int .i64 n, .slice A l c] 27) := ⟨_, rfl⟩
  obtain ⟨r, hrr⟩ : ∃ r, r = k % (n : Int) := ⟨_, rfl⟩
  obtain ⟨R, hR⟩ : ∃ R, R = xs.contains r := ⟨_, rfl⟩
  have HX0 : Hid (Ext w W) := by rw [hW]; exact (Ext.refl w).alloc _
  have HG0 : Hid (Bx2 W w.heap.size 27 (.int .i64 n) (.slice A l c)) := by rw [hW]; exact Bx2.new w _ _ _
  have CM : Hid (∀ V : World, Calls Try.prog 46 #[.int .i64 k, .int .i64 n] V fun e w' => e = .returned (.int .i64 r) ∧ ∃ q, w' = V.drewN q) := fun V => by
    rw [hrr]
    exact modI_any _ _ V (by omega) (by omega)
  have CC : Hid (∀ V : World, Ext w V → Calls Try.prog 65 #[.slice A l c, .int .i64 r] V fun e w' => e = .returned (.bool R) ∧ V = w') := fun V he => by
    have := slContains_any A c xs r V (hr.ext he) (by omega)
    rw [hll, hR, List.contains_eq_mem]
    exact this
  rw [← hll, ← hrr, ← hR]
  have HW := Lib.hid hW
  clear hll hrr hR hW hr hl
  go_enter Try.func56, Try.ntmps56
  go_wp2_with fail
  rw [← HW.out]
  obtain ⟨q0, q1, p0, p1⟩ := HG0.out.cells
  go_wp2_with fail
  go_quiet ((first | (go_at_call 46; exact quiet_draws (CM.out _)) | (go_at_call 65; exact quiet_same (CC.out _ (HX0.out.drewN _)))))
  go_wp2_with fail
  go_ret
  exact ⟨rfl, by first | exact HX0.out.drewN _ | exact HX0.out⟩

theorem rev_own (L : Nat) (A : Option Addr) (c : Nat) (xs : List Int) (w : World) (ho : OwI w L A c xs) (hn : xs.length ≤ 1048576) :
    Calls Try.prog 61 #[.slice A xs.length c] w fun e w' => e = .returned (.tuple #[]) ∧ OwI w' L A c xs.reverse ∧ w.grownBy w' (A.map (·.block)) := by
  cases A with
  | none =>
    obtain rfl := own_nil ho
    refine (Try.slices_Reverse_int_empty none c w).mono ?_
    rintro e w' ⟨rfl, rfl⟩
    exact ⟨rfl, ho, World.grownBy.refl _ _⟩
  | some ad =>
    obtain ⟨g, cap, e, hbg, hgl, hnc, hcm, hl, hH⟩ := Lib.holds_of_ownsRow (enc := Value.int .i64) ho (by simp)
    injection e with e1 _ e3
    injection e1 with e1
    subst e1 e3
    refine (Try.slices_Reverse_int g 0 c xs w hH (by omega)).mono ?_
    rintro e w' ⟨rfl, q, rfl⟩
    have h1 := Lib.ownsRow_putRow (enc := Value.int .i64) (q := q) (k := xs.length) (ys := xs.reverse) ho (by simp) (Nat.le_refl _)
    rw [List.take_of_length_le (by simp)] at h1
    refine ⟨rfl, ?_, grownBy_put _⟩
    unfold OwI
    rw [List.length_reverse]
    exact h1

def rsM (n : Int) (zss : List (List Int)) : List (Int × List Int) := zss.map fun z => (n, z)
/-- What a row of rhythms of one size holds. -/
theorem row_atM {w : World} {L : Nat} {A : Option Addr} {c : Nat} {n : Int} {es : List (Int × Option Addr × Nat × List Int)} {zss : List (List Int)} (ho : OwQ w L A c es) (hi : InQ w L es) (hz : es.map (fun x : Int × Option Addr × Nat × List Int => (x.1, x.2.2.2)) = rsM n zss) :
    es.length = zss.length ∧ ∀ V : World, Ext w V → ∀ j, j < zss.length → ∃ b o D d, A = some ⟨b, o, none⟩ ∧ V.cell? ⟨b, o + j * 2, none⟩ = some (.int .i64 n) ∧ V.cell? ⟨b, o + j * 2 + 1, none⟩ = some (.slice D (zss.getD j []).length d) ∧ RdI V D (zss.getD j []) := by
  have hl : es.length = zss.length := by
    have := congrArg List.length hz
    unfold rsM at this
    simpa using this
  refine ⟨hl, fun V he j hj => ?_⟩
  have hje : j < es.length := by omega
  have e1 : (es[j].1, es[j].2.2.2) = (n, zss.getD j []) := by
    have h1 : (es.map (fun x : Int × Option Addr × Nat × List Int => (x.1, x.2.2.2)))[j]? = (rsM n zss)[j]? := by rw [hz]
    unfold rsM at h1
    rw [List.getElem?_map, List.getElem?_map, List.getElem?_eq_getElem hje, List.getElem?_eq_getElem hj] at h1
    injection h1 with h1
    have h2 : zss.getD j [] = zss[j] := by simp [List.getD, hj]
    rw [h2]
    exact h1
  injection e1 with e1 e2
  obtain ⟨b, o, hA, h1, h2⟩ := (ho.ext he).at_ j hje
  refine ⟨b, o, es[j].2.1, es[j].2.2.1, hA, by rw [h1, e1], by rw [h2, e2], ?_⟩
  rw [← e2]
  exact ((hi es[j] (List.getElem_mem hje)).ext he).rd
theorem getD_memM {zss : List (List Int)} {j : Nat} (h : j < zss.length) : zss.getD j [] ∈ zss := by simp [List.getD, h]
/-- What 'moves' answers. -/
def RetMv (w : World) (n : Int) (S : List (List Int)) (e : Ending) (w' : World) : Prop :=
  ∃ A c es zss, e = .returned (.slice A es.length c) ∧ es.map (fun x : Int × Option Addr × Nat × List Int => (x.1, x.2.2.2)) = rsM n zss ∧ OwQ w' w.heap.size A c es ∧ InQ w' w.heap.size es ∧ zss.length ≤ 48 ∧ (∀ z, z ∈ zss ↔ z ∈ S) ∧ Ext w w'

def dI (i : Nat) : Int := if i = 0 then 1 else -1
def mvP (n : Nat) (xs : List Int) (j : Nat) : Nat → List (List Int)
  | 0 => mvL n xs j
  | s + 1 => mvP n xs j s ++ mv1 n xs j (dI s)
theorem mvP_two (n : Nat) (xs : List Int) (j : Nat) : mvP n xs j 2 = mvL n xs (j + 1) := rfl
theorem mvP_len (n : Nat) (xs : List Int) (j s : Nat) : (mvP n xs j s).length ≤ 2 * j + s := by
  induction s with
  | zero => exact mvL_len n xs j
  | succ s ih =>
    rw [mvP, List.length_append]
    have := mv1_len n xs j (dI s)
    omega
def cdL (n : Nat) (S : List (List Int)) : List Int := S.map fun z => (codeN n z : Int)
theorem cdL_app (n : Nat) (S T : List (List Int)) : cdL n (S ++ T) = cdL n S ++ cdL n T := by simp [cdL]
theorem cdL_len (n : Nat) (S : List (List Int)) : (cdL n S).length = S.length := by simp [cdL]
theorem code_lt {n : Nat} (z : List Int) (hn : n ≤ 24) : codeN n z < 16777216 := Nat.lt_of_lt_of_le (codeH_bd (inL z) n) (Nat.pow_le_pow_right (n := 2) (by decide) hn)
/-- 'out = append(out, v)' of ints, and where the row lies behind it. -/
theorem app_int_l {ops : Array Oper} {rest : List Oper} {o : Oper} {a : Act} {Q : Exit → Act → World → Prop} (wb w0 : World) (hgd : o.guard = none) (s x : Operand)
    (ho : o.op = .call { callee := .builtin .append, args := #[s, x], argTypes := #[22, 22] })
    (A : Option Addr) (c n : Nat) (xs : List Int) (v : Int) (g : Nat) (hs : a.eval s = .slice A n c) (hx : a.eval x = .slice (some ⟨g, 0, none⟩) 1 1) (hgg : w0.heap.size = g)
    (hl : xs.length = n) (hown : OwI w0 wb.heap.size A c xs) (he : Ext wb w0) (hn : n < 1099511627776)
    (h : ∀ g' c' w', OwI w' wb.heap.size (some ⟨g', 0, none⟩) c' (xs ++ [v]) → Ext wb w' → w0.grownBy w' (A.map (·.block)) → (A.map (·.block) = some g' ∨ g' = g + 1) → wpList Try.prog ops Q rest (a.put o.dst (.slice (some ⟨g', 0, none⟩) (n + 1) c')) w') :
    wpList Try.prog ops Q (o :: rest) a (w0.alloc (.cells #[.int .i64 v] 3)) := by
  subst hl
  subst hgg
  obtain ⟨i0, hi, hz0, hz1, hz2⟩ := info_parts info_int
  refine wpList_append_lies _ hgd s x 22 ho wb.heap.size 3 i0 (.int .i64 0) 1 8 Try.underlying22 hi hz0 hz1 hz2 rfl (by decide) _ xs.length (xs.map (Value.int .i64)) hs (World.ownsRow.alloc hown _)
    ⟨w0.heap.size, 0, none⟩ 1 1 [.int .i64 v] hx rfl (cell_one_new _ _ _) (by simp [Value.oneCell']) (by decide) (by simp only [maxLen]; omega) (by omega) (by simp; exact Nat.le_succ_of_le he.size) (w0.heap.size + 1) (by simp) ?_
  intro g' cap w' hown' hg hat _
  have hl' : (xs ++ [v]).length = xs.length + 1 := by simp
  have ho' : OwI w' wb.heap.size (some ⟨g', 0, none⟩) cap (xs ++ [v]) := by
    unfold OwI
    rw [hl', List.map_append]
    exact hown'
  have e0 : (Value.slice A xs.length c).ownBlock = A.map (·.block) := by cases A <;> rfl
  rw [e0] at hg hat
  have hg0 : w0.grownBy w' (A.map (·.block)) := ⟨hg.os, hg.tape, hg.output, Nat.le_trans (((Ext.refl w0).alloc _).size) hg.size, fun i hi hne => (hg.block i (Nat.lt_of_lt_of_le hi ((Ext.refl w0).alloc _).size) hne).trans (((Ext.refl w0).alloc _).block i hi)⟩
  exact h g' cap w' ho' (Ext.grown (he.alloc _) hg (fun k hk => (World.ownsRow.lt hown k (by rw [e0]; exact hk)).1)) hg0 hat
end Go.Proofs.Ytnhppeknkeblfaa
