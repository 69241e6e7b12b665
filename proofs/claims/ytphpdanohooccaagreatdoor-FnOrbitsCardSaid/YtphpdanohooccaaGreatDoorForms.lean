/- Slices of rhythms; contract of formsOf. -/
import Derived.Test.YtphpdanohooccaaGreatDoorForm
import Derived.Deep.AppendLies
import Derived.Deep.RegionHeld3
namespace Go.Proofs.YtphpdanohooccaaGreatDoor
open Go.RowKit

theorem info_rhy : (Tryz.prog.info? 25).map (fun i => (i.zero, i.size, i.bytes)) = some (some (.agg #[.int .i64 0, .slice none 0 0]), 2, 32) := by kernel_rfl
/-- The cells of a row of rhythms of size n. -/
def rowR (n : Int) (es : List (Option Addr × Nat × List Int)) : List Value := es.flatMap fun e => [.int .i64 n, .slice e.1 e.2.2.length e.2.1]
theorem rowR_len (n : Int) (es : List (Option Addr × Nat × List Int)) : (rowR n es).length = es.length * 2 := by
  induction es with
  | nil => rfl
  | cons e es ih => simp only [rowR, List.flatMap_cons, List.length_append, List.length_cons, List.length_nil] at *; omega
theorem rowR_app (n : Int) (es fs : List (Option Addr × Nat × List Int)) : rowR n (es ++ fs) = rowR n es ++ rowR n fs := by simp [rowR]
theorem rowR_get (n : Int) : ∀ (es : List (Option Addr × Nat × List Int)) (k : Nat) (h : k < es.length), (rowR n es)[k * 2]? = some (.int .i64 n) ∧ (rowR n es)[k * 2 + 1]? = some (.slice es[k].1 es[k].2.2.length es[k].2.1)
  | e :: es, 0, _ => by simp [rowR]
  | e :: es, k + 1, h => by
    have := rowR_get n es k (by simpa using h)
    have e1 : rowR n (e :: es) = .int .i64 n :: .slice e.1 e.2.2.length e.2.1 :: rowR n es := rfl
    rw [e1, show (k + 1) * 2 = k * 2 + 1 + 1 by omega]
    simpa using this
theorem rowR_one (n : Int) (es : List (Option Addr × Nat × List Int)) : ∀ u ∈ rowR n es, u.oneCell' = true := by
  intro u hu
  unfold rowR at hu
  simp only [List.mem_flatMap, List.mem_cons, List.not_mem_nil, or_false] at hu
  obtain ⟨e, _, rfl | rfl⟩ := hu <;> rfl
def OwE (w : World) (L : Nat) (A : Option Addr) (c : Nat) (n : Int) (es : List (Option Addr × Nat × List Int)) : Prop := w.ownsRow L 25 2 (.slice A es.length c) es.length (rowR n es)
def InE (w : World) (L : Nat) (es : List (Option Addr × Nat × List Int)) : Prop := ∀ e ∈ es, OwI w L e.1 e.2.1 e.2.2
theorem OwE.ext {w w' : World} {L : Nat} {A : Option Addr} {c : Nat} {n : Int} {es : List (Option Addr × Nat × List Int)} (h : OwE w L A c n es) (he : Ext w w') : OwE w' L A c n es := h.kept (he.grownBy none) (by cases A <;> simp [Value.ownBlock])
theorem InE.ext {w w' : World} {L : Nat} {es : List (Option Addr × Nat × List Int)} (h : InE w L es) (he : Ext w w') : InE w' L es := fun e h1 => (h e h1).ext he
theorem OwE.rd {w : World} {L : Nat} {A : Option Addr} {c : Nat} {n : Int} {es : List (Option Addr × Nat × List Int)} (h : OwE w L A c n es) : Rd w 2 A es.length (rowR n es) := Rd.of_own h
theorem OwE.at_ {w : World} {L : Nat} {A : Option Addr} {c : Nat} {n : Int} {es : List (Option Addr × Nat × List Int)} (h : OwE w L A c n es) (k : Nat) (hk : k < es.length) :
    ∃ b o, A = some ⟨b, o, none⟩ ∧ w.cell? ⟨b, o + k * 2, none⟩ = some (.int .i64 n) ∧ w.cell? ⟨b, o + k * 2 + 1, none⟩ = some (.slice es[k].1 es[k].2.2.length es[k].2.1) := by
  obtain ⟨b, o, e, hc⟩ := h.rd.2 (by omega)
  obtain ⟨h1, h2⟩ := rowR_get n es k hk
  exact ⟨b, o, e, hc _ _ h1, hc _ _ h2⟩
/-- A row of rhythms is no row of ints. -/
theorem OwE.ne {w : World} {L L' : Nat} {A B : Option Addr} {c d : Nat} {n : Int} {es : List (Option Addr × Nat × List Int)} {xs : List Int} (h : OwE w L A c n es) (h2 : OwI w L' B d xs) : ∀ a, B = some a → A.map (·.block) ≠ some a.block := by
  rintro a rfl he
  cases A with
  | none => simp at he
  | some ad =>
    simp at he
    rcases h.2 with ⟨e, _⟩ | ⟨g, cap, cur, e, _, hg, _⟩
    · cases e
    rcases h2.2 with ⟨e2, _⟩ | ⟨g2, cap2, cur2, e2, _, hg2, _⟩
    · cases e2
    injection e with e _ _
    injection e with e
    injection e2 with e2 _ _
    injection e2 with e2
    subst e e2
    simp only at he
    subst he
    rw [hg] at hg2
    injection hg2 with hg2
    injection hg2 with _ hg2 _
    exact absurd hg2 (by decide)
theorem OwE.lower {w : World} {L L' : Nat} {A : Option Addr} {c : Nat} {n : Int} {es : List (Option Addr × Nat × List Int)} (h : OwE w L A c n es) (hL : L' ≤ L) : OwE w L' A c n es := by
  unfold OwE at h ⊢
  exact ⟨h.1, h.2.imp (fun h => h) fun ⟨g, cap, cur, e, hb, h⟩ => ⟨g, cap, cur, e, Nat.le_trans hL hb, h⟩⟩
theorem OwE.lt {w : World} {L : Nat} {A : Option Addr} {c : Nat} {n : Int} {es : List (Option Addr × Nat × List Int)} (h : OwE w L A c n es) : ∀ a, A = some a → L ≤ a.block ∧ a.block < w.heap.size := by
  rintro a rfl
  exact World.ownsRow.lt h a.block rfl

/-- 'out = append(out, a, b)' of rhythms, as a step of a region that draws its order. -/
theorem step_two {ops : Array Oper} {o : Oper} {a : Act} {K : Act → World → Prop} {Q : Exit → Act → World → Prop} {E : Prop} (wb w0 : World) (hgd : o.guard = none) (s x : Operand)
    (ho : o.op = .call { callee := .builtin .append, args := #[s, x], argTypes := #[32, 32] })
    (A : Option Addr) (c m : Nat) (n : Int) (es : List (Option Addr × Nat × List Int)) (e1 e2 : Option Addr × Nat × List Int) (g : Nat) (hs : a.eval s = .slice A m c) (hx : a.eval x = .slice (some ⟨g, 0, none⟩) 2 2) (hgg : w0.heap.size = g)
    (hl : es.length = m) (hown : OwE w0 wb.heap.size A c n es) (hin : InE w0 wb.heap.size es) (i1 : OwI w0 wb.heap.size e1.1 e1.2.1 e1.2.2) (i2 : OwI w0 wb.heap.size e2.1 e2.2.1 e2.2.2) (he : Ext wb w0) (hn : m < 1000000)
    (h : ∀ A' c' w', OwE w' wb.heap.size A' c' n (es ++ [e1, e2]) → InE w' wb.heap.size (es ++ [e1, e2]) → Ext wb w' → K (a.put o.dst (.slice A' (m + 2) c')) w') :
    if Region.wanted o (yielded ops a.tmps) = true then Oper.wp Tryz.prog o a (w0.alloc (.cells #[.int .i64 n, .slice e1.1 e1.2.2.length e1.2.1, .int .i64 n, .slice e2.1 e2.2.2.length e2.2.1] 25)) K Q else E := by
  subst hl
  subst hgg
  obtain ⟨i0, hi, hz0, hz1, hz2⟩ := info_parts info_rhy
  refine step_append_lies _ hgd s x 32 ho wb.heap.size 25 i0 (.agg #[.int .i64 0, .slice none 0 0]) 2 32 Tryz.underlying32 hi hz0 hz1 hz2 rfl (by decide) _ es.length (rowR n es) hs (World.ownsRow.alloc hown _)
    ⟨w0.heap.size, 0, none⟩ 2 2 (rowR n [e1, e2]) hx (by rw [rowR_len]; rfl) (World.news_of_block (heap_alloc_new w0 _)) (rowR_one _ _) (by omega) (by simp only [maxLen]; omega) (by omega) (by simp; exact Nat.le_succ_of_le he.size) _ rfl ?_
  intro g cap w' hown' hg _ _
  have hl' : (es ++ [e1, e2]).length = es.length + 2 := by simp
  have e0 : (Value.slice A es.length c).ownBlock = A.map (·.block) := by cases A <;> rfl
  rw [e0] at hg
  have ho' : OwE w' wb.heap.size (some ⟨g, 0, none⟩) cap n (es ++ [e1, e2]) := by
    unfold OwE
    rw [hl', rowR_app]
    exact hown'
  have hx0 : Ext w0 (w0.alloc (.cells #[.int .i64 n, .slice e1.1 e1.2.2.length e1.2.1, .int .i64 n, .slice e2.1 e2.2.2.length e2.2.1] 25)) := (Ext.refl w0).alloc _
  have hk : ∀ e : Option Addr × Nat × List Int, OwI w0 wb.heap.size e.1 e.2.1 e.2.2 → OwI w' wb.heap.size e.1 e.2.1 e.2.2 := fun (e : Option Addr × Nat × List Int) he' => (he'.ext hx0).grown hg (fun ad had => (hown.ext hx0).ne (he'.ext hx0) ad had)
  refine h _ cap w' ho' ?_ (Ext.grown (he.trans hx0) hg (fun k hk => (World.ownsRow.lt hown k (by rw [e0]; exact hk)).1))
  intro e hmem
  rw [List.mem_append] at hmem
  rcases hmem with hmem | hmem
  · exact hk e (hin e hmem)
  · simp only [List.mem_cons, List.not_mem_nil, or_false] at hmem
    rcases hmem with rfl | rfl
    · exact hk _ i1
    · exact hk _ i2

/-- The rotations of a rhythm and of its mirror, by turns. -/
def fmL (n : Nat) (xs : List Int) : Nat → List (List Int)
  | 0 => []
  | k + 1 => fmL n xs k ++ [rotL n xs k, rotL n (mirL n xs) k]
theorem fmL_len (n : Nat) (xs : List Int) : ∀ k, (fmL n xs k).length = 2 * k
  | 0 => rfl
  | k + 1 => by rw [fmL, List.length_append, fmL_len n xs k]; simp; omega
theorem fmL_rhy {n : Nat} {xs : List Int} (h1 : 1 ≤ n) (h2 : n ≤ 24) : ∀ k, ∀ z ∈ fmL n xs k, rhyB n z = true
  | 0 => by simp [fmL]
  | k + 1 => by
    intro z hz
    rw [fmL, List.mem_append] at hz
    rcases hz with hz | hz
    · exact fmL_rhy h1 h2 k z hz
    · simp only [List.mem_cons, List.not_mem_nil, or_false] at hz
      rcases hz with rfl | rfl <;> exact mapF_rhy h1 h2

/-- What formsOf answers. -/
def RetE (w : World) (n : Int) (zss : List (List Int)) (e : Ending) (w' : World) : Prop := ∃ A c es, e = .returned (.slice A es.length c) ∧ es.map (fun x : Option Addr × Nat × List Int => x.2.2) = zss ∧ OwE w' w.heap.size A c n es ∧ InE w' w.heap.size es ∧ Ext w w'

set_option maxRecDepth 20000 in
set_option maxHeartbeats 8000000 in
theorem forms_any (n : Nat) (A : Option Addr) (c : Nat) (xs : List Int) (w : World) (hr : RdI w A xs) (hb : rhyB n xs = true) :
    Calls Tryz.prog 24 #[.agg #[.int .i64 n, .slice A xs.length c]] w (RetE w n (fmL n xs n)) := by
  have hn := (rhyB_iff hb).1
  have hxl := rhy_short hb
  obtain ⟨l, hll⟩ : ∃ l, l = xs.length := ⟨_, rfl⟩
  obtain ⟨ms, hms⟩ : ∃ ms, ms = mirL n xs := ⟨_, rfl⟩
  have hmb : rhyB n ms = true := by rw [hms]; exact mapF_rhy (by omega) (by omega)
  have CO : Hid (∀ W : World, Ext w W → Calls Tryz.prog 28 #[.agg #[.int .i64 n, .slice A l c]] W fun e w' => e = .returned (.bool true) ∧ Ext W w') := fun W he => by rw [hll, ← hb]; exact rhyI_any A c n xs W (hr.ext he) (by omega)
  have C1 : Hid (∀ (k : Int) (W : World), -2000 ≤ k → k ≤ 2000 → Ext w W → Calls Tryz.prog 30 #[.agg #[.int .i64 n, .slice A l c], .int .i64 k] W (RetR W ((n : Int), rotL n xs k))) := fun k W h1 h2 he => by rw [hll]; exact rot_any n A c xs k W (hr.ext he) hb ⟨h1, h2⟩
  have C2 : Hid (∀ W : World, Ext w W → Calls Tryz.prog 31 #[.agg #[.int .i64 n, .slice A l c]] W (RetR W ((n : Int), ms))) := fun W he => by rw [hll, hms]; exact mir_any n A c xs W (hr.ext he) hb
  have C3 : Hid (∀ (k : Int) (D : Option Addr) (q : Nat) (W : World), -2000 ≤ k → k ≤ 2000 → RdI W D ms → Calls Tryz.prog 30 #[.agg #[.int .i64 n, .slice D ms.length q], .int .i64 k] W (RetR W ((n : Int), rotL n ms k))) := fun k D q W h1 h2 h => rot_any n D q ms k W h hmb ⟨h1, h2⟩
  have HX0 : Hid (Ext w (w.alloc (.cells #[.int .i64 n, .slice A l c] 25))) := (Ext.refl w).alloc _
  have HG0 := Lib.hid (Bx2.new w 25 (.int .i64 n) (.slice A l c))
  rw [← hll]
  have HMS := Lib.hid hms
  clear hll hr hb hms hmb hxl
  go_enter Tryz.func24, Tryz.ntmps24
  go_wp2_with fail
  obtain ⟨q0, q1, p0, p1⟩ := HG0.out.cells
  go_wp2_with fail
  refine (CO.out _ HX0.out).mono ?_
  rintro e W ⟨rfl, e0⟩
  have HXW := Lib.hid (HX0.out.trans e0)
  have HG := Lib.hid (HG0.out.ext e0)
  clear e0 q0 q1 p0 p1 HG0 HX0 CO
  obtain ⟨q0, q1, p0, p1⟩ := HG.out.cells
  go_wp2_with fail
  clear q0 q1 p0 p1
  go_loopw [3, 10] (fun o i wr => ∃ (k : Nat) (B : Option Addr) (d : Nat) (es : List (Option Addr × Nat × List Int)), k ≤ n ∧ i = .int .i64 k ∧ o = .slice B es.length d ∧ es.length = 2 * k ∧ Hid (es.map (fun x : Option Addr × Nat × List Int => x.2.2) = fmL n xs k) ∧ Hid (OwE wr W.heap.size B d n es) ∧ Hid (InE wr W.heap.size es) ∧ Hid (Ext W wr)) (fun _ i _ => n - (intOf i).toNat)
  case atStart => exact ⟨0, none, 0, [], by omega, rfl, rfl, rfl, rfl, World.ownsRow_nil _ _ _ _, fun e he => absurd he (by simp), Ext.refl _⟩
  case round =>
    obtain ⟨k, B, d, es, hk, rfl, rfl, hes, HZ, HO, HI, HE⟩ := hrel
    obtain ⟨m, hm⟩ : ∃ m, m = es.length := ⟨_, rfl⟩
    have HM := Lib.hid hm
    rw [← hm] at hes ⊢
    by_cases hlt : k < n
    · obtain ⟨y1, hy1⟩ : ∃ y1, y1 = rotL n xs k := ⟨_, rfl⟩
      obtain ⟨y3, hy3⟩ : ∃ y3, y3 = rotL n ms k := ⟨_, rfl⟩
      have HNX : Hid (fmL n xs (k + 1) = fmL n xs k ++ [y1, y3]) := by rw [fmL, hy1, hy3, HMS.out]; exact rfl
      have D1 := Lib.hid (C1.out k (World.drew wr) (by omega) (by omega) (HXW.out.trans HE.out).drew)
      have D3 : Hid (∀ (D : Option Addr) (q : Nat) (V : World), RdI V D ms → Calls Tryz.prog 30 #[.agg #[.int .i64 n, .slice D ms.length q], .int .i64 k] V (RetR V ((n : Int), y3))) := fun D q V h => by rw [hy3]; exact C3.out k D q V (by omega) (by omega) h
      rw [← hy1] at D1
      obtain ⟨q0, q1, p0, p1⟩ := (HG.out.ext HE.out).cells
      clear hy1 hy3 hm p0 p1
      go_wp2_with fail
      go_region_held3 (fun V => V.cell? ⟨w.heap.size, 0, none⟩ = some (.int .i64 n) ∧ V.cell? ⟨w.heap.size, 1, none⟩ = some (.slice A l c))
        (first | exact ⟨q0, q1⟩ | exact ⟨Ext.cell e1 q0, Ext.cell e1 q1⟩ | exact ⟨Ext.cell e2 (Ext.cell e1 q0), Ext.cell e2 (Ext.cell e1 q1)⟩ | exact ⟨Ext.cell e3 (Ext.cell e2 (Ext.cell e1 q0)), Ext.cell e3 (Ext.cell e2 (Ext.cell e1 q1))⟩ | exact ⟨Ext.cell ((Ext.refl w3).alloc _) (Ext.cell e3 (Ext.cell e2 (Ext.cell e1 q0))), Ext.cell ((Ext.refl w3).alloc _) (Ext.cell e3 (Ext.cell e2 (Ext.cell e1 q1)))⟩ | exact ⟨(HG.out.ext e4).cells.1, (HG.out.ext e4).cells.2.1⟩)
        (first
          | (go_at_call 30; (with_reducible refine D1.out.mono ?_); intro e w1 hret; obtain ⟨E1, d1, rfl, o1, e1⟩ := hret.parts; clear hret)
          | (go_at_call 31; refine (C2.out w1 (((HXW.out.trans HE.out).drew).trans e1)).mono ?_; intro e w2 hret; obtain ⟨E2, d2, rfl, o2, e2⟩ := hret.parts; clear hret)
          | (go_at_call 30; (with_reducible refine (D3.out E2 d2 w2 o2.rd).mono ?_); intro e w3 hret; obtain ⟨E3, d3, rfl, o3, e3⟩ := hret.parts; clear hret)
          | (refine step_two W w3 (by rfl) _ _ (by rfl) B d (2 * k) n es (E1, d1, y1) (E3, d3, y3) w3.heap.size (by rfl) (by rfl) rfl (HM.out.symm.trans hes) (OwE.ext (w := World.drew wr) HO.out ((e1.trans e2).trans e3)) (InE.ext (w := World.drew wr) HI.out ((e1.trans e2).trans e3)) (((o1.lower (HE.out.drew).size).ext (e2.trans e3))) (o3.lower ((HE.out.drew.trans e1).trans e2).size) (((HE.out.drew.trans e1).trans e2).trans e3) (by omega) ?_; intro B' d' w4 h1 h2 e4))
      have HO2 := Lib.hid h1
      have HI2 := Lib.hid h2
      have HE2 := Lib.hid e4
      clear e1 e2 e3 e4 o1 o2 o3 q0 q1 h1 h2 HO HI HE D1 D3
      go_wp2_with fail
      go_roundw
      case rel =>
        refine ⟨k + 1, B', d', es ++ [(E1, d1, y1), (E3, d3, y3)], by omega, by go_num, ?_, ?_, ?_, HO2, HI2, HE2⟩
        · have := HM.out; rw [List.length_append, ← this, hes]; exact rfl
        · have := HM.out; rw [List.length_append, ← this, hes]; simp; omega
        · refine Lib.hid ?_
          rw [HNX.out, List.map_append, HZ.out]; rfl
      case measure => simp [intOf]; omega
    · obtain rfl : k = n := by omega
      go_wp2_with fail
      go_ret
      have HX := (HXW.out).trans HE.out
      exact ⟨B, d, es, by rw [← HM.out, hes]; rfl, HZ.out, (HO.out).lower HXW.out.size, fun e he => (HI.out e he).lower HXW.out.size, HX⟩
end Go.Proofs.YtphpdanohooccaaGreatDoor
