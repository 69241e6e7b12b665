/- Contracts of TimeOf, SameTime. -/
import Derived.Test.YtoobffhchbgkjaaTempoB
import Derived.Test.YtoobffhchbgkjaaRatio
import Derived.Test.YtoobffhchbgkjaaReduce
import Derived.StillTailTactics
namespace Go.Proofs.Ytoobffhchbgkjaa
open Go.RowKit

/-- Block g is just these two cells. -/
def Blk2 (w : World) (g : Nat) (t : TypeId) (a b : Value) : Prop := w.heap[g]? = some (.cells #[a, b] t (0, 0))
theorem Blk2.ext {w w' : World} {g : Nat} {t : TypeId} {a b : Value} (h : Blk2 w g t a b) (he : Ext w w') : Blk2 w' g t a b :=
  (Below.block he g (Array.getElem?_eq_some_iff.1 h).1).trans h
theorem Blk2.cells {w : World} {g : Nat} {t : TypeId} {a b : Value} (h : Blk2 w g t a b) :
    w.cell? ⟨g, 0, none⟩ = some a ∧ w.cell? ⟨g, 1, none⟩ = some b ∧ w.frozen? ⟨g, 0, none⟩ = false ∧ w.frozen? ⟨g, 1, none⟩ = false :=
  ⟨cell_of_row w g 0 _ _ (0, 0) h, cell_of_row w g 1 _ _ (0, 0) h, frozen_of_row w g 0 _ _ h, frozen_of_row w g 1 _ _ h⟩
theorem Blk2.new (w : World) (t : TypeId) (a b : Value) : Blk2 (w.alloc (.cells #[a, b] t)) w.heap.size t a b := heap_alloc_new w _
theorem Blk2.set2 {w : World} {g : Nat} {t : TypeId} {a b : Value} (h : Blk2 w g t a b) (c d : Value) : Blk2 ((w.setCell ⟨g, 0, none⟩ c).setCell ⟨g, 1, none⟩ d) g t c d :=
  heap_setCell_same _ g 1 _ _ _ (heap_setCell_same w g 0 _ _ _ h)
theorem Blk2.far {w : World} {g : Nat} {t : TypeId} {a b : Value} (h : Blk2 w g t a b) {p : Addr} (hp : g ≠ p.block) (u : Value) : Blk2 (w.setCell p u) g t a b := (Below.heap_setCell w p u g hp).trans h

theorem l20Add_any (t b n r : Int) (w : World) (ht : 0 ≤ t ∧ t ≤ 1000000000) (hb : 1 ≤ b ∧ b ≤ 3) (hn : 0 ≤ n ∧ n ≤ 60000000) (hr : 1 ≤ r ∧ r ≤ 400) :
    Calls Try.prog 56 #[.agg #[.int .i64 t, .int .i64 b], .int .i64 n, .int .i64 r] w fun e w' =>
      e = .returned (.agg #[.int .i64 ((t * r + n * b) / gcdF (t * r + n * b) (b * r)), .int .i64 (b * r / gcdF (t * r + n * b) (b * r))]) ∧ Ext w w' := by
  have h1 := mul_bd' ht.1 ht.2 (show 0 ≤ r by omega) hr.2
  have h2 := mul_bd' hn.1 hn.2 (show 0 ≤ b by omega) hb.2
  have h3 : 1 ≤ b * r := Int.mul_le_mul hb.1 hr.1 (by omega) (by omega)
  have h4 := mul_bd' (show 0 ≤ b by omega) hb.2 (show 0 ≤ r by omega) hr.2
  have hm : max (t * r + n * b) (-(t * r + n * b)) = t * r + n * b := by omega
  have HM := Lib.hid hm
  have hg := gcdF_pos (a := t * r + n * b) h3
  have CG := Lib.hid (fun w => gcdS_i (t * r + n * b) (b * r) w (by omega) (by omega))
  obtain ⟨G, hG⟩ : ∃ G, G = gcdF (t * r + n * b) (b * r) := ⟨_, rfl⟩
  rw [← hG] at CG hg
  rw [← hG]
  clear hm hG
  go_enter Try.func56, Try.ntmps56
  go_wp2_with fail
  rw [HM.out]
  refine (CG.out _).mono ?_
  rintro e w' ⟨rfl, rfl⟩
  go_wp2_with fail
  have hg0 : ¬ G = 0 := by omega
  go_still_tail 7, (by kernel_rfl)
  change wpList _ _ _ _ _ (World.drew _)
  go_wp2
  exact bodyPost_ret (v := .agg #[.int .i64 ((t * r + n * b) / G), .int .i64 (b * r / G)]) (by simp [results, Try.results56, go_sem]) rfl ⟨rfl, (((Ext.refl w).alloc _).alloc _).drew⟩

theorem unit_step {U n r : Int} (hU : 0 ≤ U ∧ U ≤ 10000000) (hn : 0 ≤ n ∧ n ≤ 1000) (hr : 20 ≤ r ∧ r ≤ 400) (hd : 3600 % r = 0) :
    topF (50 * U) * r + 60000 * n * botF (50 * U) = topF (50 * U) * r + 60000 * n * botF (50 * U) ∧
    (topF (50 * U) * r + 60000 * n * botF (50 * U)) / gcdF (topF (50 * U) * r + 60000 * n * botF (50 * U)) (botF (50 * U) * r) = topF (50 * (U + n * (3600 / r))) ∧
    botF (50 * U) * r / gcdF (topF (50 * U) * r + 60000 * n * botF (50 * U)) (botF (50 * U) * r) = botF (50 * (U + n * (3600 / r))) := by
  refine ⟨rfl, ?_⟩
  obtain ⟨_, t0, t1, b0, b1⟩ := topF_bd (u := 50 * U) (by omega)
  have hc := topF_cross (u := 50 * U) (by omega)
  generalize topF (50 * U) = T at *
  generalize botF (50 * U) = B at *
  have hq : r * (3600 / r) = 3600 := by have := Int.mul_ediv_add_emod 3600 r; omega
  have hq1 : 1 ≤ 3600 / r := by have := (step_bd hn hr).1; omega
  generalize 3600 / r = q at *
  have x0 : 0 ≤ T * r + 60000 * n * B := by
    have := Int.mul_nonneg t0 (show 0 ≤ r by omega)
    have := Int.mul_nonneg (show 0 ≤ 60000 * n by omega) (show 0 ≤ B by omega)
    omega
  have y0 : 1 ≤ B * r := Int.mul_le_mul b0 (show 1 ≤ r by omega) (by omega) (by omega)
  have a0 : 0 ≤ 50 * (U + n * q) := by have := Int.mul_nonneg hn.1 (show 0 ≤ q by omega); omega
  unfold topF botF
  refine red_int x0 y0 a0 (by omega) ?_
  -- (T r + 60000 n B) 3 = 50 (U + n q) (B r)
  have e1 : T * r * 3 = 50 * U * B * r := by
    calc T * r * 3 = (T * 3) * r := by ac_rfl
      _ = 50 * U * B * r := by rw [hc]
  have e2 : 60000 * n * B * 3 = 50 * (n * q) * (B * r) := by
    calc 60000 * n * B * 3 = 50 * (n * B) * 3600 := by rw [show (60000 : Int) * n * B * 3 = 180000 * (n * B) by rw [Int.mul_assoc 60000 n B]; omega]; omega
      _ = 50 * (n * B) * (r * q) := by rw [hq]
      _ = 50 * (n * q) * (B * r) := by ac_rfl
  rw [Int.add_mul, e1, e2, Int.mul_add, Int.add_mul]
  congr 1
  ac_rfl

theorem ratB_top {u : Int} (h0 : 0 ≤ u) (h1 : u ≤ 1000000000000) : ratB (topF u) (botF u) = true := by
  obtain ⟨g, t0, t1, b0, b1⟩ := topF_bd h0
  unfold ratB
  rw [inB_iff.2 ⟨by omega, by omega⟩, inB_iff.2 ⟨b0, by omega⟩, show max (topF u) (-(topF u)) = topF u by omega, g]
  rfl

/-- What l20Time leaves. -/
def RetTime (w : World) (t b : Int) (ok : Bool) (e : Ending) (w' : World) : Prop := e = .returned (.tuple #[.agg #[.int .i64 t, .int .i64 b], .bool ok]) ∧ Ext w w'

set_option maxHeartbeats 2000000 in
theorem l20Time_any (A : Option Addr) (c : Nat) (xs : List (Int × Int)) (d0 : Int) (w : World) (hr : RdP w A xs) (hn : xs.length ≤ 8) (hps : Passes xs) (hd0 : 0 ≤ d0) (hd1 : d0 ≤ 1000000) :
    Calls Try.prog 50 #[.slice A xs.length c, .int .i64 d0] w (RetTime w (topF (50 * unitsF xs d0)) (botF (50 * unitsF xs d0)) true) := by
  obtain ⟨m, hm⟩ : ∃ m, m = xs.length := ⟨_, rfl⟩
  obtain ⟨RT, hRT⟩ : ∃ RT, RT = topF (50 * unitsF xs d0) := ⟨_, rfl⟩
  obtain ⟨RB, hRB⟩ : ∃ RB, RB = botF (50 * unitsF xs d0) := ⟨_, rfl⟩
  rw [← hRT, ← hRB, ← hm]
  rw [← hm] at hn
  have HM := Lib.hid hm
  have HR := Lib.hid hr
  have HP := Lib.hid hps
  have HRT := Lib.hid hRT
  have HRB := Lib.hid hRB
  clear hm hr hps hRT hRB
  go_enter Try.func50, Try.ntmps50
  go_wp2_with fail
  go_loopw [1, 13] (fun l i wr => ∃ (k : Nat) (d U T B : Int), k ≤ m ∧ i = .int .i64 k ∧ l = .int .i64 d ∧ 0 ≤ d ∧ d ≤ d0 ∧ 0 ≤ U ∧ U ≤ k * 180000 ∧ Hid (T = topF (50 * U)) ∧ Hid (B = botF (50 * U)) ∧ Hid (U = unitsF (xs.take k) d0) ∧ Hid (d = leftF (xs.take k) d0) ∧ Hid (Blk2 wr w.heap.size 38 (.int .i64 0) (.int .i64 0)) ∧ Hid (Blk2 wr (w.heap.size + 1) 38 (.int .i64 T) (.int .i64 B)) ∧ Hid (Ext w wr)) (fun _ i _ => m - (intOf i).toNat)
  case atStart =>
    refine ⟨0, d0, 0, 0, 1, Nat.zero_le _, rfl, rfl, by omega, by omega, by omega, by omega, (show (0:Int) = topF (50*0) from by decide), (show (1:Int) = botF (50*0) from by decide), rfl, rfl, ?_, ?_, ((Ext.refl w).alloc _).alloc _⟩
    · exact Blk2.ext (Blk2.new w _ _ _) ((Ext.refl _).alloc _)
    · have := Blk2.new (w.alloc (.cells #[.int .i64 0, .int .i64 0] 38)) 38 (.int .i64 0) (.int .i64 1)
      simp at this
      exact this
  case round =>
    obtain ⟨k, d, U, T, B, hk, rfl, rfl, hd0, hd1, hU0, hU1, HT, HB, HU, HD, HB4, HB6, HE⟩ := hrel
    by_cases hlt : k < m
    · have hkx : k < xs.length := by rw [← HM.out]; exact hlt
      obtain ⟨bb, o, hA, hc, hc2⟩ := (HR.out.ext HE.out).at_ k hkx
      subst hA
      obtain ⟨⟨x, y⟩, hx⟩ : ∃ x, x = xs.getD k (0, 0) := ⟨_, rfl⟩
      rw [← hx] at hc hc2
      simp only [] at hc hc2
      have hb := HP.out (x, y) (by rw [hx]; exact getD_mem _ _ _ hkx)
      simp only [] at hb
      have g1 := hb.1
      have g2 := hb.2.1
      have hst := step_bd (n := min d x) (r := y) (by omega) g2
      have hT := topF_bd (u := 50 * U) (by omega)
      rw [← HT.out, ← HB.out] at hT
      have hTT : 0 ≤ T ∧ T ≤ 1000000000 := by omega
      have hBB : 1 ≤ B ∧ B ≤ 3 := hT.2.2.2
      have hus := unit_step (U := U) (n := min d x) (r := y) (by omega) (by omega) g2 hb.2.2
      rw [← HT.out, ← HB.out] at hus
      have HUN : Hid (U + min d x * (3600 / y) = unitsF (xs.take (k + 1)) d0) := by rw [take_snocP xs k hkx, unitsF_snoc, ← HU.out, ← HD.out, ← hx]; exact rfl
      have HDN : Hid (d - min d x = leftF (xs.take (k + 1)) d0) := by rw [take_snocP xs k hkx, leftF_snoc, ← HD.out, ← hx]; exact rfl
      have hU2 : U + min d x * (3600 / y) ≤ (k + 1 : Nat) * 180000 := by omega
      have hU3 : 0 ≤ U + min d x * (3600 / y) := by omega
      obtain ⟨U', hU'⟩ : ∃ U', U' = U + min d x * (3600 / y) := ⟨_, rfl⟩
      rw [← hU'] at hU2 hU3 HUN hus
      obtain ⟨T', hT'⟩ : ∃ T', T' = topF (50 * U') := ⟨_, rfl⟩
      obtain ⟨B', hB'⟩ : ∃ B', B' = botF (50 * U') := ⟨_, rfl⟩
      rw [← hT', ← hB'] at hus
      have hrat := ratB_top (u := 50 * U') (by omega) (by omega)
      rw [← hT', ← hB'] at hrat
      have CA := Lib.hid (fun w => l20Add_any T B (60000 * min d x) y w hTT hBB (by omega) (by omega))
      rw [hus.2.1, hus.2.2] at CA
      have CR := Lib.hid (fun w => ratioS_any T' B' w)
      rw [hrat] at CR
      have HT' := Lib.hid hT'
      have HB' := Lib.hid hB'
      obtain ⟨q0, q1, p0, p1⟩ := HB6.out.cells
      have hlt6 : w.heap.size + 1 < wr.heap.size := (Array.getElem?_eq_some_iff.1 HB6.out).1
      have hfn : 0 ≤ min d x ∧ min d x ≤ 1000 := by omega
      clear hx hkx hb hst hT hus hU' hT' hB' hrat HU HD HT HB
      go_wp2_with fail
      refine (CA.out _).mono ?_
      rintro e w2 ⟨rfl, he⟩
      have e2 := Lib.hid ((Ext.alloc (Ext.refl wr) (.cells #[.int .i64 x, .int .i64 y] 52)).trans he)
      have HE2 := Lib.hid (HE.out.trans e2.out)
      have HB4' := Lib.hid (HB4.out.ext e2.out)
      have HB6' := Lib.hid (HB6.out.ext e2.out)
      clear he q0 q1 p0 p1 hc hc2
      obtain ⟨q0, q1, p0, p1⟩ := HB6'.out.cells
      go_wp2_with fail
      refine (CR.out _).mono ?_
      rintro e w3 ⟨rfl, he⟩
      have HB6'' := Lib.hid ((HB6'.out.set2 (.int .i64 T') (.int .i64 B')).ext he)
      have HB4'' := Lib.hid (Blk2.ext (Blk2.far (Blk2.far HB4'.out (p := ⟨w.heap.size + 1, 0, none⟩) (by simp) (.int .i64 T')) (p := ⟨w.heap.size + 1, 1, none⟩) (by simp) (.int .i64 B')) he)
      have HE3 := Lib.hid (((HE2.out.setCell (p := ⟨w.heap.size + 1, 0, none⟩) (by simp) (.int .i64 T')).setCell (p := ⟨w.heap.size + 1, 1, none⟩) (by simp) (.int .i64 B')).trans he)
      clear he q0 q1 p0 p1
      go_wp2_with fail
      go_roundw
      case rel => exact ⟨k + 1, d - min d x, U', T', B', by omega, by go_num, rfl, by omega, by omega, hU3, hU2, HT', HB', HUN, HDN, HB4'', HB6'', HE3⟩
      case measure => simp [intOf]; omega
    · obtain rfl : k = m := by omega
      have e1 : RT = T := by rw [HRT.out, HT.out, HU.out, take_allP xs k HM.out]
      have e2 : RB = B := by rw [HRB.out, HB.out, HU.out, take_allP xs k HM.out]
      have HE1 := Lib.hid e1
      have HE2 := Lib.hid e2
      obtain ⟨q0, q1, p0, p1⟩ := HB6.out.cells
      obtain ⟨r0, r1, s0, s1⟩ := HB4.out.cells
      clear e1 e2
      go_wp2_with fail
      refine bodyPost_ret (v := .tuple #[.agg #[.int .i64 T, .int .i64 B], .bool true]) (by simp [results, Try.results50, go_sem, r0, r1]) rfl ?_
      rw [HE1.out, HE2.out]
      exact ⟨rfl, (HE.out.setCell (by simp) _).setCell (by simp) _⟩
end Go.Proofs.Ytoobffhchbgkjaa
