/- Contracts of StepsOf. -/
import Derived.Test.YtedfmjijemcpaaaRhyB
import Derived.Deep.RegionLaw
import Derived.Deep.AppendLies
namespace Go.Proofs.Ytedfmjijemcpaaa
open Go.RowKit

/-- The step at place i. -/
def stJ (n : Int) (xs : List Int) (i : Nat) : Int := (if i + 1 < xs.length then xs.getD (i + 1) 0 else xs.getD 0 0 + n) - xs.getD i 0
/-- The first k steps. -/
def stP (n : Int) (xs : List Int) (k : Nat) : List Int := (List.range k).map (stJ n xs)
def stepsF (n : Int) (xs : List Int) : List Int := stP n xs xs.length
theorem stP_len (n : Int) (xs : List Int) (k : Nat) : (stP n xs k).length = k := by simp [stP]
theorem stP_snoc (n : Int) (xs : List Int) (k : Nat) : stP n xs (k + 1) = stP n xs k ++ [stJ n xs k] := by simp [stP, List.range_succ]

set_option maxHeartbeats 2000000 in
theorem l03_any (A : Option Addr) (c : Nat) (n : Int) (xs : List Int) (w : World) (hr : RdI w A xs) (hv : rhyB n xs = true) (hl : xs.length ≤ 1048576) :
    Calls Try.prog 65 #[.agg #[.int .i64 n, .slice A xs.length c]] w (RetI w (stepsF n xs)) := by
  have hvi := rhyB_iff hv
  have hn := hvi.1
  have HV : Hid (∀ j, j < xs.length → 0 ≤ xs.getD j 0 ∧ xs.getD j 0 ≤ n - 1) := fun j hj => (hvi.2 j hj).1
  have hrl : (stepsF n xs).length = xs.length := stP_len _ _ _
  obtain ⟨R, hR⟩ : ∃ R, R = stepsF n xs := ⟨_, rfl⟩
  obtain ⟨l, hll⟩ : ∃ l, l = xs.length := ⟨_, rfl⟩
  have HRR : Hid (R = stP n xs l) := by rw [hR, hll]; exact rfl
  rw [← hR, ← hll] at hrl
  rw [← hR, ← hll]
  rw [← hll] at hl
  have HL := Lib.hid hll
  have HRL := Lib.hid hrl
  have HR := Lib.hid hr
  have HX0 : Hid (Ext w ((w.alloc (.cells #[.int .i64 n, .slice A l c] 29)).alloc (.cells #[] 3))) := ((Ext.refl w).alloc _).alloc _
  have HG0 : Hid (Bx2 ((w.alloc (.cells #[.int .i64 n, .slice A l c] 29)).alloc (.cells #[] 3)) w.heap.size 29 (.int .i64 n) (.slice A l c)) := (Bx2.new w _ _ _).ext ((Ext.refl _).alloc _)
  have HO0 : Hid (OwI ((w.alloc (.cells #[.int .i64 n, .slice A l c] 29)).alloc (.cells #[] 3)) w.heap.size (some ⟨w.heap.size + 1, 0, none⟩) 0 []) := by
    have := OwI.empty (w.alloc (.cells #[.int .i64 n, .slice A l c] 29))
    simp at this
    exact this.lower (by omega)
  clear hvi hv hR hll hr hrl
  go_enter Try.func65, Try.ntmps65
  go_wp2_with fail
  go_loopw [3, 11] (fun o i wr => ∃ (k : Nat) (B : Option Addr) (d : Nat), k ≤ l ∧ i = .int .i64 k ∧ o = .slice B k d ∧ Hid (OwI wr w.heap.size B d (stP n xs k)) ∧ Hid (Bx2 wr w.heap.size 29 (.int .i64 n) (.slice A l c)) ∧ Hid (Ext w wr)) (fun _ i _ => l - (intOf i).toNat)
  case atStart => exact ⟨0, _, _, Nat.zero_le _, rfl, rfl, HO0.out, HG0.out, HX0.out⟩
  case round =>
    obtain ⟨k, B, d, hk, rfl, rfl, HO, HG, HE⟩ := hrel
    obtain ⟨q0, q1, p0, p1⟩ := HG.out.cells
    by_cases hlt : k < l
    · have hkx : k < xs.length := by rw [← HL.out]; exact hlt
      obtain ⟨b, o, hA, hc⟩ := (HR.out.ext HE.out).at_ k hkx
      obtain ⟨b0, o0, hA0, hc0⟩ := (HR.out.ext HE.out).at_ 0 (by omega)
      rw [hA] at hA0
      injection hA0 with hA0
      injection hA0 with e1 e2 _
      subst e1 e2
      rw [Nat.add_zero] at hc0
      obtain ⟨x, hx⟩ : ∃ x, x = xs.getD k 0 := ⟨_, rfl⟩
      obtain ⟨z, hz⟩ : ∃ z, z = xs.getD 0 0 := ⟨_, rfl⟩
      rw [← hx] at hc
      rw [← hz] at hc0
      have hxb := HV.out k hkx
      have hzb := HV.out 0 (by omega)
      rw [← hx] at hxb
      rw [← hz] at hzb
      have hl0 : (0 : Int) < l := by omega
      have hnext : k + 1 < l → wr.cell? ⟨b, o + (k + 1), none⟩ = some (.int .i64 (xs.getD (k + 1) 0)) := by
        intro h0
        obtain ⟨b', o', e', hc'⟩ := (HR.out.ext HE.out).at_ (k + 1) (by rw [← HL.out]; exact h0)
        rw [hA] at e'
        injection e' with e'
        injection e' with e1 e2 _
        subst e1 e2
        exact hc'
      subst hA
      have HS : Hid (stJ n xs k = (if k + 1 < l then xs.getD (k + 1) 0 else z + n) - x) := by rw [hx, hz, HL.out]; exact rfl
      have hstl := stP_len n xs k
      have HSL := Lib.hid hstl
      clear hx hz hkx hstl
      by_cases hlast : k + 1 < l
      · have hcn := hnext hlast
        have hyb := HV.out (k + 1) (by rw [← HL.out]; exact hlast)
        obtain ⟨y, hy⟩ : ∃ y, y = xs.getD (k + 1) 0 := ⟨_, rfl⟩
        have HS2 : Hid (stJ n xs k = y - x) := by rw [HS.out, if_pos hlast, hy]; exact rfl
        rw [← hy] at hcn hyb
        have h1 : (k : Int) + 1 < l := by omega
        have h2 : ((k : Int) + 1).toNat = k + 1 := by omega
        clear hy hnext HS
        go_wp2_with fail
        have s1 : IntKind.i64.wrap (z + n) = z + n := IntWalk.i64_in _ (by omega)
        go_quiet (fail)
        clear s1
        go_wp2_with (at_builtin; refine app_ints w rfl _ _ rfl B d k (stP n xs k) _ 1 1 [y - x] rfl rfl HSL.out rfl (HO.out.ext (((Ext.refl _).drewN _).alloc _)) (RdI.built (World.drewN wr _) [y - x]) ((HE.out.drewN _).alloc _) (by omega) ?_; intro A' c' w2 h3 h4 h5; have HO2 := Lib.hid h3; have HE2 := Lib.hid h4; have HG2 := Lib.hid ((HG.out.ext (((Ext.refl _).drewN _).alloc _)).grown (by decide) (HO.out.ext (((Ext.refl _).drewN _).alloc _)) h5); clear h3 h4 h5)
        go_roundw
        case rel => exact ⟨k + 1, A', c', by omega, by go_num, rfl, by rw [stP_snoc, HS2.out]; exact HO2.out, HG2.out, HE2.out⟩
        case measure => simp [intOf]; omega
      · have HS2 : Hid (stJ n xs k = z + n - x) := by rw [HS.out, if_neg hlast]; exact rfl
        have h1 : ¬ (k : Int) + 1 < l := by omega
        clear hnext HS
        go_wp2_with fail
        have s1 : IntKind.i64.wrap (z + n) = z + n := IntWalk.i64_in _ (by omega)
        go_quiet (fail)
        clear s1
        go_wp2_with (at_builtin; refine app_ints w rfl _ _ rfl B d k (stP n xs k) _ 1 1 [z + n - x] rfl rfl HSL.out rfl (HO.out.ext (((Ext.refl _).drewN _).alloc _)) (RdI.built (World.drewN wr _) [z + n - x]) ((HE.out.drewN _).alloc _) (by omega) ?_; intro A' c' w2 h3 h4 h5; have HO2 := Lib.hid h3; have HE2 := Lib.hid h4; have HG2 := Lib.hid ((HG.out.ext (((Ext.refl _).drewN _).alloc _)).grown (by decide) (HO.out.ext (((Ext.refl _).drewN _).alloc _)) h5); clear h3 h4 h5)
        go_roundw
        case rel => exact ⟨k + 1, A', c', by omega, by go_num, rfl, by rw [stP_snoc, HS2.out]; exact HO2.out, HG2.out, HE2.out⟩
        case measure => simp [intOf]; omega
    · obtain rfl : k = l := by omega
      go_wp2_with fail
      go_ret
      exact ⟨B, d, by rw [HRL.out]; rfl, by rw [HRR.out]; exact HO.out, HE.out⟩

/-- 'out = append(out, v)' as a step of a region that draws its order. -/
theorem step_intg {ops : Array Oper} {o : Oper} {a : Act} {K : Act → World → Prop} {Q : Exit → Act → World → Prop} {E : Prop} (wb w0 : World) (hgd : o.guard = none) (s x : Operand)
    (ho : o.op = .call { callee := .builtin .append, args := #[s, x], argTypes := #[23, 23] })
    (A : Option Addr) (c n : Nat) (xs : List Int) (v : Int) (g : Nat) (hs : a.eval s = .slice A n c) (hx : a.eval x = .slice (some ⟨g, 0, none⟩) 1 1) (hgg : w0.heap.size = g)
    (hl : xs.length = n) (hown : OwI w0 wb.heap.size A c xs) (he : Ext wb w0) (hn : n < 1099511627776)
    (h : ∀ A' c' w', OwI w' wb.heap.size A' c' (xs ++ [v]) → Ext wb w' → (w0.alloc (.cells #[.int .i64 v] 3)).grownBy w' (A.map (·.block)) → K (a.put o.dst (.slice A' (n + 1) c')) w') :
    if Region.wanted o (yielded ops a.tmps) = true then Oper.wp Try.prog o a (w0.alloc (.cells #[.int .i64 v] 3)) K Q else E := by
  subst hl
  subst hgg
  obtain ⟨i0, hi, hz0, hz1, hz2⟩ := info_parts info_int
  refine step_append_lies _ hgd s x 23 ho wb.heap.size 3 i0 (.int .i64 0) 1 8 Try.underlying23 hi hz0 hz1 hz2 rfl (by decide) _ xs.length (xs.map (Value.int .i64)) hs (World.ownsRow.alloc hown _)
    ⟨w0.heap.size, 0, none⟩ 1 1 [.int .i64 v] hx rfl (cell_one_new _ _ _) (by simp [Value.oneCell']) (by omega) (by simp only [maxLen]; omega) (by omega) (by simp; exact Nat.le_succ_of_le he.size) _ rfl ?_
  intro g cap w' hown' hg _ _
  have hl' : (xs ++ [v]).length = xs.length + 1 := by simp
  have ho' : OwI w' wb.heap.size (some ⟨g, 0, none⟩) cap (xs ++ [v]) := by
    unfold OwI
    rw [hl', List.map_append]
    exact hown'
  exact h _ cap w' ho' (Ext.grown (he.alloc _) hg (fun k hk => (World.ownsRow.lt hown k hk).1)) (by cases A <;> exact hg)

set_option maxHeartbeats 2000000 in
theorem steps_any (A : Option Addr) (c : Nat) (n : Int) (xs : List Int) (w : World) (hr : RdI w A xs) (hv : rhyB n xs = true) (hl : xs.length ≤ 1048576) :
    Calls Try.prog 52 #[.agg #[.int .i64 n, .slice A xs.length c]] w (RetI w (stepsF n xs)) := by
  have hvi := rhyB_iff hv
  have hn := hvi.1
  have HV : Hid (∀ j, j < xs.length → 0 ≤ xs.getD j 0 ∧ xs.getD j 0 ≤ n - 1) := fun j hj => (hvi.2 j hj).1
  have hrl : (stepsF n xs).length = xs.length := stP_len _ _ _
  obtain ⟨R, hR⟩ : ∃ R, R = stepsF n xs := ⟨_, rfl⟩
  obtain ⟨l, hll⟩ : ∃ l, l = xs.length := ⟨_, rfl⟩
  have HRR : Hid (R = stP n xs l) := by rw [hR, hll]; exact rfl
  rw [← hR, ← hll] at hrl
  rw [← hR, ← hll]
  rw [← hll] at hl
  have HL := Lib.hid hll
  have HRL := Lib.hid hrl
  have HR := Lib.hid hr
  have HX0 : Hid (Ext w (w.alloc (.cells #[.int .i64 n, .slice A l c] 29))) := (Ext.refl w).alloc _
  have HG0 : Hid (Bx2 (w.alloc (.cells #[.int .i64 n, .slice A l c] 29)) w.heap.size 29 (.int .i64 n) (.slice A l c)) := Bx2.new w _ _ _
  clear hvi hv hR hll hr hrl
  go_enter Try.func52, Try.ntmps52
  go_wp2_with fail
  go_loopw [3, 9] (fun o i wr => ∃ (k : Nat) (B : Option Addr) (d : Nat), k ≤ l ∧ i = .int .i64 k ∧ o = .slice B k d ∧ Hid (OwI wr w.heap.size B d (stP n xs k)) ∧ Hid (Bx2 wr w.heap.size 29 (.int .i64 n) (.slice A l c)) ∧ Hid (Ext w wr)) (fun _ i _ => l - (intOf i).toNat)
  case atStart => exact ⟨0, _, _, Nat.zero_le _, rfl, rfl, OwI.nil _ _, HG0.out, HX0.out⟩
  case round =>
    obtain ⟨k, B, d, hk, rfl, rfl, HO, HG, HE⟩ := hrel
    obtain ⟨q0, q1, p0, p1⟩ := HG.out.cells
    by_cases hlt : k < l
    · have hkx : k < xs.length := by rw [← HL.out]; exact hlt
      obtain ⟨b, o, hA, hc⟩ := (HR.out.ext HE.out).at_ k hkx
      obtain ⟨b0, o0, hA0, hc0⟩ := (HR.out.ext HE.out).at_ 0 (by omega)
      rw [hA] at hA0
      injection hA0 with hA0
      injection hA0 with e1 e2 _
      subst e1 e2
      rw [Nat.add_zero] at hc0
      obtain ⟨x, hx⟩ : ∃ x, x = xs.getD k 0 := ⟨_, rfl⟩
      obtain ⟨z, hz⟩ : ∃ z, z = xs.getD 0 0 := ⟨_, rfl⟩
      rw [← hx] at hc
      rw [← hz] at hc0
      have hxb := HV.out k hkx
      have hzb := HV.out 0 (by omega)
      rw [← hx] at hxb
      rw [← hz] at hzb
      have hl0 : (0 : Int) < l := by omega
      have hnext : k + 1 < l → wr.cell? ⟨b, o + (k + 1), none⟩ = some (.int .i64 (xs.getD (k + 1) 0)) := by
        intro h0
        obtain ⟨b', o', e', hc'⟩ := (HR.out.ext HE.out).at_ (k + 1) (by rw [← HL.out]; exact h0)
        rw [hA] at e'
        injection e' with e'
        injection e' with e1 e2 _
        subst e1 e2
        exact hc'
      subst hA
      have HS : Hid (stJ n xs k = (if k + 1 < l then xs.getD (k + 1) 0 else z + n) - x) := by rw [hx, hz, HL.out]; exact rfl
      have hstl := stP_len n xs k
      have HSL := Lib.hid hstl
      clear hx hz hkx hstl
      by_cases hlast : k + 1 < l
      · have hcn := hnext hlast
        have hyb := HV.out (k + 1) (by rw [← HL.out]; exact hlast)
        obtain ⟨y, hy⟩ : ∃ y, y = xs.getD (k + 1) 0 := ⟨_, rfl⟩
        have HS2 : Hid (stJ n xs k = y - x) := by rw [HS.out, if_pos hlast, hy]; exact rfl
        rw [← hy] at hcn hyb
        have h1 : (k : Int) + 1 < l := by omega
        have h2 : ((k : Int) + 1).toNat = k + 1 := by omega
        clear hy hnext HS
        go_wp2_with (at_builtin; refine app_ints w rfl _ _ rfl B d k (stP n xs k) _ 1 1 [y - x] rfl rfl HSL.out rfl (HO.out.ext ((Ext.refl _).alloc _)) (RdI.built wr [y - x]) (HE.out.alloc _) (by omega) ?_; intro A' c' w2 h3 h4 h5; have HO2 := Lib.hid h3; have HE2 := Lib.hid h4; have HG2 := Lib.hid ((HG.out.ext ((Ext.refl _).alloc _)).grown (by decide) (HO.out.ext ((Ext.refl _).alloc _)) h5); clear h3 h4 h5)
        go_roundw
        case rel => exact ⟨k + 1, A', c', by omega, by go_num, rfl, by rw [stP_snoc, HS2.out]; exact HO2.out, HG2.out, HE2.out⟩
        case measure => simp [intOf]; omega
      · have HS2 : Hid (stJ n xs k = n + z - x) := by rw [HS.out, if_neg hlast, Int.add_comm z n]; exact rfl
        have h1 : ¬ (k : Int) + 1 < l := by omega
        clear hnext HS
        go_wp2_with fail
        have s1 : IntKind.i64.wrap (n + z) = n + z := IntWalk.i64_in _ (by omega)
        have s2 : IntKind.i64.wrap (n + z - x) = n + z - x := IntWalk.i64_in _ (by omega)
        have hl0n : 0 < l := by omega
        have hl0m : ¬ l = 0 := by omega
        have hgD : Bx2 (World.drew wr) w.heap.size 29 (.int .i64 n) (.slice (some ⟨b, o, none⟩) l c) := HG.out.ext (Ext.drew (Ext.refl _))
        have HGD := Lib.hid hgD
        clear hgD
        go_region_law ((refine step_intg w (World.drew wr) (by rfl) _ _ (by rfl) B d k (stP n xs k) (n + z - x) (World.drew wr).heap.size (by rfl) (by rfl) rfl HSL.out (HO.out.ext (Ext.drew (Ext.refl _))) HE.out.drew (by omega) ?_; intro A' c' w2 h3 h4 h5; have HO2 := Lib.hid h3; have HE2 := Lib.hid h4; have HG2 := Lib.hid ((HGD.out.ext ((Ext.refl _).alloc _)).grown (by decide) ((HO.out.ext (Ext.drew (Ext.refl _))).ext ((Ext.refl _).alloc _)) h5); clear h3 h4 h5))
        all_goals clear s1 s2 q0 q1 p0 p1 hc hc0
        all_goals go_simp
        all_goals go_wp2_with fail
        all_goals go_roundw
        all_goals first
          | exact ⟨k + 1, A', c', by omega, by go_num, rfl, by rw [stP_snoc, HS2.out]; exact HO2.out, HG2.out, HE2.out⟩
          | (simp [intOf]; omega)
    · obtain rfl : k = l := by omega
      go_wp2_with fail
      go_ret
      exact ⟨B, d, by rw [HRL.out]; rfl, by rw [HRR.out]; exact HO.out, HE.out⟩
end Go.Proofs.Ytedfmjijemcpaaa
