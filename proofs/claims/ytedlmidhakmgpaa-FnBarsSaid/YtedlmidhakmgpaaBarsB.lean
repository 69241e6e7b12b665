/- Contracts of CountBars, BarsOf. -/
import Derived.Test.YtedlmidhakmgpaaBars
import Derived.Deep.RegionLaw
import Derived.Deep.AppendLies
namespace Go.Proofs.Ytedlmidhakmgpaa
open Go.RowKit

def cbF (n : Int) : Int := if inB n 0 24 = true then (barsL n.toNat).length else -1

theorem cbI_any (n : Int) (w : World) : Calls Try.prog 14 #[.int .i64 n] w fun e w' => e = .returned (.int .i64 (cbF n)) ∧ Ext w w' := by
  by_cases h : inB n 0 24 = true
  · have e : cbF n = (barsL n.toNat).length := by unfold cbF; rw [if_pos h]
    rw [e]
    have h' := inB_iff.1 h
    obtain ⟨k, rfl⟩ := Int.eq_ofNat_of_zero_le h'.1
    have CB := Lib.hid (barsFrom_any k (by omega) none 0 [] w (Rd.nil _ _ _) (by simp; omega))
    have hl := barsL_len k (by omega)
    rw [Int.toNat_natCast]
    clear e h'
    go_enter Try.func14, Try.ntmps14
    go_wp2_with fail
    refine (within_any _ _ _ _).mono ?_
    rintro e w1 ⟨rfl, rfl⟩
    go_wp2_with fail
    refine CB.out.mono ?_
    rintro e w2 ⟨v, rfl, ho, he⟩
    obtain ⟨A, c, l, vs, rfl, hll, _, _⟩ := ho.parts
    have HE := Lib.hid he
    have HL : Hid (l = (barsL k).length) := by rw [hll]; simp [Hid]
    clear ho he hll
    go_wp2_with fail
    go_ret
    exact ⟨ret_int (by rw [HL.out]), HE.out⟩
  · have h : inB n 0 24 = false := by simpa using h
    have e : cbF n = -1 := by unfold cbF; rw [h]; rfl
    rw [e]
    clear e
    go_enter Try.func14, Try.ntmps14
    go_wp2_with fail
    refine (within_any _ _ _ _).mono ?_
    rintro e w1 ⟨rfl, rfl⟩
    go_wp2_with fail
    go_ret
    exact ⟨rfl, Ext.refl _⟩

/-- 'out = append(out, v)' as a step of a region that draws its order. -/
theorem step_int {ops : Array Oper} {o : Oper} {a : Act} {K : Act → World → Prop} {Q : Exit → Act → World → Prop} {E : Prop} (wb w0 : World) (hgd : o.guard = none) (s x : Operand)
    (ho : o.op = .call { callee := .builtin .append, args := #[s, x], argTypes := #[24, 24] })
    (A : Option Addr) (c n : Nat) (xs : List Int) (v : Int) (g : Nat) (hs : a.eval s = .slice A n c) (hx : a.eval x = .slice (some ⟨g, 0, none⟩) 1 1) (hgg : w0.heap.size = g)
    (hl : xs.length = n) (hown : OwI w0 wb.heap.size A c xs) (he : Ext wb w0) (hn : n < 1099511627776)
    (h : ∀ A' c' w', OwI w' wb.heap.size A' c' (xs ++ [v]) → Ext wb w' → K (a.put o.dst (.slice A' (n + 1) c')) w') :
    if Region.wanted o (yielded ops a.tmps) = true then Oper.wp Try.prog o a (w0.alloc (.cells #[.int .i64 v] 3)) K Q else E := by
  subst hl
  subst hgg
  obtain ⟨i0, hi, hz0, hz1, hz2⟩ := info_parts info_int
  refine step_append_lies _ hgd s x 24 ho wb.heap.size 3 i0 (.int .i64 0) 1 8 Try.underlying24 hi hz0 hz1 hz2 rfl (by decide) _ xs.length (xs.map (Value.int .i64)) hs (World.ownsRow.alloc hown _)
    ⟨w0.heap.size, 0, none⟩ 1 1 [.int .i64 v] hx rfl (cell_one_new _ _ _) (by simp [Value.oneCell']) (by omega) (by simp only [maxLen]; omega) (by omega) (by simp; exact Nat.le_succ_of_le he.size) _ rfl ?_
  intro g cap w' hown' hg _ _
  have hl' : (xs ++ [v]).length = xs.length + 1 := by simp
  have ho' : OwI w' wb.heap.size (some ⟨g, 0, none⟩) cap (xs ++ [v]) := by
    unfold OwI
    rw [hl', List.map_append]
    exact hown'
  exact h _ cap w' ho' (Ext.grown (he.alloc _) hg (fun k hk => (World.ownsRow.lt hown k hk).1))

/-- The first m numbers of bars. -/
def padL (m : Nat) : List Int := (List.range m).map fun i => ((barsL i).length : Int)
theorem padL_len (m : Nat) : (padL m).length = m := by simp [padL]
theorem padL_get {m k : Nat} (h : k < m) : (padL m).getD k 0 = (barsL k).length := by simp [padL, List.getD, h]
theorem padL_snoc (m : Nat) : padL (m + 1) = padL m ++ [((barsL m).length : Int)] := by simp [padL, List.range_succ]
theorem barsL_add (m : Nat) : (barsL (m + 3)).length = (barsL (m + 1)).length + (barsL m).length := by simp [barsL]

set_option maxHeartbeats 1000000 in
theorem cbS_any (n : Int) (w : World) : Calls Try.prog 13 #[.int .i64 n] w fun e w' => e = .returned (.int .i64 (cbF n)) ∧ Ext w w' := by
  by_cases h : inB n 0 24 = true
  · have e : cbF n = (barsL n.toNat).length := by unfold cbF; rw [if_pos h]
    rw [e]
    have h' := inB_iff.1 h
    obtain ⟨N, rfl⟩ := Int.eq_ofNat_of_zero_le h'.1
    rw [Int.toNat_natCast]
    have hN : N ≤ 24 := by omega
    clear e h'
    go_enter Try.func13, Try.ntmps13
    go_wp2_with fail
    refine (l01In_any _ _ _ _).mono ?_
    rintro e w1 ⟨rfl, rfl⟩
    go_wp2_with fail
    go_loopw [3] (fun o wr => ∃ (m : Nat) (A : Option Addr) (c : Nat), 3 ≤ m ∧ m ≤ 25 ∧ o = .slice A m c ∧ Hid (OwI wr w.heap.size A c (padL m)) ∧ Hid (Ext w wr)) (fun o _ => match o with | .slice _ m _ => 30 - m | _ => 0)
    case atStart =>
      refine ⟨3, _, _, by omega, by omega, rfl, ?_, (Ext.refl w).alloc _⟩
      have : OwI (w.alloc (.cells #[.int .i64 1, .int .i64 0, .int .i64 1] 3)) w.heap.size (some ⟨w.heap.size, 0, none⟩) 3 (padL 3) := World.ownsRow_lit w #[.int .i64 1, .int .i64 0, .int .i64 1] 3 (Nat.le_refl _) (by simp [maxLen]) rfl
      exact this
    case round =>
      obtain ⟨m, A, c, h3, h25, rfl, HO, HE⟩ := hrel
      by_cases hlt : m ≤ N
      · have p1 := (HO.out.rd).at_ (m - 2) (by rw [padL_len]; omega)
        have p2 := (HO.out.rd).at_ (m - 3) (by rw [padL_len]; omega)
        rw [padL_get (by omega)] at p1 p2
        obtain ⟨b, o, rfl, hc1⟩ := p1
        obtain ⟨b', o', e', hc2⟩ := p2
        injection e' with e'
        injection e' with e1 e2 _
        subst e1 e2
        have b1 := barsL_len (m - 2) (by omega)
        have b2 := barsL_len (m - 3) (by omega)
        have hadd := barsL_add (m - 3)
        rw [show m - 3 + 3 = m by omega, show m - 3 + 1 = m - 2 by omega] at hadd
        obtain ⟨x, hx⟩ : ∃ x, x = (barsL (m - 2)).length := ⟨_, rfl⟩
        obtain ⟨y, hy⟩ : ∃ y, y = (barsL (m - 3)).length := ⟨_, rfl⟩
        rw [← hx] at hc1 b1 hadd
        rw [← hy] at hc2 b2 hadd
        have HA := Lib.hid hadd
        clear hadd hx hy
        have i1 : (2 : Int) ≤ m := by omega
        have i2 : (3 : Int) ≤ m := by omega
        have i3 : (m : Int) - 2 < m := by omega
        have i4 : (m : Int) - 3 < m := by omega
        go_wp2_with fail
        have s1 : ((m : Int) - 2).toNat = m - 2 := by omega
        have s2 : ((m : Int) - 3).toNat = m - 3 := by omega
        have s3 : IntKind.i64.wrap ((m : Int) - 2) = (m : Int) - 2 := IntWalk.i64_in _ (by omega)
        have s4 : IntKind.i64.wrap ((m : Int) - 3) = (m : Int) - 3 := IntWalk.i64_in _ (by omega)
        have s5 : IntKind.i64.wrap ((x : Int) + y) = (x : Int) + y := IntWalk.i64_in _ (by omega)
        have HO2 := Lib.hid (HO.out.ext (Ext.drew (Ext.refl _)))
        have HE2 := Lib.hid HE.out.drew
        have hxy : Hid (((x + y : Nat) : Int) = (x : Int) + y) := by simp [Hid]
        go_region_law ((refine step_int w (World.drew wr) (by rfl) _ _ (by rfl) (some ⟨b, o, none⟩) c m (padL m) ((x : Int) + y) (World.drew wr).heap.size (by rfl) (by rfl) rfl (padL_len m) HO2.out HE2.out (by omega) ?_; intro A' c' w2 h1 h2; have HO3 := Lib.hid h1; have HE3 := Lib.hid h2; clear h1 h2))
        all_goals clear hc1 hc2 s1 s2 s3 s4 s5 i1 i2 i3 i4
        all_goals go_simp
        all_goals go_roundw
        all_goals first
          | exact ⟨_, _, _, _, _, _, _, _, _, _, _, _, _, _, _, _, _, _, _, _, _, ⟨m + 1, A', c', by omega, by omega, rfl, by rw [padL_snoc, HA.out, hxy.out]; exact HO3.out, HE3.out⟩, rfl⟩
          | omega
          | (show 30 - (m + 1) < 30 - m; omega)
      · have p1 := (HO.out.rd).at_ N (by rw [padL_len]; omega)
        rw [padL_get (by omega)] at p1
        obtain ⟨b, o, rfl, hc1⟩ := p1
        have hb := barsL_len N hN
        go_wp2_with fail
        go_ret
        exact ⟨rfl, HE.out⟩
  · have h : inB n 0 24 = false := by simpa using h
    have e : cbF n = -1 := by unfold cbF; rw [h]; rfl
    rw [e]
    clear e
    go_enter Try.func13, Try.ntmps13
    go_wp2_with fail
    refine (l01In_any _ _ _ _).mono ?_
    rintro e w1 ⟨rfl, rfl⟩
    go_wp2_with fail
    go_ret
    exact ⟨rfl, Ext.refl _⟩
end Go.Proofs.Ytedlmidhakmgpaa
