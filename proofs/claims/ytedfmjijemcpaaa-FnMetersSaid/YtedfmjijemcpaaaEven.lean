/- Contracts of the even rhythms. -/
import Derived.Test.YtedfmjijemcpaaaMap
import Derived.Deep.RegionLaw
import Derived.Deep.AppendLies
namespace Go.Proofs.Ytedfmjijemcpaaa
open Go.RowKit

def evL (k n : Nat) : List Int := (List.range k).map fun i => ((i * n / k : Nat) : Int)
def evP (k n j : Nat) : List Int := (List.range j).map fun i => ((i * n / k : Nat) : Int)
theorem evP_snoc (k n j : Nat) : evP k n (j + 1) = evP k n j ++ [((j * n / k : Nat) : Int)] := by simp [evP, List.range_succ]
theorem evP_len (k n j : Nat) : (evP k n j).length = j := by simp [evP]
theorem ev_rhy : ∀ k n : Nat, 1 ≤ n → n ≤ 24 → k ≤ n → rhyB n (evL k n) = true := by
  have h : ∀ (n k : Fin 25), (decide (1 ≤ n.val) = true → decide (k.val ≤ n.val) = true → rhyB (n.val : Int) (evL k.val n.val) = true) := by decide +kernel
  exact fun k n h0 h1 h2 => h ⟨n, by omega⟩ ⟨k, by omega⟩ (by simpa using h0) (by simpa using h2)
theorem ev_set {k n : Nat} (h0 : 1 ≤ n) (h1 : n ≤ 24) (h2 : k ≤ n) : setL n (fun p : Nat => (evL k n).contains (p : Int)) = evL k n := by
  obtain ⟨a, b⟩ := rhy_up (ev_rhy k n h0 h1 h2)
  exact (up_setEq a b).symm

/-- 'out = append(out, v)' as a step of a region that draws its order; what has grown is told. -/
theorem step_int2 {ops : Array Oper} {o : Oper} {a : Act} {K : Act → World → Prop} {Q : Exit → Act → World → Prop} {E : Prop} (wb w0 : World) (hgd : o.guard = none) (s x : Operand)
    (ho : o.op = .call { callee := .builtin .append, args := #[s, x], argTypes := #[23, 23] })
    (A : Option Addr) (c n : Nat) (xs : List Int) (v : Int) (g : Nat) (hs : a.eval s = .slice A n c) (hx : a.eval x = .slice (some ⟨g, 0, none⟩) 1 1) (hgg : w0.heap.size = g)
    (hl : xs.length = n) (hown : OwI w0 wb.heap.size A c xs) (he : Ext wb w0) (hn : n < 1099511627776)
    (h : ∀ A' c' w', OwI w' wb.heap.size A' c' (xs ++ [v]) → Ext wb w' → (w0.alloc (.cells #[.int .i64 v] 3)).grownBy w' (A.map (·.block)) → K (a.put o.dst (.slice A' (n + 1) c')) w') :
    if Region.wanted o (yielded ops a.tmps) = true then Oper.wp Try.prog o a (w0.alloc (.cells #[.int .i64 v] 3)) K Q else E := by
  subst hl
  subst hgg
  obtain ⟨i0, hi, hz0, hz1, hz2⟩ := info_parts info_int
  refine step_append_lies _ hgd s x 23 ho wb.heap.size 3 i0 (.int .i64 0) 1 8 Try.underlying23 hi hz0 hz1 hz2 rfl (by decide) _ xs.length (xs.map (Value.int .i64)) hs (World.ownsRow.alloc hown _)
    ⟨w0.heap.size, 0, none⟩ 1 1 [.int .i64 v] hx rfl (cell_one_new _ _ _) (by simp [Value.oneCell']) (by omega) (by simp only [maxLen]; omega) (by omega) (by simp; exact Nat.le_succ_of_le he.size) _ rfl ?_
  intro g cap w' hown' hg _ _
  have hl' : (xs ++ [v]).length = xs.length + 1 := by simp
  have ho' : OwI w' wb.heap.size (some ⟨g, 0, none⟩) cap (xs ++ [v]) := by
    unfold OwI
    rw [hl', List.map_append]
    exact hown'
  exact h _ cap w' ho' (Ext.grown (he.alloc _) hg (fun k hk => (World.ownsRow.lt hown k hk).1)) (by cases A <;> exact hg)

theorem ev_start (w : World) (x : Obj) : OwI ((w.alloc x).alloc (.cells #[] 3)) w.heap.size (some ⟨w.heap.size + 1, 0, none⟩) 0 [] := by
  have h := own_empty1 w (w.alloc x) ((Ext.refl w).alloc x).size
  rwa [show (w.alloc x).heap.size = w.heap.size + 1 by simp] at h
set_option maxHeartbeats 2000000 in
theorem evS_any (k n : Nat) (w : World) (h0 : 1 ≤ n) (h1 : n ≤ 24) (h2 : k ≤ n) :
    Calls Try.prog 37 #[.int .i64 k, .int .i64 n, .int .i64 0] w (RetR w ((n : Int), evL k n)) := by
  obtain ⟨zs, hzs⟩ : ∃ zs, zs = evL k n := ⟨_, rfl⟩
  have CO : Hid (∀ (B : Option Addr) (d : Nat) (W : World), RdI W B (evP k n k) → Calls Try.prog 54 #[.int .i64 n, .slice B k d] W (RetR W ((n : Int), zs))) := fun B d W h => by
    have := l02Of_any n B d (evP k n k) W h h1 (by rw [evP_len]; omega)
    rw [evP_len] at this
    rw [hzs, ← ev_set h0 h1 h2]
    exact this
  rw [← hzs]
  clear hzs
  go_enter Try.func37, Try.ntmps37
  go_wp2_with fail
  go_loopw [7, 8] (fun o i wr => ∃ (j : Nat) (B : Option Addr) (d : Nat), j ≤ k ∧ i = .int .i64 j ∧ o = .slice B j d ∧ Hid (Bx2 wr w.heap.size 29 (.int .i64 0) (.slice none 0 0)) ∧ Hid (OwI wr w.heap.size B d (evP k n j)) ∧ Hid (Ext w wr)) (fun _ i _ => k - (intOf i).toNat)
  case atStart => exact ⟨0, _, _, by omega, rfl, rfl, (Bx2.new w _ _ _).ext ((Ext.refl _).alloc _), ev_start w _, ((Ext.refl w).alloc _).alloc _⟩
  case round =>
    obtain ⟨j, B, d, hj, rfl, rfl, HQ, HO, HE⟩ := hrel
    by_cases hlt : j < k
    · obtain ⟨p, hp⟩ : ∃ p, p = j * n := ⟨_, rfl⟩
      have hpl : p ≤ 576 := by rw [hp]; exact Nat.le_trans (Nat.mul_le_mul (show j ≤ 24 by omega) h1) (by omega)
      obtain ⟨q, hq⟩ : ∃ q, q = p / k := ⟨_, rfl⟩
      have hql : q ≤ p := by rw [hq]; exact Nat.div_le_self _ _
      have hw : IntKind.i64.wrap ((j : Int) * n) = (p : Int) := by rw [hp, Int.natCast_mul]; exact IntWalk.i64_in _ (by rw [← Int.natCast_mul, ← hp]; omega)
      have hd : (p : Int) / (k : Int) = (q : Int) := by rw [hq]; simp
      have HS : Hid (evP k n (j + 1) = evP k n j ++ [(q : Int)]) := by rw [evP_snoc, hq, hp]; exact rfl
      have HLJ := Lib.hid (evP_len k n j)
      clear hp hq
      go_wp2_with (at_builtin; refine app_ints w rfl _ _ rfl B d j (evP k n j) _ 1 1 [(q : Int)] rfl rfl HLJ.out rfl (HO.out.ext ((Ext.refl _).alloc _)) (RdI.built wr [(q : Int)]) (HE.out.alloc _) (by omega) ?_; intro A' c' w3 h1 h2 h3; have HO3 := Lib.hid h1; have HE3 := Lib.hid h2; have HQ3 := Lib.hid ((HQ.out.ext ((Ext.refl _).alloc _)).grown (by decide) (HO.out.ext ((Ext.refl _).alloc _)) h3); clear h1 h2 h3)
      go_roundw
      case rel => exact ⟨j + 1, A', c', by omega, by go_num, rfl, HQ3.out, by rw [HS.out]; exact HO3.out, HE3.out⟩
      case measure => simp [intOf]; omega
    · obtain rfl : j = k := by omega
      go_wp2_with fail
      refine (CO.out _ _ _ HO.out.rd).mono ?_
      intro e w2 hret
      obtain ⟨A2, c2, rfl, ho, he⟩ := hret.parts
      have HQ2 := Lib.hid (HQ.out.ext he)
      have HE2 := Lib.hid (HE.out.trans he)
      have HO3 := Lib.hid (ho.lower HE.out.size)
      have HNE : Hid (∀ ad, A2 = some ad → ad.block ≠ w.heap.size) := fun ad had => HQ2.out.ne (by decide) HO3.out ad had
      clear ho he hret
      obtain ⟨q2, q3, p2, p3⟩ := HQ2.out.cells
      go_wp2_with fail
      refine bodyPost_ret (v := .agg #[.int .i64 n, .slice A2 zs.length c2]) (by simp [results, Try.results37, go_sem, q2, q3]) rfl ?_
      exact retR_intro rfl ((HO3.out.setFar HNE.out _).setFar HNE.out _) ((HE2.out.setCell (by simp) _).setCell (by simp) _)

theorem ev_nums (k n j : Nat) (h1 : n ≤ 24) (h2 : k ≤ n) (hlt : j < k) : ∃ p q : Nat, p ≤ 576 ∧ q ≤ p ∧ IntKind.i64.wrap ((j : Int) * n) = (p : Int) ∧ (p : Int) / (k : Int) = (q : Int) ∧ (p : Int).tdiv k = (q : Int) ∧
    IntKind.i64.wrap (p : Int) = (p : Int) ∧ IntKind.i64.wrap (q : Int) = (q : Int) ∧ wrap64 (q : Int) = (q : Int) ∧ wrap64 (p : Int) = (p : Int) ∧ evP k n (j + 1) = evP k n j ++ [(q : Int)] := by
  obtain ⟨p, hp⟩ : ∃ p, p = j * n := ⟨_, rfl⟩
  obtain ⟨q, hq⟩ : ∃ q, q = p / k := ⟨_, rfl⟩
  have hpl : p ≤ 576 := by rw [hp]; exact Nat.le_trans (Nat.mul_le_mul (show j ≤ 24 by omega) h1) (by omega)
  have hql : q ≤ p := by rw [hq]; exact Nat.div_le_self _ _
  have hd : (p : Int) / (k : Int) = (q : Int) := by rw [hq]; simp
  have hw : IntKind.i64.wrap ((j : Int) * n) = (p : Int) := by rw [hp, Int.natCast_mul]; exact IntWalk.i64_in _ (by rw [← Int.natCast_mul, ← hp]; omega)
  have hS : evP k n (j + 1) = evP k n j ++ [(q : Int)] := by rw [evP_snoc, hq, hp]
  clear hp hq
  have htd : (p : Int).tdiv k = (q : Int) := by rw [Int.tdiv_eq_ediv_of_nonneg (Int.natCast_nonneg _), hd]
  refine ⟨p, q, hpl, hql, hw, hd, htd, ?_, ?_, ?_, ?_, hS⟩
  · exact IntWalk.i64_in _ (by clear hd htd hw; omega)
  · exact IntWalk.i64_in _ (by clear hd htd hw; omega)
  · exact IntWalk.wrap64_in _ (by clear hd htd hw; omega)
  · exact IntWalk.wrap64_in _ (by clear hd htd hw; omega)

end Go.Proofs.Ytedfmjijemcpaaa
