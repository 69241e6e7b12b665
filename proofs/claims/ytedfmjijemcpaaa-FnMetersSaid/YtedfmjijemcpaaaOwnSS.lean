/- Contracts of the laws' helpers on slices of slices of ints: eqIntSS, markIntSS, heldIntSS. -/
import Derived.Test.YtedfmjijemcpaaaSS
namespace Go.Proofs.Ytedfmjijemcpaaa
open Go.RowKit

def szSS : List (List Int) → Nat
  | [] => 0
  | x :: xs => szS x + szSS xs
def mkSS : List (List Int) → Int → List (List Int)
  | [], _ => []
  | x :: xs, k => mkS x k :: mkSS xs (k + szS x)
theorem szSS_snoc (xs : List (List Int)) (x : List Int) : szSS (xs ++ [x]) = szSS xs + szS x := by
  induction xs with
  | nil => simp [szSS]
  | cons y ys ih => simp [szSS, ih, Nat.add_assoc]
theorem mkSS_len (xs : List (List Int)) : ∀ k, (mkSS xs k).length = xs.length := by
  induction xs with
  | nil => intro k; rfl
  | cons y ys ih => intro k; simp [mkSS, ih]
theorem mkSS_snoc (xs : List (List Int)) (x : List Int) : ∀ k, mkSS (xs ++ [x]) k = mkSS xs k ++ [mkS x (k + szSS xs)] := by
  induction xs with
  | nil => intro k; simp [mkSS, szSS]
  | cons y ys ih => intro k; simp [mkSS, szSS, ih, Int.add_assoc]
theorem takeSS_snoc (xs : List (List Int)) (k : Nat) (h : k < xs.length) : xs.take (k + 1) = xs.take k ++ [xs.getD k []] := by
  rw [List.take_succ_eq_append_getElem h]
  simp [List.getD, h]
theorem mkSS_getD (xs : List (List Int)) : ∀ (k : Int) (j : Nat), j < xs.length → (mkSS xs k).getD j [] = mkS (xs.getD j []) (k + szSS (xs.take j)) := by
  induction xs with
  | nil => intro k j h; simp at h
  | cons y ys ih =>
    intro k j h
    cases j with
    | zero => simp [mkSS, szSS]
    | succ j =>
      have := ih (k + szS y) j (by simpa using h)
      simp only [mkSS, List.getD_cons_succ, List.take_succ_cons, szSS]
      rw [this]
      congr 1
      omega
theorem szSS_take (xs : List (List Int)) : ∀ j, szSS (xs.take j) ≤ szSS xs := by
  induction xs with
  | nil => intro j; simp [szSS]
  | cons y ys ih =>
    intro j
    cases j with
    | zero => simp [szSS]
    | succ j => have := ih j; simp only [List.take_succ_cons, szSS]; omega
theorem szSS_at (xs : List (List Int)) (j : Nat) (h : j < xs.length) : szSS (xs.take j) + szS (xs.getD j []) ≤ szSS xs := by
  have := szSS_take xs (j + 1)
  rw [takeSS_snoc xs j h, szSS_snoc] at this
  exact this
/-- The first j rows are marked. -/
def markSSTo (xs : List (List Int)) (k : Int) (j : Nat) : List (List Int) := mkSS (xs.take j) k ++ xs.drop j
theorem markSSTo_len (xs : List (List Int)) (k : Int) (j : Nat) (h : j ≤ xs.length) : (markSSTo xs k j).length = xs.length := by simp [markSSTo, mkSS_len]; omega
theorem markSSTo_getD (xs : List (List Int)) (k : Int) (j : Nat) (h : j < xs.length) : (markSSTo xs k j).getD j [] = xs.getD j [] := by
  have hl : (mkSS (xs.take j) k).length = j := by rw [mkSS_len]; simp; omega
  unfold markSSTo
  simp only [List.getD]
  rw [List.getElem?_append_right (by omega), hl]
  simp
theorem markSSTo_set (xs : List (List Int)) (k : Int) (j : Nat) (h : j < xs.length) : (markSSTo xs k j).set j (mkS (xs.getD j []) (k + szSS (xs.take j))) = markSSTo xs k (j + 1) := by
  have hl : (mkSS (xs.take j) k).length = j := by rw [mkSS_len]; simp; omega
  unfold markSSTo
  rw [List.set_append, if_neg (by omega), hl, Nat.sub_self, takeSS_snoc xs j h, mkSS_snoc, List.append_assoc]
  congr 1
  rw [List.drop_eq_getElem_cons h, List.set_cons_zero]
  rfl
theorem markSSTo_zero (xs : List (List Int)) (k : Int) : markSSTo xs k 0 = xs := by simp [markSSTo, mkSS]
theorem markSSTo_all (xs : List (List Int)) (k : Int) : markSSTo xs k xs.length = mkSS xs k := by simp [markSSTo]

theorem markS_big {w : World} {L U : Nat} {v : Value} {xs : List Int} (h : OwnS w L U v xs) (k0 : Int) (h0 : 0 ≤ k0) (h1 : k0 ≤ 4503599627370496) (hn : szS xs ≤ 1099511627776) :
    Calls Try.prog 25 #[v, .int .i64 k0] w fun e w' => e = .returned (.int .i64 (k0 + szS xs)) ∧ OwnS w' L U v (mkS xs k0) ∧ Fr L U w w' := by
  obtain ⟨A, c, rfl, ho, hb, hu⟩ := h
  unfold szS at hn
  refine (markIntS_any L A c xs k0 w ho h0 (by omega)).mono fun e w' ⟨h1, h2, h3⟩ => ⟨h1, ⟨A, c, ?_, ?_, hb, Nat.le_trans hu h3.size⟩, Fr.of_row h3 fun a ha => ⟨(ho.lt a ha).1, hb a ha⟩⟩
  · simp [mkS, marks_length]
  · exact h2
theorem heldS_big {w : World} {L U : Nat} {v : Value} {xs : List Int} (k0 : Int) (h : OwnS w L U v (mkS xs k0)) (h0 : 0 ≤ k0) (h1 : k0 ≤ 4503599627370496) (hn : szS xs ≤ 1099511627776) :
    Calls Try.prog 26 #[v, .int .i64 k0] w fun e w' => e = .returned (.int .i64 (k0 + szS xs)) ∧ Ext w w' := by
  obtain ⟨A, c, rfl, ha⟩ := h.rd
  have e : (mkS xs k0).length = xs.length := by simp [mkS, marks_length]
  rw [e]
  unfold szS at hn
  refine (heldIntS_any A c xs.length k0 w ha h0 (by omega)).mono fun e w' ⟨h1, h2⟩ => ⟨h1, ?_⟩
  rw [← h2]
  exact Ext.refl w

theorem Fr.any {M L U : Nat} {w w' : World} (f : Fr M M w w') : Fr L U w w' := ⟨f.os, f.tape, f.output, f.size, fun k hk _ => f.block k hk (by omega)⟩

/-- One row of a slice of rows: it can be read, and turned. -/
theorem OwnSS.at_ {w : World} {L U : Nat} {A : Option Addr} {n c : Nat} {xss : List (List Int)} (h : OwnSS w L U (.slice A n c) xss) (k : Nat) (hk : k < xss.length) :
    ∃ b o A' c' L' M', A = some ⟨b, o, none⟩ ∧ w.cell? ⟨b, o + k, none⟩ = some (.slice A' (xss.getD k []).length c') ∧ OwnS w L' M' (.slice A' (xss.getD k []).length c') (xss.getD k []) ∧
      ∀ w' y, Fr L' M' w w' → OwnS w' L' M' (.slice A' (xss.getD k []).length c') y → OwnSS w' L U (.slice A n c) (xss.set k y) ∧ Fr L U w w' := by
  obtain ⟨A1, c1, vs, e, ho, hb, hi⟩ := h
  injection e with e1 e2 e3
  subst e1 e3
  have hl := hi.len
  obtain ⟨b, o, u, hA, hu, hc⟩ := ho.rd.one k (by omega)
  obtain ⟨v, L', M', hv, h1, h2, h3, h4⟩ := hi.pick k hk
  obtain rfl : u = v := by rw [hu] at hv; injection hv
  obtain ⟨A', c', rfl, hoi, hbi, hui⟩ := h3
  have hlen : ∀ y : List Int, (xss.set k y).length = xss.length := fun y => by simp
  cases A' with
  | none =>
    refine ⟨b, o, none, c', M', M', hA, hc, ⟨none, c', rfl, ?_, fun a ha => by simp at ha, hui⟩, fun w' y f hy => ?_⟩
    · refine ⟨hoi.1, ?_⟩
      rcases hoi.2 with h5 | ⟨g, cap, cur, e, _⟩
      · exact Or.inl h5
      · simp at e
    · obtain ⟨A2, c2, e2', h5, h6, h7⟩ := hy
      injection e2' with e4 e5 e6
      subst e4 e6
      refine ⟨⟨A, c, vs, by rw [hlen, e2], ho.kept (fun a ha => f.block _ (ho.lt a ha).2 (by omega)), hb, h4 w' y f.any ⟨none, c', by rw [e5], ?_, fun a ha => by simp at ha, h7⟩⟩, f.any⟩
      refine ⟨h5.1, ?_⟩
      rcases h5.2 with h5 | ⟨g, cap, cur, e, _⟩
      · exact Or.inl h5
      · simp at e
  | some a =>
    have hlt := hoi.lt a rfl
    have hub := hbi a rfl
    have hfull := hoi
    obtain ⟨g, cap, cur, e, h5, hg, hrest⟩ : ∃ g cap cur, Value.slice (some a) (xss.getD k []).length c' = .slice (some ⟨g, 0, none⟩) (xss.getD k []).length cap ∧ L' ≤ g ∧ w.heap[g]? = some (.cells cur 3 (0, 0)) ∧ _ := by
      rcases hoi.2 with ⟨h5, _⟩ | h5
      · cases h5
      · exact h5
    injection e with e4 e5 e6
    injection e4 with e4
    subst e4
    refine ⟨b, o, _, c', g, g + 1, hA, hc, ⟨_, c', rfl, ?_, fun a ha => by injection ha with ha; subst ha; simp, by simp at hlt; omega⟩, fun w' y f hy => ?_⟩
    · refine ⟨hfull.1, ?_⟩
      exact Or.inr ⟨g, cap, cur, by rw [e6], Nat.le_refl _, hg, hrest⟩
    · have hf : Fr L' M' w w' := f.mono h5 (Nat.succ_le_of_lt hub)
      refine ⟨⟨A, c, vs, by rw [hlen, e2], ho.kept (fun ad had => f.block _ (ho.lt ad had).2 ?_), hb, h4 w' y hf ?_⟩, hf.mono h1 h2⟩
      · have := ho.ne hfull ad had
        omega
      · obtain ⟨A2, c2, e2', h51, h6, h7⟩ := hy
        injection e2' with e4' e5' e6'
        subst e4' e6'
        exact ⟨_, _, by rw [e5'], h51.lower h5, fun a ha => by injection ha with ha; subst ha; simpa using hub, Nat.le_trans hui hf.size⟩

theorem OwnSS.cap {w : World} {L U : Nat} {A : Option Addr} {n c : Nat} {xss : List (List Int)} (h : OwnSS w L U (.slice A n c) xss) : n = xss.length ∧ n ≤ 9223372036854775807 := by
  obtain ⟨A1, c1, vs, e, ho, hb, hi⟩ := h
  injection e with e1 e2 e3
  obtain ⟨_, _, _, h1, h2⟩ := own_form ho
  have := hi.len
  simp only [maxLen] at h2
  omega

end Go.Proofs.Ytedfmjijemcpaaa
