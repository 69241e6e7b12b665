/- Contracts of the laws' helpers on slices of rhythms: eqRhythmS, markRhythmS, heldRhythmS. -/
import Derived.Test.YtphpdanohooccaaGreatDoorRhyB
import Derived.Test.YtphpdanohooccaaGreatDoorRS
import Derived.Deep.RegionHeld3
namespace Go.Proofs.YtphpdanohooccaaGreatDoor
open Go.RowKit

def szRS : List (Int × List Int) → Nat
  | [] => 0
  | r :: rs => 1 + r.2.length + szRS rs
def mkRS : List (Int × List Int) → Int → List (Int × List Int)
  | [], _ => []
  | r :: rs, k => (k, mkS r.2 (k + 1)) :: mkRS rs (k + (1 + r.2.length : Nat))
theorem szRS_snoc (rs : List (Int × List Int)) (r : Int × List Int) : szRS (rs ++ [r]) = szRS rs + (1 + r.2.length) := by
  induction rs with
  | nil => simp [szRS]
  | cons y ys ih => simp [szRS, ih, Nat.add_assoc]
theorem mkRS_len (rs : List (Int × List Int)) : ∀ k, (mkRS rs k).length = rs.length := by
  induction rs with
  | nil => intro k; rfl
  | cons y ys ih => intro k; simp [mkRS, ih]
theorem mkRS_snoc (rs : List (Int × List Int)) (r : Int × List Int) : ∀ k, mkRS (rs ++ [r]) k = mkRS rs k ++ [(k + szRS rs, mkS r.2 (k + szRS rs + 1))] := by
  induction rs with
  | nil => intro k; simp [mkRS, szRS]
  | cons y ys ih => intro k; simp [mkRS, szRS, ih, Int.add_assoc]
theorem takeRS_snoc (rs : List (Int × List Int)) (k : Nat) (h : k < rs.length) : rs.take (k + 1) = rs.take k ++ [rs.getD k (0, [])] := by
  rw [List.take_succ_eq_append_getElem h]
  simp [List.getD, h]
theorem mkRS_getD (rs : List (Int × List Int)) : ∀ (k : Int) (j : Nat), j < rs.length → (mkRS rs k).getD j (0, []) = (k + szRS (rs.take j), mkS (rs.getD j (0, [])).2 (k + szRS (rs.take j) + 1)) := by
  induction rs with
  | nil => intro k j h; simp at h
  | cons y ys ih =>
    intro k j h
    cases j with
    | zero => simp [mkRS, szRS]
    | succ j =>
      have := ih (k + (1 + y.2.length : Nat)) j (by simpa using h)
      simp only [mkRS, List.getD_cons_succ, List.take_succ_cons, szRS]
      rw [this, Int.natCast_add (1 + y.2.length), ← Int.add_assoc]
theorem szRS_take (rs : List (Int × List Int)) : ∀ j, szRS (rs.take j) ≤ szRS rs := by
  induction rs with
  | nil => intro j; simp [szRS]
  | cons y ys ih =>
    intro j
    cases j with
    | zero => simp [szRS]
    | succ j => have := ih j; simp only [List.take_succ_cons, szRS]; omega
theorem szRS_at (rs : List (Int × List Int)) (j : Nat) (h : j < rs.length) : szRS (rs.take j) + (1 + (rs.getD j (0, [])).2.length) ≤ szRS rs := by
  have := szRS_take rs (j + 1)
  rw [takeRS_snoc rs j h, szRS_snoc] at this
  exact this
/-- The first j rhythms are marked. -/
def markRSTo (rs : List (Int × List Int)) (k : Int) (j : Nat) : List (Int × List Int) := mkRS (rs.take j) k ++ rs.drop j
theorem markRSTo_len (rs : List (Int × List Int)) (k : Int) (j : Nat) (h : j ≤ rs.length) : (markRSTo rs k j).length = rs.length := by simp [markRSTo, mkRS_len]; omega
theorem markRSTo_getD (rs : List (Int × List Int)) (k : Int) (j : Nat) (h : j < rs.length) : (markRSTo rs k j).getD j (0, []) = rs.getD j (0, []) := by
  have hl : (mkRS (rs.take j) k).length = j := by rw [mkRS_len]; simp; omega
  unfold markRSTo
  simp only [List.getD]
  rw [List.getElem?_append_right (by omega), hl]
  simp
theorem markRSTo_set (rs : List (Int × List Int)) (k : Int) (j : Nat) (h : j < rs.length) : (markRSTo rs k j).set j (k + szRS (rs.take j), mkS (rs.getD j (0, [])).2 (k + szRS (rs.take j) + 1)) = markRSTo rs k (j + 1) := by
  have hl : (mkRS (rs.take j) k).length = j := by rw [mkRS_len]; simp; omega
  unfold markRSTo
  rw [List.set_append, if_neg (by omega), hl, Nat.sub_self, takeRS_snoc rs j h, mkRS_snoc, List.append_assoc]
  congr 1
  rw [List.drop_eq_getElem_cons h, List.set_cons_zero]
  rfl
theorem markRSTo_zero (rs : List (Int × List Int)) (k : Int) : markRSTo rs k 0 = rs := by simp [markRSTo, mkRS]
theorem markRSTo_all (rs : List (Int × List Int)) (k : Int) : markRSTo rs k rs.length = mkRS rs k := by simp [markRSTo]

theorem OwI.kept {w w' : World} {B : Nat} {A : Option Addr} {c : Nat} {xs : List Int} (h : OwI w B A c xs) (hb : ∀ a, A = some a → w'.heap[a.block]? = w.heap[a.block]?) : OwI w' B A c xs := by
  refine ⟨h.1, ?_⟩
  rcases h.2 with h2 | ⟨g, cap, cur, e, h3, hg, h5⟩
  · exact Or.inl h2
  · have e' := e
    injection e' with e1 _ _
    exact Or.inr ⟨g, cap, cur, e, h3, (hb _ e1).trans hg, h5⟩
theorem OwQ.kept {w w' : World} {B : Nat} {A : Option Addr} {c : Nat} {es : List (Int × Option Addr × Nat × List Int)} (h : OwQ w B A c es) (hb : ∀ a, A = some a → w'.heap[a.block]? = w.heap[a.block]?) : OwQ w' B A c es := by
  refine ⟨h.1, ?_⟩
  rcases h.2 with h2 | ⟨g, cap, cur, e, h3, hg, h5⟩
  · exact Or.inl h2
  · have e' := e
    injection e' with e1 _ _
    exact Or.inr ⟨g, cap, cur, e, h3, (hb _ e1).trans hg, h5⟩
def vq (e : Int × Option Addr × Nat × List Int) : Int × List Int := (e.1, e.2.2.2)
/-- A slice of rhythms, all from block L up to U. -/
def OwnRS (w : World) (L U : Nat) (v : Value) (rs : List (Int × List Int)) : Prop :=
  ∃ A c es, v = .slice A es.length c ∧ es.map vq = rs ∧ OwQ w L A c es ∧ InQ w L es ∧ DisQ es ∧ (∀ a, A = some a → a.block < U) ∧ (∀ e ∈ es, ∀ a : Addr, e.2.1 = some a → a.block < U) ∧ U ≤ w.heap.size
theorem RetQ.own {w w' : World} {rs : List (Int × List Int)} {e : Ending} (h : RetQ w rs e w') : ∃ v, e = .returned v ∧ OwnRS w' w.heap.size w'.heap.size v rs ∧ Ext w w' := by
  obtain ⟨A, c, es, rfl, hz, ho, hi, hd, he⟩ := h
  exact ⟨_, rfl, ⟨A, c, es, rfl, hz, ho, hi, hd, fun a ha => (ho.lt a ha).2, fun e he a ha => ((hi e he).lt a ha).2, Nat.le_refl _⟩, he⟩
theorem OwnRS.fr {w w' : World} {L U L' U' : Nat} {v : Value} {rs : List (Int × List Int)} (h : OwnRS w L U v rs) (f : Fr L' U' w w') (hd : U ≤ L' ∨ U' ≤ L) : OwnRS w' L U v rs := by
  obtain ⟨A, c, es, e, hv, ho, hi, hdq, hb, hb2, hu⟩ := h
  refine ⟨A, c, es, e, hv, ho.kept (fun a ha => f.block _ (ho.lt a ha).2 (by have := hb a ha; have := (ho.lt a ha).1; omega)), fun x hx => (hi x hx).kept (fun a ha => f.block _ ((hi x hx).lt a ha).2 (by have := hb2 x hx a ha; have := ((hi x hx).lt a ha).1; omega)), hdq, hb, hb2, Nat.le_trans hu f.size⟩
theorem OwnRS.ext {w w' : World} {L U : Nat} {v : Value} {rs : List (Int × List Int)} (h : OwnRS w L U v rs) (f : Ext w w') : OwnRS w' L U v rs := h.fr f.fr (Or.inr (Nat.zero_le _))
theorem disQ_iff (es : List (Int × Option Addr × Nat × List Int)) : DisQ es ↔ (es.map fun e => e.2.1).Pairwise fun a b => ∀ x y : Addr, a = some x → b = some y → x.block ≠ y.block := by
  unfold DisQ
  rw [List.pairwise_map]
theorem DisQ.at_ {es : List (Int × Option Addr × Nat × List Int)} (h : DisQ es) {i j : Nat} (hi : i < es.length) (hj : j < es.length) (hij : i ≠ j) {x y : Addr} (hx : es[i].2.1 = some x) (hy : es[j].2.1 = some y) : x.block ≠ y.block := by
  unfold DisQ at h
  rw [List.pairwise_iff_getElem] at h
  rcases Nat.lt_or_gt_of_ne hij with h1 | h1
  · exact h i j hi hj h1 x y hx hy
  · exact fun e => h j i hj hi h1 y x hy hx e.symm
theorem rowQ_set0 : ∀ (es : List (Int × Option Addr × Nat × List Int)) (k : Nat) (q : Int) (h : k < es.length), rowQ (es.set k (q, es[k].2)) = (rowQ es).set (k * 2) (.int .i64 q)
  | e :: es, 0, q, _ => by simp [rowQ]
  | e :: es, k + 1, q, h => by
    have := rowQ_set0 es k q (by simpa using h)
    have e1 : ∀ (f : Int × Option Addr × Nat × List Int) fs, rowQ (f :: fs) = .int .i64 f.1 :: .slice f.2.1 f.2.2.2.length f.2.2.1 :: rowQ fs := fun _ _ => rfl
    rw [List.set_cons_succ, e1, e1, show (k + 1) * 2 = k * 2 + 1 + 1 by omega, List.set_cons_succ, List.set_cons_succ, List.getElem_cons_succ, this]
theorem rowQ_same : ∀ (es : List (Int × Option Addr × Nat × List Int)) (k : Nat) (y : List Int) (h : k < es.length) (_ : y.length = es[k].2.2.2.length), rowQ (es.set k (es[k].1, es[k].2.1, es[k].2.2.1, y)) = rowQ es
  | e :: es, 0, y, _, hy => by
    have e1 : ∀ (f : Int × Option Addr × Nat × List Int) fs, rowQ (f :: fs) = .int .i64 f.1 :: .slice f.2.1 f.2.2.2.length f.2.2.1 :: rowQ fs := fun _ _ => rfl
    rw [List.set_cons_zero, e1, e1]
    simp at hy
    simp [hy]
  | e :: es, k + 1, y, h, hy => by
    have := rowQ_same es k y (by simpa using h) (by simpa using hy)
    have e1 : ∀ (f : Int × Option Addr × Nat × List Int) fs, rowQ (f :: fs) = .int .i64 f.1 :: .slice f.2.1 f.2.2.2.length f.2.2.1 :: rowQ fs := fun _ _ => rfl
    rw [List.set_cons_succ, e1, e1]
    simp only [List.getElem_cons_succ]
    rw [this]
theorem map_set_same {α β : Type} (f : α → β) : ∀ (l : List α) (k : Nat) (h : k < l.length) (a : α), f a = f l[k] → (l.set k a).map f = l.map f
  | x :: l, 0, _, a, e => by simp at e; simp [e]
  | x :: l, k + 1, h, a, e => by
    have := map_set_same f l k (by simpa using h) a (by simpa using e)
    simp [this]

/-- One rhythm of a slice: it can be read; its size and its beats can be turned. -/
theorem OwnRS.at_ {w : World} {L U : Nat} {A : Option Addr} {n c : Nat} {rs : List (Int × List Int)} (h : OwnRS w L U (.slice A n c) rs) (k : Nat) (hk : k < rs.length) :
    ∃ b o A' c' L' M', A = some ⟨b, o, none⟩ ∧ w.cell? ⟨b, o + k * 2, none⟩ = some (.int .i64 (rs.getD k (0, [])).1) ∧ w.cell? ⟨b, o + k * 2 + 1, none⟩ = some (.slice A' (rs.getD k (0, [])).2.length c') ∧ w.frozen? ⟨b, o + k * 2, none⟩ = false ∧
      OwnS w L' M' (.slice A' (rs.getD k (0, [])).2.length c') (rs.getD k (0, [])).2 ∧
      (∀ w' y, Fr L' M' w w' → OwnS w' L' M' (.slice A' (rs.getD k (0, [])).2.length c') y → OwnRS w' L U (.slice A n c) (rs.set k ((rs.getD k (0, [])).1, y)) ∧ Fr L U w w') ∧
      (∀ q : Int, OwnRS (w.setCell ⟨b, o + k * 2, none⟩ (.int .i64 q)) L U (.slice A n c) (rs.set k (q, (rs.getD k (0, [])).2)) ∧ Fr L U w (w.setCell ⟨b, o + k * 2, none⟩ (.int .i64 q))) := by
  obtain ⟨A1, c1, es, e, hv, ho, hi, hdq, hb, hb2, hu⟩ := h
  injection e with e1 e2 e3
  subst e1 e3
  subst hv
  have hke : k < es.length := by simpa using hk
  have hg : (es.map vq).getD k (0, []) = vq es[k] := by simp [List.getD, hke]
  rw [hg]
  obtain ⟨b, o, hA, hc0, hc1⟩ := ho.at_ k hke
  obtain ⟨ek, hek⟩ : ∃ ek, ek = es[k] := ⟨_, rfl⟩
  have hmem : ek ∈ es := by rw [hek]; exact List.getElem_mem hke
  have hoi := hi ek hmem
  rw [← hek] at hc0 hc1 ⊢
  subst hA
  have hoz : o = 0 := by
    rcases ho.2 with ⟨e, _⟩ | ⟨g, cap, cur, e, _⟩
    · cases e
    · injection e with e _ _
      injection e with e
      injection e with _ e _
  subst hoz
  have hlt := ho.lt _ rfl
  have hbU := hb _ rfl
  have hset : ∀ q : Int, OwnRS (w.setCell ⟨b, 0 + k * 2, none⟩ (.int .i64 q)) L U (.slice (some ⟨b, 0, none⟩) n c) ((es.map vq).set k (q, (vq ek).2)) ∧ Fr L U w (w.setCell ⟨b, 0 + k * 2, none⟩ (.int .i64 q)) := fun q => by
    rw [Nat.zero_add]
    obtain ⟨s1, s2⟩ := World.ownsRow.stored ho (k * 2) (.int .i64 q)
    have hlen : (es.set k (q, es[k].2)).length = es.length := by simp
    refine ⟨⟨some ⟨b, 0, none⟩, c, es.set k (q, es[k].2), by rw [hlen, e2], ?_, ?_, ?_, ?_, hb, ?_, by simpa using hu⟩, ⟨rfl, rfl, rfl, by simp, fun j hj hn => s2.block j hj (by simp at hlt hbU ⊢; omega)⟩⟩
    · rw [List.map_set, hek]; rfl
    · unfold OwQ
      rw [hlen, rowQ_set0 es k q hke]
      exact s1
    · intro f hf
      have hf2 : ∃ f2 ∈ es, f.2 = f2.2 := by
        rcases List.mem_or_eq_of_mem_set hf with h1 | h1
        · exact ⟨f, h1, rfl⟩
        · exact ⟨es[k], List.getElem_mem hke, by rw [h1]⟩
      obtain ⟨f2, hf3, hf4⟩ := hf2
      rw [hf4]
      refine (hi f2 hf3).kept fun a ha => heap_setCell_other w ⟨b, k * 2, none⟩ a.block _ ?_
      have := ho.ne (hi f2 hf3) a ha
      simp at this ⊢
      omega
    · rw [disQ_iff]
      have hdq2 := (disQ_iff es).1 hdq
      rw [map_set_same (fun e : Int × Option Addr × Nat × List Int => e.2.1) es k hke (q, es[k].2) rfl]
      exact hdq2
    · intro f hf a ha
      rcases List.mem_or_eq_of_mem_set hf with h1 | h1
      · exact hb2 f h1 a ha
      · rw [h1] at ha
        exact hb2 es[k] (List.getElem_mem hke) a ha
  have hin : ∀ (L' M' : Nat) (w' : World) (y : List Int), L ≤ L' → M' ≤ U → Fr L' M' w w' → (∀ a, ek.2.1 = some a → L' ≤ a.block ∧ a.block < M' ∧ M' ≤ a.block + 1 ∧ a.block ≤ L') → (ek.2.1 = none → M' ≤ L') → y.length = ek.2.2.2.length → OwI w' L ek.2.1 ek.2.2.1 y → OwnRS w' L U (.slice (some ⟨b, 0, none⟩) n c) ((es.map vq).set k ((vq ek).1, y)) ∧ Fr L U w w' := fun L' M' w' y hL hM f hab hno hyl hy => by
    have hlen : (es.set k (es[k].1, es[k].2.1, es[k].2.2.1, y)).length = es.length := by simp
    have hout : ∀ j : Nat, j < w.heap.size → (∀ a, ek.2.1 = some a → a.block ≠ j) → w'.heap[j]? = w.heap[j]? := fun j hj hne => by
      refine f.block j hj ?_
      cases hek2 : ek.2.1 with
      | none => have := hno hek2; omega
      | some a => have h1 := hab a hek2; have h2 := hne a hek2; omega
    refine ⟨⟨some ⟨b, 0, none⟩, c, es.set k (es[k].1, es[k].2.1, es[k].2.2.1, y), by rw [hlen, e2], ?_, ?_, ?_, ?_, hb, ?_, Nat.le_trans hu f.size⟩, f.mono hL hM⟩
    · rw [List.map_set, hek]; rfl
    · unfold OwQ
      rw [hlen, rowQ_same es k y hke (by rw [hyl, hek])]
      refine ho.kept fun a ha => hout _ (ho.lt a ha).2 fun a2 ha2 e => ?_
      have := ho.ne hoi a2 ha2
      injection ha with ha
      subst ha
      simp at this e
      omega
    · intro x hx
      obtain ⟨j, hj, e⟩ := List.mem_iff_getElem.1 hx
      rw [hlen] at hj
      by_cases hjk : k = j
      · subst hjk
        rw [List.getElem_set_self] at e
        rw [← e, ← hek]
        exact hy
      · rw [List.getElem_set_ne hjk] at e
        rw [← e]
        refine (hi es[j] (List.getElem_mem hj)).kept fun a ha => hout _ ((hi es[j] (List.getElem_mem hj)).lt a ha).2 fun a2 ha2 => ?_
        exact hdq.at_ hke hj hjk (by rw [← hek]; exact ha2) ha
    · rw [disQ_iff]
      have hdq2 := (disQ_iff es).1 hdq
      rw [map_set_same (fun e : Int × Option Addr × Nat × List Int => e.2.1) es k hke (es[k].1, es[k].2.1, es[k].2.2.1, y) rfl]
      exact hdq2
    · intro x hx a ha
      rcases List.mem_or_eq_of_mem_set hx with h1 | h1
      · exact hb2 x h1 a ha
      · rw [h1] at ha
        exact hb2 es[k] (List.getElem_mem hke) a ha
  have hfz : w.frozen? ⟨b, 0 + k * 2, none⟩ = false := World.ownsRow.frozenAt ho _
  obtain ⟨m, A', c', xs⟩ := ek
  cases A' with
  | none =>
    refine ⟨b, 0, none, c', U, U, rfl, hc0, hc1, hfz, ⟨none, c', rfl, ?_, fun a ha => by simp at ha, hu⟩, fun w' y f hy => ?_, hset⟩
    · refine ⟨hoi.1, ?_⟩
      rcases hoi.2 with h5 | ⟨g, cap, cur, e, _⟩
      · exact Or.inl h5
      · simp at e
    · obtain ⟨A2, c2, e2', h5, h6, h7⟩ := hy
      injection e2' with e4 e5 e6
      subst e4 e6
      refine hin U U w' y (Nat.le_of_lt (Nat.lt_of_le_of_lt hlt.1 hbU)) (Nat.le_refl _) f (fun a ha => by simp at ha) (fun _ => Nat.le_refl _) e5.symm ?_
      refine ⟨h5.1, ?_⟩
      rcases h5.2 with h5 | ⟨g, cap, cur, e, _⟩
      · exact Or.inl h5
      · simp at e
  | some a =>
    have hlt2 := hoi.lt a rfl
    have hub := hb2 _ hmem a rfl
    have hfull := hoi
    refine ⟨b, 0, some a, c', a.block, a.block + 1, rfl, hc0, hc1, hfz, ⟨_, c', rfl, ?_, fun a2 ha => by injection ha with ha; subst ha; omega, by omega⟩, fun w' y f hy => ?_, hset⟩
    · refine ⟨hfull.1, ?_⟩
      rcases hfull.2 with h5 | ⟨g, cap, cur, e, h5, h6⟩
      · exact Or.inl h5
      · refine Or.inr ⟨g, cap, cur, e, ?_, h6⟩
        injection e with e _ _
        injection e with e
        rw [e]
        exact Nat.le_refl _
    · obtain ⟨A2, c2, e2', h51, h6, h7⟩ := hy
      injection e2' with e4' e5' e6'
      subst e4' e6'
      exact hin a.block (a.block + 1) w' y hlt2.1 hub f (fun a2 ha => by injection ha with ha; subst ha; omega) (fun h => by cases h) e5'.symm (h51.lower hlt2.1)

theorem OwnRS.cap {w : World} {L U : Nat} {v : Value} {rs : List (Int × List Int)} (h : OwnRS w L U v rs) : ∃ A n c, v = .slice A n c ∧ n = rs.length ∧ n ≤ 9223372036854775807 := by
  obtain ⟨A1, c1, es, e, hv, ho, _⟩ := h
  obtain ⟨_, _, _, h1, h2⟩ := own_form ho
  simp only [maxLen] at h2
  exact ⟨_, _, _, e, by rw [← hv, List.length_map], by omega⟩
end Go.Proofs.YtphpdanohooccaaGreatDoor
