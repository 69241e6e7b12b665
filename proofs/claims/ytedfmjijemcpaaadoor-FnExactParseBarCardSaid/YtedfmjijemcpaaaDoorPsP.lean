/- Parsing of short lists of digits: plain facts. -/
import Derived.Test.YtedfmjijemcpaaaDoorNumP
import Derived.Lib.SplitLaws
namespace Go.Proofs.YtedfmjijemcpaaaDoor
open Go.RowKit

/-- A byte in front of the first word. -/
def onto (x : UInt8) : List (List UInt8) → List (List UInt8)
  | [] => [[x]]
  | h :: t => (x :: h) :: t
/-- The words of a text between separators. -/
def splitL (c : UInt8) : List UInt8 → List (List UInt8)
  | [] => [[]]
  | x :: r => if x = c then [] :: splitL c r else onto x (splitL c r)
theorem splitL_eq (c : UInt8) (r : List UInt8) : splitL c (c :: r) = [] :: splitL c r := by rw [splitL, if_pos rfl]
theorem splitL_cons {x c : UInt8} (h : x ≠ c) (r : List UInt8) : splitL c (x :: r) = onto x (splitL c r) := by rw [splitL, if_neg h]
theorem splitL_ne (c : UInt8) (l : List UInt8) : ∃ h t, splitL c l = h :: t := by
  cases l with
  | nil => exact ⟨_, _, rfl⟩
  | cons x r =>
    by_cases h : x = c
    · subst h; exact ⟨_, _, splitL_eq _ _⟩
    · rw [splitL_cons h]
      cases splitL c r with
      | nil => exact ⟨_, _, rfl⟩
      | cons h t => exact ⟨_, _, rfl⟩
theorem splitL_none (c : UInt8) : ∀ (l : List UInt8), (∀ x ∈ l, x ≠ c) → splitL c l = [l]
  | [], _ => rfl
  | x :: r, h => by rw [splitL_cons (h x (by simp)), splitL_none c r (fun y hy => h y (by simp [hy]))]; rfl
theorem splitL_first (c : UInt8) (r : List UInt8) : ∀ (a : List UInt8), (∀ x ∈ a, x ≠ c) → splitL c (a ++ c :: r) = a :: splitL c r
  | [], _ => splitL_eq c r
  | x :: a, h => by rw [List.cons_append, splitL_cons (h x (by simp)), splitL_first c r a (fun y hy => h y (by simp [hy]))]; rfl
theorem join_splitL (c : UInt8) : ∀ (l : List UInt8), Lib.join (splitL c l) [c] = l
  | [] => by simp [splitL, Lib.join, List.intercalate]
  | x :: r => by
    have ih := join_splitL c r
    obtain ⟨h, t, e⟩ := splitL_ne c r
    rw [e] at ih
    by_cases hx : x = c
    · subst hx
      rw [splitL_eq, e]
      simp only [Lib.join, List.intercalate, List.intersperse_cons_cons, List.flatten_cons, List.nil_append, List.cons_append] at ih ⊢
      rw [ih]
    · rw [splitL_cons hx, e]
      cases t with
      | nil => simp only [onto, Lib.join, List.intercalate, List.intersperse_singleton, List.flatten_cons, List.flatten_nil, List.append_nil] at ih ⊢; rw [ih]
      | cons h2 t => simp only [onto, Lib.join, List.intercalate, List.intersperse_cons_cons, List.flatten_cons, List.cons_append] at ih ⊢; rw [ih]
theorem splitL_jn (s : UInt8) (hs : s.toNat < 48) : ∀ (xs : List Int), (∀ x ∈ xs, 0 ≤ x ∧ x ≤ 9) → 1 ≤ xs.length → splitL s (jn s xs) = xs.map fun x => [dgb x]
  | [], _, h => by simp at h
  | [x], hd, _ => by
    rw [jn_one, splitL_none s _ (by intro y hy; rw [List.mem_singleton.1 hy]; exact dgb_ne s (hd x (by simp)) hs)]
    rfl
  | x :: y :: ys, hd, _ => by
    have ih := splitL_jn s hs (y :: ys) (fun z hz => hd z (by simp [hz])) (by simp)
    rw [jn_cons, show dgb x :: s :: jn s (y :: ys) = [dgb x] ++ s :: jn s (y :: ys) from rfl, splitL_first s _ _ (by intro z hz; rw [List.mem_singleton.1 hz]; exact dgb_ne s (hd x (by simp)) hs), ih]
    rfl
theorem jn_map (s : UInt8) (vs : List Int) : jn s vs = Lib.join (vs.map fun x => [dgb x]) [s] := by
  unfold jn
  rw [List.map_map]
  rfl
theorem jn_of_split {s : UInt8} {l : List UInt8} {vs : List Int} (h : splitL s l = vs.map fun x => [dgb x]) : jn s vs = l := by
  rw [jn_map, ← h, join_splitL]
/-- The pieces that strings.Split cuts. -/
theorem splitK_all (c : UInt8) : ∀ (l : List UInt8), Lib.splitK [c] 0 (Lib.count l [c]) l = splitL c l
  | [] => by rw [Lib.count_miss (by simp [Lib.index])]; rfl
  | b :: l => by
    have ih := splitK_all c l
    by_cases h : b = c
    · subst h
      have hix : Lib.index (b :: l) [b] = ((0 : Nat) : Int) := by rw [Lib.index]; simp [List.isPrefixOf]
      rw [splitL_eq, ← ih, Lib.count_cons_eq, Nat.add_comm, Lib.splitK, if_neg (by rw [hix]; decide), hix]
      simp
    · have hp : ([c] : List UInt8).isPrefixOf (b :: l) = false := by simp [List.isPrefixOf, Ne.symm h]
      have hix : Lib.index (b :: l) [c] = if Lib.index l [c] == -1 then -1 else Lib.index l [c] + 1 := by rw [Lib.index, hp]; simp
      rw [splitL_cons h, ← ih, Lib.count_cons_ne b c l h]
      by_cases hm : Lib.index l [c] = -1
      · rw [Lib.count_miss hm]; rfl
      · have hge := Lib.index_ge l [c]
        obtain ⟨j, hj⟩ : ∃ j : Nat, Lib.index l [c] = j := ⟨(Lib.index l [c]).toNat, by omega⟩
        have hix' : Lib.index (b :: l) [c] = ((j + 1 : Nat) : Int) := by rw [hix, if_neg (fun e => hm (beq_iff_eq.1 e)), hj]; omega
        obtain ⟨k, hk⟩ : ∃ k, Lib.count l [c] = k + 1 := by
          rw [Lib.count_hit (by simp) hj, Nat.add_comm]
          exact ⟨_, rfl⟩
        have n1 : ¬ (((j + 1 : Nat) : Int) == -1) = true := fun e => by have := beq_iff_eq.1 e; omega
        have n2 : ¬ (((j : Nat) : Int) == -1) = true := fun e => by have := beq_iff_eq.1 e; omega
        rw [hk, Lib.splitK, Lib.splitK, hix', hj, if_neg n1, if_neg n2]
        simp [onto]
theorem words_data (s : ByteArray) (c : UInt8) : (Lib.splitB ⟨#[c]⟩ 0 (Lib.countB s ⟨#[c]⟩) s).map (·.data.toList) = splitL c s.data.toList := by
  rw [Lib.splitB_data]
  exact splitK_all c s.data.toList

/-- The only list that may be meant. -/
def candL (s : UInt8) (l : List UInt8) : List Int := (splitL s l).map fun w => ((w.headD 48).toNat : Int) - 48
def psB (ok : List Int → Bool) (s : UInt8) (l : List UInt8) : Bool := ok (candL s l) && (jn s (candL s l) == l)
def psF (ok : List Int → Bool) (s : UInt8) (l : List UInt8) : List Int := if psB ok s l = true then candL s l else []
/-- What is asked of the test. -/
def Dgs (ok : List Int → Bool) : Prop := ∀ xs, ok xs = true → (∀ x ∈ xs, 2 ≤ x ∧ x ≤ 7) ∧ 1 ≤ xs.length ∧ xs.length ≤ 12
theorem dgb_nat {x : Int} (hx : 0 ≤ x ∧ x ≤ 9) : ((dgb x).toNat : Int) = 48 + x := by
  unfold dgb
  rw [UInt8.toNat_ofNat']
  omega
theorem dgb_inj {x y : Int} (hx : 0 ≤ x ∧ x ≤ 9) (hy : 0 ≤ y ∧ y ≤ 9) (h : dgb x = dgb y) : x = y := by
  have a := dgb_nat hx
  have b := dgb_nat hy
  rw [h] at a
  omega
theorem splitL_of {ok : List Int → Bool} (hok : Dgs ok) {s : UInt8} (hs : s.toNat < 48) {l : List UInt8} {xs : List Int} (h : ok xs = true) (hj : jn s xs = l) : splitL s l = xs.map fun x => [dgb x] := by
  have h1 := hok xs h
  rw [← hj]
  exact splitL_jn s hs xs (fun x hx => by have := h1.1 x hx; omega) h1.2.1
theorem ps_yes {ok : List Int → Bool} (hok : Dgs ok) {s : UInt8} (hs : s.toNat < 48) {l : List UInt8} {xs : List Int} (h : ok xs = true) (hj : jn s xs = l) : psB ok s l = true ∧ psF ok s l = xs := by
  have h1 := hok xs h
  have h2 : candL s l = xs := by
    unfold candL
    rw [splitL_of hok hs h hj, List.map_map]
    refine Eq.trans (List.map_congr_left (fun x hx => ?_)) (List.map_id _)
    have := h1.1 x hx
    have := @dgb_nat x (by omega)
    simp only [Function.comp, List.headD_cons, id]
    omega
  have h3 : psB ok s l = true := by unfold psB; rw [h2, h, hj]; simp
  refine ⟨h3, ?_⟩
  unfold psF
  rw [if_pos h3, h2]
theorem ps_no {ok : List Int → Bool} {s : UInt8} {l : List UInt8} (h : ∀ xs, ok xs = true → jn s xs ≠ l) : psB ok s l = false ∧ psF ok s l = [] := by
  have h3 : psB ok s l = false := by
    unfold psB
    cases e : ok (candL s l) with
    | false => rfl
    | true => simpa using h _ e
  refine ⟨h3, ?_⟩
  unfold psF
  rw [h3]
  rfl
theorem psF_len {ok : List Int → Bool} (hok : Dgs ok) (s : UInt8) (l : List UInt8) : (psF ok s l).length ≤ 12 := by
  unfold psF
  split
  · next h =>
    unfold psB at h
    simp only [Bool.and_eq_true] at h
    exact (hok _ h.1).2.2
  · simp
/-- A word and the number that it is read as. -/
def Good (w : List UInt8) (v : Int) : Prop := (2 ≤ v ∧ v ≤ 7 → w = [dgb v]) ∧ ∀ x, 2 ≤ x ∧ x ≤ 7 → w = [dgb x] → v = x
def Bad (w : List UInt8) : Prop := ∀ x, 2 ≤ x ∧ x ≤ 7 → w ≠ [dgb x]
theorem ps_bad {ok : List Int → Bool} (hok : Dgs ok) {s : UInt8} (hs : s.toNat < 48) {l w : List UInt8} (hw : w ∈ splitL s l) (hb : Bad w) : psB ok s l = false ∧ psF ok s l = [] := by
  refine ps_no fun xs h hj => ?_
  rw [splitL_of hok hs h hj] at hw
  obtain ⟨x, hx, e⟩ := List.mem_map.1 hw
  exact hb x ((hok xs h).1 x hx) e.symm
/-- All words are read: the numbers decide. -/
theorem ps_all {ok : List Int → Bool} (hok : Dgs ok) {s : UInt8} (hs : s.toNat < 48) {l : List UInt8} {vs : List Int} (hl : vs.length = (splitL s l).length) (hg : ∀ j, j < vs.length → Good ((splitL s l).getD j []) (vs.getD j 0)) :
    psB ok s l = ok vs ∧ psF ok s l = if ok vs = true then vs else [] := by
  by_cases h : ok vs = true
  · have h1 := hok vs h
    have h2 : splitL s l = vs.map fun x => [dgb x] := by
      refine List.ext_getElem (by rw [List.length_map]; exact hl.symm) fun j h3 h4 => ?_
      rw [List.length_map] at h4
      have hj := (hg j h4).1
      have e1 : (splitL s l).getD j [] = (splitL s l)[j] := by simp [List.getD, h3]
      have e2 : vs.getD j 0 = vs[j] := by simp [List.getD, h4]
      rw [e1, e2] at hj
      rw [hj (h1.1 _ (List.getElem_mem h4)), List.getElem_map]
    have := ps_yes hok hs h (jn_of_split h2)
    rw [h, if_pos rfl]
    exact this
  · have h' : ok vs = false := by simpa using h
    rw [h', if_neg (by simp)]
    refine ps_no fun xs hx hj => h ?_
    have h1 := hok xs hx
    have h2 := splitL_of hok hs hx hj
    have h3 : xs.length = vs.length := by rw [hl, h2, List.length_map]
    have : vs = xs := by
      refine List.ext_getElem h3.symm fun j h4 h5 => ?_
      have e2 : vs.getD j 0 = vs[j] := by simp [List.getD, h4]
      have hg2 := (hg j h4).2 xs[j] (h1.1 _ (List.getElem_mem h5)) (by rw [h2]; simp [List.getD, h5])
      rw [← hg2, e2]
    rw [this]
    exact hx
/-- The program: the list that was read, held against the text. -/
theorem ps_same {ok : List Int → Bool} (hok : Dgs ok) {s : UInt8} (hs : s.toNat < 48) {l : List UInt8} {most : Nat} (hmost : ∀ xs, ok xs = true → xs.length ≤ most) (pi : List UInt8 → Int) (hpi : ∀ x, 2 ≤ x ∧ x ≤ 7 → pi [dgb x] = x)
    {ps : List Int} (hps : ps = if (splitL s l).length ≤ most then (splitL s l).map pi else []) :
    (l ≠ [] ∧ fmtF ok s ps = ⟨l.toArray⟩ → psB ok s l = true ∧ psF ok s l = ps) ∧ (¬ (l ≠ [] ∧ fmtF ok s ps = ⟨l.toArray⟩) → psB ok s l = false ∧ psF ok s l = []) := by
  constructor
  · rintro ⟨hne, hf⟩
    unfold fmtF at hf
    by_cases h : ok ps = true
    · rw [if_pos h] at hf
      have : jn s ps = l := by
        have := congrArg (fun b : ByteArray => b.data.toList) hf
        simpa using this
      exact ps_yes hok hs h this
    · rw [if_neg h] at hf
      refine absurd ?_ hne
      have := congrArg (fun b : ByteArray => b.data.toList) hf
      simpa using this.symm
  · intro hn
    refine ps_no fun xs hx hj => hn ?_
    have h1 := hok xs hx
    have h2 := splitL_of hok hs hx hj
    have h3 : ps = xs := by
      rw [hps, h2, List.length_map, if_pos (hmost xs hx), List.map_map]
      refine Eq.trans (List.map_congr_left (fun x hx => ?_)) (List.map_id _)
      exact hpi x (h1.1 x hx)
    refine ⟨?_, ?_⟩
    · rintro rfl
      have h4 : (splitL s []).length = xs.length := by rw [h2, List.length_map]
      have h5 : splitL s [] = [[]] := rfl
      rw [h5] at h2
      cases xs with
      | nil => simp at h2
      | cons x t => simp at h2
    · unfold fmtF
      rw [h3, if_pos hx, hj]
theorem metB_dgs : Dgs metB := by
  intro xs h
  have h12 := metB_dig h
  unfold metB at h
  simp only [Bool.and_eq_true] at h
  have h2 := allB_iff.1 h.2.1
  exact ⟨h2, h12.2⟩
theorem metB_five {xs : List Int} (h : metB xs = true) : xs.length ≤ 5 := by
  unfold metB at h
  simp only [Bool.and_eq_true] at h
  have h1 := inB_iff.1 h.1
  omega
theorem barB_dgs : Dgs barB := by
  intro xs h
  have h12 := barB_dig h
  have h1 := barB_iff h
  exact ⟨fun x hx => by have := h1.2.1 x hx; omega, h12.2⟩
end Go.Proofs.YtedfmjijemcpaaaDoor
