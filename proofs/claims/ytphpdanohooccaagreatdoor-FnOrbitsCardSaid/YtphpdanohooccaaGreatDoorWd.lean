/- Words of moves (T, M, S): plain facts. -/
import Derived.Test.YtphpdanohooccaaGreatDoorMap
import Derived.Lib.SlTrimSet
namespace Go.Proofs.YtphpdanohooccaaGreatDoor
open Go.RowKit

/-- The other pulses. -/
def otF (n : Nat) (xs : List Int) : List Int := setL n (fun p : Nat => !(xs.contains (p : Int)))
theorem otF_rhy {n : Nat} (xs : List Int) (h1 : 1 ≤ n) (h2 : n ≤ 24) : rhyB n (otF n xs) = true := rhyB_setL n _ h1 h2
def inW (b : UInt8) : Bool := b == 84 || (b == 77 || b == 83)
/-- One letter's move. -/
def stW (n : Nat) (xs : List Int) (b : UInt8) : List Int := if b = 84 then mapF n xs (fun p => p + 1) else if b = 77 then mapF n xs (fun p => -p) else otF n xs
def wdG (n : Nat) (l : List UInt8) (xs : List Int) : List Int := l.foldl (stW n) xs
theorem stW_rhy {n : Nat} (xs : List Int) (b : UInt8) (h1 : 1 ≤ n) (h2 : n ≤ 24) : rhyB n (stW n xs b) = true := by
  unfold stW
  split
  · exact rhyB_setL n _ h1 h2
  · split
    · exact rhyB_setL n _ h1 h2
    · exact otF_rhy xs h1 h2
theorem wdG_snoc (n : Nat) (l : List UInt8) (xs : List Int) (k : Nat) (b : UInt8) (h : l[k]? = some b) : wdG n (l.take (k + 1)) xs = stW n (wdG n (l.take k) xs) b := by
  have hk : k < l.length := (List.getElem?_eq_some_iff.1 h).1
  have e : l[k] = b := (List.getElem?_eq_some_iff.1 h).2
  unfold wdG
  rw [List.take_succ_eq_append_getElem hk, List.foldl_append, e]
  rfl
theorem wdG_rhy {n : Nat} (h1 : 1 ≤ n) (h2 : n ≤ 24) : ∀ (l : List UInt8) (xs : List Int), rhyB n xs = true → rhyB n (wdG n l xs) = true
  | [], _, h => h
  | b :: l, xs, _ => wdG_rhy h1 h2 l _ (stW_rhy xs b h1 h2)
theorem drop_head {p : UInt8 → Bool} : ∀ {l ys : List UInt8} {y : UInt8}, l.dropWhile p = y :: ys → p y = false
  | [], _, _, h => by simp at h
  | x :: l, ys, y, h => by
    by_cases hx : p x = true
    · rw [List.dropWhile_cons_of_pos hx] at h
      exact drop_head h
    · rw [List.dropWhile_cons_of_neg hx] at h
      injection h with h1 _
      rw [← h1]
      simpa using hx
theorem drop_nil {p : UInt8 → Bool} : ∀ {l : List UInt8}, l.dropWhile p = [] ↔ ∀ x ∈ l, p x = true
  | [] => by simp
  | x :: l => by
    by_cases hx : p x = true
    · rw [List.dropWhile_cons_of_pos hx, drop_nil]
      simp [hx]
    · rw [List.dropWhile_cons_of_neg hx]
      simp [hx]
theorem trimS_nil (l cs : List UInt8) : Lib.trimS l cs = [] ↔ ∀ x ∈ l, cs.contains x = true := by
  unfold Lib.trimS Lib.trimLeftS Lib.trimRightS
  rw [drop_nil]
  constructor
  · intro h
    cases hd : l.reverse.dropWhile (cs.contains ·) with
    | nil =>
      have := drop_nil.1 hd
      exact fun x hx => this x (List.mem_reverse.2 hx)
    | cons y ys =>
      have h1 := drop_head hd
      have h2 := h y (by rw [hd]; simp)
      rw [h1] at h2
      cases h2
  · intro h x hx
    rw [List.mem_reverse] at hx
    exact h x (List.mem_reverse.1 ((List.dropWhile_sublist _).subset hx))
theorem inW_contains (b : UInt8) : [84, 77, 83].contains b = inW b := by
  unfold inW
  simp only [List.contains, List.elem]
  cases b == 84 <;> cases b == 77 <;> cases b == 83 <;> rfl
theorem trim_all (l : List UInt8) : decide (Lib.trimS l [84, 77, 83] = []) = l.all inW := by
  rw [Bool.eq_iff_iff, decide_eq_true_eq, trimS_nil, List.all_eq_true]
  constructor
  · exact fun h x hx => by rw [← inW_contains]; exact h x hx
  · exact fun h x hx => by rw [inW_contains]; exact h x hx
/-- The answers of ApplyWord. -/
def awB (n : Int) (xs : List Int) (l : List UInt8) : Bool := rhyB n xs && (decide (l.length ≤ 40) && l.all inW)
def awF (n : Int) (xs : List Int) (l : List UInt8) : Int × List Int := if awB n xs l = true then (n, wdG n.toNat l (mapF n.toNat xs (fun p => p + 0))) else (0, [])
end Go.Proofs.YtphpdanohooccaaGreatDoor
