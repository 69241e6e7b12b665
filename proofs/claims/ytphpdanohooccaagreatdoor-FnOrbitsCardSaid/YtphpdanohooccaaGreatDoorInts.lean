/- Contracts of the small functions on numbers that this seat reaches. -/
import Derived.Test.YtphpdanohooccaaGreatDoorBase
namespace Go.Proofs.YtphpdanohooccaaGreatDoor
open Go.RowKit

/-- 'lo ≤ n ≤ hi' as a Bool that the walk leaves alone. -/
def inB (n lo hi : Int) : Bool := decide (lo ≤ n) && decide (n ≤ hi)
theorem inB_iff {n lo hi : Int} : inB n lo hi = true ↔ lo ≤ n ∧ n ≤ hi := by simp [inB]
theorem inB_no {n lo hi : Int} : inB n lo hi = false ↔ ¬ (lo ≤ n ∧ n ≤ hi) := by rw [← inB_iff]; simp

theorem inB_ge {n lo hi : Int} (h : lo ≤ n) : decide (n ≤ hi) = inB n lo hi := by simp [inB, h]
theorem inB_lt {n lo hi : Int} (h : n < lo) : false = inB n lo hi := by
  have : ¬ lo ≤ n := by omega
  simp [inB, this]

theorem within_any (n lo hi : Int) (w : World) :
    Calls Tryz.prog 35 #[.int .i64 n, .int .i64 lo, .int .i64 hi] w fun e w' => e = .returned (.bool (inB n lo hi)) ∧ w = w' := by
  go_enter Tryz.func35, Tryz.ntmps35
  go_wp2
  all_goals
    go_ret
    exact ⟨ret_bool (by first | exact inB_ge (by assumption) | exact inB_lt (by assumption)), rfl⟩
end Go.Proofs.YtphpdanohooccaaGreatDoor

/- Contracts of the laws' helpers on slices of ints: toIntS (a copy), eqIntS, markIntS, heldIntS. -/
namespace Go.Proofs.YtphpdanohooccaaGreatDoor
open Go.RowKit

/-- The first k of xs, then zeros. -/
def part0 (xs : List Int) (k : Nat) : List Int := xs.take k ++ List.replicate (xs.length - k) 0
theorem part0_length (xs : List Int) (k : Nat) (h : k ≤ xs.length) : (part0 xs k).length = xs.length := by simp [part0]; omega
theorem part0_set (xs : List Int) (k : Nat) (h : k < xs.length) : ((part0 xs k).map (Value.int .i64)).set k (.int .i64 (xs.getD k 0)) = (part0 xs (k + 1)).map (Value.int .i64) := by
  rw [← List.map_set]
  congr 1
  unfold part0
  apply List.ext_getElem?
  intro j
  rw [List.getElem?_set]
  have hl : (xs.take k ++ List.replicate (xs.length - k) (0 : Int)).length = xs.length := by simp; omega
  by_cases hj : k = j
  · subst hj
    rw [if_pos rfl, if_pos (by rw [hl]; exact h), List.getElem?_append_left (by simp; omega)]
    simp [h, List.getD]
  · rw [if_neg hj]
    by_cases h2 : j < k
    · rw [List.getElem?_append_left (by simp; omega), List.getElem?_append_left (by simp; omega)]
      simp [h2, show j < k + 1 by omega]
    · rw [List.getElem?_append_right (by simp; omega), List.getElem?_append_right (by simp; omega)]
      simp only [List.length_take, List.getElem?_replicate]
      by_cases h3 : j < xs.length
      · rw [if_pos (by omega), if_pos (by omega)]
      · rw [if_neg (by omega), if_neg (by omega)]
theorem part0_zero (xs : List Int) : (madeCells #[Value.int .i64 0] xs.length).toList = (part0 xs 0).map (Value.int .i64) := by
  rw [toList_madeCells_one]
  simp [part0]
theorem part0_all (xs : List Int) : part0 xs xs.length = xs := by simp [part0]

theorem getD_eq {xs : List Int} {k : Nat} (h : k < xs.length) : xs.getD k 0 = xs[k] := by simp [List.getD, h]

/-- k, k + 1, .. -/
def marks (k : Int) (n : Nat) : List Int := (List.range n).map fun i : Nat => k + (i : Int)
theorem marks_length (k : Int) (n : Nat) : (marks k n).length = n := by simp [marks]
theorem marks_getD (k : Int) (n i : Nat) (h : i < n) : (marks k n).getD i 0 = k + i := by simp [marks, List.getD, h]

/-- The first j cells are marked. -/
def markedTo (xs : List Int) (k : Int) (j : Nat) : List Int := marks k j ++ xs.drop j
theorem markedTo_length (xs : List Int) (k : Int) (j : Nat) (h : j ≤ xs.length) : (markedTo xs k j).length = xs.length := by simp [markedTo, marks]; omega
theorem markedTo_set (xs : List Int) (k : Int) (j : Nat) (h : j < xs.length) : ((markedTo xs k j).map (Value.int .i64)).set j (.int .i64 (k + j)) = (markedTo xs k (j + 1)).map (Value.int .i64) := by
  rw [← List.map_set]
  congr 1
  unfold markedTo
  rw [List.set_append_right _ _ (by simp [marks])]
  have e : marks k (j + 1) = marks k j ++ [k + (j : Int)] := by simp [marks, List.range_succ]
  rw [e, List.append_assoc, marks_length, Nat.sub_self]
  congr 1
  rw [List.drop_eq_getElem_cons h]
  rfl
theorem markedTo_all (xs : List Int) (k : Int) : markedTo xs k xs.length = marks k xs.length := by simp [markedTo]

end Go.Proofs.YtphpdanohooccaaGreatDoor

/- Contracts of the two functions that return the greatest common divisor. -/
namespace Go.Proofs.YtphpdanohooccaaGreatDoor
open Go.RowKit

theorem gcd_step {a b : Nat} (_hb : 0 < b) : Nat.gcd b (a % b) = Nat.gcd a b := by
  rw [Nat.gcd_comm a b, Nat.gcd_rec b a, Nat.gcd_comm]

theorem gcdI_any (a b : Nat) (w : World) (ha : a ≤ 9223372036854775807) (hb : b ≤ 9223372036854775807) :
    Calls Tryz.prog 68 #[.int .i64 (a : Int), .int .i64 (b : Int)] w fun e w' => e = .returned (.int .i64 (Nat.gcd a b : Nat)) ∧ ∃ k, w' = w.drewN k := by
  obtain ⟨G, hG⟩ : ∃ G, G = Nat.gcd a b := ⟨_, rfl⟩
  rw [← hG]
  have HG := Lib.hid hG
  clear hG
  go_enter Tryz.func68, Tryz.ntmps68
  go_wp2
  go_loopw [0, 1] (fun x y wr => ∃ p q k : Nat, p ≤ 9223372036854775807 ∧ q ≤ b ∧ Hid (G = Nat.gcd p q) ∧ x = .int .i64 (p : Int) ∧ y = .int .i64 (q : Int) ∧ wr = w.drewN k) (fun _ y _ => (intOf y).toNat)
  case atStart => exact ⟨a, b, 0, ha, Nat.le_refl _, HG, rfl, rfl, rfl⟩
  case round =>
    obtain ⟨p, q, k, hp, hq, HI, rfl, rfl, rfl⟩ := hrel
    by_cases hlt : 0 < q
    · have hm : p % q < q := Nat.mod_lt _ hlt
      have hm0 : ((p : Int) % (q : Int)) = ((p % q : Nat) : Int) := by omega
      have HM := Lib.hid hm0
      clear hm0
      go_wp2
      go_quiet (fail)
      go_wp2
      go_roundw
      case rel => exact ⟨q, p % q, k + _, by omega, by omega, HI.out.trans (gcd_step hlt).symm, rfl, by rw [HM.out], World.drewN_drewN _ _ _⟩
      case measure => simp only [intOf]; have := HM.out; omega
    · obtain rfl : q = 0 := by omega
      go_wp2
      go_ret
      exact ⟨ret_int (by rw [HI.out, Nat.gcd_zero_right]), k, rfl⟩

/-- The greatest common divisor of two numbers of at least 0. -/
def gcdF (a b : Int) : Int := (Nat.gcd a.toNat b.toNat : Nat)
theorem gcdI_q (a b : Int) (w : World) (ha : 0 ≤ a ∧ a ≤ 9223372036854775807) (hb : 0 ≤ b ∧ b ≤ 9223372036854775807) :
    Calls Tryz.prog 68 #[.int .i64 a, .int .i64 b] w fun e w' => e = .returned (.int .i64 (gcdF a b)) ∧ ∃ k, w' = w.drewN k := by
  obtain ⟨n, rfl⟩ := Int.eq_ofNat_of_zero_le ha.1
  obtain ⟨m, rfl⟩ := Int.eq_ofNat_of_zero_le hb.1
  exact gcdI_any n m w (by omega) (by omega)
end Go.Proofs.YtphpdanohooccaaGreatDoor

/- Contracts of l02Mod, remainder. -/
namespace Go.Proofs.YtphpdanohooccaaGreatDoor
open Go.RowKit

theorem modI_any (a k : Int) (w : World) (_ha : -1000000 ≤ a ∧ a ≤ 1000000) (hk : 1 ≤ k ∧ k ≤ 1000000) :
    Calls Tryz.prog 38 #[.int .i64 a, .int .i64 k] w fun e w' => e = .returned (.int .i64 (a % k)) ∧ ∃ q, w' = w.drewN q := by
  have e : (a.tmod k + k) % k = a % k := by
    have h1 : a.tmod k = a - k * a.tdiv k := by have := Int.mul_tdiv_add_tmod a k; omega
    have h2 : -k < a.tmod k := Int.lt_tmod_of_pos a (by omega)
    rw [h1, show a - k * a.tdiv k + k = a + k * (1 - a.tdiv k) by rw [Int.mul_sub]; omega, Int.add_mul_emod_self_left]
  have hb : -k < a.tmod k ∧ a.tmod k < k := ⟨Int.lt_tmod_of_pos a (by omega), Int.tmod_lt_of_pos a (by omega)⟩
  have hk0 : ¬ k = 0 := by omega
  have HE := Lib.hid e
  obtain ⟨t, ht⟩ : ∃ t, t = a.tmod k := ⟨_, rfl⟩
  rw [← ht] at hb HE
  have ht' := ht.symm
  clear e ht
  go_enter Tryz.func38, Tryz.ntmps38
  go_wp2_with fail
  try go_quiet (fail)
  try go_wp2_with fail
  go_ret
  exact ⟨ret_int HE.out, by first | exact ⟨0, rfl⟩ | exact ⟨_, rfl⟩⟩
end Go.Proofs.YtphpdanohooccaaGreatDoor

/- 'append(out, src...)': onto a row of the call's own, from whatever can be read. -/
namespace Go.Proofs.YtphpdanohooccaaGreatDoor
open Go.RowKit

/-- nil appended leaves the row. -/
theorem app_none {ops : Array Oper} {rest : List Oper} {o : Oper} {a : Act} {w : World} {Q : Exit → Act → World → Prop} (hgd : o.guard = none) (s x : Operand) (t : TypeId)
    (ho : o.op = .call { callee := .builtin .append, args := #[s, x], argTypes := #[t, t] }) (base : Nat) (e : TypeId) (i : TypeInfo) (ht : Tryz.prog.underlying t = some (.slice e)) (hi : Tryz.prog.info? e = some i)
    (v : Value) (n : Nat) (xs : List Value) (hs : a.eval s = v) (hown : w.ownsRow base e 1 v n xs) (d : Nat) (hx : a.eval x = .slice none 0 d)
    (h : wpList Tryz.prog ops Q rest (a.put o.dst v) w) : wpList Tryz.prog ops Q (o :: rest) a w := by
  refine wpList_plain hgd fun K hK => ?_
  have hrun : (Builtin.append_ #[t, t] o.type #[v, .slice none 0 d]).run Tryz.prog w = .ok v w := by
    rcases hown.2 with ⟨rfl, rfl⟩ | ⟨g, cap, cur, rfl, _, _, hnc, _⟩ <;>
      simp [Builtin.append_, run_underlying ht, sizeOf, typeInfo, Builtin.lenOf, Builtin.firstCells, storeCells, *]
  unfold Oper.wp
  simp [execOp, ho, resolve, invoke, builtin, hs, hx, hrun, Result.andThen]
  exact hK _ _ h

set_option maxRecDepth 20000 in
/-- The general law, over elements of one cell. -/
theorem app_row {ops : Array Oper} {rest : List Oper} {o : Oper} {a : Act} {w : World} {Q : Exit → Act → World → Prop} (hgd : o.guard = none) (s x : Operand) (t : TypeId)
    (ho : o.op = .call { callee := .builtin .append, args := #[s, x], argTypes := #[t, t] }) (base : Nat) (e : TypeId) (z : Value) (by_ : Nat) (ht : Tryz.prog.underlying t = some (.slice e))
    (hi : (Tryz.prog.info? e).map (fun i => (i.zero, i.size, i.bytes)) = some (some z, 1, by_)) (hzs : z.cells.size = 1) (hby : by_ ≤ 24)
    (A : Option Addr) (c n : Nat) (xs : List Value) (hs : a.eval s = .slice A n c) (hown : w.ownsRow base e 1 (.slice A n c) n xs)
    (X : Option Addr) (m d : Nat) (ys : List Value) (hx : a.eval x = .slice X m d) (hr : Rd w 1 X m ys) (h1 : ∀ u ∈ ys, u.oneCell' = true) (hn : n + m ≤ 1099511627776) (hb : base ≤ w.heap.size)
    (h : ∀ A' c' w', w'.ownsRow base e 1 (.slice A' (n + m) c') (n + m) (xs ++ ys) → w.grownBy w' (A.map (·.block)) → wpList Tryz.prog ops Q rest (a.put o.dst (.slice A' (n + m) c')) w') :
    wpList Tryz.prog ops Q (o :: rest) a w := by
  obtain ⟨i0, hi, hz0, hz1, hz2⟩ := info_parts hi
  have hml : ys.length = m := by have := hr.1; omega
  cases X with
  | none =>
    have hm : m = 0 := by
      rcases Nat.eq_zero_or_pos m with h0 | h0
      · exact h0
      · obtain ⟨b, o', e', _⟩ := hr.2 h0; simp at e'
    subst hm
    have : ys = [] := List.length_eq_zero_iff.1 hml
    subst this
    refine app_none hgd s x t ho base e i0 ht hi _ n xs hs hown d hx ?_
    have := h A c w (by simpa using hown) ⟨rfl, rfl, rfl, Nat.le_refl _, fun _ _ _ => rfl⟩
    simpa using this
  | some ad =>
    refine wpList_append_own _ hgd s x t ho base e i0 z 1 by_ ht hi hz0 hz1 hz2 hzs (by decide) _ n xs hs hown ad m d ys hx (by omega) ?_ h1 (by simp only [maxLen]; omega) ?_ hb ?_
    · intro j u hj
      have hjl : j < m := by have := (List.getElem?_eq_some_iff.1 hj).1; omega
      obtain ⟨b, o', e', hc⟩ := hr.2 (by omega)
      injection e' with e'
      subst e'
      simpa [Addr.add_lit] using hc j u hj
    · exact Nat.le_trans (Nat.mul_le_mul hn hby) (by omega)
    · intro v' w' hown' hg _
      obtain ⟨A', c', rfl, _, _⟩ := own_form hown'
      exact h A' c' w' hown' (by cases A <;> exact hg)

theorem one_ints (ys : List Int) : ∀ u ∈ ys.map (Value.int .i64), u.oneCell' = true := by
  intro u hu
  obtain ⟨y, _, rfl⟩ := List.mem_map.1 hu
  rfl

/-- 'out = append(out, src...)', ints. -/
theorem app_ints {ops : Array Oper} {rest : List Oper} {o : Oper} {a : Act} {w : World} {Q : Exit → Act → World → Prop} (wb : World) (hgd : o.guard = none) (s x : Operand)
    (ho : o.op = .call { callee := .builtin .append, args := #[s, x], argTypes := #[23, 23] })
    (A : Option Addr) (c n : Nat) (xs : List Int) (X : Option Addr) (m d : Nat) (ys : List Int) (hs : a.eval s = .slice A n c) (hx : a.eval x = .slice X m d)
    (hl : xs.length = n) (hl2 : ys.length = m) (hown : OwI w wb.heap.size A c xs) (hr : RdI w X ys) (he : Ext wb w) (hn : n + m ≤ 1099511627776)
    (h : ∀ A' c' w', OwI w' wb.heap.size A' c' (xs ++ ys) → Ext wb w' → w.grownBy w' (A.map (·.block)) → wpList Tryz.prog ops Q rest (a.put o.dst (.slice A' (n + m) c')) w') :
    wpList Tryz.prog ops Q (o :: rest) a w := by
  subst hl hl2
  refine app_row hgd s x _ ho wb.heap.size 3 _ 8 Tryz.underlying23 info_int rfl (by omega) A c _ _ hs hown X _ d _ hx hr (one_ints _) hn he.size ?_
  intro A' c' w' h1 h2
  refine h A' c' w' ?_ (Ext.grown he h2 ?_) h2
  · unfold OwI
    rw [List.length_append, List.map_append]
    exact h1
  · intro k hk
    cases A with
    | none => simp at hk
    | some a => simp at hk; have := hown.lt a rfl; omega
/-- A row of ints that has just been built reads. -/
theorem RdI.built (w : World) (ys : List Int) : RdI (w.alloc (.cells (ys.map (Value.int .i64)).toArray 3)) (some ⟨w.heap.size, 0, none⟩) ys := by
  refine ⟨by simp, fun _ => ⟨w.heap.size, 0, rfl, fun j u hu => ?_⟩⟩
  rw [Nat.zero_add]
  exact cell_of_row _ _ j _ _ (0, 0) (heap_alloc_new w _) |>.trans (by simpa using hu)
end Go.Proofs.YtphpdanohooccaaGreatDoor

/- Contracts of slices.Index and slices.Contains at []int. -/
namespace Go.Proofs.YtphpdanohooccaaGreatDoor
open Go.RowKit

/-- The first index of v, or -1. -/
def idxI : List Int → Int → Int
  | [], _ => -1
  | x :: xs, v => if v = x then 0 else if idxI xs v = -1 then -1 else idxI xs v + 1
theorem idxI_lo (xs : List Int) (v : Int) : -1 ≤ idxI xs v := by
  induction xs with
  | nil => simp [idxI]
  | cons x xs ih => unfold idxI; split <;> (try split) <;> omega
theorem idxI_mem (xs : List Int) (v : Int) : (0 ≤ idxI xs v) ↔ v ∈ xs := by
  induction xs with
  | nil => simp [idxI]
  | cons x xs ih =>
    have := idxI_lo xs v
    unfold idxI
    by_cases h : v = x
    · simp [h]
    · rw [if_neg h]
      by_cases h2 : idxI xs v = -1
      · rw [if_pos h2]
        have : ¬ v ∈ xs := fun hm => by have := ih.2 hm; omega
        simp [h, this]
      · rw [if_neg h2]
        have : v ∈ xs := ih.1 (by omega)
        simp [this]
        omega
theorem idxI_hit (xs : List Int) (v : Int) : ∀ k : Nat, k < xs.length → xs.getD k 0 = v → (∀ j, j < k → xs.getD j 0 ≠ v) → idxI xs v = k := by
  induction xs with
  | nil => intro k hk; simp at hk
  | cons x xs ih =>
    intro k hk hv hj
    unfold idxI
    match k, hk, hv, hj with
    | 0, _, hv, _ => simp at hv; simp [hv]
    | k + 1, hk, hv, hj =>
      have h0 : v ≠ x := fun e => hj 0 (by omega) (by simp [e])
      have := ih k (by simpa using hk) (by simpa using hv) (fun j hjk => by have := hj (j + 1) (by omega); simpa using this)
      rw [if_neg h0, this, if_neg (by omega)]
      omega
theorem idxI_miss (xs : List Int) (v : Int) (hj : ∀ j, j < xs.length → xs.getD j 0 ≠ v) : idxI xs v = -1 := by
  have h1 := idxI_lo xs v
  have h2 : ¬ 0 ≤ idxI xs v := fun h => by
    obtain ⟨i, hi, he⟩ := List.mem_iff_getElem.1 ((idxI_mem xs v).1 h)
    exact hj i hi (by simp [List.getD, hi, he])
  omega

set_option maxHeartbeats 400000 in
theorem slIndex_any (A : Option Addr) (c : Nat) (xs : List Int) (v : Int) (w : World) (hr : RdI w A xs) (hn : xs.length ≤ 9223372036854775806) :
    Calls Tryz.prog 98 #[.slice A xs.length c, .int .i64 v] w fun e w' => e = .returned (.int .i64 (idxI xs v)) ∧ w = w' := by
  obtain ⟨n, hnn⟩ : ∃ n, n = xs.length := ⟨_, rfl⟩
  rw [← hnn] at hn ⊢
  obtain ⟨I, hI⟩ : ∃ I, I = idxI xs v := ⟨_, rfl⟩
  rw [← hI]
  have HI := Lib.hid hI
  have HN := Lib.hid hnn
  have HR := Lib.hid hr
  clear hnn hr hI
  go_enter Tryz.func98, Tryz.ntmps98
  go_wp2
  go_loop [8] (fun i => ∃ k : Nat, k ≤ n ∧ i = .int .i64 k ∧ Hid (∀ j, j < k → xs.getD j 0 ≠ v)) (fun i => n - (intOf i).toNat)
  case atStart => exact ⟨0, Nat.zero_le _, rfl, fun j hj => absurd hj (by omega)⟩
  case round =>
    obtain ⟨k, hk, rfl, HJ⟩ := hrel
    by_cases hlt : k < n
    · obtain ⟨b, o, hA, hc⟩ := HR.out.at_ k (by rw [← HN.out]; exact hlt)
      subst hA
      obtain ⟨x, hx⟩ : ∃ x, x = xs.getD k 0 := ⟨_, rfl⟩
      rw [← hx] at hc
      have HX := Lib.hid hx
      clear hx
      by_cases he : v = x
      · subst he
        go_wp2
        go_ret
        exact ⟨ret_int (by rw [HI.out]; exact (idxI_hit xs v k (by rw [← HN.out]; exact hlt) HX.out.symm HJ.out).symm), rfl⟩
      · have he' : (v == x) = false := by simpa using he
        have HE := Lib.hid he
        clear he
        go_wp2
        go_round
        case rel =>
          refine ⟨k + 1, by omega, by go_num, fun j hj => ?_⟩
          by_cases hjk : j < k
          · exact HJ.out j hjk
          · obtain rfl : j = k := by omega
            rw [← HX.out]
            exact fun e => HE.out e.symm
        case measure => simp [intOf]; omega
    · obtain rfl : k = n := by omega
      go_wp2
      go_ret
      exact ⟨ret_int (by rw [HI.out]; exact (idxI_miss xs v (fun j hj => HJ.out j (by rw [HN.out]; exact hj))).symm), rfl⟩

theorem slContains_any (A : Option Addr) (c : Nat) (xs : List Int) (v : Int) (w : World) (hr : RdI w A xs) (hn : xs.length ≤ 9223372036854775806) :
    Calls Tryz.prog 79 #[.slice A xs.length c, .int .i64 v] w fun e w' => e = .returned (.bool (decide (v ∈ xs))) ∧ w = w' := by
  have H := Lib.hid (slIndex_any A c xs v w hr hn)
  have hm := idxI_mem xs v
  obtain ⟨I, hI⟩ : ∃ I, I = idxI xs v := ⟨_, rfl⟩
  rw [← hI] at H hm
  have HM : Hid ((0 ≤ I) ↔ v ∈ xs) := hm
  clear hm hI
  obtain ⟨b, hb⟩ : ∃ b, b = decide (v ∈ xs) := ⟨_, rfl⟩
  rw [← hb]
  have HB := Lib.hid hb
  clear hb
  go_enter Tryz.func79, Tryz.ntmps79
  go_wp2_with (go_at_call 98; refine H.out.mono ?_; rintro e w' ⟨rfl, rfl⟩)
  go_ret
  exact ⟨ret_bool (by rw [HB.out, decide_eq_decide]; exact HM.out), rfl⟩
end Go.Proofs.YtphpdanohooccaaGreatDoor
