/- From the form's reading of an argument to the words of the contracts: an int; a slice of ints or of bytes; a struct of two fields. -/
import Derived.Test.YtphpdanohooccaaGreatDoorRows
import Derived.Test.YtphpdanohooccaaGreatDoorBase
import Derived.ProofKit
import Derived.OpenShut
import Derived.ShutString
import Derived.ChangeOld
import Derived.Lib.SmallJoins
import Derived.Deep.SlicePairs
namespace Go.Proofs.YtphpdanohooccaaGreatDoor
open Go.ChangeShapes Go.WideShapes Go.ChangeAt Go.RowKit Go.Joins Go.Deep
open Go.ChangeMaps (open_string shut_string)

theorem own : ownKnob Tryz.prog.godebug = none := by kernel_rfl
theorem laidOut : laidOutB Tryz.prog = true := by kernel_rfl

section
variable {H : Type} {enc : TypeId × Value → H} {P : Program} {w : World} {base : Nat} {spare : Nat → Bool} {held : Bool}
variable {r : Reach} {b0 : Nat} {t e : TypeId} {v : Value} {d : DataW H} {p : List MemPlace}

theorem view_int (ht : P.underlying t = some (.int .i64)) (hv : Value.okWide P w r b0 t v) (h : DataW.Trod enc P w base spare held t v d p) :
    ∃ n, v = .int .i64 n ∧ -9223372036854775808 ≤ n ∧ n ≤ 9223372036854775807 := by
  obtain ⟨n, rfl, _, _, hw⟩ := open_int ht hv h
  exact ⟨n, rfl, bounds_i64 hw⟩

theorem view_string (ht : P.underlying t = some .string) (hv : Value.okWide P w r b0 t v) (h : DataW.Trod enc P w base spare held t v d p) :
    ∃ s : ByteArray, v = .string s ∧ s.size ≤ maxLen := by
  obtain ⟨s, rfl, _, _, hw⟩ := open_string ht hv h
  exact ⟨s, rfl, hw⟩

/-- A slice of integers of kind k, read at its cells. -/
theorem view_cells {k : IntKind} {fuel : Nat} {x : DataW H × List MemPlace} (ht : P.underlying t = some (.slice e)) (he : P.underlying e = some (.int k)) (hc : P.cellsOf e = 1)
    {a : Option Addr} {len cap : Nat} (h : DataW.trod enc P w base spare held fuel t [.slice a len cap] = some x) :
    ∃ xs : List Int, xs.length = len ∧ Rd w 1 a len (xs.map (Value.int k)) ∧ len ≤ cap ∧ cap ≤ maxLen ∧ ∀ n ∈ xs, (Lit.int k n).wf = true := by
  rcases open_ints ht he hc h with ⟨hcs, _⟩ | ⟨ad, l, c, zs, hcs, _, hl, hm, hz, _, hcell, hwz⟩
  · simp only [List.cons.injEq, Value.slice.injEq, and_true] at hcs
    obtain ⟨rfl, rfl, rfl⟩ := hcs
    exact ⟨[], rfl, Rd.nil _ _ _, Nat.le_refl _, by simp [maxLen], by simp⟩
  · simp only [List.cons.injEq, Value.slice.injEq, and_true] at hcs
    obtain ⟨rfl, rfl, rfl⟩ := hcs
    have hlz : len ≤ zs.length := by rw [hz]; split <;> omega
    refine ⟨zs.take len, by simp; omega, ⟨by simp; omega, fun hn => ?_⟩, hl, hm, fun n hn => hwz n (List.mem_of_mem_take hn)⟩
    obtain ⟨b, o, s⟩ := ad
    have h0 := hcell 0 (by omega)
    have hs : s = none := by simpa [Addr.add] using World.cell?_spot h0
    subst hs
    refine ⟨b, o, rfl, fun j u hu => ?_⟩
    have hj : j < len := by
      have := (List.getElem?_eq_some_iff.1 hu).1
      simp at this
      omega
    have hcj := hcell j (by omega)
    rw [Addr.add_lit] at hcj
    rw [hcj, ← hu]
    have hjz : j < zs.length := by omega
    simp [hj, List.getD, hjz]

theorem view_ints (ht : P.underlying t = some (.slice e)) (he : P.underlying e = some (.int .i64)) (hc : P.cellsOf e = 1) (hv : Value.okWide P w r b0 t v) (h : DataW.Trod enc P w base spare held t v d p) :
    ∃ A c, ∃ xs : List Int, v = .slice A xs.length c ∧ RdI w A xs ∧ xs.length ≤ c ∧ c ≤ maxLen ∧ Fits xs := by
  obtain ⟨a, len, cap, rfl⟩ := okWide_slice ht hv
  obtain ⟨fuel, hf⟩ := h
  obtain ⟨xs, rfl, h1, h2, h3, h4⟩ := view_cells ht he hc hf
  exact ⟨a, cap, xs, rfl, h1, h2, h3, fun n hn => bounds_i64 (h4 n hn)⟩

theorem view_bytes (ht : P.underlying t = some (.slice e)) (he : P.underlying e = some (.int .u8)) (hc : P.cellsOf e = 1) (hv : Value.okWide P w r b0 t v) (h : DataW.Trod enc P w base spare held t v d p) :
    ∃ A c, ∃ xs : List Int, v = .slice A xs.length c ∧ Rd w 1 A xs.length (xs.map (Value.int .u8)) ∧ xs.length ≤ c ∧ c ≤ maxLen ∧ ∀ x ∈ xs, 0 ≤ x ∧ x ≤ 255 := by
  obtain ⟨a, len, cap, rfl⟩ := okWide_slice ht hv
  obtain ⟨fuel, hf⟩ := h
  obtain ⟨xs, rfl, h1, h2, h3, h4⟩ := view_cells ht he hc hf
  exact ⟨a, cap, xs, rfl, h1, h2, h3, fun n hn => bounds_u8 (h4 n hn)⟩

/-- A struct of two ints, by value. -/
theorem view_two {f0 f1 : Field} (hs : P.underlying t = some (.struct #[f0, f1])) (hone : oneCellFields P #[f0, f1] = true) (hC : P.cellsOf t = 2)
    (h0 : P.underlying f0.type = some (.int .i64)) (h1 : P.underlying f1.type = some (.int .i64)) (hv : Value.okWide P w r b0 t v) (h : DataW.Trod enc P w base spare held t v d p) :
    ∃ n m, v = .agg #[.int .i64 n, .int .i64 m] ∧ (-9223372036854775808 ≤ n ∧ n ≤ 9223372036854775807) ∧ -9223372036854775808 ≤ m ∧ m ≤ 9223372036854775807 := by
  obtain ⟨v0, v1, y0, y1, m, rfl, _, _, t0, t1⟩ := open_agg2 hs hone hC hv h
  obtain ⟨n0, e0, _, w0⟩ := DataW.trod_int h0 t0
  obtain ⟨n1, e1, _, w1⟩ := DataW.trod_int h1 t1
  simp at e0 e1
  subst e0 e1
  exact ⟨n0, n1, rfl, bounds_i64 w0, bounds_i64 w1⟩

/-- A struct of an int and a slice of ints, by value. -/
theorem view_rhythm {f0 f1 : Field} (hs : P.underlying t = some (.struct #[f0, f1])) (hone : oneCellFields P #[f0, f1] = true) (hC : P.cellsOf t = 2)
    (h0 : P.underlying f0.type = some (.int .i64)) (h1 : P.underlying f1.type = some (.slice e)) (he : P.underlying e = some (.int .i64)) (hc : P.cellsOf e = 1)
    (hv : Value.okWide P w r b0 t v) (h : DataW.Trod enc P w base spare held t v d p) :
    ∃ n A c, ∃ xs : List Int, v = .agg #[.int .i64 n, .slice A xs.length c] ∧ (-9223372036854775808 ≤ n ∧ n ≤ 9223372036854775807) ∧ RdI w A xs ∧ xs.length ≤ c ∧ c ≤ maxLen ∧ Fits xs := by
  obtain ⟨v0, v1, y0, y1, m, rfl, _, _, t0, t1⟩ := open_agg2 hs hone hC hv h
  obtain ⟨n0, e0, _, w0⟩ := DataW.trod_int h0 t0
  simp at e0
  subst e0
  obtain ⟨A, len, cap, rfl⟩ : ∃ A len cap, v1 = .slice A len cap := by
    rcases open_ints h1 he hc t1 with ⟨hcs, _⟩ | ⟨ad, l, c, zs, hcs, _⟩
    · simp at hcs; exact ⟨_, _, _, hcs⟩
    · simp at hcs; exact ⟨_, _, _, hcs⟩
  obtain ⟨xs, rfl, g1, g2, g3, g4⟩ := view_cells h1 he hc t1
  exact ⟨n0, A, cap, xs, rfl, bounds_i64 w0, g1, g2, g3, fun n hn => bounds_i64 (g4 n hn)⟩

/-- A slice of structs of two ints. -/
theorem view_pairs {f0 f1 : Field} (ht : P.underlying t = some (.slice e)) (hs : P.underlying e = some (.struct #[f0, f1]))
    (ce : P.cellsOf e = 2) (o0 : f0.offset = 0) (o1 : f1.offset = 1) (c0 : P.cellsOf f0.type = 1) (c1 : P.cellsOf f1.type = 1)
    (h0 : P.underlying f0.type = some (.int .i64)) (h1 : P.underlying f1.type = some (.int .i64)) (hv : Value.okWide P w r b0 t v) (h : DataW.Trod enc P w base spare held t v d p) :
    ∃ A c, ∃ xs : List (Int × Int), v = .slice A xs.length c ∧ Rd w 2 A xs.length (pairCells xs) ∧ xs.length ≤ c ∧ c ≤ maxLen ∧
      ∀ q ∈ xs, (-9223372036854775808 ≤ q.1 ∧ q.1 ≤ 9223372036854775807) ∧ -9223372036854775808 ≤ q.2 ∧ q.2 ≤ 9223372036854775807 := by
  obtain ⟨a, len, cap, rfl⟩ := okWide_slice ht hv
  obtain ⟨fuel, hf⟩ := h
  rcases Deep.open_slice_pairs ht hs ce o0 o1 c0 c1 hf with ⟨hcs, _⟩ | ⟨ad, l, c, m, n, V0, V1, D0, D1, P0, P1, hcs, _, hl, hm, hmm, _, hcell⟩
  · simp only [Value.cells] at hcs
    simp at hcs
    obtain ⟨rfl, rfl, rfl⟩ := hcs
    exact ⟨none, 0, [], rfl, Rd.nil _ _ _, Nat.le_refl _, by simp [maxLen], by simp⟩
  · simp [Value.cells] at hcs
    obtain ⟨rfl, rfl, rfl⟩ := hcs
    have hlm : len ≤ m := by rw [hmm]; split <;> omega
    have each : ∀ i, i < len → ∃ q : Int × Int, (w.cell? (ad.add (i * 2)) = some (.int .i64 q.1) ∧ w.cell? (ad.add (i * 2 + 1)) = some (.int .i64 q.2)) ∧
        (-9223372036854775808 ≤ q.1 ∧ q.1 ≤ 9223372036854775807) ∧ -9223372036854775808 ≤ q.2 ∧ q.2 ≤ 9223372036854775807 := by
      intro i hi
      obtain ⟨g0, g1, t0, t1⟩ := hcell i (by omega)
      obtain ⟨n0, e0, _, w0⟩ := DataW.trod_int h0 t0
      obtain ⟨n1, e1, _, w1⟩ := DataW.trod_int h1 t1
      simp at e0 e1
      exact ⟨(n0, n1), ⟨e0 ▸ g0, e1 ▸ g1⟩, bounds_i64 w0, bounds_i64 w1⟩
    obtain ⟨F, hF⟩ := Deep.choose_lt (α := Int × Int) each
    have hlen : ((List.range len).map F).length = len := by simp
    refine ⟨some ad, cap, (List.range len).map F, by rw [hlen], ⟨pairCells_length _, fun hn => ?_⟩, by rw [hlen]; exact hl, hm, ?_⟩
    · rw [hlen] at hn
      obtain ⟨b, o, s⟩ := ad
      have h00 := (hF 0 hn).1.1
      have hsp : s = none := by simpa [Addr.add] using World.cell?_spot h00
      subst hsp
      refine ⟨b, o, rfl, fun j u hu => ?_⟩
      have hj : j < len * 2 := by
        have := (List.getElem?_eq_some_iff.1 hu).1
        rw [pairCells_length, hlen] at this
        exact this
      have hi : j / 2 < len := by omega
      have hk := pairCells_get ((List.range len).map F) j (by rw [hlen]; exact hj)
      rw [hk] at hu
      injection hu with hu
      have hget : ((List.range len).map F).getD (j / 2) (0, 0) = F (j / 2) := by simp [List.getD, hi]
      rw [hget] at hu
      obtain ⟨⟨a0, a1⟩, _⟩ := hF (j / 2) hi
      rw [Addr.add_lit] at a0 a1
      by_cases hp : j % 2 = 0
      · rw [if_pos hp] at hu
        rw [← hu, ← a0]
        congr 2
        omega
      · rw [if_neg hp] at hu
        rw [← hu, ← a1]
        congr 2
        omega
    · intro q hq
      obtain ⟨i, hi, rfl⟩ := List.mem_map.1 hq
      exact (hF i (List.mem_range.1 hi)).2
end
end Go.Proofs.YtphpdanohooccaaGreatDoor
