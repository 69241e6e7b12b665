/- FnTempo: the drawn passages; the law's own gcd; passages put ahead of others. -/
import Derived.Test.YtoobffhchbgkjaaDraw
import Derived.Test.YtoobffhchbgkjaaFtB
namespace Go.Proofs.Ytoobffhchbgkjaa
open Go.RowKit

theorem Cur.neP {w : World} {g L d n c : Nat} {A B : Option Addr} {xs : List (Int × Int)} (h : Cur w g A n c) (ho : OwP w L B d xs) : ∀ ad, B = some ad → ad.block ≠ g := by
  obtain ⟨i, hh, e, _⟩ := h
  rintro ad rfl hne
  rcases ho.2 with ⟨h2, _⟩ | ⟨g1, cap, cur, e1, h3, hg, h5⟩
  · cases h2
  · injection e1 with e1 _ _
    injection e1 with e1
    subst e1
    simp only at hne
    rw [hne, e] at hg
    injection hg with hg
    injection hg with _ hg _
    exact absurd hg (by decide)
theorem Cur.grownP {w w' : World} {g L d n c : Nat} {A B : Option Addr} {xs : List (Int × Int)} (h : Cur w g A n c) (ho : OwP w L B d xs) (hg : w.grownBy w' (B.map (·.block))) : Cur w' g A n c := by
  have hne := h.neP ho
  obtain ⟨i, hh, e, h0⟩ := h
  refine ⟨i, hh, ?_, h0⟩
  rw [hg.block g (Array.getElem?_eq_some_iff.1 e).1 ?_]
  · exact e
  · cases B with
    | none => simp
    | some ad => have := hne ad rfl; simp; omega
theorem OwP.keptBy {w w' : World} {g L d : Nat} {B : Option Addr} {xs : List (Int × Int)} (ho : OwP w L B d xs) (hg : w.grownBy w' (some g)) (hne : ∀ ad, B = some ad → ad.block ≠ g) : OwP w' L B d xs := by
  refine ⟨ho.1, ?_⟩
  rcases ho.2 with h2 | ⟨g1, cap, cur, e1, h3, hb, h5⟩
  · exact Or.inl h2
  · have e2 := e1
    injection e2 with e2 _ _
    refine Or.inr ⟨g1, cap, cur, e1, h3, ?_, h5⟩
    rw [hg.block g1 (Array.getElem?_eq_some_iff.1 hb).1 (by have := hne _ e2; simp at this ⊢; omega)]
    exact hb

theorem pick_any (g n c : Nat) (A : Option Addr) (xs : List Int) (w : World) (hc : Cur w g A n c) (hr : Rd w 1 A n (xs.map (Value.int .u8))) (hn : n ≤ 1048576) (hA : ∀ a, A = some a → 0 < n → a.block < g)
    (B : Option Addr) (d : Nat) (ys : List Int) (hy : RdI w B ys) (hB : ∀ a, B = some a → a.block ≠ g) (hm : 1 ≤ ys.length ∧ ys.length ≤ 256) :
    Calls Try.prog 59 #[.pointer (some ⟨g, 0, none⟩), .slice B ys.length d] w fun e w' => (∃ x, e = .returned (.int .i64 x) ∧ x ∈ ys) ∧ Cur w' g A n c ∧ w.grownBy w' (some g) := by
  have CB := Lib.hid (below_any g n c ys.length A xs w hc hr hn hA hm)
  have HY := Lib.hid hy
  have HB := Lib.hid hB
  obtain ⟨m, hmm⟩ : ∃ m, m = ys.length := ⟨_, rfl⟩
  have HM := Lib.hid hmm
  rw [← hmm] at CB hm ⊢
  clear hc hr hA hy hB hmm
  go_enter Try.func59, Try.ntmps59
  go_wp2_with fail
  refine CB.out.mono ?_
  rintro e w1 ⟨⟨x, rfl, hx⟩, hc, hg⟩
  have HC := Lib.hid hc
  have HG := Lib.hid hg
  have hrd : RdI w1 B ys := Rd.grown HY.out hg (fun a ha => by have := HB.out a ha; simp; omega)
  obtain ⟨b, o, hA, hcell⟩ := hrd.at_ x (by rw [← HM.out]; exact hx)
  subst hA
  obtain ⟨y, hyy⟩ : ∃ y, y = ys.getD x 0 := ⟨_, rfl⟩
  rw [← hyy] at hcell
  have HYY : Hid (y ∈ ys) := by rw [hyy]; exact getD_mem0 (by rw [← HM.out]; exact hx)
  clear hc hg hyy hrd
  go_wp2_with fail
  go_ret
  exact ⟨⟨y, rfl, HYY.out⟩, HC.out, HG.out⟩

def RetDrawP (v : World) (e : Ending) (w' : World) : Prop := ∃ B d ys, e = .returned (.slice B ys.length d) ∧ OwP w' v.heap.size B d ys ∧ okTempo ys ∧ Ext v w'
set_option maxHeartbeats 2000000 in
theorem draw20_any (g n c : Nat) (A : Option Addr) (xs : List Int) (v w : World) (hc : Cur w g A n c) (hr : Rd v 1 A n (xs.map (Value.int .u8))) (hn : n ≤ 1048576) (hA : ∀ a, A = some a → 0 < n → a.block < g) (hv : Ext v w) (hg : v.heap.size ≤ g) :
    Calls Try.prog 52 #[.pointer (some ⟨g, 0, none⟩)] w (RetDrawP v) := by
  have CB : Hid (∀ (m : Nat) (W : World), 1 ≤ m → m ≤ 256 → Ext v W → Cur W g A n c → Calls Try.prog 58 #[.pointer (some ⟨g, 0, none⟩), .int .i64 (m : Int)] W (RetBelow W g m A n c)) := fun m W h1 h2 he h => below_any g n c m A xs W h (hr.ext he) hn hA ⟨h1, h2⟩
  have CP : Hid (∀ (W : World), Ext v W → Cur W g A n c → Calls Try.prog 59 #[.pointer (some ⟨g, 0, none⟩), .slice (some ⟨W.heap.size, 0, none⟩) 9 9] (W.alloc (.cells #[.int .i64 40, .int .i64 60, .int .i64 72, .int .i64 80, .int .i64 90, .int .i64 100, .int .i64 120, .int .i64 144, .int .i64 200] 3))
      fun e w' => (∃ x, e = .returned (.int .i64 x) ∧ x ∈ ratesL) ∧ Cur w' g A n c ∧ (W.alloc (.cells #[.int .i64 40, .int .i64 60, .int .i64 72, .int .i64 80, .int .i64 90, .int .i64 100, .int .i64 120, .int .i64 144, .int .i64 200] 3)).grownBy w' (some g)) := fun W he h =>
    pick_any g n c A xs _ (h.ext ((Ext.refl _).alloc _)) (hr.ext (he.alloc _)) hn hA (some ⟨W.heap.size, 0, none⟩) 9 ratesL (RdI.built W ratesL) (fun a ha => by injection ha with ha; subst ha; have := h.lt; simp; omega) (by decide)
  have HC : Hid (Cur (w.alloc (.cells #[] 52)) g A n c) := hc.ext ((Ext.refl _).alloc _)
  have HV : Hid (Ext v (w.alloc (.cells #[] 52))) := hv.alloc _
  have HO : Hid (OwP (w.alloc (.cells #[] 52)) v.heap.size (some ⟨w.heap.size, 0, none⟩) 0 []) := (OwP.empty w).lower hv.size
  obtain ⟨W, hW⟩ : ∃ W, W = (w.alloc (.cells #[] 52)) := ⟨_, rfl⟩
  rw [← hW] at HC HV HO
  have C4 := Lib.hid (CB.out 4 W (by omega) (by omega) HV.out HC.out)
  have HGV := Lib.hid hg
  clear hc hr hv hA
  go_enter Try.func52, Try.ntmps52
  go_wp2_with fail
  rw [← hW]
  refine C4.out.mono ?_
  rintro e w1 ⟨⟨x, rfl, hx⟩, hc1, hg1⟩
  have HC1 := Lib.hid hc1
  have HO1 := Lib.hid (HO.out.keptBy hg1 (HC.out.neP HO.out))
  have HV1 := Lib.hid (HV.out.row hg1 HGV.out)
  clear hc1 hg1 HC HO HV hW C4
  go_wp2_with fail
  go_loopw [3, 4] (fun o i wr => ∃ (k m : Nat) (B : Option Addr) (d : Nat) (ys : List (Int × Int)), i = .int .i64 k ∧ o = .slice B m d ∧ k + m = 1 + x ∧ Hid (ys.length = m) ∧ Hid (∀ q ∈ ys, (1 ≤ q.1 ∧ q.1 ≤ 40) ∧ q.2 ∈ ratesL) ∧ Hid (Cur wr g A n c) ∧ Hid (OwP wr v.heap.size B d ys) ∧ Hid (Ext v wr)) (fun _ i _ => (intOf i).toNat)
  case atStart => exact ⟨1 + x, 0, _, 0, [], by go_num, rfl, by omega, rfl, fun y hy => absurd hy (by simp), HC1.out, HO1.out, HV1.out⟩
  case round =>
    clear HC1 HO1 HV1
    obtain ⟨k, m, B, d, ys, rfl, rfl, hkm, HM, HY, HC, HO, HE⟩ := hrel
    by_cases hlt : 0 < k
    · have C40 := Lib.hid (CB.out 40 wr (by omega) (by omega) HE.out HC.out)
      go_wp2_with fail
      refine C40.out.mono ?_
      rintro e w1 ⟨⟨y, rfl, hy⟩, hc1, hg1⟩
      have HC1 := Lib.hid hc1
      have HO1 := Lib.hid (HO.out.keptBy hg1 (HC.out.neP HO.out))
      have HV1 := Lib.hid (HE.out.row hg1 HGV.out)
      clear hc1 hg1 HC HO HE C40
      go_wp2_with fail
      refine (CP.out w1 HV1.out HC1.out).mono ?_
      rintro e w2 ⟨⟨r, rfl, hr⟩, hc2, hg2⟩
      have HO1a := Lib.hid (HO1.out.ext ((Ext.refl w1).alloc (.cells #[.int .i64 40, .int .i64 60, .int .i64 72, .int .i64 80, .int .i64 90, .int .i64 100, .int .i64 120, .int .i64 144, .int .i64 200] 3)))
      have HC1a := Lib.hid (HC1.out.ext ((Ext.refl w1).alloc (.cells #[.int .i64 40, .int .i64 60, .int .i64 72, .int .i64 80, .int .i64 90, .int .i64 100, .int .i64 120, .int .i64 144, .int .i64 200] 3)))
      have HC2 := Lib.hid hc2
      have HO2 := Lib.hid (HO1a.out.keptBy hg2 (HC1a.out.neP HO1a.out))
      have HV2 := Lib.hid ((HV1.out.alloc _).row hg2 HGV.out)
      have HRR := Lib.hid hr
      clear hc2 hg2 HC1 HO1 HV1 HO1a HC1a hr
      go_wp2_with (at_builtin; refine app_pair v _ rfl _ _ rfl B d m ys _ _ _ rfl rfl rfl HM.out HO2.out HV2.out (by omega) ?_; intro A' c' w3 h1 h2 h3 _; have HO3 := Lib.hid h1; have HE3 := Lib.hid h2; have HC3 := Lib.hid ((HC2.out.ext ((Ext.refl _).alloc _)).grownP (HO2.out.ext ((Ext.refl _).alloc _)) h3); clear h1 h2 h3)
      go_roundw
      case rel =>
        refine ⟨k - 1, m + 1, A', c', ys ++ [(1 + (y : Int), r)], by go_num, rfl, by omega, by rw [List.length_append, HM.out]; exact rfl, ?_, HC3.out, HO3.out, HE3.out⟩
        refine Lib.hid fun z hz => ?_
        rw [List.mem_append] at hz
        rcases hz with hz | hz
        · exact HY.out z hz
        · rw [List.mem_singleton] at hz
          subst hz
          exact ⟨by simp only []; omega, HRR.out⟩
      case measure => simp [intOf]; omega
    · obtain rfl : k = 0 := by omega
      go_wp2_with fail
      go_ret
      have := HM.out
      subst this
      exact ⟨B, d, ys, rfl, HO.out, ⟨⟨by omega, by omega⟩, HY.out⟩, HE.out⟩
theorem makeTempo_any (n c m : Nat) (A : Option Addr) (xs : List Int) (w : World) (hr : Rd w 1 A n (xs.map (Value.int .u8))) (hn : n ≤ 1048576) (hm : m ≤ 1000) :
    Calls Try.prog 37 #[.slice A n c, .int .i64 (m : Int)] w (RetDrawP w) := by
  have HR := Lib.hid hr
  have HL := Lib.hid hr.block_lt
  clear hr
  go_enter Try.func37, Try.ntmps37
  go_wp2_with fail
  refine (l31New_any _ _ _ _ xs _ HR.out hn hm).mono ?_
  rintro e w1 ⟨g, rfl, hcu, hg, he⟩
  have C := Lib.hid (draw20_any g n c A xs w w1 hcu HR.out hn (fun a ha h0 => by have := HL.out a ha h0; omega) he hg)
  clear hcu hg he
  go_wp2_with fail
  refine C.out.mono ?_
  rintro e w2 ⟨B, d, ys, rfl, ho, hb, he⟩
  have H : Hid (RetDrawP w (.returned (.slice B ys.length d)) w2) := ⟨B, d, ys, rfl, ho, hb, he⟩
  clear ho hb he
  go_wp2_with fail
  go_ret
  exact H.out

theorem gcdL_any (a b : Nat) (w : World) (ha : a ≤ 9223372036854775807) (hb : b ≤ 9223372036854775807) :
    Calls Try.prog 40 #[.int .i64 (a : Int), .int .i64 (b : Int)] w fun e w' => e = .returned (.int .i64 (Nat.gcd a b : Nat)) ∧ w = w' := by
  obtain ⟨G, hG⟩ : ∃ G, G = Nat.gcd a b := ⟨_, rfl⟩
  rw [← hG]
  have HG := Lib.hid hG
  clear hG
  go_enter Try.func40, Try.ntmps40
  go_wp2
  go_loop [0, 1] (fun x y => ∃ p q : Nat, p ≤ 9223372036854775807 ∧ q ≤ b ∧ Hid (G = Nat.gcd p q) ∧ x = .int .i64 (p : Int) ∧ y = .int .i64 (q : Int)) (fun _ y => (intOf y).toNat)
  case atStart => exact ⟨a, b, ha, Nat.le_refl _, HG, rfl, rfl⟩
  case round =>
    obtain ⟨p, q, hp, hq, HI, rfl, rfl⟩ := hrel
    by_cases hlt : 0 < q
    · have hm : p % q < q := Nat.mod_lt _ hlt
      have hm0 : ((p : Int) % (q : Int)) = ((p % q : Nat) : Int) := by omega
      have HM := Lib.hid hm0
      clear hm0
      go_wp2
      go_round
      case rel => exact ⟨q, p % q, by omega, by omega, HI.out.trans (gcd_step hlt).symm, rfl, by rw [HM.out]⟩
      case measure => simp only [intOf]; have := HM.out; omega
    · obtain rfl : q = 0 := by omega
      go_wp2
      go_ret
      exact ⟨ret_int (by rw [HI.out, Nat.gcd_zero_right]), rfl⟩

/-- 'append([]Passage{p}, back...)'. -/
theorem app_pairs {ops : Array Oper} {rest : List Oper} {o : Oper} {a : Act} {Q : Exit → Act → World → Prop} (wb w0 : World) (hgd : o.guard = none) (s x : Operand)
    (ho : o.op = .call { callee := .builtin .append, args := #[s, x], argTypes := #[25, 25] })
    (v u : Int) (B : Option Addr) (d m : Nat) (ys : List (Int × Int)) (g : Nat) (hs : a.eval s = .slice (some ⟨g, 0, none⟩) 1 1) (hx : a.eval x = .slice B m d) (hgg : w0.heap.size = g)
    (hl : ys.length = m) (hr : RdP w0 B ys) (hB : B ≠ none) (he : Ext wb w0) (hn : m < 1099511627776)
    (h : ∀ A' c' w', OwP w' wb.heap.size A' c' ((v, u) :: ys) → Ext wb w' → A' ≠ none → wpList Try.prog ops Q rest (a.put o.dst (.slice A' (m + 1) c')) w') :
    wpList Try.prog ops Q (o :: rest) a (w0.alloc (.cells #[.int .i64 v, .int .i64 u] 52)) := by
  subst hl
  subst hgg
  obtain ⟨i0, hi, hz0, hz1, hz2⟩ := info_parts info_pass
  have hown : OwP (w0.alloc (.cells #[.int .i64 v, .int .i64 u] 52)) wb.heap.size (some ⟨w0.heap.size, 0, none⟩) 1 [(v, u)] :=
    OwP.lower (World.ownsRow_lit w0 #[.int .i64 v, .int .i64 u] 1 (Nat.le_refl _) (by simp [maxLen]) rfl) he.size
  obtain ⟨ad, rfl⟩ : ∃ ad, B = some ad := by cases B with | none => exact absurd rfl hB | some ad => exact ⟨ad, rfl⟩
  have hrd := Rd.ext hr ((Ext.refl w0).alloc (.cells #[.int .i64 v, .int .i64 u] 52))
  have hcell : ∀ j u', (pairCells ys)[j]? = some u' → (w0.alloc (.cells #[.int .i64 v, .int .i64 u] 52)).cell? (ad.add j) = some u' := by
    intro j u' hj
    have hjl := (List.getElem?_eq_some_iff.1 hj).1
    rw [pairCells_length] at hjl
    obtain ⟨b, o', e, hc⟩ := hrd.2 (by omega)
    injection e with e
    subst e
    rw [Addr.add_lit]
    exact hc j u' hj
  refine wpList_append_own_at _ hgd s x 25 ho wb.heap.size 52 i0 (.agg #[.int .i64 0, .int .i64 0]) 2 16 Try.underlying25 hi hz0 hz1 hz2 rfl (by decide) _ 1 (pairCells [(v, u)]) hs hown
    ad ys.length d (pairCells ys) hx (by rw [pairCells_length]) hcell (by
      intro u' hu
      unfold pairCells at hu
      simp only [List.mem_flatMap, List.mem_cons, List.not_mem_nil, or_false] at hu
      obtain ⟨q, _, rfl | rfl⟩ := hu <;> rfl) (by simp only [maxLen]; omega) (by omega) (by simp; exact Nat.le_succ_of_le he.size) ?_
  intro v' w' hown' hg _ hat
  obtain ⟨A', c', rfl, _, _⟩ := own_form hown'
  have hl' : ((v, u) :: ys).length = ys.length + 1 := by simp
  have ho' : OwP w' wb.heap.size A' c' ((v, u) :: ys) := by
    unfold OwP
    rw [hl', Nat.add_comm]
    exact hown'
  rw [Nat.add_comm ys.length 1] at h
  exact h A' c' w' ho' (Ext.grown (he.alloc _) hg (fun k hk => (World.ownsRow.lt hown k hk).1)) (by
    obtain ⟨b, o', e, _⟩ := ho'.rd.at_ 0 (by simp)
    rw [e]
    simp)
end Go.Proofs.Ytoobffhchbgkjaa
