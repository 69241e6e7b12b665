/- Contracts of BestGrid. -/
import Derived.Test.YtpiaeiihacobnaaSizes
import Derived.Test.YtpiaeiihacobnaaColl
import Derived.Test.YtpiaeiihacobnaaQuantD
import Derived.Test.YtpiaeiihacobnaaQuantC
import Derived.Deep.RegionHeld3
namespace Go.Proofs.Ytpiaeiihacobnaa
open Go.RowKit

/-- What a grid costs. -/
def costF (xs : List Int) (c g : Int) : Int := (xs.map fun x => distF x g).sum + c * ((colF (xs.map fun x => nearF x g)).length : Int)
def stepG (f : Int → Int) (b g : Int) : Int := if f g < f b then g else b
def bgB (xs gs : List Int) (c : Int) : Bool := timesB xs && (inB gs.length 1 20 && (inB c 0 1000 && allB gs 1 1000))
def bgF (xs gs : List Int) (c : Int) : Int := if bgB xs gs c = true then gs.foldl (stepG (costF xs c)) (gs.getD 0 0) else 0
theorem foldl_snoc' (f : Int → Int) (gs : List Int) (k : Nat) (b : Int) (hk : k < gs.length) : (gs.take (k + 1)).foldl (stepG f) b = stepG f ((gs.take k).foldl (stepG f) b) (gs.getD k 0) := by
  rw [take_snoc gs k hk, List.foldl_append]
  rfl
theorem foldl_one (f : Int → Int) (gs : List Int) (h : 0 < gs.length) : (gs.take 1).foldl (stepG f) (gs.getD 0 0) = gs.getD 0 0 := by
  rw [foldl_snoc' f gs 0 _ h]
  simp [stepG]
theorem fold_in (f : Int → Int) (gs : List Int) : ∀ b, (gs.foldl (stepG f) b = b ∨ gs.foldl (stepG f) b ∈ gs) := by
  induction gs with
  | nil => intro b; exact Or.inl rfl
  | cons g gs ih =>
    intro b
    rw [List.foldl_cons]
    rcases ih (stepG f b g) with h | h
    · rw [h]
      unfold stepG
      split
      · exact Or.inr (by simp)
      · exact Or.inl rfl
    · exact Or.inr (by simp [h])
theorem sum_le_len {xs : List Int} {M : Int} (h : ∀ x ∈ xs, 0 ≤ x ∧ x ≤ M) : 0 ≤ xs.sum ∧ xs.sum ≤ M * xs.length := by
  induction xs with
  | nil => simp
  | cons x xs ih =>
    have h1 := h x (by simp)
    have h2 := ih (fun y hy => h y (by simp [hy]))
    rw [List.sum_cons, List.length_cons]
    have e : M * ((xs.length + 1 : Nat) : Int) = M * xs.length + M := by rw [Int.natCast_add, Int.mul_add]; simp
    rw [e]
    omega

/-- What the numbers of one grid's cost are bounded by. -/
theorem cost_parts {xs : List Int} {c g : Int} (hx : xs.length ≤ 32 ∧ ∀ x ∈ xs, 0 ≤ x ∧ x ≤ 100000) (hg : 1 ≤ g ∧ g ≤ 1000) (hc : 0 ≤ c ∧ c ≤ 1000) :
    (0 ≤ (xs.map fun x => distF x g).sum ∧ (xs.map fun x => distF x g).sum ≤ 32000) ∧ (colF (xs.map fun x => nearF x g)).length ≤ 32 ∧ 0 ≤ c * ((colF (xs.map fun x => nearF x g)).length : Int) ∧ c * ((colF (xs.map fun x => nearF x g)).length : Int) ≤ 32000 := by
  have h1 := sum_le_len (xs := xs.map fun x => distF x g) (M := 1000) (fun y hy => by
    rw [List.mem_map] at hy
    obtain ⟨x, hx', rfl⟩ := hy
    have := distF_bd hg (hx.2 x hx')
    omega)
  rw [List.length_map] at h1
  have h2 := colF_len (xs.map fun x => nearF x g)
  rw [List.length_map] at h2
  refine ⟨⟨h1.1, by omega⟩, by omega, Int.mul_nonneg hc.1 (by omega), ?_⟩
  have h3 := Int.mul_le_mul_of_nonneg_right hc.2 (show (0 : Int) ≤ ((colF (xs.map fun x => nearF x g)).length : Int) by omega)
  omega

set_option maxHeartbeats 2000000 in
theorem cost_any (A : Option Addr) (c : Nat) (xs : List Int) (k g : Int) (g3 g5 : Nat) (w : World) (hr : RdI w A xs) (hx : xs.length ≤ 32 ∧ ∀ x ∈ xs, 0 ≤ x ∧ x ≤ 100000) (hg : 1 ≤ g ∧ g ≤ 1000) (hk : 0 ≤ k ∧ k ≤ 1000)
    (h3 : w.cell? ⟨g3, 0, none⟩ = some (.slice A xs.length c)) (h5 : w.cell? ⟨g5, 0, none⟩ = some (.int .i64 k)) :
    Calls Try.prog 56 #[.int .i64 g, .pointer (some ⟨g3, 0, none⟩), .pointer (some ⟨g5, 0, none⟩)] w fun e w' => e = .returned (.int .i64 (costF xs k g)) ∧ Ext w w' := by
  obtain ⟨hb1, hb2, hb3, hb4⟩ := cost_parts hx hg hk
  obtain ⟨l, hl⟩ : ∃ l, l = xs.length := ⟨_, rfl⟩
  obtain ⟨es, hes⟩ : ∃ es, es = xs.map fun x => distF x g := ⟨_, rfl⟩
  obtain ⟨qs, hqs⟩ : ∃ qs, qs = xs.map fun x => nearF x g := ⟨_, rfl⟩
  obtain ⟨zs, hzs⟩ : ∃ zs, zs = colF qs := ⟨_, rfl⟩
  obtain ⟨s, hs⟩ : ∃ s, s = es.sum := ⟨_, rfl⟩
  obtain ⟨m, hm⟩ : ∃ m, m = k * (zs.length : Int) := ⟨_, rfl⟩
  have hR : costF xs k g = s + m := by rw [hm, hs, hzs, hqs, hes]; rfl
  rw [← hes, ← hs] at hb1
  rw [← hqs, ← hzs] at hb2
  rw [← hqs, ← hzs, ← hm] at hb3 hb4
  have C1 : Hid (∀ W : World, Ext w W → Calls Try.prog 48 #[.slice A l c, .int .i64 g] W (RetI W es)) := fun W he => by rw [hl, hes]; exact errors_any A c xs g W (hr.ext he) (by omega) hx.2 hg
  have C2 : Hid (∀ (B : Option Addr) (d : Nat) (W : World), RdI W B es → Calls Try.prog 49 #[.slice B es.length d] W fun e w' => e = .returned (.int .i64 s) ∧ W = w') := fun B d W h => by
    rw [hs]
    refine sumOf_any B d es W h (by rw [hes, List.length_map]; omega) (fun y hy => ?_)
    rw [hes, List.mem_map] at hy
    obtain ⟨x, hx', rfl⟩ := hy
    have := distF_bd hg (hx.2 x hx')
    omega
  have C3 : Hid (∀ W : World, Ext w W → Calls Try.prog 53 #[.slice A l c, .int .i64 g] W (RetI W qs)) := fun W he => by rw [hl, hqs]; exact quantdI_any A c xs g W (hr.ext he) (by omega) hx.2 hg
  have C4 : Hid (∀ (B : Option Addr) (d : Nat) (W : World), RdI W B qs → Calls Try.prog 57 #[.slice B qs.length d] W (RetI W zs)) := fun B d W h => by rw [hzs]; exact coll_any B d qs W h (by rw [hqs, List.length_map]; omega)
  have hw : IntKind.i64.wrap (k * (zs.length : Int)) = m := by rw [← hm]; exact IntWalk.i64_in _ (by omega)
  have HW := Lib.hid hw
  rw [hR]
  rw [← hl] at h3
  clear hl hes hqs hzs hs hm hR hr hx hw
  go_enter Try.func56, Try.ntmps56
  go_wp2_with fail
  go_region_held3 (fun W => W.cell? ⟨g3, 0, none⟩ = some (.slice A l c) ∧ W.cell? ⟨g5, 0, none⟩ = some (.int .i64 k))
    (first | exact ⟨h3, h5⟩ | exact ⟨Ext.cell e1 h3, Ext.cell e1 h5⟩ | exact ⟨Ext.cell e3 (Ext.cell e1 h3), Ext.cell e3 (Ext.cell e1 h5)⟩ | exact ⟨Ext.cell e4 (Ext.cell e3 (Ext.cell e1 h3)), Ext.cell e4 (Ext.cell e3 (Ext.cell e1 h5))⟩)
    (first
      | (go_at_call 48; refine (C1.out (World.drew w) ((Ext.refl w).drew)).mono ?_; rintro e w1 ⟨A1, d1, rfl, o1, e1⟩)
      | (go_at_call 49; refine (C2.out A1 d1 w1 o1.rd).mono ?_; rintro e w2 ⟨rfl, rfl⟩)
      | (go_at_call 53; refine (C3.out w1 ((Ext.refl w).drew.trans e1)).mono ?_; rintro e w3 ⟨A3, d3, rfl, o3, e3⟩)
      | (go_at_call 57; refine (C4.out A3 d3 w3 o3.rd).mono ?_; rintro e w4 ⟨A4, d4, rfl, o4, e4⟩))
  rw [HW.out, IntWalk.i64_in (s + m) (by omega)]
  have X := ((((Ext.refl w).drew).trans e1).trans e3).trans e4
  clear e1 e3 e4 o1 o3 o4
  go_wp2_with fail
  go_ret
  exact ⟨rfl, X⟩

theorem bgB_iff {xs gs : List Int} {c : Int} (h : bgB xs gs c = true) : (xs.length ≤ 32 ∧ ∀ x ∈ xs, 0 ≤ x ∧ x ≤ 100000) ∧ (1 ≤ gs.length ∧ gs.length ≤ 20) ∧ (0 ≤ c ∧ c ≤ 1000) ∧ ∀ g ∈ gs, 1 ≤ g ∧ g ≤ 1000 := by
  unfold bgB at h
  simp only [Bool.and_eq_true] at h
  have h1 := inB_iff.1 h.2.1
  exact ⟨timesB_len h.1, by omega, inB_iff.1 h.2.2.1, allB_iff.1 h.2.2.2⟩

set_option maxHeartbeats 4000000 in
theorem bgI_any (A B : Option Addr) (c d : Nat) (xs gs : List Int) (k : Int) (w : World) (hr : RdI w A xs) (hr2 : RdI w B gs) (hn : xs.length ≤ 1048576) (hn2 : gs.length ≤ 1048576) :
    Calls Try.prog 29 #[.slice A xs.length c, .slice B gs.length d, .int .i64 k] w fun e w' => e = .returned (.int .i64 (bgF xs gs k)) ∧ Ext w w' := by
  have hmf : ∀ (fn : Fn) (first cap : Array Value) (w : World), (Instr.makeFunc fn first cap).run Try.prog w = .ok (.func fn first cap) w := fun _ _ _ _ => rfl
  obtain ⟨l, hl⟩ : ∃ l, l = xs.length := ⟨_, rfl⟩
  obtain ⟨m, hm⟩ : ∃ m, m = gs.length := ⟨_, rfl⟩
  obtain ⟨R, hR⟩ : ∃ R, R = bgF xs gs k := ⟨_, rfl⟩
  obtain ⟨b1, hb1⟩ : ∃ b1, b1 = timesB xs := ⟨_, rfl⟩
  obtain ⟨b2, hb2⟩ : ∃ b2, b2 = inB (m : Int) 1 20 := ⟨_, rfl⟩
  obtain ⟨b3, hb3⟩ : ∃ b3, b3 = allB gs 1 1000 := ⟨_, rfl⟩
  obtain ⟨b4, hb4⟩ : ∃ b4, b4 = inB k 0 1000 := ⟨_, rfl⟩
  have hbb : bgB xs gs k = (b1 && (b2 && (b4 && b3))) := by rw [hb1, hb2, hb3, hb4, hm]; rfl
  have C1 : Hid (∀ W : World, Ext w W → Calls Try.prog 14 #[.slice A l c] W fun e w' => e = .returned (.bool b1) ∧ Ext W w') := fun W he => by rw [hl, hb1]; exact timesI_any A c xs W (hr.ext he) hn
  have C2 : Hid (∀ W : World, Calls Try.prog 50 #[.int .i64 m, .int .i64 1, .int .i64 20] W fun e w' => e = .returned (.bool b2) ∧ W = w') := fun W => by rw [hb2]; exact within_any _ _ _ W
  have C3 : Hid (∀ W : World, Ext w W → Calls Try.prog 42 #[.slice B m d, .int .i64 1, .int .i64 1000] W fun e w' => e = .returned (.bool b3) ∧ Ext W w') := fun W he => by rw [hm, hb3]; exact allWithin_any B d gs 1 1000 W (hr2.ext he) (by omega)
  have C4 : Hid (∀ W : World, Calls Try.prog 50 #[.int .i64 k, .int .i64 0, .int .i64 1000] W fun e w' => e = .returned (.bool b4) ∧ W = w') := fun W => by rw [hb4]; exact within_any _ _ _ W
  have HBB := Lib.hid hbb
  have HL := Lib.hid hl
  have HM := Lib.hid hm
  have HR := Lib.hid hr
  have HR2 := Lib.hid hr2
  have HRR := Lib.hid hR
  have HZ : Hid (bgB xs gs k = false → R = 0) := fun h => by rw [hR]; unfold bgF; rw [h]; exact rfl
  rw [← hl, ← hm, ← hR]
  rw [← hl] at hn
  rw [← hm] at hn2
  obtain ⟨W, hW⟩ : ∃ W, W = ((w.alloc (.cells #[.slice A l c] 22)).alloc (.cells #[.int .i64 k] 3)) := ⟨_, rfl⟩
  have HX0 : Hid (Ext w W) := by rw [hW]; exact ((Ext.refl w).alloc _).alloc _
  have h3 : W.cell? ⟨w.heap.size, 0, none⟩ = some (.slice A l c) := by
    rw [hW]
    exact Ext.cell ((Ext.refl _).alloc _) (cell_of_row _ _ 0 #[.slice A l c] _ (0, 0) (heap_alloc_new w _))
  have h5 : W.cell? ⟨w.heap.size + 1, 0, none⟩ = some (.int .i64 k) := by
    rw [hW]
    exact cell_of_row _ _ 0 #[.int .i64 k] _ (0, 0) (by rw [show w.heap.size + 1 = (w.alloc (.cells #[.slice A l c] 22)).heap.size by simp]; exact heap_alloc_new _ _)
  have HW := Lib.hid hW
  clear hl hm hR hb1 hb2 hb3 hb4 hbb hr hr2 hW
  go_enter Try.func29, Try.ntmps29
  go_wp2_with fail
  rw [← HW.out]
  clear HW
  go_wp2_with fail
  refine (C1.out _ HX0.out).mono ?_
  rintro e w1 ⟨rfl, he1⟩
  have HX1 := Lib.hid (HX0.out.trans he1)
  have h31 := Ext.cell he1 h3
  have h51 := Ext.cell he1 h5
  clear he1 h3 h5
  cases b1
  · have HF := Lib.hid (HZ.out (by rw [HBB.out]; rfl))
    go_wp2_with fail
    go_ret
    exact ⟨ret_int HF.out.symm, HX1.out⟩
  go_wp2_with fail
  refine (C2.out _).mono ?_
  rintro e w2 ⟨rfl, rfl⟩
  cases b2
  · have HF := Lib.hid (HZ.out (by rw [HBB.out]; rfl))
    go_wp2_with fail
    go_ret
    exact ⟨ret_int HF.out.symm, HX1.out⟩
  go_wp2_with fail
  refine (C3.out _ HX1.out).mono ?_
  rintro e w3 ⟨rfl, he3⟩
  have HX3 := Lib.hid (HX1.out.trans he3)
  have h33 := Ext.cell he3 h31
  have h53 := Ext.cell he3 h51
  clear he3 h31 h51
  cases b3
  · have HF := Lib.hid (HZ.out (by rw [HBB.out]; simp))
    go_wp2_with fail
    go_ret
    exact ⟨ret_int HF.out.symm, HX3.out⟩
  go_wp2_with fail
  refine (C4.out _).mono ?_
  rintro e w4 ⟨rfl, rfl⟩
  cases b4
  · have HF := Lib.hid (HZ.out (by rw [HBB.out]; rfl))
    go_wp2_with fail
    go_ret
    exact ⟨ret_int HF.out.symm, HX3.out⟩
  have hok : bgB xs gs k = true := by rw [HBB.out]; rfl
  obtain ⟨hx, hg1, hk1, hgs⟩ := bgB_iff hok
  have HGS := Lib.hid hgs
  obtain ⟨f, hf⟩ : ∃ f, f = costF xs k := ⟨_, rfl⟩
  have HRF : Hid (R = gs.foldl (stepG f) (gs.getD 0 0)) := by rw [HRR.out, hf]; unfold bgF; rw [if_pos hok]; exact rfl
  have CC : Hid (∀ (g : Int) (W : World), 1 ≤ g → g ≤ 1000 → Ext w W → W.cell? ⟨w.heap.size, 0, none⟩ = some (.slice A l c) → W.cell? ⟨w.heap.size + 1, 0, none⟩ = some (.int .i64 k) → Calls Try.prog 56 #[.int .i64 g, .pointer (some ⟨w.heap.size, 0, none⟩), .pointer (some ⟨w.heap.size + 1, 0, none⟩)] W fun e w' => e = .returned (.int .i64 (f g)) ∧ Ext W w') := fun g W h1 h2 he c3 c5 => by
    rw [hf]
    rw [HL.out] at c3
    exact cost_any A c xs k g _ _ W (HR.out.ext he) hx ⟨h1, h2⟩ hk1 c3 c5
  have hm1 : 1 ≤ m := by rw [HM.out]; exact hg1.1
  have hm20 : m ≤ 20 := by rw [HM.out]; exact hg1.2
  obtain ⟨bB, oB, hB, hcB⟩ := (HR2.out.ext HX3.out).at_ 0 (by rw [← HM.out]; omega)
  subst hB
  rw [Nat.add_zero] at hcB
  obtain ⟨g0, hg0⟩ : ∃ g0, g0 = gs.getD 0 0 := ⟨_, rfl⟩
  rw [← hg0] at HRF hcB
  have hg0b : 1 ≤ g0 ∧ g0 ≤ 1000 := by rw [hg0]; exact hgs _ (getD_in (by rw [← HM.out]; omega))
  clear hok hx hg1 hk1 hgs hf hg0 HZ HBB C1 C2 C3 C4
  go_wp2_with fail
  clear hcB
  go_loopw [8, 36] (fun o i wr => ∃ (j : Nat) (v : Int), j ≤ m ∧ i = .int .i64 j ∧ o = .int .i64 v ∧ 1 ≤ v ∧ v ≤ 1000 ∧ Hid (v = (gs.take j).foldl (stepG f) g0) ∧ Hid (wr.cell? ⟨w.heap.size, 0, none⟩ = some (.slice A l c)) ∧ Hid (wr.cell? ⟨w.heap.size + 1, 0, none⟩ = some (.int .i64 k)) ∧ Hid (Ext w wr)) (fun _ i _ => m - (intOf i).toNat)
  case atStart => exact ⟨0, g0, by omega, rfl, rfl, hg0b.1, hg0b.2, rfl, h33, h53, HX3.out⟩
  case round =>
    clear h33 h53 HX3
    obtain ⟨j, v, hj, rfl, rfl, hv1, hv2, HV, H3, H5, HE⟩ := hrel
    by_cases hlt : j < m
    · have hjx : j < gs.length := by rw [← HM.out]; exact hlt
      obtain ⟨b', o', hA', hc⟩ := (HR2.out.ext HE.out).at_ j hjx
      injection hA' with hA'
      injection hA' with e1 e2 _
      subst e1 e2
      obtain ⟨g, hg⟩ : ∃ g, g = gs.getD j 0 := ⟨_, rfl⟩
      have hgb := HGS.out g (by rw [hg]; exact getD_in hjx)
      rw [← hg] at hc
      have hstep := foldl_snoc' f gs j g0 hjx
      rw [← HV.out, ← hg] at hstep
      obtain ⟨x, hx⟩ : ∃ x, x = f g := ⟨_, rfl⟩
      obtain ⟨y, hy⟩ : ∃ y, y = f v := ⟨_, rfl⟩
      rw [show stepG f v g = if f g < f v then g else v from rfl, ← hx, ← hy] at hstep
      have HS := Lib.hid hstep
      have D1 := Lib.hid (CC.out g wr hgb.1 hgb.2 HE.out H3.out H5.out)
      have D2 : Hid (∀ W, Ext wr W → Calls Try.prog 56 #[.int .i64 v, .pointer (some ⟨w.heap.size, 0, none⟩), .pointer (some ⟨w.heap.size + 1, 0, none⟩)] W fun e w' => e = .returned (.int .i64 y) ∧ Ext W w') := fun W he => by
        rw [hy]
        exact CC.out v W hv1 hv2 (HE.out.trans he) (Ext.cell he H3.out) (Ext.cell he H5.out)
      rw [← hx] at D1
      clear hg hjx hstep hx hy
      go_wp2_with fail
      refine D1.out.mono ?_
      rintro e w5 ⟨rfl, he5⟩
      have HE5 := Lib.hid he5
      clear he5
      go_wp2_with fail
      refine (D2.out _ HE5.out).mono ?_
      rintro e w6 ⟨rfl, he6⟩
      have HE6 := Lib.hid (HE5.out.trans he6)
      clear he6
      by_cases hxy : x < y
      · have HN : Hid (g = (gs.take (j + 1)).foldl (stepG f) g0) := by rw [HS.out, if_pos hxy]; exact rfl
        go_wp2_with fail
        go_roundw
        case rel => exact ⟨j + 1, g, by omega, by go_num, rfl, hgb.1, hgb.2, HN.out, Ext.cell HE6.out H3.out, Ext.cell HE6.out H5.out, HE.out.trans HE6.out⟩
        case measure => simp [intOf]; omega
      · have HN : Hid (v = (gs.take (j + 1)).foldl (stepG f) g0) := by rw [HS.out, if_neg hxy]; exact rfl
        go_wp2_with fail
        go_roundw
        case rel => exact ⟨j + 1, v, by omega, by go_num, rfl, hv1, hv2, HN.out, Ext.cell HE6.out H3.out, Ext.cell HE6.out H5.out, HE.out.trans HE6.out⟩
        case measure => simp [intOf]; omega
    · obtain rfl : j = m := by omega
      have HF : Hid (v = R) := by rw [HRF.out, HV.out, take_all gs j HM.out]; exact rfl
      go_wp2_with fail
      go_ret
      exact ⟨ret_int HF.out, HE.out⟩

set_option maxHeartbeats 4000000 in
theorem bgS_any (A B : Option Addr) (c d : Nat) (xs gs : List Int) (k : Int) (w : World) (hr : RdI w A xs) (hr2 : RdI w B gs) (hn : xs.length ≤ 1048576) (hn2 : gs.length ≤ 1048576) :
    Calls Try.prog 28 #[.slice A xs.length c, .slice B gs.length d, .int .i64 k] w fun e w' => e = .returned (.int .i64 (bgF xs gs k)) ∧ Ext w w' := by
  obtain ⟨l, hl⟩ : ∃ l, l = xs.length := ⟨_, rfl⟩
  obtain ⟨m, hm⟩ : ∃ m, m = gs.length := ⟨_, rfl⟩
  obtain ⟨R, hR⟩ : ∃ R, R = bgF xs gs k := ⟨_, rfl⟩
  obtain ⟨b1, hb1⟩ : ∃ b1, b1 = timesB xs := ⟨_, rfl⟩
  obtain ⟨b2, hb2⟩ : ∃ b2, b2 = inB (m : Int) 1 20 := ⟨_, rfl⟩
  obtain ⟨b4, hb4⟩ : ∃ b4, b4 = inB k 0 1000 := ⟨_, rfl⟩
  have hbb : bgB xs gs k = (b1 && (b2 && (b4 && allB gs 1 1000))) := by rw [hb1, hb2, hb4, hm]; rfl
  have C1 : Hid (∀ W : World, Ext w W → Calls Try.prog 12 #[.slice A l c] W fun e w' => e = .returned (.bool b1) ∧ Ext W w') := fun W he => by rw [hl, hb1]; exact timesS_any A c xs W (hr.ext he) hn
  have C2 : Hid (∀ W : World, Calls Try.prog 41 #[.int .i64 m, .int .i64 1, .int .i64 20] W fun e w' => e = .returned (.bool b2) ∧ W = w') := fun W => by rw [hb2]; exact l01In_any _ _ _ W
  have C4 : Hid (∀ W : World, Calls Try.prog 41 #[.int .i64 k, .int .i64 0, .int .i64 1000] W fun e w' => e = .returned (.bool b4) ∧ W = w') := fun W => by rw [hb4]; exact l01In_any _ _ _ W
  have HBB := Lib.hid hbb
  have HL := Lib.hid hl
  have HM := Lib.hid hm
  have HR := Lib.hid hr
  have HR2 := Lib.hid hr2
  have HRR := Lib.hid hR
  have HT1 := Lib.hid hb1
  have HT4 := Lib.hid hb4
  have HT2 := Lib.hid hb2
  have HZ : Hid (bgB xs gs k = false → R = 0) := fun h => by rw [hR]; unfold bgF; rw [h]; exact rfl
  rw [← hl, ← hm, ← hR]
  rw [← hl] at hn
  rw [← hm] at hn2
  clear hl hm hR hb1 hb2 hb4 hbb hr hr2
  go_enter Try.func28, Try.ntmps28
  go_wp2_with fail
  refine (C1.out _ (Ext.refl w)).mono ?_
  rintro e w1 ⟨rfl, he1⟩
  have HX1 := Lib.hid he1
  clear he1
  cases b1
  · have HF := Lib.hid (HZ.out (by rw [HBB.out]; rfl))
    go_wp2_with fail
    go_ret
    exact ⟨ret_int HF.out.symm, HX1.out⟩
  go_wp2_with fail
  refine (C2.out _).mono ?_
  rintro e w2 ⟨rfl, rfl⟩
  cases b2
  · have HF := Lib.hid (HZ.out (by rw [HBB.out]; rfl))
    go_wp2_with fail
    go_ret
    exact ⟨ret_int HF.out.symm, HX1.out⟩
  go_wp2_with fail
  refine (C4.out _).mono ?_
  rintro e w4 ⟨rfl, rfl⟩
  cases b4
  · have HF := Lib.hid (HZ.out (by rw [HBB.out]; rfl))
    go_wp2_with fail
    go_ret
    exact ⟨ret_int HF.out.symm, HX1.out⟩
  have HBE : Hid (bgB xs gs k = allB gs 1 1000) := by rw [HBB.out]; exact rfl
  have hx := timesB_len HT1.out.symm
  have hk1 := inB_iff.1 HT4.out.symm
  have hm1 := inB_iff.1 HT2.out.symm
  obtain ⟨f, hf⟩ : ∃ f, f = costF xs k := ⟨_, rfl⟩
  obtain ⟨g0, hg0⟩ : ∃ g0, g0 = gs.getD 0 0 := ⟨_, rfl⟩
  have HG0 := Lib.hid hg0
  have HRF : Hid (bgB xs gs k = true → R = gs.foldl (stepG f) g0) := fun hok => by rw [HRR.out, hf, hg0]; unfold bgF; rw [if_pos hok]
  have HF := Lib.hid hf
  have HXX := Lib.hid hx
  clear hf hg0 HBB C1 C2 C4 hx
  go_wp2_with fail
  go_loopw [7, 8, 28] (fun o p i wr => ∃ (j : Nat) (v u : Int), j ≤ m ∧ i = .int .i64 j ∧ o = .int .i64 v ∧ p = .int .i64 u ∧ 0 ≤ u ∧ u ≤ 100000 ∧ Hid (1 ≤ j → v = (gs.take j).foldl (stepG f) g0 ∧ u = f v) ∧ Hid (∀ i, i < j → inB (gs.getD i 0) 1 1000 = true) ∧ Hid (Ext w wr)) (fun _ _ i _ => m - (intOf i).toNat)
  case atStart => exact ⟨0, 0, 0, by omega, rfl, rfl, rfl, by omega, by omega, fun h => absurd h (by omega), fun i hi => absurd hi (by omega), HX1.out⟩
  case round =>
    clear HX1
    obtain ⟨j, v, u, hj, rfl, rfl, rfl, hu0, hu1, HV, HJ, HE⟩ := hrel
    by_cases hlt : j < m
    · have hjx : j < gs.length := by rw [← HM.out]; exact hlt
      obtain ⟨b', o', hA', hc⟩ := (HR2.out.ext HE.out).at_ j hjx
      subst hA'
      obtain ⟨g, hg⟩ : ∃ g, g = gs.getD j 0 := ⟨_, rfl⟩
      rw [← hg] at hc
      have HGJ := Lib.hid hg
      have CG := Lib.hid (fun W : World => gridS_any g W)
      by_cases hgb : inB g 1 1000 = true
      · have hgb' := inB_iff.1 hgb
        rw [hgb] at CG
        have hp := cost_parts HXX.out hgb' hk1
        have htg : tgB xs g = true := by unfold tgB; rw [← HT1.out, hgb]; rfl
        obtain ⟨s, hs⟩ : ∃ s, s = (xs.map fun x => distF x g).sum := ⟨_, rfl⟩
        obtain ⟨qs, hqs⟩ : ∃ qs, qs = xs.map fun x => nearF x g := ⟨_, rfl⟩
        obtain ⟨zs, hzs⟩ : ∃ zs, zs = colF qs := ⟨_, rfl⟩
        obtain ⟨y, hy⟩ : ∃ y, y = k * (zs.length : Int) := ⟨_, rfl⟩
        rw [← hs, ← hqs, ← hzs, ← hy] at hp
        have hfg : f g = s + y := by rw [HF.out, hy, hzs, hqs, hs]; rfl
        have CE : Hid (∀ W : World, Ext w W → Calls Try.prog 18 #[.slice A l c, .int .i64 g] W fun e w' => e = .returned (.int .i64 s) ∧ Ext W w') := fun W he => by
          have := qeS_any A c xs g W (HR.out.ext he) (by rw [← HL.out]; exact hn)
          unfold qeF at this
          rw [if_pos htg, ← hs, ← HL.out] at this
          exact this
        have CA : Hid (∀ W : World, Ext w W → Calls Try.prog 52 #[.slice A l c, .int .i64 g] W (RetI W qs)) := fun W he => by
          rw [HL.out, hqs]
          exact quantdS_any A c xs g W (HR.out.ext he) (by rw [← HL.out]; exact hn) HXX.out.2 hgb'
        have CZ : Hid (∀ (D : Option Addr) (q : Nat) (W : World), RdI W D qs → Calls Try.prog 55 #[.slice D qs.length q] W (RetI W zs)) := fun D q W h => by rw [hzs]; exact sizes_any D q qs W h (by rw [hqs, List.length_map]; have := HXX.out.1; omega)
        have hw : IntKind.i64.wrap (k * (zs.length : Int)) = y := by rw [← hy]; exact IntWalk.i64_in _ (by omega)
        have HFG := Lib.hid hfg
        have HW := Lib.hid hw
        have HGB := Lib.hid hgb
        clear hg hjx hs hqs hzs hy htg hfg hw hgb
        go_wp2_with fail
        refine (CG.out _).mono ?_
        rintro e w5 ⟨rfl, rfl⟩
        go_wp2_with fail
        refine (CE.out _ HE.out).mono ?_
        rintro e w6 ⟨rfl, he6⟩
        have HE6 := Lib.hid (HE.out.trans he6)
        clear he6 hc
        go_wp2_with fail
        refine (CA.out _ HE6.out).mono ?_
        rintro e w7 ⟨D, q, rfl, ho, he7⟩
        have HE7 := Lib.hid (HE6.out.trans he7)
        have HO7 := Lib.hid ho.rd
        clear he7 ho
        go_wp2_with fail
        refine (CZ.out _ _ _ HO7.out).mono ?_
        rintro e w8 ⟨D2, q2, rfl, ho, he8⟩
        have HE8 := Lib.hid (HE7.out.trans he8)
        clear he8 ho
        have hw := HW.out
        have HJN : Hid (∀ i, i < j + 1 → inB (gs.getD i 0) 1 1000 = true) := fun i hi => by
          by_cases hij : i < j
          · exact HJ.out i hij
          · obtain rfl : i = j := by omega
            rw [← HGJ.out]
            exact HGB.out
        by_cases hj0 : j = 0
        · subst hj0
          have HVN : Hid (1 ≤ 0 + 1 → g = (gs.take (0 + 1)).foldl (stepG f) g0 ∧ s + y = f g) := fun _ => by
            refine ⟨?_, HFG.out.symm⟩
            rw [HGJ.out, HG0.out]
            exact (foldl_one f gs (by rw [← HM.out]; exact hlt)).symm
          go_wp2_with fail
          go_roundw
          case rel => exact ⟨0 + 1, g, s + y, by omega, by go_num, rfl, rfl, by omega, by omega, HVN.out, HJN.out, HE8.out⟩
          case measure => simp [intOf]; omega
        · have hj1 : 1 ≤ j := by omega
          have hjb : ((j : Int) == 0) = false := by rw [beq_eq_false_iff_ne]; omega
          have hjn : ¬ (j : Int) = 0 := by omega
          obtain ⟨hv, huf⟩ := HV.out hj1
          have hstep := foldl_snoc' f gs j g0 (by rw [← HM.out]; exact hlt)
          rw [← hv, ← HGJ.out, show stepG f v g = if f g < f v then g else v from rfl, HFG.out, ← huf] at hstep
          have HUF := Lib.hid huf
          have HST := Lib.hid hstep
          clear hv huf hstep hj0
          by_cases hxu : s + y < u
          · have HVN : Hid (1 ≤ j + 1 → g = (gs.take (j + 1)).foldl (stepG f) g0 ∧ s + y = f g) := fun _ => ⟨by rw [HST.out, if_pos hxu], HFG.out.symm⟩
            go_wp2_with fail
            go_roundw
            case rel => exact ⟨j + 1, g, s + y, by omega, by go_num, rfl, rfl, by omega, by omega, HVN.out, HJN.out, HE8.out⟩
            case measure => simp [intOf]; omega
          · have HVN : Hid (1 ≤ j + 1 → v = (gs.take (j + 1)).foldl (stepG f) g0 ∧ u = f v) := fun _ => ⟨by rw [HST.out, if_neg hxu], HUF.out⟩
            go_wp2_with fail
            go_roundw
            case rel => exact ⟨j + 1, v, u, by omega, by go_num, rfl, rfl, by omega, by omega, HVN.out, HJN.out, HE8.out⟩
            case measure => simp [intOf]; omega
      · have hgb : inB g 1 1000 = false := by simpa using hgb
        have HF0 : Hid (R = 0) := HZ.out (by
          rw [HBE.out, ← Bool.not_eq_true]
          intro h
          unfold allB at h
          rw [List.all_eq_true] at h
          have := h g (by rw [hg]; exact getD_in hjx)
          rw [hgb] at this
          cases this)
        rw [hgb] at CG
        clear hg hjx hgb
        go_wp2_with fail
        refine (CG.out _).mono ?_
        rintro e w5 ⟨rfl, rfl⟩
        go_wp2_with fail
        go_ret
        exact ⟨ret_int HF0.out.symm, HE.out⟩
    · obtain rfl : j = m := by omega
      have hall : bgB xs gs k = true := by
        rw [HBE.out]
        exact take_all_lt HJ.out HM.out
      have HF0 : Hid (v = R) := by
        rw [HRF.out hall, (HV.out (by omega)).1, take_all gs j HM.out]
        exact rfl
      go_wp2_with fail
      go_ret
      exact ⟨ret_int HF0.out, HE.out⟩
end Go.Proofs.Ytpiaeiihacobnaa
