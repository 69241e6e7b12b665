/- The reference's ParseMeter, ParseBar. -/
import Derived.Test.YtedfmjijemcpaaaDoorPsO
import Derived.Test.YtedfmjijemcpaaaDoorPsS
namespace Go.Proofs.YtedfmjijemcpaaaDoor
open Go.RowKit

theorem splitL_le (c : UInt8) : ∀ (l : List UInt8), ∀ w ∈ splitL c l, w.length ≤ l.length
  | [], w, hw => by
    have : w = [] := by simpa [splitL] using hw
    subst this
    exact Nat.le_refl _
  | x :: r, w, hw => by
    by_cases hx : x = c
    · subst hx
      rw [splitL_eq] at hw
      rcases List.mem_cons.1 hw with rfl | h
      · simp
      · have := splitL_le x r w h
        simp only [List.length_cons]
        omega
    · rw [splitL_cons hx] at hw
      obtain ⟨h, t, e⟩ := splitL_ne c r
      rw [e] at hw
      rcases List.mem_cons.1 hw with rfl | h2
      · have := splitL_le c r h (by rw [e]; simp)
        simp only [List.length_cons]
        omega
      · have := splitL_le c r w (by rw [e]; simp [h2])
        simp only [List.length_cons]
        omega
theorem getD_snoc_lt {vs : List Int} {v : Int} {i : Nat} (h : i < vs.length) : (vs ++ [v]).getD i 0 = vs.getD i 0 := by
  simp [List.getD, List.getElem?_append_left h]
theorem getD_snoc_eq {vs : List Int} {v : Int} : (vs ++ [v]).getD vs.length 0 = v := by
  simp [List.getD]
/-- The numbers that are read of the first words. -/
def GoodTo (ll : List (List UInt8)) (vs : List Int) : Prop := ∀ j, j < vs.length → Good (ll.getD j []) (vs.getD j 0)
theorem GoodTo.nil (ll : List (List UInt8)) : GoodTo ll [] := fun j h => absurd h (by simp)
theorem GoodTo.more {ll : List (List UInt8)} {vs : List Int} {v : Int} (h : GoodTo ll vs) (hv : Good (ll.getD vs.length []) v) : GoodTo ll (vs ++ [v]) := by
  intro j hj
  rw [List.length_append] at hj
  by_cases hlt : j < vs.length
  · rw [getD_snoc_lt hlt]; exact h j hlt
  · obtain rfl : j = vs.length := by simp only [List.length_cons, List.length_nil] at hj; omega
    rw [getD_snoc_eq]; exact hv
theorem OwT.grown {w w' : World} {B : Nat} {A : Option Addr} {c : Nat} {xs : List ByteArray} (h : OwT w B A c xs) {row : Option Nat} (hg : w.grownBy w' row) (hne : ∀ a, A = some a → row ≠ some a.block) : OwT w' B A c xs :=
  h.kept hg (by
    cases A with
    | none => exact Or.inl rfl
    | some a => exact Or.inr (fun e => hne a rfl e.symm))
/-- Strings and ints never lie in one block. -/
theorem OwT.ne_int {w : World} {B1 B2 : Nat} {A D : Option Addr} {c d : Nat} {ws : List ByteArray} {xs : List Int} (h : OwT w B1 A c ws) (k : OwI w B2 D d xs) : ∀ a, A = some a → D.map (·.block) ≠ some a.block := by
  rintro a rfl e
  obtain ⟨a2, rfl, e⟩ := Option.map_eq_some_iff.1 e
  rcases h.2 with ⟨h2, _⟩ | ⟨g, cap, cur, h2, _, h3, _⟩
  · exact absurd h2 (by simp)
  · rcases k.2 with ⟨k2, _⟩ | ⟨g', cap', cur', k2, _, k3, _⟩
    · exact absurd k2 (by simp)
    · injection h2 with h4
      injection k2 with k4
      injection h4 with h4
      injection k4 with k4
      subst h4 k4
      have e : g' = g := Option.some.inj e
      rw [e, h3] at k3
      injection k3 with k3
      injection k3 with _ k5
      exact absurd k5 (by decide)
set_option maxHeartbeats 2000000 in
theorem psSM_any (s : ByteArray) (w : World) (hs : s.size ≤ 1048576) :
    Calls Tryd.prog 17 #[.string s] w (RetIB w (psF metB 42 s.data.toList) (psB metB 42 s.data.toList)) := by
  have CS := Lib.hid (spS_any s 42)
  obtain ⟨ll, hll⟩ : ∃ ll, ll = splitL 42 s.data.toList := ⟨_, rfl⟩
  have HLE : Hid (∀ x ∈ ll, x.length ≤ 1048576) := by
    rw [hll]
    intro x hx
    have := splitL_le _ _ _ hx
    rw [← Lib.size_eq] at this
    exact Nat.le_trans this hs
  obtain ⟨R, hR⟩ : ∃ R, R = psF metB 42 s.data.toList := ⟨_, rfl⟩
  obtain ⟨rb, hrb⟩ : ∃ rb, rb = psB metB 42 s.data.toList := ⟨_, rfl⟩
  have HBAD : Hid (∀ x ∈ ll, Bad x → rb = false ∧ R = []) := by rw [hll, hR, hrb]; exact fun x hx hb => ps_bad metB_dgs (by decide) hx hb
  have HALL : Hid (∀ vs : List Int, vs.length = ll.length → GoodTo ll vs → rb = metB vs ∧ R = if metB vs = true then vs else []) := by rw [hll, hR, hrb]; exact fun vs h1 h2 => ps_all metB_dgs (by decide) h1 h2
  have CS2 : Hid (∀ W : World, Calls Tryd.prog 27 #[.string s, .string ⟨#[42]⟩] W (RetW W ll)) := by rw [hll]; exact fun W => CS.out W hs
  rw [← hR, ← hrb]
  clear hll hR hrb CS hs
  go_enter Tryd.func17, Tryd.ntmps17
  go_wp2_with fail
  refine (CS2.out _).mono ?_
  rintro e w1 ⟨A, d0, ws, rfl, hrd, hwl, hmap, he⟩
  obtain ⟨n, hn⟩ : ∃ n, n = ws.length := ⟨_, rfl⟩
  have HW0 := Lib.hid hrd
  have HM := Lib.hid hmap
  have HNN := Lib.hid hn
  have HE1 : Hid (Ext w w1) := ((Ext.refl w).alloc _).trans he
  have HO1 : Hid (OwI w1 w.heap.size (some ⟨w.heap.size, 0, none⟩) 0 []) := (OwI.empty w).ext he
  rw [← hn]
  rw [← hn] at hwl
  clear hrd hmap hn he CS2
  go_wp2_with fail
  go_loopw [4, 13] (fun o i wr => ∃ (vs : List Int) (B : Option Addr) (d : Nat), vs.length ≤ n ∧ i = .int .i64 (vs.length : Nat) ∧ o = .slice B vs.length d ∧ Hid (GoodTo ll vs) ∧ Hid (OwI wr w.heap.size B d vs) ∧ Hid (Ext w wr) ∧ ∃ b1, Hid (OwT wr b1 A d0 ws)) (fun _ i _ => n - (intOf i).toNat)
  case atStart => exact ⟨[], _, _, Nat.zero_le _, rfl, rfl, GoodTo.nil ll, HO1.out, HE1.out, _, HW0.out⟩
  case round =>
    obtain ⟨vs, B, d, hj, rfl, rfl, HG, HO, HE, b1, HW⟩ := hrel
    obtain ⟨j, hjv⟩ : ∃ j, j = vs.length := ⟨_, rfl⟩
    have HJ := Lib.hid hjv
    rw [← hjv] at hj
    rw [← hjv]
    clear hjv
    by_cases hlt : j < n
    · have hjx : j < ws.length := by rw [← HNN.out]; exact hlt
      obtain ⟨x, hx⟩ : ∃ x, x = ws[j] := ⟨_, rfl⟩
      obtain ⟨b0, o, hA, hc⟩ := HW.out.rd.at_ j x (by rw [hx]; simp [hjx])
      subst hA
      have hmem : x.data.toList ∈ ll := by rw [← HM.out, hx]; exact List.mem_map_of_mem (List.getElem_mem hjx)
      have hgd : ll.getD j [] = x.data.toList := by rw [← HM.out, hx]; simp [List.getD, hjx]
      have CP := Lib.hid (piS_any x wr (by have := HLE.out _ hmem; rwa [← Lib.size_eq] at this))
      have HBX : Hid (Bad x.data.toList → rb = false ∧ R = []) := fun h => HBAD.out _ hmem h
      have HGX : Hid (∀ v, Good x.data.toList v → GoodTo ll (vs ++ [v])) := fun v h => HG.out.more (by rw [← HJ.out, hgd]; exact h)
      clear hx hjx hmem hgd
      go_wp2_with fail
      refine CP.out.mono ?_
      rintro e w2 ⟨v, bv, rfl, hy, hn, h2⟩
      have HE2 := Lib.hid (HE.out.trans h2)
      have HO2 := Lib.hid (HO.out.ext h2)
      have HW2 := Lib.hid (HW.out.ext h2)
      have HNE := Lib.hid (HW2.out.ne_int HO2.out)
      cases bv with
      | false =>
        obtain ⟨rfl, rfl⟩ := HBX.out (hn rfl)
        clear h2 hc hy hn
        go_wp2_with fail
        go_ret2
        exact ⟨none, 0, rfl, World.ownsRow_nil _ _ _ _, HE2.out⟩
      | true =>
        have HG2 := Lib.hid (HGX.out v (hy rfl))
        clear h2 hc hy hn
        go_wp2_with (at_builtin; refine app_ints w rfl _ _ rfl B d j vs _ 1 1 [v] rfl rfl HJ.out.symm rfl (HO2.out.ext ((Ext.refl _).alloc _)) (RdI.built w2 [v]) (HE2.out.alloc _) (by omega) ?_; intro A' c' w3 h1 h2 h3; have HO3 := Lib.hid h1; have HE3 := Lib.hid h2; have HW3 := Lib.hid ((HW2.out.ext ((Ext.refl w2).alloc _)).grown h3 HNE.out); clear h1 h2 h3)
        have HLN : Hid ((vs ++ [v]).length = j + 1) := by rw [List.length_append, ← HJ.out]; exact rfl
        go_roundw
        case rel => exact ⟨vs ++ [v], A', c', by rw [HLN.out]; exact hlt, by rw [HLN.out]; go_num, by rw [HLN.out], HG2.out, HO3.out, HE3.out, _, HW3.out⟩
        case measure => simp [intOf]; omega
    · obtain rfl : j = n := by omega
      have hlw : vs.length ≤ 4194304 := by rw [← HJ.out]; omega
      have CM := Lib.hid (metS_any B d vs wr HO.out.rd hlw)
      rw [← HJ.out] at CM
      obtain ⟨h1, h2⟩ := HALL.out vs (by rw [← HJ.out, HNN.out, ← HM.out, List.length_map]) HG.out
      cases hb : metB vs with
      | true =>
        rw [hb] at CM h1 h2
        obtain rfl : R = vs := by rw [h2]; exact rfl
        clear h2 hb hlw
        subst h1
        go_wp2_with fail
        refine CM.out.mono ?_
        rintro e w2 ⟨rfl, rfl⟩
        go_wp2_with fail
        go_ret2
        exact ⟨B, d, by rw [← HJ.out]; exact rfl, HO.out, HE.out⟩
      | false =>
        rw [hb] at CM h1 h2
        obtain rfl : R = [] := by rw [h2]; exact rfl
        clear h2 hb hlw
        subst h1
        go_wp2_with fail
        refine CM.out.mono ?_
        rintro e w2 ⟨rfl, rfl⟩
        go_wp2_with fail
        go_ret2
        exact ⟨none, 0, rfl, World.ownsRow_nil _ _ _ _, HE.out⟩
set_option maxHeartbeats 2000000 in
theorem psSB_any (s : ByteArray) (w : World) (hs : s.size ≤ 1048576) :
    Calls Tryd.prog 13 #[.string s] w (RetIB w (psF barB 43 s.data.toList) (psB barB 43 s.data.toList)) := by
  have CS := Lib.hid (spS_any s 43)
  obtain ⟨ll, hll⟩ : ∃ ll, ll = splitL 43 s.data.toList := ⟨_, rfl⟩
  have HLE : Hid (∀ x ∈ ll, x.length ≤ 1048576) := by
    rw [hll]
    intro x hx
    have := splitL_le _ _ _ hx
    rw [← Lib.size_eq] at this
    exact Nat.le_trans this hs
  obtain ⟨R, hR⟩ : ∃ R, R = psF barB 43 s.data.toList := ⟨_, rfl⟩
  obtain ⟨rb, hrb⟩ : ∃ rb, rb = psB barB 43 s.data.toList := ⟨_, rfl⟩
  have HBAD : Hid (∀ x ∈ ll, Bad x → rb = false ∧ R = []) := by rw [hll, hR, hrb]; exact fun x hx hb => ps_bad barB_dgs (by decide) hx hb
  have HALL : Hid (∀ vs : List Int, vs.length = ll.length → GoodTo ll vs → rb = barB vs ∧ R = if barB vs = true then vs else []) := by rw [hll, hR, hrb]; exact fun vs h1 h2 => ps_all barB_dgs (by decide) h1 h2
  have CS2 : Hid (∀ W : World, Calls Tryd.prog 27 #[.string s, .string ⟨#[43]⟩] W (RetW W ll)) := by rw [hll]; exact fun W => CS.out W hs
  rw [← hR, ← hrb]
  clear hll hR hrb CS hs
  go_enter Tryd.func13, Tryd.ntmps13
  go_wp2_with fail
  refine (CS2.out _).mono ?_
  rintro e w1 ⟨A, d0, ws, rfl, hrd, hwl, hmap, he⟩
  obtain ⟨n, hn⟩ : ∃ n, n = ws.length := ⟨_, rfl⟩
  have HW0 := Lib.hid hrd
  have HM := Lib.hid hmap
  have HNN := Lib.hid hn
  have HE1 : Hid (Ext w w1) := ((Ext.refl w).alloc _).trans he
  have HO1 : Hid (OwI w1 w.heap.size (some ⟨w.heap.size, 0, none⟩) 0 []) := (OwI.empty w).ext he
  rw [← hn]
  rw [← hn] at hwl
  clear hrd hmap hn he CS2
  go_wp2_with fail
  go_loopw [4, 13] (fun o i wr => ∃ (vs : List Int) (B : Option Addr) (d : Nat), vs.length ≤ n ∧ i = .int .i64 (vs.length : Nat) ∧ o = .slice B vs.length d ∧ Hid (GoodTo ll vs) ∧ Hid (OwI wr w.heap.size B d vs) ∧ Hid (Ext w wr) ∧ ∃ b1, Hid (OwT wr b1 A d0 ws)) (fun _ i _ => n - (intOf i).toNat)
  case atStart => exact ⟨[], _, _, Nat.zero_le _, rfl, rfl, GoodTo.nil ll, HO1.out, HE1.out, _, HW0.out⟩
  case round =>
    obtain ⟨vs, B, d, hj, rfl, rfl, HG, HO, HE, b1, HW⟩ := hrel
    obtain ⟨j, hjv⟩ : ∃ j, j = vs.length := ⟨_, rfl⟩
    have HJ := Lib.hid hjv
    rw [← hjv] at hj
    rw [← hjv]
    clear hjv
    by_cases hlt : j < n
    · have hjx : j < ws.length := by rw [← HNN.out]; exact hlt
      obtain ⟨x, hx⟩ : ∃ x, x = ws[j] := ⟨_, rfl⟩
      obtain ⟨b0, o, hA, hc⟩ := HW.out.rd.at_ j x (by rw [hx]; simp [hjx])
      subst hA
      have hmem : x.data.toList ∈ ll := by rw [← HM.out, hx]; exact List.mem_map_of_mem (List.getElem_mem hjx)
      have hgd : ll.getD j [] = x.data.toList := by rw [← HM.out, hx]; simp [List.getD, hjx]
      have CP := Lib.hid (piS_any x wr (by have := HLE.out _ hmem; rwa [← Lib.size_eq] at this))
      have HBX : Hid (Bad x.data.toList → rb = false ∧ R = []) := fun h => HBAD.out _ hmem h
      have HGX : Hid (∀ v, Good x.data.toList v → GoodTo ll (vs ++ [v])) := fun v h => HG.out.more (by rw [← HJ.out, hgd]; exact h)
      clear hx hjx hmem hgd
      go_wp2_with fail
      refine CP.out.mono ?_
      rintro e w2 ⟨v, bv, rfl, hy, hn, h2⟩
      have HE2 := Lib.hid (HE.out.trans h2)
      have HO2 := Lib.hid (HO.out.ext h2)
      have HW2 := Lib.hid (HW.out.ext h2)
      have HNE := Lib.hid (HW2.out.ne_int HO2.out)
      cases bv with
      | false =>
        obtain ⟨rfl, rfl⟩ := HBX.out (hn rfl)
        clear h2 hc hy hn
        go_wp2_with fail
        go_ret2
        exact ⟨none, 0, rfl, World.ownsRow_nil _ _ _ _, HE2.out⟩
      | true =>
        have HG2 := Lib.hid (HGX.out v (hy rfl))
        clear h2 hc hy hn
        go_wp2_with (at_builtin; refine app_ints w rfl _ _ rfl B d j vs _ 1 1 [v] rfl rfl HJ.out.symm rfl (HO2.out.ext ((Ext.refl _).alloc _)) (RdI.built w2 [v]) (HE2.out.alloc _) (by omega) ?_; intro A' c' w3 h1 h2 h3; have HO3 := Lib.hid h1; have HE3 := Lib.hid h2; have HW3 := Lib.hid ((HW2.out.ext ((Ext.refl w2).alloc _)).grown h3 HNE.out); clear h1 h2 h3)
        have HLN : Hid ((vs ++ [v]).length = j + 1) := by rw [List.length_append, ← HJ.out]; exact rfl
        go_roundw
        case rel => exact ⟨vs ++ [v], A', c', by rw [HLN.out]; exact hlt, by rw [HLN.out]; go_num, by rw [HLN.out], HG2.out, HO3.out, HE3.out, _, HW3.out⟩
        case measure => simp [intOf]; omega
    · obtain rfl : j = n := by omega
      have hlw : vs.length ≤ 4194304 := by rw [← HJ.out]; omega
      have CM := Lib.hid (barS_any B d vs wr HO.out.rd hlw)
      rw [← HJ.out] at CM
      obtain ⟨h1, h2⟩ := HALL.out vs (by rw [← HJ.out, HNN.out, ← HM.out, List.length_map]) HG.out
      cases hb : barB vs with
      | true =>
        rw [hb] at CM h1 h2
        obtain rfl : R = vs := by rw [h2]; exact rfl
        clear h2 hb hlw
        subst h1
        go_wp2_with fail
        refine CM.out.mono ?_
        rintro e w2 ⟨rfl, rfl⟩
        go_wp2_with fail
        go_ret2
        exact ⟨B, d, by rw [← HJ.out]; exact rfl, HO.out, HE.out⟩
      | false =>
        rw [hb] at CM h1 h2
        obtain rfl : R = [] := by rw [h2]; exact rfl
        clear h2 hb hlw
        subst h1
        go_wp2_with fail
        refine CM.out.mono ?_
        rintro e w2 ⟨rfl, rfl⟩
        go_wp2_with fail
        go_ret2
        exact ⟨none, 0, rfl, World.ownsRow_nil _ _ _ _, HE.out⟩
end Go.Proofs.YtedfmjijemcpaaaDoor
