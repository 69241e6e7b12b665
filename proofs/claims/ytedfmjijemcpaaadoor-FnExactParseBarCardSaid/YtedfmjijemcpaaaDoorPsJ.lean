/- The program's ParseMeter, ParseBar. -/
import Derived.Test.YtedfmjijemcpaaaDoorPsI
import Derived.Test.YtedfmjijemcpaaaDoorPsR
namespace Go.Proofs.YtedfmjijemcpaaaDoor
open Go.RowKit

def piL (l : List UInt8) : Int := piF ⟨l.toArray⟩
theorem piL_data (x : ByteArray) : piL x.data.toList = piF x := rfl
theorem piL_dig (x : Int) (hx : 2 ≤ x ∧ x ≤ 7) : piL [dgb x] = x := by
  have : x = 2 ∨ x = 3 ∨ x = 4 ∨ x = 5 ∨ x = 6 ∨ x = 7 := by omega
  rcases this with rfl | rfl | rfl | rfl | rfl | rfl <;> decide +kernel
theorem splitL_len (c : UInt8) : ∀ (l : List UInt8), (splitL c l).length ≤ l.length + 1
  | [] => Nat.le_refl _
  | x :: r => by
    have ih := splitL_len c r
    by_cases hx : x = c
    · subst hx
      rw [splitL_eq]
      simp only [List.length_cons]
      omega
    · rw [splitL_cons hx]
      obtain ⟨h, t, e⟩ := splitL_ne c r
      rw [e] at ih ⊢
      simp only [onto, List.length_cons] at ih ⊢
      omega
theorem metB_five' : ∀ xs, metB xs = true → xs.length ≤ 5 := fun _ h => metB_five h
theorem barB_twelve : ∀ xs, barB xs = true → xs.length ≤ 12 := fun _ h => (barB_dgs _ h).2.2
set_option maxHeartbeats 2000000 in
theorem psIM_any (s : ByteArray) (m : Int) (w : World) (hm : w.cell? ⟨0, 0, none⟩ = some (.int .i64 m)) (hs : s.size ≤ 1048576) (hp : PW w) :
    Calls Tryd.prog 18 #[.string s] w (RetIB w (psF metB 42 s.data.toList) (psB metB 42 s.data.toList)) := by
  obtain ⟨ps, hps⟩ : ∃ ps, ps = if (wordsB s ⟨#[42]⟩).length ≤ 5 then (wordsB s ⟨#[42]⟩).map piF else [] := ⟨_, rfl⟩
  have hwd : (wordsB s ⟨#[42]⟩).map (·.data.toList) = splitL 42 s.data.toList := words_data s 42
  have hwl : (wordsB s ⟨#[42]⟩).length = Lib.countB s ⟨#[42]⟩ + 1 := Lib.splitB_all ⟨#[42]⟩ (Nat.le_refl 1) 0 _ s rfl
  have hsl := splitL_len 42 s.data.toList
  rw [← hwd, List.length_map, ← Lib.size_eq, hwl] at hsl
  have CP : Hid (Calls Tryd.prog 29 #[.string s, .string ⟨#[42]⟩, .int .i64 5] w (RetI w ps)) := by
    rw [hps]
    refine parsedBy_any s 42 5 m piF piB w hm hs (by omega) hwl (by omega) ?_
    intro x W he hx
    refine piI_any x W ?_ (hp.ext he)
    have h1 := splitL_le 42 s.data.toList x.data.toList (by rw [← hwd]; exact List.mem_map_of_mem hx)
    rw [← Lib.size_eq, ← Lib.size_eq] at h1
    omega
  have hps2 : ps = if (splitL 42 s.data.toList).length ≤ 5 then (splitL 42 s.data.toList).map piL else [] := by
    rw [hps, ← hwd, List.length_map, List.map_map]
    rfl
  have hpl : ps.length ≤ 12 := by
    rw [hps]
    split
    · next h => rw [List.length_map]; omega
    · simp
  have hsame := ps_same metB_dgs (by decide) (l := s.data.toList) metB_five' piL piL_dig hps2
  obtain ⟨F, hF⟩ : ∃ F, F = fmtF metB 42 ps := ⟨_, rfl⟩
  have CF : Hid (∀ (A : Option Addr) (c : Nat) (W : World), Ext w W → RdI W A ps → Calls Tryd.prog 12 #[.slice A ps.length c] W fun e w' => e = .returned (.string F) ∧ Ext W w') := fun A c W he hr => by
    rw [hF]
    exact fIM_any A c ps m W (he.cell hm) hr (by omega)
  obtain ⟨R, hR⟩ : ∃ R, R = psF metB 42 s.data.toList := ⟨_, rfl⟩
  obtain ⟨rb, hrb⟩ : ∃ rb, rb = psB metB 42 s.data.toList := ⟨_, rfl⟩
  rw [← hR, ← hrb] at hsame ⊢
  rw [← hF] at hsame
  have hsa : (⟨s.data.toList.toArray⟩ : ByteArray) = s := rfl
  rw [hsa] at hsame
  have hse : s.toList.isEmpty = s.data.toList.isEmpty := by rw [ByteArray.toList_eq]
  by_cases h0 : s.data.toList = []
  · have he : s.toList.isEmpty = true := by rw [hse, h0]; exact rfl
    obtain ⟨rfl, rfl⟩ := hsame.2 (fun h => h.1 h0)
    clear hsame hR hrb hF hps hps2 hwd hwl hsl hse h0 hpl hp hm hs hsa CF
    go_enter Tryd.func18, Tryd.ntmps18
    go_wp2_with fail
    refine CP.out.mono ?_
    intro e w1 hret
    obtain ⟨A, c, rfl, ho, hx⟩ := hret
    have HX := Lib.hid hx
    clear hx ho
    go_wp2_with fail
    go_ret2
    exact ⟨none, 0, rfl, World.ownsRow_nil _ _ _ _, HX.out⟩
  · have he : s.toList.isEmpty = false := by rw [hse]; cases h : s.data.toList with
      | nil => exact absurd h h0
      | cons _ _ => rfl
    by_cases h1 : F = s
    · obtain ⟨hb, hr⟩ := hsame.1 ⟨h0, h1⟩
      have hne : (F.toList == s.toList) = true := by rw [h1]; exact beq_self_eq_true _
      subst hb
      rw [hr]
      obtain ⟨n, hn⟩ : ∃ n, n = ps.length := ⟨_, rfl⟩
      have HN := Lib.hid hn
      clear hsame hR hrb hF hps hps2 hwd hwl hsl hse h0 h1 hpl hp hm hs hsa hr hn
      go_enter Tryd.func18, Tryd.ntmps18
      go_wp2_with fail
      refine CP.out.mono ?_
      intro e w1 hret
      obtain ⟨A, c, rfl, ho, hx⟩ := hret
      have CF1 := Lib.hid (CF.out A c w1 hx ho.rd)
      rw [← HN.out] at CF1
      rw [← HN.out]
      have HX := Lib.hid hx
      have HO := Lib.hid ho
      clear hx ho
      go_wp2_with fail
      refine CF1.out.mono ?_
      rintro e w2 ⟨rfl, h2⟩
      have HO2 := Lib.hid (HO.out.ext h2)
      have HX2 := Lib.hid (HX.out.trans h2)
      clear h2
      go_wp2_with fail
      go_ret2
      exact ⟨A, c, by rw [← HN.out]; exact rfl, HO2.out, HX2.out⟩
    · obtain ⟨rfl, rfl⟩ := hsame.2 (fun h => h1 h.2)
      have hne : (F.toList == s.toList) = false := toL_ne h1
      obtain ⟨n, hn⟩ : ∃ n, n = ps.length := ⟨_, rfl⟩
      have HN := Lib.hid hn
      clear hsame hR hrb hF hps hps2 hwd hwl hsl hse h0 h1 hpl hp hm hs hsa hn
      go_enter Tryd.func18, Tryd.ntmps18
      go_wp2_with fail
      refine CP.out.mono ?_
      intro e w1 hret
      obtain ⟨A, c, rfl, ho, hx⟩ := hret
      have CF1 := Lib.hid (CF.out A c w1 hx ho.rd)
      rw [← HN.out] at CF1
      rw [← HN.out]
      have HX := Lib.hid hx
      clear hx ho
      go_wp2_with fail
      refine CF1.out.mono ?_
      rintro e w2 ⟨rfl, h2⟩
      have HX2 := Lib.hid (HX.out.trans h2)
      clear h2
      go_wp2_with fail
      go_ret2
      exact ⟨none, 0, rfl, World.ownsRow_nil _ _ _ _, HX2.out⟩
set_option maxHeartbeats 2000000 in
theorem psIB_any (s : ByteArray) (m : Int) (w : World) (hm : w.cell? ⟨0, 0, none⟩ = some (.int .i64 m)) (hs : s.size ≤ 1048576) (hp : PW w) :
    Calls Tryd.prog 14 #[.string s] w (RetIB w (psF barB 43 s.data.toList) (psB barB 43 s.data.toList)) := by
  obtain ⟨ps, hps⟩ : ∃ ps, ps = if (wordsB s ⟨#[43]⟩).length ≤ 12 then (wordsB s ⟨#[43]⟩).map piF else [] := ⟨_, rfl⟩
  have hwd : (wordsB s ⟨#[43]⟩).map (·.data.toList) = splitL 43 s.data.toList := words_data s 43
  have hwl : (wordsB s ⟨#[43]⟩).length = Lib.countB s ⟨#[43]⟩ + 1 := Lib.splitB_all ⟨#[43]⟩ (Nat.le_refl 1) 0 _ s rfl
  have hsl := splitL_len 43 s.data.toList
  rw [← hwd, List.length_map, ← Lib.size_eq, hwl] at hsl
  have CP : Hid (Calls Tryd.prog 29 #[.string s, .string ⟨#[43]⟩, .int .i64 12] w (RetI w ps)) := by
    rw [hps]
    refine parsedBy_any s 43 12 m piF piB w hm hs (by omega) hwl (by omega) ?_
    intro x W he hx
    refine piI_any x W ?_ (hp.ext he)
    have h1 := splitL_le 43 s.data.toList x.data.toList (by rw [← hwd]; exact List.mem_map_of_mem hx)
    rw [← Lib.size_eq, ← Lib.size_eq] at h1
    omega
  have hps2 : ps = if (splitL 43 s.data.toList).length ≤ 12 then (splitL 43 s.data.toList).map piL else [] := by
    rw [hps, ← hwd, List.length_map, List.map_map]
    rfl
  have hpl : ps.length ≤ 12 := by
    rw [hps]
    split
    · next h => rw [List.length_map]; omega
    · simp
  have hsame := ps_same barB_dgs (by decide) (l := s.data.toList) barB_twelve piL piL_dig hps2
  obtain ⟨F, hF⟩ : ∃ F, F = fmtF barB 43 ps := ⟨_, rfl⟩
  have CF : Hid (∀ (A : Option Addr) (c : Nat) (W : World), Ext w W → RdI W A ps → Calls Tryd.prog 9 #[.slice A ps.length c] W fun e w' => e = .returned (.string F) ∧ Ext W w') := fun A c W he hr => by
    rw [hF]
    exact fIB_any A c ps m W (he.cell hm) hr (by omega)
  obtain ⟨R, hR⟩ : ∃ R, R = psF barB 43 s.data.toList := ⟨_, rfl⟩
  obtain ⟨rb, hrb⟩ : ∃ rb, rb = psB barB 43 s.data.toList := ⟨_, rfl⟩
  rw [← hR, ← hrb] at hsame ⊢
  rw [← hF] at hsame
  have hsa : (⟨s.data.toList.toArray⟩ : ByteArray) = s := rfl
  rw [hsa] at hsame
  have hse : s.toList.isEmpty = s.data.toList.isEmpty := by rw [ByteArray.toList_eq]
  by_cases h0 : s.data.toList = []
  · have he : s.toList.isEmpty = true := by rw [hse, h0]; exact rfl
    obtain ⟨rfl, rfl⟩ := hsame.2 (fun h => h.1 h0)
    clear hsame hR hrb hF hps hps2 hwd hwl hsl hse h0 hpl hp hm hs hsa CF
    go_enter Tryd.func14, Tryd.ntmps14
    go_wp2_with fail
    refine CP.out.mono ?_
    intro e w1 hret
    obtain ⟨A, c, rfl, ho, hx⟩ := hret
    have HX := Lib.hid hx
    clear hx ho
    go_wp2_with fail
    go_ret2
    exact ⟨none, 0, rfl, World.ownsRow_nil _ _ _ _, HX.out⟩
  · have he : s.toList.isEmpty = false := by rw [hse]; cases h : s.data.toList with
      | nil => exact absurd h h0
      | cons _ _ => rfl
    by_cases h1 : F = s
    · obtain ⟨hb, hr⟩ := hsame.1 ⟨h0, h1⟩
      have hne : (F.toList == s.toList) = true := by rw [h1]; exact beq_self_eq_true _
      subst hb
      rw [hr]
      obtain ⟨n, hn⟩ : ∃ n, n = ps.length := ⟨_, rfl⟩
      have HN := Lib.hid hn
      clear hsame hR hrb hF hps hps2 hwd hwl hsl hse h0 h1 hpl hp hm hs hsa hr hn
      go_enter Tryd.func14, Tryd.ntmps14
      go_wp2_with fail
      refine CP.out.mono ?_
      intro e w1 hret
      obtain ⟨A, c, rfl, ho, hx⟩ := hret
      have CF1 := Lib.hid (CF.out A c w1 hx ho.rd)
      rw [← HN.out] at CF1
      rw [← HN.out]
      have HX := Lib.hid hx
      have HO := Lib.hid ho
      clear hx ho
      go_wp2_with fail
      refine CF1.out.mono ?_
      rintro e w2 ⟨rfl, h2⟩
      have HO2 := Lib.hid (HO.out.ext h2)
      have HX2 := Lib.hid (HX.out.trans h2)
      clear h2
      go_wp2_with fail
      go_ret2
      exact ⟨A, c, by rw [← HN.out]; exact rfl, HO2.out, HX2.out⟩
    · obtain ⟨rfl, rfl⟩ := hsame.2 (fun h => h1 h.2)
      have hne : (F.toList == s.toList) = false := toL_ne h1
      obtain ⟨n, hn⟩ : ∃ n, n = ps.length := ⟨_, rfl⟩
      have HN := Lib.hid hn
      clear hsame hR hrb hF hps hps2 hwd hwl hsl hse h0 h1 hpl hp hm hs hsa hn
      go_enter Tryd.func14, Tryd.ntmps14
      go_wp2_with fail
      refine CP.out.mono ?_
      intro e w1 hret
      obtain ⟨A, c, rfl, ho, hx⟩ := hret
      have CF1 := Lib.hid (CF.out A c w1 hx ho.rd)
      rw [← HN.out] at CF1
      rw [← HN.out]
      have HX := Lib.hid hx
      clear hx ho
      go_wp2_with fail
      refine CF1.out.mono ?_
      rintro e w2 ⟨rfl, h2⟩
      have HX2 := Lib.hid (HX.out.trans h2)
      clear h2
      go_wp2_with fail
      go_ret2
      exact ⟨none, 0, rfl, World.ownsRow_nil _ _ _ _, HX2.out⟩
end Go.Proofs.YtedfmjijemcpaaaDoor
