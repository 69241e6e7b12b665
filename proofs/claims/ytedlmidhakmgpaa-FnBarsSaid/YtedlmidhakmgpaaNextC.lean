/- Contracts of NextBar. -/
import Derived.Test.YtedlmidhakmgpaaNextB
import Derived.Test.YtedlmidhakmgpaaRoundC
namespace Go.Proofs.Ytedlmidhakmgpaa
open Go.RowKit

/-- The answers of NextBar. -/
def nbF (xs : List Int) : List Int := if barB xs = true then (nextS xs xs.length).1 else []
def nbB (xs : List Int) : Bool := if barB xs = true then (nextS xs xs.length).2 else false

set_option maxHeartbeats 1000000 in
theorem nbI_any (A : Option Addr) (c : Nat) (xs : List Int) (w : World) (hr : RdI w A xs) (hn : xs.length ≤ 1048576) :
    Calls Try.prog 38 #[.slice A xs.length c] w (RetIB w (nbF xs) (nbB xs)) := by
  obtain ⟨V, hV⟩ : ∃ V, V = w.alloc (.cells #[.slice A xs.length c] 24) := ⟨_, rfl⟩
  have hXV : Ext w V := by rw [hV]; exact (Ext.refl w).alloc _
  have CT := Lib.hid (barI_any A c xs V (hr.ext hXV) (by omega))
  rw [hV] at CT
  have HG : Hid ((w.alloc (.cells #[.slice A xs.length c] 24)).cell? ⟨w.heap.size, 0, none⟩ = some (.slice A xs.length c)) := cell_of_row _ _ 0 #[_] _ (0, 0) (heap_alloc_new w _)
  have HXV : Hid (Ext w (w.alloc (.cells #[.slice A xs.length c] 24))) := (Ext.refl w).alloc _
  have HR := Lib.hid hr
  by_cases hok : barB xs = true
  · have hb := barB_iff hok
    have e1 : nbF xs = (nextS xs xs.length).1 := by unfold nbF; rw [if_pos hok]
    have e2 : nbB xs = (nextS xs xs.length).2 := by unfold nbB; rw [if_pos hok]
    rw [e1, e2]
    obtain ⟨hmem, hs0⟩ := bars_mem xs hb.2.1
    obtain ⟨s, hs⟩ := Int.eq_ofNat_of_zero_le hs0
    have hs24 : s ≤ 24 := by have := hb.2.2; omega
    have CS : Hid (∀ w, RdI w A xs → Calls Try.prog _ #[.slice A xs.length c] w fun e w' => e = .returned (.int .i64 xs.sum) ∧ w = w') := fun w h => sumOf_any A c xs w h (by omega) (fun x hx => by have := hb.2.1 x hx; omega)
    rw [hs] at CS
    rw [hs, Int.toNat_natCast] at hmem
    have CB : Hid (∀ w, Calls Try.prog 49 #[.int .i64 s, .slice none 0 0] w (RetSS w (barsL s))) := fun w => by
      have := barsFrom_any s hs24 none 0 [] w (Rd.nil _ _ _) (by simp; omega)
      simpa using this
    have hLb := barsL_len s hs24
    have hLi := barsL_in s hs24
    have hchk := chk_at (barsL s)
    have hcb := chk_bars s hs24
    obtain ⟨L, hL⟩ : ∃ L, L = barsL s := ⟨_, rfl⟩
    rw [← hL] at CB hLb hLi hchk hcb hmem
    have HMEM := Lib.hid hmem
    have HLI : Hid (∀ b ∈ L, b.length ≤ 1000) := fun b h => Nat.le_trans (hLi b h) (by omega)
    have HCHK : Hid (∀ k, k < L.length → nextS (L.getD k []) (L.getD k []).length = if k + 1 = L.length then ([], false) else (L.getD (k + 1) [], true)) := fun k hk => hchk k hcb hk
    have hx12 := hb.1.2
    obtain ⟨n, hnn⟩ : ∃ n, n = xs.length := ⟨_, rfl⟩
    have HN := Lib.hid hnn
    rw [hok] at CT
    rw [← hnn] at CT CS HG HXV hn hx12 ⊢
    clear e1 e2 hr hok hb hmem hs0 hs hs24 hLi hchk hcb hL hV hXV hnn V
    go_enter Try.func38, Try.ntmps38
    have hmf : ∀ (fn : Fn) (first cap : Array Value) (w : World), (Instr.makeFunc fn first cap).run Try.prog w = .ok (.func fn first cap) w := fun _ _ _ _ => rfl
    go_wp2_with fail
    refine CT.out.mono ?_
    rintro e w1 ⟨rfl, he⟩
    have HX1 := Lib.hid (HXV.out.trans he)
    have HG1 := Lib.hid (he.cell HG.out)
    have g1 := HG1.out
    clear he
    go_wp2_with fail
    refine (CS.out _ (HR.out.ext HX1.out)).mono ?_
    rintro e w2 ⟨rfl, rfl⟩
    go_wp2_with fail
    refine (CB.out _).mono ?_
    rintro e w3 ⟨v, rfl, ho, he⟩
    obtain ⟨A3, c3, l, vs, rfl, hl, _, _⟩ := ho.parts
    have HX3 := Lib.hid (HX1.out.trans he)
    have HG3 := Lib.hid (he.cell HG1.out)
    have HO3 := Lib.hid (ho.lower HX1.out.size)
    have HL := Lib.hid hl
    have hl1000 : l ≤ 1000 := by omega
    clear ho he hl g1
    have CI := Lib.hid (nextIdx_any A3 A l c3 c w.heap.size w.heap.size w3.heap.size L xs w3 HO3.out (by rw [← HN.out]; exact HG3.out) (HR.out.ext HX3.out) (by rw [← HN.out]; omega) HMEM.out HLI.out)
    go_wp2_with fail
    refine CI.out.mono ?_
    rintro e w4 ⟨k, rfl, hk, HK, he⟩
    have HX4 := Lib.hid (HX3.out.trans he)
    have HO4 := Lib.hid (HO3.out.ext he)
    clear he
    have hnext := HCHK.out k (by rw [← HL.out]; exact hk)
    rw [HK.out, ← HL.out, ← HN.out] at hnext
    by_cases hlast : k + 1 = l
    · rw [if_pos hlast] at hnext
      have HNX := Lib.hid hnext
      have hl1 : (k : Int) + 1 = l := by omega
      clear hnext
      go_wp2_with fail
      go_ret2
      rw [HNX.out]
      exact ⟨none, 0, rfl, OwI.nil _ _, HX4.out⟩
    · rw [if_neg hlast] at hnext
      have HNX := Lib.hid hnext
      have hl1 : ¬ (k : Int) + 1 = l := by omega
      have hl2 : (k : Int) + 1 < l := by omega
      obtain ⟨b1, o1, A5, c5, hA5, hc5, ho5⟩ := HO4.out.own_at (k + 1) (by rw [← HL.out]; omega)
      subst hA5
      obtain ⟨ys, hys⟩ : ∃ ys, ys = L.getD (k + 1) [] := ⟨_, rfl⟩
      rw [← hys] at hc5 ho5 HNX
      have HO5 := Lib.hid ho5
      clear hnext ho5 hys
      have hk1 : ((k : Int) + 1).toNat = k + 1 := by omega
      go_wp2_with fail
      go_ret2
      rw [HNX.out]
      exact ⟨A5, c5, rfl, HO5.out, HX4.out⟩
  · have hok : barB xs = false := by simpa using hok
    have e1 : nbF xs = [] := by unfold nbF; rw [hok]; rfl
    have e2 : nbB xs = false := by unfold nbB; rw [hok]; rfl
    rw [e1, e2]
    rw [hok] at CT
    obtain ⟨n, hnn⟩ : ∃ n, n = xs.length := ⟨_, rfl⟩
    rw [← hnn] at CT HG HXV ⊢
    clear e1 e2 hr hn hok hV hXV hnn V
    have g1 := HG.out
    go_enter Try.func38, Try.ntmps38
    go_wp2_with fail
    refine CT.out.mono ?_
    rintro e w1 ⟨rfl, he⟩
    have HX1 := Lib.hid (HXV.out.trans he)
    clear he
    go_wp2_with fail
    go_ret2
    exact ⟨none, 0, rfl, OwI.nil _ _, HX1.out⟩
end Go.Proofs.Ytedlmidhakmgpaa
