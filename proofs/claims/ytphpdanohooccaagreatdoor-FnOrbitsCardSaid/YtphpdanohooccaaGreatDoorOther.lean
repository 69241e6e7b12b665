/- Contracts of OtherRhythm (the reference's) and others (the program's). -/
import Derived.Test.YtphpdanohooccaaGreatDoorWd
import Derived.Test.YtphpdanohooccaaGreatDoorHas
import Derived.Test.YtphpdanohooccaaGreatDoorRot
namespace Go.Proofs.YtphpdanohooccaaGreatDoor
open Go.RowKit

set_option maxHeartbeats 4000000 in
theorem otI_any (n : Nat) (A : Option Addr) (c : Nat) (xs : List Int) (w : World) (hr : RdI w A xs) (hb : rhyB n xs = true) :
    Calls Tryz.prog 32 #[.agg #[.int .i64 n, .slice A xs.length c]] w (RetR w ((n : Int), otF n xs)) := by
  have hn := (rhyB_iff hb).1
  have hxl := rhyB_len hb
  obtain ⟨l, hll⟩ : ∃ l, l = xs.length := ⟨_, rfl⟩
  obtain ⟨P, hP⟩ : ∃ P : Nat → Bool, P = fun p : Nat => xs.contains (p : Int) := ⟨_, rfl⟩
  have hot : otF n xs = setL n (fun p => !(P p)) := by rw [hP]; rfl
  obtain ⟨Q, hQ⟩ : ∃ Q : Nat → Bool, Q = fun p => !(P p) := ⟨_, rfl⟩
  have CH : Hid (∀ (p : Nat) (W : World), p < n → Ext w W → Calls Tryz.prog 65 #[.agg #[.int .i64 n, .slice A l c], .int .i64 p] W fun e w' => e = .returned (.bool (!(Q p))) ∧ Ext W w') := fun p W hp he => by
    rw [hQ, hP, hll]
    simp only [Bool.not_not]
    have h := rhas_any n A c xs p W (hr.ext he) (by omega) (by omega) (by omega)
    rwa [show (p : Int) % (n : Int) = p from Int.emod_eq_of_lt (by omega) (by omega)] at h
  rw [hot, ← hQ, ← hll]
  obtain ⟨W, hW⟩ : ∃ W, W = (((w.alloc (.cells #[.int .i64 n, .slice A l c] 25)).alloc (.cells #[.int .i64 0, .slice none 0 0] 25))) := ⟨_, rfl⟩
  have HX0 : Hid (Ext w W) := by rw [hW]; exact ((Ext.refl w).alloc _).alloc _
  have HS0 : Hid (W.heap.size = w.heap.size + 1 + 1) := by rw [hW]; simp [Hid]
  have HG0 : Hid (Bx2 W w.heap.size 25 (.int .i64 n) (.slice A l c)) := by rw [hW]; exact (Bx2.new w _ _ _).ext ((Ext.refl _).alloc _)
  have HG1 : Hid (Bx2 W (w.heap.size + 1) 25 (.int .i64 0) (.slice none 0 0)) := by rw [hW]; exact Bx2.new1' _ _ _ _ _
  have HW := Lib.hid hW
  clear hW hot hQ hP hll hr hb hxl
  go_enter Tryz.func32, Tryz.ntmps32
  go_wp2_with fail
  rw [← HW.out]
  clear HW
  obtain ⟨q0, q1, p0, p1⟩ := HG0.out.cells
  have HBn : Hid (Bx2 (W.alloc (.cells #[.int .i64 n, .slice none 0 0] 25)) (w.heap.size + 1 + 1) 25 (.int .i64 n) (.slice none 0 0)) := by
    have h := Bx2.new W 25 (.int .i64 n) (.slice none 0 0)
    rwa [HS0.out] at h
  have HPn := Lib.hid (HG0.out.ext ((Ext.refl _).alloc (.cells #[.int .i64 n, .slice none 0 0] 25)))
  have HQn := Lib.hid (HG1.out.ext ((Ext.refl _).alloc (.cells #[.int .i64 n, .slice none 0 0] 25)))
  have HXn := Lib.hid ((Ext.refl W).alloc (.cells #[.int .i64 n, .slice none 0 0] 25))
  go_wp2_with fail
  go_loopw [10] (fun i wr => ∃ (p m : Nat) (B : Option Addr) (d : Nat), p ≤ n ∧ m ≤ p ∧ i = .int .i64 p ∧ Hid ((setL p Q).length = m) ∧ Hid (Bx2 wr (w.heap.size + 1 + 1) 25 (.int .i64 n) (.slice B m d)) ∧ Hid (Bx2 wr w.heap.size 25 (.int .i64 n) (.slice A l c)) ∧ Hid (Bx2 wr (w.heap.size + 1) 25 (.int .i64 0) (.slice none 0 0)) ∧ Hid (OwI wr W.heap.size B d (setL p Q)) ∧ Hid (Ext W wr)) (fun i _ => n - (intOf i).toNat)
  case atStart =>
    exact ⟨0, 0, none, 0, by omega, by omega, rfl, rfl, by first | exact HBn.out | (simpa using HBn.out), by first | exact HPn.out | (simpa using HPn.out), by first | exact HQn.out | (simpa using HQn.out), OwI.nil _ _, by first | exact HXn.out | (simpa using HXn.out)⟩
  case round =>
    obtain ⟨p, m, B, d, hp, hm, rfl, HM, HB, HP, HQ, HO, HE⟩ := hrel
    obtain ⟨q2, q3, p2, p3⟩ := HP.out.cells
    by_cases hlt : p < n
    · have HS := Lib.hid (setL_succ p Q)
      have CP := Lib.hid (CH.out p wr hlt (HX0.out.trans HE.out))
      obtain ⟨b, hb⟩ : ∃ b, b = Q p := ⟨_, rfl⟩
      rw [← hb] at HS CP
      clear hb
      go_wp2_with fail
      refine CP.out.mono ?_
      rintro e w1 ⟨rfl, e1⟩
      have HB1 := Lib.hid (HB.out.ext e1)
      have HP1 := Lib.hid (HP.out.ext e1)
      have HQ1 := Lib.hid (HQ.out.ext e1)
      have HO1 := Lib.hid (HO.out.ext e1)
      have HE1 := Lib.hid (HE.out.trans e1)
      clear e1 q2 q3 p2 p3 HB HP HQ HO HE
      cases b
      · have HS2 : Hid (setL (p + 1) Q = setL p Q) := HS.out
        go_wp2_with fail
        go_roundw
        case rel => exact ⟨p + 1, m, B, d, by omega, by omega, by go_num, by rw [HS2.out]; exact HM.out, HB1.out, HP1.out, HQ1.out, by rw [HS2.out]; exact HO1.out, HE1.out⟩
        case measure => simp [intOf]; omega
      · have HS2 : Hid (setL (p + 1) Q = setL p Q ++ [(p : Int)]) := HS.out
        obtain ⟨q4, q5, p4, p5⟩ := HB1.out.cells
        go_wp2_with (at_builtin; refine app_ints W rfl _ _ rfl B d m (setL p Q) _ 1 1 [(p : Int)] rfl rfl HM.out rfl (HO1.out.ext ((Ext.refl _).alloc _)) (RdI.built w1 [(p : Int)]) (HE1.out.alloc _) (by omega) ?_; intro A' c' w2 h1 h2 h3; have HO2 := Lib.hid h1; have HE3 := Lib.hid h2; have HB2 := Lib.hid ((HB1.out.ext ((Ext.refl _).alloc _)).grown (by decide) (HO1.out.ext ((Ext.refl _).alloc _)) h3); have HP2 := Lib.hid ((HP1.out.ext ((Ext.refl _).alloc _)).grown (by decide) (HO1.out.ext ((Ext.refl _).alloc _)) h3); have HQ2 := Lib.hid ((HQ1.out.ext ((Ext.refl _).alloc _)).grown (by decide) (HO1.out.ext ((Ext.refl _).alloc _)) h3); obtain ⟨r0, r1, s0, s1⟩ := HB2.out.cells; clear h1 h2 h3)
        go_roundw
        case rel =>
          exact ⟨p + 1, m + 1, A', c', by omega, by omega, by go_num, by rw [HS2.out, List.length_append, HM.out]; exact rfl, HB2.out.set1 _, HP2.out.far (by have := HS0.out; simp only []; omega) _, HQ2.out.far (by have := HS0.out; simp only []; omega) _,
            by rw [HS2.out]; exact HO2.out.setFar (fun ad had => HB2.out.ne (by decide) HO2.out ad had) _, HE3.out.setCell (by have := HS0.out; simp only []; omega) _⟩
        case measure => simp [intOf]; omega
    · obtain rfl : p = n := by omega
      obtain ⟨q4, q5, p4, p5⟩ := HB.out.cells
      obtain ⟨z0, z1, y0, y1⟩ := HQ.out.cells
      have HX := Lib.hid (HX0.out.trans HE.out)
      have HO3 := Lib.hid (HO.out.lower HX0.out.size)
      have HNE : Hid (∀ ad, B = some ad → ad.block ≠ w.heap.size + 1) := fun ad had => by have := (HO.out.lt ad had).1; have := HS0.out; omega
      go_wp2_with fail
      obtain ⟨zs, hz⟩ : ∃ zs, zs = setL p Q := ⟨_, rfl⟩
      rw [← hz] at HM HO3 ⊢
      refine bodyPost_ret (v := .agg #[.int .i64 p, .slice B m d]) (by simp [results, Tryz.results32, go_sem, z0, z1]) rfl ?_
      exact retR_intro HM.out.symm ((HO3.out.setFar (fun ad had => HNE.out ad had) _).setFar (fun ad had => HNE.out ad had) _) ((HX.out.setCell (by have := HS0.out; simp only []; omega) _).setCell (by have := HS0.out; simp only []; omega) _)
end Go.Proofs.YtphpdanohooccaaGreatDoor
