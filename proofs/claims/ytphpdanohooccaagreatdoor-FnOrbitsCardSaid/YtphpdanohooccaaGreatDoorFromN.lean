/- Contract of rhythmsFrom, the wanted function being IsLeastRotation. -/
import Derived.Test.YtphpdanohooccaaGreatDoorAt
import Derived.Test.YtphpdanohooccaaGreatDoorRS
namespace Go.Proofs.YtphpdanohooccaaGreatDoor
open Go.RowKit

theorem atL_rhy {n c : Nat} (h1 : 1 ≤ n) (h2 : n ≤ 24) : rhyB n (atL n c) = true := rhyB_setL n _ h1 h2
/-- The rhythms with k beats that wq wants, of the numbers N - 1, N - 2 .. (the first s). -/
def rfL (n k : Nat) (wq : List Int → Bool) (N : Nat) : Nat → List (List Int)
  | 0 => []
  | s + 1 => if (atL n (N - (s + 1))).length = k ∧ wq (atL n (N - (s + 1))) = true then rfL n k wq N s ++ [atL n (N - (s + 1))] else rfL n k wq N s
theorem rfL_len (n k : Nat) (wq : List Int → Bool) (N : Nat) : ∀ s, (rfL n k wq N s).length ≤ s
  | 0 => by simp [rfL]
  | s + 1 => by
    have := rfL_len n k wq N s
    rw [rfL]
    split
    · rw [List.length_append]; simp; omega
    · omega
def rsOf (n : Int) (zss : List (List Int)) : List (Int × List Int) := zss.map fun z => (n, z)
theorem shl_pow : ∀ n : Fin 13, wrap64 (2 ^ n.val) = ((2 ^ n.val : Nat) : Int) := by decide +kernel

set_option maxRecDepth 20000 in
set_option maxHeartbeats 4000000 in
theorem from_any (n k : Nat) (wq : List Int → Bool) (w : World) (hn : 1 ≤ n ∧ n ≤ 12) (hk : k ≤ n)
    (CW : Hid (∀ (A : Option Addr) (c : Nat) (xs : List Int) (W : World), RdI W A xs → rhyB n xs = true → Calls Tryz.prog 14 #[.agg #[.int .i64 n, .slice A xs.length c]] W fun e w' => e = .returned (.bool (wq xs)) ∧ Ext W w')) :
    Calls Tryz.prog 36 #[.int .i64 n, .int .i64 k, .func (.func 14) #[] #[]] w (RetQ w (rsOf n (rfL n k wq (2 ^ n) (2 ^ n)))) := by
  obtain ⟨N, hN⟩ : ∃ N, N = 2 ^ n := ⟨_, rfl⟩
  have hN2 : N ≤ 4096 := by rw [hN]; exact Nat.pow_le_pow_right (by decide) hn.2
  have hshl : wrap64 (2 ^ n) = (N : Int) := by rw [hN]; exact shl_pow ⟨n, by omega⟩
  have CO : Hid (∀ (c : Nat) (W : World), c < N → Calls Tryz.prog 66 #[.int .u64 c] W fun e w' => e = .returned (.int .i64 ((atL n c).length : Nat)) ∧ W = w') := fun c W h => (ones_any n c W hn.2 (by rw [← hN]; exact h)).mono fun e w' ⟨h1, h2⟩ => ⟨h1, h2.symm⟩
  have CA : Hid (∀ (c : Nat) (W : World), c < N → Calls Tryz.prog 67 #[.int .i64 n, .int .i64 c] W (RetR W ((n : Int), atL n c))) := fun c W h => atI_any n c W hn (by omega)
  rw [← hN]
  have HNN := Lib.hid hN
  clear hN
  go_enter Tryz.func36, Tryz.ntmps36
  go_wp2_with fail
  rw [hshl]
  clear hshl
  go_loopw [7, 8] (fun o i wr => ∃ (s : Nat) (A : Option Addr) (c m : Nat) (es : List (Int × Option Addr × Nat × List Int)), s ≤ N ∧ i = .int .i64 ((N : Int) - s - 1) ∧ o = .slice A m c ∧ m ≤ s ∧ Hid (es.length = m) ∧ Hid (es.map (fun x : Int × Option Addr × Nat × List Int => (x.1, x.2.2.2)) = rsOf n (rfL n k wq N s)) ∧ Hid (OwQ wr w.heap.size A c es) ∧ Hid (InQ wr w.heap.size es) ∧ Hid (DisQ es) ∧ Hid (Ext w wr)) (fun _ i _ => ((intOf i) + 1).toNat)
  case atStart => exact ⟨0, none, 0, 0, [], by omega, by go_num, rfl, Nat.le_refl _, rfl, rfl, OwQ.nil _ _, InQ.nil _ _, List.Pairwise.nil, Ext.refl w⟩
  case round =>
    obtain ⟨s, A, c, m, es, hs, rfl, rfl, hms, HL, HZ, HO, HI, HD, HE⟩ := hrel
    by_cases hlt : s < N
    · obtain ⟨q, hq⟩ : ∃ q, q = N - (s + 1) := ⟨_, rfl⟩
      have hqi : (N : Int) - s - 1 = (q : Int) := by omega
      rw [hqi]
      obtain ⟨z, hz⟩ : ∃ z, z = atL n q := ⟨_, rfl⟩
      have hzb : rhyB n z = true := by rw [hz]; exact atL_rhy (by omega) (by omega)
      have hq2 : q < N := by omega
      have HNX : Hid (rfL n k wq N (s + 1) = if z.length = k ∧ wq z = true then rfL n k wq N s ++ [z] else rfL n k wq N s) := by rw [rfL, ← hq, ← hz]; exact rfl
      have C1 := Lib.hid (CO.out q wr hq2)
      have C2 := Lib.hid (CA.out q wr hq2)
      rw [← hz] at C1 C2
      have hl24 : z.length ≤ 24 := by have := rhyB_len hzb; omega
      have C3 : Hid (∀ (D : Option Addr) (d : Nat) (W : World), RdI W D z → Calls Tryz.prog 14 #[.agg #[.int .i64 n, .slice D z.length d]] W fun e w' => e = .returned (.bool (wq z)) ∧ Ext W w') := fun D d W h => CW.out D d z W h hzb
      obtain ⟨b, hb⟩ : ∃ b, b = wq z := ⟨_, rfl⟩
      rw [← hb] at C3 HNX
      have HQ : Hid (q + s + 1 = N) := by exact (by omega : q + s + 1 = N)
      clear hz hzb CW CO CA hb hq hqi
      go_wp2_with fail
      refine C1.out.mono ?_
      rintro e w1 ⟨rfl, rfl⟩
      by_cases hlk : z.length = k
      · subst hlk
        go_wp2_with fail
        refine C2.out.mono ?_
        intro e w2 hret
        obtain ⟨D, d, rfl, o2, e2⟩ := hret.parts
        have HX2 : Hid (Ext wr (w2.alloc (.cells #[.int .i64 n, .slice D z.length d] 25))) := e2.alloc _
        have HB2 := Lib.hid (Bx2.new w2 25 (.int .i64 n) (.slice D z.length d))
        have HO2 := Lib.hid (o2.ext ((Ext.refl _).alloc (.cells #[.int .i64 n, .slice D z.length d] 25)))
        clear hret o2 e2
        obtain ⟨q0, q1, p0, p1⟩ := HB2.out.cells
        go_wp2_with fail
        refine (C3.out D d _ HO2.out.rd).mono ?_
        rintro e w3 ⟨rfl, e3⟩
        have HX3 := Lib.hid (HX2.out.trans e3)
        have HB3 := Lib.hid (HB2.out.ext e3)
        have HO3 := Lib.hid (HO2.out.ext e3)
        clear e3 q0 q1 p0 p1 HX2 HB2 HO2
        obtain ⟨q0, q1, p0, p1⟩ := HB3.out.cells
        cases b
        · have HN2 : Hid (rfL n z.length wq N (s + 1) = rfL n z.length wq N s) := by rw [HNX.out]; simp [Hid]
          go_wp2_with fail
          go_roundw
          case rel => exact ⟨s + 1, A, c, m, es, by omega, by have := HQ.out; go_num, rfl, by omega, HL.out, by rw [HN2.out]; exact HZ.out, HO.out.ext HX3.out, HI.out.ext HX3.out, HD.out, HE.out.trans HX3.out⟩
          case measure => (simp [intOf] <;> omega)
        · have HN2 : Hid (rfL n z.length wq N (s + 1) = rfL n z.length wq N s ++ [z]) := by rw [HNX.out]; simp [Hid]
          have HDN : Hid (DisQ (es ++ [((n : Int), D, d, z)])) := DisQ.snoc (w := w3) HD.out (fun f hf x hx => ((HI.out f hf).lt x hx).2) HO3.out
          have HWW := Lib.hid HE.out.size
          go_wp2_with (at_builtin; refine app_q w w3 rfl _ _ rfl A c m es ((n : Int), D, d, z) w3.heap.size rfl rfl rfl HL.out (HO.out.ext HX3.out) (HI.out.ext HX3.out) (HO3.out.lower HWW.out) (HE.out.trans HX3.out) (by omega) ?_; intro A2 c2 w4 h1 h2 h3; have HO4 := Lib.hid h1; have HI4 := Lib.hid h2; have HE4 := Lib.hid h3; clear h1 h2 h3)
          go_roundw
          case rel => exact ⟨s + 1, A2, c2, m + 1, es ++ [((n : Int), D, d, z)], by omega, by have := HQ.out; go_num, rfl, by omega, by rw [List.length_append, HL.out]; exact rfl, by rw [HN2.out, List.map_append, HZ.out]; unfold rsOf; rw [List.map_append]; exact rfl, HO4.out, HI4.out, HDN.out, HE4.out⟩
          case measure => (simp [intOf] <;> omega)
      · have HN2 : Hid (rfL n k wq N (s + 1) = rfL n k wq N s) := by rw [HNX.out, if_neg (fun h => hlk h.1)]; exact rfl
        go_wp2_with fail
        go_roundw
        case rel => exact ⟨s + 1, A, c, m, es, by omega, by have := HQ.out; go_num, rfl, by omega, HL.out, by rw [HN2.out]; exact HZ.out, HO.out, HI.out, HD.out, HE.out⟩
        case measure => (simp [intOf] <;> omega)
    · obtain rfl : s = N := by omega
      go_wp2_with fail
      go_ret
      have := HL.out
      subst this
      exact ⟨A, c, es, rfl, HZ.out, HO.out, HI.out, HD.out, HE.out⟩
end Go.Proofs.YtphpdanohooccaaGreatDoor
