/- Contracts of bytes.Repeat (one byte, at most 24 times), text, FormatRhythm. -/
import Derived.Test.YtphpdanohooccaaGreatDoorShelf
import Derived.Test.YtphpdanohooccaaGreatDoorRhyB
import Derived.Test.YtphpdanohooccaaGreatDoorRhy
import Derived.Lib.MakeNoZero
import Derived.Laws.Externs
import Derived.Laws.CopyOwn
import Derived.Lib.SlBytesRow
import Derived.Lib.MinMax
namespace Go.Proofs.YtphpdanohooccaaGreatDoor
open Go.RowKit

/-- The first k bytes of a row are dots. -/
def Dots (cur : List Value) (k : Nat) : Prop := ∀ j, j < k → cur[j]? = some (.int .u8 46)
def RetDots (w : World) (n : Nat) (e : Ending) (w' : World) : Prop :=
  ∃ (g : Nat) (cur : List Value), e = .returned (.slice (some ⟨g, 0, none⟩) n n) ∧ w.heap.size ≤ g ∧ w'.heap[g]? = some (.cells cur.toArray 5 (0, 0)) ∧ n ≤ cur.length ∧ Dots cur n ∧ Ext w w'
theorem dots_splice {cur : List Value} {k m : Nat} (h : Dots cur k) (hm : m ≤ k) (hl : k + m ≤ cur.length) : Dots (splice cur k (cur.take m)) (k + m) ∧ (splice cur k (cur.take m)).length = cur.length := by
  have hlt : (cur.take m).length = m := by rw [List.length_take]; omega
  have hkl : (cur.take k).length = k := by rw [List.length_take]; omega
  constructor
  · intro j hj
    unfold splice
    by_cases h1 : j < k
    · rw [List.getElem?_append_left (by omega), List.getElem?_take_of_lt h1]
      exact h j h1
    · rw [List.getElem?_append_right (by omega), hkl, List.getElem?_append_left (by omega), List.getElem?_take_of_lt (by omega)]
      exact h _ (by omega)
  · exact length_splice _ _ _ (by rw [hlt]; exact hl)
theorem u8_size : (Tryz.prog.info? 5).map (·.size) = some 1 := by kernel_rfl
set_option maxRecDepth 100000 in
set_option maxHeartbeats 2000000 in
theorem rep_any (n : Nat) (g0 cap : Nat) (w : World) (hn : 1 ≤ n ∧ n ≤ 24) (hc : w.cell? ⟨g0, 0, none⟩ = some (.int .u8 46)) :
    Calls Tryz.prog 70 #[.slice (some ⟨g0, 0, none⟩) 1 cap, .int .i64 n] w (RetDots w n) := by
  have CM : Hid (Calls Tryz.prog 82 #[.int .u64 1, .int .u64 n] w fun e w' => e = .returned (.tuple #[.int .u64 0, .int .u64 n]) ∧ w' = w) := by
    have := Tryz.bits_Mul 1 n (by omega) (by omega) w
    rw [Nat.one_mul, Nat.div_eq_of_lt (by omega), Nat.mod_eq_of_lt (by omega)] at this
    exact this
  obtain ⟨cs, hrunM, hle, _⟩ := Lib.run_makeNoZero (P := Tryz.prog) w #[3] 22 5 Tryz.underlying22 n (by omega)
  have hcall : (callFunc 83 #[.int .i64 (n : Int)]).run Tryz.prog w = .ok (.value (.slice (some ⟨w.heap.size, 0, none⟩) n cs.size)) ((w.alloc (.cells cs 5)).drewN 2) := by
    rw [run_callFunc_extern Tryz.func83 (by kernel_rfl) (by kernel_rfl) (by kernel_rfl) (e := Extern.BytealgMakeNoZero.makeNoZero #[3] #[22]) (by kernel_rfl), hrunM]
    rfl
  clear hrunM
  have hw1 : IntKind.u64.wrap (n : Int) = (n : Int) := IntWalk.u64_in _ (by omega)
  have i0 : (0 : Int) ≤ (n : Int) := by omega
  have i1 : (n : Int) ≤ (cs.size : Int) := by omega
  have hn0 : ((n : Int) == 0) = false := by rw [beq_eq_false_iff_ne]; omega
  have n1 : ¬ (n : Int) < 0 := by omega
  have n2 : ¬ (9223372036854775807 : Int) < (n : Int) := by omega
  have n3 : ¬ (8192 : Int) < (n : Int) := by omega
  have HC := Lib.hid hc
  clear hc
  obtain ⟨L, hL⟩ : ∃ L, L = cs.toList := ⟨_, rfl⟩
  have hLs : cs.size = L.length := by rw [hL]; simp
  have hrow : (((w.alloc (.cells cs 5)).drewN 2).heap)[w.heap.size]? = some (.cells L.toArray 5 (0, 0)) := by
    rw [hL]
    exact heap_alloc_new w _
  have hX : Ext w ((w.alloc (.cells cs 5)).drewN 2) := ((Ext.refl w).alloc _).drewN 2
  have hcell0 := hX.cell HC.out
  have HL0 : Hid (n ≤ L.length) := by rw [← hLs]; exact hle
  have HR0 := Lib.hid hrow
  have HX0 := Lib.hid hX
  have HSP : Hid (splice L 0 [.int .u8 46] = splice L 0 [.int .u8 46] ∧ Dots (splice L 0 [.int .u8 46]) 1 ∧ (splice L 0 [.int .u8 46]).length = L.length) := by
    refine ⟨rfl, fun j hj => ?_, length_splice _ _ _ (by simp; omega)⟩
    obtain rfl : j = 0 := by omega
    simp [splice]
  have HC0 := Lib.hid hcell0
  clear hrow hX hcell0 hL hLs
  go_enter Tryz.func70, Tryz.ntmps70
  go_wp2_with fail
  refine CM.out.mono ?_
  rintro e w1 ⟨rfl, rfl⟩
  go_upto_region 17 with fail
  go_wp2_with ((refine wpList_copy_splice rfl _ _ 22 22 rfl 5 Tryz.underlying22 u8_size _ _ _ _ _ _ rfl rfl w1.heap.size 0 L 5 HR0.out [.int .u8 46] (by simp [Nat.min_def]; omega) (fun _ => ⟨rfl, _, rfl, fun j v hj => by (cases j with | zero => (simp at hj; subst hj; exact HC0.out) | succ j => simp at hj)⟩) (by simp; have := HL0.out; omega) (fun v hv => by rw [List.mem_singleton.1 hv]; rfl) w1.heap.size w1 HX0.out (Nat.le_refl _) ?_; intro w2 hg2 hb2; have HB2 := Lib.hid hb2; clear hb2))
  have HD1 := Lib.hid HSP.out.2
  clear HSP HR0 HC0 HX0 HC hcall CM
  have i2 : ((if (n : Int) < 8192 then (n : Int) else 8192)) = n := if_pos (by omega)
  go_loopw [10] (fun s wr => ∃ (k : Nat) (cur : List Value), 1 ≤ k ∧ k ≤ n ∧ s = .int .i64 k ∧ Hid (wr.heap[w1.heap.size]? = some (.cells cur.toArray 5 (0, 0))) ∧ Hid (Dots cur k ∧ cur.length = L.length) ∧ Hid (Below w1.heap.size w1 wr)) (fun s _ => n - (intOf s).toNat)
  case atStart => exact ⟨1, _, Nat.le_refl _, hn.1, rfl, hg2.out, HD1.out, HB2.out⟩
  case round =>
    clear hg2 HD1 HB2
    obtain ⟨k, cur, hk1, hkn, rfl, HG, HD, HB⟩ := hrel
    by_cases hlt : k < n
    · have hkz : (k : Int) < (n : Int) := by omega
      have hne : ¬ n = k := by omega
      have hmin : min (k : Int) (n : Int) = k := by omega
      obtain ⟨m, hm⟩ : ∃ m, m = min k (n - k) := ⟨_, rfl⟩
      have hm1 : 1 ≤ m ∧ m ≤ k ∧ k + m ≤ n := by omega
      have hlm : (cur.take m).length = m := by rw [List.length_take]; have := HD.out.2; have := HL0.out; omega
      have HN := Lib.hid (dots_splice HD.out.1 hm1.2.1 (by have := HD.out.2; have := HL0.out; omega))
      have HCP : Hid (∀ (j : Nat) (v : Value), (cur.take m)[j]? = some v → wr.cell? ((⟨w1.heap.size, 0, none⟩ : Addr).add j) = some v) := fun j v hj => by
        have h1 : j < m := by
          have := (List.getElem?_eq_some_iff.1 hj).1
          omega
        rw [List.getElem?_take_of_lt h1] at hj
        rw [Addr.add_lit, Nat.zero_add]
        exact (cell_of_row wr w1.heap.size j _ _ (0, 0) HG.out).trans (by simpa using hj)
      have HOC : Hid (∀ v ∈ cur.take m, v.oneCell' = true) := fun v hv => by
        obtain ⟨j, hj, e⟩ := List.getElem_of_mem hv
        have h1 : j < m := by omega
        have h2 : (cur.take m)[j]? = some v := by rw [List.getElem?_eq_getElem hj, e]
        rw [List.getElem?_take_of_lt h1, HD.out.1 j (by omega)] at h2
        injection h2 with h2
        rw [← h2]; rfl
      have HLM := Lib.hid (hlm.trans hm)
      have HFT : Hid (k + (cur.take m).length ≤ cur.length) := by rw [hlm, HD.out.2]; have := HL0.out; exact (by omega : k + m ≤ L.length)
      have HM := Lib.hid hm1
      obtain ⟨X, hX⟩ : ∃ X, X = cur.take m := ⟨_, rfl⟩
      have HXL : Hid (X.length = m) := by rw [hX]; exact hlm
      rw [← hX] at HN HCP HOC HLM HFT
      clear hm hlm hX hm1
      go_wp2_with fail
      go_region_law (refine step_copy_splice rfl (.tmp 70) (.tmp 73) 22 22 rfl 5 Tryz.underlying22 u8_size (some ⟨w1.heap.size, k, none⟩) (some ⟨w1.heap.size, 0, none⟩) (n - k) (n - k) k n (by simp [Act.eval, Act.put]) (by simp [Act.eval, Act.put]) w1.heap.size k cur 5 HG.out X HLM.out (fun _ => ⟨rfl, _, rfl, HCP.out⟩) HFT.out HOC.out w1.heap.size w1 HB.out.drew (Nat.le_refl _) ?_; intro w3 hg3 hb3; have HG3 : Hid (w3.heap[w1.heap.size]? = some (.cells (splice cur k X).toArray 5 (0, 0))) := hg3.out; have HB3 := Lib.hid hb3; clear hg3 hb3)
      have hxl : (X.length : Int) = m := by have := HXL.out; omega
      have hM := HM.out
      have hw3 : IntKind.i64.wrap ((k : Int) + (m : Int)) = (k : Int) + (m : Int) := IntWalk.i64_in _ (by omega)
      go_simp
      go_wp2_with fail
      go_roundw
      case rel => (try rw [hw3]); clear hw3 i2 hw1; exact ⟨k + m, _, by omega, by omega, by go_num, HG3.out, ⟨HN.out.1, HN.out.2.trans HD.out.2⟩, HB3.out⟩
      case measure => (try rw [hw3]); clear hw3 i2 hw1; simp [intOf]; omega
    · obtain rfl : k = n := by omega
      go_wp2_with fail
      go_ret
      exact ⟨_, cur, rfl, Nat.le_refl _, HG.out, by rw [HD.out.2]; exact HL0.out, HD.out.1, HB.out⟩
end Go.Proofs.YtphpdanohooccaaGreatDoor
