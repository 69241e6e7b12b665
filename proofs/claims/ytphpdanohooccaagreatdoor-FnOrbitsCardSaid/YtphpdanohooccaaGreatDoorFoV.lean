/- FnOrbits: what the functions answer at the drawn rhythm. -/
import Derived.Test.YtphpdanohooccaaGreatDoorFoF
import Derived.Test.YtphpdanohooccaaGreatDoorFoH
import Derived.Test.YtphpdanohooccaaGreatDoorFoD
import Derived.Test.YtphpdanohooccaaGreatDoorOrbI
import Derived.Test.YtphpdanohooccaaGreatDoorAw
namespace Go.Proofs.YtphpdanohooccaaGreatDoor
open Go.RowKit

/-- Answers at a rhythm that lies in w1. -/
structure RCon (w1 : World) (N : Nat) (B : Option Addr) (l d : Nat) (ys qs : List Int) (ob st : Int) : Prop where
  num : 1 ≤ ob ∧ ob * st = 2 * (N : Int)
  orb : ∀ V : World, Ext w1 V → Calls Tryz.prog 5 #[.agg #[.int .i64 N, .slice B l d]] V fun e w' => e = .returned (.int .i64 ob) ∧ Ext V w'
  sta : ∀ V : World, Ext w1 V → Calls Tryz.prog 6 #[.agg #[.int .i64 N, .slice B l d]] V fun e w' => e = .returned (.int .i64 st) ∧ Ext V w'
  aw1 : ∀ V : World, Ext w1 V → Calls Tryz.prog 7 #[.agg #[.int .i64 N, .slice B l d], .string ⟨#[77, 84, 77, 84]⟩] V (RetRB V ((N : Int), ys) true)
  aw2 : ∀ V : World, Ext w1 V → Calls Tryz.prog 7 #[.agg #[.int .i64 N, .slice B l d], .string ⟨#[83, 83]⟩] V (RetRB V ((N : Int), ys) true)
  aw3 : ∀ V : World, Ext w1 V → Calls Tryz.prog 7 #[.agg #[.int .i64 N, .slice B l d], .string ⟨#[84, 83]⟩] V (RetRB V ((N : Int), qs) true)
  aw4 : ∀ V : World, Ext w1 V → Calls Tryz.prog 7 #[.agg #[.int .i64 N, .slice B l d], .string ⟨#[83, 84]⟩] V (RetRB V ((N : Int), qs) true)
  aw5 : ∀ V : World, Ext w1 V → Calls Tryz.prog 7 #[.agg #[.int .i64 N, .slice B l d], .string ⟨#[88]⟩] V (RetRB V ((0 : Int), []) false)
theorem awF_good {N : Nat} {ys : List Int} (hb : rhyB N ys = true) {l : List UInt8} (h : (decide (l.length ≤ 40) && l.all inW) = true) : awB N ys l = true ∧ awF N ys l = ((N : Int), wdG N l ys) := by
  have e : awB N ys l = true := by unfold awB; rw [hb, h]; rfl
  refine ⟨e, ?_⟩
  unfold awF
  rw [if_pos e, Int.toNat_natCast, map0 hb]
theorem rcon (w1 : World) (N : Nat) (B : Option Addr) (d : Nat) (ys : List Int) (hr : RdI w1 B ys) (hb : rhyB N ys = true) :
    ∃ ob st qs, RCon w1 N B ys.length d ys qs ob st ∧ qs.length ≤ 24 := by
  have hn := (rhyB_iff hb).1
  have hl : ys.length ≤ 24 := rhy_short hb
  have hl2 : ys.length ≤ 1048576 := by omega
  have hos := ob_st hb
  refine ⟨(obN N ys : Nat), (stC ys (fmL N ys N) : Nat), wdG N [84, 83] ys, ⟨⟨by have := hos.2; omega, by exact_mod_cast hos.1⟩, ?_, ?_, ?_, ?_, ?_, ?_, ?_⟩, ?_⟩
  · intro V h
    have := obI_any N B d ys V (hr.ext h) hl2
    rwa [show obF N ys = (obN N ys : Nat) by unfold obF; rw [if_pos hb, Int.toNat_natCast]] at this
  · intro V h
    have := stI_any N B d ys V (hr.ext h) hl2
    rwa [show stF N ys = (stC ys (fmL N ys N) : Nat) by unfold stF; rw [if_pos hb, Int.toNat_natCast]] at this
  · intro V h
    have := awI_any N B d ys ⟨#[77, 84, 77, 84]⟩ V (hr.ext h) hl2 (by decide)
    have g := awF_good hb (l := [77, 84, 77, 84]) (by decide)
    rw [show (⟨#[77, 84, 77, 84]⟩ : ByteArray).data.toList = [77, 84, 77, 84] from rfl, g.1, g.2, wd_mtmt hb] at this
    exact this
  · intro V h
    have := awI_any N B d ys ⟨#[83, 83]⟩ V (hr.ext h) hl2 (by decide)
    have g := awF_good hb (l := [83, 83]) (by decide)
    rw [show (⟨#[83, 83]⟩ : ByteArray).data.toList = [83, 83] from rfl, g.1, g.2, wd_ss hb] at this
    exact this
  · intro V h
    have := awI_any N B d ys ⟨#[84, 83]⟩ V (hr.ext h) hl2 (by decide)
    have g := awF_good hb (l := [84, 83]) (by decide)
    rw [show (⟨#[84, 83]⟩ : ByteArray).data.toList = [84, 83] from rfl, g.1, g.2] at this
    exact this
  · intro V h
    have := awI_any N B d ys ⟨#[83, 84]⟩ V (hr.ext h) hl2 (by decide)
    have g := awF_good hb (l := [83, 84]) (by decide)
    rw [show (⟨#[83, 84]⟩ : ByteArray).data.toList = [83, 84] from rfl, g.1, g.2, ← wd_tsst hb] at this
    exact this
  · intro V h
    have := awI_any N B d ys ⟨#[88]⟩ V (hr.ext h) hl2 (by decide)
    have g : awB N ys [88] = false := by unfold awB; rw [hb]; decide
    rw [show (⟨#[88]⟩ : ByteArray).data.toList = [88] from rfl, awF_bad g, g] at this
    exact this
  · exact rhy_short (n := N) (wdG_rhy (by omega) (by omega) _ _ hb)
end Go.Proofs.YtphpdanohooccaaGreatDoor

/- FnOrbits: what the functions answer at the drawn rhythm: stretching. -/
namespace Go.Proofs.YtphpdanohooccaaGreatDoor
open Go.RowKit

/-- Answers at a rhythm that lies in w1: its class, its stretched forms. -/
structure TCon (w1 : World) (N : Nat) (B : Option Addr) (l d : Nat) (ys cs us : List Int) : Prop where
  some_ : 1 ≤ us.length ∧ us.length ≤ 13
  cls : cs.length ≤ 24
  sc : ∀ V : World, Ext w1 V → Calls Tryz.prog 18 #[.agg #[.int .i64 N, .slice B l d]] V (RetRB V ((N : Int), cs) true)
  un : ∀ V : World, Calls Tryz.prog 19 #[.int .i64 N] V (RetI V us)
  st : ∀ u ∈ us, ∃ ts : List Int, ts.length ≤ 24 ∧ (∀ V : World, Ext w1 V → Calls Tryz.prog 20 #[.agg #[.int .i64 N, .slice B l d], .int .i64 u] V (RetRB V ((N : Int), ts) true)) ∧
    (∀ (D : Option Addr) (q : Nat) (V : World), RdI V D ts → Calls Tryz.prog 18 #[.agg #[.int .i64 N, .slice D ts.length q]] V (RetRB V ((N : Int), cs) true)) ∧
    (∀ (D : Option Addr) (q : Nat) (V : World), Ext w1 V → RdI V D ts → Calls Tryz.prog 21 #[.agg #[.int .i64 N, .slice B l d], .agg #[.int .i64 N, .slice D ts.length q]] V fun e w' => e = .returned (.bool true) ∧ Ext V w')
  sa : ∀ (D : Option Addr) (q : Nat) (V : World), Ext w1 V → RdI V D cs → Calls Tryz.prog 21 #[.agg #[.int .i64 N, .slice D cs.length q], .agg #[.int .i64 N, .slice B l d]] V fun e w' => e = .returned (.bool true) ∧ Ext V w'
theorem uL_some : ∀ n ∈ List.range 13, 1 ≤ n → 1 ≤ (uL n (n + 1)).length := by decide +kernel
theorem saB_true {n : Int} {xs ys : List Int} (h1 : rhyB n xs = true) (h2 : rhyB n ys = true) (h : clsF n xs = clsF n ys) : saB n xs n ys = true := by
  unfold saB
  rw [twoB_iff.2 ⟨h1, h2, rfl⟩, decide_eq_true h]
  rfl
theorem tcon (w1 : World) (N : Nat) (B : Option Addr) (d : Nat) (ys : List Int) (hr : RdI w1 B ys) (hb : rhyB N ys = true) (hN : 1 ≤ N ∧ N ≤ 12) :
    ∃ cs us, TCon w1 N B ys.length d ys cs us := by
  have hl : ys.length ≤ 24 := rhy_short hb
  have hcb : rhyB N (clsF N ys) = true := clsF_rhy hb
  have hcl : (clsF N ys).length ≤ 24 := rhy_short hcb
  refine ⟨clsF N ys, uL N (N + 1), ⟨⟨uL_some N (List.mem_range.2 (by omega)) hN.1, by have := uL_len N (N + 1); omega⟩, hcl, ?_, ?_, ?_, ?_⟩⟩
  · intro V h
    have := scI_any N B d ys V (hr.ext h) (by omega)
    rwa [scF_good hb, hb] at this
  · intro V
    have := unI_any (N : Int) V
    rwa [show unF N = uL N (N + 1) by unfold unF; rw [if_pos (inB_iff.2 (by omega)), Int.toNat_natCast]] at this
  · intro u hu
    have htb : rhyB N (strL N ys u) = true := mapF_rhy (by omega) (by omega)
    have htl : (strL N ys u).length ≤ 24 := rhy_short htb
    refine ⟨strL N ys u, htl, fun V h => srP_any N B d ys u V (hr.ext h) hb hu, fun D q V h => ?_, fun D q V h h2 => ?_⟩
    · have := scI_any N D q (strL N ys u) V h (by omega)
      rwa [scF_good htb, htb, cls_str hb hu] at this
    · have := saI_any N N B D d q ys (strL N ys u) V (hr.ext h) h2 (by omega) (by omega)
      rwa [saB_true hb htb (cls_str hb hu).symm] at this
  · intro D q V h h2
    have := saI_any N N D B q d (clsF N ys) ys V h2 (hr.ext h) (by omega) (by omega)
    rwa [saB_true hcb hb (cls_cls hb)] at this
end Go.Proofs.YtphpdanohooccaaGreatDoor
