/- Plain facts for FnBars. -/
import Derived.Test.YtedlmidhakmgpaaNextE
import Derived.Test.YtedlmidhakmgpaaRoundD
import Derived.Test.YtedlmidhakmgpaaBarRB
import Derived.Test.YtedlmidhakmgpaaBarOf
namespace Go.Proofs.Ytedlmidhakmgpaa

def fbRow (n : Nat) (l : List (List Int)) (i : Nat) : Bool :=
  let b := l.getD i []
  (b.sum == (n : Int)) && barB b && (nbB b == decide (i + 1 < l.length)) && (!decide (i + 1 < l.length) || (nbF b == l.getD (i + 1) [])) && bofB n (preF b 0) && (bofF n (preF b 0) == b)
def fbChk (n : Nat) : Bool :=
  let l := barsL n
  (l.length == (barsL (n - 2)).length + (barsL (n - 3)).length) && decide (1 ≤ l.length) && decide (1 ≤ (l.filter roundB).length) && decide (l.length ≤ 1000) && (List.range l.length).all (fbRow n l)
theorem fb_chk : ∀ k : Fin 12, fbChk (k.val + 3) = true := by decide +kernel
theorem fb_facts {n : Nat} (h1 : 3 ≤ n) (h2 : n ≤ 14) :
    (barsL n).length = (barsL (n - 2)).length + (barsL (n - 3)).length ∧ 1 ≤ (barsL n).length ∧ 1 ≤ ((barsL n).filter roundB).length ∧ (barsL n).length ≤ 1000 ∧
      ∀ i, i < (barsL n).length → ((barsL n).getD i []).sum = n ∧ barB ((barsL n).getD i []) = true ∧ nbB ((barsL n).getD i []) = decide (i + 1 < (barsL n).length) ∧ (i + 1 < (barsL n).length → nbF ((barsL n).getD i []) = (barsL n).getD (i + 1) []) ∧
        bofB n (preF ((barsL n).getD i []) 0) = true ∧ bofF n (preF ((barsL n).getD i []) 0) = (barsL n).getD i [] := by
  have h := fb_chk ⟨n - 3, by omega⟩
  simp only [show n - 3 + 3 = n by omega] at h
  unfold fbChk at h
  simp only [Bool.and_eq_true, beq_iff_eq, decide_eq_true_eq, List.all_eq_true, List.mem_range] at h
  obtain ⟨⟨⟨⟨e1, e2⟩, e3⟩, e4⟩, e5⟩ := h
  refine ⟨e1, e2, e3, e4, fun i hi => ?_⟩
  have := e5 i hi
  unfold fbRow at this
  simp only [Bool.and_eq_true, beq_iff_eq, Bool.or_eq_true, Bool.not_eq_true', decide_eq_false_iff_not] at this
  obtain ⟨⟨⟨⟨⟨f1, f2⟩, f3⟩, f4⟩, f5⟩, f6⟩ := this
  exact ⟨f1, f2, f3, fun h => f4.resolve_left (fun h' => h' h), f5, f6⟩
end Go.Proofs.Ytedlmidhakmgpaa
