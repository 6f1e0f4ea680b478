/- The statement of TrimOnly over numbers and lists. -/
import Derived.Test.YtkkkbcjmkmadhaaStatTrimOnly
import Derived.Test.YtkkkbcjmkmadhaaLibTrimOnly
namespace Go.Proofs.Ytkkkbcjmkmadhaa.Pure
open Go.RowKit Go.Proofs.Ytkkkbcjmkmadhaa.PTrimOnly Go.Proofs.YtkkkbcjmkmadhaaW.PrintWords Go.Proofs.YtkkkbcjmkmadhaaW.PrintLast Go.Proofs.YtkkkbcjmkmadhaaOpens Go.Proofs.YtkkkbcjmkmadhaaMath
set_option linter.unusedVariables false

theorem TrimOnly : PTrimOnly.Stmt := by
  intro v cs l hf hl
  have s1 : ∀ c ∈ cs, c.length < 17592186044416 := fun c hc => by have := (hf.2.2 c hc).1; omega
  have n1 : cs.length < 5864062014805 := by have := hf.2.1; omega
  have n2 : l.length < 17592186044416 := by have := hl.1; omega
  refine Ev.rounds ?_
  unfold depotlaw12_TrimOnly.f
  refine Ev.bind (depotref00_CopyFormula_ev v cs (by omega) s1) (Ev.bind (depotref00_CopyInts_ev l n2) (Ev.bind (trim_Only_ev v cs l (by omega) n1 s1) (Ev.bind (depotref12_Only_ev v cs l (by omega) n1 s1) ?_)))
  simp only [if_true]
  have hin : ∀ x ∈ (onlyOf v cs l).2.1, x.length ≤ 17592186044416 := by
    intro x hx
    unfold onlyOf at hx
    split at hx
    · split at hx
      · rename_i h
        obtain ⟨y, hy, rfl⟩ := List.mem_map.1 hx
        obtain ⟨h0, h1⟩ := risesIn_mem _ l (-1) (by omega) h y hy
        have := rd_L1_mem (l := cs) (i := y.toNat) (by omega)
        rw [show ((y.toNat : Nat) : Int) = y by omega] at this
        exact Nat.le_of_lt (s1 _ this)
      · cases hx
    · cases hx
  have hlen : (onlyOf v cs l).2.1.length ≤ 17592186044416 := by
    unfold onlyOf
    split
    · split
      · rw [List.length_map]; omega
      · simp
    · simp
  refine Ev.bind (depotref00_SameFormula_ev _ _ _ _ hlen hin) ?_
  simp only [decide_true, beq_self_eq_true, Bool.and_self]
  exact Ev.now _

end Go.Proofs.Ytkkkbcjmkmadhaa.Pure
