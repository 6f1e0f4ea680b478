/- The statement of TrimParts over lists, where what comes in is of bulk at most 1048576. -/
import Derived.Test.YtkkkbcjmkmadhaaStatTrimParts
import Derived.Test.YtkkkbcjmkmadhaaLibTrimParts
namespace Go.Proofs.Ytkkkbcjmkmadhaa.Pure
open Go.RowKit Go.Proofs.Ytkkkbcjmkmadhaa.PTrimParts Go.Proofs.YtkkkbcjmkmadhaaW.PrintWords Go.Proofs.YtkkkbcjmkmadhaaW.PrintLast Go.Proofs.YtkkkbcjmkmadhaaOpens Go.Proofs.YtkkkbcjmkmadhaaMath
set_option linter.unusedVariables false
set_option linter.unusedSimpArgs false

theorem sumOf_ge {α : Type} (m : α → Nat) (hm : ∀ x, 1 ≤ m x) (l : List α) : l.length ≤ sumOf m l := by
  induction l with
  | nil => simp
  | cons x l ih => have := hm x; simp only [sumOf, List.length_cons]; omega
theorem sumOf_mem {α : Type} (m : α → Nat) (l : List α) (x : α) (h : x ∈ l) : m x ≤ sumOf m l := by
  induction l with
  | nil => cases h
  | cons y l ih =>
    simp only [sumOf]
    rcases List.mem_cons.1 h with rfl | h
    · omega
    · have := ih h; omega

theorem parts_end (l : List S29) (d : Bool) (c : List Int) (hn : l.length ≤ 1048576) (hs : ∀ x ∈ l, x.f1.length ≤ 1048576) (hc : c.length ≤ 1048576) : Ev (fun k => depotlaw12_TrimParts.j1 k l false d c) true := by
  have s1 : ∀ x ∈ l, x.f1.length < 17592186044416 := fun x hx => by have := hs x hx; omega
  have cp := depotref00_CopySteps_ev l (by omega) s1
  have h1 : l.length < 4398046511104 := by omega
  refine Ev.succ ?_
  simp only [depotlaw12_TrimParts.j1, Bool.false_eq_true, if_false]
  refine Ev.bind cp (Ev.bind (depotref00_CopyInts_ev c (by omega)) ?_)
  simp only [h1, if_true, Option.bind_some]
  have s3 : ∀ x ∈ l ++ [(⟨d, c⟩ : S29)], x.f1.length ≤ 17592186044416 := by
    intro x hx
    rcases List.mem_append.1 hx with hx | hx
    · have := hs x hx; omega
    · rw [List.mem_singleton.1 hx]
      show c.length ≤ _
      omega
  have n3 : (l ++ [(⟨d, c⟩ : S29)]).length ≤ 4398046511104 := by rw [List.length_append, List.length_singleton]; omega
  refine Ev.bind cp (Ev.bind (trim_Within_ev _ l n3 (by omega) s3) ?_)
  have w1 : within12 (l ++ [(⟨d, c⟩ : S29)]) l = false := by
    rw [← Bool.not_eq_true]
    intro h
    have := within12_length _ _ h
    rw [List.length_append, List.length_singleton] at this
    omega
  have w2 : within12 l (l ++ [(⟨d, c⟩ : S29)]) = true := within12_sub _ _ (List.sublist_append_left ..)
  rw [w1]
  simp only [Bool.false_eq_true, if_false]
  refine Ev.bind cp (Ev.bind (trim_Within_ev l _ (by omega) n3 (fun x hx => Nat.le_of_lt (s1 x hx))) ?_)
  rw [w2]
  exact Ev.now _

theorem parts_l0 (l : List S29) (o : List Bool) (dr : Bool) (c : List Int) (hn : l.length ≤ 1048576) (ho : o.length ≤ 1048576) (hs : ∀ x ∈ l, x.f1.length ≤ 1048576) (hc : c.length ≤ 1048576) (d : Nat) :
    ∀ (i : Nat) (p : List S29), i + d = l.length → p.length ≤ i → (∀ r : List S29, List.Sublist r (l.drop i) → List.Sublist (p ++ r) l) → Ev (fun k => depotlaw12_TrimParts.l0 k l o p (i : Int) dr c) true := by
  have s1 : ∀ x ∈ l, x.f1.length < 17592186044416 := fun x hx => by have := hs x hx; omega
  have cp := depotref00_CopySteps_ev l (by omega) s1
  induction d with
  | zero =>
    intro i p hi hp hsub
    have hsb : List.Sublist p l := by have := hsub [] (List.nil_sublist _); rwa [List.append_nil] at this
    refine Ev.succ ?_
    have h1 : ¬ ((i : Int) < (l.length : Int)) := by omega
    simp only [depotlaw12_TrimParts.l0, h1, if_false]
    refine Ev.bind cp (Ev.bind (trim_Within_ev p l (by omega) (by omega) (fun x hx => by have := hs x (hsb.subset hx); omega)) ?_)
    rw [within12_sub l p hsb]
    simp only [if_true]
    refine Ev.bind cp (Ev.bind (trim_Within_ev [] l (by simp) (by omega) (fun x hx => by cases hx)) ?_)
    rw [within12_nil]
    exact parts_end l dr c hn hs hc
  | succ d ih =>
    intro i p hi hp hsub
    have hlt : i < l.length := by omega
    refine Ev.succ ?_
    have h1 : (i : Int) < (l.length : Int) := by omega
    have h0 : (0 : Int) ≤ (i : Int) := by omega
    have h2 : p.length < 4398046511104 := by omega
    have w := w64s (show (i : Int) < 9223372036854775807 by omega)
    have drop1 : Ev (fun k => depotlaw12_TrimParts.l0 k l o p ((i + 1 : Nat) : Int) dr c) true := by
      refine ih (i + 1) p (by omega) (by omega) fun r hr => hsub r ?_
      rw [drop_T29 hlt]
      exact hr.trans (List.sublist_cons_self ..)
    have keep1 : Ev (fun k => depotlaw12_TrimParts.l0 k l o (p ++ [(⟨(rd_T29 l (i : Int)).f0, (rd_T29 l (i : Int)).f1⟩ : S29)]) ((i + 1 : Nat) : Int) dr c) true := by
      refine ih (i + 1) _ (by omega) (by rw [List.length_append, List.length_singleton]; omega) fun r hr => ?_
      have := hsub (rd_T29 l (i : Int) :: r) (by rw [drop_T29 hlt]; exact hr.cons_cons _)
      rwa [List.append_assoc]
    have hci := depotref00_CopyInts_ev (rd_T29 l (i : Int)).f1 (s1 _ (rd_T29_mem hlt))
    simp only [depotlaw12_TrimParts.l0, h1, if_true]
    by_cases c1 : (i : Int) ≥ (o.length : Int)
    · simp only [c1, h0, if_true]
      refine Ev.bind hci ?_
      simp only [h2, if_true, w]
      exact keep1
    · have h3 : (i : Int) < (o.length : Int) := by omega
      simp only [c1, if_false, h0, h3, if_true]
      by_cases c2 : rdOf false o (i : Int) = true
      · simp only [c2, if_true, w]
        exact drop1
      · simp only [c2, if_false]
        refine Ev.bind hci ?_
        simp only [h2, if_true, w]
        exact keep1

theorem TrimParts : PTrimParts.Stmt := by
  intro l o d c hl ho hc hb
  have g1 := sumOf_ge (fun y3 : S29 => ((1 + (sumOf (fun _ => 1) y3.f1 + 1)) + 1)) (fun x => by omega) l
  have g2 := sumOf_ge (fun _ : Bool => 1) (fun x => by omega) o
  have g3 := sumOf_ge (fun _ : Int => 1) (fun x => by omega) c
  refine Ev.rounds ?_
  refine parts_l0 l o d c (by omega) (by omega) ?_ (by omega) l.length 0 [] (by omega) (by simp) (fun r hr => by simpa using hr)
  intro x hx
  have h1 := sumOf_mem (fun y3 : S29 => ((1 + (sumOf (fun _ => 1) y3.f1 + 1)) + 1)) l x hx
  have h2 := sumOf_ge (fun _ : Int => 1) (fun x => by omega) x.f1
  omega

end Go.Proofs.Ytkkkbcjmkmadhaa.Pure
