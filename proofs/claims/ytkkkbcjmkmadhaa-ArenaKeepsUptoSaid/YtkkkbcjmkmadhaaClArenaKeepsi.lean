/- The law's book of an arena in memory: its rows of cells, its lists. -/
import Derived.Test.YtkkkbcjmkmadhaaClArenaKeepse
import Derived.Test.YtkkkbcjmkmadhaaClArenaKeepsh
import Derived.Test.YtkkkbcjmkmadhaaProg
import Derived.Below
import Derived.Deep.Draws
import Derived.Deep.AppendLies
import Derived.Maps.AppendAt
import Derived.OwnWalk
import Derived.Laws.BytesArg
import Derived.Laws.MakeOwn
import Derived.Laws.OwnMore
import Derived.Deep.OwnRows
import Derived.Tactics
import Derived.Lib.ConvBytes
import Derived.Laws.Slices
import Derived.WalkKit
import Derived.KernelRfl
import Derived.RowKit3
import Derived.Deep.LoopGhost
import Derived.Deep.QuietTactic
import Derived.BigQuiet
import Derived.WideLaws
import Derived.Deep.DeepCutAuto
import Derived.Deep.CutBlock
import Derived.Deep.RegionHeld3
import Derived.Laws.Rows
import Derived.Lib.AppendStr
import Derived.ArgAppend
import Derived.Laws.IdiomCopy
import Derived.OrdersHeld
import Derived.Laws.BitsLemmas
import Derived.RowKit
import Derived.Test.YtkkkbcjmkmadhaaWWords
import Derived.Test.YtkkkbcjmkmadhaaWLast
import Derived.Test.YtkkkbcjmkmadhaaWTab
import Derived.Test.YtkkkbcjmkmadhaaWFour
import Derived.Test.YtkkkbcjmkmadhaaWQPut
import Derived.Test.YtkkkbcjmkmadhaaWApart
import Derived.Test.YtkkkbcjmkmadhaaWArr
import Derived.Test.YtkkkbcjmkmadhaaWZeros
import Derived.Test.YtkkkbcjmkmadhaaWFoot
import Derived.Test.YtkkkbcjmkmadhaaWKept
import Derived.Test.YtkkkbcjmkmadhaaWShare
import Derived.Test.YtkkkbcjmkmadhaaWN
import Derived.Test.YtkkkbcjmkmadhaaWFootNe
import Derived.Test.YtkkkbcjmkmadhaaWAt
import Derived.Test.YtkkkbcjmkmadhaaWEqStruct
import Derived.Test.YtkkkbcjmkmadhaaWRepsOne
import Derived.Test.YtkkkbcjmkmadhaaWInv
import Derived.Test.YtkkkbcjmkmadhaaWInvWords
import Derived.Test.YtkkkbcjmkmadhaaWGuard
import Derived.Test.YtkkkbcjmkmadhaaWNEv
import Derived.Test.YtkkkbcjmkmadhaaWMore
/-! text YtkkkbcjmkmadhaaBookSep -/
namespace Go.Proofs.YtkkkbcjmkmadhaaMath
/-- an entry of the book -/
structure Bk where
  at_ : Int
  lits : List Int
  learnt : Bool
  live : Bool
  A : Option Addr
  c : Nat
def Bk.cells (q : Bk) : List Value := [.int .i64 q.at_, .slice q.A q.lits.length q.c, .bool q.learnt, .bool q.live]
def bookCells (E : List Bk) : List Value := E.flatMap Bk.cells
theorem bookCells_length (E : List Bk) : (bookCells E).length = E.length * 4 := by
  induction E with
  | nil => rfl
  | cons q E ih => rw [bookCells, List.flatMap_cons, List.length_append]; show 4 + (bookCells E).length = _; rw [ih, List.length_cons]; omega
theorem bookCells_append (E F : List Bk) : bookCells (E ++ F) = bookCells E ++ bookCells F := List.flatMap_append
theorem bookCells_at {E : List Bk} : ∀ {i : Nat} {q : Bk}, E[i]? = some q → ∀ j, j < 4 → (bookCells E)[i * 4 + j]? = q.cells[j]? := by
  induction E with
  | nil => intro i q h; simp at h
  | cons p E ih =>
    intro i q h j hj
    rw [bookCells, List.flatMap_cons]
    cases i with
    | zero =>
      obtain rfl : p = q := by simpa using h
      rw [Nat.zero_mul, Nat.zero_add, List.getElem?_append_left (by exact hj)]
    | succ i =>
      have hl : p.cells.length = 4 := rfl
      rw [List.getElem?_append_right (by omega), hl, show (i + 1) * 4 + j - 4 = i * 4 + j by omega]
      exact ih (by simpa using h) j hj
theorem bookCells_set {E : List Bk} : ∀ {i : Nat} {q q' : Bk} {j : Nat} {u : Value}, E[i]? = some q → j < 4 → q'.cells = q.cells.set j u → (bookCells E).set (i * 4 + j) u = bookCells (E.set i q') := by
  induction E with
  | nil => intro i q q' j u h; simp at h
  | cons p E ih =>
    intro i q q' j u h hj hq
    have hl : p.cells.length = 4 := rfl
    cases i with
    | zero =>
      obtain rfl : p = q := by simpa using h
      rw [List.set_cons_zero, bookCells, List.flatMap_cons, bookCells, List.flatMap_cons, hq, Nat.zero_mul, Nat.zero_add, List.set_append_left _ _ (by omega)]
    | succ i =>
      rw [List.set_cons_succ, bookCells, List.flatMap_cons, bookCells, List.flatMap_cons, List.set_append_right _ _ (by omega), hl, show (i + 1) * 4 + j - 4 = i * 4 + j by omega]
      exact congrArg (p.cells ++ ·) (ih (by simpa using h) hj hq)
end Go.Proofs.YtkkkbcjmkmadhaaMath
namespace Go.Proofs.YtkkkbcjmkmadhaaHand
open Go.RowKit Go.Proofs.YtkkkbcjmkmadhaaW.PrintWords Go.Proofs.YtkkkbcjmkmadhaaW.PrintLast Go.Proofs.YtkkkbcjmkmadhaaMath Go.Proofs.YtkkkbcjmkmadhaaMaps Go.Maps Go.Proofs.YtkkkbcjmkmadhaaOwn
set_option linter.unusedVariables false
set_option linter.unusedSimpArgs false
/-- the book's rows -/
abbrev bkA (v : Value) (E : List Bk) : Asr := .own 76 4 v E.length (bookCells E)
/-- the book's lists -/
abbrev ltA (E : List Bk) : Asr := .foot fun W => ∀ q ∈ E, q.lits.length ≤ q.c ∧ Kd.C kI W q.A q.lits.length q.lits
theorem lt_nil {w W : World} {l : List Asr} (h : Sep w nX l W) (i : Nat) (hi : l[i]? = some .emp) : Sep w nX (l.set i (ltA [])) W :=
  h.as i hi fun ok _ W1 _ _ q hq => by cases hq
theorem lt_push {w W : World} {l : List Asr} {E : List Bk} (h : Sep w nX l W) (i j : Nat) (hij : i ≠ j) (hi : l[i]? = some (ltA E)) {A : Option Addr} {c : Nat} {xs : List Int} (hj : l[j]? = some (.row kI 3 (.slice A xs.length c) xs)) (at_ : Int) (ln lv : Bool) :
    Sep w nX ((l.set i (ltA (E ++ [⟨at_, xs, ln, lv, A, c⟩]))).set j .emp) W := by
  have h1 := h.join i j hij hi hj
  have hil := (List.getElem?_eq_some_iff.1 hi).1
  have h2 := h1.as (A := (ltA E).sep (.row kI 3 (.slice A xs.length c) xs)) (A' := ltA (E ++ [⟨at_, xs, ln, lv, A, c⟩])) i (by rw [List.getElem?_set_ne (fun e => hij e.symm), List.getElem?_set_self hil]) fun ok ⟨g, a1, a2⟩ => fun W1 hz hk q hq => by
    rcases List.mem_append.1 hq with hq | hq
    · exact a1 W1 hz (fun k k1 k2 => hk k k1.1 k2) q hq
    · obtain rfl := List.mem_singleton.1 hq
      have a3 := (Asr.row kI 3 (.slice A xs.length c) xs).step (ok' := fun _ => True) a2 hz fun k k1 k2 => ⟨hk k k1.1 k2, trivial⟩
      have a4 := Kd.R_reads' a3
      exact ⟨a4.2.1, a4.2.2⟩
  rw [List.set_comm _ _ (fun e => hij e.symm), List.set_set] at h2
  exact h2
theorem lt_as {w W : World} {l : List Asr} {E E' : List Bk} (h : Sep w nX l W) (i : Nat) (hi : l[i]? = some (ltA E)) (hE : ∀ q ∈ E', ∃ p ∈ E, q.lits = p.lits ∧ q.A = p.A ∧ q.c = p.c) : Sep w nX (l.set i (ltA E')) W :=
  h.as i hi fun ok hA W1 hz hk q hq => by
    obtain ⟨p, hp, e1, e2, e3⟩ := hE q hq
    rw [e1, e2, e3]
    exact hA W1 hz hk p hp
theorem lt_C {w W : World} {l : List Asr} {E : List Bk} (h : Sep w nX l W) (i : Nat) (hi : l[i]? = some (ltA E)) {q : Bk} (hq : q ∈ E) : q.lits.length ≤ q.c ∧ Kd.C kI W q.A q.lits.length q.lits := foot_now (h.get i hi) q hq
theorem infoKept : (Try.prog.info? 76).map (fun i => (i.zero, i.size, i.bytes)) = some (some (.agg #[.int .i64 0, .slice none 0 0, .bool false, .bool false]), 4, 40) := by kernel_rfl
end Go.Proofs.YtkkkbcjmkmadhaaHand
/-! text YtkkkbcjmkmadhaaBookMath -/
namespace Go.Proofs.YtkkkbcjmkmadhaaMath
open Go.Proofs.YtkkkbcjmkmadhaaMaps
set_option linter.unusedVariables false
set_option linter.unusedSimpArgs false
def Bk.key (q : Bk) : Int × List Int × Bool := (q.at_, q.lits, q.learnt)
def keyP (p : Nat × Cl) : Int × List Int × Bool := ((p.1 : Int), p.2.lits, p.2.learnt)
/-- the book's live entries are the arena's live clauses, in the same order -/
def Tied (E : List Bk) (L : List Cl) : Prop := (E.filter (·.live)).map Bk.key = (livesOf L).map keyP
theorem tied_nil : Tied [] [] := rfl
theorem Tied.get {E : List Bk} {L : List Cl} (h : Tied E L) {q : Bk} (hq : q ∈ E) (hl : q.live = true) : ∃ p ∈ placed 0 L, p.2.live = true ∧ q.at_ = (p.1 : Int) ∧ q.lits = p.2.lits ∧ q.learnt = p.2.learnt := by
  have h1 : q.key ∈ (E.filter (·.live)).map Bk.key := List.mem_map_of_mem (List.mem_filter.2 ⟨hq, hl⟩)
  rw [h, List.mem_map] at h1
  obtain ⟨p, hp, e⟩ := h1
  obtain ⟨h2, h3⟩ := livesOf_mem hp
  simp only [keyP, Bk.key, Prod.mk.injEq] at e
  exact ⟨p, h2, h3, e.1.symm, e.2.1.symm, e.2.2.symm⟩
theorem Tied.count {E : List Bk} {L : List Cl} (h : Tied E L) : (E.filter (·.live)).length = countOf L := by
  have := congrArg List.length h
  rwa [List.length_map, List.length_map, livesOf_length] at this
theorem Tied.put {E : List Bk} {L : List Cl} (h : Tied E L) (lits : List Int) (b : Bool) (A : Option Addr) (c : Nat) : Tied (E ++ [⟨((sizeL L : Nat) : Int), lits, b, true, A, c⟩]) (L ++ [⟨lits, b, true⟩]) := by
  have e : livesOf (L ++ [⟨lits, b, true⟩]) = livesOf L ++ [(sizeL L, ⟨lits, b, true⟩)] := by
    rw [livesOf, placed_append, List.filter_append, livesOf, Nat.zero_add]
    rfl
  rw [Tied, e, List.filter_append, List.map_append, List.map_append, h]
  rfl
theorem pairwise_keys {E : List Bk} {L : List Cl} (h : Tied E L) : (E.filter (·.live)).Pairwise fun p q => p.at_ < q.at_ := by
  have h1 : ((livesOf L).map keyP).Pairwise fun p q => p.1 < q.1 := by
    rw [List.pairwise_map]
    exact (livesOf_sorted L).imp fun h => by show (_ : Int) < _; simp only [keyP]; omega
  rw [← h, List.pairwise_map] at h1
  exact h1
theorem kill_lives (L : List Cl) (x : Int) : livesOf (kill L x) = (livesOf L).filter fun p => decide (x ≠ (p.1 : Int)) := by
  rw [livesOf, kill, killGo_placed, livesOf]
  generalize placed 0 L = l
  induction l with
  | nil => rfl
  | cons p r ih =>
    simp only [List.map_cons, List.filter_cons, ih]
    by_cases h1 : x = (p.1 : Int)
    · simp only [h1, if_true, Bool.false_eq_true, if_false]
      cases p.2.live with
      | false => simp
      | true => simp
    · simp only [h1, if_false]
      cases hp : p.2.live with
      | false => simp
      | true => simp [h1]
theorem set_dead {E : List Bk} : ∀ {k : Nat} {q : Bk}, E[k]? = some q → q.live = true → (E.filter (·.live)).Pairwise (fun p q => p.at_ < q.at_) →
    (E.set k { q with live := false }).filter (·.live) = (E.filter (·.live)).filter fun r => decide (q.at_ ≠ r.at_) := by
  induction E with
  | nil => intro k q h; simp at h
  | cons p E ih =>
    intro k q h hl hp
    cases k with
    | zero =>
      obtain rfl : p = q := by simpa using h
      rw [List.filter_cons, if_pos hl] at hp
      rw [List.set_cons_zero, List.filter_cons, if_neg (by simp), List.filter_cons, if_pos hl, List.filter_cons, if_neg (by simp)]
      symm
      rw [List.filter_eq_self]
      intro r hr
      have := (List.pairwise_cons.1 hp).1 r hr
      simp
      omega
    | succ k =>
      have h' : E[k]? = some q := by simpa using h
      rw [List.set_cons_succ, List.filter_cons, List.filter_cons]
      cases hpl : p.live with
      | false =>
        rw [List.filter_cons, hpl] at hp
        simp only [Bool.false_eq_true, if_false]
        exact ih h' hl (by simpa using hp)
      | true =>
        rw [List.filter_cons, if_pos hpl] at hp
        obtain ⟨h1, h2⟩ := List.pairwise_cons.1 hp
        have h3 := h1 q (List.mem_filter.2 ⟨List.mem_of_getElem? h', hl⟩)
        rw [if_pos rfl, if_pos rfl, List.filter_cons, if_pos (by simp; omega), ih h' hl h2]
theorem Tied.kill {E : List Bk} {L : List Cl} (h : Tied E L) {k : Nat} {q : Bk} (hq : E[k]? = some q) (hl : q.live = true) : Tied (E.set k { q with live := false }) (kill L q.at_) := by
  rw [Tied, set_dead hq hl (pairwise_keys h), kill_lives]
  have e1 : (fun r : Bk => decide (q.at_ ≠ r.at_)) = (fun t : Int × List Int × Bool => decide (q.at_ ≠ t.1)) ∘ Bk.key := rfl
  have e2 : (fun p : Nat × Cl => decide (q.at_ ≠ (p.1 : Int))) = (fun t : Int × List Int × Bool => decide (q.at_ ≠ t.1)) ∘ keyP := rfl
  rw [e1, e2, ← List.filter_map, ← List.filter_map, h]
/-- how many words the live entries take -/
def sizeE : List Bk → Nat
  | [] => 0
  | q :: E => (if q.live = true then q.lits.length + 1 else 0) + sizeE E
theorem sizeE_append (E F : List Bk) : sizeE (E ++ F) = sizeE E + sizeE F := by
  induction E with
  | nil => simp [sizeE]
  | cons q E ih => simp only [List.cons_append, sizeE, ih]; omega
theorem sizeE_take {E : List Bk} {i : Nat} {q : Bk} (h : E[i]? = some q) : sizeE (E.take (i + 1)) = sizeE (E.take i) + (if q.live = true then q.lits.length + 1 else 0) := by
  rw [List.take_add_one, h, sizeE_append]
  simp [sizeE]
/-- the book behind a sweep -/
def sweepE : Nat → List Bk → List Bk
  | _, [] => []
  | n, q :: E => if q.live = true then { q with at_ := (n : Int) } :: sweepE (n + (q.lits.length + 1)) E else q :: sweepE n E
theorem sweepE_length (E : List Bk) : ∀ n, (sweepE n E).length = E.length := by
  induction E with
  | nil => intro n; rfl
  | cons q E ih => intro n; simp only [sweepE]; split <;> simp [ih]
theorem sweepE_append (E F : List Bk) : ∀ n, sweepE n (E ++ F) = sweepE n E ++ sweepE (n + sizeE E) F := by
  induction E with
  | nil => intro n; rfl
  | cons q E ih =>
    intro n
    simp only [List.cons_append, sweepE, sizeE]
    split
    · rw [List.cons_append, ih, Nat.add_assoc]
    · rw [List.cons_append, ih, Nat.zero_add]
theorem sweepE_same (E : List Bk) : ∀ n, ∀ q ∈ sweepE n E, ∃ p ∈ E, q.lits = p.lits ∧ q.A = p.A ∧ q.c = p.c := by
  induction E with
  | nil => intro n q h; simp [sweepE] at h
  | cons p E ih =>
    intro n q h
    simp only [sweepE] at h
    split at h
    · rcases List.mem_cons.1 h with rfl | h
      · exact ⟨p, List.mem_cons_self, rfl, rfl, rfl⟩
      · obtain ⟨r, h1, h2⟩ := ih _ q h
        exact ⟨r, List.mem_cons_of_mem _ h1, h2⟩
    · rcases List.mem_cons.1 h with rfl | h
      · exact ⟨q, List.mem_cons_self, rfl, rfl, rfl⟩
      · obtain ⟨r, h1, h2⟩ := ih _ q h
        exact ⟨r, List.mem_cons_of_mem _ h1, h2⟩
theorem tied_sizes {E : List Bk} : ∀ {l : List (Nat × Cl)}, (E.filter (·.live)).map Bk.key = l.map keyP → sizeE E = sizeL (l.map (·.2)) := by
  induction E with
  | nil => intro l h; cases l with | nil => rfl | cons p l => cases h
  | cons q E ih =>
    intro l h
    rw [List.filter_cons] at h
    simp only [sizeE]
    split at h
    · rename_i hq
      cases l with
      | nil => cases h
      | cons p l =>
        simp only [List.map_cons, List.cons.injEq] at h
        rw [if_pos hq, ih h.2]
        have h1 : q.lits = p.2.lits := by have := h.1; simp only [Bk.key, keyP, Prod.mk.injEq] at this; exact this.2.1
        simp only [List.map_cons, sizeL, Cl.len, h1]
    · rename_i hq
      rw [if_neg hq, Nat.zero_add]
      exact ih h
theorem Tied.size {E : List Bk} {L : List Cl} (h : Tied E L) : sizeE E = sizeL (sweptOf L) := tied_sizes h
theorem swept_size_le (L : List Cl) : sizeL (sweptOf L) ≤ sizeL L := by
  rw [sweptOf_eq]
  induction L with
  | nil => exact Nat.le_refl _
  | cons c r ih =>
    rw [List.filter_cons]
    split
    · simp only [sizeL]; omega
    · simp only [sizeL]; omega
theorem swept_length_le (L : List Cl) : (sweptOf L).length ≤ L.length := by rw [sweptOf_eq]; exact List.length_filter_le _ _
theorem lives_all {M : List Cl} (h : ∀ c ∈ M, c.live = true) : livesOf M = placed 0 M := by
  rw [livesOf, List.filter_eq_self]
  intro p hp
  have h1 : p.2 ∈ (placed 0 M).map (·.2) := List.mem_map_of_mem hp
  rw [placed_snd] at h1
  exact h _ h1
theorem swept_keys {E : List Bk} : ∀ {l : List (Nat × Cl)} (n : Nat), (E.filter (·.live)).map Bk.key = l.map keyP → ((sweepE n E).filter (·.live)).map Bk.key = (placed n (l.map (·.2))).map keyP := by
  induction E with
  | nil => intro l n h; cases l with | nil => rfl | cons p l => cases h
  | cons q E ih =>
    intro l n h
    rw [List.filter_cons] at h
    simp only [sweepE]
    split at h
    · rename_i hq
      cases l with
      | nil => cases h
      | cons p l =>
        simp only [List.map_cons, List.cons.injEq] at h
        have h0 := h.1
        simp only [Bk.key, keyP, Prod.mk.injEq] at h0
        have h5 : q.lits.length + 1 = p.2.len := by rw [h0.2.1]; rfl
        have h6 := ih (n + p.2.len) h.2
        rw [if_pos hq, List.filter_cons, if_pos hq, List.map_cons, List.map_cons, placed, List.map_cons, h5, h6]
        simp only [Bk.key, keyP, h0.2.1, h0.2.2]
    · rename_i hq
      rw [if_neg hq, List.filter_cons, if_neg hq]
      exact ih n h
theorem Tied.sweep {E : List Bk} {L : List Cl} (h : Tied E L) : Tied (sweepE 0 E) (sweptOf L) := by
  rw [Tied, lives_all (fun c hc => by rw [sweptOf_eq] at hc; exact (List.mem_filter.1 hc).2)]
  exact swept_keys 0 h
/-- where a sweep leads, told by the book -/
def leadsE : Nat → List Bk → List (Int × Int)
  | _, [] => []
  | n, q :: E => if q.live = true then (q.at_, (n : Int)) :: leadsE (n + (q.lits.length + 1)) E else leadsE n E
theorem leads_tied {E : List Bk} : ∀ {l : List (Nat × Cl)} (n : Nat), (E.filter (·.live)).map Bk.key = l.map keyP → leadsGo n l = leadsE n E := by
  induction E with
  | nil => intro l n h; cases l with | nil => rfl | cons p l => cases h
  | cons q E ih =>
    intro l n h
    rw [List.filter_cons] at h
    simp only [leadsE]
    split at h
    · rename_i hq
      cases l with
      | nil => cases h
      | cons p l =>
        simp only [List.map_cons, List.cons.injEq] at h
        have h0 := h.1
        simp only [Bk.key, keyP, Prod.mk.injEq] at h0
        rw [if_pos hq, leadsGo, ih (n + p.2.len) h.2, h0.1, show q.lits.length + 1 = p.2.len by rw [h0.2.1]; rfl]
    · rename_i hq
      rw [if_neg hq]
      exact ih n h
theorem leadE_at {E : List Bk} : ∀ {i : Nat} {q : Bk} (n : Nat), E[i]? = some q → q.live = true → (E.filter (·.live)).Pairwise (fun p q => p.at_ < q.at_) → leadIn (leadsE n E) q.at_ = some (((n + sizeE (E.take i) : Nat)) : Int) := by
  induction E with
  | nil => intro i q n h; simp at h
  | cons p E ih =>
    intro i q n h hl hp
    cases i with
    | zero =>
      obtain rfl : p = q := by simpa using h
      simp only [leadsE]
      rw [if_pos hl, leadIn, if_pos rfl]
      simp [sizeE]
    | succ i =>
      have h' : E[i]? = some q := by simpa using h
      simp only [leadsE, List.take_succ_cons, sizeE]
      rw [List.filter_cons] at hp
      split
      · rename_i hpl
        rw [if_pos hpl] at hp
        obtain ⟨h1, h2⟩ := List.pairwise_cons.1 hp
        have h3 := h1 q (List.mem_filter.2 ⟨List.mem_of_getElem? h', hl⟩)
        rw [leadIn, if_neg (by show ¬ q.at_ = p.at_; omega), ih _ h' hl h2, Nat.add_assoc]
      · rename_i hpl
        rw [if_neg hpl] at hp
        rw [ih _ h' hl hp, Nat.zero_add]
theorem Tied.lead {E : List Bk} {L : List Cl} (h : Tied E L) {i : Nat} {q : Bk} (hq : E[i]? = some q) (hl : q.live = true) : leadIn (leadsOf L) q.at_ = some ((sizeE (E.take i) : Nat) : Int) := by
  rw [leadsOf, leads_tied 0 h, leadE_at 0 hq hl (pairwise_keys h), Nat.zero_add]
/-- the book in the midst of a sweep -/
def midE (i : Nat) (E : List Bk) : List Bk := sweepE 0 (E.take i) ++ E.drop i
theorem midE_length (i : Nat) (E : List Bk) : (midE i E).length = E.length := by
  rw [midE, List.length_append, sweepE_length, List.length_take, List.length_drop]; omega
theorem midE_at {E : List Bk} {i : Nat} (hi : i ≤ E.length) : (midE i E)[i]? = E[i]? := by
  rw [midE, List.getElem?_append_right (by rw [sweepE_length, List.length_take]; omega), sweepE_length, List.length_take, List.getElem?_drop]
  congr 1
  omega
theorem midE_dead {E : List Bk} {i : Nat} {q : Bk} (h : E[i]? = some q) (hl : q.live = false) : midE (i + 1) E = midE i E := by
  obtain ⟨h1, h2⟩ := List.getElem?_eq_some_iff.1 h
  rw [midE, midE, List.take_add_one, h, sweepE_append, List.append_assoc, List.drop_eq_getElem_cons h1, h2]
  simp [sweepE, hl]
theorem midE_live {E : List Bk} {i : Nat} {q : Bk} (h : E[i]? = some q) (hl : q.live = true) : midE (i + 1) E = (midE i E).set i { q with at_ := ((sizeE (E.take i) : Nat) : Int) } := by
  obtain ⟨h1, h2⟩ := List.getElem?_eq_some_iff.1 h
  have h3 : (sweepE 0 (E.take i)).length = i := by rw [sweepE_length, List.length_take]; omega
  rw [midE, midE, List.take_add_one, h, sweepE_append, List.append_assoc, List.drop_eq_getElem_cons h1, h2, List.set_append_right _ _ (by omega), h3, Nat.sub_self, List.set_cons_zero]
  simp [sweepE, hl]
theorem midE_zero (E : List Bk) : midE 0 E = E := rfl
theorem midE_all (E : List Bk) : midE E.length E = sweepE 0 E := by rw [midE, List.take_length, List.drop_length, List.append_nil]
theorem live_take {E : List Bk} {i : Nat} {q : Bk} (h : E[i]? = some q) : ((E.take (i + 1)).filter (·.live)).length = ((E.take i).filter (·.live)).length + (if q.live = true then 1 else 0) := by
  rw [List.take_add_one, h, List.filter_append, List.length_append]
  congr 1
  show ([q].filter (·.live)).length = _
  rw [List.filter_cons]
  split <;> rfl
end Go.Proofs.YtkkkbcjmkmadhaaMath
/-! text YtkkkbcjmkmadhaaGArenaKeepsx0 -/
namespace Go.Proofs.Ytkkkbcjmkmadhaa.PArenaKeeps
open Go.RowKit Go.Proofs.YtkkkbcjmkmadhaaW.PrintWords Go.Proofs.YtkkkbcjmkmadhaaW.PrintLast Go.Proofs.YtkkkbcjmkmadhaaW.PrintMore
attribute [local go_sem] max2_int min2_int max_two min_two max_three min_three max_four min_four   -- for this text's walks alone
set_option linter.unusedVariables false
set_option linter.unusedSimpArgs false



def errW : Option Int → Value
  | none => .nilIface
  | some c => .iface 0 (.int .i64 c)
theorem errW_none : errW none = .nilIface := rfl
theorem errW_some (c : Int) : errW (some c) = .iface 0 (.int .i64 c) := rfl

theorem info3 : (Try.prog.info? 3).map (fun i => (i.zero, i.size, i.bytes)) = some (some (.int .i64 0), 1, 8) := by kernel_rfl
-- the values' own types

end Go.Proofs.Ytkkkbcjmkmadhaa.PArenaKeeps
