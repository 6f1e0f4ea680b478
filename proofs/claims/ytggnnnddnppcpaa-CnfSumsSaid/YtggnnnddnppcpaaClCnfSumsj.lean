/- A range over a function whose iterator has blocks of its own, which it may turn, and which no round may turn: M says which blocks are the iterator's. The contract of such an iterator, and the law for the loop over it. (The proof goes by the steps of the kit's law wpIn_rangeFunc_ownG; what is new: M, and what is handed over.) -/
import Derived.RangeFuncWrites
import Derived.RangeFuncCalls
import Derived.Test.YtggnnnddnppcpaaClCnfSumsi
import Derived.Test.YtggnnnddnppcpaaClCnfSumsc
/-! text YtggnnnddnppcpaaRangeOwn -/
namespace Go.Proofs.YtggnnnddnppcpaaOwn
open Go Go.RowKit
set_option linter.unusedVariables false
variable {F : Fence} {n : Nat} {P : Program}

/-- from A to B: new blocks, and turns of blocks of M alone -/
structure Grow (M : Nat → Prop) (A B : World) : Prop where
  os : B.os = A.os
  tape : B.tape = A.tape
  output : B.output = A.output
  size : A.heap.size ≤ B.heap.size
  block : ∀ k, k < A.heap.size → ¬ M k → B.heap[k]? = A.heap[k]?
theorem Grow.refl (M : Nat → Prop) (A : World) : Grow M A A := ⟨rfl, rfl, rfl, Nat.le_refl _, fun _ _ _ => rfl⟩
theorem Grow.trans {M M' : Nat → Prop} {A B C : World} (h : Grow M A B) (k : Grow M' B C) (hM : ∀ k, M' k → M k ∨ A.heap.size ≤ k) : Grow M A C :=
  ⟨k.os.trans h.os, k.tape.trans h.tape, k.output.trans h.output, Nat.le_trans h.size k.size, fun i hi hn => (k.block i (Nat.lt_of_lt_of_le hi h.size) (fun e => by rcases hM i e with h | h; exact hn h; omega)).trans (h.block i hi hn)⟩
theorem Grow.mono {M M' : Nat → Prop} {A B : World} (h : Grow M A B) (hM : ∀ k, M k → M' k) : Grow M' A B := ⟨h.os, h.tape, h.output, h.size, fun k hk hn => h.block k hk (fun e => hn (hM k e))⟩
theorem Grow.of_grownBy {M : Nat → Prop} {A B : World} {row : Option Nat} (h : A.grownBy B row) (hr : ∀ r, row = some r → M r) : Grow M A B := ⟨h.os, h.tape, h.output, h.size, fun k hk hn => h.block k hk (fun e => hn (hr k e.symm))⟩
theorem Grow.of_below {M : Nat → Prop} {A B : World} (h : Below A.heap.size A B) : Grow M A B := ⟨h.os, h.tape, h.output, h.size, fun k hk _ => h.block k hk⟩
theorem Grow.put {M : Nat → Prop} {A : World} {l : Nat} (o : Obj) (h : M l) : Grow M A (A.putObj l o) := Grow.of_grownBy (grownBy_putObj' A l o) (fun r e => by cases e; exact h)
theorem Grow.below {M : Nat → Prop} {A B : World} {n₀ : Nat} (h : Grow M A B) (hn : n₀ ≤ A.heap.size) (hM : ∀ k, M k → n₀ ≤ k) : Below n₀ A B := ⟨h.os, h.tape, h.output, h.size, fun k hk => h.block k (Nat.lt_of_lt_of_le hk hn) (fun e => Nat.not_le_of_lt hk (hM k e))⟩
/-- M's blocks lie as they lay -/
def KeptD (M : Nat → Prop) (A B : World) : Prop := A.heap.size ≤ B.heap.size ∧ ∀ k o, M k → A.heap[k]? = some o → B.heap[k]? = some o
theorem KeptD.refl (M : Nat → Prop) (A : World) : KeptD M A A := ⟨Nat.le_refl _, fun _ _ _ h => h⟩
theorem KeptD.trans {M : Nat → Prop} {A B C : World} (h : KeptD M A B) (k : KeptD M B C) : KeptD M A C := ⟨Nat.le_trans h.1 k.1, fun i o hi ho => k.2 i o hi (h.2 i o hi ho)⟩
theorem KeptD.mono {M M' : Nat → Prop} {A B : World} (h : KeptD M A B) (hM : ∀ k, M' k → M k) : KeptD M' A B := ⟨h.1, fun k o hk ho => h.2 k o (hM k hk) ho⟩
theorem KeptD.of_below {M : Nat → Prop} {A B : World} (h : Below A.heap.size A B) : KeptD M A B := ⟨h.size, fun k o _ ho => (h.block k (Array.getElem?_eq_some_iff.1 ho).1).trans ho⟩
theorem KeptD.setCell {M : Nat → Prop} {A : World} {p : Addr} (h : ¬ M p.block) (u : Value) : KeptD M A (A.setCell p u) :=
  ⟨((Below.refl 0 A).setCell (p := p) (Nat.zero_le _) u).size, fun k o hk ho => (Below.heap_setCell A p u k (fun e => h (by rw [← e]; exact hk))).trans ho⟩
theorem KeptD.of_grownBy {M : Nat → Prop} {A B : World} {row : Option Nat} (h : A.grownBy B row) (hr : ∀ r, row = some r → ¬ M r) : KeptD M A B :=
  ⟨h.size, fun k o hk ho => (h.block k (Array.getElem?_eq_some_iff.1 ho).1 (fun e => hr k e.symm hk)).trans ho⟩
theorem KeptD.alloc {M : Nat → Prop} (A : World) (o : Obj) : KeptD M A (A.alloc o) := KeptD.of_grownBy (World.grownBy_alloc A o none) (fun r e => by cases e)
/-- M and what is new from A to B -/
def More (M : Nat → Prop) (A B : World) (M1 : Nat → Prop) : Prop := ∀ k, M1 k → M k ∨ (A.heap.size ≤ k ∧ k < B.heap.size)
theorem More.refl (M : Nat → Prop) (A B : World) : More M A B M := fun _ h => .inl h
/-- what a caller holds may go on, whatever the iterator lays and turns of its own -/
def OwnD {β : Type} (I : (Nat → Prop) → β → World → Prop) : Prop := ∀ M M1 s A B, I M s A → Grow M A B → More M A B M1 → I M1 s B
/-- the iterator's contract: Rd: the blocks that it reads and never turns -/
def SeqD {α : Type} (F : Fence) (n : Nat) (P : Program) (g : Nat) (lb : Array Value) (encs : α → Array Value) (Hd : World → (Nat → Prop) → α → World → Prop) (Rd : Nat → Prop) (S Sp : List α → Prop) (N : Nat) (w : World) : Prop :=
  ∀ (l : Nat) (J Jx : (Nat → Prop) → List α → World → Prop) (W : World), Below w.heap.size w W → OwnD J → OwnD Jx →
    (∀ M M1 pre x A W1, J M pre A → Grow M A W1 → More M A W1 M1 → (∀ k, M k → M1 k) → Hd A M1 x W1 → pre.length < N → YieldAt F (n - 1) P l (encs x) W1 fun e W' =>
      (e = .returned (.bool true) ∧ J M1 (pre ++ [x]) W' ∧ KeptD (fun k => M1 k ∨ Rd k) W1 W') ∨ (e = .returned (.bool false) ∧ Jx M1 (pre ++ [x]) W' ∧ KeptD (fun k => M1 k ∨ Rd k) W1 W')) →
    J (fun _ => False) [] W →
    CallsIn F n P g (#[.func (.yield l) #[] #[]] ++ lb) W fun e W' => (∃ v, e = .returned v) ∧ ∃ M, ((∃ xs, S xs ∧ J M xs W') ∨ (∃ pre, Sp pre ∧ Jx M pre W'))
/-- what a body has to show -/
def ownPostD {β : Type} (Rd M : Nat → Prop) (I : (Nat → Prop) → β → World → Prop) (Ix : Code → (Nat → Prop) → β → World → Prop) (s : β) (W : World) : Exit → Act → World → Prop
  | .normal, _, W' => KeptD (fun k => M k ∨ Rd k) W W' ∧ I M s W'
  | .ret, _, W' => KeptD (fun k => M k ∨ Rd k) W W' ∧ Ix .ret M s W'
  | .exit id, _, W' => KeptD (fun k => M k ∨ Rd k) W W' ∧ Ix (.exit id) M s W'
  | .goto t, _, W' => KeptD (fun k => M k ∨ Rd k) W W' ∧ Ix (.goto t) M s W'
  | _, _, _ => False
/-- a record's two blocks beside M -/
def With (B : Nat) (M : Nat → Prop) (k : Nat) : Prop := M k ∨ k = B ∨ k = B + 1

theorem wpIn_range_own {α : Type} {g : Operand} {ps : Array Tmp} {assign body : Code} {Q : Exit → Act → World → Prop} {a : Act} {w : World}
    (h1 : 1 ≤ n) {gf : Nat} {lb : Array Value} (hro : F.round = none) (hg : a.eval g = .func (.func gf) #[] lb) (hFg : F.fn gf) (eg : ∀ args w, (callFunc gf args).run P w = .ok (.enter gf args) w)
    {encs : α → Array Value} {Hd : World → (Nat → Prop) → α → World → Prop} {Rd : Nat → Prop} {S Sp : List α → Prop} {N : Nat} {w0 : World} (hseq : SeqD F (n - 1) P gf lb encs Hd Rd S Sp N w0)
    (hHd : ∀ A M M' x W W', Hd A M x W → (∀ k, M' k → M k ∨ k < A.heap.size) → (∀ k cs t z, A.heap.size ≤ k → W.heap[k]? = some (.cells cs t z) → W'.heap[k]? = some (.cells cs t z)) → Hd A M' x W')
    (hRd : ∀ k, Rd k → k < w0.heap.size) (hb0 : Below w0.heap.size w0 w) (hps : ∀ x, (encs x).size = ps.size)
    (I : (Nat → Prop) → List α → World → Prop) (Ix : Code → (Nat → Prop) → List α → World → Prop) (hI : OwnD I) (hIx : ∀ c, OwnD (Ix c)) (h0 : I (fun _ => False) [] w) (a₁ : α → Act)
    (hassign : ∀ (l : Nat) (x : α) (W : World) (K : Act → World → Prop), K (a₁ x) W →
      assign.wpIn (F.inRound l) (n - 1 - 1) P (Exit.then K (fun _ _ _ => False)) { tmps := (ps.zip (encs x)).foldl (fun t (p, v) => t.setIfInBounds p v) a.tmps, defers := [] } W)
    (hbody : ∀ (l : Nat) (M M1 : Nat → Prop) (pre : List α) (x : α) (A W : World), I M pre A → Grow M A W → More M A W M1 → (∀ k, M k → M1 k) → M w.heap.size → M (w.heap.size + 1) → w.heap.size + 2 ≤ A.heap.size → Hd A M1 x W → pre.length < N → body.wpIn (F.inRound l) (n - 1 - 1) P (ownPostD Rd M1 I Ix (pre ++ [x]) W) (a₁ x) W)
    (hdone : ∀ (M : Nat → Prop) (xs : List α) (W : World), M w.heap.size → S xs → I M xs W → W.heap[w.heap.size]? = some (.deferred (some [])) → Q .normal { a with defers := { target := .collected w.heap.size, args := #[] } :: a.defers } W)
    (hstop : ∀ (M : Nat → Prop) (c : Code) (pre : List α) (W : World), M w.heap.size → Sp pre → Ix c M pre W → W.heap[w.heap.size]? = some (.deferred (some [])) → c.wpIn F n P Q { a with defers := { target := .collected w.heap.size, args := #[] } :: a.defers } W) :
    (Code.rangeFunc g ps assign body).wpIn F n P Q a w := by
  refine wpIn_rangeFunc ?_
  intro fn hfn
  rw [hro]
  obtain ⟨rec, hrec⟩ : ∃ rec : LoopState → Option Code → Loop, rec = fun st pe => { state := st, pending := pe, fn, tmps := a.tmps, params := ps, assign, body, defers := w.heap.size } := ⟨_, rfl⟩
  obtain ⟨W1, hW1⟩ : ∃ W1, (w.alloc (.deferred (some []))).alloc (.loop (rec .ready none)) = W1 := ⟨_, rfl⟩
  have hz1 : W1.heap.size = w.heap.size + 2 := by rw [← hW1]; simp
  have hL1 : W1.heap[w.heap.size + 1]? = some (.loop (rec .ready none)) := by
    rw [← hW1]
    have := World.alloc_heap_new (w.alloc (.deferred (some []))) (.loop (rec .ready none))
    rwa [World.size_alloc] at this
  have hK1 : W1.heap[w.heap.size]? = some (.deferred (some [])) := by
    rw [← hW1]
    exact (Below.heap_alloc _ _ _ (by simp)).trans (World.alloc_heap_new w _)
  have hG1 : Below w.heap.size w W1 := by rw [← hW1]; exact ((Below.refl _ w).alloc (Nat.le_refl _) _).alloc (by simp) _
  have hb1 : Below w0.heap.size w0 W1 := hb0.trans (hG1.mono hb0.size)
  have hRlt : ∀ k, Rd k → k < w.heap.size := fun k hk => Nat.lt_of_lt_of_le (hRd k hk) hb0.size
  have hI1 : I (With w.heap.size (fun _ => False)) [] W1 := hI _ _ _ _ _ h0 (Grow.of_below hG1) (fun k hk => by rcases hk with h | h | h; exact .inl h; exact .inr (by omega); exact .inr (by omega))
  refine ⟨w.heap.size + 1, [{ target := .collected w.heap.size, args := #[] }], W1, { target := .fn (.func gf) lb, args := #[.func (.yield (w.heap.size + 1)) #[] #[]] }, W1, gf,
    #[.func (.yield (w.heap.size + 1)) #[] #[]] ++ lb, W1, ?_, ?_, ?_, ?_, fun _ => h1, ?_⟩
  · rw [← hW1, hrec]; exact run_enterLoop_outer _ _ _ _ _
  · simp only [resolve, hg]
    simp [go_sem]
  · intro f' hf'
    simp [Target.leads] at hf'
    subst hf'
    exact hFg
  · simp [invoke, go_sem, eg]
  · refine (hseq (w.heap.size + 1)
      (fun M pre W => I (With w.heap.size M) pre W ∧ W.heap[w.heap.size + 1]? = some (.loop (rec .ready none)) ∧ W.heap[w.heap.size]? = some (.deferred (some [])) ∧ ¬ M w.heap.size ∧ ¬ M (w.heap.size + 1))
      (fun M pre W => ∃ c, Ix c (With w.heap.size M) pre W ∧ W.heap[w.heap.size + 1]? = some (.loop (rec .done (some c))) ∧ W.heap[w.heap.size]? = some (.deferred (some [])) ∧ ¬ M w.heap.size ∧ ¬ M (w.heap.size + 1))
      W1 hb1 ?_ ?_ ?_ ⟨hI1, hL1, hK1, fun h => h, fun h => h⟩).mono ?_
    · rintro M M1 s A B ⟨hi, hl, hk, n1, n2⟩ hg' hm
      have l1 := (Array.getElem?_eq_some_iff.1 hl).1
      have l2 := (Array.getElem?_eq_some_iff.1 hk).1
      refine ⟨hI _ _ _ _ _ hi (hg'.mono fun k h => .inl h) (fun k h => ?_), (hg'.block _ l1 n2).trans hl, (hg'.block _ l2 n1).trans hk, fun h => ?_, fun h => ?_⟩
      · rcases h with h | h
        · rcases hm k h with h | h
          · exact .inl (.inl h)
          · exact .inr h
        · exact .inl (.inr h)
      · rcases hm _ h with h | h
        · exact n1 h
        · omega
      · rcases hm _ h with h | h
        · exact n2 h
        · omega
    · rintro M M1 s A B ⟨c, hi, hl, hk, n1, n2⟩ hg' hm
      have l1 := (Array.getElem?_eq_some_iff.1 hl).1
      have l2 := (Array.getElem?_eq_some_iff.1 hk).1
      refine ⟨c, hIx c _ _ _ _ _ hi (hg'.mono fun k h => .inl h) (fun k h => ?_), (hg'.block _ l1 n2).trans hl, (hg'.block _ l2 n1).trans hk, fun h => ?_, fun h => ?_⟩
      · rcases h with h | h
        · rcases hm k h with h | h
          · exact .inl (.inl h)
          · exact .inr h
        · exact .inl (.inr h)
      · rcases hm _ h with h | h
        · exact n1 h
        · omega
      · rcases hm _ h with h | h
        · exact n2 h
        · omega
    · rintro M M1 pre x A W ⟨hi, hlA, hkA, n1, n2⟩ hgr hm hsub hx hlen
      have l1 := (Array.getElem?_eq_some_iff.1 hlA).1
      have l2 := (Array.getElem?_eq_some_iff.1 hkA).1
      have hl := (hgr.block _ l1 n2).trans hlA
      have hk := (hgr.block _ l2 n1).trans hkA
      have m1 : ¬ M1 w.heap.size := fun h => by rcases hm _ h with h | h; exact n1 h; omega
      have m2 : ¬ M1 (w.heap.size + 1) := fun h => by rcases hm _ h with h | h; exact n2 h; omega
      have hlt : w.heap.size + 1 < W.heap.size := (Array.getElem?_eq_some_iff.1 hl).1
      have hy := run_yield (P := P) (args := encs x) hl (by rw [hrec]; exact hps x)
      rw [hrec] at hy
      refine ⟨fn, _, assign, body, hy, roundIn_of_wpIn hfn (hassign _ x W _ ⟨_, run_beginRound hl (by rw [hrec]), ?_⟩)⟩
      have hl2 : (W.putObj (w.heap.size + 1) (.loop { rec .ready none with state := .busy })).heap[w.heap.size + 1]? = some (.loop { rec .ready none with state := .busy }) := World.putObj_heap_same hlt
      have hk2 : (W.putObj (w.heap.size + 1) (.loop { rec .ready none with state := .busy })).heap[w.heap.size]? = some (.deferred (some [])) := (World.putObj_heap_other (by omega)).trans hk
      have hgp : Grow (With w.heap.size M) A (W.putObj (w.heap.size + 1) (.loop { rec .ready none with state := .busy })) := (hgr.mono fun k h => .inl h).trans (Grow.put (M := With w.heap.size M) _ (.inr (.inr rfl))) (fun k h => .inl h)
      have hmp : More (With w.heap.size M) A (W.putObj (w.heap.size + 1) (.loop { rec .ready none with state := .busy })) (With w.heap.size M1) := fun k h => by
        rcases h with h | h
        · rcases hm k h with h | h
          · exact .inl (.inl h)
          · exact .inr ⟨h.1, Nat.lt_of_lt_of_le h.2 (grownBy_putObj' W _ _).size⟩
        · exact .inl (.inr h)
      have hxp : Hd A (With w.heap.size M1) x (W.putObj (w.heap.size + 1) (.loop { rec .ready none with state := .busy })) := hHd _ _ _ _ _ _ hx
        (fun k h => by rcases h with h | h; exact .inl h; exact .inr (by omega))
        (fun k cs t z hkk hcs => (World.putObj_heap_other (fun e => by subst e; rw [hl] at hcs; cases hcs)).trans hcs)
      refine wpIn_mono (hbody _ (With w.heap.size M) (With w.heap.size M1) pre x A _ hi hgp hmp (fun k h => by rcases h with h | h; exact .inl (hsub k h); exact .inr h) (.inr (.inl rfl)) (.inr (.inr rfl)) (by omega) hxp hlen) ?_
      have fin : ∀ (jump : Option Code) (W3 : World), KeptD (fun k => With w.heap.size M1 k ∨ Rd k) (W.putObj (w.heap.size + 1) (.loop { rec .ready none with state := .busy })) W3 →
          (Instr.endRound (w.heap.size + 1) jump).run P W3 = .ok (.bool jump.isNone) (W3.putObj (w.heap.size + 1) (.loop (rec (if jump.isNone then .ready else .done) jump))) ∧
          W3.heap[w.heap.size + 1]? = some (.loop { rec .ready none with state := .busy }) ∧
          (W3.putObj (w.heap.size + 1) (.loop (rec (if jump.isNone then .ready else .done) jump))).heap[w.heap.size + 1]? = some (.loop (rec (if jump.isNone then .ready else .done) jump)) ∧
          (W3.putObj (w.heap.size + 1) (.loop (rec (if jump.isNone then .ready else .done) jump))).heap[w.heap.size]? = some (.deferred (some [])) := fun jump W3 hk3 => by
        have hl3 := hk3.2 _ _ (.inl (.inr (.inr rfl))) hl2
        have := run_endRound (P := P) jump hl3
        rw [hrec] at this ⊢
        exact ⟨this, by rw [hrec] at hl3; exact hl3, World.putObj_heap_same (Array.getElem?_eq_some_iff.1 hl3).1, (World.putObj_heap_other (by omega)).trans (hk3.2 _ _ (.inl (.inr (.inl rfl))) hk2)⟩
      have left : ∀ (c : Code) (W3 : World), KeptD (fun k => With w.heap.size M1 k ∨ Rd k) (W.putObj (w.heap.size + 1) (.loop { rec .ready none with state := .busy })) W3 → Ix c (With w.heap.size M1) (pre ++ [x]) W3 → _ := fun c W3 hk3 hi3 => by
        obtain ⟨hr, hl3, hl4, hk4⟩ := fin (some c) W3 hk3
        have mr : ¬ (M1 (w.heap.size + 1) ∨ Rd (w.heap.size + 1)) := fun h => h.elim m2 (fun h => by have := hRlt _ h; omega)
        exact (⟨_, _, hr, .inr ⟨rfl, ⟨c, hIx c _ _ _ _ _ hi3 (Grow.put _ (.inr (.inr rfl))) (More.refl _ _ _), hl4, hk4, m1, m2⟩, ((KeptD.of_grownBy (grownBy_putObj' W _ _) (fun r e => by cases e; exact mr)).trans (hk3.mono fun k h => h.elim (fun h => .inl (.inl h)) .inr)).trans (KeptD.of_grownBy (grownBy_putObj' W3 _ _) (fun r e => by cases e; exact mr))⟩⟩ : ∃ v W4, (Instr.endRound (w.heap.size + 1) (some c)).run P W3 = .ok v W4 ∧ ((Ending.returned v = .returned (.bool true) ∧ (I (With w.heap.size M1) (pre ++ [x]) W4 ∧ W4.heap[w.heap.size + 1]? = some (.loop (rec .ready none)) ∧ W4.heap[w.heap.size]? = some (.deferred (some [])) ∧ ¬ M1 w.heap.size ∧ ¬ M1 (w.heap.size + 1)) ∧ KeptD (fun k => M1 k ∨ Rd k) W W4) ∨ (Ending.returned v = .returned (.bool false) ∧ (∃ c, Ix c (With w.heap.size M1) (pre ++ [x]) W4 ∧ W4.heap[w.heap.size + 1]? = some (.loop (rec .done (some c))) ∧ W4.heap[w.heap.size]? = some (.deferred (some [])) ∧ ¬ M1 w.heap.size ∧ ¬ M1 (w.heap.size + 1)) ∧ KeptD (fun k => M1 k ∨ Rd k) W W4)))
      rintro e a3 W3 hp
      cases e with
      | normal =>
        obtain ⟨hk3, hi3⟩ := hp
        obtain ⟨hr, hl3, hl4, hk4⟩ := fin none W3 hk3
        refine ⟨_, _, hr, .inl ⟨rfl, ⟨hI _ _ _ _ _ hi3 (Grow.put _ (.inr (.inr rfl))) (More.refl _ _ _), hl4, hk4, m1, m2⟩, ?_⟩⟩
        have mr : ¬ (M1 (w.heap.size + 1) ∨ Rd (w.heap.size + 1)) := fun h => h.elim m2 (fun h => by have := hRlt _ h; omega)
        refine ((KeptD.of_grownBy (grownBy_putObj' W _ _) (fun r e => by cases e; exact mr)).trans (hk3.mono fun k h => h.elim (fun h => .inl (.inl h)) .inr)).trans (KeptD.of_grownBy (grownBy_putObj' W3 _ _) (fun r e => by cases e; exact mr))
      | ret => exact left .ret W3 hp.1 hp.2
      | exit id => exact left (.exit id) W3 hp.1 hp.2
      | goto t => exact left (.goto t) W3 hp.1 hp.2
      | panic ch => exact hp.elim
      | outgrown => exact hp.elim
    · rintro e W2 ⟨⟨v, rfl⟩, M, (⟨xs, hS, hi, hl, hk, n1, n2⟩ | ⟨pre, hSp, c, hi, hl, hk, n1, n2⟩)⟩
      · exact ⟨none, _, by have := run_endLoop (P := P) hl (by rw [hrec]; simp); rw [hrec] at this; exact this, hdone _ xs _ (.inr (.inl rfl)) hS (hI _ _ _ _ _ hi (Grow.put _ (.inr (.inr rfl))) (More.refl _ _ _)) ((World.putObj_heap_other (by omega)).trans hk)⟩
      · exact ⟨some c, _, by have := run_endLoop (P := P) hl (by rw [hrec]; simp); rw [hrec] at this; exact this, hstop _ c pre _ (.inr (.inl rfl)) hSp (hIx c _ _ _ _ _ hi (Grow.put _ (.inr (.inr rfl))) (More.refl _ _ _)) ((World.putObj_heap_other (by omega)).trans hk)⟩
end Go.Proofs.YtggnnnddnppcpaaOwn
/-! text YtggnnnddnppcpaaCnfModelsOwn -/
namespace Go.Proofs.YtggnnnddnppcpaaHand
open Go.RowKit Go.Shelf Go.Proofs.YtggnnnddnppcpaaW.PrintWords Go.Proofs.YtggnnnddnppcpaaW.PrintLast Go.Proofs.YtggnnnddnppcpaaMath Go.Proofs.YtggnnnddnppcpaaCells Go.Proofs.YtggnnnddnppcpaaOwn
set_option linter.unusedVariables false
set_option linter.unusedSimpArgs false
attribute [local go_sem] Oper.semAt_some
abbrev OwnBools (W : World) (base : Nat) (v : Value) (xs : List Bool) : Prop := W.ownsRow base 4 1 v xs.length (xs.map Value.bool)
theorem Src.keptD {v : Nat} {cs : List (List Int)} {Bg base0 : Nat} {ok M : Nat → Prop} {A : Option Addr} {cap : Nat} {W W1 : World} (h : Src v cs Bg base0 ok A cap W) (k : KeptD M W W1) (h1 : M Bg) (h2 : ∀ k, ok k → M k) : Src v cs Bg base0 ok A cap W1 :=
  ⟨k.2 _ _ h1 h.hg, Kd.S_mono (Kd.S_move (Kd.S_bound h.hc) (fun j hj => by obtain ⟨ho, _, hlt, q, _, cells, hc⟩ := hj; rw [hc]; exact k.2 _ _ (h2 j ho) hc)) (fun _ hk => hk.1)⟩
set_option maxRecDepth 100000 in
set_option maxHeartbeats 4000000 in
theorem models2_own_in (n : Nat) (hn : 1 ≤ n) (l v : Nat) (cs : List (List Int)) (Bg base0 : Nat) (ok : Nat → Prop) (A : Option Addr) (cap : Nat) (hv : v ≤ 16) (hf : isFormula (v : Int) cs = true) (hcn : cs.length ≤ 17592186044416) (hcs : ∀ c ∈ cs, c.length ≤ 17592186044416)
    (J Jx : List (Value × List Bool) → World → Prop) (W : World) (hJ : AbidesM W.heap.size J) (hSrc : Src v cs Bg base0 ok A cap W)
    (hY : ∀ pre x A0 W1, J pre A0 → J pre W1 → Below A0.heap.size A0 W1 → W.heap.size < A0.heap.size → x.2.length = v → OwnBools W1 A0.heap.size x.1 x.2 → pre.length < 65536 → YieldAt Fence.wide (n - 1) Try.prog l #[x.1] W1 fun e W' =>
      (e = .returned (.bool true) ∧ J (pre ++ [x]) W' ∧ KeptD (fun k => k = W.heap.size ∨ k = Bg ∨ ok k) W1 W') ∨ (e = .returned (.bool false) ∧ Jx (pre ++ [x]) W'))
    (h0 : J [] W) :
    CallsIn Fence.wide n Try.prog 72 #[.func (.yield l) #[] #[], .pointer (some ⟨Bg, 0, none⟩)] W fun e W' => (∃ u, e = .returned u) ∧
      ((∃ xs, xs.map (·.2) = modelsIn v cs ∧ J xs W') ∨ (∃ pre, pre.map (·.2) <+: modelsIn v cs ∧ Jx pre W')) := by
  refine callsIn_of_wp Try.func72 rfl trivial ?_ rfl
  simp only [Try.ntmps72, List.size_toArray, List.length_cons, List.length_nil, Nat.reduceAdd, Nat.reduceSub, Array.replicate_succ, Array.replicate_zero, List.push_toArray, List.append_toArray, List.nil_append, List.cons_append]
  gi_wp2
  have hpow : 2 ^ v ≤ 65536 := Nat.pow_le_pow_right (n := 2) (by omega) hv
  have hpos : 0 < 2 ^ v := Nat.pow_pos (by omega)
  gi_loopw [4] (fun v4 wr => ∃ (k : Nat) (pre : List (Value × List Bool)), v4 = .bool (decide (k < 2 ^ v)) ∧ k ≤ 2 ^ v ∧ wr.heap[W.heap.size]? = some (.cells (bits (counted v k ++ List.replicate (16 - v) false)) 84 (0, 0)) ∧ pre.map (·.2) = modelsTo v cs k ∧ J pre wr ∧ Src v cs Bg base0 ok A cap wr)
    (fun v4 wr => match v4 with | .bool true => 2 ^ v - numAt wr W.heap.size v | _ => 0)
  case atStart =>
    refine ⟨0, [], by simp [hpos], Nat.zero_le _, ?_, by simp [modelsTo], hJ _ _ _ none h0 (World.grownBy_alloc W _ none) (fun r e => by cases e), hSrc.keep ((Below.refl _ _).alloc (Nat.le_refl _) _)⟩
    have e : bits (counted v 0 ++ List.replicate (16 - v) false) = (List.replicate 16 (Value.bool false)).toArray := by
      rw [counted_zero, List.replicate_append_replicate, show v + (16 - v) = 16 by omega]
      unfold bits
      rw [List.map_replicate]
    rw [e]
    exact blk_new _ _
  case round =>
    obtain ⟨k, pre, rfl, hk, hb, hpre, hJs, hsrc⟩ := hrel
    by_cases hlt : k < 2 ^ v
    · have hd : decide (k < 2 ^ v) = true := decide_eq_true hlt
      have hl16 : (counted v k ++ List.replicate (16 - v) false).length = 16 := by rw [List.length_append, counted_length, List.length_replicate]; omega
      have htk : (counted v k ++ List.replicate (16 - v) false).take v = counted v k := by rw [List.take_append_of_le_length (by rw [counted_length]; omega), List.take_of_length_le (by rw [counted_length]; omega)]
      have hC := bits_C hb (v := v) (by omega) (by omega)
      rw [htk] at hC
      have g0 := (blk_cell hsrc.hg 0).trans rfl
      have g1 := (blk_cell hsrc.hg 1).trans rfl
      have hv1 : (0 : Int) ≤ (v : Int) := by omega
      have hv2 : (v : Int) ≤ 16 := by omega
      rw [hd]
      have hmx : Try.prog.follows .mixedOrders = true := by kernel_rfl
      have HALL := fun W' h0 h1 => allIn_calls (v : Int) A (some ⟨W.heap.size, 0, none⟩) cap 16 cs (counted v k) W' h0 (Kd.S_reads' hsrc.hc).2.1 h1 (by rw [counted_length]; omega) (by rw [counted_length]) (fun c hc => by unfold isFormula at hf; rw [Bool.and_eq_true, List.all_eq_true] at hf; exact hf.2 c hc) hcn hcs
      rw [counted_length] at HALL hC
      have HA := Aside0.mk HALL
      have HCB := Aside0.mk hC
      have HSRC := Aside0.mk hsrc
      clear HALL hC
      gi_wp2
      gi_region_with_o (refine ⟨trivial, ?_⟩; (with_reducible refine (callsIn_wide.2 (HA.out _ ?hc0 ?hc1)).mono ?_); (case hc0 => first | exact (Kd.S_reads' HSRC.out.hc).2.2 | exact Kd.C_drew (Kd.S_reads' HSRC.out.hc).2.2 | exact Kd.C_drewN (Kd.S_reads' HSRC.out.hc).2.2 _); (case hc1 => first | exact HCB.out | exact Kd.C_drew HCB.out | exact Kd.C_drewN HCB.out _); rintro e w5 ⟨rfl, hb5⟩)
      all_goals
        have hb5' : Below wr.heap.size wr w5 := by first | exact hb5 | exact below_step (below_drew (Below.refl _ _)) hb5 | exact below_step (below_drew (below_drew (Below.refl _ _))) hb5
        clear hb5
        have hJ5 := hJ _ _ _ none hJs (grown_of_below hb5' none) (fun r e => by cases e)
        have hb5 := blk_below hb hb5'
        have hsrc5 := hsrc.keep hb5'
        have HNA : Aside0 (numAt wr W.heap.size v = k) := ⟨by rw [numAt_bits hb, htk, num_counted v k hlt]⟩
        clear g0 g1 hJs hb hsrc HSRC HCB HA hb5'
        have g0 := (blk_cell hsrc5.hg 0).trans rfl
        have g1 := (blk_cell hsrc5.hg 1).trans rfl
        have hnx := next_counted v k (List.replicate (16 - v) false) hlt
        have hmt := modelsTo_succ v cs k
        cases hall : allIn cs (counted v k) with
        | false =>
          rw [hall] at hmt
          simp only [Bool.false_eq_true, if_false, List.append_nil] at hmt
          gi_wp2
          refine ⟨trivial, ?_⟩
          (with_reducible refine (callsIn_wide.2 (next_calls W.heap.size v _ w5 hl16 hv hb5)).mono ?_)
          rintro e w6 ⟨rfl, hb6, hg6⟩
          rw [hnx] at hb6 ⊢
          have hJ6 := hJ _ _ _ (some W.heap.size) hJ5 hg6 (fun r e => by cases e; rfl)
          gi_wp2
          go_roundw
          case rel => exact ⟨k + 1, pre, rfl, hlt, hb6, by rw [hpre, hmt], hJ6, hsrc5.grown hg6 hb5⟩
          case measure => exact down hlt HNA.out hb6
        | true =>
          rw [hall] at hmt
          simp only [if_true] at hmt
          obtain ⟨b0, b1, b2, b3, b4, b5, b6, b7, b8, b9, b10, b11, b12, b13, b14, b15, hm16⟩ := sixteen _ hl16
          have HM16 := Aside0.mk hm16
          rw [hm16] at hb5
          have hb5' : w5.heap[W.heap.size]? = some (.cells #[.bool b0, .bool b1, .bool b2, .bool b3, .bool b4, .bool b5, .bool b6, .bool b7, .bool b8, .bool b9, .bool b10, .bool b11, .bool b12, .bool b13, .bool b14, .bool b15] 84 (0, 0)) := hb5
          have q0 := (blk_cell hb5' 0).trans rfl
          have q1 := (blk_cell hb5' 1).trans rfl
          have q2 := (blk_cell hb5' 2).trans rfl
          have q3 := (blk_cell hb5' 3).trans rfl
          have q4 := (blk_cell hb5' 4).trans rfl
          have q5 := (blk_cell hb5' 5).trans rfl
          have q6 := (blk_cell hb5' 6).trans rfl
          have q7 := (blk_cell hb5' 7).trans rfl
          have q8 := (blk_cell hb5' 8).trans rfl
          have q9 := (blk_cell hb5' 9).trans rfl
          have q10 := (blk_cell hb5' 10).trans rfl
          have q11 := (blk_cell hb5' 11).trans rfl
          have q12 := (blk_cell hb5' 12).trans rfl
          have q13 := (blk_cell hb5' 13).trans rfl
          have q14 := (blk_cell hb5' 14).trans rfl
          have q15 := (blk_cell hb5' 15).trans rfl
          have hsrc6 := hsrc5.keep (below_alloc (Below.refl _ _) (.cells #[.bool b0, .bool b1, .bool b2, .bool b3, .bool b4, .bool b5, .bool b6, .bool b7, .bool b8, .bool b9, .bool b10, .bool b11, .bool b12, .bool b13, .bool b14, .bool b15] 84 (0, 0)))
          have g06 := (blk_cell hsrc6.hg 0).trans rfl
          have HJ6 := Aside0.mk (hJ _ _ _ none hJ5 (World.grownBy_alloc w5 (.cells #[.bool b0, .bool b1, .bool b2, .bool b3, .bool b4, .bool b5, .bool b6, .bool b7, .bool b8, .bool b9, .bool b10, .bool b11, .bool b12, .bool b13, .bool b14, .bool b15] 84 (0, 0)) none) (fun r e => by cases e))
          have HB6 := Aside0.mk (blk_alloc hb5 (.cells #[.bool b0, .bool b1, .bool b2, .bool b3, .bool b4, .bool b5, .bool b6, .bool b7, .bool b8, .bool b9, .bool b10, .bool b11, .bool b12, .bool b13, .bool b14, .bool b15] 84 (0, 0)))
          have hnew : ((w5.alloc (.cells #[.bool b0, .bool b1, .bool b2, .bool b3, .bool b4, .bool b5, .bool b6, .bool b7, .bool b8, .bool b9, .bool b10, .bool b11, .bool b12, .bool b13, .bool b14, .bool b15] 84 (0, 0)))).heap[w5.heap.size]? = some (.cells (bits [b0, b1, b2, b3, b4, b5, b6, b7, b8, b9, b10, b11, b12, b13, b14, b15]) 84 (0, 0)) := blk_new _ _
          rw [← hm16] at hnew
          have HNW : Aside0 (∀ j u, ((counted v k).map Value.bool)[j]? = some u → ((w5.alloc (.cells #[.bool b0, .bool b1, .bool b2, .bool b3, .bool b4, .bool b5, .bool b6, .bool b7, .bool b8, .bool b9, .bool b10, .bool b11, .bool b12, .bool b13, .bool b14, .bool b15] 84 (0, 0)))).cell? ((⟨w5.heap.size, 0, none⟩ : Addr).add j) = some u) := ⟨fun j u hu => by
            have hj : j < v := by
              have := (List.getElem?_eq_some_iff.1 hu).1
              simpa [counted_length] using this
            have e : (⟨w5.heap.size, 0, none⟩ : Addr).add j = ⟨w5.heap.size, j, none⟩ := by simp [Addr.add]; try omega
            rw [e]
            refine (blk_cell hnew j).trans ?_
            rw [← hu]
            unfold bits
            rw [List.getElem?_toArray, List.map_append, List.getElem?_append_left (by simp [counted_length]; exact hj)]⟩
          have HSRC6 := Aside0.mk hsrc6
          have HSZ := Aside0.mk (blk_lt HB6.out)
          have HL : Aside0 (pre.length < 65536) := ⟨by have h1 := congrArg List.length hpre; have h2 := modelsTo_length v cs k; rw [List.length_map] at h1; omega⟩
          clear hm16 hnew hsrc6 hJ5
          obtain ⟨i0, hi, hz0, hz1, hz2⟩ := info_parts infoB
          have HV : Aside0 (v ≤ 16) := ⟨hv⟩
          gi_wp2_with (gi_at_builtin; (refine wpListIn_append_own _ rfl _ _ 41 rfl (w5.heap.size + 1) 4 i0 (.bool false) 1 1 Try.underlying41 hi hz0 hz1 hz2 rfl (by decide) (.slice none 0 0) 0 [] rfl (World.ownsRow_nil _ _ _ _) ⟨w5.heap.size, 0, none⟩ v 16 ((counted v k).map Value.bool) rfl (by simp [counted_length]) HNW.out (fun u hu => by obtain ⟨b, _, rfl⟩ := List.mem_map.1 hu; rfl) (by have := HV.out; unfold maxLen; omega) (by have := HV.out; omega) (by simp) ?_; intro v7 w7 hown hgrow _; have HJ7 := Aside0.mk (hJ _ _ _ none HJ6.out hgrow (fun r e => by cases e)); have HB7 := Aside0.mk (blk_grown HB6.out hgrow (by simp [Value.ownBlock])); have HSRC7 := Aside0.mk (HSRC6.out.keep (below_grown_none hgrow)); obtain ⟨fn, tmps, assign, body, hy, hR⟩ := hY pre (v7, counted v k) _ w7 HJ6.out HJ7.out (below_grown_none hgrow) HSZ.out (counted_length v k) (by simpa [OwnBools, counted_length, World.size_alloc] using hown) HL.out))
          refine hR.mono ?_
          rintro e w8 (⟨rfl, hJ8, hk8⟩ | ⟨rfl, hJx8⟩)
          · have hb8 := hk8.2 _ _ (.inl rfl) HB7.out
            have hsrc8 := HSRC7.out.keptD hk8 (.inr (.inl rfl)) (fun _ h => .inr (.inr h))
            have g08 := (blk_cell hsrc8.hg 0).trans rfl
            rw [← HM16.out] at hb8
            clear g06 hy hR hown hgrow q0 q1 q2 q3 q4 q5 q6 q7 q8 q9 q10 q11 q12 q13 q14 q15
            gi_wp2
            refine ⟨trivial, ?_⟩
            (with_reducible refine (callsIn_wide.2 (next_calls W.heap.size v _ w8 hl16 hv hb8)).mono ?_)
            rintro e w9 ⟨rfl, hb9, hg9⟩
            rw [hnx] at hb9 ⊢
            have hJ9 := hJ _ _ _ (some W.heap.size) hJ8 hg9 (fun r e => by cases e; rfl)
            gi_wp2
            go_roundw
            case rel => exact ⟨k + 1, pre ++ [(v7, counted v k)], rfl, hlt, hb9, by rw [List.map_append, hpre, hmt]; rfl, hJ9, hsrc8.grown hg9 hb8⟩
            case measure => exact down hlt HNA.out hb9
          · gi_wp2
            refine bodyPost_ret (results_none rfl _ _ _) rfl ?_
            refine ⟨⟨_, rfl⟩, .inr ⟨pre ++ [(v7, counted v k)], ?_, hJx8⟩⟩
            have e : (pre ++ [(v7, counted v k)]).map (·.2) = modelsTo v cs (k + 1) := by rw [List.map_append, hpre, hmt]; rfl
            rw [e]
            exact modelsTo_prefix v cs hlt
    · have hd : decide (k < 2 ^ v) = false := decide_eq_false hlt
      obtain rfl : k = 2 ^ v := by omega
      rw [hd]
      gi_wp2
      go_end0
      exact ⟨⟨_, rfl⟩, .inl ⟨pre, hpre, hJs⟩⟩

/-- what is handed out: so many truths in a new row, none of the iterator's blocks -/
def HandB (v : Nat) (A : World) (M : Nat → Prop) (p : Value × List Bool) (W : World) : Prop := p.2.length = v ∧ OwnBools W A.heap.size p.1 p.2 ∧ ∀ k, p.1.ownBlock = some k → ¬ M k
theorem HandB.move {v : Nat} (A : World) (M M' : Nat → Prop) (p : Value × List Bool) (W W' : World) (h : HandB v A M p W) (hM : ∀ k, M' k → M k ∨ k < A.heap.size) (hW : ∀ k cs t z, A.heap.size ≤ k → W.heap[k]? = some (.cells cs t z) → W'.heap[k]? = some (.cells cs t z)) : HandB v A M' p W' := by
  obtain ⟨h0, h1, h2⟩ := h
  have hb : ∀ k, p.1.ownBlock = some k → A.heap.size ≤ k ∧ W'.heap[k]? = W.heap[k]? := fun k hk => by
    rcases h1.2 with ⟨e, _⟩ | ⟨g, cap, cur, e, hg, hc, _⟩
    · rw [e] at hk; simp [Value.ownBlock] at hk
    · rw [e] at hk
      simp [Value.ownBlock] at hk
      subst hk
      exact ⟨hg, (hW g _ _ _ hg hc).trans hc.symm⟩
  refine ⟨h0, own_move h1 fun k hk => (hb k hk).2, fun k hk h4 => ?_⟩
  rcases hM k h4 with h5 | h5
  · exact h2 k hk h5
  · have := (hb k hk).1
    omega
theorem models_own (n : Nat) (hn : 1 ≤ n) (v : Nat) (cs : List (List Int)) (Bg base0 : Nat) (ok : Nat → Prop) (A : Option Addr) (cap : Nat) (hv : v ≤ 16) (hf : isFormula (v : Int) cs = true) (hcn : cs.length ≤ 17592186044416) (hcs : ∀ c ∈ cs, c.length ≤ 17592186044416)
    (w : World) (hSrc : Src v cs Bg base0 ok A cap w) :
    SeqD Fence.wide n Try.prog 72 #[.pointer (some ⟨Bg, 0, none⟩)] (fun x : Value × List Bool => #[x.1]) (HandB v) (fun k => k = Bg ∨ ok k) (fun xs => xs.map (·.2) = modelsIn v cs) (fun pre => pre.map (·.2) <+: modelsIn v cs) 65536 w := by
  intro l J Jx W hW hJ hJx hY h0
  refine (models2_own_in n hn l v cs Bg base0 ok A cap hv hf hcn hcs
    (fun s V => ∃ M, J M s V ∧ (∀ k, M k → W.heap.size ≤ k ∧ k < V.heap.size) ∧ (M W.heap.size ∨ V.heap.size ≤ W.heap.size))
    (fun s V => ∃ M, Jx M s V) W ?_ (hSrc.keep hW) ?_ ⟨_, h0, fun _ h => h.elim, .inr (Nat.le_refl _)⟩).mono ?_
  · rintro s V V' row ⟨M, h1, h2, h3⟩ hg hr
    have hgr : Grow M V V' := ⟨hg.os, hg.tape, hg.output, hg.size, fun k hk hn => hg.block k hk (fun e => by
      have e2 := hr k e.symm
      subst e2
      rcases h3 with h3 | h3
      · exact hn h3
      · omega)⟩
    refine ⟨fun k => M k ∨ (k = W.heap.size ∧ W.heap.size < V'.heap.size ∧ V.heap.size ≤ W.heap.size), hJ _ _ _ _ _ h1 hgr (fun k hk => ?_), fun k hk => ?_, ?_⟩
    · rcases hk with hk | ⟨rfl, h4, h5⟩
      · exact .inl hk
      · exact .inr ⟨h5, h4⟩
    · rcases hk with hk | ⟨rfl, h4, h5⟩
      · have := h2 k hk
        have := hg.size
        exact ⟨by omega, by omega⟩
      · exact ⟨Nat.le_refl _, h4⟩
    · rcases h3 with h3 | h3
      · exact .inl (.inl h3)
      · rcases Nat.lt_or_ge W.heap.size V'.heap.size with h4 | h4
        · exact .inl (.inr ⟨rfl, h4, h3⟩)
        · exact .inr h4
  · rintro pre x A0 W1 ⟨M, h1, h2, h3⟩ _ hb hlt hl ho hN
    have hMW : M W.heap.size := h3.resolve_right (by omega)
    refine YieldAt.mono (hY M M pre x A0 W1 h1 (Grow.of_below hb) (More.refl _ _ _) (fun _ h => h) ⟨hl, ho, fun k hk hM => by have := own_base ho k hk; have := h2 k hM; omega⟩ hN) ?_
    rintro e W' (⟨rfl, hj, hk⟩ | ⟨rfl, hj, hk⟩)
    · refine .inl ⟨rfl, ⟨M, hj, fun k hM => ⟨(h2 k hM).1, ?_⟩, .inl hMW⟩, hk.mono ?_⟩
      · have := (h2 k hM).2
        have := hb.size
        have := hk.1
        omega
      · rintro k (rfl | h)
        · exact .inl hMW
        · exact .inr h
    · exact .inr ⟨rfl, M, hj⟩
  · rintro e W' ⟨h1, (⟨xs, h2, M, h3, _⟩ | ⟨pre, h2, M, h3⟩)⟩
    · exact ⟨h1, M, .inl ⟨xs, h2, h3⟩⟩
    · exact ⟨h1, M, .inr ⟨pre, h2, h3⟩⟩
/-- an iterator over nothing -/
theorem nothing_own (n v : Nat) (Rd : Nat → Prop) (w : World) :
    SeqD Fence.wide n Try.prog 71 #[] (fun x : Value × List Bool => #[x.1]) (HandB v) Rd (fun xs => xs.map (·.2) = []) (fun pre => False) 65536 w := by
  intro l J Jx W hW hJ hJx hY h0
  refine callsIn_wide.2 ((callsIn_wide (n := 6)).1 ?_)
  refine callsIn_of_wp Try.func71 rfl trivial ?_ rfl
  simp only [Try.ntmps71, List.size_toArray, List.length_cons, List.length_nil, Nat.reduceAdd, Nat.reduceSub, Array.replicate_succ, Array.replicate_zero, List.push_toArray, List.append_toArray, List.nil_append, List.cons_append]
  have H := Aside0.mk h0
  clear h0 hY hJ hJx
  gi_wp2
  go_end0
  exact ⟨⟨_, rfl⟩, _, .inl ⟨[], rfl, H.out⟩⟩
end Go.Proofs.YtggnnnddnppcpaaHand
/-! text YtggnnnddnppcpaaSumsMod -/

