/- A range over a function whose iterator has blocks of its own, which it may turn, and which no round may turn: M says which blocks are the iterator's. The contract of such an iterator, and the law for the loop over it. (The proof goes by the steps of the kit's law wpIn_rangeFunc_ownG; what is new: M, and what is handed over.) -/
import Derived.RangeFuncWrites
import Derived.RangeFuncCalls
import Derived.Test.YtkkkbcjmkmadhaaWWords
import Derived.Maps.AppendAt
/-! text YtkkkbcjmkmadhaaRangeOwn -/
namespace Go.Proofs.YtkkkbcjmkmadhaaOwn
open Go Go.RowKit
set_option linter.unusedVariables false
variable {F : Fence} {n : Nat} {P : Program}

/-- from A to B: new blocks, and turns of blocks of M alone -/
structure Grow (M : Nat → Prop) (A B : World) : Prop where
  os : B.os = A.os
  tape : B.tape = A.tape
  output : B.output = A.output
  size : A.heap.size ≤ B.heap.size
  block : ∀ k, k < A.heap.size → ¬ M k → B.heap[k]? = A.heap[k]?
theorem Grow.refl (M : Nat → Prop) (A : World) : Grow M A A := ⟨rfl, rfl, rfl, Nat.le_refl _, fun _ _ _ => rfl⟩
theorem Grow.trans {M M' : Nat → Prop} {A B C : World} (h : Grow M A B) (k : Grow M' B C) (hM : ∀ k, M' k → M k ∨ A.heap.size ≤ k) : Grow M A C :=
  ⟨k.os.trans h.os, k.tape.trans h.tape, k.output.trans h.output, Nat.le_trans h.size k.size, fun i hi hn => (k.block i (Nat.lt_of_lt_of_le hi h.size) (fun e => by rcases hM i e with h | h; exact hn h; omega)).trans (h.block i hi hn)⟩
theorem Grow.mono {M M' : Nat → Prop} {A B : World} (h : Grow M A B) (hM : ∀ k, M k → M' k) : Grow M' A B := ⟨h.os, h.tape, h.output, h.size, fun k hk hn => h.block k hk (fun e => hn (hM k e))⟩
theorem Grow.of_grownBy {M : Nat → Prop} {A B : World} {row : Option Nat} (h : A.grownBy B row) (hr : ∀ r, row = some r → M r) : Grow M A B := ⟨h.os, h.tape, h.output, h.size, fun k hk hn => h.block k hk (fun e => hn (hr k e.symm))⟩
theorem Grow.of_below {M : Nat → Prop} {A B : World} (h : Below A.heap.size A B) : Grow M A B := ⟨h.os, h.tape, h.output, h.size, fun k hk _ => h.block k hk⟩
theorem Grow.put {M : Nat → Prop} {A : World} {l : Nat} (o : Obj) (h : M l) : Grow M A (A.putObj l o) := Grow.of_grownBy (grownBy_putObj' A l o) (fun r e => by cases e; exact h)
theorem Grow.below {M : Nat → Prop} {A B : World} {n₀ : Nat} (h : Grow M A B) (hn : n₀ ≤ A.heap.size) (hM : ∀ k, M k → n₀ ≤ k) : Below n₀ A B := ⟨h.os, h.tape, h.output, h.size, fun k hk => h.block k (Nat.lt_of_lt_of_le hk hn) (fun e => Nat.not_le_of_lt hk (hM k e))⟩
/-- M's blocks lie as they lay -/
def KeptD (M : Nat → Prop) (A B : World) : Prop := A.heap.size ≤ B.heap.size ∧ ∀ k o, M k → A.heap[k]? = some o → B.heap[k]? = some o
theorem KeptD.refl (M : Nat → Prop) (A : World) : KeptD M A A := ⟨Nat.le_refl _, fun _ _ _ h => h⟩
theorem KeptD.trans {M : Nat → Prop} {A B C : World} (h : KeptD M A B) (k : KeptD M B C) : KeptD M A C := ⟨Nat.le_trans h.1 k.1, fun i o hi ho => k.2 i o hi (h.2 i o hi ho)⟩
theorem KeptD.mono {M M' : Nat → Prop} {A B : World} (h : KeptD M A B) (hM : ∀ k, M' k → M k) : KeptD M' A B := ⟨h.1, fun k o hk ho => h.2 k o (hM k hk) ho⟩
theorem KeptD.of_below {M : Nat → Prop} {A B : World} (h : Below A.heap.size A B) : KeptD M A B := ⟨h.size, fun k o _ ho => (h.block k (Array.getElem?_eq_some_iff.1 ho).1).trans ho⟩
theorem KeptD.setCell {M : Nat → Prop} {A : World} {p : Addr} (h : ¬ M p.block) (u : Value) : KeptD M A (A.setCell p u) :=
  ⟨((Below.refl 0 A).setCell (p := p) (Nat.zero_le _) u).size, fun k o hk ho => (Below.heap_setCell A p u k (fun e => h (by rw [← e]; exact hk))).trans ho⟩
theorem KeptD.of_grownBy {M : Nat → Prop} {A B : World} {row : Option Nat} (h : A.grownBy B row) (hr : ∀ r, row = some r → ¬ M r) : KeptD M A B :=
  ⟨h.size, fun k o hk ho => (h.block k (Array.getElem?_eq_some_iff.1 ho).1 (fun e => hr k e.symm hk)).trans ho⟩
theorem KeptD.alloc {M : Nat → Prop} (A : World) (o : Obj) : KeptD M A (A.alloc o) := KeptD.of_grownBy (World.grownBy_alloc A o none) (fun r e => by cases e)
/-- M and what is new from A to B -/
def More (M : Nat → Prop) (A B : World) (M1 : Nat → Prop) : Prop := ∀ k, M1 k → M k ∨ (A.heap.size ≤ k ∧ k < B.heap.size)
theorem More.refl (M : Nat → Prop) (A B : World) : More M A B M := fun _ h => .inl h
/-- what a caller holds may go on, whatever the iterator lays and turns of its own -/
def OwnD {β : Type} (I : (Nat → Prop) → β → World → Prop) : Prop := ∀ M M1 s A B, I M s A → Grow M A B → More M A B M1 → I M1 s B
/-- the iterator's contract: Rd: the blocks that it reads and never turns -/
def SeqD {α : Type} (F : Fence) (n : Nat) (P : Program) (g : Nat) (lb : Array Value) (encs : α → Array Value) (Hd : World → (Nat → Prop) → α → World → Prop) (Rd : Nat → Prop) (S Sp : List α → Prop) (N : Nat) (w : World) : Prop :=
  ∀ (l : Nat) (J Jx : (Nat → Prop) → List α → World → Prop) (W : World), Below w.heap.size w W → OwnD J → OwnD Jx →
    (∀ M M1 pre x A W1, J M pre A → Grow M A W1 → More M A W1 M1 → (∀ k, M k → M1 k) → Hd A M1 x W1 → pre.length < N → YieldAt F (n - 1) P l (encs x) W1 fun e W' =>
      (e = .returned (.bool true) ∧ J M1 (pre ++ [x]) W' ∧ KeptD (fun k => M1 k ∨ Rd k) W1 W') ∨ (e = .returned (.bool false) ∧ Jx M1 (pre ++ [x]) W' ∧ KeptD (fun k => M1 k ∨ Rd k) W1 W')) →
    J (fun _ => False) [] W →
    CallsIn F n P g (#[.func (.yield l) #[] #[]] ++ lb) W fun e W' => (∃ v, e = .returned v) ∧ ∃ M, ((∃ xs, S xs ∧ J M xs W') ∨ (∃ pre, Sp pre ∧ Jx M pre W'))
/-- what a body has to show -/
def ownPostD {β : Type} (Rd M : Nat → Prop) (I : (Nat → Prop) → β → World → Prop) (Ix : Code → (Nat → Prop) → β → World → Prop) (s : β) (W : World) : Exit → Act → World → Prop
  | .normal, _, W' => KeptD (fun k => M k ∨ Rd k) W W' ∧ I M s W'
  | .ret, _, W' => KeptD (fun k => M k ∨ Rd k) W W' ∧ Ix .ret M s W'
  | .exit id, _, W' => KeptD (fun k => M k ∨ Rd k) W W' ∧ Ix (.exit id) M s W'
  | .goto t, _, W' => KeptD (fun k => M k ∨ Rd k) W W' ∧ Ix (.goto t) M s W'
  | _, _, _ => False
/-- a record's two blocks beside M -/
def With (B : Nat) (M : Nat → Prop) (k : Nat) : Prop := M k ∨ k = B ∨ k = B + 1

theorem wpIn_range_own {α : Type} {g : Operand} {ps : Array Tmp} {assign body : Code} {Q : Exit → Act → World → Prop} {a : Act} {w : World}
    (h1 : 1 ≤ n) {gf : Nat} {lb : Array Value} (hro : F.round = none) (hg : a.eval g = .func (.func gf) #[] lb) (hFg : F.fn gf) (eg : ∀ args w, (callFunc gf args).run P w = .ok (.enter gf args) w)
    {encs : α → Array Value} {Hd : World → (Nat → Prop) → α → World → Prop} {Rd : Nat → Prop} {S Sp : List α → Prop} {N : Nat} {w0 : World} (hseq : SeqD F (n - 1) P gf lb encs Hd Rd S Sp N w0)
    (hHd : ∀ A M M' x W W', Hd A M x W → (∀ k, M' k → M k ∨ k < A.heap.size) → (∀ k cs t z, A.heap.size ≤ k → W.heap[k]? = some (.cells cs t z) → W'.heap[k]? = some (.cells cs t z)) → Hd A M' x W')
    (hRd : ∀ k, Rd k → k < w0.heap.size) (hb0 : Below w0.heap.size w0 w) (hps : ∀ x, (encs x).size = ps.size)
    (I : (Nat → Prop) → List α → World → Prop) (Ix : Code → (Nat → Prop) → List α → World → Prop) (hI : OwnD I) (hIx : ∀ c, OwnD (Ix c)) (h0 : I (fun _ => False) [] w) (a₁ : α → Act)
    (hassign : ∀ (l : Nat) (x : α) (W : World) (K : Act → World → Prop), K (a₁ x) W →
      assign.wpIn (F.inRound l) (n - 1 - 1) P (Exit.then K (fun _ _ _ => False)) { tmps := (ps.zip (encs x)).foldl (fun t (p, v) => t.setIfInBounds p v) a.tmps, defers := [] } W)
    (hbody : ∀ (l : Nat) (M M1 : Nat → Prop) (pre : List α) (x : α) (A W : World), I M pre A → Grow M A W → More M A W M1 → (∀ k, M k → M1 k) → M w.heap.size → M (w.heap.size + 1) → w.heap.size + 2 ≤ A.heap.size → Hd A M1 x W → pre.length < N → body.wpIn (F.inRound l) (n - 1 - 1) P (ownPostD Rd M1 I Ix (pre ++ [x]) W) (a₁ x) W)
    (hdone : ∀ (M : Nat → Prop) (xs : List α) (W : World), M w.heap.size → S xs → I M xs W → W.heap[w.heap.size]? = some (.deferred (some [])) → Q .normal { a with defers := { target := .collected w.heap.size, args := #[] } :: a.defers } W)
    (hstop : ∀ (M : Nat → Prop) (c : Code) (pre : List α) (W : World), M w.heap.size → Sp pre → Ix c M pre W → W.heap[w.heap.size]? = some (.deferred (some [])) → c.wpIn F n P Q { a with defers := { target := .collected w.heap.size, args := #[] } :: a.defers } W) :
    (Code.rangeFunc g ps assign body).wpIn F n P Q a w := by
  refine wpIn_rangeFunc ?_
  intro fn hfn
  rw [hro]
  obtain ⟨rec, hrec⟩ : ∃ rec : LoopState → Option Code → Loop, rec = fun st pe => { state := st, pending := pe, fn, tmps := a.tmps, params := ps, assign, body, defers := w.heap.size } := ⟨_, rfl⟩
  obtain ⟨W1, hW1⟩ : ∃ W1, (w.alloc (.deferred (some []))).alloc (.loop (rec .ready none)) = W1 := ⟨_, rfl⟩
  have hz1 : W1.heap.size = w.heap.size + 2 := by rw [← hW1]; simp
  have hL1 : W1.heap[w.heap.size + 1]? = some (.loop (rec .ready none)) := by
    rw [← hW1]
    have := World.alloc_heap_new (w.alloc (.deferred (some []))) (.loop (rec .ready none))
    rwa [World.size_alloc] at this
  have hK1 : W1.heap[w.heap.size]? = some (.deferred (some [])) := by
    rw [← hW1]
    exact (Below.heap_alloc _ _ _ (by simp)).trans (World.alloc_heap_new w _)
  have hG1 : Below w.heap.size w W1 := by rw [← hW1]; exact ((Below.refl _ w).alloc (Nat.le_refl _) _).alloc (by simp) _
  have hb1 : Below w0.heap.size w0 W1 := hb0.trans (hG1.mono hb0.size)
  have hRlt : ∀ k, Rd k → k < w.heap.size := fun k hk => Nat.lt_of_lt_of_le (hRd k hk) hb0.size
  have hI1 : I (With w.heap.size (fun _ => False)) [] W1 := hI _ _ _ _ _ h0 (Grow.of_below hG1) (fun k hk => by rcases hk with h | h | h; exact .inl h; exact .inr (by omega); exact .inr (by omega))
  refine ⟨w.heap.size + 1, [{ target := .collected w.heap.size, args := #[] }], W1, { target := .fn (.func gf) lb, args := #[.func (.yield (w.heap.size + 1)) #[] #[]] }, W1, gf,
    #[.func (.yield (w.heap.size + 1)) #[] #[]] ++ lb, W1, ?_, ?_, ?_, ?_, fun _ => h1, ?_⟩
  · rw [← hW1, hrec]; exact run_enterLoop_outer _ _ _ _ _
  · simp only [resolve, hg]
    simp [go_sem]
  · intro f' hf'
    simp [Target.leads] at hf'
    subst hf'
    exact hFg
  · simp [invoke, go_sem, eg]
  · refine (hseq (w.heap.size + 1)
      (fun M pre W => I (With w.heap.size M) pre W ∧ W.heap[w.heap.size + 1]? = some (.loop (rec .ready none)) ∧ W.heap[w.heap.size]? = some (.deferred (some [])) ∧ ¬ M w.heap.size ∧ ¬ M (w.heap.size + 1))
      (fun M pre W => ∃ c, Ix c (With w.heap.size M) pre W ∧ W.heap[w.heap.size + 1]? = some (.loop (rec .done (some c))) ∧ W.heap[w.heap.size]? = some (.deferred (some [])) ∧ ¬ M w.heap.size ∧ ¬ M (w.heap.size + 1))
      W1 hb1 ?_ ?_ ?_ ⟨hI1, hL1, hK1, fun h => h, fun h => h⟩).mono ?_
    · rintro M M1 s A B ⟨hi, hl, hk, n1, n2⟩ hg' hm
      have l1 := (Array.getElem?_eq_some_iff.1 hl).1
      have l2 := (Array.getElem?_eq_some_iff.1 hk).1
      refine ⟨hI _ _ _ _ _ hi (hg'.mono fun k h => .inl h) (fun k h => ?_), (hg'.block _ l1 n2).trans hl, (hg'.block _ l2 n1).trans hk, fun h => ?_, fun h => ?_⟩
      · rcases h with h | h
        · rcases hm k h with h | h
          · exact .inl (.inl h)
          · exact .inr h
        · exact .inl (.inr h)
      · rcases hm _ h with h | h
        · exact n1 h
        · omega
      · rcases hm _ h with h | h
        · exact n2 h
        · omega
    · rintro M M1 s A B ⟨c, hi, hl, hk, n1, n2⟩ hg' hm
      have l1 := (Array.getElem?_eq_some_iff.1 hl).1
      have l2 := (Array.getElem?_eq_some_iff.1 hk).1
      refine ⟨c, hIx c _ _ _ _ _ hi (hg'.mono fun k h => .inl h) (fun k h => ?_), (hg'.block _ l1 n2).trans hl, (hg'.block _ l2 n1).trans hk, fun h => ?_, fun h => ?_⟩
      · rcases h with h | h
        · rcases hm k h with h | h
          · exact .inl (.inl h)
          · exact .inr h
        · exact .inl (.inr h)
      · rcases hm _ h with h | h
        · exact n1 h
        · omega
      · rcases hm _ h with h | h
        · exact n2 h
        · omega
    · rintro M M1 pre x A W ⟨hi, hlA, hkA, n1, n2⟩ hgr hm hsub hx hlen
      have l1 := (Array.getElem?_eq_some_iff.1 hlA).1
      have l2 := (Array.getElem?_eq_some_iff.1 hkA).1
      have hl := (hgr.block _ l1 n2).trans hlA
      have hk := (hgr.block _ l2 n1).trans hkA
      have m1 : ¬ M1 w.heap.size := fun h => by rcases hm _ h with h | h; exact n1 h; omega
      have m2 : ¬ M1 (w.heap.size + 1) := fun h => by rcases hm _ h with h | h; exact n2 h; omega
      have hlt : w.heap.size + 1 < W.heap.size := (Array.getElem?_eq_some_iff.1 hl).1
      have hy := run_yield (P := P) (args := encs x) hl (by rw [hrec]; exact hps x)
      rw [hrec] at hy
      refine ⟨fn, _, assign, body, hy, roundIn_of_wpIn hfn (hassign _ x W _ ⟨_, run_beginRound hl (by rw [hrec]), ?_⟩)⟩
      have hl2 : (W.putObj (w.heap.size + 1) (.loop { rec .ready none with state := .busy })).heap[w.heap.size + 1]? = some (.loop { rec .ready none with state := .busy }) := World.putObj_heap_same hlt
      have hk2 : (W.putObj (w.heap.size + 1) (.loop { rec .ready none with state := .busy })).heap[w.heap.size]? = some (.deferred (some [])) := (World.putObj_heap_other (by omega)).trans hk
      have hgp : Grow (With w.heap.size M) A (W.putObj (w.heap.size + 1) (.loop { rec .ready none with state := .busy })) := (hgr.mono fun k h => .inl h).trans (Grow.put (M := With w.heap.size M) _ (.inr (.inr rfl))) (fun k h => .inl h)
      have hmp : More (With w.heap.size M) A (W.putObj (w.heap.size + 1) (.loop { rec .ready none with state := .busy })) (With w.heap.size M1) := fun k h => by
        rcases h with h | h
        · rcases hm k h with h | h
          · exact .inl (.inl h)
          · exact .inr ⟨h.1, Nat.lt_of_lt_of_le h.2 (grownBy_putObj' W _ _).size⟩
        · exact .inl (.inr h)
      have hxp : Hd A (With w.heap.size M1) x (W.putObj (w.heap.size + 1) (.loop { rec .ready none with state := .busy })) := hHd _ _ _ _ _ _ hx
        (fun k h => by rcases h with h | h; exact .inl h; exact .inr (by omega))
        (fun k cs t z hkk hcs => (World.putObj_heap_other (fun e => by subst e; rw [hl] at hcs; cases hcs)).trans hcs)
      refine wpIn_mono (hbody _ (With w.heap.size M) (With w.heap.size M1) pre x A _ hi hgp hmp (fun k h => by rcases h with h | h; exact .inl (hsub k h); exact .inr h) (.inr (.inl rfl)) (.inr (.inr rfl)) (by omega) hxp hlen) ?_
      have fin : ∀ (jump : Option Code) (W3 : World), KeptD (fun k => With w.heap.size M1 k ∨ Rd k) (W.putObj (w.heap.size + 1) (.loop { rec .ready none with state := .busy })) W3 →
          (Instr.endRound (w.heap.size + 1) jump).run P W3 = .ok (.bool jump.isNone) (W3.putObj (w.heap.size + 1) (.loop (rec (if jump.isNone then .ready else .done) jump))) ∧
          W3.heap[w.heap.size + 1]? = some (.loop { rec .ready none with state := .busy }) ∧
          (W3.putObj (w.heap.size + 1) (.loop (rec (if jump.isNone then .ready else .done) jump))).heap[w.heap.size + 1]? = some (.loop (rec (if jump.isNone then .ready else .done) jump)) ∧
          (W3.putObj (w.heap.size + 1) (.loop (rec (if jump.isNone then .ready else .done) jump))).heap[w.heap.size]? = some (.deferred (some [])) := fun jump W3 hk3 => by
        have hl3 := hk3.2 _ _ (.inl (.inr (.inr rfl))) hl2
        have := run_endRound (P := P) jump hl3
        rw [hrec] at this ⊢
        exact ⟨this, by rw [hrec] at hl3; exact hl3, World.putObj_heap_same (Array.getElem?_eq_some_iff.1 hl3).1, (World.putObj_heap_other (by omega)).trans (hk3.2 _ _ (.inl (.inr (.inl rfl))) hk2)⟩
      have left : ∀ (c : Code) (W3 : World), KeptD (fun k => With w.heap.size M1 k ∨ Rd k) (W.putObj (w.heap.size + 1) (.loop { rec .ready none with state := .busy })) W3 → Ix c (With w.heap.size M1) (pre ++ [x]) W3 → _ := fun c W3 hk3 hi3 => by
        obtain ⟨hr, hl3, hl4, hk4⟩ := fin (some c) W3 hk3
        have mr : ¬ (M1 (w.heap.size + 1) ∨ Rd (w.heap.size + 1)) := fun h => h.elim m2 (fun h => by have := hRlt _ h; omega)
        exact (⟨_, _, hr, .inr ⟨rfl, ⟨c, hIx c _ _ _ _ _ hi3 (Grow.put _ (.inr (.inr rfl))) (More.refl _ _ _), hl4, hk4, m1, m2⟩, ((KeptD.of_grownBy (grownBy_putObj' W _ _) (fun r e => by cases e; exact mr)).trans (hk3.mono fun k h => h.elim (fun h => .inl (.inl h)) .inr)).trans (KeptD.of_grownBy (grownBy_putObj' W3 _ _) (fun r e => by cases e; exact mr))⟩⟩ : ∃ v W4, (Instr.endRound (w.heap.size + 1) (some c)).run P W3 = .ok v W4 ∧ ((Ending.returned v = .returned (.bool true) ∧ (I (With w.heap.size M1) (pre ++ [x]) W4 ∧ W4.heap[w.heap.size + 1]? = some (.loop (rec .ready none)) ∧ W4.heap[w.heap.size]? = some (.deferred (some [])) ∧ ¬ M1 w.heap.size ∧ ¬ M1 (w.heap.size + 1)) ∧ KeptD (fun k => M1 k ∨ Rd k) W W4) ∨ (Ending.returned v = .returned (.bool false) ∧ (∃ c, Ix c (With w.heap.size M1) (pre ++ [x]) W4 ∧ W4.heap[w.heap.size + 1]? = some (.loop (rec .done (some c))) ∧ W4.heap[w.heap.size]? = some (.deferred (some [])) ∧ ¬ M1 w.heap.size ∧ ¬ M1 (w.heap.size + 1)) ∧ KeptD (fun k => M1 k ∨ Rd k) W W4)))
      rintro e a3 W3 hp
      cases e with
      | normal =>
        obtain ⟨hk3, hi3⟩ := hp
        obtain ⟨hr, hl3, hl4, hk4⟩ := fin none W3 hk3
        refine ⟨_, _, hr, .inl ⟨rfl, ⟨hI _ _ _ _ _ hi3 (Grow.put _ (.inr (.inr rfl))) (More.refl _ _ _), hl4, hk4, m1, m2⟩, ?_⟩⟩
        have mr : ¬ (M1 (w.heap.size + 1) ∨ Rd (w.heap.size + 1)) := fun h => h.elim m2 (fun h => by have := hRlt _ h; omega)
        refine ((KeptD.of_grownBy (grownBy_putObj' W _ _) (fun r e => by cases e; exact mr)).trans (hk3.mono fun k h => h.elim (fun h => .inl (.inl h)) .inr)).trans (KeptD.of_grownBy (grownBy_putObj' W3 _ _) (fun r e => by cases e; exact mr))
      | ret => exact left .ret W3 hp.1 hp.2
      | exit id => exact left (.exit id) W3 hp.1 hp.2
      | goto t => exact left (.goto t) W3 hp.1 hp.2
      | panic ch => exact hp.elim
      | outgrown => exact hp.elim
    · rintro e W2 ⟨⟨v, rfl⟩, M, (⟨xs, hS, hi, hl, hk, n1, n2⟩ | ⟨pre, hSp, c, hi, hl, hk, n1, n2⟩)⟩
      · exact ⟨none, _, by have := run_endLoop (P := P) hl (by rw [hrec]; simp); rw [hrec] at this; exact this, hdone _ xs _ (.inr (.inl rfl)) hS (hI _ _ _ _ _ hi (Grow.put _ (.inr (.inr rfl))) (More.refl _ _ _)) ((World.putObj_heap_other (by omega)).trans hk)⟩
      · exact ⟨some c, _, by have := run_endLoop (P := P) hl (by rw [hrec]; simp); rw [hrec] at this; exact this, hstop _ c pre _ (.inr (.inl rfl)) hSp (hIx c _ _ _ _ _ hi (Grow.put _ (.inr (.inr rfl))) (More.refl _ _ _)) ((World.putObj_heap_other (by omega)).trans hk)⟩
end Go.Proofs.YtkkkbcjmkmadhaaOwn
/-! text YtkkkbcjmkmadhaaApart0 -/
namespace Go.Proofs.YtkkkbcjmkmadhaaOwn
open Go Go.RowKit Go.Proofs.YtkkkbcjmkmadhaaW.PrintWords
set_option linter.unusedVariables false
/-- the row v of one's own, its block (if any) tagged t -/
def At (f : Nat → Nat) (t : Nat) (e : TypeId) (W : World) (v : Value) (n : Nat) (xs : List Value) : Prop := W.ownsRow 0 e 1 v n xs ∧ ∀ b, v.ownBlock = some b → f b = t
section
variable {f f' : Nat → Nat} {t : Nat} {e : TypeId} {W W1 : World} {v : Value} {n : Nat} {xs : List Value}
theorem At.move (h : At f t e W v n xs) (hf : ∀ b, b < W.heap.size → f' b = f b) (hm : ∀ b, b < W.heap.size → f b = t → W1.heap[b]? = W.heap[b]?) : At f' t e W1 v n xs :=
  ⟨own_move h.1 fun k hk => hm k (own_lt h.1 k hk) (h.2 k hk), fun b hb => (hf b (own_lt h.1 b hb)).trans (h.2 b hb)⟩
theorem At.form (h : At f t e W v n xs) : (v = .slice none 0 0 ∧ n = 0 ∧ xs = []) ∨ ∃ b c cur, v = .slice (some ⟨b, 0, none⟩) n c ∧ W.heap[b]? = some (.cells cur e (0, 0)) ∧ f b = t ∧ n ≤ c ∧ c ≤ maxLen ∧ cur.size = c ∧ cur.toList.take n = xs ∧ xs.length = n := by
  obtain ⟨⟨h1, h2⟩, h3⟩ := h
  rcases h2 with ⟨rfl, rfl⟩ | ⟨b, c, cur, rfl, _, hh, hn, hc, hs, ht⟩
  · exact .inl ⟨rfl, rfl, List.eq_nil_of_length_eq_zero (by simpa using h1)⟩
  · exact .inr ⟨b, c, cur, rfl, hh, h3 b rfl, hn, hc, by simpa using hs, by simpa using ht, by simpa using h1⟩
theorem At.of {b c : Nat} {cur : Array Value} (hh : W.heap[b]? = some (.cells cur e (0, 0))) (hf : f b = t) (hn : n ≤ c) (hc : c ≤ maxLen) (hs : cur.size = c) (hx : cur.toList.take n = xs) : At f t e W (.slice (some ⟨b, 0, none⟩) n c) n xs := by
  refine ⟨⟨?_, .inr ⟨b, c, cur, rfl, Nat.zero_le _, hh, hn, hc, by simpa using hs, by simpa using hx⟩⟩, fun b' hb' => ?_⟩
  · rw [← hx, List.length_take, Array.length_toList]; omega
  · have : b = b' := by simpa [Value.ownBlock] using hb'
    subst this
    exact hf
theorem At.len (h : At f t e W v n xs) : xs.length = n := by simpa using h.1.1
theorem At.nil (f : Nat → Nat) (t : Nat) (e : TypeId) (W : World) : At f t e W (.slice none 0 0) 0 [] := ⟨World.ownsRow_nil W 0 e 1, fun b hb => by simp [Value.ownBlock] at hb⟩
theorem At.cell (h : At f t e W v n xs) {i : Nat} {u : Value} (hi : xs[i]? = some u) : ∃ b c, v = .slice (some ⟨b, 0, none⟩) n c ∧ i < n ∧ W.cell? ⟨b, i, none⟩ = some u ∧ W.frozen? ⟨b, i, none⟩ = false := by
  rcases h.form with ⟨_, _, rfl⟩ | ⟨b, c, cur, rfl, hh, _, hn, hc, hs, ht, hl⟩
  · simp at hi
  · have hin : i < n := by have := (List.getElem?_eq_some_iff.1 hi).1; omega
    refine ⟨b, c, rfl, hin, ?_, blk_frozen hh i⟩
    rw [blk_cell hh i]
    rw [← ht, List.getElem?_take] at hi
    rw [if_pos hin] at hi
    simpa using hi
theorem At.put {b c : Nat} (h : At f t e W (.slice (some ⟨b, 0, none⟩) n c) n xs) (i : Nat) (u : Value) : At f t e (W.setCell ⟨b, i, none⟩ u) (.slice (some ⟨b, 0, none⟩) n c) n (xs.set i u) := by
  rcases h.form with ⟨h0, _⟩ | ⟨b', c', cur, e1, hh, hf, hn, hc, hs, ht, hl⟩
  · cases h0
  · injection e1 with e1 _ e3
    injection e1 with e1
    injection e1 with e1
    subst e1 e3
    refine At.of (cur := cur.setIfInBounds i u) (blk_put hh i u rfl) hf hn hc (by simpa using hs) ?_
    rw [← ht, Array.toList_setIfInBounds, List.take_set]
/-- appended to: in place, or in a new block -/
theorem At.append {P : Program} {z : Value} {bytes m c : Nat} {ty tt : TypeId} {ad : Addr} {news : List Value} (h : At f t e W v n xs) (ht : P.underlying tt = some (.slice e)) (hinfo : (P.info? e).map (fun i => (i.zero, i.size, i.bytes)) = some (some z, 1, bytes)) (hz : z.cells.size = 1)
    (hl : news.length = m) (hnews : ∀ j u, news[j]? = some u → W.cell? (ad.add j) = some u) (h1 : ∀ u ∈ news, u.oneCell' = true) (hm : 0 < m) (hn : n + m ≤ maxLen) (hb : (n + m) * bytes ≤ 140737488355328) :
    ∃ v' W1, (Builtin.append_ #[tt, tt] ty #[v, .slice (some ad) m c]).run P W = .ok v' W1 ∧ ∃ b' c', v' = .slice (some ⟨b', 0, none⟩) (n + m) c' ∧
      ((v = .slice (some ⟨b', 0, none⟩) n c' ∧ W.grownBy W1 (some b') ∧ At f t e W1 v' (n + m) (xs ++ news)) ∨
       (b' = W.heap.size ∧ W.grownBy W1 none ∧ ∀ f', f' W.heap.size = t → At f' t e W1 v' (n + m) (xs ++ news))) := by
  obtain ⟨i, hi, hzz⟩ := Option.map_eq_some_iff.1 hinfo
  simp only [Prod.mk.injEq] at hzz
  obtain ⟨hz0, hz1, hz2⟩ := hzz
  subst hz2
  have hlen : (xs ++ news).length = n + m := by rw [List.length_append, h.len, hl]
  have hsmall : n + m ≤ 9223372036854775807 := by simp only [maxLen] at hn; omega
  rcases h.form with ⟨rfl, rfl, rfl⟩ | ⟨b, cap, cur, rfl, hh, hf, hnc, hcm, hcs, htk, hxl⟩
  · have hr := run_append_nil (P := P) W tt ty e i z ht hi hz0 ad m c news (by simpa [hz1] using hl) hnews (by omega) (by omega) (by have hb2 := hb; simp only [Nat.zero_add] at hb2; omega)
    have hge := grownCap_ge W m 0 e
    have hcm2 := grownCap_le_maxLen W m 0 e (by omega)
    refine ⟨_, _, hr, W.heap.size, _, by rw [Nat.zero_add], .inr ⟨rfl, ⟨rfl, rfl, rfl, by simp, fun k hk _ => Below.heap_alloc W.drew _ k hk⟩, fun f' hf' => ?_⟩⟩
    rw [Nat.zero_add, List.nil_append]
    refine At.of (heap_alloc_new W.drew _) hf' hge hcm2 ?_ ?_
    · simp only [Array.size_append, List.size_toArray, size_zeroCells, hz, hl]
      omega
    · simp only [Array.toList_append]
      rw [← hl]
      exact List.take_left
  · by_cases hroom : n + m ≤ cap
    · have hr := run_append_room (P := P) W tt ty e i ht hi b n cap cur hh ad m c news (by simpa [hz1] using hl) hnews h1 hroom (by rw [hz1, hcs]; omega)
      refine ⟨_, _, hr, b, cap, rfl, .inl ⟨rfl, ⟨rfl, rfl, rfl, by simp, fun k _ hk => setRow_other W b k _ (fun e => hk (by simp [e]))⟩, ?_⟩⟩
      refine At.of (setRow_heap W b cur _ e _ hh) hf hroom hcm ?_ ?_
      · simp only [hz1, List.size_toArray, List.length_append, List.length_take, List.length_drop, Array.length_toList]
        omega
      · simp only [hz1, Nat.mul_one]
        rw [htk, ← hlen]
        exact List.take_left
    · have holds : ∀ j u, xs[j]? = some u → W.cell? ((⟨b, 0, none⟩ : Addr).add j) = some u := h.1.cells (g := b) rfl
      have hr := run_append_grow (P := P) W tt ty e i z ht hi hz0 ⟨b, 0, none⟩ n cap xs (by simpa [hz1] using hxl) holds ad m c news (by simpa [hz1] using hl) hnews (by omega) (by omega) (growslice_fits (by omega) hb)
      have hge := grownCap_ge W (n + m) cap e
      have hcm2 := grownCap_le_maxLen W (n + m) cap e hn
      refine ⟨_, _, hr, W.heap.size, _, rfl, .inr ⟨rfl, ⟨rfl, rfl, rfl, by simp, fun k hk _ => Below.heap_alloc W.drew _ k hk⟩, fun f' hf' => ?_⟩⟩
      refine At.of (heap_alloc_new W.drew _) hf' hge hcm2 ?_ ?_
      · simp only [Array.size_append, List.size_toArray, size_zeroCells, hz, hl, hxl]
        omega
      · simp only [Array.toList_append, List.append_assoc]
        rw [← List.append_assoc, ← hlen]
        exact List.take_left
end
/-- the row p as it came, and what it has grown into: g, which holds ys -/
structure RowF (f : Nat → Nat) (k : Nat) (e : TypeId) (p : Value × Nat) (d : Value × List Value) (W : World) : Prop where
  le : p.2 ≤ d.2.length
  old : At f k e W p.1 p.2 (d.2.take p.2)
  now : At f k e W d.1 d.2.length d.2
  sh : (∃ b n' c, p.1 = .slice (some ⟨b, 0, none⟩) p.2 c ∧ d.1 = .slice (some ⟨b, 0, none⟩) n' c) ∨ ∀ b, d.1.ownBlock = some b → p.1.ownBlock ≠ some b
section
variable {f f' : Nat → Nat} {k : Nat} {e : TypeId} {W W1 : World} {p : Value × Nat} {d : Value × List Value}
theorem RowF.move (h : RowF f k e p d W) (hf : ∀ b, b < W.heap.size → f' b = f b) (hm : ∀ b, b < W.heap.size → f b = k → W1.heap[b]? = W.heap[b]?) : RowF f' k e p d W1 := ⟨h.le, h.old.move hf hm, h.now.move hf hm, h.sh⟩
theorem RowF.start {xs : List Value} (h : At f k e W p.1 p.2 xs) : RowF f k e p (p.1, xs) W := by
  have hl := h.len
  refine ⟨by simp [hl], ?_, ?_, ?_⟩
  · show At f k e W p.1 p.2 (xs.take p.2)
    rw [← hl, List.take_length, hl]; exact h
  · show At f k e W p.1 xs.length xs
    rw [hl]; exact h
  · rcases h.form with ⟨h1, _⟩ | ⟨b, c, _, h1, _⟩
    · exact .inr fun b hb => by rw [h1] at hb; cases hb
    · exact .inl ⟨b, p.2, c, h1, h1⟩
theorem RowF.reset (h : RowF f k e p d W) : RowF f k e p (p.1, d.2.take p.2) W := RowF.start h.old
theorem RowF.appended {v' : Value} {m : Nat} {news : List Value} {b' c' : Nat} (h : RowF f k e p d W) (hv : v' = .slice (some ⟨b', 0, none⟩) (d.2.length + m) c')
    (hs : (d.1 = .slice (some ⟨b', 0, none⟩) d.2.length c' ∧ W.grownBy W1 (some b') ∧ At f k e W1 v' (d.2.length + m) (d.2 ++ news)) ∨ (b' = W.heap.size ∧ W.grownBy W1 none ∧ ∀ f', f' W.heap.size = k → At f' k e W1 v' (d.2.length + m) (d.2 ++ news))) :
    ∃ f', (∀ b, b < W.heap.size → f' b = f b) ∧ (∀ b, b < W.heap.size → f b ≠ k → W1.heap[b]? = W.heap[b]?) ∧ RowF f' k e p (v', d.2 ++ news) W1 := by
  have htk : (d.2 ++ news).take p.2 = d.2.take p.2 := by rw [List.take_append_of_le_length h.le]
  rcases hs with ⟨h1, hg, ha⟩ | ⟨h1, hg, ha⟩
  · have hf : f b' = k := h.now.2 b' (by rw [h1]; rfl)
    refine ⟨f, fun _ _ => rfl, fun b hb hne => hg.block b hb (fun e => by injection e with e; subst e; exact hne hf), ?_, ?_, ?_, ?_⟩
    · have := h.le; simp; omega
    · rcases h.sh with ⟨b, n', c, e1, e2⟩ | h2
      · rw [h1] at e2
        injection e2 with e2 _ e3
        injection e2 with e2
        injection e2 with e2
        subst e2 e3
        rcases ha.form with ⟨h0, _⟩ | ⟨b2, c2, cur, e3, hh, hf2, hn2, hc2, hs2, ht2, hl2⟩
        · rw [hv] at h0; cases h0
        · rw [hv] at e3
          injection e3 with e3 _ e4
          injection e3 with e3
          injection e3 with e3
          subst e3 e4
          have hle := h.le
          show At f k e W1 p.1 p.2 ((d.2 ++ news).take p.2)
          rw [e1]
          refine At.of hh hf2 (by omega) hc2 hs2 ?_
          rw [← ht2, List.take_take, Nat.min_eq_left (by omega)]
      · show At f k e W1 p.1 p.2 ((d.2 ++ news).take p.2)
        rw [htk]
        have hne : p.1.ownBlock ≠ some b' := h2 b' (by rw [h1]; rfl)
        exact ⟨own_move h.old.1 fun j hj => hg.block j (own_lt h.old.1 j hj) (fun e => hne (by rw [hj, ← e])), h.old.2⟩
    · show At f k e W1 v' (d.2 ++ news).length (d.2 ++ news)
      have := ha.len
      rw [this]; exact ha
    · rcases h.sh with ⟨b, n', c, e1, e2⟩ | h2
      · rw [h1] at e2
        injection e2 with e2 _ e3
        injection e2 with e2
        injection e2 with e2
        subst e2 e3
        exact .inl ⟨b', _, c', e1, hv⟩
      · refine .inr fun b hb => ?_
        rw [show (v', d.2 ++ news).1 = v' from rfl, hv] at hb
        have : b' = b := by simpa [Value.ownBlock] using hb
        subst this
        exact h2 b' (by rw [h1]; rfl)
  · refine ⟨fun b => if b = W.heap.size then k else f b, fun b hb => if_neg (by omega), fun b hb _ => hg.block b hb (by simp), ?_, ?_, ?_, ?_⟩
    · have := h.le; simp; omega
    · show At _ k e W1 p.1 p.2 ((d.2 ++ news).take p.2)
      rw [htk]
      exact h.old.move (fun b hb => if_neg (by omega)) fun b hb _ => hg.block b hb (by simp)
    · show At _ k e W1 v' (d.2 ++ news).length (d.2 ++ news)
      have h3 := ha (fun b => if b = W.heap.size then k else f b) (if_pos rfl)
      have := h3.len
      rw [this]; exact h3
    · refine .inr fun b hb => ?_
      rw [show (v', d.2 ++ news).1 = v' from rfl, hv, h1] at hb
      have hb2 : W.heap.size = b := by simpa [Value.ownBlock] using hb
      intro hp
      have := own_lt h.old.1 b hp
      omega
end
end Go.Proofs.YtkkkbcjmkmadhaaOwn
