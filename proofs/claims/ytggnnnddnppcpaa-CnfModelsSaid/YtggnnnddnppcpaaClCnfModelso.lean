/- The law for a range over a function whose iterator has blocks of its own, once more: where the body is told of its loop's record (wpIn_range_ownH), and where the loop stands in a round of another one (wpIn_range_ownN). -/
import Derived.Test.YtggnnnddnppcpaaClCnfModelsk
import Derived.RangeFuncNested
/-! text YtggnnnddnppcpaaRangeOwn2 -/
namespace Go.Proofs.YtggnnnddnppcpaaOwn
open Go Go.RowKit
set_option linter.unusedVariables false
variable {F : Fence} {n : Nat} {P : Program}
theorem SeqD.inRound {α : Type} {g : Nat} {lb : Array Value} {encs : α → Array Value} {Hd : World → (Nat → Prop) → α → World → Prop} {Rd : Nat → Prop} {S Sp : List α → Prop} {N : Nat} {w : World} (l : Nat) (h : SeqD F n P g lb encs Hd Rd S Sp N w) : SeqD (F.inRound l) n P g lb encs Hd Rd S Sp N w := h
theorem wpIn_range_ownH {α : Type} {g : Operand} {ps : Array Tmp} {assign body : Code} {Q : Exit → Act → World → Prop} {a : Act} {w : World}
    (h1 : 1 ≤ n) {gf : Nat} {lb : Array Value} (hro : F.round = none) (hg : a.eval g = .func (.func gf) #[] lb) (hFg : F.fn gf) (eg : ∀ args w, (callFunc gf args).run P w = .ok (.enter gf args) w)
    {encs : α → Array Value} {Hd : World → (Nat → Prop) → α → World → Prop} {Rd : Nat → Prop} {S Sp : List α → Prop} {N : Nat} {w0 : World} (hseq : SeqD F (n - 1) P gf lb encs Hd Rd S Sp N w0)
    (hHd : ∀ A M M' x W W', Hd A M x W → (∀ k, M' k → M k ∨ k < A.heap.size) → (∀ k cs t z, A.heap.size ≤ k → W.heap[k]? = some (.cells cs t z) → W'.heap[k]? = some (.cells cs t z)) → Hd A M' x W')
    (hRd : ∀ k, Rd k → k < w0.heap.size) (hb0 : Below w0.heap.size w0 w) (hps : ∀ x, (encs x).size = ps.size)
    (I : (Nat → Prop) → List α → World → Prop) (Ix : Code → (Nat → Prop) → List α → World → Prop) (hI : OwnD I) (hIx : ∀ c, OwnD (Ix c)) (h0 : I (fun _ => False) [] w) (a₁ : α → Act)
    (hassign : ∀ (l : Nat) (x : α) (W : World) (K : Act → World → Prop), K (a₁ x) W →
      assign.wpIn (F.inRound l) (n - 1 - 1) P (Exit.then K (fun _ _ _ => False)) { tmps := (ps.zip (encs x)).foldl (fun t (p, v) => t.setIfInBounds p v) a.tmps, defers := [] } W)
    (hbody : ∀ (l : Nat) (M M1 : Nat → Prop) (pre : List α) (x : α) (A W : World), I M pre A → Grow M A W → More M A W M1 → (∀ k, M k → M1 k) → M w.heap.size → M (w.heap.size + 1) → w.heap.size + 2 ≤ A.heap.size → Hd A M1 x W → pre.length < N → l = w.heap.size + 1 → (∃ r, W.heap[l]? = some (.loop r)) → body.wpIn (F.inRound l) (n - 1 - 1) P (ownPostD Rd M1 I Ix (pre ++ [x]) W) (a₁ x) W)
    (hdone : ∀ (M : Nat → Prop) (xs : List α) (W : World), M w.heap.size → S xs → I M xs W → W.heap[w.heap.size]? = some (.deferred (some [])) → Q .normal { a with defers := { target := .collected w.heap.size, args := #[] } :: a.defers } W)
    (hstop : ∀ (M : Nat → Prop) (c : Code) (pre : List α) (W : World), M w.heap.size → Sp pre → Ix c M pre W → W.heap[w.heap.size]? = some (.deferred (some [])) → c.wpIn F n P Q { a with defers := { target := .collected w.heap.size, args := #[] } :: a.defers } W) :
    (Code.rangeFunc g ps assign body).wpIn F n P Q a w := by
  refine wpIn_rangeFunc ?_
  intro fn hfn
  rw [hro]
  obtain ⟨rec, hrec⟩ : ∃ rec : LoopState → Option Code → Loop, rec = fun st pe => { state := st, pending := pe, fn, tmps := a.tmps, params := ps, assign, body, defers := w.heap.size } := ⟨_, rfl⟩
  obtain ⟨W1, hW1⟩ : ∃ W1, (w.alloc (.deferred (some []))).alloc (.loop (rec .ready none)) = W1 := ⟨_, rfl⟩
  have hz1 : W1.heap.size = w.heap.size + 2 := by rw [← hW1]; simp
  have hL1 : W1.heap[w.heap.size + 1]? = some (.loop (rec .ready none)) := by
    rw [← hW1]
    have := World.alloc_heap_new (w.alloc (.deferred (some []))) (.loop (rec .ready none))
    rwa [World.size_alloc] at this
  have hK1 : W1.heap[w.heap.size]? = some (.deferred (some [])) := by
    rw [← hW1]
    exact (Below.heap_alloc _ _ _ (by simp)).trans (World.alloc_heap_new w _)
  have hG1 : Below w.heap.size w W1 := by rw [← hW1]; exact ((Below.refl _ w).alloc (Nat.le_refl _) _).alloc (by simp) _
  have hb1 : Below w0.heap.size w0 W1 := hb0.trans (hG1.mono hb0.size)
  have hRlt : ∀ k, Rd k → k < w.heap.size := fun k hk => Nat.lt_of_lt_of_le (hRd k hk) hb0.size
  have hI1 : I (With w.heap.size (fun _ => False)) [] W1 := hI _ _ _ _ _ h0 (Grow.of_below hG1) (fun k hk => by rcases hk with h | h | h; exact .inl h; exact .inr (by omega); exact .inr (by omega))
  refine ⟨w.heap.size + 1, [{ target := .collected w.heap.size, args := #[] }], W1, { target := .fn (.func gf) lb, args := #[.func (.yield (w.heap.size + 1)) #[] #[]] }, W1, gf,
    #[.func (.yield (w.heap.size + 1)) #[] #[]] ++ lb, W1, ?_, ?_, ?_, ?_, fun _ => h1, ?_⟩
  · rw [← hW1, hrec]; exact run_enterLoop_outer _ _ _ _ _
  · simp only [resolve, hg]
    simp [go_sem]
  · intro f' hf'
    simp [Target.leads] at hf'
    subst hf'
    exact hFg
  · simp [invoke, go_sem, eg]
  · refine (hseq (w.heap.size + 1)
      (fun M pre W => I (With w.heap.size M) pre W ∧ W.heap[w.heap.size + 1]? = some (.loop (rec .ready none)) ∧ W.heap[w.heap.size]? = some (.deferred (some [])) ∧ ¬ M w.heap.size ∧ ¬ M (w.heap.size + 1))
      (fun M pre W => ∃ c, Ix c (With w.heap.size M) pre W ∧ W.heap[w.heap.size + 1]? = some (.loop (rec .done (some c))) ∧ W.heap[w.heap.size]? = some (.deferred (some [])) ∧ ¬ M w.heap.size ∧ ¬ M (w.heap.size + 1))
      W1 hb1 ?_ ?_ ?_ ⟨hI1, hL1, hK1, fun h => h, fun h => h⟩).mono ?_
    · rintro M M1 s A B ⟨hi, hl, hk, n1, n2⟩ hg' hm
      have l1 := (Array.getElem?_eq_some_iff.1 hl).1
      have l2 := (Array.getElem?_eq_some_iff.1 hk).1
      refine ⟨hI _ _ _ _ _ hi (hg'.mono fun k h => .inl h) (fun k h => ?_), (hg'.block _ l1 n2).trans hl, (hg'.block _ l2 n1).trans hk, fun h => ?_, fun h => ?_⟩
      · rcases h with h | h
        · rcases hm k h with h | h
          · exact .inl (.inl h)
          · exact .inr h
        · exact .inl (.inr h)
      · rcases hm _ h with h | h
        · exact n1 h
        · omega
      · rcases hm _ h with h | h
        · exact n2 h
        · omega
    · rintro M M1 s A B ⟨c, hi, hl, hk, n1, n2⟩ hg' hm
      have l1 := (Array.getElem?_eq_some_iff.1 hl).1
      have l2 := (Array.getElem?_eq_some_iff.1 hk).1
      refine ⟨c, hIx c _ _ _ _ _ hi (hg'.mono fun k h => .inl h) (fun k h => ?_), (hg'.block _ l1 n2).trans hl, (hg'.block _ l2 n1).trans hk, fun h => ?_, fun h => ?_⟩
      · rcases h with h | h
        · rcases hm k h with h | h
          · exact .inl (.inl h)
          · exact .inr h
        · exact .inl (.inr h)
      · rcases hm _ h with h | h
        · exact n1 h
        · omega
      · rcases hm _ h with h | h
        · exact n2 h
        · omega
    · rintro M M1 pre x A W ⟨hi, hlA, hkA, n1, n2⟩ hgr hm hsub hx hlen
      have l1 := (Array.getElem?_eq_some_iff.1 hlA).1
      have l2 := (Array.getElem?_eq_some_iff.1 hkA).1
      have hl := (hgr.block _ l1 n2).trans hlA
      have hk := (hgr.block _ l2 n1).trans hkA
      have m1 : ¬ M1 w.heap.size := fun h => by rcases hm _ h with h | h; exact n1 h; omega
      have m2 : ¬ M1 (w.heap.size + 1) := fun h => by rcases hm _ h with h | h; exact n2 h; omega
      have hlt : w.heap.size + 1 < W.heap.size := (Array.getElem?_eq_some_iff.1 hl).1
      have hy := run_yield (P := P) (args := encs x) hl (by rw [hrec]; exact hps x)
      rw [hrec] at hy
      refine ⟨fn, _, assign, body, hy, roundIn_of_wpIn hfn (hassign _ x W _ ⟨_, run_beginRound hl (by rw [hrec]), ?_⟩)⟩
      have hl2 : (W.putObj (w.heap.size + 1) (.loop { rec .ready none with state := .busy })).heap[w.heap.size + 1]? = some (.loop { rec .ready none with state := .busy }) := World.putObj_heap_same hlt
      have hk2 : (W.putObj (w.heap.size + 1) (.loop { rec .ready none with state := .busy })).heap[w.heap.size]? = some (.deferred (some [])) := (World.putObj_heap_other (by omega)).trans hk
      have hgp : Grow (With w.heap.size M) A (W.putObj (w.heap.size + 1) (.loop { rec .ready none with state := .busy })) := (hgr.mono fun k h => .inl h).trans (Grow.put (M := With w.heap.size M) _ (.inr (.inr rfl))) (fun k h => .inl h)
      have hmp : More (With w.heap.size M) A (W.putObj (w.heap.size + 1) (.loop { rec .ready none with state := .busy })) (With w.heap.size M1) := fun k h => by
        rcases h with h | h
        · rcases hm k h with h | h
          · exact .inl (.inl h)
          · exact .inr ⟨h.1, Nat.lt_of_lt_of_le h.2 (grownBy_putObj' W _ _).size⟩
        · exact .inl (.inr h)
      have hxp : Hd A (With w.heap.size M1) x (W.putObj (w.heap.size + 1) (.loop { rec .ready none with state := .busy })) := hHd _ _ _ _ _ _ hx
        (fun k h => by rcases h with h | h; exact .inl h; exact .inr (by omega))
        (fun k cs t z hkk hcs => (World.putObj_heap_other (fun e => by subst e; rw [hl] at hcs; cases hcs)).trans hcs)
      refine wpIn_mono (hbody _ (With w.heap.size M) (With w.heap.size M1) pre x A _ hi hgp hmp (fun k h => by rcases h with h | h; exact .inl (hsub k h); exact .inr h) (.inr (.inl rfl)) (.inr (.inr rfl)) (by omega) hxp hlen rfl ⟨_, hl2⟩) ?_
      have fin : ∀ (jump : Option Code) (W3 : World), KeptD (fun k => With w.heap.size M1 k ∨ Rd k) (W.putObj (w.heap.size + 1) (.loop { rec .ready none with state := .busy })) W3 →
          (Instr.endRound (w.heap.size + 1) jump).run P W3 = .ok (.bool jump.isNone) (W3.putObj (w.heap.size + 1) (.loop (rec (if jump.isNone then .ready else .done) jump))) ∧
          W3.heap[w.heap.size + 1]? = some (.loop { rec .ready none with state := .busy }) ∧
          (W3.putObj (w.heap.size + 1) (.loop (rec (if jump.isNone then .ready else .done) jump))).heap[w.heap.size + 1]? = some (.loop (rec (if jump.isNone then .ready else .done) jump)) ∧
          (W3.putObj (w.heap.size + 1) (.loop (rec (if jump.isNone then .ready else .done) jump))).heap[w.heap.size]? = some (.deferred (some [])) := fun jump W3 hk3 => by
        have hl3 := hk3.2 _ _ (.inl (.inr (.inr rfl))) hl2
        have := run_endRound (P := P) jump hl3
        rw [hrec] at this ⊢
        exact ⟨this, by rw [hrec] at hl3; exact hl3, World.putObj_heap_same (Array.getElem?_eq_some_iff.1 hl3).1, (World.putObj_heap_other (by omega)).trans (hk3.2 _ _ (.inl (.inr (.inl rfl))) hk2)⟩
      have left : ∀ (c : Code) (W3 : World), KeptD (fun k => With w.heap.size M1 k ∨ Rd k) (W.putObj (w.heap.size + 1) (.loop { rec .ready none with state := .busy })) W3 → Ix c (With w.heap.size M1) (pre ++ [x]) W3 → _ := fun c W3 hk3 hi3 => by
        obtain ⟨hr, hl3, hl4, hk4⟩ := fin (some c) W3 hk3
        have mr : ¬ (M1 (w.heap.size + 1) ∨ Rd (w.heap.size + 1)) := fun h => h.elim m2 (fun h => by have := hRlt _ h; omega)
        exact (⟨_, _, hr, .inr ⟨rfl, ⟨c, hIx c _ _ _ _ _ hi3 (Grow.put _ (.inr (.inr rfl))) (More.refl _ _ _), hl4, hk4, m1, m2⟩, ((KeptD.of_grownBy (grownBy_putObj' W _ _) (fun r e => by cases e; exact mr)).trans (hk3.mono fun k h => h.elim (fun h => .inl (.inl h)) .inr)).trans (KeptD.of_grownBy (grownBy_putObj' W3 _ _) (fun r e => by cases e; exact mr))⟩⟩ : ∃ v W4, (Instr.endRound (w.heap.size + 1) (some c)).run P W3 = .ok v W4 ∧ ((Ending.returned v = .returned (.bool true) ∧ (I (With w.heap.size M1) (pre ++ [x]) W4 ∧ W4.heap[w.heap.size + 1]? = some (.loop (rec .ready none)) ∧ W4.heap[w.heap.size]? = some (.deferred (some [])) ∧ ¬ M1 w.heap.size ∧ ¬ M1 (w.heap.size + 1)) ∧ KeptD (fun k => M1 k ∨ Rd k) W W4) ∨ (Ending.returned v = .returned (.bool false) ∧ (∃ c, Ix c (With w.heap.size M1) (pre ++ [x]) W4 ∧ W4.heap[w.heap.size + 1]? = some (.loop (rec .done (some c))) ∧ W4.heap[w.heap.size]? = some (.deferred (some [])) ∧ ¬ M1 w.heap.size ∧ ¬ M1 (w.heap.size + 1)) ∧ KeptD (fun k => M1 k ∨ Rd k) W W4)))
      rintro e a3 W3 hp
      cases e with
      | normal =>
        obtain ⟨hk3, hi3⟩ := hp
        obtain ⟨hr, hl3, hl4, hk4⟩ := fin none W3 hk3
        refine ⟨_, _, hr, .inl ⟨rfl, ⟨hI _ _ _ _ _ hi3 (Grow.put _ (.inr (.inr rfl))) (More.refl _ _ _), hl4, hk4, m1, m2⟩, ?_⟩⟩
        have mr : ¬ (M1 (w.heap.size + 1) ∨ Rd (w.heap.size + 1)) := fun h => h.elim m2 (fun h => by have := hRlt _ h; omega)
        refine ((KeptD.of_grownBy (grownBy_putObj' W _ _) (fun r e => by cases e; exact mr)).trans (hk3.mono fun k h => h.elim (fun h => .inl (.inl h)) .inr)).trans (KeptD.of_grownBy (grownBy_putObj' W3 _ _) (fun r e => by cases e; exact mr))
      | ret => exact left .ret W3 hp.1 hp.2
      | exit id => exact left (.exit id) W3 hp.1 hp.2
      | goto t => exact left (.goto t) W3 hp.1 hp.2
      | panic ch => exact hp.elim
      | outgrown => exact hp.elim
    · rintro e W2 ⟨⟨v, rfl⟩, M, (⟨xs, hS, hi, hl, hk, n1, n2⟩ | ⟨pre, hSp, c, hi, hl, hk, n1, n2⟩)⟩
      · exact ⟨none, _, by have := run_endLoop (P := P) hl (by rw [hrec]; simp); rw [hrec] at this; exact this, hdone _ xs _ (.inr (.inl rfl)) hS (hI _ _ _ _ _ hi (Grow.put _ (.inr (.inr rfl))) (More.refl _ _ _)) ((World.putObj_heap_other (by omega)).trans hk)⟩
      · exact ⟨some c, _, by have := run_endLoop (P := P) hl (by rw [hrec]; simp); rw [hrec] at this; exact this, hstop _ c pre _ (.inr (.inl rfl)) hSp (hIx c _ _ _ _ _ hi (Grow.put _ (.inr (.inr rfl))) (More.refl _ _ _)) ((World.putObj_heap_other (by omega)).trans hk)⟩
/-- a record's block beside M -/
def With1 (B : Nat) (M : Nat → Prop) (k : Nat) : Prop := M k ∨ k = B
theorem wpIn_range_ownN {α : Type} {g : Operand} {ps : Array Tmp} {assign body : Code} {Q : Exit → Act → World → Prop} {a : Act} {w : World}
    (h1 : 1 ≤ n) {gf : Nat} {lb : Array Value} {l₀ : Nat} {r₀ : Loop} (hro : F.round = some l₀) (hr0 : w.heap[l₀]? = some (.loop r₀)) (hg : a.eval g = .func (.func gf) #[] lb) (hFg : F.fn gf) (eg : ∀ args w, (callFunc gf args).run P w = .ok (.enter gf args) w)
    {encs : α → Array Value} {Hd : World → (Nat → Prop) → α → World → Prop} {Rd : Nat → Prop} {S Sp : List α → Prop} {N : Nat} {w0 : World} (hseq : SeqD F (n - 1) P gf lb encs Hd Rd S Sp N w0)
    (hHd : ∀ A M M' x W W', Hd A M x W → (∀ k, M' k → M k ∨ k < A.heap.size) → (∀ k cs t z, A.heap.size ≤ k → W.heap[k]? = some (.cells cs t z) → W'.heap[k]? = some (.cells cs t z)) → Hd A M' x W')
    (hRd : ∀ k, Rd k → k < w0.heap.size) (hb0 : Below w0.heap.size w0 w) (hps : ∀ x, (encs x).size = ps.size)
    (I : (Nat → Prop) → List α → World → Prop) (Ix : Code → (Nat → Prop) → List α → World → Prop) (hI : OwnD I) (hIx : ∀ c, OwnD (Ix c)) (h0 : I (fun _ => False) [] w) (a₁ : α → Act)
    (hassign : ∀ (l : Nat) (x : α) (W : World) (K : Act → World → Prop), K (a₁ x) W →
      assign.wpIn (F.inRound l) (n - 1 - 1) P (Exit.then K (fun _ _ _ => False)) { tmps := (ps.zip (encs x)).foldl (fun t (p, v) => t.setIfInBounds p v) a.tmps, defers := [] } W)
    (hbody : ∀ (l : Nat) (M M1 : Nat → Prop) (pre : List α) (x : α) (A W : World), I M pre A → Grow M A W → More M A W M1 → (∀ k, M k → M1 k) → M w.heap.size → w.heap.size + 1 ≤ A.heap.size → Hd A M1 x W → pre.length < N → body.wpIn (F.inRound l) (n - 1 - 1) P (ownPostD Rd M1 I Ix (pre ++ [x]) W) (a₁ x) W)
    (hdone : ∀ (M : Nat → Prop) (xs : List α) (W : World), M w.heap.size → S xs → I M xs W → Q .normal a W)
    (hstop : ∀ (M : Nat → Prop) (c : Code) (pre : List α) (W : World), M w.heap.size → Sp pre → Ix c M pre W → c.wpIn F n P Q a W) :
    (Code.rangeFunc g ps assign body).wpIn F n P Q a w := by
  refine wpIn_rangeFunc ?_
  intro fn hfn
  rw [hro]
  obtain ⟨rec, hrec⟩ : ∃ rec : LoopState → Option Code → Loop, rec = fun st pe => { state := st, pending := pe, fn, tmps := a.tmps, params := ps, assign, body, defers := r₀.defers } := ⟨_, rfl⟩
  obtain ⟨W1, hW1⟩ : ∃ W1, w.alloc (.loop (rec .ready none)) = W1 := ⟨_, rfl⟩
  have hz1 : W1.heap.size = w.heap.size + 1 := by rw [← hW1]; simp
  have hL1 : W1.heap[w.heap.size]? = some (.loop (rec .ready none)) := by
    rw [← hW1]
    exact World.alloc_heap_new w _
  have hG1 : Below w.heap.size w W1 := by rw [← hW1]; exact (Below.refl _ w).alloc (Nat.le_refl _) _
  have hb1 : Below w0.heap.size w0 W1 := hb0.trans (hG1.mono hb0.size)
  have hRlt : ∀ k, Rd k → k < w.heap.size := fun k hk => Nat.lt_of_lt_of_le (hRd k hk) hb0.size
  have hI1 : I (With1 w.heap.size (fun _ => False)) [] W1 := hI _ _ _ _ _ h0 (Grow.of_below hG1) (fun k hk => by rcases hk with h | h; exact .inl h; exact .inr (by omega))
  refine ⟨w.heap.size, [], W1, { target := .fn (.func gf) lb, args := #[.func (.yield w.heap.size) #[] #[]] }, W1, gf,
    #[.func (.yield w.heap.size) #[] #[]] ++ lb, W1, ?_, ?_, ?_, ?_, fun _ => h1, ?_⟩
  · rw [← hW1, hrec]; exact run_enterLoop_inner hr0 _ _ _ _ _
  · simp only [resolve, hg]
    simp [go_sem]
  · intro f' hf'
    simp [Target.leads] at hf'
    subst hf'
    exact hFg
  · simp [invoke, go_sem, eg]
  · refine (hseq w.heap.size
      (fun M pre W => I (With1 w.heap.size M) pre W ∧ W.heap[w.heap.size]? = some (.loop (rec .ready none)) ∧ ¬ M w.heap.size)
      (fun M pre W => ∃ c, Ix c (With1 w.heap.size M) pre W ∧ W.heap[w.heap.size]? = some (.loop (rec .done (some c))) ∧ ¬ M w.heap.size)
      W1 hb1 ?_ ?_ ?_ ⟨hI1, hL1, fun h => h⟩).mono ?_
    · rintro M M1 s A B ⟨hi, hl, n1⟩ hg' hm
      have l1 := (Array.getElem?_eq_some_iff.1 hl).1
      refine ⟨hI _ _ _ _ _ hi (hg'.mono fun k h => .inl h) (fun k h => ?_), (hg'.block _ l1 n1).trans hl, fun h => ?_⟩
      · rcases h with h | h
        · rcases hm k h with h | h
          · exact .inl (.inl h)
          · exact .inr h
        · exact .inl (.inr h)
      · rcases hm _ h with h | h
        · exact n1 h
        · omega
    · rintro M M1 s A B ⟨c, hi, hl, n1⟩ hg' hm
      have l1 := (Array.getElem?_eq_some_iff.1 hl).1
      refine ⟨c, hIx c _ _ _ _ _ hi (hg'.mono fun k h => .inl h) (fun k h => ?_), (hg'.block _ l1 n1).trans hl, fun h => ?_⟩
      · rcases h with h | h
        · rcases hm k h with h | h
          · exact .inl (.inl h)
          · exact .inr h
        · exact .inl (.inr h)
      · rcases hm _ h with h | h
        · exact n1 h
        · omega
    · rintro M M1 pre x A W ⟨hi, hlA, n1⟩ hgr hm hsub hx hlen
      have l1 := (Array.getElem?_eq_some_iff.1 hlA).1
      have hl := (hgr.block _ l1 n1).trans hlA
      have m1 : ¬ M1 w.heap.size := fun h => by rcases hm _ h with h | h; exact n1 h; omega
      have hlt : w.heap.size < W.heap.size := (Array.getElem?_eq_some_iff.1 hl).1
      have hy := run_yield (P := P) (args := encs x) hl (by rw [hrec]; exact hps x)
      rw [hrec] at hy
      refine ⟨fn, _, assign, body, hy, roundIn_of_wpIn hfn (hassign _ x W _ ⟨_, run_beginRound hl (by rw [hrec]), ?_⟩)⟩
      have hl2 : (W.putObj w.heap.size (.loop { rec .ready none with state := .busy })).heap[w.heap.size]? = some (.loop { rec .ready none with state := .busy }) := World.putObj_heap_same hlt
      have hgp : Grow (With1 w.heap.size M) A (W.putObj w.heap.size (.loop { rec .ready none with state := .busy })) := (hgr.mono fun k h => .inl h).trans (Grow.put (M := With1 w.heap.size M) _ (.inr rfl)) (fun k h => .inl h)
      have hmp : More (With1 w.heap.size M) A (W.putObj w.heap.size (.loop { rec .ready none with state := .busy })) (With1 w.heap.size M1) := fun k h => by
        rcases h with h | h
        · rcases hm k h with h | h
          · exact .inl (.inl h)
          · exact .inr ⟨h.1, Nat.lt_of_lt_of_le h.2 (grownBy_putObj' W _ _).size⟩
        · exact .inl (.inr h)
      have hxp : Hd A (With1 w.heap.size M1) x (W.putObj w.heap.size (.loop { rec .ready none with state := .busy })) := hHd _ _ _ _ _ _ hx
        (fun k h => by rcases h with h | h; exact .inl h; exact .inr (by omega))
        (fun k cs t z hkk hcs => (World.putObj_heap_other (fun e => by subst e; rw [hl] at hcs; cases hcs)).trans hcs)
      refine wpIn_mono (hbody _ (With1 w.heap.size M) (With1 w.heap.size M1) pre x A _ hi hgp hmp (fun k h => by rcases h with h | h; exact .inl (hsub k h); exact .inr h) (.inr rfl) (by omega) hxp hlen) ?_
      have fin : ∀ (jump : Option Code) (W3 : World), KeptD (fun k => With1 w.heap.size M1 k ∨ Rd k) (W.putObj w.heap.size (.loop { rec .ready none with state := .busy })) W3 →
          (Instr.endRound w.heap.size jump).run P W3 = .ok (.bool jump.isNone) (W3.putObj w.heap.size (.loop (rec (if jump.isNone then .ready else .done) jump))) ∧
          W3.heap[w.heap.size]? = some (.loop { rec .ready none with state := .busy }) ∧
          (W3.putObj w.heap.size (.loop (rec (if jump.isNone then .ready else .done) jump))).heap[w.heap.size]? = some (.loop (rec (if jump.isNone then .ready else .done) jump)) := fun jump W3 hk3 => by
        have hl3 := hk3.2 _ _ (.inl (.inr rfl)) hl2
        have := run_endRound (P := P) jump hl3
        rw [hrec] at this ⊢
        exact ⟨this, by rw [hrec] at hl3; exact hl3, World.putObj_heap_same (Array.getElem?_eq_some_iff.1 hl3).1⟩
      have mr : ¬ (M1 w.heap.size ∨ Rd w.heap.size) := fun h => h.elim m1 (fun h => by have := hRlt _ h; omega)
      have left : ∀ (c : Code) (W3 : World), KeptD (fun k => With1 w.heap.size M1 k ∨ Rd k) (W.putObj w.heap.size (.loop { rec .ready none with state := .busy })) W3 → Ix c (With1 w.heap.size M1) (pre ++ [x]) W3 → _ := fun c W3 hk3 hi3 => by
        obtain ⟨hr, hl3, hl4⟩ := fin (some c) W3 hk3
        exact (⟨_, _, hr, .inr ⟨rfl, ⟨c, hIx c _ _ _ _ _ hi3 (Grow.put _ (.inr rfl)) (More.refl _ _ _), hl4, m1⟩, ((KeptD.of_grownBy (grownBy_putObj' W _ _) (fun r e => by cases e; exact mr)).trans (hk3.mono fun k h => h.elim (fun h => .inl (.inl h)) .inr)).trans (KeptD.of_grownBy (grownBy_putObj' W3 _ _) (fun r e => by cases e; exact mr))⟩⟩ : ∃ v W4, (Instr.endRound w.heap.size (some c)).run P W3 = .ok v W4 ∧ ((Ending.returned v = .returned (.bool true) ∧ (I (With1 w.heap.size M1) (pre ++ [x]) W4 ∧ W4.heap[w.heap.size]? = some (.loop (rec .ready none)) ∧ ¬ M1 w.heap.size) ∧ KeptD (fun k => M1 k ∨ Rd k) W W4) ∨ (Ending.returned v = .returned (.bool false) ∧ (∃ c, Ix c (With1 w.heap.size M1) (pre ++ [x]) W4 ∧ W4.heap[w.heap.size]? = some (.loop (rec .done (some c))) ∧ ¬ M1 w.heap.size) ∧ KeptD (fun k => M1 k ∨ Rd k) W W4)))
      rintro e a3 W3 hp
      cases e with
      | normal =>
        obtain ⟨hk3, hi3⟩ := hp
        obtain ⟨hr, hl3, hl4⟩ := fin none W3 hk3
        refine ⟨_, _, hr, .inl ⟨rfl, ⟨hI _ _ _ _ _ hi3 (Grow.put _ (.inr rfl)) (More.refl _ _ _), hl4, m1⟩, ?_⟩⟩
        refine ((KeptD.of_grownBy (grownBy_putObj' W _ _) (fun r e => by cases e; exact mr)).trans (hk3.mono fun k h => h.elim (fun h => .inl (.inl h)) .inr)).trans (KeptD.of_grownBy (grownBy_putObj' W3 _ _) (fun r e => by cases e; exact mr))
      | ret => exact left .ret W3 hp.1 hp.2
      | exit id => exact left (.exit id) W3 hp.1 hp.2
      | goto t => exact left (.goto t) W3 hp.1 hp.2
      | panic ch => exact hp.elim
      | outgrown => exact hp.elim
    · rintro e W2 ⟨⟨v, rfl⟩, M, (⟨xs, hS, hi, hl, n1⟩ | ⟨pre, hSp, c, hi, hl, n1⟩)⟩
      · exact ⟨none, _, by have := run_endLoop (P := P) hl (by rw [hrec]; simp); rw [hrec] at this; exact this, hdone _ xs _ (.inr rfl) hS (hI _ _ _ _ _ hi (Grow.put _ (.inr rfl)) (More.refl _ _ _))⟩
      · exact ⟨some c, _, by have := run_endLoop (P := P) hl (by rw [hrec]; simp); rw [hrec] at this; exact this, hstop _ c pre _ (.inr rfl) hSp (hIx c _ _ _ _ _ hi (Grow.put _ (.inr rfl)) (More.refl _ _ _))⟩
end Go.Proofs.YtggnnnddnppcpaaOwn
