/- The law for a range over a function whose iterator has blocks of its own, once more: where the body is told of its loop's record (wpIn_range_ownH), and where the loop stands in a round of another one (wpIn_range_ownN). -/
import Derived.Test.YtamefocngapkpaaClLitsSparesm
import Derived.RangeFuncNested
import Derived.Test.YtamefocngapkpaaWWords
import Derived.Maps.AppendAt
import Derived.OwnWalkIn
/-! text YtamefocngapkpaaRangeOwn2 -/
namespace Go.Proofs.YtamefocngapkpaaOwn
open Go Go.RowKit
set_option linter.unusedVariables false
variable {F : Fence} {n : Nat} {P : Program}
theorem SeqD.inRound {α : Type} {g : Nat} {lb : Array Value} {encs : α → Array Value} {Hd : World → (Nat → Prop) → α → World → Prop} {Rd : Nat → Prop} {S Sp : List α → Prop} {N : Nat} {w : World} (l : Nat) (h : SeqD F n P g lb encs Hd Rd S Sp N w) : SeqD (F.inRound l) n P g lb encs Hd Rd S Sp N w := h
theorem wpIn_range_ownH {α : Type} {g : Operand} {ps : Array Tmp} {assign body : Code} {Q : Exit → Act → World → Prop} {a : Act} {w : World}
    (h1 : 1 ≤ n) {gf : Nat} {lb : Array Value} (hro : F.round = none) (hg : a.eval g = .func (.func gf) #[] lb) (hFg : F.fn gf) (eg : ∀ args w, (callFunc gf args).run P w = .ok (.enter gf args) w)
    {encs : α → Array Value} {Hd : World → (Nat → Prop) → α → World → Prop} {Rd : Nat → Prop} {S Sp : List α → Prop} {N : Nat} {w0 : World} (hseq : SeqD F (n - 1) P gf lb encs Hd Rd S Sp N w0)
    (hHd : ∀ A M M' x W W', Hd A M x W → (∀ k, M' k → M k ∨ k < A.heap.size) → (∀ k cs t z, A.heap.size ≤ k → W.heap[k]? = some (.cells cs t z) → W'.heap[k]? = some (.cells cs t z)) → Hd A M' x W')
    (hRd : ∀ k, Rd k → k < w0.heap.size) (hb0 : Below w0.heap.size w0 w) (hps : ∀ x, (encs x).size = ps.size)
    (I : (Nat → Prop) → List α → World → Prop) (Ix : Code → (Nat → Prop) → List α → World → Prop) (hI : OwnD I) (hIx : ∀ c, OwnD (Ix c)) (h0 : I (fun _ => False) [] w) (a₁ : α → Act)
    (hassign : ∀ (l : Nat) (x : α) (W : World) (K : Act → World → Prop), K (a₁ x) W →
      assign.wpIn (F.inRound l) (n - 1 - 1) P (Exit.then K (fun _ _ _ => False)) { tmps := (ps.zip (encs x)).foldl (fun t (p, v) => t.setIfInBounds p v) a.tmps, defers := [] } W)
    (hbody : ∀ (l : Nat) (M M1 : Nat → Prop) (pre : List α) (x : α) (A W : World), I M pre A → Grow M A W → More M A W M1 → (∀ k, M k → M1 k) → M w.heap.size → M (w.heap.size + 1) → w.heap.size + 2 ≤ A.heap.size → Hd A M1 x W → pre.length < N → l = w.heap.size + 1 → (∃ r, W.heap[l]? = some (.loop r)) → body.wpIn (F.inRound l) (n - 1 - 1) P (ownPostD Rd M1 I Ix (pre ++ [x]) W) (a₁ x) W)
    (hdone : ∀ (M : Nat → Prop) (xs : List α) (W : World), M w.heap.size → S xs → I M xs W → W.heap[w.heap.size]? = some (.deferred (some [])) → Q .normal { a with defers := { target := .collected w.heap.size, args := #[] } :: a.defers } W)
    (hstop : ∀ (M : Nat → Prop) (c : Code) (pre : List α) (W : World), M w.heap.size → Sp pre → Ix c M pre W → W.heap[w.heap.size]? = some (.deferred (some [])) → c.wpIn F n P Q { a with defers := { target := .collected w.heap.size, args := #[] } :: a.defers } W) :
    (Code.rangeFunc g ps assign body).wpIn F n P Q a w := by
  refine wpIn_rangeFunc ?_
  intro fn hfn
  rw [hro]
  obtain ⟨rec, hrec⟩ : ∃ rec : LoopState → Option Code → Loop, rec = fun st pe => { state := st, pending := pe, fn, tmps := a.tmps, params := ps, assign, body, defers := w.heap.size } := ⟨_, rfl⟩
  obtain ⟨W1, hW1⟩ : ∃ W1, (w.alloc (.deferred (some []))).alloc (.loop (rec .ready none)) = W1 := ⟨_, rfl⟩
  have hz1 : W1.heap.size = w.heap.size + 2 := by rw [← hW1]; simp
  have hL1 : W1.heap[w.heap.size + 1]? = some (.loop (rec .ready none)) := by
    rw [← hW1]
    have := World.alloc_heap_new (w.alloc (.deferred (some []))) (.loop (rec .ready none))
    rwa [World.size_alloc] at this
  have hK1 : W1.heap[w.heap.size]? = some (.deferred (some [])) := by
    rw [← hW1]
    exact (Below.heap_alloc _ _ _ (by simp)).trans (World.alloc_heap_new w _)
  have hG1 : Below w.heap.size w W1 := by rw [← hW1]; exact ((Below.refl _ w).alloc (Nat.le_refl _) _).alloc (by simp) _
  have hb1 : Below w0.heap.size w0 W1 := hb0.trans (hG1.mono hb0.size)
  have hRlt : ∀ k, Rd k → k < w.heap.size := fun k hk => Nat.lt_of_lt_of_le (hRd k hk) hb0.size
  have hI1 : I (With w.heap.size (fun _ => False)) [] W1 := hI _ _ _ _ _ h0 (Grow.of_below hG1) (fun k hk => by rcases hk with h | h | h; exact .inl h; exact .inr (by omega); exact .inr (by omega))
  refine ⟨w.heap.size + 1, [{ target := .collected w.heap.size, args := #[] }], W1, { target := .fn (.func gf) lb, args := #[.func (.yield (w.heap.size + 1)) #[] #[]] }, W1, gf,
    #[.func (.yield (w.heap.size + 1)) #[] #[]] ++ lb, W1, ?_, ?_, ?_, ?_, fun _ => h1, ?_⟩
  · rw [← hW1, hrec]; exact run_enterLoop_outer _ _ _ _ _
  · simp only [resolve, hg]
    simp [go_sem]
  · intro f' hf'
    simp [Target.leads] at hf'
    subst hf'
    exact hFg
  · simp [invoke, go_sem, eg]
  · refine (hseq (w.heap.size + 1)
      (fun M pre W => I (With w.heap.size M) pre W ∧ W.heap[w.heap.size + 1]? = some (.loop (rec .ready none)) ∧ W.heap[w.heap.size]? = some (.deferred (some [])) ∧ ¬ M w.heap.size ∧ ¬ M (w.heap.size + 1))
      (fun M pre W => ∃ c, Ix c (With w.heap.size M) pre W ∧ W.heap[w.heap.size + 1]? = some (.loop (rec .done (some c))) ∧ W.heap[w.heap.size]? = some (.deferred (some [])) ∧ ¬ M w.heap.size ∧ ¬ M (w.heap.size + 1))
      W1 hb1 ?_ ?_ ?_ ⟨hI1, hL1, hK1, fun h => h, fun h => h⟩).mono ?_
    · rintro M M1 s A B ⟨hi, hl, hk, n1, n2⟩ hg' hm
      have l1 := (Array.getElem?_eq_some_iff.1 hl).1
      have l2 := (Array.getElem?_eq_some_iff.1 hk).1
      refine ⟨hI _ _ _ _ _ hi (hg'.mono fun k h => .inl h) (fun k h => ?_), (hg'.block _ l1 n2).trans hl, (hg'.block _ l2 n1).trans hk, fun h => ?_, fun h => ?_⟩
      · rcases h with h | h
        · rcases hm k h with h | h
          · exact .inl (.inl h)
          · exact .inr h
        · exact .inl (.inr h)
      · rcases hm _ h with h | h
        · exact n1 h
        · omega
      · rcases hm _ h with h | h
        · exact n2 h
        · omega
    · rintro M M1 s A B ⟨c, hi, hl, hk, n1, n2⟩ hg' hm
      have l1 := (Array.getElem?_eq_some_iff.1 hl).1
      have l2 := (Array.getElem?_eq_some_iff.1 hk).1
      refine ⟨c, hIx c _ _ _ _ _ hi (hg'.mono fun k h => .inl h) (fun k h => ?_), (hg'.block _ l1 n2).trans hl, (hg'.block _ l2 n1).trans hk, fun h => ?_, fun h => ?_⟩
      · rcases h with h | h
        · rcases hm k h with h | h
          · exact .inl (.inl h)
          · exact .inr h
        · exact .inl (.inr h)
      · rcases hm _ h with h | h
        · exact n1 h
        · omega
      · rcases hm _ h with h | h
        · exact n2 h
        · omega
    · rintro M M1 pre x A W ⟨hi, hlA, hkA, n1, n2⟩ hgr hm hsub hx hlen
      have l1 := (Array.getElem?_eq_some_iff.1 hlA).1
      have l2 := (Array.getElem?_eq_some_iff.1 hkA).1
      have hl := (hgr.block _ l1 n2).trans hlA
      have hk := (hgr.block _ l2 n1).trans hkA
      have m1 : ¬ M1 w.heap.size := fun h => by rcases hm _ h with h | h; exact n1 h; omega
      have m2 : ¬ M1 (w.heap.size + 1) := fun h => by rcases hm _ h with h | h; exact n2 h; omega
      have hlt : w.heap.size + 1 < W.heap.size := (Array.getElem?_eq_some_iff.1 hl).1
      have hy := run_yield (P := P) (args := encs x) hl (by rw [hrec]; exact hps x)
      rw [hrec] at hy
      refine ⟨fn, _, assign, body, hy, roundIn_of_wpIn hfn (hassign _ x W _ ⟨_, run_beginRound hl (by rw [hrec]), ?_⟩)⟩
      have hl2 : (W.putObj (w.heap.size + 1) (.loop { rec .ready none with state := .busy })).heap[w.heap.size + 1]? = some (.loop { rec .ready none with state := .busy }) := World.putObj_heap_same hlt
      have hk2 : (W.putObj (w.heap.size + 1) (.loop { rec .ready none with state := .busy })).heap[w.heap.size]? = some (.deferred (some [])) := (World.putObj_heap_other (by omega)).trans hk
      have hgp : Grow (With w.heap.size M) A (W.putObj (w.heap.size + 1) (.loop { rec .ready none with state := .busy })) := (hgr.mono fun k h => .inl h).trans (Grow.put (M := With w.heap.size M) _ (.inr (.inr rfl))) (fun k h => .inl h)
      have hmp : More (With w.heap.size M) A (W.putObj (w.heap.size + 1) (.loop { rec .ready none with state := .busy })) (With w.heap.size M1) := fun k h => by
        rcases h with h | h
        · rcases hm k h with h | h
          · exact .inl (.inl h)
          · exact .inr ⟨h.1, Nat.lt_of_lt_of_le h.2 (grownBy_putObj' W _ _).size⟩
        · exact .inl (.inr h)
      have hxp : Hd A (With w.heap.size M1) x (W.putObj (w.heap.size + 1) (.loop { rec .ready none with state := .busy })) := hHd _ _ _ _ _ _ hx
        (fun k h => by rcases h with h | h; exact .inl h; exact .inr (by omega))
        (fun k cs t z hkk hcs => (World.putObj_heap_other (fun e => by subst e; rw [hl] at hcs; cases hcs)).trans hcs)
      refine wpIn_mono (hbody _ (With w.heap.size M) (With w.heap.size M1) pre x A _ hi hgp hmp (fun k h => by rcases h with h | h; exact .inl (hsub k h); exact .inr h) (.inr (.inl rfl)) (.inr (.inr rfl)) (by omega) hxp hlen rfl ⟨_, hl2⟩) ?_
      have fin : ∀ (jump : Option Code) (W3 : World), KeptD (fun k => With w.heap.size M1 k ∨ Rd k) (W.putObj (w.heap.size + 1) (.loop { rec .ready none with state := .busy })) W3 →
          (Instr.endRound (w.heap.size + 1) jump).run P W3 = .ok (.bool jump.isNone) (W3.putObj (w.heap.size + 1) (.loop (rec (if jump.isNone then .ready else .done) jump))) ∧
          W3.heap[w.heap.size + 1]? = some (.loop { rec .ready none with state := .busy }) ∧
          (W3.putObj (w.heap.size + 1) (.loop (rec (if jump.isNone then .ready else .done) jump))).heap[w.heap.size + 1]? = some (.loop (rec (if jump.isNone then .ready else .done) jump)) ∧
          (W3.putObj (w.heap.size + 1) (.loop (rec (if jump.isNone then .ready else .done) jump))).heap[w.heap.size]? = some (.deferred (some [])) := fun jump W3 hk3 => by
        have hl3 := hk3.2 _ _ (.inl (.inr (.inr rfl))) hl2
        have := run_endRound (P := P) jump hl3
        rw [hrec] at this ⊢
        exact ⟨this, by rw [hrec] at hl3; exact hl3, World.putObj_heap_same (Array.getElem?_eq_some_iff.1 hl3).1, (World.putObj_heap_other (by omega)).trans (hk3.2 _ _ (.inl (.inr (.inl rfl))) hk2)⟩
      have left : ∀ (c : Code) (W3 : World), KeptD (fun k => With w.heap.size M1 k ∨ Rd k) (W.putObj (w.heap.size + 1) (.loop { rec .ready none with state := .busy })) W3 → Ix c (With w.heap.size M1) (pre ++ [x]) W3 → _ := fun c W3 hk3 hi3 => by
        obtain ⟨hr, hl3, hl4, hk4⟩ := fin (some c) W3 hk3
        have mr : ¬ (M1 (w.heap.size + 1) ∨ Rd (w.heap.size + 1)) := fun h => h.elim m2 (fun h => by have := hRlt _ h; omega)
        exact (⟨_, _, hr, .inr ⟨rfl, ⟨c, hIx c _ _ _ _ _ hi3 (Grow.put _ (.inr (.inr rfl))) (More.refl _ _ _), hl4, hk4, m1, m2⟩, ((KeptD.of_grownBy (grownBy_putObj' W _ _) (fun r e => by cases e; exact mr)).trans (hk3.mono fun k h => h.elim (fun h => .inl (.inl h)) .inr)).trans (KeptD.of_grownBy (grownBy_putObj' W3 _ _) (fun r e => by cases e; exact mr))⟩⟩ : ∃ v W4, (Instr.endRound (w.heap.size + 1) (some c)).run P W3 = .ok v W4 ∧ ((Ending.returned v = .returned (.bool true) ∧ (I (With w.heap.size M1) (pre ++ [x]) W4 ∧ W4.heap[w.heap.size + 1]? = some (.loop (rec .ready none)) ∧ W4.heap[w.heap.size]? = some (.deferred (some [])) ∧ ¬ M1 w.heap.size ∧ ¬ M1 (w.heap.size + 1)) ∧ KeptD (fun k => M1 k ∨ Rd k) W W4) ∨ (Ending.returned v = .returned (.bool false) ∧ (∃ c, Ix c (With w.heap.size M1) (pre ++ [x]) W4 ∧ W4.heap[w.heap.size + 1]? = some (.loop (rec .done (some c))) ∧ W4.heap[w.heap.size]? = some (.deferred (some [])) ∧ ¬ M1 w.heap.size ∧ ¬ M1 (w.heap.size + 1)) ∧ KeptD (fun k => M1 k ∨ Rd k) W W4)))
      rintro e a3 W3 hp
      cases e with
      | normal =>
        obtain ⟨hk3, hi3⟩ := hp
        obtain ⟨hr, hl3, hl4, hk4⟩ := fin none W3 hk3
        refine ⟨_, _, hr, .inl ⟨rfl, ⟨hI _ _ _ _ _ hi3 (Grow.put _ (.inr (.inr rfl))) (More.refl _ _ _), hl4, hk4, m1, m2⟩, ?_⟩⟩
        have mr : ¬ (M1 (w.heap.size + 1) ∨ Rd (w.heap.size + 1)) := fun h => h.elim m2 (fun h => by have := hRlt _ h; omega)
        refine ((KeptD.of_grownBy (grownBy_putObj' W _ _) (fun r e => by cases e; exact mr)).trans (hk3.mono fun k h => h.elim (fun h => .inl (.inl h)) .inr)).trans (KeptD.of_grownBy (grownBy_putObj' W3 _ _) (fun r e => by cases e; exact mr))
      | ret => exact left .ret W3 hp.1 hp.2
      | exit id => exact left (.exit id) W3 hp.1 hp.2
      | goto t => exact left (.goto t) W3 hp.1 hp.2
      | panic ch => exact hp.elim
      | outgrown => exact hp.elim
    · rintro e W2 ⟨⟨v, rfl⟩, M, (⟨xs, hS, hi, hl, hk, n1, n2⟩ | ⟨pre, hSp, c, hi, hl, hk, n1, n2⟩)⟩
      · exact ⟨none, _, by have := run_endLoop (P := P) hl (by rw [hrec]; simp); rw [hrec] at this; exact this, hdone _ xs _ (.inr (.inl rfl)) hS (hI _ _ _ _ _ hi (Grow.put _ (.inr (.inr rfl))) (More.refl _ _ _)) ((World.putObj_heap_other (by omega)).trans hk)⟩
      · exact ⟨some c, _, by have := run_endLoop (P := P) hl (by rw [hrec]; simp); rw [hrec] at this; exact this, hstop _ c pre _ (.inr (.inl rfl)) hSp (hIx c _ _ _ _ _ hi (Grow.put _ (.inr (.inr rfl))) (More.refl _ _ _)) ((World.putObj_heap_other (by omega)).trans hk)⟩
/-- a record's block beside M -/
def With1 (B : Nat) (M : Nat → Prop) (k : Nat) : Prop := M k ∨ k = B
theorem wpIn_range_ownN {α : Type} {g : Operand} {ps : Array Tmp} {assign body : Code} {Q : Exit → Act → World → Prop} {a : Act} {w : World}
    (h1 : 1 ≤ n) {gf : Nat} {lb : Array Value} {l₀ : Nat} {r₀ : Loop} (hro : F.round = some l₀) (hr0 : w.heap[l₀]? = some (.loop r₀)) (hg : a.eval g = .func (.func gf) #[] lb) (hFg : F.fn gf) (eg : ∀ args w, (callFunc gf args).run P w = .ok (.enter gf args) w)
    {encs : α → Array Value} {Hd : World → (Nat → Prop) → α → World → Prop} {Rd : Nat → Prop} {S Sp : List α → Prop} {N : Nat} {w0 : World} (hseq : SeqD F (n - 1) P gf lb encs Hd Rd S Sp N w0)
    (hHd : ∀ A M M' x W W', Hd A M x W → (∀ k, M' k → M k ∨ k < A.heap.size) → (∀ k cs t z, A.heap.size ≤ k → W.heap[k]? = some (.cells cs t z) → W'.heap[k]? = some (.cells cs t z)) → Hd A M' x W')
    (hRd : ∀ k, Rd k → k < w0.heap.size) (hb0 : Below w0.heap.size w0 w) (hps : ∀ x, (encs x).size = ps.size)
    (I : (Nat → Prop) → List α → World → Prop) (Ix : Code → (Nat → Prop) → List α → World → Prop) (hI : OwnD I) (hIx : ∀ c, OwnD (Ix c)) (h0 : I (fun _ => False) [] w) (a₁ : α → Act)
    (hassign : ∀ (l : Nat) (x : α) (W : World) (K : Act → World → Prop), K (a₁ x) W →
      assign.wpIn (F.inRound l) (n - 1 - 1) P (Exit.then K (fun _ _ _ => False)) { tmps := (ps.zip (encs x)).foldl (fun t (p, v) => t.setIfInBounds p v) a.tmps, defers := [] } W)
    (hbody : ∀ (l : Nat) (M M1 : Nat → Prop) (pre : List α) (x : α) (A W : World), I M pre A → Grow M A W → More M A W M1 → (∀ k, M k → M1 k) → M w.heap.size → w.heap.size + 1 ≤ A.heap.size → Hd A M1 x W → pre.length < N → body.wpIn (F.inRound l) (n - 1 - 1) P (ownPostD Rd M1 I Ix (pre ++ [x]) W) (a₁ x) W)
    (hdone : ∀ (M : Nat → Prop) (xs : List α) (W : World), M w.heap.size → S xs → I M xs W → Q .normal a W)
    (hstop : ∀ (M : Nat → Prop) (c : Code) (pre : List α) (W : World), M w.heap.size → Sp pre → Ix c M pre W → c.wpIn F n P Q a W) :
    (Code.rangeFunc g ps assign body).wpIn F n P Q a w := by
  refine wpIn_rangeFunc ?_
  intro fn hfn
  rw [hro]
  obtain ⟨rec, hrec⟩ : ∃ rec : LoopState → Option Code → Loop, rec = fun st pe => { state := st, pending := pe, fn, tmps := a.tmps, params := ps, assign, body, defers := r₀.defers } := ⟨_, rfl⟩
  obtain ⟨W1, hW1⟩ : ∃ W1, w.alloc (.loop (rec .ready none)) = W1 := ⟨_, rfl⟩
  have hz1 : W1.heap.size = w.heap.size + 1 := by rw [← hW1]; simp
  have hL1 : W1.heap[w.heap.size]? = some (.loop (rec .ready none)) := by
    rw [← hW1]
    exact World.alloc_heap_new w _
  have hG1 : Below w.heap.size w W1 := by rw [← hW1]; exact (Below.refl _ w).alloc (Nat.le_refl _) _
  have hb1 : Below w0.heap.size w0 W1 := hb0.trans (hG1.mono hb0.size)
  have hRlt : ∀ k, Rd k → k < w.heap.size := fun k hk => Nat.lt_of_lt_of_le (hRd k hk) hb0.size
  have hI1 : I (With1 w.heap.size (fun _ => False)) [] W1 := hI _ _ _ _ _ h0 (Grow.of_below hG1) (fun k hk => by rcases hk with h | h; exact .inl h; exact .inr (by omega))
  refine ⟨w.heap.size, [], W1, { target := .fn (.func gf) lb, args := #[.func (.yield w.heap.size) #[] #[]] }, W1, gf,
    #[.func (.yield w.heap.size) #[] #[]] ++ lb, W1, ?_, ?_, ?_, ?_, fun _ => h1, ?_⟩
  · rw [← hW1, hrec]; exact run_enterLoop_inner hr0 _ _ _ _ _
  · simp only [resolve, hg]
    simp [go_sem]
  · intro f' hf'
    simp [Target.leads] at hf'
    subst hf'
    exact hFg
  · simp [invoke, go_sem, eg]
  · refine (hseq w.heap.size
      (fun M pre W => I (With1 w.heap.size M) pre W ∧ W.heap[w.heap.size]? = some (.loop (rec .ready none)) ∧ ¬ M w.heap.size)
      (fun M pre W => ∃ c, Ix c (With1 w.heap.size M) pre W ∧ W.heap[w.heap.size]? = some (.loop (rec .done (some c))) ∧ ¬ M w.heap.size)
      W1 hb1 ?_ ?_ ?_ ⟨hI1, hL1, fun h => h⟩).mono ?_
    · rintro M M1 s A B ⟨hi, hl, n1⟩ hg' hm
      have l1 := (Array.getElem?_eq_some_iff.1 hl).1
      refine ⟨hI _ _ _ _ _ hi (hg'.mono fun k h => .inl h) (fun k h => ?_), (hg'.block _ l1 n1).trans hl, fun h => ?_⟩
      · rcases h with h | h
        · rcases hm k h with h | h
          · exact .inl (.inl h)
          · exact .inr h
        · exact .inl (.inr h)
      · rcases hm _ h with h | h
        · exact n1 h
        · omega
    · rintro M M1 s A B ⟨c, hi, hl, n1⟩ hg' hm
      have l1 := (Array.getElem?_eq_some_iff.1 hl).1
      refine ⟨c, hIx c _ _ _ _ _ hi (hg'.mono fun k h => .inl h) (fun k h => ?_), (hg'.block _ l1 n1).trans hl, fun h => ?_⟩
      · rcases h with h | h
        · rcases hm k h with h | h
          · exact .inl (.inl h)
          · exact .inr h
        · exact .inl (.inr h)
      · rcases hm _ h with h | h
        · exact n1 h
        · omega
    · rintro M M1 pre x A W ⟨hi, hlA, n1⟩ hgr hm hsub hx hlen
      have l1 := (Array.getElem?_eq_some_iff.1 hlA).1
      have hl := (hgr.block _ l1 n1).trans hlA
      have m1 : ¬ M1 w.heap.size := fun h => by rcases hm _ h with h | h; exact n1 h; omega
      have hlt : w.heap.size < W.heap.size := (Array.getElem?_eq_some_iff.1 hl).1
      have hy := run_yield (P := P) (args := encs x) hl (by rw [hrec]; exact hps x)
      rw [hrec] at hy
      refine ⟨fn, _, assign, body, hy, roundIn_of_wpIn hfn (hassign _ x W _ ⟨_, run_beginRound hl (by rw [hrec]), ?_⟩)⟩
      have hl2 : (W.putObj w.heap.size (.loop { rec .ready none with state := .busy })).heap[w.heap.size]? = some (.loop { rec .ready none with state := .busy }) := World.putObj_heap_same hlt
      have hgp : Grow (With1 w.heap.size M) A (W.putObj w.heap.size (.loop { rec .ready none with state := .busy })) := (hgr.mono fun k h => .inl h).trans (Grow.put (M := With1 w.heap.size M) _ (.inr rfl)) (fun k h => .inl h)
      have hmp : More (With1 w.heap.size M) A (W.putObj w.heap.size (.loop { rec .ready none with state := .busy })) (With1 w.heap.size M1) := fun k h => by
        rcases h with h | h
        · rcases hm k h with h | h
          · exact .inl (.inl h)
          · exact .inr ⟨h.1, Nat.lt_of_lt_of_le h.2 (grownBy_putObj' W _ _).size⟩
        · exact .inl (.inr h)
      have hxp : Hd A (With1 w.heap.size M1) x (W.putObj w.heap.size (.loop { rec .ready none with state := .busy })) := hHd _ _ _ _ _ _ hx
        (fun k h => by rcases h with h | h; exact .inl h; exact .inr (by omega))
        (fun k cs t z hkk hcs => (World.putObj_heap_other (fun e => by subst e; rw [hl] at hcs; cases hcs)).trans hcs)
      refine wpIn_mono (hbody _ (With1 w.heap.size M) (With1 w.heap.size M1) pre x A _ hi hgp hmp (fun k h => by rcases h with h | h; exact .inl (hsub k h); exact .inr h) (.inr rfl) (by omega) hxp hlen) ?_
      have fin : ∀ (jump : Option Code) (W3 : World), KeptD (fun k => With1 w.heap.size M1 k ∨ Rd k) (W.putObj w.heap.size (.loop { rec .ready none with state := .busy })) W3 →
          (Instr.endRound w.heap.size jump).run P W3 = .ok (.bool jump.isNone) (W3.putObj w.heap.size (.loop (rec (if jump.isNone then .ready else .done) jump))) ∧
          W3.heap[w.heap.size]? = some (.loop { rec .ready none with state := .busy }) ∧
          (W3.putObj w.heap.size (.loop (rec (if jump.isNone then .ready else .done) jump))).heap[w.heap.size]? = some (.loop (rec (if jump.isNone then .ready else .done) jump)) := fun jump W3 hk3 => by
        have hl3 := hk3.2 _ _ (.inl (.inr rfl)) hl2
        have := run_endRound (P := P) jump hl3
        rw [hrec] at this ⊢
        exact ⟨this, by rw [hrec] at hl3; exact hl3, World.putObj_heap_same (Array.getElem?_eq_some_iff.1 hl3).1⟩
      have mr : ¬ (M1 w.heap.size ∨ Rd w.heap.size) := fun h => h.elim m1 (fun h => by have := hRlt _ h; omega)
      have left : ∀ (c : Code) (W3 : World), KeptD (fun k => With1 w.heap.size M1 k ∨ Rd k) (W.putObj w.heap.size (.loop { rec .ready none with state := .busy })) W3 → Ix c (With1 w.heap.size M1) (pre ++ [x]) W3 → _ := fun c W3 hk3 hi3 => by
        obtain ⟨hr, hl3, hl4⟩ := fin (some c) W3 hk3
        exact (⟨_, _, hr, .inr ⟨rfl, ⟨c, hIx c _ _ _ _ _ hi3 (Grow.put _ (.inr rfl)) (More.refl _ _ _), hl4, m1⟩, ((KeptD.of_grownBy (grownBy_putObj' W _ _) (fun r e => by cases e; exact mr)).trans (hk3.mono fun k h => h.elim (fun h => .inl (.inl h)) .inr)).trans (KeptD.of_grownBy (grownBy_putObj' W3 _ _) (fun r e => by cases e; exact mr))⟩⟩ : ∃ v W4, (Instr.endRound w.heap.size (some c)).run P W3 = .ok v W4 ∧ ((Ending.returned v = .returned (.bool true) ∧ (I (With1 w.heap.size M1) (pre ++ [x]) W4 ∧ W4.heap[w.heap.size]? = some (.loop (rec .ready none)) ∧ ¬ M1 w.heap.size) ∧ KeptD (fun k => M1 k ∨ Rd k) W W4) ∨ (Ending.returned v = .returned (.bool false) ∧ (∃ c, Ix c (With1 w.heap.size M1) (pre ++ [x]) W4 ∧ W4.heap[w.heap.size]? = some (.loop (rec .done (some c))) ∧ ¬ M1 w.heap.size) ∧ KeptD (fun k => M1 k ∨ Rd k) W W4)))
      rintro e a3 W3 hp
      cases e with
      | normal =>
        obtain ⟨hk3, hi3⟩ := hp
        obtain ⟨hr, hl3, hl4⟩ := fin none W3 hk3
        refine ⟨_, _, hr, .inl ⟨rfl, ⟨hI _ _ _ _ _ hi3 (Grow.put _ (.inr rfl)) (More.refl _ _ _), hl4, m1⟩, ?_⟩⟩
        refine ((KeptD.of_grownBy (grownBy_putObj' W _ _) (fun r e => by cases e; exact mr)).trans (hk3.mono fun k h => h.elim (fun h => .inl (.inl h)) .inr)).trans (KeptD.of_grownBy (grownBy_putObj' W3 _ _) (fun r e => by cases e; exact mr))
      | ret => exact left .ret W3 hp.1 hp.2
      | exit id => exact left (.exit id) W3 hp.1 hp.2
      | goto t => exact left (.goto t) W3 hp.1 hp.2
      | panic ch => exact hp.elim
      | outgrown => exact hp.elim
    · rintro e W2 ⟨⟨v, rfl⟩, M, (⟨xs, hS, hi, hl, n1⟩ | ⟨pre, hSp, c, hi, hl, n1⟩)⟩
      · exact ⟨none, _, by have := run_endLoop (P := P) hl (by rw [hrec]; simp); rw [hrec] at this; exact this, hdone _ xs _ (.inr rfl) hS (hI _ _ _ _ _ hi (Grow.put _ (.inr rfl)) (More.refl _ _ _))⟩
      · exact ⟨some c, _, by have := run_endLoop (P := P) hl (by rw [hrec]; simp); rw [hrec] at this; exact this, hstop _ c pre _ (.inr rfl) hSp (hIx c _ _ _ _ _ hi (Grow.put _ (.inr rfl)) (More.refl _ _ _))⟩
end Go.Proofs.YtamefocngapkpaaOwn
/-! text YtamefocngapkpaaFrames -/
namespace Go.Proofs.YtamefocngapkpaaOwn
open Go Go.RowKit Go.Proofs.YtamefocngapkpaaW.PrintWords
set_option linter.unusedVariables false
/-- since w: new blocks alone; those of l lie as told -/
structure St (w : World) (l : List (Nat × Obj)) (W : World) : Prop where
  hB : Below w.heap.size w W
  nd : (l.map (·.1)).Nodup
  held : ∀ p ∈ l, w.heap.size ≤ p.1 ∧ W.heap[p.1]? = some p.2
section
variable {w W W1 : World} {l : List (Nat × Obj)}
theorem St.start (h : Below w.heap.size w W) : St w [] W := ⟨h, List.nodup_nil, fun _ h => by cases h⟩
theorem St.lt (h : St w l W) {p : Nat × Obj} (hp : p ∈ l) : p.1 < W.heap.size := (Array.getElem?_eq_some_iff.1 (h.held p hp).2).1
theorem St.blk (h : St w l W) (i : Nat) {b : Nat} {o : Obj} (hi : l[i]? = some (b, o)) : W.heap[b]? = some o := (h.held (b, o) (List.mem_of_getElem? hi)).2
theorem St.ge (h : St w l W) (i : Nat) {b : Nat} {o : Obj} (hi : l[i]? = some (b, o)) : w.heap.size ≤ b := (h.held (b, o) (List.mem_of_getElem? hi)).1
theorem St.blt (h : St w l W) (i : Nat) {b : Nat} {o : Obj} (hi : l[i]? = some (b, o)) : b < W.heap.size := h.lt (List.mem_of_getElem? hi)
theorem St.move (h : St w l W) (hb : Below w.heap.size w W1) (hm : ∀ p ∈ l, W1.heap[p.1]? = W.heap[p.1]?) : St w l W1 := ⟨hb, h.nd, fun p hp => ⟨(h.held p hp).1, (hm p hp).trans (h.held p hp).2⟩⟩
theorem St.new (h : St w l W) (o : Obj) : St w ((W.heap.size, o) :: l) (W.alloc o) := by
  refine ⟨below_alloc h.hB o, ?_, fun p hp => ?_⟩
  · rw [List.map_cons, List.nodup_cons]
    refine ⟨fun hm => ?_, h.nd⟩
    obtain ⟨q, hq, e⟩ := List.mem_map.1 hm
    have := h.lt hq
    simp only at e
    omega
  · rcases List.mem_cons.1 hp with rfl | hp
    · exact ⟨h.hB.size, World.alloc_heap_new W o⟩
    · exact ⟨(h.held p hp).1, (Below.heap_alloc W o p.1 (h.lt hp)).trans (h.held p hp).2⟩
theorem St.keep (h : St w l W) (k : Below W.heap.size W W1) : St w l W1 := h.move (below_step h.hB k) fun p hp => k.block p.1 (h.lt hp)
theorem St.grow {M : Nat → Prop} (h : St w l W) (hg : Grow M W W1) (hM : ∀ k, M k → w.heap.size ≤ k ∧ ∀ p ∈ l, p.1 ≠ k) : St w l W1 :=
  h.move (h.hB.trans (hg.below h.hB.size fun k hk => (hM k hk).1)) fun p hp => hg.block p.1 (h.lt hp) fun hk => (hM _ hk).2 p hp rfl
theorem St.growN {M : Nat → Prop} (h : St w l W) (hg : Grow M W W1) {n : Nat} (hM : ∀ k, M k → n ≤ k) (hw : w.heap.size ≤ n) (hl : ∀ p ∈ l, p.1 < n) : St w l W1 := h.grow hg fun k hk => ⟨Nat.le_trans hw (hM k hk), fun p hp => by have := hl p hp; have := hM k hk; omega⟩
theorem St.far (h : St w l W) {p : Addr} (hp : w.heap.size ≤ p.block) (hl : ∀ q ∈ l, q.1 ≠ p.block) (u : Value) : St w l (W.setCell p u) := h.move (h.hB.setCell hp u) fun q hq => Below.heap_setCell W p u q.1 (hl q hq)
theorem St.grown {row : Option Nat} (h : St w l W) (hg : W.grownBy W1 row) (hr : ∀ k, row = some k → w.heap.size ≤ k ∧ ∀ p ∈ l, p.1 ≠ k) : St w l W1 := h.grow (M := fun k => row = some k) (Grow.of_grownBy hg fun _ e => e) hr
theorem St.put (h : St w l W) (i : Nat) {b t : Nat} {cs cs' : Array Value} (hi : l[i]? = some (b, .cells cs t (0, 0))) (j : Nat) (u : Value) (e : cs.setIfInBounds j u = cs') : St w (l.set i (b, .cells cs' t (0, 0))) (W.setCell ⟨b, j, none⟩ u) := by
  have hm := List.mem_of_getElem? hi
  obtain ⟨hil, hie⟩ := List.getElem?_eq_some_iff.1 hi
  have hkeys : (l.set i (b, .cells cs' t (0, 0))).map (·.1) = l.map (·.1) := by
    rw [List.map_set]
    apply List.ext_getElem?
    intro k
    rw [List.getElem?_set]
    split
    · rename_i hk
      subst hk
      split
      · rw [List.getElem?_map, hi]; rfl
      · rename_i hn
        simp at hn
        omega
    · rfl
  refine ⟨h.hB.setCell (p := ⟨b, j, none⟩) (h.held _ hm).1 u, by rw [hkeys]; exact h.nd, fun p hp => ?_⟩
  obtain ⟨k, hk⟩ := List.getElem?_of_mem hp
  rw [List.getElem?_set] at hk
  split at hk
  · rename_i hik
    subst hik
    injection hk with hk
    subst hk
    exact ⟨(h.held _ hm).1, blk_put (h.held _ hm).2 j u e⟩
  · rename_i hik
    have hpm := List.mem_of_getElem? hk
    refine ⟨(h.held p hpm).1, (Below.heap_setCell W ⟨b, j, none⟩ u p.1 ?_).trans (h.held p hpm).2⟩
    intro e2
    apply hik
    have hnd := h.nd
    have h1 : (l.map (·.1))[i]? = some b := by rw [List.getElem?_map, hi]; rfl
    have h2 : (l.map (·.1))[k]? = some b := by rw [List.getElem?_map, hk]; exact congrArg some e2
    have hi' : i < (l.map (·.1)).length := (List.getElem?_eq_some_iff.1 h1).1
    have hk' : k < (l.map (·.1)).length := (List.getElem?_eq_some_iff.1 h2).1
    have e3 : (l.map (·.1))[i] = (l.map (·.1))[k] := by
      have a1 := (List.getElem?_eq_some_iff.1 h1).2
      have a2 := (List.getElem?_eq_some_iff.1 h2).2
      rw [a1, a2]
    have hp2 := List.pairwise_iff_getElem.1 hnd
    rcases Nat.lt_trichotomy i k with h4 | h4 | h4
    · exact absurd e3 (hp2 i k hi' hk' h4)
    · exact h4
    · exact absurd e3.symm (hp2 k i hk' hi' h4)
theorem St.cell (h : St w l W) (i j : Nat) {b t : Nat} {cs : Array Value} (hi : l[i]? = some (b, .cells cs t (0, 0))) : W.cell? ⟨b, j, none⟩ = cs[j]? := blk_cell (h.blk i hi) j
theorem St.frozen (h : St w l W) (i j : Nat) {b t : Nat} {cs : Array Value} (hi : l[i]? = some (b, .cells cs t (0, 0))) : W.frozen? ⟨b, j, none⟩ = false := blk_frozen (h.blk i hi) j
theorem St.sub {l' : List (Nat × Obj)} (h : St w l W) (hs : l'.Sublist l) : St w l' W := ⟨h.hB, (hs.map _).nodup h.nd, fun p hp => h.held p (hs.subset hp)⟩
end
/-- blocks told one by one, and what holds as long as the blocks of FP lie as they lie -/
structure Fr (w : World) (l : List (Nat × Obj)) (FP : Nat → Prop) (X : World → Prop) (W : World) : Prop where
  st : St w l W
  fp : ∀ k, FP k → k < W.heap.size
  stable : ∀ W1 : World, W.heap.size ≤ W1.heap.size → (∀ k, FP k → W1.heap[k]? = W.heap[k]?) → X W1
section
variable {w W W1 : World} {l : List (Nat × Obj)} {FP : Nat → Prop} {X : World → Prop}
theorem Fr.x (h : Fr w l FP X W) : X W := h.stable W (Nat.le_refl _) fun _ _ => rfl
theorem Fr.move (h : Fr w l FP X W) (hs : St w l W1) (hz : W.heap.size ≤ W1.heap.size) (hm : ∀ k, FP k → W1.heap[k]? = W.heap[k]?) : Fr w l FP X W1 :=
  ⟨hs, fun k hk => Nat.lt_of_lt_of_le (h.fp k hk) hz, fun W2 h2 hm2 => h.stable W2 (Nat.le_trans hz h2) fun k hk => (hm2 k hk).trans (hm k hk)⟩
theorem Fr.move' {l' : List (Nat × Obj)} (h : Fr w l FP X W) (hs : St w l' W1) (hz : W.heap.size ≤ W1.heap.size) (hm : ∀ k, FP k → W1.heap[k]? = W.heap[k]?) : Fr w l' FP X W1 :=
  ⟨hs, fun k hk => Nat.lt_of_lt_of_le (h.fp k hk) hz, fun W2 h2 hm2 => h.stable W2 (Nat.le_trans hz h2) fun k hk => (hm2 k hk).trans (hm k hk)⟩
theorem Fr.new (h : Fr w l FP X W) (o : Obj) : Fr w ((W.heap.size, o) :: l) FP X (W.alloc o) := h.move' (h.st.new o) (by simp) fun k hk => Below.heap_alloc W o k (h.fp k hk)
theorem Fr.keep (h : Fr w l FP X W) (k : Below W.heap.size W W1) : Fr w l FP X W1 := h.move (h.st.keep k) k.size fun j hj => k.block j (h.fp j hj)
theorem Fr.grow {M : Nat → Prop} (h : Fr w l FP X W) (hg : Grow M W W1) (hM : ∀ k, M k → w.heap.size ≤ k ∧ ¬ FP k ∧ ∀ p ∈ l, p.1 ≠ k) : Fr w l FP X W1 :=
  h.move (h.st.grow hg fun k hk => ⟨(hM k hk).1, (hM k hk).2.2⟩) hg.size fun k hk => hg.block k (h.fp k hk) fun hk2 => (hM k hk2).2.1 hk
theorem Fr.growN {M : Nat → Prop} (h : Fr w l FP X W) (hg : Grow M W W1) {n : Nat} (hM : ∀ k, M k → n ≤ k) (hw : w.heap.size ≤ n) (hf : ∀ k, FP k → k < n) (hl : ∀ p ∈ l, p.1 < n) : Fr w l FP X W1 :=
  h.grow hg fun k hk => ⟨Nat.le_trans hw (hM k hk), fun h2 => by have := hf k h2; have := hM k hk; omega, fun p hp => by have := hl p hp; have := hM k hk; omega⟩
theorem Fr.far (h : Fr w l FP X W) {p : Addr} (hp : w.heap.size ≤ p.block) (hf : ¬ FP p.block) (hl : ∀ q ∈ l, q.1 ≠ p.block) (u : Value) : Fr w l FP X (W.setCell p u) :=
  h.move (h.st.far hp hl u) ((Below.refl 0 W).setCell (p := p) (Nat.zero_le _) u).size fun k hk => Below.heap_setCell W p u k fun e => hf (by have e2 : k = _ := e; subst e2; exact hk)
theorem Fr.put (h : Fr w l FP X W) (i : Nat) {b t : Nat} {cs cs' : Array Value} (hi : l[i]? = some (b, .cells cs t (0, 0))) (hf : ¬ FP b) (j : Nat) (u : Value) (e : cs.setIfInBounds j u = cs') : Fr w (l.set i (b, .cells cs' t (0, 0))) FP X (W.setCell ⟨b, j, none⟩ u) :=
  h.move' (h.st.put i hi j u e) ((Below.refl 0 W).setCell (p := ⟨b, j, none⟩) (Nat.zero_le _) u).size fun k hk => Below.heap_setCell W ⟨b, j, none⟩ u k fun e => hf (by have e2 : k = _ := e; subst e2; exact hk)
theorem Fr.sub {l' : List (Nat × Obj)} (h : Fr w l FP X W) (hs : l'.Sublist l) : Fr w l' FP X W := ⟨h.st.sub hs, h.fp, h.stable⟩
/-- facts with footprints, taken together -/
theorem Fr.and {FP' : Nat → Prop} {X' : World → Prop} (h : Fr w l FP X W) (hf : ∀ k, FP' k → k < W.heap.size) (hx : ∀ W1 : World, W.heap.size ≤ W1.heap.size → (∀ k, FP' k → W1.heap[k]? = W.heap[k]?) → X' W1) : Fr w l (fun k => FP k ∨ FP' k) (fun W => X W ∧ X' W) W :=
  ⟨h.st, fun k hk => hk.elim (h.fp k) (hf k), fun W1 hz hm => ⟨h.stable W1 hz fun k hk => hm k (.inl hk), hx W1 hz fun k hk => hm k (.inr hk)⟩⟩
theorem Fr.start (h : St w l W) : Fr w l (fun _ => False) (fun _ => True) W := ⟨h, fun _ h => h.elim, fun _ _ _ => trivial⟩
theorem Fr.x_of {FP' : Nat → Prop} {X' : World → Prop} (h : Fr w l FP X W) (hf : ∀ k, FP k → FP' k) (hx : ∀ W, X W → X' W) (hz : ∀ k, FP' k → k < W.heap.size) : Fr w l FP' X' W :=
  ⟨h.st, hz, fun W1 h1 h2 => hx W1 (h.stable W1 h1 fun k hk => h2 k (hf k hk))⟩
end
/-- a sequence that gives what S says, as long as its blocks Rd lie as they lie -/
def SQg {α : Type} (F : Fence) (n : Nat) (P : Program) (g : Nat) (lb : Array Value) (encs : α → Array Value) (Hd : World → (Nat → Prop) → α → World → Prop) (Rd : Nat → Prop) (S Sp : List α → Prop) (N : Nat) (W : World) : Prop :=
  (∀ k, Rd k → k < W.heap.size) ∧ ∀ W1 : World, W.heap.size ≤ W1.heap.size → (∀ k, Rd k → W1.heap[k]? = W.heap[k]?) → SeqD F n P g lb encs Hd Rd S Sp N W1
theorem SQg.step {α : Type} {F : Fence} {n : Nat} {P : Program} {g : Nat} {lb : Array Value} {encs : α → Array Value} {Hd : World → (Nat → Prop) → α → World → Prop} {Rd : Nat → Prop} {S Sp : List α → Prop} {N : Nat} {W W1 : World} (h : SQg F n P g lb encs Hd Rd S Sp N W) (hz : W.heap.size ≤ W1.heap.size) (hm : ∀ k, Rd k → W1.heap[k]? = W.heap[k]?) : SQg F n P g lb encs Hd Rd S Sp N W1 :=
  ⟨fun k hk => Nat.lt_of_lt_of_le (h.1 k hk) hz, fun W2 h2 hm2 => h.2 W2 (Nat.le_trans hz h2) fun k hk => (hm2 k hk).trans (hm k hk)⟩
theorem SQg.now {α : Type} {F : Fence} {n : Nat} {P : Program} {g : Nat} {lb : Array Value} {encs : α → Array Value} {Hd : World → (Nat → Prop) → α → World → Prop} {Rd : Nat → Prop} {S Sp : List α → Prop} {N : Nat} {W : World} (h : SQg F n P g lb encs Hd Rd S Sp N W) : SeqD F n P g lb encs Hd Rd S Sp N W := h.2 W (Nat.le_refl _) fun _ _ => rfl
/-- one element more behind a row of one's own: the element lies in a new block -/
theorem R_push {α : Type} {P : Program} (d : Kd α) (t ty e : TypeId) (z : Value) (bytes : Nat) (ht : P.underlying t = some (.slice e)) (hinfo : (P.info? e).map (fun i => (i.zero, i.size, i.bytes)) = some (some z, d.sz, bytes)) (hz : z.cells.size = d.sz) (hs0 : 0 < d.sz)
    {W : World} {base : Nat} {ok okp : Nat → Prop} {v : Value} {xs : List α} {p : α} {cs : List Value} (hR : d.R e W base ok v xs) (hp : d.M W base okp p cs) (hokp : ∀ k, okp k → ok k ∧ some k ≠ v.ownBlock) (hfresh : ∀ k, W.heap.size ≤ k → ok k) (hbase : base ≤ W.heap.size) (hl : (xs.length + 1) * bytes ≤ 140737488355328) (hb0 : 0 < bytes) :
    ∃ v1 w1, (Builtin.append_ #[t, t] ty #[v, .slice (some ⟨W.heap.size, 0, none⟩) 1 1]).run P (W.alloc (.cells cs.toArray e)) = .ok v1 w1 ∧ d.R e w1 base ok v1 (xs ++ [p]) ∧ W.grownBy w1 v.ownBlock ∧ (v1.ownBlock = v.ownBlock ∨ ∃ b, v1.ownBlock = some b ∧ W.heap.size ≤ b) := by
  obtain ⟨h0, inner, hown, hr⟩ := hR
  obtain ⟨i0, hi, hzz⟩ := Option.map_eq_some_iff.1 hinfo
  simp only [Prod.mk.injEq] at hzz
  obtain ⟨hz0, hz1, hz2⟩ := hzz
  have hcl := d.K_len (d.K_of_M hp)
  have hone := d.K_one (d.K_of_M hp)
  have hown2 : (W.alloc (.cells cs.toArray e)).ownsRow base e d.sz v xs.length inner := own_move hown fun k hk => Below.heap_alloc _ _ _ (own_lt hown k hk)
  obtain ⟨v1, w1, hrun, ho1, hg1, _, hat⟩ := run_append_own_at (P := P) (W.alloc (.cells cs.toArray e)) base t ty e i0 z d.sz bytes ht hi hz0 hz1 hz2 hz hs0 v xs.length inner hown2 ⟨W.heap.size, 0, none⟩ 1 1 cs (by omega) (fun j u hj => by
    have hb := World.alloc_heap_new W (.cells cs.toArray e)
    have hc := blk_cell (t := e) hb j
    have ha : (⟨W.heap.size, 0, none⟩ : Addr).add j = ⟨W.heap.size, j, none⟩ := by rw [add_at, Nat.zero_add]
    rw [ha, hc]
    simpa using hj) hone (by
      have : xs.length + 1 ≤ (xs.length + 1) * bytes := Nat.le_mul_of_pos_right _ hb0
      simp only [maxLen]
      omega) hl (by simp; omega)
  have hgW : W.grownBy w1 v.ownBlock := (World.grownBy_alloc W (.cells cs.toArray e) v.ownBlock).trans hg1
  have hatW : v1.ownBlock = v.ownBlock ∨ ∃ b, v1.ownBlock = some b ∧ W.heap.size ≤ b := by
    rcases hat with h | h
    · exact .inl h
    · exact .inr ⟨_, h, by simp⟩
  exact ⟨v1, w1, hrun, Kd.R_appended h0 hr hp hokp hfresh ho1 hgW hatW, hgW, hatW⟩
/-- an append whose run is known -/
theorem wpIn_append_run {F : Fence} {n : Nat} {P : Program} {o : Oper} {a : Act} {w w' : World} {K : Act → World → Prop} {Q : Exit → Act → World → Prop} (s x : Operand) (t : TypeId) (hop : o.op = Op.call { callee := Callee.builtin Builtin.append, args := #[s, x], argTypes := #[t, t] })
    {v vx v' : Value} (hs : a.eval s = v) (hx : a.eval x = vx) (hrun : (Builtin.append_ #[t, t] o.type #[v, vx]).run P w = .ok v' w') (h : K (a.put o.dst v') w') : Oper.wpIn F n P o a w K Q := by
  unfold Oper.wpIn
  refine ⟨?_, ?_⟩
  · simp [Oper.about, hop, resolve, Target.leads, Sem.run_pure]
  · rw [Oper.semAt_plain F _ _ (by rw [hop]; intro c hc'; cases hc')]
    simp [execOp, hop, resolve, invoke, builtin, hs, hx, hrun, Result.andThen]
    exact h
theorem wpListIn_append_run {F : Fence} {n : Nat} {P : Program} {ops : Array Oper} {rest : List Oper} {o : Oper} {a : Act} {w w' : World} {Q : Exit → Act → World → Prop} (hg : o.guard = none) (s x : Operand) (t : TypeId) (hop : o.op = Op.call { callee := Callee.builtin Builtin.append, args := #[s, x], argTypes := #[t, t] })
    {v vx v' : Value} (hs : a.eval s = v) (hx : a.eval x = vx) (hrun : (Builtin.append_ #[t, t] o.type #[v, vx]).run P w = .ok v' w') (h : wpListIn F n P ops Q rest (a.put o.dst v') w') : wpListIn F n P ops Q (o :: rest) a w :=
  wpListIn_plain hg fun K hK' => wpIn_append_run s x t hop hs hx hrun (hK' _ _ h)
end Go.Proofs.YtamefocngapkpaaOwn
