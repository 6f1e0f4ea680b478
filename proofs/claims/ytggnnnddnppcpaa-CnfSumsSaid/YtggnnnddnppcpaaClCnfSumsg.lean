/- A range over a function whose iterator keeps a variable of its own in cells (the block that it makes first), and hands out rows: the contract of such an iterator, and the law for the loop over it. (The proof goes by the steps of the kit's law wpIn_rangeFunc_ownG; what is new: the iterator may turn that one block, and the body is told what the handed row holds.) -/
import Derived.RangeFuncWrites
import Derived.RangeFuncCalls
import Derived.Test.YtggnnnddnppcpaaClCnfSumse
import Derived.Test.YtggnnnddnppcpaaClCnfSumsf
import Derived.RangeFuncNested
import Derived.RangeFuncBound
import Derived.RangeFuncLeaves
import Derived.Shelf.Abstract
import Derived.Shelf.RegionOpen
import Derived.OwnWalkIn
import Derived.TacticsInMore
import Derived.LoopNIn
import Derived.LoopIn
/-! text YtggnnnddnppcpaaRangeCells -/
namespace Go.Proofs.YtggnnnddnppcpaaCells
open Go Go.RowKit
set_option linter.unusedVariables false
variable {F : Fence} {n : Nat} {P : Program}

/-- J abides whatever grows, and each turn of block B. -/
def AbidesM {β : Type} (B : Nat) (J : β → World → Prop) : Prop := ∀ s W W' row, J s W → W.grownBy W' row → (∀ r, row = some r → r = B) → J s W'
/-- the iterator's contract: block W.heap.size is its own -/
def SeqStopsM {α : Type} (F : Fence) (n : Nat) (P : Program) (g : Nat) (lb : Array Value) (encs : α → Array Value) (Hd : α → World → Prop) (Kp : World → World → Prop) (S Sp : List α → Prop) (N : Nat) (w : World) : Prop :=
  ∀ (l : Nat) (J Jx : List α → World → Prop) (W : World), Below w.heap.size w W → AbidesM W.heap.size J → AbidesM W.heap.size Jx →
    (∀ pre x W1, J pre W1 → Hd x W1 → pre.length < N → YieldAt F (n - 1) P l (encs x) W1 fun e W' =>
      (e = .returned (.bool true) ∧ J (pre ++ [x]) W' ∧ Kp W1 W') ∨ (e = .returned (.bool false) ∧ Jx (pre ++ [x]) W')) →
    J [] W →
    CallsIn F n P g (#[.func (.yield l) #[] #[]] ++ lb) W fun e W' => (∃ v, e = .returned v) ∧ ((∃ xs, S xs ∧ J xs W') ∨ (∃ pre, Sp pre ∧ Jx pre W'))
/-- the caller's invariant: it abides turns of blocks from B on that hold no cells, and of block B + 2 -/
def OwnM {β : Type} (B : Nat) (I : β → World → Prop) : Prop :=
  ∀ s W W' row, I s W → W.grownBy W' row → (∀ r, row = some r → B ≤ r ∧ (r = B + 2 ∨ ∃ o : Obj, W.heap[r]? = some o ∧ o.isCells = false)) → I s W'
theorem OwnM.put {β : Type} {B : Nat} {I : β → World → Prop} (h : OwnM B I) {s : β} {W : World} {l : Nat} {o : Obj} (o' : Obj) (hs : I s W) (hB : B ≤ l) (hl : W.heap[l]? = some o) (ho : o.isCells = false) : I s (W.putObj l o') :=
  h s W _ (some l) hs (grownBy_putObj' W l o') (fun r e => by cases e; exact ⟨hB, .inr ⟨o, hl, ho⟩⟩)
theorem OwnM.new {β : Type} {B : Nat} {I : β → World → Prop} (h : OwnM B I) {s : β} {W : World} (o : Obj) (hs : I s W) : I s (W.alloc o) :=
  h s W _ none hs (World.grownBy_alloc W o none) (fun r e => by cases e)
theorem OwnM.and {β : Type} {B : Nat} {I I' : β → World → Prop} (h : OwnM B I) (h' : OwnM B I') : OwnM B (fun s W => I s W ∧ I' s W) := fun s W W' row hs hg hr => ⟨h s W W' row hs.1 hg hr, h' s W W' row hs.2 hg hr⟩

theorem wpIn_range_cells {α : Type} {g : Operand} {ps : Array Tmp} {assign body : Code} {Q : Exit → Act → World → Prop} {a : Act} {w : World}
    (hro : F.round = none) (h1 : 1 ≤ n) {gf : Nat} {lb : Array Value} (hg : a.eval g = .func (.func gf) #[] lb) (hFg : F.fn gf) (eg : ∀ args w, (callFunc gf args).run P w = .ok (.enter gf args) w)
    {encs : α → Array Value} {Hd : α → World → Prop} {Kp : World → World → Prop} {S Sp : List α → Prop} {N : Nat} {w0 : World} (hseq : SeqStopsM F (n - 1) P gf lb encs Hd Kp S Sp N w0)
    (hKt : ∀ {A B C : World}, Kp A B → Kp B C → Kp A C) (hKb : ∀ (W : World) (l : Nat) (o o' : Obj), w.heap.size ≤ l → W.heap[l]? = some o → o.isCells = false → Kp W (W.putObj l o'))
    (hHd : ∀ x (W : World) (l : Nat) (o o' : Obj), W.heap[l]? = some o → o.isCells = false → Hd x W → Hd x (W.putObj l o'))
    (hb0 : Below w0.heap.size w0 w) (hps : ∀ x, (encs x).size = ps.size)
    (I : List α → World → Prop) (Ix : Code → List α → World → Prop) (hI : OwnM w.heap.size I) (hIx : ∀ c, OwnM w.heap.size (Ix c)) (h0 : I [] w) (a₁ : α → Act)
    (hassign : ∀ (l : Nat) (x : α) (W : World) (K : Act → World → Prop), K (a₁ x) W →
      assign.wpIn (F.inRound l) (n - 1 - 1) P (Exit.then K (fun _ _ _ => False)) { tmps := (ps.zip (encs x)).foldl (fun t (p, v) => t.setIfInBounds p v) a.tmps, defers := [] } W)
    (hbody : ∀ (l : Nat) (pre : List α) (x : α) (W : World), I pre W → Hd x W → pre.length < N → body.wpIn (F.inRound l) (n - 1 - 1) P (ownPostG w.heap.size Kp I Ix (pre ++ [x]) W) (a₁ x) W)
    (hdone : ∀ (D : Nat) (xs : List α) (W : World), w.heap.size ≤ D → S xs → I xs W → W.heap[D]? = some (.deferred (some [])) → Q .normal { a with defers := { target := .collected D, args := #[] } :: a.defers } W)
    (hstop : ∀ (D : Nat) (c : Code) (pre : List α) (W : World), w.heap.size ≤ D → Sp pre → Ix c pre W → W.heap[D]? = some (.deferred (some [])) → c.wpIn F n P Q { a with defers := { target := .collected D, args := #[] } :: a.defers } W) :
    (Code.rangeFunc g ps assign body).wpIn F n P Q a w := by
  refine wpIn_rangeFunc ?_
  intro fn hfn
  rw [hro]
  obtain ⟨rec, hrec⟩ : ∃ rec : LoopState → Option Code → Loop, rec = fun st pe => { state := st, pending := pe, fn, tmps := a.tmps, params := ps, assign, body, defers := w.heap.size } := ⟨_, rfl⟩
  obtain ⟨W1, hW1⟩ : ∃ W1, (w.alloc (.deferred (some []))).alloc (.loop (rec .ready none)) = W1 := ⟨_, rfl⟩
  have hz1 : W1.heap.size = w.heap.size + 2 := by rw [← hW1]; simp
  have hL1 : W1.heap[w.heap.size + 1]? = some (.loop (rec .ready none)) := by
    rw [← hW1]
    have := World.alloc_heap_new (w.alloc (.deferred (some []))) (.loop (rec .ready none))
    rwa [World.size_alloc] at this
  have hK1 : W1.heap[w.heap.size]? = some (.deferred (some [])) := by
    rw [← hW1]
    exact (Below.heap_alloc _ _ _ (by simp)).trans (World.alloc_heap_new w _)
  have hI1 : I [] W1 := by rw [← hW1]; exact hI.new _ (hI.new _ h0)
  have hb1 : Below w0.heap.size w0 W1 := by
    rw [← hW1]
    exact hb0.trans ((((Below.refl _ w).alloc (Nat.le_refl _) _).alloc (by simp) _).mono hb0.size)
  have hrow : ∀ {row : Option Nat} {A : World}, (∀ r, row = some r → r = W1.heap.size) → (∀ r, row = some r → w.heap.size ≤ r ∧ (r = w.heap.size + 2 ∨ ∃ o : Obj, A.heap[r]? = some o ∧ o.isCells = false)) :=
    fun hr r e => by have := hr r e; exact ⟨by omega, .inl (by omega)⟩
  have hold : ∀ {row : Option Nat} {A B : World} {k : Nat} {o : Obj}, A.grownBy B row → (∀ r, row = some r → r = W1.heap.size) → k < w.heap.size + 2 → A.heap[k]? = some o → B.heap[k]? = some o :=
    fun hg' hr hk ho => (hg'.block _ (Array.getElem?_eq_some_iff.1 ho).1 (fun e => by have := hr _ e.symm; omega)).trans ho
  refine ⟨w.heap.size + 1, [{ target := .collected w.heap.size, args := #[] }], W1, { target := .fn (.func gf) lb, args := #[.func (.yield (w.heap.size + 1)) #[] #[]] }, W1, gf,
    #[.func (.yield (w.heap.size + 1)) #[] #[]] ++ lb, W1, ?_, ?_, ?_, ?_, fun _ => h1, ?_⟩
  · rw [← hW1, hrec]; exact run_enterLoop_outer _ _ _ _ _
  · simp only [resolve, hg]
    simp [go_sem]
  · intro f' hf'
    simp [Target.leads] at hf'
    subst hf'
    exact hFg
  · simp [invoke, go_sem, eg]
  · refine (hseq (w.heap.size + 1)
      (fun pre W => I pre W ∧ W.heap[w.heap.size + 1]? = some (.loop (rec .ready none)) ∧ W.heap[w.heap.size]? = some (.deferred (some [])))
      (fun pre W => ∃ c, Ix c pre W ∧ W.heap[w.heap.size + 1]? = some (.loop (rec .done (some c))) ∧ W.heap[w.heap.size]? = some (.deferred (some [])))
      W1 hb1
      (fun s A B row hs hg' hr => ⟨hI s A B row hs.1 hg' (hrow hr), hold hg' hr (by omega) hs.2.1, hold hg' hr (by omega) hs.2.2⟩)
      (fun s A B row hs hg' hr => by
        obtain ⟨c, hc, hl, hk⟩ := hs
        exact ⟨c, hIx c s A B row hc hg' (hrow hr), hold hg' hr (by omega) hl, hold hg' hr (by omega) hk⟩)
      ?_ ⟨hI1, hL1, hK1⟩).mono ?_
    · rintro pre x W ⟨hi, hl, hk⟩ hx hlen
      have hlt : w.heap.size + 1 < W.heap.size := (Array.getElem?_eq_some_iff.1 hl).1
      have hy := run_yield (P := P) (args := encs x) hl (by rw [hrec]; exact hps x)
      rw [hrec] at hy
      refine ⟨fn, _, assign, body, hy, roundIn_of_wpIn hfn (hassign _ x W _ ⟨_, run_beginRound hl (by rw [hrec]), ?_⟩)⟩
      have hl2 : (W.putObj (w.heap.size + 1) (.loop { rec .ready none with state := .busy })).heap[w.heap.size + 1]? = some (.loop { rec .ready none with state := .busy }) := World.putObj_heap_same hlt
      have hk2 : (W.putObj (w.heap.size + 1) (.loop { rec .ready none with state := .busy })).heap[w.heap.size]? = some (.deferred (some [])) := (World.putObj_heap_other (by omega)).trans hk
      have hw2 : Kp W (W.putObj (w.heap.size + 1) (.loop { rec .ready none with state := .busy })) := hKb _ _ _ _ (by omega) hl rfl
      refine wpIn_mono (hbody _ pre x _ (hI.put _ hi (by omega) hl rfl) (hHd _ _ _ _ _ hl rfl hx) hlen) ?_
      have fin : ∀ (jump : Option Code) (W3 : World), KeepsFrom w.heap.size (W.putObj (w.heap.size + 1) (.loop { rec .ready none with state := .busy })) W3 →
          (Instr.endRound (w.heap.size + 1) jump).run P W3 = .ok (.bool jump.isNone) (W3.putObj (w.heap.size + 1) (.loop (rec (if jump.isNone then .ready else .done) jump))) ∧
          W3.heap[w.heap.size + 1]? = some (.loop { rec .ready none with state := .busy }) ∧
          (W3.putObj (w.heap.size + 1) (.loop (rec (if jump.isNone then .ready else .done) jump))).heap[w.heap.size + 1]? = some (.loop (rec (if jump.isNone then .ready else .done) jump)) ∧
          (W3.putObj (w.heap.size + 1) (.loop (rec (if jump.isNone then .ready else .done) jump))).heap[w.heap.size]? = some (.deferred (some [])) := fun jump W3 hk3 => by
        have hl3 := hk3.same _ _ (by omega) hl2 rfl
        have := run_endRound (P := P) jump hl3
        rw [hrec] at this ⊢
        exact ⟨this, by rw [hrec] at hl3; exact hl3, World.putObj_heap_same (Array.getElem?_eq_some_iff.1 hl3).1, (World.putObj_heap_other (by omega)).trans (hk3.same _ _ (Nat.le_refl _) hk2 rfl)⟩
      have left : ∀ (c : Code) (W3 : World), KeepsFrom w.heap.size (W.putObj (w.heap.size + 1) (.loop { rec .ready none with state := .busy })) W3 → Ix c (pre ++ [x]) W3 → _ := fun c W3 hk3 hi3 => by
        obtain ⟨hr, hl3, hl4, hk4⟩ := fin (some c) W3 hk3
        exact (⟨_, _, hr, .inr ⟨rfl, c, (hIx _).put _ hi3 (by omega) hl3 rfl, hl4, hk4⟩⟩ : ∃ v W4, (Instr.endRound (w.heap.size + 1) (some c)).run P W3 = .ok v W4 ∧ ((Ending.returned v = .returned (.bool true) ∧ (I (pre ++ [x]) W4 ∧ W4.heap[w.heap.size + 1]? = some (.loop (rec .ready none)) ∧ W4.heap[w.heap.size]? = some (.deferred (some []))) ∧ Kp W W4) ∨ (Ending.returned v = .returned (.bool false) ∧ ∃ c, Ix c (pre ++ [x]) W4 ∧ W4.heap[w.heap.size + 1]? = some (.loop (rec .done (some c))) ∧ W4.heap[w.heap.size]? = some (.deferred (some [])))))
      rintro e a3 W3 hp
      cases e with
      | normal =>
        obtain ⟨hk3, hkp3, hi3⟩ := hp
        obtain ⟨hr, hl3, hl4, hk4⟩ := fin none W3 hk3
        exact ⟨_, _, hr, .inl ⟨rfl, ⟨hI.put _ hi3 (by omega) hl3 rfl, hl4, hk4⟩, hKt (hKt hw2 hkp3) (hKb _ _ _ _ (by omega) hl3 rfl)⟩⟩
      | ret => exact left .ret W3 hp.1 hp.2
      | exit id => exact left (.exit id) W3 hp.1 hp.2
      | goto t => exact left (.goto t) W3 hp.1 hp.2
      | panic ch => exact hp.elim
      | outgrown => exact hp.elim
    · rintro e W2 ⟨⟨v, rfl⟩, (⟨xs, hS, hi, hl, hk⟩ | ⟨pre, hSp, c, hi, hl, hk⟩)⟩
      · exact ⟨none, _, by have := run_endLoop (P := P) hl (by rw [hrec]; simp); rw [hrec] at this; exact this, hdone _ xs _ (Nat.le_refl _) hS (hI.put _ hi (by omega) hl rfl) ((World.putObj_heap_other (by omega)).trans hk)⟩
      · exact ⟨some c, _, by have := run_endLoop (P := P) hl (by rw [hrec]; simp); rw [hrec] at this; exact this, hstop _ c pre _ (Nat.le_refl _) hSp ((hIx c).put _ hi (by omega) hl rfl) ((World.putObj_heap_other (by omega)).trans hk)⟩
end Go.Proofs.YtggnnnddnppcpaaCells
/-! text YtggnnnddnppcpaaCnfModels2 -/
namespace Go.Proofs.YtggnnnddnppcpaaHand
open Go.RowKit Go.Shelf Go.Proofs.YtggnnnddnppcpaaW.PrintWords Go.Proofs.YtggnnnddnppcpaaW.PrintLast Go.Proofs.YtggnnnddnppcpaaMath Go.Proofs.YtggnnnddnppcpaaCells
set_option linter.unusedVariables false
set_option linter.unusedSimpArgs false
attribute [local go_sem] Oper.semAt_some

/-- what a round keeps: the blocks of cells that are not the caller's variables -/
def KeepC (S : Nat → Prop) (W W' : World) : Prop := W.heap.size ≤ W'.heap.size ∧ ∀ k cells t z, W.heap[k]? = some (.cells cells t z) → ¬ S k → W'.heap[k]? = some (.cells cells t z)
theorem KeepC.trans {S : Nat → Prop} {A B C : World} (h : KeepC S A B) (k : KeepC S B C) : KeepC S A C := ⟨Nat.le_trans h.1 k.1, fun i cells t z hi hs => k.2 i cells t z (h.2 i cells t z hi hs) hs⟩
theorem KeepC.put {S : Nat → Prop} (W : World) (l : Nat) (o o' : Obj) (h : W.heap[l]? = some o) (hc : o.isCells = false) : KeepC S W (W.putObj l o') := by
  have hg := grownBy_putObj' W l o'
  refine ⟨hg.size, fun k cells t z hk _ => (hg.block k (Array.getElem?_eq_some_iff.1 hk).1 (fun e => ?_)).trans hk⟩
  cases e
  rw [h] at hk
  cases hk
  cases hc

/-- what is handed out: so many truths in a new row -/
def Handed (v : Nat) (x : Value × List Bool) (W : World) : Prop := x.2.length = v ∧ ∃ base, Kd.R Kd.bool 4 W base (fun _ => True) x.1 x.2

/-- what the iterator reads: its formula's variable, the clauses -/
structure Src (v : Nat) (cs : List (List Int)) (Bg base0 : Nat) (ok : Nat → Prop) (A : Option Addr) (cap : Nat) (W : World) : Prop where
  hg : W.heap[Bg]? = some (.cells #[.int .i64 (v : Int), .slice A cs.length cap] 24 (0, 0))
  hc : Kd.S (Kd.slice 3 (Kd.int .i64)) 43 W base0 ok (.slice A cs.length cap) cs

theorem Src.keep {v : Nat} {cs : List (List Int)} {Bg base0 : Nat} {ok : Nat → Prop} {A : Option Addr} {cap : Nat} {W W1 : World} (h : Src v cs Bg base0 ok A cap W) (k : Below W.heap.size W W1) : Src v cs Bg base0 ok A cap W1 := ⟨blk_below h.hg k, Kd.S_below h.hc k⟩
theorem Src.grown {v : Nat} {cs : List (List Int)} {Bg base0 b : Nat} {ok : Nat → Prop} {A : Option Addr} {cap : Nat} {W W1 : World} {m : Array Value} (h : Src v cs Bg base0 ok A cap W) (hg : W.grownBy W1 (some b)) (hb : W.heap[b]? = some (.cells m 84 (0, 0))) : Src v cs Bg base0 ok A cap W1 :=
  ⟨blk_grown h.hg hg (fun e => by have := blk_ne h.hg hb (by decide); simp at e; omega), Kd.S_mono (Kd.S_grown (Kd.S_types h.hc hb (by decide)) hg (fun k hk => by have := hk.2; simp; exact this)) (fun _ hk => hk.1)⟩
theorem Src.kept {v : Nat} {cs : List (List Int)} {Bg base0 : Nat} {ok Sv : Nat → Prop} {A : Option Addr} {cap : Nat} {W W1 : World} (h : Src v cs Bg base0 ok A cap W) (k : KeepC Sv W W1) (h1 : ¬ Sv Bg) (h2 : ∀ k, ok k → ¬ Sv k) : Src v cs Bg base0 ok A cap W1 :=
  ⟨k.2 _ _ _ _ h.hg h1, Kd.S_mono (Kd.S_move (Kd.S_bound h.hc) (fun j hj => by obtain ⟨ho, _, _, q, _, cells, hc⟩ := hj; rw [hc]; exact k.2 _ _ _ _ hc (h2 j ho))) (fun _ hk => hk.1)⟩
theorem bits_C {W : World} {b v t : Nat} {m : List Bool} (h : W.heap[b]? = some (.cells (bits m) t (0, 0))) (hv : v ≤ m.length) (hm : m.length ≤ 16) : Kd.C Kd.bool W (some ⟨b, 0, none⟩) (m.take v).length (m.take v) := by
  refine Kd.C_of_reads (d := false) ⟨rfl, by rw [List.length_take]; omega, fun hn => ⟨⟨b, 0, none⟩, rfl, fun j hj => ?_⟩⟩
  rw [List.length_take] at hj
  have hc : W.cell? ⟨b, j, none⟩ = (bits m)[j]? := blk_cell h j
  have e : (⟨b, 0, none⟩ : Addr).add j = ⟨b, j, none⟩ := by simp [Addr.add]; try omega
  rw [e, hc]
  have hj2 : j < m.length := by omega
  simp [bits, List.getD_eq_getElem?_getD, List.getElem?_take, List.getElem?_eq_getElem hj2, show j < v by omega]
/-- the number that the first places of a block hold -/
def numAt (W : World) (b v : Nat) : Nat := match W.heap[b]? with
  | some (.cells cs _ _) => numOf ((cs.toList.take v).map fun u => match u with | .bool x => x | _ => false)
  | _ => 0
theorem numAt_bits {W : World} {b v t : Nat} {m : List Bool} (h : W.heap[b]? = some (.cells (bits m) t (0, 0))) : numAt W b v = numOf (m.take v) := by
  unfold numAt
  rw [h]
  simp only [bits, ← List.map_take, List.map_map]
  congr 1
  conv => rhs; rw [← List.map_id (m.take v)]
  exact List.map_congr_left (fun x _ => rfl)

theorem sixteen (m : List Bool) (h : m.length = 16) : ∃ b0 b1 b2 b3 b4 b5 b6 b7 b8 b9 b10 b11 b12 b13 b14 b15, m = [b0, b1, b2, b3, b4, b5, b6, b7, b8, b9, b10, b11, b12, b13, b14, b15] := by
  match m, h with
  | [b0, b1, b2, b3, b4, b5, b6, b7, b8, b9, b10, b11, b12, b13, b14, b15], _ => exact ⟨b0, b1, b2, b3, b4, b5, b6, b7, b8, b9, b10, b11, b12, b13, b14, b15, rfl⟩
theorem down {wr w6 : World} {b v k t : Nat} {r : List Bool} (hlt : k < 2 ^ v) (h : numAt wr b v = k) (h6 : w6.heap[b]? = some (.cells (bits (counted v (k + 1) ++ r)) t (0, 0))) :
    (match (Value.bool (decide (k + 1 < 2 ^ v))) with | .bool true => 2 ^ v - numAt w6 b v | _ => 0) < (match (Value.bool true) with | .bool true => 2 ^ v - numAt wr b v | _ => 0) := by
  rw [h]
  by_cases hd : k + 1 < 2 ^ v
  · have e : numAt w6 b v = k + 1 := by rw [numAt_bits h6, List.take_append_of_le_length (by rw [counted_length]; omega), List.take_of_length_le (by rw [counted_length]; omega), num_counted v (k + 1) hd]
    rw [decide_eq_true hd, e]
    show 2 ^ v - (k + 1) < 2 ^ v - k
    omega
  · rw [decide_eq_false hd]
    show 0 < 2 ^ v - k
    omega

theorem infoB : (Try.prog.info? 4).map (fun i => (i.zero, i.size, i.bytes)) = some (some (.bool false), 1, 1) := by kernel_rfl
theorem own_Rb {W : World} {base : Nat} {v : Value} {xs : List Bool} (h : W.ownsRow base 4 1 v xs.length (xs.map Value.bool)) : Kd.R Kd.bool 4 W base (fun _ => True) v xs := by
  have hl : xs.length * 1 = xs.length := Nat.mul_one _
  refine ⟨fun _ _ => trivial, ⟨xs.map Value.bool, h, ?_⟩⟩
  refine ⟨by simp [Kd.bool, Kd.scalar], ?_⟩
  intro j p hj
  have hlt : j < xs.length := by
    rcases Nat.lt_or_ge j xs.length with h | h
    · exact h
    · rw [List.getElem?_eq_none h] at hj
      cases hj
  have e : xs[j] = p := by
    rw [List.getElem?_eq_getElem hlt] at hj
    exact Option.some.inj hj
  show ((xs.map Value.bool).drop (j * 1)).take 1 = [Value.bool p]
  rw [Nat.mul_one, ← List.map_drop, ← List.map_take]
  rw [List.drop_eq_getElem_cons hlt, e]
  rfl

set_option maxRecDepth 100000 in
set_option maxHeartbeats 4000000 in
theorem models2_in (n : Nat) (hn : 1 ≤ n) (l v : Nat) (cs : List (List Int)) (Bg base0 : Nat) (ok : Nat → Prop) (A : Option Addr) (cap : Nat) (Sv : Nat → Prop) (hv : v ≤ 16) (hf : isFormula (v : Int) cs = true) (hcn : cs.length ≤ 17592186044416) (hcs : ∀ c ∈ cs, c.length ≤ 17592186044416)
    (J Jx : List (Value × List Bool) → World → Prop) (W : World) (hJ : AbidesM W.heap.size J) (hSrc : Src v cs Bg base0 ok A cap W) (hSok : ∀ k, ok k → ¬ Sv k) (hSg : ¬ Sv Bg) (hSW : ∀ k, Sv k → k < W.heap.size)
    (hY : ∀ pre x W1, J pre W1 → Handed v x W1 → pre.length < 65536 → YieldAt Fence.wide (n - 1) Try.prog l #[x.1] W1 fun e W' =>
      (e = .returned (.bool true) ∧ J (pre ++ [x]) W' ∧ KeepC Sv W1 W') ∨ (e = .returned (.bool false) ∧ Jx (pre ++ [x]) W'))
    (h0 : J [] W) :
    CallsIn Fence.wide n Try.prog 72 #[.func (.yield l) #[] #[], .pointer (some ⟨Bg, 0, none⟩)] W fun e W' => (∃ u, e = .returned u) ∧
      ((∃ xs, xs.map (·.2) = modelsIn v cs ∧ J xs W') ∨ (∃ pre, pre.map (·.2) <+: modelsIn v cs ∧ Jx pre W')) := by
  refine callsIn_of_wp Try.func72 rfl trivial ?_ rfl
  simp only [Try.ntmps72, List.size_toArray, List.length_cons, List.length_nil, Nat.reduceAdd, Nat.reduceSub, Array.replicate_succ, Array.replicate_zero, List.push_toArray, List.append_toArray, List.nil_append, List.cons_append]
  gi_wp2
  have hpow : 2 ^ v ≤ 65536 := Nat.pow_le_pow_right (n := 2) (by omega) hv
  have hpos : 0 < 2 ^ v := Nat.pow_pos (by omega)
  gi_loopw [4] (fun v4 wr => ∃ (k : Nat) (pre : List (Value × List Bool)), v4 = .bool (decide (k < 2 ^ v)) ∧ k ≤ 2 ^ v ∧ wr.heap[W.heap.size]? = some (.cells (bits (counted v k ++ List.replicate (16 - v) false)) 84 (0, 0)) ∧ pre.map (·.2) = modelsTo v cs k ∧ J pre wr ∧ Src v cs Bg base0 ok A cap wr)
    (fun v4 wr => match v4 with | .bool true => 2 ^ v - numAt wr W.heap.size v | _ => 0)
  case atStart =>
    refine ⟨0, [], by simp [hpos], Nat.zero_le _, ?_, by simp [modelsTo], hJ _ _ _ none h0 (World.grownBy_alloc W _ none) (fun r e => by cases e), hSrc.keep ((Below.refl _ _).alloc (Nat.le_refl _) _)⟩
    have e : bits (counted v 0 ++ List.replicate (16 - v) false) = (List.replicate 16 (Value.bool false)).toArray := by
      rw [counted_zero, List.replicate_append_replicate, show v + (16 - v) = 16 by omega]
      unfold bits
      rw [List.map_replicate]
    rw [e]
    exact blk_new _ _
  case round =>
    obtain ⟨k, pre, rfl, hk, hb, hpre, hJs, hsrc⟩ := hrel
    by_cases hlt : k < 2 ^ v
    · have hd : decide (k < 2 ^ v) = true := decide_eq_true hlt
      have hl16 : (counted v k ++ List.replicate (16 - v) false).length = 16 := by rw [List.length_append, counted_length, List.length_replicate]; omega
      have htk : (counted v k ++ List.replicate (16 - v) false).take v = counted v k := by rw [List.take_append_of_le_length (by rw [counted_length]; omega), List.take_of_length_le (by rw [counted_length]; omega)]
      have hC := bits_C hb (v := v) (by omega) (by omega)
      rw [htk] at hC
      have g0 := (blk_cell hsrc.hg 0).trans rfl
      have g1 := (blk_cell hsrc.hg 1).trans rfl
      have hv1 : (0 : Int) ≤ (v : Int) := by omega
      have hv2 : (v : Int) ≤ 16 := by omega
      rw [hd]
      have hmx : Try.prog.follows .mixedOrders = true := by kernel_rfl
      have HALL := fun W' h0 h1 => allIn_calls (v : Int) A (some ⟨W.heap.size, 0, none⟩) cap 16 cs (counted v k) W' h0 (Kd.S_reads' hsrc.hc).2.1 h1 (by rw [counted_length]; omega) (by rw [counted_length]) (fun c hc => by unfold isFormula at hf; rw [Bool.and_eq_true, List.all_eq_true] at hf; exact hf.2 c hc) hcn hcs
      rw [counted_length] at HALL hC
      have HA := Aside0.mk HALL
      have HCB := Aside0.mk hC
      have HSRC := Aside0.mk hsrc
      clear HALL hC
      gi_wp2
      gi_region_with_o (refine ⟨trivial, ?_⟩; (with_reducible refine (callsIn_wide.2 (HA.out _ ?hc0 ?hc1)).mono ?_); (case hc0 => first | exact (Kd.S_reads' HSRC.out.hc).2.2 | exact Kd.C_drew (Kd.S_reads' HSRC.out.hc).2.2 | exact Kd.C_drewN (Kd.S_reads' HSRC.out.hc).2.2 _); (case hc1 => first | exact HCB.out | exact Kd.C_drew HCB.out | exact Kd.C_drewN HCB.out _); rintro e w5 ⟨rfl, hb5⟩)
      all_goals
        have hb5' : Below wr.heap.size wr w5 := by first | exact hb5 | exact below_step (below_drew (Below.refl _ _)) hb5 | exact below_step (below_drew (below_drew (Below.refl _ _))) hb5
        clear hb5
        have hJ5 := hJ _ _ _ none hJs (grown_of_below hb5' none) (fun r e => by cases e)
        have hb5 := blk_below hb hb5'
        have hsrc5 := hsrc.keep hb5'
        have HNA : Aside0 (numAt wr W.heap.size v = k) := ⟨by rw [numAt_bits hb, htk, num_counted v k hlt]⟩
        clear g0 g1 hJs hb hsrc HSRC HCB HA hb5'
        have g0 := (blk_cell hsrc5.hg 0).trans rfl
        have g1 := (blk_cell hsrc5.hg 1).trans rfl
        have hnx := next_counted v k (List.replicate (16 - v) false) hlt
        have hmt := modelsTo_succ v cs k
        cases hall : allIn cs (counted v k) with
        | false =>
          rw [hall] at hmt
          simp only [Bool.false_eq_true, if_false, List.append_nil] at hmt
          gi_wp2
          refine ⟨trivial, ?_⟩
          (with_reducible refine (callsIn_wide.2 (next_calls W.heap.size v _ w5 hl16 hv hb5)).mono ?_)
          rintro e w6 ⟨rfl, hb6, hg6⟩
          rw [hnx] at hb6 ⊢
          have hJ6 := hJ _ _ _ (some W.heap.size) hJ5 hg6 (fun r e => by cases e; rfl)
          gi_wp2
          go_roundw
          case rel => exact ⟨k + 1, pre, rfl, hlt, hb6, by rw [hpre, hmt], hJ6, hsrc5.grown hg6 hb5⟩
          case measure => exact down hlt HNA.out hb6
        | true =>
          rw [hall] at hmt
          simp only [if_true] at hmt
          obtain ⟨b0, b1, b2, b3, b4, b5, b6, b7, b8, b9, b10, b11, b12, b13, b14, b15, hm16⟩ := sixteen _ hl16
          have HM16 := Aside0.mk hm16
          rw [hm16] at hb5
          have hb5' : w5.heap[W.heap.size]? = some (.cells #[.bool b0, .bool b1, .bool b2, .bool b3, .bool b4, .bool b5, .bool b6, .bool b7, .bool b8, .bool b9, .bool b10, .bool b11, .bool b12, .bool b13, .bool b14, .bool b15] 84 (0, 0)) := hb5
          have q0 := (blk_cell hb5' 0).trans rfl
          have q1 := (blk_cell hb5' 1).trans rfl
          have q2 := (blk_cell hb5' 2).trans rfl
          have q3 := (blk_cell hb5' 3).trans rfl
          have q4 := (blk_cell hb5' 4).trans rfl
          have q5 := (blk_cell hb5' 5).trans rfl
          have q6 := (blk_cell hb5' 6).trans rfl
          have q7 := (blk_cell hb5' 7).trans rfl
          have q8 := (blk_cell hb5' 8).trans rfl
          have q9 := (blk_cell hb5' 9).trans rfl
          have q10 := (blk_cell hb5' 10).trans rfl
          have q11 := (blk_cell hb5' 11).trans rfl
          have q12 := (blk_cell hb5' 12).trans rfl
          have q13 := (blk_cell hb5' 13).trans rfl
          have q14 := (blk_cell hb5' 14).trans rfl
          have q15 := (blk_cell hb5' 15).trans rfl
          have hsrc6 := hsrc5.keep (below_alloc (Below.refl _ _) (.cells #[.bool b0, .bool b1, .bool b2, .bool b3, .bool b4, .bool b5, .bool b6, .bool b7, .bool b8, .bool b9, .bool b10, .bool b11, .bool b12, .bool b13, .bool b14, .bool b15] 84 (0, 0)))
          have g06 := (blk_cell hsrc6.hg 0).trans rfl
          have HJ6 := Aside0.mk (hJ _ _ _ none hJ5 (World.grownBy_alloc w5 (.cells #[.bool b0, .bool b1, .bool b2, .bool b3, .bool b4, .bool b5, .bool b6, .bool b7, .bool b8, .bool b9, .bool b10, .bool b11, .bool b12, .bool b13, .bool b14, .bool b15] 84 (0, 0)) none) (fun r e => by cases e))
          have HB6 := Aside0.mk (blk_alloc hb5 (.cells #[.bool b0, .bool b1, .bool b2, .bool b3, .bool b4, .bool b5, .bool b6, .bool b7, .bool b8, .bool b9, .bool b10, .bool b11, .bool b12, .bool b13, .bool b14, .bool b15] 84 (0, 0)))
          have hnew : ((w5.alloc (.cells #[.bool b0, .bool b1, .bool b2, .bool b3, .bool b4, .bool b5, .bool b6, .bool b7, .bool b8, .bool b9, .bool b10, .bool b11, .bool b12, .bool b13, .bool b14, .bool b15] 84 (0, 0)))).heap[w5.heap.size]? = some (.cells (bits [b0, b1, b2, b3, b4, b5, b6, b7, b8, b9, b10, b11, b12, b13, b14, b15]) 84 (0, 0)) := blk_new _ _
          rw [← hm16] at hnew
          have HNW : Aside0 (∀ j u, ((counted v k).map Value.bool)[j]? = some u → ((w5.alloc (.cells #[.bool b0, .bool b1, .bool b2, .bool b3, .bool b4, .bool b5, .bool b6, .bool b7, .bool b8, .bool b9, .bool b10, .bool b11, .bool b12, .bool b13, .bool b14, .bool b15] 84 (0, 0)))).cell? ((⟨w5.heap.size, 0, none⟩ : Addr).add j) = some u) := ⟨fun j u hu => by
            have hj : j < v := by
              have := (List.getElem?_eq_some_iff.1 hu).1
              simpa [counted_length] using this
            have e : (⟨w5.heap.size, 0, none⟩ : Addr).add j = ⟨w5.heap.size, j, none⟩ := by simp [Addr.add]; try omega
            rw [e]
            refine (blk_cell hnew j).trans ?_
            rw [← hu]
            unfold bits
            rw [List.getElem?_toArray, List.map_append, List.getElem?_append_left (by simp [counted_length]; exact hj)]⟩
          have HSRC6 := Aside0.mk hsrc6
          have HL : Aside0 (pre.length < 65536) := ⟨by have h1 := congrArg List.length hpre; have h2 := modelsTo_length v cs k; rw [List.length_map] at h1; omega⟩
          clear hm16 hnew hsrc6 hJ5
          obtain ⟨i0, hi, hz0, hz1, hz2⟩ := info_parts infoB
          have HV : Aside0 (v ≤ 16) := ⟨hv⟩
          gi_wp2_with (gi_at_builtin; (refine wpListIn_append_own _ rfl _ _ 41 rfl (w5.heap.size + 1) 4 i0 (.bool false) 1 1 Try.underlying41 hi hz0 hz1 hz2 rfl (by decide) (.slice none 0 0) 0 [] rfl (World.ownsRow_nil _ _ _ _) ⟨w5.heap.size, 0, none⟩ v 16 ((counted v k).map Value.bool) rfl (by simp [counted_length]) HNW.out (fun u hu => by obtain ⟨b, _, rfl⟩ := List.mem_map.1 hu; rfl) (by have := HV.out; unfold maxLen; omega) (by have := HV.out; omega) (by simp) ?_; intro v7 w7 hown hgrow _; have HJ7 := Aside0.mk (hJ _ _ _ none HJ6.out hgrow (fun r e => by cases e)); have HB7 := Aside0.mk (blk_grown HB6.out hgrow (by simp [Value.ownBlock])); have HSRC7 := Aside0.mk (HSRC6.out.keep (below_grown_none hgrow)); obtain ⟨fn, tmps, assign, body, hy, hR⟩ := hY pre (v7, counted v k) w7 HJ7.out ⟨counted_length v k, _, own_Rb (by simpa [counted_length] using hown)⟩ HL.out))
          refine hR.mono ?_
          rintro e w8 (⟨rfl, hJ8, hk8⟩ | ⟨rfl, hJx8⟩)
          · have hb8 := hk8.2 _ _ _ _ HB7.out (fun h => by have := hSW _ h; omega)
            have hsrc8 := HSRC7.out.kept hk8 hSg hSok
            have g08 := (blk_cell hsrc8.hg 0).trans rfl
            rw [← HM16.out] at hb8
            clear g06 hy hR hown hgrow q0 q1 q2 q3 q4 q5 q6 q7 q8 q9 q10 q11 q12 q13 q14 q15
            gi_wp2
            refine ⟨trivial, ?_⟩
            (with_reducible refine (callsIn_wide.2 (next_calls W.heap.size v _ w8 hl16 hv hb8)).mono ?_)
            rintro e w9 ⟨rfl, hb9, hg9⟩
            rw [hnx] at hb9 ⊢
            have hJ9 := hJ _ _ _ (some W.heap.size) hJ8 hg9 (fun r e => by cases e; rfl)
            gi_wp2
            go_roundw
            case rel => exact ⟨k + 1, pre ++ [(v7, counted v k)], rfl, hlt, hb9, by rw [List.map_append, hpre, hmt]; rfl, hJ9, hsrc8.grown hg9 hb8⟩
            case measure => exact down hlt HNA.out hb9
          · gi_wp2
            refine bodyPost_ret (results_none rfl _ _ _) rfl ?_
            refine ⟨⟨_, rfl⟩, .inr ⟨pre ++ [(v7, counted v k)], ?_, hJx8⟩⟩
            have e : (pre ++ [(v7, counted v k)]).map (·.2) = modelsTo v cs (k + 1) := by rw [List.map_append, hpre, hmt]; rfl
            rw [e]
            exact modelsTo_prefix v cs hlt
    · have hd : decide (k < 2 ^ v) = false := decide_eq_false hlt
      obtain rfl : k = 2 ^ v := by omega
      rw [hd]
      gi_wp2
      go_end0
      exact ⟨⟨_, rfl⟩, .inl ⟨pre, hpre, hJs⟩⟩
end Go.Proofs.YtggnnnddnppcpaaHand
