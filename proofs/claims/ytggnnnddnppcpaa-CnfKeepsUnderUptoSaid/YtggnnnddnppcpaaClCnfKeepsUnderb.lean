/- Things in memory that lie apart: a list of assertions, each over blocks of its own. -/
import Derived.Test.YtggnnnddnppcpaaClCnfKeepsUndera
import Derived.Test.YtggnnnddnppcpaaClCnfKeepsUnderp0
import Derived.Maps.AppendAt
import Derived.OwnWalkIn
import Derived.Test.YtggnnnddnppcpaaProg
import Derived.Below
import Derived.Deep.Draws
import Derived.Deep.AppendLies
import Derived.OwnWalk
import Derived.Laws.BytesArg
import Derived.Laws.MakeOwn
import Derived.Laws.OwnMore
import Derived.Deep.OwnRows
import Derived.Tactics
import Derived.Lib.ConvBytes
import Derived.Laws.Slices
import Derived.WalkKit
import Derived.KernelRfl
import Derived.RowKit3
import Derived.Deep.LoopGhost
import Derived.Deep.QuietTactic
import Derived.BigQuiet
import Derived.WideLaws
import Derived.Deep.DeepCutAuto
import Derived.Deep.CutBlock
import Derived.Deep.RegionHeld3
import Derived.Laws.Rows
import Derived.Lib.AppendStr
import Derived.ArgAppend
import Derived.Laws.IdiomCopy
import Derived.OrdersHeld
import Derived.Laws.BitsLemmas
import Derived.RowKit
import Derived.Test.YtggnnnddnppcpaaClCnfKeepsUnderp1
import Derived.Test.YtggnnnddnppcpaaClCnfKeepsUnderp7
import Derived.Test.YtggnnnddnppcpaaClCnfKeepsUnderp8
import Derived.Test.YtggnnnddnppcpaaClCnfKeepsUnderp9
import Derived.Test.YtggnnnddnppcpaaClCnfKeepsUnderp2
import Derived.Test.YtggnnnddnppcpaaClCnfKeepsUnderp3
import Derived.Test.YtggnnnddnppcpaaClCnfKeepsUnderp10
import Derived.Test.YtggnnnddnppcpaaClCnfKeepsUnderp4
import Derived.Test.YtggnnnddnppcpaaClCnfKeepsUnderp5
import Derived.Test.YtggnnnddnppcpaaClCnfKeepsUnderp6
import Derived.Test.YtggnnnddnppcpaaClCnfKeepsUnderp11
import Derived.Test.YtggnnnddnppcpaaClCnfKeepsUnderp12
import Derived.Test.YtggnnnddnppcpaaClCnfKeepsUnderp13
import Derived.Test.YtggnnnddnppcpaaClCnfKeepsUnderp14
import Derived.Test.YtggnnnddnppcpaaClCnfKeepsUnderp15
import Derived.Test.YtggnnnddnppcpaaClCnfKeepsUnderp16
import Derived.Test.YtggnnnddnppcpaaClCnfKeepsUnderp17
import Derived.Test.YtggnnnddnppcpaaClCnfKeepsUnderp18
import Derived.Test.YtggnnnddnppcpaaClCnfKeepsUnderp19
import Derived.Test.YtggnnnddnppcpaaClCnfKeepsUnderp20
/-! text YtggnnnddnppcpaaSep -/
namespace Go.Proofs.YtggnnnddnppcpaaOwn
open Go Go.RowKit Go.Proofs.YtggnnnddnppcpaaW.PrintWords
set_option linter.unusedVariables false
set_option linter.unusedSimpArgs false
/-- an assertion that speaks of the blocks ok alone -/
structure Asr where
  P : World → (Nat → Prop) → Prop
  step : ∀ {W W1 : World} {ok ok' : Nat → Prop}, P W ok → W.heap.size ≤ W1.heap.size → (∀ k, ok k → k < W.heap.size → W1.heap[k]? = W.heap[k]? ∧ ok' k) → P W1 ok'
namespace Asr
theorem mono {A : Asr} {W : World} {ok ok' : Nat → Prop} (h : A.P W ok) (hk : ∀ k, ok k → k < W.heap.size → ok' k) : A.P W ok' := A.step h (Nat.le_refl _) fun k h1 h2 => ⟨rfl, hk k h1 h2⟩
theorem below {A : Asr} {W W1 : World} {ok : Nat → Prop} (h : A.P W ok) (hb : Below W.heap.size W W1) : A.P W1 ok := A.step h hb.size fun k h1 h2 => ⟨hb.block k h2, h1⟩
/-- nothing -/
def emp : Asr := ⟨fun _ _ => True, fun _ _ _ => trivial⟩
/-- no memory -/
def pure (p : Prop) : Asr := ⟨fun _ _ => p, fun h _ _ => h⟩
/-- a block -/
def blk (b : Nat) (o : Obj) : Asr := ⟨fun W ok => ok b ∧ W.heap[b]? = some o, fun {W W1 ok ok'} h _ hk => by
  have hb : b < W.heap.size := (Array.getElem?_eq_some_iff.1 h.2).1
  exact ⟨(hk b h.1 hb).2, (hk b h.1 hb).1.trans h.2⟩⟩
/-- a row of one's own -/
def row {α : Type} (d : Kd α) (e : Nat) (v : Value) (xs : List α) : Asr := ⟨fun W ok => Kd.R d e W 0 ok v xs, fun {W W1 ok ok'} h _ hk => by
  have h2 := Kd.R_mono (ok' := fun k => ok k ∧ k < W.heap.size) (Kd.R_bound h) fun k hk1 => ⟨hk1.1, hk1.2.2.1⟩
  exact Kd.R_mono (Kd.R_step (w1 := W1) h2 fun k h1 _ => (hk k h1.1 h1.2).1) fun k h1 => (hk k h1.1 h1.2).2⟩
/-- a row whose elements lie apart -/
def rows {α : Type} (d : Kd α) (e : Nat) (v : Value) (xs : List α) : Asr := ⟨fun W ok => Kd.S d e W 0 ok v xs, fun {W W1 ok ok'} h _ hk => by
  have h2 := Kd.S_mono (ok' := fun k => ok k ∧ k < W.heap.size) (Kd.S_bound h) fun k hk1 => ⟨hk1.1, hk1.2.2.1⟩
  exact Kd.S_mono (Kd.S_step (w1 := W1) h2 fun k h1 _ => (hk k h1.1 h1.2).1) fun k h1 => (hk k h1.1 h1.2).2⟩
/-- whatever holds as long as the blocks lie as they lie -/
def foot (Q : World → Prop) : Asr := ⟨fun W ok => ∀ W1 : World, W.heap.size ≤ W1.heap.size → (∀ k, ok k → k < W.heap.size → W1.heap[k]? = W.heap[k]?) → Q W1, fun {W W1 ok ok'} h hz hk => fun W2 hz2 hk2 => h W2 (Nat.le_trans hz hz2) fun k h1 h2 => (hk2 k (hk k h1 h2).2 (Nat.lt_of_lt_of_le h2 hz)).trans (hk k h1 h2).1⟩
/-- both, of the same blocks -/
def and (A B : Asr) : Asr := ⟨fun W ok => A.P W ok ∧ B.P W ok, fun h hz hk => ⟨A.step h.1 hz hk, B.step h.2 hz hk⟩⟩
/-- both, apart -/
def sep (A B : Asr) : Asr := ⟨fun W ok => ∃ g : Nat → Prop, A.P W (fun k => ok k ∧ g k) ∧ B.P W (fun k => ok k ∧ ¬ g k), fun ⟨g, h1, h2⟩ hz hk => ⟨g, A.step h1 hz fun k h3 h4 => ⟨(hk k h3.1 h4).1, (hk k h3.1 h4).2, h3.2⟩, B.step h2 hz fun k h3 h4 => ⟨(hk k h3.1 h4).1, (hk k h3.1 h4).2, h3.2⟩⟩⟩
end Asr
/-- since w: new blocks alone; those of l lie apart, none is one of X -/
structure Sep (w : World) (X : Nat → Prop) (l : List Asr) (W : World) : Prop where
  hB : Below w.heap.size w W
  tags : ∃ f : Nat → Nat, ∀ (i : Nat) A, l[i]? = some A → A.P W (fun b => f b = i ∧ w.heap.size ≤ b ∧ ¬ X b)
section
variable {w W W1 : World} {X : Nat → Prop} {l : List Asr} {A A' B : Asr}
theorem Sep.start (h : Below w.heap.size w W) (X : Nat → Prop) : Sep w X [] W := ⟨h, fun _ => 0, fun i A h => by simp at h⟩
theorem Sep.get (h : Sep w X l W) (i : Nat) (hi : l[i]? = some A) : A.P W (fun b => w.heap.size ≤ b ∧ ¬ X b) := by
  obtain ⟨f, hf⟩ := h.tags
  exact Asr.mono (hf i A hi) fun k h1 _ => h1.2
theorem Sep.keep (h : Sep w X l W) (k : Below W.heap.size W W1) : Sep w X l W1 := by
  obtain ⟨f, hf⟩ := h.tags
  exact ⟨below_step h.hB k, f, fun i A hi => Asr.below (hf i A hi) k⟩
/-- one more, in new blocks -/
theorem Sep.push (h : Sep w X l W) (k : Below W.heap.size W W1) (hX : ∀ b, X b → b < W.heap.size) (hA : A.P W1 (fun b => W.heap.size ≤ b)) : Sep w X (l ++ [A]) W1 := by
  obtain ⟨f, hf⟩ := h.tags
  refine ⟨below_step h.hB k, fun b => if b < W.heap.size then f b else l.length, fun i C hi => ?_⟩
  rcases Nat.lt_or_ge i l.length with h1 | h1
  · rw [List.getElem?_append_left h1] at hi
    exact C.step (hf i C hi) k.size fun j h2 h3 => ⟨k.block j h3, (if_pos h3).trans h2.1, h2.2⟩
  · rw [List.getElem?_append_right h1] at hi
    have h2 : i - l.length = 0 := by
      have := (List.getElem?_eq_some_iff.1 hi).1
      simp at this
      omega
    rw [h2] at hi
    have hC : A = C := by simpa using hi
    subst hC
    refine Asr.mono hA fun j h3 _ => ⟨(if_neg (by omega)).trans (by omega), Nat.le_trans h.hB.size h3, fun hx => ?_⟩
    have := hX j hx
    omega
/-- one is turned -/
theorem Sep.upd (h : Sep w X l W) (i : Nat) (hi : l[i]? = some A) {M : Nat → Prop} (hg : Grow M W W1) (hX : ∀ b, X b → b < W.heap.size) (hM : ∀ ok, A.P W ok → ∀ b, M b → b < W.heap.size → ok b)
    (hA : ∀ ok, A.P W ok → (∀ b, W.heap.size ≤ b → ok b) → A'.P W1 ok) : Sep w X (l.set i A') W1 := by
  obtain ⟨f, hf⟩ := h.tags
  have hw := h.hB.size
  have hMi : ∀ b, M b → b < W.heap.size → f b = i ∧ w.heap.size ≤ b ∧ ¬ X b := fun b hb hlt => hM _ (hf i A hi) b hb hlt
  refine ⟨⟨hg.os.trans h.hB.os, hg.tape.trans h.hB.tape, hg.output.trans h.hB.output, Nat.le_trans hw hg.size, fun b hb => ?_⟩, fun b => if b < W.heap.size then f b else i, fun j C hj => ?_⟩
  · refine (hg.block b (Nat.lt_of_lt_of_le hb hw) fun hm => ?_).trans (h.hB.block b hb)
    have := (hMi b hm (Nat.lt_of_lt_of_le hb hw)).2.1
    omega
  · by_cases hij : j = i
    · subst hij
      rw [List.getElem?_set_self (List.getElem?_eq_some_iff.1 hi).1] at hj
      injection hj with hj
      subst hj
      have h1 : A.P W (fun b => (if b < W.heap.size then f b else j) = j ∧ w.heap.size ≤ b ∧ ¬ X b) := Asr.mono (hf j A hi) fun b h2 h3 => ⟨(if_pos h3).trans h2.1, h2.2⟩
      refine hA _ h1 fun b hb => ⟨if_neg (by omega), by omega, fun hx => ?_⟩
      have := hX b hx
      omega
    · rw [List.getElem?_set_ne (fun e => hij e.symm)] at hj
      refine C.step (hf j C hj) hg.size fun b h2 h3 => ⟨hg.block b h3 fun hm => ?_, (if_pos h3).trans h2.1, h2.2⟩
      exact hij (h2.1.symm.trans (hMi b hm h3).1)
/-- one is told otherwise -/
theorem Sep.as (h : Sep w X l W) (i : Nat) (hi : l[i]? = some A) (hA : ∀ ok, A.P W ok → A'.P W ok) : Sep w X (l.set i A') W := by
  obtain ⟨f, hf⟩ := h.tags
  refine ⟨h.hB, f, fun j C hj => ?_⟩
  by_cases hij : j = i
  · subst hij
    rw [List.getElem?_set_self (List.getElem?_eq_some_iff.1 hi).1] at hj
    injection hj with hj
    subst hj
    exact hA _ (hf j A hi)
  · rw [List.getElem?_set_ne (fun e => hij e.symm)] at hj
    exact hf j C hj
theorem Sep.drop (h : Sep w X l W) (i : Nat) (hi : l[i]? = some A) : Sep w X (l.set i .emp) W := h.as i hi fun _ _ => trivial
/-- the j-th goes into the i-th -/
theorem Sep.join (h : Sep w X l W) (i j : Nat) (hij : i ≠ j) (hi : l[i]? = some A) (hj : l[j]? = some B) : Sep w X ((l.set i (A.sep B)).set j .emp) W := by
  obtain ⟨f, hf⟩ := h.tags
  have hil := (List.getElem?_eq_some_iff.1 hi).1
  have hjl := (List.getElem?_eq_some_iff.1 hj).1
  refine ⟨h.hB, fun b => if f b = j then i else f b, fun k C hk => ?_⟩
  by_cases hkj : k = j
  · subst hkj
    rw [List.getElem?_set_self (by simpa using hjl)] at hk
    injection hk with hk
    subst hk
    exact trivial
  rw [List.getElem?_set_ne (fun e => hkj e.symm)] at hk
  by_cases hki : k = i
  · subst hki
    rw [List.getElem?_set_self hil] at hk
    injection hk with hk
    subst hk
    refine ⟨fun b => f b = k, Asr.mono (hf k A hi) fun b h1 _ => ⟨⟨?_, h1.2⟩, h1.1⟩, Asr.mono (hf j B hj) fun b h1 _ => ⟨⟨if_pos h1.1, h1.2⟩, fun h2 => hij (h2.symm.trans h1.1)⟩⟩
    show (if f b = j then k else f b) = k
    split
    · rfl
    · exact h1.1
  · rw [List.getElem?_set_ne (fun e => hki e.symm)] at hk
    refine Asr.mono (hf k C hk) fun b h1 _ => ⟨?_, h1.2⟩
    show (if f b = j then i else f b) = k
    rw [if_neg fun h2 => hkj (h1.1.symm.trans h2)]
    exact h1.1
/-- two of them -/
theorem Sep.two (h : Sep w X l W) (i j : Nat) (hij : i ≠ j) (hi : l[i]? = some A) (hj : l[j]? = some B) : ∃ o1 o2 : Nat → Prop, A.P W o1 ∧ B.P W o2 ∧ (∀ k, o1 k → ¬ o2 k) ∧ (∀ k, o1 k → w.heap.size ≤ k ∧ ¬ X k ∧ k < W.heap.size) ∧ (∀ k, o2 k → w.heap.size ≤ k ∧ ¬ X k ∧ k < W.heap.size) := by
  obtain ⟨f, hf⟩ := h.tags
  refine ⟨fun b => (f b = i ∧ w.heap.size ≤ b ∧ ¬ X b) ∧ b < W.heap.size, fun b => (f b = j ∧ w.heap.size ≤ b ∧ ¬ X b) ∧ b < W.heap.size, Asr.mono (hf i A hi) fun b h1 h2 => ⟨h1, h2⟩, Asr.mono (hf j B hj) fun b h1 h2 => ⟨h1, h2⟩, ?_, ?_, ?_⟩
  · intro k h1 h2
    exact hij (h1.1.1.symm.trans h2.1.1)
  · intro k h1
    exact ⟨h1.1.2.1, h1.1.2.2, h1.2⟩
  · intro k h1
    exact ⟨h1.1.2.1, h1.1.2.2, h1.2⟩
/-- what an iterator lays and turns of its own -/
theorem Sep.own {M : Nat → Prop} {X1 : Nat → Prop} (h : Sep w X l W) (hg : Grow M W W1) (hM : ∀ b, M b → b < W.heap.size → X b) (hw : ∀ b, M b → w.heap.size ≤ b) (hX : ∀ b, X1 b → X b ∨ W.heap.size ≤ b) : Sep w X1 l W1 := by
  obtain ⟨f, hf⟩ := h.tags
  refine ⟨h.hB.trans (hg.below h.hB.size hw), f, fun i A hi => A.step (hf i A hi) hg.size fun b h1 h2 => ⟨hg.block b h2 fun hm => h1.2.2 (hM b hm h2), h1.1, h1.2.1, fun hx => ?_⟩⟩
  rcases hX b hx with h3 | h3
  · exact h1.2.2 h3
  · omega
/-- a block, told: its cells -/
theorem Sep.cell (h : Sep w X l W) (i j : Nat) {b t : Nat} {cs : Array Value} (hi : l[i]? = some (.blk b (.cells cs t (0, 0)))) : W.cell? ⟨b, j, none⟩ = cs[j]? := blk_cell (h.get i hi).2 j
theorem Sep.frozen (h : Sep w X l W) (i j : Nat) {b t : Nat} {cs : Array Value} (hi : l[i]? = some (.blk b (.cells cs t (0, 0)))) : W.frozen? ⟨b, j, none⟩ = false := blk_frozen (h.get i hi).2 j
theorem Sep.new (h : Sep w X l W) (hX : ∀ b, X b → b < W.heap.size) (o : Obj) : Sep w X (l ++ [.blk W.heap.size o]) (W.alloc o) :=
  h.push (below_alloc (Below.refl _ _) o) hX ⟨Nat.le_refl _, World.alloc_heap_new W o⟩
theorem grow_put {b : Nat} (j : Nat) (u : Value) (W : World) : Grow (fun k => k = b) W (W.setCell ⟨b, j, none⟩ u) :=
  ⟨rfl, rfl, rfl, ((Below.refl 0 W).setCell (p := ⟨b, j, none⟩) (Nat.zero_le _) u).size, fun k _ hk => Below.heap_setCell W ⟨b, j, none⟩ u k hk⟩
/-- a store into a block -/
theorem Sep.put (h : Sep w X l W) (hX : ∀ b, X b → b < W.heap.size) (i j : Nat) {b t : Nat} {cs cs' : Array Value} (hi : l[i]? = some (.blk b (.cells cs t (0, 0)))) (u : Value) (e : cs.setIfInBounds j u = cs') : Sep w X (l.set i (.blk b (.cells cs' t (0, 0)))) (W.setCell ⟨b, j, none⟩ u) :=
  h.upd i hi (grow_put j u W) hX (fun ok hA k hk _ => by subst hk; exact hA.1) fun ok hA _ => ⟨hA.1, blk_put hA.2 j u e⟩
end
section
variable {w W W1 : World} {X : Nat → Prop} {l : List Asr} {A A' B : Asr}
/-- whose blocks are whose -/
theorem Sep.fam (h : Sep w X l W) : ∃ okj : Nat → Nat → Prop, (∀ (i : Nat) A, l[i]? = some A → A.P W (okj i)) ∧ (∀ i j k, okj i k → okj j k → i = j) ∧ ∀ i k, okj i k → w.heap.size ≤ k ∧ ¬ X k ∧ k < W.heap.size := by
  obtain ⟨f, hf⟩ := h.tags
  exact ⟨fun i b => (f b = i ∧ w.heap.size ≤ b ∧ ¬ X b) ∧ b < W.heap.size, fun i A hi => Asr.mono (hf i A hi) fun b h1 h2 => ⟨h1, h2⟩, fun i j k h1 h2 => h1.1.1.symm.trans h2.1.1, fun i k h1 => ⟨h1.1.2.1, h1.1.2.2, h1.2⟩⟩
/-- out of an iterator's hand -/
theorem Sep.hand {M X1 : Nat → Prop} (h : Sep w X l W) (hg : Grow M W W1) (hM : ∀ b, M b → b < W.heap.size → X b) (hw : ∀ b, M b → w.heap.size ≤ b) (hX : ∀ b, X1 b → X b ∨ W.heap.size ≤ b) (hA : A.P W1 (fun b => W.heap.size ≤ b ∧ ¬ X1 b)) : Sep w X1 (l ++ [A]) W1 := by
  obtain ⟨f, hf⟩ := h.tags
  refine ⟨h.hB.trans (hg.below h.hB.size hw), fun b => if b < W.heap.size then f b else l.length, fun i C hi => ?_⟩
  rcases Nat.lt_or_ge i l.length with h1 | h1
  · rw [List.getElem?_append_left h1] at hi
    refine C.step (hf i C hi) hg.size fun b h1 h2 => ⟨hg.block b h2 fun hm => h1.2.2 (hM b hm h2), (if_pos h2).trans h1.1, h1.2.1, fun hx => ?_⟩
    rcases hX b hx with h3 | h3
    · exact h1.2.2 h3
    · omega
  · rw [List.getElem?_append_right h1] at hi
    have h2 : i - l.length = 0 := by
      have := (List.getElem?_eq_some_iff.1 hi).1
      simp at this
      omega
    rw [h2] at hi
    have hC : A = C := by simpa using hi
    subst hC
    exact Asr.mono hA fun j h3 _ => ⟨(if_neg (by omega)).trans (by omega), Nat.le_trans h.hB.size h3.1, h3.2⟩
theorem row_of {α : Type} {d : Kd α} {e : Nat} {v : Value} {xs : List α} {base : Nat} {ok : Nat → Prop} (h : Kd.R d e W base ok v xs) : (Asr.row d e v xs).P W (fun b => base ≤ b) := Kd.R_lower (Kd.R_mono (Kd.R_bound h) fun k hk => hk.2.1) (Nat.zero_le base)
theorem rows_of {α : Type} {d : Kd α} {e : Nat} {v : Value} {xs : List α} {base : Nat} {ok : Nat → Prop} (h : Kd.S d e W base ok v xs) : (Asr.rows d e v xs).P W (fun b => base ≤ b) := Kd.S_lower (Kd.S_mono (Kd.S_bound h) fun k hk => hk.2.1) (Nat.zero_le base)
/-- rows, laid down side by side and appended to nothing -/
theorem Sep.lits {α : Type} {d : Kd α} {P : Program} {e s t ty : TypeId} (z : Value) (bytes : Nat) (R : List (Value × List α)) (h : Sep w X (R.map fun r => .row d e r.1 r.2) W) (ht : P.underlying t = some (.slice s)) (hinfo : (P.info? s).map (fun i => (i.zero, i.size, i.bytes)) = some (some z, 1, bytes)) (hz : z.cells.size = 1)
    (h63 : R.length ≤ maxLen) (hbytes : R.length * bytes ≤ 140737488355328) :
    ∃ v1 w1, (Builtin.append_ #[t, t] ty #[.slice none 0 0, .slice (some ⟨W.heap.size, 0, none⟩) R.length R.length]).run P (W.alloc (.cells (R.map (·.1)).toArray s (0, 0))) = .ok v1 w1 ∧ Kd.S (Kd.slice e d) s w1 0 (fun k => w.heap.size ≤ k) v1 (R.map (·.2)) ∧ Below w.heap.size w w1 := by
  obtain ⟨okj, h1, h2, h3⟩ := h.fam
  have hbW := below_alloc (Below.refl W.heap.size W) (.cells (R.map (·.1)).toArray s (0, 0))
  have hw := h.hB.size
  have hz2 : (W.alloc (.cells (R.map (·.1)).toArray s (0, 0))).heap.size = W.heap.size + 1 := by simp
  obtain ⟨v1, w1, hrun, hS, hg, _⟩ := S_pushes (P := P) (d := Kd.slice e d) (e := s) (W := W.alloc (.cells (R.map (·.1)).toArray s (0, 0))) (base := 0) (ok := fun k => w.heap.size ≤ k) (v := .slice none 0 0) (xs := []) (ys := R.map (·.2)) t ty z bytes ht hinfo hz Nat.one_pos okj h2
    (fun j k hk => ⟨(h3 j k hk).1, by simp [Value.ownBlock]⟩) (fun k hk => by omega) (Kd.S_nil _ _ _ _ _) (news := R.map (·.1)) (by rw [List.length_map, List.length_map]; exact (Nat.mul_one _).symm) (fun j p hp => by
      rw [List.getElem?_map] at hp
      obtain ⟨r, hr, rfl⟩ := Option.map_eq_some_iff.1 hp
      have h4 := h1 j (.row d e r.1 r.2) (by rw [List.getElem?_map, hr]; rfl)
      refine ⟨r.1, ?_, Asr.below (A := .row d e r.1 r.2) h4 hbW⟩
      show ((R.map (·.1)).drop (j * 1)).take 1 = [r.1]
      have hj : (R.map (·.1))[j]? = some r.1 := by rw [List.getElem?_map, hr]; rfl
      have hjl := (List.getElem?_eq_some_iff.1 hj).1
      rw [Nat.mul_one, List.drop_eq_getElem_cons hjl, List.take_succ_cons, List.take_zero, (List.getElem?_eq_some_iff.1 hj).2])
    (m := R.length) (c := R.length) (ad := ⟨W.heap.size, 0, none⟩) (List.length_map _) (fun j u hj => by
      rw [add_at, Nat.zero_add, blk_cell (World.alloc_heap_new W _) j]
      simpa using hj) (by simpa using h63) (by simpa using hbytes) (Nat.zero_le _)
  refine ⟨v1, w1, hrun, hS, ?_⟩
  exact (h.hB.trans (hbW.mono hw)).trans ((Grow.of_grownBy (M := fun _ => False) hg fun r e => by simp [Value.ownBlock] at e).below (by omega) fun k h => h.elim)
end
section
variable {w W W1 : World} {X : Nat → Prop} {l : List Asr} {A A' B : Asr}
/-- a list of rows appended whole -/
theorem Sep.both {α : Type} {d : Kd α} {P : Program} {s t ty : TypeId} (z : Value) (bytes : Nat) (h : Sep w X l W) (i j : Nat) (hij : i ≠ j) {v u : Value} {xs ys : List α} (hi : l[i]? = some (.rows d s v xs)) (hj : l[j]? = some (.rows d s u ys)) (hX : ∀ b, X b → b < W.heap.size)
    (ht : P.underlying t = some (.slice s)) (hinfo : (P.info? s).map (fun i => (i.zero, i.size, i.bytes)) = some (some z, d.sz, bytes)) (hz : z.cells.size = d.sz) (hs0 : 0 < d.sz) (h63 : xs.length + ys.length ≤ maxLen) (hbytes : (xs.length + ys.length) * bytes ≤ 140737488355328) (hy : 0 < ys.length) :
    ∃ v1 w1, (Builtin.append_ #[t, t] ty #[v, u]).run P W = .ok v1 w1 ∧ Sep w X ((l.set i (.rows d s v1 (xs ++ ys))).set j .emp) w1 := by
  have hjn := h.join i j hij hi hj
  have hil := (List.getElem?_eq_some_iff.1 hi).1
  have hi2 : ((l.set i ((Asr.rows d s v xs).sep (Asr.rows d s u ys))).set j .emp)[i]? = some ((Asr.rows d s v xs).sep (Asr.rows d s u ys)) := by
    rw [List.getElem?_set_ne (fun e => hij e.symm), List.getElem?_set_self hil]
  have run : ∀ ok, ((Asr.rows d s v xs).sep (Asr.rows d s u ys)).P W ok → ∃ v1 w1, (Builtin.append_ #[t, t] ty #[v, u]).run P W = .ok v1 w1 ∧ Kd.S d s w1 0 (fun k => ok k ∨ W.heap.size ≤ k) v1 (xs ++ ys) ∧ W.grownBy w1 v.ownBlock := fun ok ⟨g, h1, h2⟩ => by
    obtain ⟨v1, w1, hrun, hS, hg, _⟩ := S_both (P := P) (t := t) (ty := ty) z bytes ht hinfo hz hs0 h1 h2 (fun k h3 h4 => h4.2 h3.2) (Nat.le_refl _) (Nat.zero_le _) h63 hbytes hy
    exact ⟨v1, w1, hrun, Kd.S_mono hS fun k hk => hk.elim (fun h => .inl h.1) fun hk => hk.elim (fun h => .inl h.1.1) .inr, hg⟩
  obtain ⟨v1, w1, hrun, hS, hg⟩ := run _ (hjn.get i hi2)
  refine ⟨v1, w1, hrun, ?_⟩
  have hup := hjn.upd i hi2 (A' := .rows d s v1 (xs ++ ys)) (M := fun k => some k = v.ownBlock) (Grow.of_grownBy hg fun r e => e.symm) hX (fun ok ⟨g, h1, h2⟩ b hb _ => ((Kd.S_R h1).1 b hb.symm).1) fun ok hA hnew => by
    obtain ⟨v2, w2, hrun2, hS2, _⟩ := run ok hA
    rw [hrun] at hrun2
    injection hrun2 with e1 e2
    subst e1
    subst e2
    exact Kd.S_mono hS2 fun k hk => hk.elim id (hnew k)
  rw [List.set_comm _ _ (fun e => hij e.symm), List.set_set] at hup
  exact hup
end
section
variable {w W W1 : World} {X : Nat → Prop} {l : List Asr} {A A' B : Asr}
/-- a block of the one is none of the other's -/
theorem Sep.ne (h : Sep w X l W) (i j : Nat) (hij : i ≠ j) (hi : l[i]? = some A) (hj : l[j]? = some B) {k k' : Nat} (hA : ∀ ok, A.P W ok → ok k) (hB : ∀ ok, B.P W ok → ok k') : k ≠ k' := by
  obtain ⟨f, hf⟩ := h.tags
  have h1 := (hA _ (hf i A hi)).1
  have h2 := (hB _ (hf j B hj)).1
  rintro rfl
  exact hij (h1.symm.trans h2)
/-- the iterator's blocks are told no more, but for one -/
theorem Sep.mark (h : Sep w X l W) {b : Nat} {o : Obj} (hX : X b) (hb : w.heap.size ≤ b) (ho : W.heap[b]? = some o) : Sep w (fun _ => False) (l ++ [.blk b o]) W := by
  obtain ⟨f, hf⟩ := h.tags
  refine ⟨h.hB, fun k => if k = b then l.length else f k, fun i C hi => ?_⟩
  rcases Nat.lt_or_ge i l.length with h1 | h1
  · rw [List.getElem?_append_left h1] at hi
    refine Asr.mono (hf i C hi) fun k h2 _ => ⟨(if_neg fun e => h2.2.2 (by rw [e]; exact hX)).trans h2.1, h2.2.1, fun h => h⟩
  · rw [List.getElem?_append_right h1] at hi
    have h2 : i - l.length = 0 := by
      have := (List.getElem?_eq_some_iff.1 hi).1
      simp at this
      omega
    rw [h2] at hi
    have hC : Asr.blk b o = C := by simpa using hi
    subst hC
    exact ⟨⟨(if_pos rfl).trans (by omega), hb, fun h => h⟩, ho⟩
theorem blk_blk {b : Nat} {o : Obj} : ∀ ok, (Asr.blk b o).P W ok → ok b := fun ok h => h.1
end
theorem foot_now {Q : World → Prop} {W : World} {ok : Nat → Prop} (h : (Asr.foot Q).P W ok) : Q W := h W (Nat.le_refl _) fun _ _ _ => rfl
/-- a block's object is another -/
theorem Sep.putObj {w W : World} {X : Nat → Prop} {l : List Asr} (h : Sep w X l W) (hX : ∀ b, X b → b < W.heap.size) (i : Nat) {b : Nat} {o o' : Obj} (hi : l[i]? = some (.blk b o)) : Sep w X (l.set i .emp) (W.putObj b o') :=
  h.upd i hi (M := fun k => k = b) (Grow.put o' rfl) hX (fun ok hA k hk _ => by have e : k = b := hk; subst e; exact hA.1) fun _ _ _ => trivial
end Go.Proofs.YtggnnnddnppcpaaOwn
/-! text YtggnnnddnppcpaaFrames -/
namespace Go.Proofs.YtggnnnddnppcpaaOwn
open Go Go.RowKit Go.Proofs.YtggnnnddnppcpaaW.PrintWords
set_option linter.unusedVariables false
/-- since w: new blocks alone; those of l lie as told -/
structure St (w : World) (l : List (Nat × Obj)) (W : World) : Prop where
  hB : Below w.heap.size w W
  nd : (l.map (·.1)).Nodup
  held : ∀ p ∈ l, w.heap.size ≤ p.1 ∧ W.heap[p.1]? = some p.2
section
variable {w W W1 : World} {l : List (Nat × Obj)}
theorem St.start (h : Below w.heap.size w W) : St w [] W := ⟨h, List.nodup_nil, fun _ h => by cases h⟩
theorem St.lt (h : St w l W) {p : Nat × Obj} (hp : p ∈ l) : p.1 < W.heap.size := (Array.getElem?_eq_some_iff.1 (h.held p hp).2).1
theorem St.blk (h : St w l W) (i : Nat) {b : Nat} {o : Obj} (hi : l[i]? = some (b, o)) : W.heap[b]? = some o := (h.held (b, o) (List.mem_of_getElem? hi)).2
theorem St.ge (h : St w l W) (i : Nat) {b : Nat} {o : Obj} (hi : l[i]? = some (b, o)) : w.heap.size ≤ b := (h.held (b, o) (List.mem_of_getElem? hi)).1
theorem St.move (h : St w l W) (hb : Below w.heap.size w W1) (hm : ∀ p ∈ l, W1.heap[p.1]? = W.heap[p.1]?) : St w l W1 := ⟨hb, h.nd, fun p hp => ⟨(h.held p hp).1, (hm p hp).trans (h.held p hp).2⟩⟩
theorem St.new (h : St w l W) (o : Obj) : St w ((W.heap.size, o) :: l) (W.alloc o) := by
  refine ⟨below_alloc h.hB o, ?_, fun p hp => ?_⟩
  · rw [List.map_cons, List.nodup_cons]
    refine ⟨fun hm => ?_, h.nd⟩
    obtain ⟨q, hq, e⟩ := List.mem_map.1 hm
    have := h.lt hq
    simp only at e
    omega
  · rcases List.mem_cons.1 hp with rfl | hp
    · exact ⟨h.hB.size, World.alloc_heap_new W o⟩
    · exact ⟨(h.held p hp).1, (Below.heap_alloc W o p.1 (h.lt hp)).trans (h.held p hp).2⟩
theorem St.keep (h : St w l W) (k : Below W.heap.size W W1) : St w l W1 := h.move (below_step h.hB k) fun p hp => k.block p.1 (h.lt hp)
theorem St.grow {M : Nat → Prop} (h : St w l W) (hg : Grow M W W1) (hM : ∀ k, M k → w.heap.size ≤ k ∧ ∀ p ∈ l, p.1 ≠ k) : St w l W1 :=
  h.move (h.hB.trans (hg.below h.hB.size fun k hk => (hM k hk).1)) fun p hp => hg.block p.1 (h.lt hp) fun hk => (hM _ hk).2 p hp rfl
theorem St.growN {M : Nat → Prop} (h : St w l W) (hg : Grow M W W1) {n : Nat} (hM : ∀ k, M k → n ≤ k) (hw : w.heap.size ≤ n) (hl : ∀ p ∈ l, p.1 < n) : St w l W1 := h.grow hg fun k hk => ⟨Nat.le_trans hw (hM k hk), fun p hp => by have := hl p hp; have := hM k hk; omega⟩
theorem St.far (h : St w l W) {p : Addr} (hp : w.heap.size ≤ p.block) (hl : ∀ q ∈ l, q.1 ≠ p.block) (u : Value) : St w l (W.setCell p u) := h.move (h.hB.setCell hp u) fun q hq => Below.heap_setCell W p u q.1 (hl q hq)
theorem St.grown {row : Option Nat} (h : St w l W) (hg : W.grownBy W1 row) (hr : ∀ k, row = some k → w.heap.size ≤ k ∧ ∀ p ∈ l, p.1 ≠ k) : St w l W1 := h.grow (M := fun k => row = some k) (Grow.of_grownBy hg fun _ e => e) hr
theorem St.put (h : St w l W) (i : Nat) {b t : Nat} {cs cs' : Array Value} (hi : l[i]? = some (b, .cells cs t (0, 0))) (j : Nat) (u : Value) (e : cs.setIfInBounds j u = cs') : St w (l.set i (b, .cells cs' t (0, 0))) (W.setCell ⟨b, j, none⟩ u) := by
  have hm := List.mem_of_getElem? hi
  obtain ⟨hil, hie⟩ := List.getElem?_eq_some_iff.1 hi
  have hkeys : (l.set i (b, .cells cs' t (0, 0))).map (·.1) = l.map (·.1) := by
    rw [List.map_set]
    apply List.ext_getElem?
    intro k
    rw [List.getElem?_set]
    split
    · rename_i hk
      subst hk
      split
      · rw [List.getElem?_map, hi]; rfl
      · rename_i hn
        simp at hn
        omega
    · rfl
  refine ⟨h.hB.setCell (p := ⟨b, j, none⟩) (h.held _ hm).1 u, by rw [hkeys]; exact h.nd, fun p hp => ?_⟩
  obtain ⟨k, hk⟩ := List.getElem?_of_mem hp
  rw [List.getElem?_set] at hk
  split at hk
  · rename_i hik
    subst hik
    injection hk with hk
    subst hk
    exact ⟨(h.held _ hm).1, blk_put (h.held _ hm).2 j u e⟩
  · rename_i hik
    have hpm := List.mem_of_getElem? hk
    refine ⟨(h.held p hpm).1, (Below.heap_setCell W ⟨b, j, none⟩ u p.1 ?_).trans (h.held p hpm).2⟩
    intro e2
    apply hik
    have hnd := h.nd
    have h1 : (l.map (·.1))[i]? = some b := by rw [List.getElem?_map, hi]; rfl
    have h2 : (l.map (·.1))[k]? = some b := by rw [List.getElem?_map, hk]; exact congrArg some e2
    have hi' : i < (l.map (·.1)).length := (List.getElem?_eq_some_iff.1 h1).1
    have hk' : k < (l.map (·.1)).length := (List.getElem?_eq_some_iff.1 h2).1
    have e3 : (l.map (·.1))[i] = (l.map (·.1))[k] := by
      have a1 := (List.getElem?_eq_some_iff.1 h1).2
      have a2 := (List.getElem?_eq_some_iff.1 h2).2
      rw [a1, a2]
    have hp2 := List.pairwise_iff_getElem.1 hnd
    rcases Nat.lt_trichotomy i k with h4 | h4 | h4
    · exact absurd e3 (hp2 i k hi' hk' h4)
    · exact h4
    · exact absurd e3.symm (hp2 k i hk' hi' h4)
theorem St.cell (h : St w l W) (i j : Nat) {b t : Nat} {cs : Array Value} (hi : l[i]? = some (b, .cells cs t (0, 0))) : W.cell? ⟨b, j, none⟩ = cs[j]? := blk_cell (h.blk i hi) j
theorem St.frozen (h : St w l W) (i j : Nat) {b t : Nat} {cs : Array Value} (hi : l[i]? = some (b, .cells cs t (0, 0))) : W.frozen? ⟨b, j, none⟩ = false := blk_frozen (h.blk i hi) j
theorem St.sub {l' : List (Nat × Obj)} (h : St w l W) (hs : l'.Sublist l) : St w l' W := ⟨h.hB, (hs.map _).nodup h.nd, fun p hp => h.held p (hs.subset hp)⟩
end
/-- blocks told one by one, and what holds as long as the blocks of FP lie as they lie -/
structure Fr (w : World) (l : List (Nat × Obj)) (FP : Nat → Prop) (X : World → Prop) (W : World) : Prop where
  st : St w l W
  fp : ∀ k, FP k → k < W.heap.size
  stable : ∀ W1 : World, W.heap.size ≤ W1.heap.size → (∀ k, FP k → W1.heap[k]? = W.heap[k]?) → X W1
section
variable {w W W1 : World} {l : List (Nat × Obj)} {FP : Nat → Prop} {X : World → Prop}
theorem Fr.x (h : Fr w l FP X W) : X W := h.stable W (Nat.le_refl _) fun _ _ => rfl
theorem Fr.move (h : Fr w l FP X W) (hs : St w l W1) (hz : W.heap.size ≤ W1.heap.size) (hm : ∀ k, FP k → W1.heap[k]? = W.heap[k]?) : Fr w l FP X W1 :=
  ⟨hs, fun k hk => Nat.lt_of_lt_of_le (h.fp k hk) hz, fun W2 h2 hm2 => h.stable W2 (Nat.le_trans hz h2) fun k hk => (hm2 k hk).trans (hm k hk)⟩
theorem Fr.move' {l' : List (Nat × Obj)} (h : Fr w l FP X W) (hs : St w l' W1) (hz : W.heap.size ≤ W1.heap.size) (hm : ∀ k, FP k → W1.heap[k]? = W.heap[k]?) : Fr w l' FP X W1 :=
  ⟨hs, fun k hk => Nat.lt_of_lt_of_le (h.fp k hk) hz, fun W2 h2 hm2 => h.stable W2 (Nat.le_trans hz h2) fun k hk => (hm2 k hk).trans (hm k hk)⟩
theorem Fr.new (h : Fr w l FP X W) (o : Obj) : Fr w ((W.heap.size, o) :: l) FP X (W.alloc o) := h.move' (h.st.new o) (by simp) fun k hk => Below.heap_alloc W o k (h.fp k hk)
theorem Fr.keep (h : Fr w l FP X W) (k : Below W.heap.size W W1) : Fr w l FP X W1 := h.move (h.st.keep k) k.size fun j hj => k.block j (h.fp j hj)
theorem Fr.grow {M : Nat → Prop} (h : Fr w l FP X W) (hg : Grow M W W1) (hM : ∀ k, M k → w.heap.size ≤ k ∧ ¬ FP k ∧ ∀ p ∈ l, p.1 ≠ k) : Fr w l FP X W1 :=
  h.move (h.st.grow hg fun k hk => ⟨(hM k hk).1, (hM k hk).2.2⟩) hg.size fun k hk => hg.block k (h.fp k hk) fun hk2 => (hM k hk2).2.1 hk
theorem Fr.growN {M : Nat → Prop} (h : Fr w l FP X W) (hg : Grow M W W1) {n : Nat} (hM : ∀ k, M k → n ≤ k) (hw : w.heap.size ≤ n) (hf : ∀ k, FP k → k < n) (hl : ∀ p ∈ l, p.1 < n) : Fr w l FP X W1 :=
  h.grow hg fun k hk => ⟨Nat.le_trans hw (hM k hk), fun h2 => by have := hf k h2; have := hM k hk; omega, fun p hp => by have := hl p hp; have := hM k hk; omega⟩
theorem Fr.far (h : Fr w l FP X W) {p : Addr} (hp : w.heap.size ≤ p.block) (hf : ¬ FP p.block) (hl : ∀ q ∈ l, q.1 ≠ p.block) (u : Value) : Fr w l FP X (W.setCell p u) :=
  h.move (h.st.far hp hl u) ((Below.refl 0 W).setCell (p := p) (Nat.zero_le _) u).size fun k hk => Below.heap_setCell W p u k fun e => hf (by have e2 : k = _ := e; subst e2; exact hk)
theorem Fr.put (h : Fr w l FP X W) (i : Nat) {b t : Nat} {cs cs' : Array Value} (hi : l[i]? = some (b, .cells cs t (0, 0))) (hf : ¬ FP b) (j : Nat) (u : Value) (e : cs.setIfInBounds j u = cs') : Fr w (l.set i (b, .cells cs' t (0, 0))) FP X (W.setCell ⟨b, j, none⟩ u) :=
  h.move' (h.st.put i hi j u e) ((Below.refl 0 W).setCell (p := ⟨b, j, none⟩) (Nat.zero_le _) u).size fun k hk => Below.heap_setCell W ⟨b, j, none⟩ u k fun e => hf (by have e2 : k = _ := e; subst e2; exact hk)
theorem Fr.sub {l' : List (Nat × Obj)} (h : Fr w l FP X W) (hs : l'.Sublist l) : Fr w l' FP X W := ⟨h.st.sub hs, h.fp, h.stable⟩
/-- facts with footprints, taken together -/
theorem Fr.and {FP' : Nat → Prop} {X' : World → Prop} (h : Fr w l FP X W) (hf : ∀ k, FP' k → k < W.heap.size) (hx : ∀ W1 : World, W.heap.size ≤ W1.heap.size → (∀ k, FP' k → W1.heap[k]? = W.heap[k]?) → X' W1) : Fr w l (fun k => FP k ∨ FP' k) (fun W => X W ∧ X' W) W :=
  ⟨h.st, fun k hk => hk.elim (h.fp k) (hf k), fun W1 hz hm => ⟨h.stable W1 hz fun k hk => hm k (.inl hk), hx W1 hz fun k hk => hm k (.inr hk)⟩⟩
theorem Fr.start (h : St w l W) : Fr w l (fun _ => False) (fun _ => True) W := ⟨h, fun _ h => h.elim, fun _ _ _ => trivial⟩
end
/-- a sequence that gives what S says, as long as its blocks Rd lie as they lie -/
def SQg {α : Type} (F : Fence) (n : Nat) (P : Program) (g : Nat) (lb : Array Value) (encs : α → Array Value) (Hd : World → (Nat → Prop) → α → World → Prop) (Rd : Nat → Prop) (S Sp : List α → Prop) (N : Nat) (W : World) : Prop :=
  (∀ k, Rd k → k < W.heap.size) ∧ ∀ W1 : World, W.heap.size ≤ W1.heap.size → (∀ k, Rd k → W1.heap[k]? = W.heap[k]?) → SeqD F n P g lb encs Hd Rd S Sp N W1
theorem SQg.step {α : Type} {F : Fence} {n : Nat} {P : Program} {g : Nat} {lb : Array Value} {encs : α → Array Value} {Hd : World → (Nat → Prop) → α → World → Prop} {Rd : Nat → Prop} {S Sp : List α → Prop} {N : Nat} {W W1 : World} (h : SQg F n P g lb encs Hd Rd S Sp N W) (hz : W.heap.size ≤ W1.heap.size) (hm : ∀ k, Rd k → W1.heap[k]? = W.heap[k]?) : SQg F n P g lb encs Hd Rd S Sp N W1 :=
  ⟨fun k hk => Nat.lt_of_lt_of_le (h.1 k hk) hz, fun W2 h2 hm2 => h.2 W2 (Nat.le_trans hz h2) fun k hk => (hm2 k hk).trans (hm k hk)⟩
theorem SQg.now {α : Type} {F : Fence} {n : Nat} {P : Program} {g : Nat} {lb : Array Value} {encs : α → Array Value} {Hd : World → (Nat → Prop) → α → World → Prop} {Rd : Nat → Prop} {S Sp : List α → Prop} {N : Nat} {W : World} (h : SQg F n P g lb encs Hd Rd S Sp N W) : SeqD F n P g lb encs Hd Rd S Sp N W := h.2 W (Nat.le_refl _) fun _ _ => rfl
/-- one element more behind a row of one's own: the element lies in a new block -/
theorem R_push {α : Type} {P : Program} (d : Kd α) (t ty e : TypeId) (z : Value) (bytes : Nat) (ht : P.underlying t = some (.slice e)) (hinfo : (P.info? e).map (fun i => (i.zero, i.size, i.bytes)) = some (some z, d.sz, bytes)) (hz : z.cells.size = d.sz) (hs0 : 0 < d.sz)
    {W : World} {base : Nat} {ok okp : Nat → Prop} {v : Value} {xs : List α} {p : α} {cs : List Value} (hR : d.R e W base ok v xs) (hp : d.M W base okp p cs) (hokp : ∀ k, okp k → ok k ∧ some k ≠ v.ownBlock) (hfresh : ∀ k, W.heap.size ≤ k → ok k) (hbase : base ≤ W.heap.size) (hl : (xs.length + 1) * bytes ≤ 140737488355328) (hb0 : 0 < bytes) :
    ∃ v1 w1, (Builtin.append_ #[t, t] ty #[v, .slice (some ⟨W.heap.size, 0, none⟩) 1 1]).run P (W.alloc (.cells cs.toArray e)) = .ok v1 w1 ∧ d.R e w1 base ok v1 (xs ++ [p]) ∧ W.grownBy w1 v.ownBlock ∧ (v1.ownBlock = v.ownBlock ∨ ∃ b, v1.ownBlock = some b ∧ W.heap.size ≤ b) := by
  obtain ⟨h0, inner, hown, hr⟩ := hR
  obtain ⟨i0, hi, hzz⟩ := Option.map_eq_some_iff.1 hinfo
  simp only [Prod.mk.injEq] at hzz
  obtain ⟨hz0, hz1, hz2⟩ := hzz
  have hcl := d.K_len (d.K_of_M hp)
  have hone := d.K_one (d.K_of_M hp)
  have hown2 : (W.alloc (.cells cs.toArray e)).ownsRow base e d.sz v xs.length inner := own_move hown fun k hk => Below.heap_alloc _ _ _ (own_lt hown k hk)
  obtain ⟨v1, w1, hrun, ho1, hg1, _, hat⟩ := run_append_own_at (P := P) (W.alloc (.cells cs.toArray e)) base t ty e i0 z d.sz bytes ht hi hz0 hz1 hz2 hz hs0 v xs.length inner hown2 ⟨W.heap.size, 0, none⟩ 1 1 cs (by omega) (fun j u hj => by
    have hb := World.alloc_heap_new W (.cells cs.toArray e)
    have hc := blk_cell (t := e) hb j
    have ha : (⟨W.heap.size, 0, none⟩ : Addr).add j = ⟨W.heap.size, j, none⟩ := by rw [add_at, Nat.zero_add]
    rw [ha, hc]
    simpa using hj) hone (by
      have : xs.length + 1 ≤ (xs.length + 1) * bytes := Nat.le_mul_of_pos_right _ hb0
      simp only [maxLen]
      omega) hl (by simp; omega)
  have hgW : W.grownBy w1 v.ownBlock := (World.grownBy_alloc W (.cells cs.toArray e) v.ownBlock).trans hg1
  have hatW : v1.ownBlock = v.ownBlock ∨ ∃ b, v1.ownBlock = some b ∧ W.heap.size ≤ b := by
    rcases hat with h | h
    · exact .inl h
    · exact .inr ⟨_, h, by simp⟩
  exact ⟨v1, w1, hrun, Kd.R_appended h0 hr hp hokp hfresh ho1 hgW hatW, hgW, hatW⟩
end Go.Proofs.YtggnnnddnppcpaaOwn
/-! text YtggnnnddnppcpaaRowsLent -/
namespace Go.Proofs.YtggnnnddnppcpaaOwn
open Go Go.RowKit Go.Proofs.YtggnnnddnppcpaaW.PrintWords
set_option linter.unusedVariables false
/-- a slice's head -/
abbrev Hd3 := Option Addr × Nat × Nat
def encH (h : Hd3) : Value := .slice h.1 h.2.1 h.2.2
def headK : Kd Hd3 := Kd.scalar encH fun _ => rfl
/-- where a row lies, its room, its numbers, how many of them a list shows -/
structure LRow where
  A : Option Addr
  c : Nat
  row : List Int
  k : Nat
def LRow.all (t : LRow) : Hd3 := (t.A, t.row.length, t.c)
def LRow.shown (t : LRow) : Hd3 := (t.A, t.k, t.c)
def LRow.nums (t : LRow) : List Int := t.row.take t.k
/-- the rows themselves, each in a block of its own -/
def dataP (W : World) (ok : Nat → Prop) (f : Nat → Nat) (D : List LRow) : Prop := ∀ (i : Nat) t, D[i]? = some t → Kd.R (Kd.int .i64) 3 W 0 (fun k => ok k ∧ f k = i) (.slice t.A t.row.length t.c) t.row ∧ t.k ≤ t.row.length
def dataA (D : List LRow) : Asr := ⟨fun W ok => ∃ f : Nat → Nat, dataP W ok f D, fun {W W1 ok ok'} h hz hk => by
  obtain ⟨f, h⟩ := h
  exact ⟨f, fun i t hi => ⟨(Asr.row (Kd.int .i64) 3 _ _).step (h i t hi).1 hz fun k h1 h2 => ⟨(hk k h1.1 h2).1, (hk k h1.1 h2).2, h1.2⟩, (h i t hi).2⟩⟩⟩
/-- a list of heads -/
abbrev headA (v : Value) (hs : List Hd3) : Asr := .row headK 43 v hs
section
variable {w W W1 W2 : World} {X : Nat → Prop} {l l2 : List Asr} {A B : Asr}
theorem data_nil (W : World) (ok : Nat → Prop) : (dataA []).P W ok := ⟨fun _ => 0, fun i t h => by simp at h⟩
theorem data_get {D : List LRow} {ok : Nat → Prop} (h : (dataA D).P W ok) (i : Nat) {t : LRow} (hi : D[i]? = some t) : t.row.length ≤ t.c ∧ t.k ≤ t.row.length ∧ Kd.C (Kd.int .i64) W t.A t.row.length t.row := by
  obtain ⟨f, h⟩ := h
  have h1 := Kd.R_reads' (h i t hi).1
  exact ⟨h1.2.1, (h i t hi).2, h1.2.2⟩
/-- one more row -/
theorem data_snoc {D : List LRow} {t : LRow} {ok : Nat → Prop} (h : ((dataA D).sep (.row (Kd.int .i64) 3 (.slice t.A t.row.length t.c) t.row)).P W ok) (hk : t.k ≤ t.row.length) : (dataA (D ++ [t])).P W ok := by
  classical
  obtain ⟨g, ⟨f, h1⟩, h2⟩ := h
  refine ⟨fun k => if g k then f k else D.length, fun i u hi => ?_⟩
  rcases Nat.lt_or_ge i D.length with h3 | h3
  · rw [List.getElem?_append_left h3] at hi
    refine ⟨Kd.R_mono (h1 i u hi).1 fun k hk1 => ⟨hk1.1.1, (if_pos hk1.1.2).trans hk1.2⟩, (h1 i u hi).2⟩
  · rw [List.getElem?_append_right h3] at hi
    have h4 : i - D.length = 0 := by
      have := (List.getElem?_eq_some_iff.1 hi).1
      simp at this
      omega
    rw [h4] at hi
    obtain rfl : t = u := by simpa using hi
    exact ⟨Kd.R_mono h2 fun k hk1 => ⟨hk1.1, (if_neg hk1.2).trans (by omega)⟩, hk⟩
theorem Sep.gather (h : Sep w X l W) (i j : Nat) (hij : i ≠ j) {D : List LRow} (t : LRow) (hi : l[i]? = some (dataA D)) (hj : l[j]? = some (.row (Kd.int .i64) 3 (.slice t.A t.row.length t.c) t.row)) (hk : t.k ≤ t.row.length) :
    Sep w X ((l.set i (dataA (D ++ [t]))).set j .emp) W := by
  have h1 := h.join i j hij hi hj
  have h2 := h1.as (A' := dataA (D ++ [t])) i (by rw [List.getElem?_set_ne (fun e => hij e.symm), List.getElem?_set_self (List.getElem?_eq_some_iff.1 hi).1]) fun ok hp => data_snoc hp hk
  rw [List.set_comm _ _ (fun e => hij e.symm), List.set_set] at h2
  exact h2
/-- what a call made, one by one -/
theorem Sep.append (h : Sep w X l W) (h2 : Sep W (fun _ => False) l2 W1) (hX : ∀ b, X b → b < W.heap.size) : Sep w X (l ++ l2) W1 := by
  obtain ⟨f, hf⟩ := h.tags
  obtain ⟨f2, hf2⟩ := h2.tags
  have hw := h.hB.size
  refine ⟨h.hB.trans (h2.hB.mono hw), fun b => if b < W.heap.size then f b else l.length + f2 b, fun i C hi => ?_⟩
  rcases Nat.lt_or_ge i l.length with h1 | h1
  · rw [List.getElem?_append_left h1] at hi
    exact C.step (hf i C hi) h2.hB.size fun b h3 h4 => ⟨h2.hB.block b h4, (if_pos h4).trans h3.1, h3.2⟩
  · rw [List.getElem?_append_right h1] at hi
    refine Asr.mono (hf2 _ C hi) fun b h3 h4 => ⟨?_, Nat.le_trans hw h3.2.1, fun hx => ?_⟩
    · have := h3.2.1
      show (if b < W.heap.size then f b else l.length + f2 b) = i
      rw [if_neg (by omega), h3.1]
      omega
    · have := hX b hx
      have := h3.2.1
      omega
/-- one more head -/
theorem Sep.pushH (h : Sep w X l W) (i : Nat) {v : Value} {hs : List Hd3} (hi : l[i]? = some (headA v hs)) (q : Hd3) (hX : ∀ b, X b → b < W.heap.size) {P : Program} {t ty : TypeId} (ht : P.underlying t = some (.slice 43))
    (hinfo : (P.info? 43).map (fun i => (i.zero, i.size, i.bytes)) = some (some (.slice none 0 0), 1, 24)) (hl : (hs.length + 1) * 24 ≤ 140737488355328) :
    ∃ v1 w1, (Builtin.append_ #[t, t] ty #[v, .slice (some ⟨W.heap.size, 0, none⟩) 1 1]).run P (W.alloc (.cells #[encH q] 43)) = .ok v1 w1 ∧ Sep w X (l.set i (headA v1 (hs ++ [q]))) w1 ∧ Grow (fun k => some k = v.ownBlock) W w1 := by
  have run : ∀ ok, (∀ b, W.heap.size ≤ b → ok b) → (headA v hs).P W ok → ∃ v1 w1, (Builtin.append_ #[t, t] ty #[v, .slice (some ⟨W.heap.size, 0, none⟩) 1 1]).run P (W.alloc (.cells #[encH q] 43)) = .ok v1 w1 ∧ (headA v1 (hs ++ [q])).P w1 ok ∧ W.grownBy w1 v.ownBlock := fun ok hok hp => by
    obtain ⟨v1, w1, hrun, hR, hg, _⟩ := R_push (P := P) headK t ty 43 (.slice none 0 0) 24 ht hinfo rfl Nat.one_pos (W := W) (base := 0) (ok := ok) (okp := fun _ => False) (p := q) (cs := [encH q]) hp rfl (fun k hk => hk.elim) hok (Nat.zero_le _) hl (by decide)
    exact ⟨v1, w1, hrun, hR, hg⟩
  obtain ⟨v1, w1, hrun, _, hg⟩ := run _ (fun b _ => trivial) (Asr.mono (h.get i hi) (ok' := fun _ => True) fun _ _ _ => trivial)
  refine ⟨v1, w1, hrun, h.upd i hi (M := fun k => some k = v.ownBlock) (Grow.of_grownBy hg fun r e => e.symm) hX (fun ok hA b hb _ => hA.1 b hb.symm) fun ok hA hnew => ?_, Grow.of_grownBy hg fun r e => e.symm⟩
  obtain ⟨v2, w2, hrun2, h2, _⟩ := run ok hnew hA
  rw [hrun] at hrun2
  injection hrun2 with e1 e2
  subst e1
  subst e2
  exact h2
theorem C_take {α : Type} {d : Kd α} {A : Option Addr} {n m : Nat} {xs : List α} (h : Kd.C d W A n xs) (hm : m ≤ n) : Kd.C d W A m (xs.take m) := by
  refine ⟨by rw [List.length_take, h.1]; omega, Nat.le_trans hm h.2.1, fun h0 => ?_⟩
  obtain ⟨ad, e, hc⟩ := h.2.2 (by omega)
  refine ⟨ad, e, fun j p hj => hc j p ?_⟩
  rw [List.getElem?_take] at hj
  split at hj
  · exact hj
  · cases hj
/-- what a list of heads shows -/
theorem heads_C {A : Option Addr} {n c : Nat} {ok1 ok2 : Nat → Prop} {U D : List LRow} {hd : LRow → Hd3} {nm : LRow → List Int} (h1 : (headA (.slice A n c) (U.map hd)).P W ok1) (h2 : (dataA D).P W ok2)
    (hU : ∀ (i : Nat) t, U[i]? = some t → ∃ j : Nat, D[j]? = some t) (hd1 : ∀ t, t.k ≤ t.row.length → ∃ m, hd t = (t.A, m, t.c) ∧ m ≤ t.row.length ∧ nm t = t.row.take m) : n = U.length ∧ n ≤ c ∧ Kd.C (Kd.slice 3 (Kd.int .i64)) W A U.length (U.map nm) := by
  obtain ⟨e1, e2, h3⟩ := Kd.R_reads' h1
  rw [List.length_map] at e1 h3
  refine ⟨e1, e2, by rw [List.length_map], h3.2.1, fun h0 => ?_⟩
  obtain ⟨ad, e, hc⟩ := h3.2.2 h0
  refine ⟨ad, e, fun j p hj => ?_⟩
  rw [List.getElem?_map] at hj
  obtain ⟨t, ht, rfl⟩ := Option.map_eq_some_iff.1 hj
  obtain ⟨cs, hl, hcs, hcell⟩ := hc j (hd t) (by rw [List.getElem?_map, ht]; rfl)
  refine ⟨cs, hl, ?_, hcell⟩
  obtain ⟨j2, hj2⟩ := hU j t ht
  obtain ⟨g1, g2, g3⟩ := data_get h2 j2 hj2
  obtain ⟨m, em, hm, en⟩ := hd1 t g2
  have hlen : (nm t).length = m := by rw [en, List.length_take]; omega
  have hcs2 : cs = [encH (hd t)] := hcs
  refine ⟨t.A, t.c, ?_, by omega, ?_⟩
  · rw [hcs2, em, hlen]; rfl
  · rw [hlen, en]; exact C_take g3 hm
/-- a store into a row -/
theorem Sep.putRow (h : Sep w X l W) (hX : ∀ b, X b → b < W.heap.size) (j : Nat) {D : List LRow} (hj : l[j]? = some (dataA D)) (i : Nat) (t : LRow) (hi : D[i]? = some t) (q : Nat) (hq : q < t.row.length) :
    ∃ g, t.A = some ⟨g, 0, none⟩ ∧ W.cell? ⟨g, q, none⟩ = some (.int .i64 (t.row.getD q 0)) ∧ W.frozen? ⟨g, q, none⟩ = false ∧ ∀ x : Int, Sep w X (l.set j (dataA (D.set i { t with row := t.row.set q x }))) (W.setCell ⟨g, q, none⟩ (.int .i64 x)) := by
  obtain ⟨f0, h0⟩ := h.get j hj
  have hR0 := (h0 i t hi).1
  obtain ⟨g, cap, e, _, _, _⟩ := Kd.R_form hR0 (by omega)
  injection e with e1 _ e3
  have hR1 := hR0
  rw [e1] at hR1
  have hc := Kd.R_cell (enc := Value.int .i64) (h1 := fun _ => rfl) 0 hR1 (q : Int) (by omega) (by omega)
  rw [Int.toNat_natCast] at hc
  have hrd : rdOf (0 : Int) t.row (q : Int) = t.row.getD q 0 := by simp [rdOf]
  refine ⟨g, e1, by rw [← hrd]; exact hc.1, hc.2, fun x => ?_⟩
  refine h.upd j hj (grow_put q (.int .i64 x) W) hX (fun ok hA b hb _ => ?_) fun ok hA hnew => ?_
  · obtain ⟨f, hf⟩ := hA
    subst hb
    exact ((hf i t hi).1.1 b (by rw [e1]; rfl)).1
  · obtain ⟨f, hf⟩ := hA
    refine ⟨f, fun i' u hu => ?_⟩
    have hil := (List.getElem?_eq_some_iff.1 hi).1
    by_cases hii : i' = i
    · subst hii
      rw [List.getElem?_set_self hil] at hu
      obtain rfl := Option.some.inj hu
      have h2 := (hf i' t hi).1
      rw [e1] at h2
      have h3 := (Kd.R_put (enc := Value.int .i64) (h1 := fun _ => rfl) h2 (q : Int) x).1
      rw [Int.toNat_natCast] at h3
      show Kd.R (Kd.int .i64) 3 _ 0 _ (.slice t.A (t.row.set q x).length t.c) (t.row.set q x) ∧ t.k ≤ (t.row.set q x).length
      rw [List.length_set, e1]
      exact ⟨h3, (hf i' t hi).2⟩
    · rw [List.getElem?_set_ne (fun e => hii e.symm)] at hu
      refine ⟨Kd.R_far (p := ⟨g, q, none⟩) (hf i' u hu).1 (fun k hk e => hii ?_) _, (hf i' u hu).2⟩
      have h3 := ((hf i t hi).1.1 g (by rw [e1]; rfl)).2
      subst e
      exact hk.2.symm.trans h3
/-- a store into a list of heads -/
theorem Sep.putHead (h : Sep w X l W) (hX : ∀ b, X b → b < W.heap.size) (j : Nat) {A : Option Addr} {n c : Nat} {hs : List Hd3} (hj : l[j]? = some (headA (.slice A n c) hs)) (q : Nat) (hq : q < hs.length) :
    ∃ g, A = some ⟨g, 0, none⟩ ∧ n = hs.length ∧ W.cell? ⟨g, q, none⟩ = some (encH (hs.getD q (none, 0, 0))) ∧ W.frozen? ⟨g, q, none⟩ = false ∧ ∀ x : Hd3, Sep w X (l.set j (headA (.slice A n c) (hs.set q x))) (W.setCell ⟨g, q, none⟩ (encH x)) := by
  have hR0 : Kd.R headK 43 W 0 _ (.slice A n c) hs := h.get j hj
  obtain ⟨g, cap, e, _, _, _⟩ := Kd.R_form hR0 (by omega)
  injection e with e1 e2 e3
  subst e1 e2 e3
  have hc := Kd.R_cell (enc := encH) (h1 := fun _ => rfl) (none, 0, 0) hR0 (q : Int) (by omega) (by omega)
  rw [Int.toNat_natCast] at hc
  have hrd : rdOf ((none, 0, 0) : Hd3) hs (q : Int) = hs.getD q (none, 0, 0) := by simp [rdOf]
  refine ⟨g, rfl, rfl, by rw [← hrd]; exact hc.1, hc.2, fun x => ?_⟩
  refine h.upd j hj (grow_put q (encH x) W) hX (fun ok hA b hb _ => ?_) fun ok hA hnew => ?_
  · subst hb
    exact hA.1 b rfl
  · have h3 := (Kd.R_put (enc := encH) (h1 := fun _ => rfl) hA (q : Int) x).1
    rw [Int.toNat_natCast] at h3
    show Kd.R headK 43 _ 0 ok _ _
    exact h3
end
end Go.Proofs.YtggnnnddnppcpaaOwn
/-! text YtggnnnddnppcpaaGCnfKeepsJoinx0 -/
namespace Go.Proofs.Ytggnnnddnppcpaa.PCnfKeepsJoin
open Go.RowKit Go.Proofs.YtggnnnddnppcpaaW.PrintWords Go.Proofs.YtggnnnddnppcpaaW.PrintLast Go.Proofs.YtggnnnddnppcpaaW.PrintMore
attribute [local go_sem] max2_int min2_int max_two min_two max_three min_three max_four min_four   -- for this text's walks alone
set_option linter.unusedVariables false
set_option linter.unusedSimpArgs false



def errW : Option Int → Value
  | none => .nilIface
  | some c => .iface 0 (.int .i64 c)
theorem errW_none : errW none = .nilIface := rfl
theorem errW_some (c : Int) : errW (some c) = .iface 0 (.int .i64 c) := rfl

theorem info3 : (Try.prog.info? 3).map (fun i => (i.zero, i.size, i.bytes)) = some (some (.int .i64 0), 1, 8) := by kernel_rfl
theorem info43 : (Try.prog.info? 43).map (fun i => (i.zero, i.size, i.bytes)) = some (some (.slice none 0 0), 1, 24) := by kernel_rfl
-- the values' own types
def rd_L1 (xs : List (List Int)) (i : Int) : (List Int) := xs.getD i.toNat ([] : List Int)
theorem at_L1 {w : World} {A : Option Addr} {n : Nat} {xs : List (List Int)} (h : Kd.C (Kd.slice 3 (Kd.int .i64)) w A n xs) (i : Int) (h0 : 0 ≤ i) (h1 : i < n) : ∃ ad A0 c0, A = some ad ∧ w.cell? (ad.add i.toNat) = some (.slice A0 (rd_L1 xs i).length c0) ∧ (rd_L1 xs i).length ≤ c0 ∧ (Kd.int .i64).C w A0 (rd_L1 xs i).length (rd_L1 xs i) := by
  obtain ⟨ad, c, e, _, hK, hc0⟩ := Kd.C_get h ([] : List Int) i h0 h1
  have hc : ∀ j u, c[j]? = some u → w.cell? (ad.add (i.toNat * 1 + j)) = some u := hc0
  obtain ⟨A0, c0, rfl, l0, g0⟩ := hK
  exact ⟨ad, A0, c0, e, by have hq := hc 0 _ rfl; rwa [Nat.mul_one, Nat.add_zero] at hq, l0, g0⟩

def rd_L2 (xs : List (List (List Int))) (i : Int) : (List (List Int)) := xs.getD i.toNat ([] : List (List Int))
theorem at_L2 {w : World} {A : Option Addr} {n : Nat} {xs : List (List (List Int))} (h : Kd.C (Kd.slice 43 (Kd.slice 3 (Kd.int .i64))) w A n xs) (i : Int) (h0 : 0 ≤ i) (h1 : i < n) : ∃ ad A0 c0, A = some ad ∧ w.cell? (ad.add i.toNat) = some (.slice A0 (rd_L2 xs i).length c0) ∧ (rd_L2 xs i).length ≤ c0 ∧ (Kd.slice 3 (Kd.int .i64)).C w A0 (rd_L2 xs i).length (rd_L2 xs i) := by
  obtain ⟨ad, c, e, _, hK, hc0⟩ := Kd.C_get h ([] : List (List Int)) i h0 h1
  have hc : ∀ j u, c[j]? = some u → w.cell? (ad.add (i.toNat * 1 + j)) = some u := hc0
  obtain ⟨A0, c0, rfl, l0, g0⟩ := hK
  exact ⟨ad, A0, c0, e, by have hq := hc 0 _ rfl; rwa [Nat.mul_one, Nat.add_zero] at hq, l0, g0⟩

/-! #### struct type 24 -/
structure S24 where
  f0 : Int
  f1 : (List (List Int))
def z24 : S24 := ⟨(0 : Int), ([] : List (List Int))⟩
def k24 : Kd S24 := Kd.iso (Kd.pair (Kd.int .i64) (Kd.slice 43 (Kd.slice 3 (Kd.int .i64)))) (fun x : S24 => (x.f0, x.f1))
theorem k24_open {w : World} {x : S24} {cs : List Value} (h : k24.K w x cs) : ∃ A1 c1, cs = [.int .i64 x.f0, .slice A1 x.f1.length c1] ∧ x.f1.length ≤ c1 ∧ (Kd.slice 3 (Kd.int .i64)).C w A1 x.f1.length x.f1 := by
  obtain ⟨_, _, rfl, rfl, ⟨A1, c1, rfl, l1, g1⟩⟩ := h
  exact ⟨A1, c1, rfl, l1, g1⟩
theorem k24_openM {w : World} {base : Nat} {ok : Nat → Prop} {x : S24} {cs : List Value} (h : k24.M w base ok x cs) : ∃ v1, cs = [.int .i64 x.f0, v1] ∧ (Kd.slice 3 (Kd.int .i64)).R 43 w base ok v1 x.f1 := by
  obtain ⟨_, _, rfl, rfl, ⟨v1, rfl, g1⟩⟩ := h
  exact ⟨v1, rfl, g1⟩
theorem k24_mk (w : World) (x : S24) {A1 : Option Addr} {c1 : Nat} (l1 : x.f1.length ≤ c1) (g1 : (Kd.slice 3 (Kd.int .i64)).C w A1 x.f1.length x.f1) : k24.K w x [.int .i64 x.f0, .slice A1 x.f1.length c1] := ⟨[.int .i64 x.f0], [.slice A1 x.f1.length c1], rfl, rfl, ⟨A1, c1, rfl, l1, g1⟩⟩
theorem k24_mkM (w : World) (base : Nat) (ok : Nat → Prop) (x : S24) {v1 : Value} (g1 : (Kd.slice 3 (Kd.int .i64)).R 43 w base ok v1 x.f1) : k24.M w base ok x [.int .i64 x.f0, v1] := ⟨[.int .i64 x.f0], [v1], rfl, rfl, ⟨v1, rfl, g1⟩⟩
theorem k24_openF {W : World} {ok : Nat → Prop} {x : S24} {cs : List Value} (h : Kd.FK k24 W ok x cs) : ∃ A1 c1, cs = [.int .i64 x.f0, .slice A1 x.f1.length c1] ∧ x.f1.length ≤ c1 ∧ Kd.F (Kd.slice 3 (Kd.int .i64)) W ok A1 x.f1.length x.f1 := by
  obtain ⟨A1, c1, rfl, l1, _⟩ := k24_open (Kd.FK_now h)
  exact ⟨A1, c1, rfl, l1, (fun W' hW => by obtain ⟨A1_, c1_, he, l1_, g1_⟩ := k24_open (h W' hW); injection (Option.some.inj (show some (Value.slice A1 x.f1.length c1) = some (Value.slice A1_ x.f1.length c1_) from congrArg (fun l => l[1]?) he)) with ha_ _ _; rw [ha_]; exact g1_)⟩
theorem k24_mkF (W : World) (ok : Nat → Prop) (x : S24) {A1 : Option Addr} {c1 : Nat} (l1 : x.f1.length ≤ c1) (g1 : Kd.F (Kd.slice 3 (Kd.int .i64)) W ok A1 x.f1.length x.f1) : Kd.FK k24 W ok x [.int .i64 x.f0, .slice A1 x.f1.length c1] := fun W2 hW => k24_mk W2 x l1 (g1 W2 hW)
def rd_T24 (xs : List S24) (i : Int) : S24 := xs.getD i.toNat z24
theorem at_T24 {w : World} {A : Option Addr} {n : Nat} {xs : List S24} (h : Kd.C k24 w A n xs) (i : Int) (h0 : 0 ≤ i) (h1 : i < n) : ∃ ad A1 c1, A = some ad ∧ w.cell? (ad.add (i.toNat * 2)) = some (.int .i64 (rd_T24 xs i).f0) ∧ w.cell? ⟨(ad.add (i.toNat * 2)).block, (ad.add (i.toNat * 2)).off + 1, none⟩ = some (.slice A1 (rd_T24 xs i).f1.length c1) ∧ (rd_T24 xs i).f1.length ≤ c1 ∧ (Kd.slice 3 (Kd.int .i64)).C w A1 (rd_T24 xs i).f1.length (rd_T24 xs i).f1 := by
  obtain ⟨ad, c, e, _, hK, hc0⟩ := Kd.C_get h z24 i h0 h1
  have hc : ∀ j u, c[j]? = some u → w.cell? (ad.add (i.toNat * 2 + j)) = some u := hc0
  obtain ⟨A1, c1, rfl, l1, g1⟩ := k24_open hK
  exact ⟨ad, A1, c1, e, hc 0 _ rfl, by rw [← add_field _ _ 1 (by omega)]; exact hc 1 _ rfl, l1, g1⟩

end Go.Proofs.Ytggnnnddnppcpaa.PCnfKeepsJoin
