/- Things in memory that lie apart: a list of assertions, each over blocks of its own. -/
import Derived.Test.YtkkkbcjmkmadhaaClArenaKeepsb
import Derived.OrdersHeld
import Derived.RegionTactic
import Derived.Test.YtkkkbcjmkmadhaaWWords
/-! text YtkkkbcjmkmadhaaSep -/
namespace Go.Proofs.YtkkkbcjmkmadhaaOwn
open Go Go.RowKit Go.Proofs.YtkkkbcjmkmadhaaW.PrintWords
set_option linter.unusedVariables false
set_option linter.unusedSimpArgs false
/-- an assertion that speaks of the blocks ok alone -/
structure Asr where
  P : World → (Nat → Prop) → Prop
  step : ∀ {W W1 : World} {ok ok' : Nat → Prop}, P W ok → W.heap.size ≤ W1.heap.size → (∀ k, ok k → k < W.heap.size → W1.heap[k]? = W.heap[k]? ∧ ok' k) → P W1 ok'
namespace Asr
theorem mono {A : Asr} {W : World} {ok ok' : Nat → Prop} (h : A.P W ok) (hk : ∀ k, ok k → k < W.heap.size → ok' k) : A.P W ok' := A.step h (Nat.le_refl _) fun k h1 h2 => ⟨rfl, hk k h1 h2⟩
theorem below {A : Asr} {W W1 : World} {ok : Nat → Prop} (h : A.P W ok) (hb : Below W.heap.size W W1) : A.P W1 ok := A.step h hb.size fun k h1 h2 => ⟨hb.block k h2, h1⟩
/-- nothing -/
def emp : Asr := ⟨fun _ _ => True, fun _ _ _ => trivial⟩
/-- no memory -/
def pure (p : Prop) : Asr := ⟨fun _ _ => p, fun h _ _ => h⟩
/-- a block -/
def blk (b : Nat) (o : Obj) : Asr := ⟨fun W ok => ok b ∧ W.heap[b]? = some o, fun {W W1 ok ok'} h _ hk => by
  have hb : b < W.heap.size := (Array.getElem?_eq_some_iff.1 h.2).1
  exact ⟨(hk b h.1 hb).2, (hk b h.1 hb).1.trans h.2⟩⟩
/-- a row of one's own -/
def row {α : Type} (d : Kd α) (e : Nat) (v : Value) (xs : List α) : Asr := ⟨fun W ok => Kd.R d e W 0 ok v xs, fun {W W1 ok ok'} h _ hk => by
  have h2 := Kd.R_mono (ok' := fun k => ok k ∧ k < W.heap.size) (Kd.R_bound h) fun k hk1 => ⟨hk1.1, hk1.2.2.1⟩
  exact Kd.R_mono (Kd.R_step (w1 := W1) h2 fun k h1 _ => (hk k h1.1 h1.2).1) fun k h1 => (hk k h1.1 h1.2).2⟩
/-- a row whose elements lie apart -/
def rows {α : Type} (d : Kd α) (e : Nat) (v : Value) (xs : List α) : Asr := ⟨fun W ok => Kd.S d e W 0 ok v xs, fun {W W1 ok ok'} h _ hk => by
  have h2 := Kd.S_mono (ok' := fun k => ok k ∧ k < W.heap.size) (Kd.S_bound h) fun k hk1 => ⟨hk1.1, hk1.2.2.1⟩
  exact Kd.S_mono (Kd.S_step (w1 := W1) h2 fun k h1 _ => (hk k h1.1 h1.2).1) fun k h1 => (hk k h1.1 h1.2).2⟩
/-- whatever holds as long as the blocks lie as they lie -/
def foot (Q : World → Prop) : Asr := ⟨fun W ok => ∀ W1 : World, W.heap.size ≤ W1.heap.size → (∀ k, ok k → k < W.heap.size → W1.heap[k]? = W.heap[k]?) → Q W1, fun {W W1 ok ok'} h hz hk => fun W2 hz2 hk2 => h W2 (Nat.le_trans hz hz2) fun k h1 h2 => (hk2 k (hk k h1 h2).2 (Nat.lt_of_lt_of_le h2 hz)).trans (hk k h1 h2).1⟩
/-- some x -/
def ex {α : Type} (A : α → Asr) : Asr := ⟨fun W ok => ∃ x, (A x).P W ok, fun ⟨x, h⟩ hz hk => ⟨x, (A x).step h hz hk⟩⟩
/-- both, of the same blocks -/
def and (A B : Asr) : Asr := ⟨fun W ok => A.P W ok ∧ B.P W ok, fun h hz hk => ⟨A.step h.1 hz hk, B.step h.2 hz hk⟩⟩
/-- both, apart -/
def sep (A B : Asr) : Asr := ⟨fun W ok => ∃ g : Nat → Prop, A.P W (fun k => ok k ∧ g k) ∧ B.P W (fun k => ok k ∧ ¬ g k), fun ⟨g, h1, h2⟩ hz hk => ⟨g, A.step h1 hz fun k h3 h4 => ⟨(hk k h3.1 h4).1, (hk k h3.1 h4).2, h3.2⟩, B.step h2 hz fun k h3 h4 => ⟨(hk k h3.1 h4).1, (hk k h3.1 h4).2, h3.2⟩⟩⟩
end Asr
/-- since w: new blocks alone; those of l lie apart, none is one of X -/
structure Sep (w : World) (X : Nat → Prop) (l : List Asr) (W : World) : Prop where
  hB : Below w.heap.size w W
  tags : ∃ f : Nat → Nat, ∀ (i : Nat) A, l[i]? = some A → A.P W (fun b => f b = i ∧ w.heap.size ≤ b ∧ ¬ X b)
section
variable {w W W1 : World} {X : Nat → Prop} {l : List Asr} {A A' B : Asr}
theorem Sep.start (h : Below w.heap.size w W) (X : Nat → Prop) : Sep w X [] W := ⟨h, fun _ => 0, fun i A h => by simp at h⟩
theorem Sep.get (h : Sep w X l W) (i : Nat) (hi : l[i]? = some A) : A.P W (fun b => w.heap.size ≤ b ∧ ¬ X b) := by
  obtain ⟨f, hf⟩ := h.tags
  exact Asr.mono (hf i A hi) fun k h1 _ => h1.2
theorem Sep.keep (h : Sep w X l W) (k : Below W.heap.size W W1) : Sep w X l W1 := by
  obtain ⟨f, hf⟩ := h.tags
  exact ⟨below_step h.hB k, f, fun i A hi => Asr.below (hf i A hi) k⟩
/-- one more, in new blocks -/
theorem Sep.push (h : Sep w X l W) (k : Below W.heap.size W W1) (hX : ∀ b, X b → b < W.heap.size) (hA : A.P W1 (fun b => W.heap.size ≤ b)) : Sep w X (l ++ [A]) W1 := by
  obtain ⟨f, hf⟩ := h.tags
  refine ⟨below_step h.hB k, fun b => if b < W.heap.size then f b else l.length, fun i C hi => ?_⟩
  rcases Nat.lt_or_ge i l.length with h1 | h1
  · rw [List.getElem?_append_left h1] at hi
    exact C.step (hf i C hi) k.size fun j h2 h3 => ⟨k.block j h3, (if_pos h3).trans h2.1, h2.2⟩
  · rw [List.getElem?_append_right h1] at hi
    have h2 : i - l.length = 0 := by
      have := (List.getElem?_eq_some_iff.1 hi).1
      simp at this
      omega
    rw [h2] at hi
    have hC : A = C := by simpa using hi
    subst hC
    refine Asr.mono hA fun j h3 _ => ⟨(if_neg (by omega)).trans (by omega), Nat.le_trans h.hB.size h3, fun hx => ?_⟩
    have := hX j hx
    omega
/-- one is turned -/
theorem Sep.upd (h : Sep w X l W) (i : Nat) (hi : l[i]? = some A) {M : Nat → Prop} (hg : Grow M W W1) (hX : ∀ b, X b → b < W.heap.size) (hM : ∀ ok, A.P W ok → ∀ b, M b → b < W.heap.size → ok b)
    (hA : ∀ ok, A.P W ok → (∀ b, W.heap.size ≤ b → ok b) → A'.P W1 ok) : Sep w X (l.set i A') W1 := by
  obtain ⟨f, hf⟩ := h.tags
  have hw := h.hB.size
  have hMi : ∀ b, M b → b < W.heap.size → f b = i ∧ w.heap.size ≤ b ∧ ¬ X b := fun b hb hlt => hM _ (hf i A hi) b hb hlt
  refine ⟨⟨hg.os.trans h.hB.os, hg.tape.trans h.hB.tape, hg.output.trans h.hB.output, Nat.le_trans hw hg.size, fun b hb => ?_⟩, fun b => if b < W.heap.size then f b else i, fun j C hj => ?_⟩
  · refine (hg.block b (Nat.lt_of_lt_of_le hb hw) fun hm => ?_).trans (h.hB.block b hb)
    have := (hMi b hm (Nat.lt_of_lt_of_le hb hw)).2.1
    omega
  · by_cases hij : j = i
    · subst hij
      rw [List.getElem?_set_self (List.getElem?_eq_some_iff.1 hi).1] at hj
      injection hj with hj
      subst hj
      have h1 : A.P W (fun b => (if b < W.heap.size then f b else j) = j ∧ w.heap.size ≤ b ∧ ¬ X b) := Asr.mono (hf j A hi) fun b h2 h3 => ⟨(if_pos h3).trans h2.1, h2.2⟩
      refine hA _ h1 fun b hb => ⟨if_neg (by omega), by omega, fun hx => ?_⟩
      have := hX b hx
      omega
    · rw [List.getElem?_set_ne (fun e => hij e.symm)] at hj
      refine C.step (hf j C hj) hg.size fun b h2 h3 => ⟨hg.block b h3 fun hm => ?_, (if_pos h3).trans h2.1, h2.2⟩
      exact hij (h2.1.symm.trans (hMi b hm h3).1)
/-- one is told otherwise -/
theorem Sep.as (h : Sep w X l W) (i : Nat) (hi : l[i]? = some A) (hA : ∀ ok, A.P W ok → A'.P W ok) : Sep w X (l.set i A') W := by
  obtain ⟨f, hf⟩ := h.tags
  refine ⟨h.hB, f, fun j C hj => ?_⟩
  by_cases hij : j = i
  · subst hij
    rw [List.getElem?_set_self (List.getElem?_eq_some_iff.1 hi).1] at hj
    injection hj with hj
    subst hj
    exact hA _ (hf j A hi)
  · rw [List.getElem?_set_ne (fun e => hij e.symm)] at hj
    exact hf j C hj
theorem Sep.drop (h : Sep w X l W) (i : Nat) (hi : l[i]? = some A) : Sep w X (l.set i .emp) W := h.as i hi fun _ _ => trivial
/-- the j-th goes into the i-th -/
theorem Sep.join (h : Sep w X l W) (i j : Nat) (hij : i ≠ j) (hi : l[i]? = some A) (hj : l[j]? = some B) : Sep w X ((l.set i (A.sep B)).set j .emp) W := by
  obtain ⟨f, hf⟩ := h.tags
  have hil := (List.getElem?_eq_some_iff.1 hi).1
  have hjl := (List.getElem?_eq_some_iff.1 hj).1
  refine ⟨h.hB, fun b => if f b = j then i else f b, fun k C hk => ?_⟩
  by_cases hkj : k = j
  · subst hkj
    rw [List.getElem?_set_self (by simpa using hjl)] at hk
    injection hk with hk
    subst hk
    exact trivial
  rw [List.getElem?_set_ne (fun e => hkj e.symm)] at hk
  by_cases hki : k = i
  · subst hki
    rw [List.getElem?_set_self hil] at hk
    injection hk with hk
    subst hk
    refine ⟨fun b => f b = k, Asr.mono (hf k A hi) fun b h1 _ => ⟨⟨?_, h1.2⟩, h1.1⟩, Asr.mono (hf j B hj) fun b h1 _ => ⟨⟨if_pos h1.1, h1.2⟩, fun h2 => hij (h2.symm.trans h1.1)⟩⟩
    show (if f b = j then k else f b) = k
    split
    · rfl
    · exact h1.1
  · rw [List.getElem?_set_ne (fun e => hki e.symm)] at hk
    refine Asr.mono (hf k C hk) fun b h1 _ => ⟨?_, h1.2⟩
    show (if f b = j then i else f b) = k
    rw [if_neg fun h2 => hkj (h1.1.symm.trans h2)]
    exact h1.1
/-- two of them -/
theorem Sep.two (h : Sep w X l W) (i j : Nat) (hij : i ≠ j) (hi : l[i]? = some A) (hj : l[j]? = some B) : ∃ o1 o2 : Nat → Prop, A.P W o1 ∧ B.P W o2 ∧ (∀ k, o1 k → ¬ o2 k) ∧ (∀ k, o1 k → w.heap.size ≤ k ∧ ¬ X k ∧ k < W.heap.size) ∧ (∀ k, o2 k → w.heap.size ≤ k ∧ ¬ X k ∧ k < W.heap.size) := by
  obtain ⟨f, hf⟩ := h.tags
  refine ⟨fun b => (f b = i ∧ w.heap.size ≤ b ∧ ¬ X b) ∧ b < W.heap.size, fun b => (f b = j ∧ w.heap.size ≤ b ∧ ¬ X b) ∧ b < W.heap.size, Asr.mono (hf i A hi) fun b h1 h2 => ⟨h1, h2⟩, Asr.mono (hf j B hj) fun b h1 h2 => ⟨h1, h2⟩, ?_, ?_, ?_⟩
  · intro k h1 h2
    exact hij (h1.1.1.symm.trans h2.1.1)
  · intro k h1
    exact ⟨h1.1.2.1, h1.1.2.2, h1.2⟩
  · intro k h1
    exact ⟨h1.1.2.1, h1.1.2.2, h1.2⟩
/-- what an iterator lays and turns of its own -/
theorem Sep.own {M : Nat → Prop} {X1 : Nat → Prop} (h : Sep w X l W) (hg : Grow M W W1) (hM : ∀ b, M b → b < W.heap.size → X b) (hw : ∀ b, M b → w.heap.size ≤ b) (hX : ∀ b, X1 b → X b ∨ W.heap.size ≤ b) : Sep w X1 l W1 := by
  obtain ⟨f, hf⟩ := h.tags
  refine ⟨h.hB.trans (hg.below h.hB.size hw), f, fun i A hi => A.step (hf i A hi) hg.size fun b h1 h2 => ⟨hg.block b h2 fun hm => h1.2.2 (hM b hm h2), h1.1, h1.2.1, fun hx => ?_⟩⟩
  rcases hX b hx with h3 | h3
  · exact h1.2.2 h3
  · omega
/-- a block, told: its cells -/
theorem Sep.cell (h : Sep w X l W) (i j : Nat) {b t : Nat} {cs : Array Value} (hi : l[i]? = some (.blk b (.cells cs t (0, 0)))) : W.cell? ⟨b, j, none⟩ = cs[j]? := blk_cell (h.get i hi).2 j
theorem Sep.frozen (h : Sep w X l W) (i j : Nat) {b t : Nat} {cs : Array Value} (hi : l[i]? = some (.blk b (.cells cs t (0, 0)))) : W.frozen? ⟨b, j, none⟩ = false := blk_frozen (h.get i hi).2 j
theorem Sep.new (h : Sep w X l W) (hX : ∀ b, X b → b < W.heap.size) (o : Obj) : Sep w X (l ++ [.blk W.heap.size o]) (W.alloc o) :=
  h.push (below_alloc (Below.refl _ _) o) hX ⟨Nat.le_refl _, World.alloc_heap_new W o⟩
theorem grow_put {b : Nat} (j : Nat) (u : Value) (W : World) : Grow (fun k => k = b) W (W.setCell ⟨b, j, none⟩ u) :=
  ⟨rfl, rfl, rfl, ((Below.refl 0 W).setCell (p := ⟨b, j, none⟩) (Nat.zero_le _) u).size, fun k _ hk => Below.heap_setCell W ⟨b, j, none⟩ u k hk⟩
/-- a store into a block -/
theorem Sep.put (h : Sep w X l W) (hX : ∀ b, X b → b < W.heap.size) (i j : Nat) {b t : Nat} {cs cs' : Array Value} (hi : l[i]? = some (.blk b (.cells cs t (0, 0)))) (u : Value) (e : cs.setIfInBounds j u = cs') : Sep w X (l.set i (.blk b (.cells cs' t (0, 0)))) (W.setCell ⟨b, j, none⟩ u) :=
  h.upd i hi (grow_put j u W) hX (fun ok hA k hk _ => by subst hk; exact hA.1) fun ok hA _ => ⟨hA.1, blk_put hA.2 j u e⟩
end
section
variable {w W W1 : World} {X : Nat → Prop} {l : List Asr} {A A' B : Asr}
/-- whose blocks are whose -/
theorem Sep.fam (h : Sep w X l W) : ∃ okj : Nat → Nat → Prop, (∀ (i : Nat) A, l[i]? = some A → A.P W (okj i)) ∧ (∀ i j k, okj i k → okj j k → i = j) ∧ ∀ i k, okj i k → w.heap.size ≤ k ∧ ¬ X k ∧ k < W.heap.size := by
  obtain ⟨f, hf⟩ := h.tags
  exact ⟨fun i b => (f b = i ∧ w.heap.size ≤ b ∧ ¬ X b) ∧ b < W.heap.size, fun i A hi => Asr.mono (hf i A hi) fun b h1 h2 => ⟨h1, h2⟩, fun i j k h1 h2 => h1.1.1.symm.trans h2.1.1, fun i k h1 => ⟨h1.1.2.1, h1.1.2.2, h1.2⟩⟩
/-- out of an iterator's hand -/
theorem Sep.hand {M X1 : Nat → Prop} (h : Sep w X l W) (hg : Grow M W W1) (hM : ∀ b, M b → b < W.heap.size → X b) (hw : ∀ b, M b → w.heap.size ≤ b) (hX : ∀ b, X1 b → X b ∨ W.heap.size ≤ b) (hA : A.P W1 (fun b => W.heap.size ≤ b ∧ ¬ X1 b)) : Sep w X1 (l ++ [A]) W1 := by
  obtain ⟨f, hf⟩ := h.tags
  refine ⟨h.hB.trans (hg.below h.hB.size hw), fun b => if b < W.heap.size then f b else l.length, fun i C hi => ?_⟩
  rcases Nat.lt_or_ge i l.length with h1 | h1
  · rw [List.getElem?_append_left h1] at hi
    refine C.step (hf i C hi) hg.size fun b h1 h2 => ⟨hg.block b h2 fun hm => h1.2.2 (hM b hm h2), (if_pos h2).trans h1.1, h1.2.1, fun hx => ?_⟩
    rcases hX b hx with h3 | h3
    · exact h1.2.2 h3
    · omega
  · rw [List.getElem?_append_right h1] at hi
    have h2 : i - l.length = 0 := by
      have := (List.getElem?_eq_some_iff.1 hi).1
      simp at this
      omega
    rw [h2] at hi
    have hC : A = C := by simpa using hi
    subst hC
    exact Asr.mono hA fun j h3 _ => ⟨(if_neg (by omega)).trans (by omega), Nat.le_trans h.hB.size h3.1, h3.2⟩
theorem row_of {α : Type} {d : Kd α} {e : Nat} {v : Value} {xs : List α} {base : Nat} {ok : Nat → Prop} (h : Kd.R d e W base ok v xs) : (Asr.row d e v xs).P W (fun b => base ≤ b) := Kd.R_lower (Kd.R_mono (Kd.R_bound h) fun k hk => hk.2.1) (Nat.zero_le base)
theorem rows_of {α : Type} {d : Kd α} {e : Nat} {v : Value} {xs : List α} {base : Nat} {ok : Nat → Prop} (h : Kd.S d e W base ok v xs) : (Asr.rows d e v xs).P W (fun b => base ≤ b) := Kd.S_lower (Kd.S_mono (Kd.S_bound h) fun k hk => hk.2.1) (Nat.zero_le base)
/-- rows, laid down side by side and appended to nothing -/
theorem Sep.lits {α : Type} {d : Kd α} {P : Program} {e s t ty : TypeId} (z : Value) (bytes : Nat) (R : List (Value × List α)) (h : Sep w X (R.map fun r => .row d e r.1 r.2) W) (ht : P.underlying t = some (.slice s)) (hinfo : (P.info? s).map (fun i => (i.zero, i.size, i.bytes)) = some (some z, 1, bytes)) (hz : z.cells.size = 1)
    (h63 : R.length ≤ maxLen) (hbytes : R.length * bytes ≤ 140737488355328) :
    ∃ v1 w1, (Builtin.append_ #[t, t] ty #[.slice none 0 0, .slice (some ⟨W.heap.size, 0, none⟩) R.length R.length]).run P (W.alloc (.cells (R.map (·.1)).toArray s (0, 0))) = .ok v1 w1 ∧ Kd.S (Kd.slice e d) s w1 0 (fun k => w.heap.size ≤ k) v1 (R.map (·.2)) ∧ Below w.heap.size w w1 := by
  obtain ⟨okj, h1, h2, h3⟩ := h.fam
  have hbW := below_alloc (Below.refl W.heap.size W) (.cells (R.map (·.1)).toArray s (0, 0))
  have hw := h.hB.size
  have hz2 : (W.alloc (.cells (R.map (·.1)).toArray s (0, 0))).heap.size = W.heap.size + 1 := by simp
  obtain ⟨v1, w1, hrun, hS, hg, _⟩ := S_pushes (P := P) (d := Kd.slice e d) (e := s) (W := W.alloc (.cells (R.map (·.1)).toArray s (0, 0))) (base := 0) (ok := fun k => w.heap.size ≤ k) (v := .slice none 0 0) (xs := []) (ys := R.map (·.2)) t ty z bytes ht hinfo hz Nat.one_pos okj h2
    (fun j k hk => ⟨(h3 j k hk).1, by simp [Value.ownBlock]⟩) (fun k hk => by omega) (Kd.S_nil _ _ _ _ _) (news := R.map (·.1)) (by rw [List.length_map, List.length_map]; exact (Nat.mul_one _).symm) (fun j p hp => by
      rw [List.getElem?_map] at hp
      obtain ⟨r, hr, rfl⟩ := Option.map_eq_some_iff.1 hp
      have h4 := h1 j (.row d e r.1 r.2) (by rw [List.getElem?_map, hr]; rfl)
      refine ⟨r.1, ?_, Asr.below (A := .row d e r.1 r.2) h4 hbW⟩
      show ((R.map (·.1)).drop (j * 1)).take 1 = [r.1]
      have hj : (R.map (·.1))[j]? = some r.1 := by rw [List.getElem?_map, hr]; rfl
      have hjl := (List.getElem?_eq_some_iff.1 hj).1
      rw [Nat.mul_one, List.drop_eq_getElem_cons hjl, List.take_succ_cons, List.take_zero, (List.getElem?_eq_some_iff.1 hj).2])
    (m := R.length) (c := R.length) (ad := ⟨W.heap.size, 0, none⟩) (List.length_map _) (fun j u hj => by
      rw [add_at, Nat.zero_add, blk_cell (World.alloc_heap_new W _) j]
      simpa using hj) (by simpa using h63) (by simpa using hbytes) (Nat.zero_le _)
  refine ⟨v1, w1, hrun, hS, ?_⟩
  exact (h.hB.trans (hbW.mono hw)).trans ((Grow.of_grownBy (M := fun _ => False) hg fun r e => by simp [Value.ownBlock] at e).below (by omega) fun k h => h.elim)
end
section
variable {w W W1 : World} {X : Nat → Prop} {l : List Asr} {A A' B : Asr}
theorem foldl_emp {β : Type} (g : β → Nat) (R : List β) : ∀ (l : List Asr) (k : Nat), (R.foldl (fun l r => l.set (g r) .emp) l)[k]? = if k ∈ R.map g then (l[k]?).map (fun _ => Asr.emp) else l[k]? := by
  induction R with
  | nil => intro l k; simp
  | cons r R ih =>
    intro l k
    rw [List.foldl_cons, ih, List.map_cons]
    by_cases h1 : k ∈ R.map g
    · rw [if_pos h1, if_pos (List.mem_cons_of_mem _ h1), List.getElem?_set]
      split
      · rename_i h2
        subst h2
        split
        · rename_i h3; simp [List.getElem?_eq_getElem h3]
        · rename_i h3; simp [List.getElem?_eq_none (Nat.le_of_not_lt h3)]
      · rfl
    · rw [if_neg h1]
      by_cases h2 : k = g r
      · subst h2
        rw [if_pos List.mem_cons_self, List.getElem?_set, if_pos rfl]
        split
        · rename_i h3; simp [List.getElem?_eq_getElem h3]
        · rename_i h3; simp [List.getElem?_eq_none (Nat.le_of_not_lt h3)]
      · first
          | rw [if_neg (fun h => (List.mem_cons.1 h).elim h2 h1), List.getElem?_set_ne (fun e => h2 e.symm)]
          | skip
/-- rows, laid down side by side and appended -/
theorem Sep.pushes {α : Type} {d : Kd α} {P : Program} {e s t ty : TypeId} (z : Value) (bytes : Nat) (h : Sep w X l W) (i : Nat) {v : Value} {xs : List (List α)} (hi : l[i]? = some (.rows (Kd.slice e d) s v xs)) (R : List (Nat × Value × List α))
    (hR : ∀ (q : Nat) r, R[q]? = some r → l[r.1]? = some (.row d e r.2.1 r.2.2)) (hnd : (R.map (·.1)).Nodup) (hiR : i ∉ R.map (·.1)) (hX : ∀ b, X b → b < W.heap.size)
    (ht : P.underlying t = some (.slice s)) (hinfo : (P.info? s).map (fun i => (i.zero, i.size, i.bytes)) = some (some z, 1, bytes)) (hz : z.cells.size = 1) (h63 : xs.length + R.length ≤ maxLen) (hbytes : (xs.length + R.length) * bytes ≤ 140737488355328) :
    ∃ v1 w1, (Builtin.append_ #[t, t] ty #[v, .slice (some ⟨W.heap.size, 0, none⟩) R.length R.length]).run P (W.alloc (.cells (R.map (·.2.1)).toArray s (0, 0))) = .ok v1 w1 ∧ Sep w X (R.foldl (fun l r => l.set r.1 .emp) (l.set i (.rows (Kd.slice e d) s v1 (xs ++ R.map (·.2.2))))) w1 ∧ Grow (fun k => some k = v.ownBlock) W w1 := by
  obtain ⟨f, hf⟩ := h.tags
  have hbW := below_alloc (Below.refl W.heap.size W) (.cells (R.map (·.2.1)).toArray s (0, 0))
  have hw := h.hB.size
  have hz2 : (W.alloc (.cells (R.map (·.2.1)).toArray s (0, 0))).heap.size = W.heap.size + 1 := by simp
  have hinj : ∀ (q q' : Nat) r r', R[q]? = some r → R[q']? = some r' → r.1 = r'.1 → q = q' := fun q q' r r' h1 h2 h3 => by
    have e1 : (R.map (·.1))[q]? = some r.1 := by rw [List.getElem?_map, h1]; rfl
    have e2 : (R.map (·.1))[q']? = some r.1 := by rw [List.getElem?_map, h2, h3]; rfl
    obtain ⟨l1, k1⟩ := List.getElem?_eq_some_iff.1 e1
    obtain ⟨l2, k2⟩ := List.getElem?_eq_some_iff.1 e2
    have hp := List.pairwise_iff_getElem.1 hnd
    rcases Nat.lt_trichotomy q q' with h4 | h4 | h4
    · exact absurd (k1.trans k2.symm) (hp q q' l1 l2 h4)
    · exact h4
    · exact absurd (k2.trans k1.symm) (hp q' q l2 l1 h4)
  have hmem : ∀ (q : Nat) r, R[q]? = some r → r.1 ∈ R.map (·.1) := fun q r h1 => List.mem_map.2 ⟨r, List.mem_of_getElem? h1, rfl⟩
  obtain ⟨f', hf'⟩ : ∃ f' : Nat → Nat, ∀ b, f' b = if b < W.heap.size then (if f b ∈ R.map (·.1) then i else f b) else i := ⟨_, fun _ => rfl⟩
  have hS0 : (Asr.rows (Kd.slice e d) s v xs).P (W.alloc (.cells (R.map (·.2.1)).toArray s (0, 0))) (fun b => f b = i ∧ w.heap.size ≤ b ∧ ¬ X b ∧ b < W.heap.size) := (Asr.rows (Kd.slice e d) s v xs).step (hf i _ hi) hbW.size fun k h1 h2 => ⟨hbW.block k h2, h1.1, h1.2.1, h1.2.2, h2⟩
  obtain ⟨v1, w1, hrun, hS, hg, hat⟩ := S_pushes (P := P) (d := Kd.slice e d) (e := s) (W := W.alloc (.cells (R.map (·.2.1)).toArray s (0, 0))) (base := 0) (ok := fun b => f' b = i ∧ w.heap.size ≤ b ∧ ¬ X b) (v := v) (xs := xs) (ys := R.map (·.2.2)) t ty z bytes ht hinfo hz Nat.one_pos
    (fun q b => ∃ r, R[q]? = some r ∧ f b = r.1 ∧ w.heap.size ≤ b ∧ ¬ X b ∧ b < W.heap.size) (fun q q' b ⟨r, h1, h2, _⟩ ⟨r', h1', h2', _⟩ => hinj q q' r r' h1 h1' (h2.symm.trans h2'))
    (fun q b ⟨r, h1, h2, h3, h4, h5⟩ => ⟨⟨by rw [hf', if_pos h5, h2, if_pos (hmem q r h1)], h3, h4⟩, fun hv => by
      have h6 := ((Kd.S_R hS0).1 b hv.symm).1
      exact hiR (by rw [← h6, h2]; exact hmem q r h1)⟩)
    (fun b hb => ⟨by rw [hf', if_neg (by omega)], by omega, fun hx => by have := hX b hx; omega⟩)
    (Kd.S_mono hS0 fun b hb => ⟨⟨by rw [hf', if_pos hb.2.2.2, hb.1]; split <;> rfl, hb.2.1, hb.2.2.1⟩, fun q ⟨r, h1, h2, _⟩ => hiR (by rw [← hb.1, h2]; exact hmem q r h1)⟩)
    (news := R.map (·.2.1)) (by rw [List.length_map, List.length_map]; exact (Nat.mul_one _).symm) (fun q p hp => by
      rw [List.getElem?_map] at hp
      obtain ⟨r, hr, rfl⟩ := Option.map_eq_some_iff.1 hp
      have h4 := hf r.1 _ (hR q r hr)
      refine ⟨r.2.1, ?_, (Asr.row d e r.2.1 r.2.2).step h4 hbW.size fun k h1 h2 => ⟨hbW.block k h2, r, hr, h1.1, h1.2.1, h1.2.2, h2⟩⟩
      show ((R.map (·.2.1)).drop (q * 1)).take 1 = [r.2.1]
      have hj : (R.map (·.2.1))[q]? = some r.2.1 := by rw [List.getElem?_map, hr]; rfl
      have hjl := (List.getElem?_eq_some_iff.1 hj).1
      rw [Nat.mul_one, List.drop_eq_getElem_cons hjl, List.take_succ_cons, List.take_zero, (List.getElem?_eq_some_iff.1 hj).2])
    (m := R.length) (c := R.length) (ad := ⟨W.heap.size, 0, none⟩) (List.length_map _) (fun j u hj => by
      rw [add_at, Nat.zero_add, blk_cell (World.alloc_heap_new W _) j]
      simpa using hj) h63 hbytes (Nat.zero_le _)
  have hrow : ∀ k, some k = v.ownBlock → f k = i ∧ w.heap.size ≤ k ∧ k < W.heap.size := fun k hk => by
    have h6 := (Kd.S_R hS0).1 k hk.symm
    exact ⟨h6.1, h6.2.1, h6.2.2.2⟩
  have hgrow : Grow (fun k => some k = v.ownBlock) W w1 := (Grow.of_below (M := fun k => some k = v.ownBlock) hbW).trans (Grow.of_grownBy hg fun r e => e.symm) fun k hk => .inl hk
  refine ⟨v1, w1, hrun, ⟨h.hB.trans (hgrow.below hw fun k hk => (hrow k hk).2.1), f', fun k C hk => ?_⟩, hgrow⟩
  rw [foldl_emp (fun r : Nat × Value × List α => r.1)] at hk
  split at hk
  · obtain ⟨_, _, rfl⟩ := Option.map_eq_some_iff.1 hk
    exact trivial
  · rename_i hkR
    by_cases hki : k = i
    · subst hki
      rw [List.getElem?_set_self (List.getElem?_eq_some_iff.1 hi).1] at hk
      injection hk with hk
      subst hk
      exact hS
    · rw [List.getElem?_set_ne (fun e => hki e.symm)] at hk
      refine C.step (hf k C hk) hgrow.size fun b h1 h2 => ⟨hgrow.block b h2 fun hm => hki (h1.1.symm.trans (hrow b hm).1), ?_, h1.2⟩
      rw [hf', if_pos h2, h1.1, if_neg hkR]
/-- a list of rows appended whole -/
theorem Sep.both {α : Type} {d : Kd α} {P : Program} {s t ty : TypeId} (z : Value) (bytes : Nat) (h : Sep w X l W) (i j : Nat) (hij : i ≠ j) {v u : Value} {xs ys : List α} (hi : l[i]? = some (.rows d s v xs)) (hj : l[j]? = some (.rows d s u ys)) (hX : ∀ b, X b → b < W.heap.size)
    (ht : P.underlying t = some (.slice s)) (hinfo : (P.info? s).map (fun i => (i.zero, i.size, i.bytes)) = some (some z, d.sz, bytes)) (hz : z.cells.size = d.sz) (hs0 : 0 < d.sz) (h63 : xs.length + ys.length ≤ maxLen) (hbytes : (xs.length + ys.length) * bytes ≤ 140737488355328) (hy : 0 < ys.length) :
    ∃ v1 w1, (Builtin.append_ #[t, t] ty #[v, u]).run P W = .ok v1 w1 ∧ Sep w X ((l.set i (.rows d s v1 (xs ++ ys))).set j .emp) w1 := by
  have hjn := h.join i j hij hi hj
  have hil := (List.getElem?_eq_some_iff.1 hi).1
  have hi2 : ((l.set i ((Asr.rows d s v xs).sep (Asr.rows d s u ys))).set j .emp)[i]? = some ((Asr.rows d s v xs).sep (Asr.rows d s u ys)) := by
    rw [List.getElem?_set_ne (fun e => hij e.symm), List.getElem?_set_self hil]
  have run : ∀ ok, ((Asr.rows d s v xs).sep (Asr.rows d s u ys)).P W ok → ∃ v1 w1, (Builtin.append_ #[t, t] ty #[v, u]).run P W = .ok v1 w1 ∧ Kd.S d s w1 0 (fun k => ok k ∨ W.heap.size ≤ k) v1 (xs ++ ys) ∧ W.grownBy w1 v.ownBlock := fun ok ⟨g, h1, h2⟩ => by
    obtain ⟨v1, w1, hrun, hS, hg, _⟩ := S_both (P := P) (t := t) (ty := ty) z bytes ht hinfo hz hs0 h1 h2 (fun k h3 h4 => h4.2 h3.2) (Nat.le_refl _) (Nat.zero_le _) h63 hbytes hy
    exact ⟨v1, w1, hrun, Kd.S_mono hS fun k hk => hk.elim (fun h => .inl h.1) fun hk => hk.elim (fun h => .inl h.1.1) .inr, hg⟩
  obtain ⟨v1, w1, hrun, hS, hg⟩ := run _ (hjn.get i hi2)
  refine ⟨v1, w1, hrun, ?_⟩
  have hup := hjn.upd i hi2 (A' := .rows d s v1 (xs ++ ys)) (M := fun k => some k = v.ownBlock) (Grow.of_grownBy hg fun r e => e.symm) hX (fun ok ⟨g, h1, h2⟩ b hb _ => ((Kd.S_R h1).1 b hb.symm).1) fun ok hA hnew => by
    obtain ⟨v2, w2, hrun2, hS2, _⟩ := run ok hA
    rw [hrun] at hrun2
    injection hrun2 with e1 e2
    subst e1
    subst e2
    exact Kd.S_mono hS2 fun k hk => hk.elim id (hnew k)
  rw [List.set_comm _ _ (fun e => hij e.symm), List.set_set] at hup
  exact hup
end
section
variable {w W W1 : World} {X : Nat → Prop} {l : List Asr} {A A' B : Asr}
/-- a block of the one is none of the other's -/
theorem Sep.ne (h : Sep w X l W) (i j : Nat) (hij : i ≠ j) (hi : l[i]? = some A) (hj : l[j]? = some B) {k k' : Nat} (hA : ∀ ok, A.P W ok → ok k) (hB : ∀ ok, B.P W ok → ok k') : k ≠ k' := by
  obtain ⟨f, hf⟩ := h.tags
  have h1 := (hA _ (hf i A hi)).1
  have h2 := (hB _ (hf j B hj)).1
  rintro rfl
  exact hij (h1.symm.trans h2)
theorem Sep.nX (h : Sep w X l W) (i : Nat) (hi : l[i]? = some A) {k : Nat} (hA : ∀ ok, A.P W ok → ok k) : ¬ X k ∧ w.heap.size ≤ k := by
  have := hA _ (h.get i hi)
  exact ⟨this.2, this.1⟩
/-- the iterator's blocks are told no more, but for one -/
theorem Sep.mark (h : Sep w X l W) {b : Nat} {o : Obj} (hX : X b) (hb : w.heap.size ≤ b) (ho : W.heap[b]? = some o) : Sep w (fun _ => False) (l ++ [.blk b o]) W := by
  obtain ⟨f, hf⟩ := h.tags
  refine ⟨h.hB, fun k => if k = b then l.length else f k, fun i C hi => ?_⟩
  rcases Nat.lt_or_ge i l.length with h1 | h1
  · rw [List.getElem?_append_left h1] at hi
    refine Asr.mono (hf i C hi) fun k h2 _ => ⟨(if_neg fun e => h2.2.2 (by rw [e]; exact hX)).trans h2.1, h2.2.1, fun h => h⟩
  · rw [List.getElem?_append_right h1] at hi
    have h2 : i - l.length = 0 := by
      have := (List.getElem?_eq_some_iff.1 hi).1
      simp at this
      omega
    rw [h2] at hi
    have hC : Asr.blk b o = C := by simpa using hi
    subst hC
    exact ⟨⟨(if_pos rfl).trans (by omega), hb, fun h => h⟩, ho⟩
theorem rows_blk {α : Type} {d : Kd α} {e : Nat} {v : Value} {xs : List α} {k : Nat} (hk : some k = v.ownBlock) : ∀ ok, (Asr.rows d e v xs).P W ok → ok k := fun ok h => (Kd.S_R h).1 k hk.symm
theorem blk_blk {b : Nat} {o : Obj} : ∀ ok, (Asr.blk b o).P W ok → ok b := fun ok h => h.1
end
theorem foot_now {Q : World → Prop} {W : World} {ok : Nat → Prop} (h : (Asr.foot Q).P W ok) : Q W := h W (Nat.le_refl _) fun _ _ _ => rfl
/-- one is used up, or turned, whatever its blocks are -/
theorem Sep.use {w W : World} {X : Nat → Prop} {l : List Asr} {A : Asr} (h : Sep w X l W) (i : Nat) (hi : l[i]? = some A) (hX : ∀ b, X b → b < W.heap.size) : ∃ ok : Nat → Prop, A.P W ok ∧ ∀ (W1 : World) (A' : Asr), Grow (fun b => ok b ∧ b < W.heap.size) W W1 → A'.P W1 (fun b => ok b ∨ W.heap.size ≤ b) → Sep w X (l.set i A') W1 := by
  obtain ⟨f, hf⟩ := h.tags
  have hw := h.hB.size
  refine ⟨_, hf i A hi, fun W1 A' hg hA => ?_⟩
  refine ⟨h.hB.trans (hg.below hw fun k hk => hk.1.2.1), fun b => if b < W.heap.size then f b else i, fun j C hj => ?_⟩
  by_cases hij : j = i
  · subst hij
    rw [List.getElem?_set_self (List.getElem?_eq_some_iff.1 hi).1] at hj
    injection hj with hj
    subst hj
    refine Asr.mono hA fun b h1 _ => ?_
    by_cases hb : b < W.heap.size
    · rcases h1 with h1 | h1
      · exact ⟨(if_pos hb).trans h1.1, h1.2⟩
      · omega
    · exact ⟨if_neg hb, by omega, fun hx => by have := hX b hx; omega⟩
  · rw [List.getElem?_set_ne (fun e => hij e.symm)] at hj
    exact C.step (hf j C hj) hg.size fun b h1 h2 => ⟨hg.block b h2 fun hm => hij (h1.1.symm.trans hm.1.1), (if_pos h2).trans h1.1, h1.2⟩
theorem kept_of_grow {M N : Nat → Prop} {A B : World} (h : Grow N A B) (hn : ∀ k, N k → ¬ M k) : KeptD M A B := ⟨h.size, fun k o hk ho => (h.block k (Array.getElem?_eq_some_iff.1 ho).1 fun h1 => hn k h1 hk).trans ho⟩
theorem Sep.obj {w W : World} {X : Nat → Prop} {l : List Asr} (h : Sep w X l W) (i : Nat) {b : Nat} {o : Obj} (hi : l[i]? = some (.blk b o)) : W.heap[b]? = some o := (h.get i hi).2
/-- a block's object is another -/
theorem Sep.putObj {w W : World} {X : Nat → Prop} {l : List Asr} (h : Sep w X l W) (hX : ∀ b, X b → b < W.heap.size) (i : Nat) {b : Nat} {o o' : Obj} (hi : l[i]? = some (.blk b o)) : Sep w X (l.set i .emp) (W.putObj b o') :=
  h.upd i hi (M := fun k => k = b) (Grow.put o' rfl) hX (fun ok hA k hk _ => by have e : k = b := hk; subst e; exact hA.1) fun _ _ _ => trivial
end Go.Proofs.YtkkkbcjmkmadhaaOwn
/-! text YtkkkbcjmkmadhaaRegionH -/
namespace Go.Proofs.YtkkkbcjmkmadhaaOwn
open Go Go.RowKit Go.Proofs.YtkkkbcjmkmadhaaW.PrintWords
section
variable {P : Program} {ops : Array Oper} {Q : Exit → Act → World → Prop} {md : Region.Mode} {S : World → Prop}
theorem wpAnyH_one {i : Nat} {o : Oper} {fuel : Nat} {listed : Array Bool} {a : Act} {w : World} (hr : Region.ready md ops listed = [i]) (ho : ops[i]? = some o) (hw : Region.wanted o (yielded ops a.tmps) = true)
    (h : ∀ K' : Act → World → Prop, (∀ a w, S w → wpAnyH P md ops Q S fuel (listed.setIfInBounds i true) a w → K' a w) → Oper.wp P o a w K' Q) : wpAnyH P md ops Q S (fuel + 1) listed a w := by
  refine ⟨fun h0 => (by rw [hr] at h0; cases h0), fun j hj => ?_⟩
  rw [hr, List.mem_singleton] at hj
  subst hj
  refine wpOp_step ho fun K' hK => ?_
  rw [if_pos hw]
  exact h K' (fun a w h1 h2 => hK a w ⟨h1, h2⟩)
end
theorem frozen_lt_alloc {W : World} {a : Addr} (h : a.block < W.heap.size) (o : Obj) : (W.alloc o).frozen? a = W.frozen? a := by
  have hh : (W.alloc o).heap[a.block]? = W.heap[a.block]? := Below.heap_alloc W o a.block h
  simp [World.frozen?, hh]
end Go.Proofs.YtkkkbcjmkmadhaaOwn
