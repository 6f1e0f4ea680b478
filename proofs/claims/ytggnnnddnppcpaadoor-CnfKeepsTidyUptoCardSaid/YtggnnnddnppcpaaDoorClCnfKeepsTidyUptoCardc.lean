/- Blocks of a call's own, told one by one; a row that an element is appended to. -/
import Derived.Test.YtggnnnddnppcpaaDoorClCnfKeepsTidyUptoCardp0
import Derived.Test.YtggnnnddnppcpaaDoorClCnfKeepsTidyUptoCarda
import Derived.Maps.AppendAt
import Derived.OwnWalkIn
import Derived.Test.YtggnnnddnppcpaaDoorClCnfKeepsTidyUptoCardb
import Derived.Test.YtggnnnddnppcpaaDoorProg
import Derived.Below
import Derived.Deep.Draws
import Derived.Deep.AppendLies
import Derived.OwnWalk
import Derived.Laws.BytesArg
import Derived.Laws.MakeOwn
import Derived.Laws.OwnMore
import Derived.Deep.OwnRows
import Derived.Tactics
import Derived.Lib.ConvBytes
import Derived.Laws.Slices
import Derived.WalkKit
import Derived.KernelRfl
import Derived.RowKit3
import Derived.Deep.LoopGhost
import Derived.Deep.QuietTactic
import Derived.BigQuiet
import Derived.WideLaws
import Derived.Deep.DeepCutAuto
import Derived.Deep.CutBlock
import Derived.Deep.RegionHeld3
import Derived.Laws.Rows
import Derived.Lib.AppendStr
import Derived.ArgAppend
import Derived.Laws.IdiomCopy
import Derived.OrdersHeld
import Derived.Laws.BitsLemmas
import Derived.RowKit
import Derived.Test.YtggnnnddnppcpaaDoorClCnfKeepsTidyUptoCardp1
import Derived.Test.YtggnnnddnppcpaaDoorClCnfKeepsTidyUptoCardp7
import Derived.Test.YtggnnnddnppcpaaDoorClCnfKeepsTidyUptoCardp8
import Derived.Test.YtggnnnddnppcpaaDoorClCnfKeepsTidyUptoCardp9
import Derived.Test.YtggnnnddnppcpaaDoorClCnfKeepsTidyUptoCardp2
import Derived.Test.YtggnnnddnppcpaaDoorClCnfKeepsTidyUptoCardp3
import Derived.Test.YtggnnnddnppcpaaDoorClCnfKeepsTidyUptoCardp10
import Derived.Test.YtggnnnddnppcpaaDoorClCnfKeepsTidyUptoCardp4
import Derived.Test.YtggnnnddnppcpaaDoorClCnfKeepsTidyUptoCardp5
import Derived.Test.YtggnnnddnppcpaaDoorClCnfKeepsTidyUptoCardp6
import Derived.Test.YtggnnnddnppcpaaDoorClCnfKeepsTidyUptoCardp11
import Derived.Test.YtggnnnddnppcpaaDoorClCnfKeepsTidyUptoCardp12
import Derived.Test.YtggnnnddnppcpaaDoorClCnfKeepsTidyUptoCardp13
import Derived.Test.YtggnnnddnppcpaaDoorClCnfKeepsTidyUptoCardp14
import Derived.Test.YtggnnnddnppcpaaDoorClCnfKeepsTidyUptoCardp15
import Derived.Test.YtggnnnddnppcpaaDoorClCnfKeepsTidyUptoCardp16
import Derived.Test.YtggnnnddnppcpaaDoorClCnfKeepsTidyUptoCardp17
import Derived.Test.YtggnnnddnppcpaaDoorClCnfKeepsTidyUptoCardp18
import Derived.Test.YtggnnnddnppcpaaDoorClCnfKeepsTidyUptoCardp19
import Derived.Test.YtggnnnddnppcpaaDoorClCnfKeepsTidyUptoCardp20
/-! text YtggnnnddnppcpaaDoorFrames -/
namespace Go.Proofs.YtggnnnddnppcpaaDoorOwn
open Go Go.RowKit Go.Proofs.YtggnnnddnppcpaaDoorW.PrintWords
set_option linter.unusedVariables false
/-- since w: new blocks alone; those of l lie as told -/
structure St (w : World) (l : List (Nat × Obj)) (W : World) : Prop where
  hB : Below w.heap.size w W
  nd : (l.map (·.1)).Nodup
  held : ∀ p ∈ l, w.heap.size ≤ p.1 ∧ W.heap[p.1]? = some p.2
section
variable {w W W1 : World} {l : List (Nat × Obj)}
theorem St.start (h : Below w.heap.size w W) : St w [] W := ⟨h, List.nodup_nil, fun _ h => by cases h⟩
theorem St.lt (h : St w l W) {p : Nat × Obj} (hp : p ∈ l) : p.1 < W.heap.size := (Array.getElem?_eq_some_iff.1 (h.held p hp).2).1
theorem St.blk (h : St w l W) (i : Nat) {b : Nat} {o : Obj} (hi : l[i]? = some (b, o)) : W.heap[b]? = some o := (h.held (b, o) (List.mem_of_getElem? hi)).2
theorem St.ge (h : St w l W) (i : Nat) {b : Nat} {o : Obj} (hi : l[i]? = some (b, o)) : w.heap.size ≤ b := (h.held (b, o) (List.mem_of_getElem? hi)).1
theorem St.move (h : St w l W) (hb : Below w.heap.size w W1) (hm : ∀ p ∈ l, W1.heap[p.1]? = W.heap[p.1]?) : St w l W1 := ⟨hb, h.nd, fun p hp => ⟨(h.held p hp).1, (hm p hp).trans (h.held p hp).2⟩⟩
theorem St.new (h : St w l W) (o : Obj) : St w ((W.heap.size, o) :: l) (W.alloc o) := by
  refine ⟨below_alloc h.hB o, ?_, fun p hp => ?_⟩
  · rw [List.map_cons, List.nodup_cons]
    refine ⟨fun hm => ?_, h.nd⟩
    obtain ⟨q, hq, e⟩ := List.mem_map.1 hm
    have := h.lt hq
    simp only at e
    omega
  · rcases List.mem_cons.1 hp with rfl | hp
    · exact ⟨h.hB.size, World.alloc_heap_new W o⟩
    · exact ⟨(h.held p hp).1, (Below.heap_alloc W o p.1 (h.lt hp)).trans (h.held p hp).2⟩
theorem St.keep (h : St w l W) (k : Below W.heap.size W W1) : St w l W1 := h.move (below_step h.hB k) fun p hp => k.block p.1 (h.lt hp)
theorem St.grow {M : Nat → Prop} (h : St w l W) (hg : Grow M W W1) (hM : ∀ k, M k → w.heap.size ≤ k ∧ ∀ p ∈ l, p.1 ≠ k) : St w l W1 :=
  h.move (h.hB.trans (hg.below h.hB.size fun k hk => (hM k hk).1)) fun p hp => hg.block p.1 (h.lt hp) fun hk => (hM _ hk).2 p hp rfl
theorem St.growN {M : Nat → Prop} (h : St w l W) (hg : Grow M W W1) {n : Nat} (hM : ∀ k, M k → n ≤ k) (hw : w.heap.size ≤ n) (hl : ∀ p ∈ l, p.1 < n) : St w l W1 := h.grow hg fun k hk => ⟨Nat.le_trans hw (hM k hk), fun p hp => by have := hl p hp; have := hM k hk; omega⟩
theorem St.far (h : St w l W) {p : Addr} (hp : w.heap.size ≤ p.block) (hl : ∀ q ∈ l, q.1 ≠ p.block) (u : Value) : St w l (W.setCell p u) := h.move (h.hB.setCell hp u) fun q hq => Below.heap_setCell W p u q.1 (hl q hq)
theorem St.grown {row : Option Nat} (h : St w l W) (hg : W.grownBy W1 row) (hr : ∀ k, row = some k → w.heap.size ≤ k ∧ ∀ p ∈ l, p.1 ≠ k) : St w l W1 := h.grow (M := fun k => row = some k) (Grow.of_grownBy hg fun _ e => e) hr
theorem St.put (h : St w l W) (i : Nat) {b t : Nat} {cs cs' : Array Value} (hi : l[i]? = some (b, .cells cs t (0, 0))) (j : Nat) (u : Value) (e : cs.setIfInBounds j u = cs') : St w (l.set i (b, .cells cs' t (0, 0))) (W.setCell ⟨b, j, none⟩ u) := by
  have hm := List.mem_of_getElem? hi
  obtain ⟨hil, hie⟩ := List.getElem?_eq_some_iff.1 hi
  have hkeys : (l.set i (b, .cells cs' t (0, 0))).map (·.1) = l.map (·.1) := by
    rw [List.map_set]
    apply List.ext_getElem?
    intro k
    rw [List.getElem?_set]
    split
    · rename_i hk
      subst hk
      split
      · rw [List.getElem?_map, hi]; rfl
      · rename_i hn
        simp at hn
        omega
    · rfl
  refine ⟨h.hB.setCell (p := ⟨b, j, none⟩) (h.held _ hm).1 u, by rw [hkeys]; exact h.nd, fun p hp => ?_⟩
  obtain ⟨k, hk⟩ := List.getElem?_of_mem hp
  rw [List.getElem?_set] at hk
  split at hk
  · rename_i hik
    subst hik
    injection hk with hk
    subst hk
    exact ⟨(h.held _ hm).1, blk_put (h.held _ hm).2 j u e⟩
  · rename_i hik
    have hpm := List.mem_of_getElem? hk
    refine ⟨(h.held p hpm).1, (Below.heap_setCell W ⟨b, j, none⟩ u p.1 ?_).trans (h.held p hpm).2⟩
    intro e2
    apply hik
    have hnd := h.nd
    have h1 : (l.map (·.1))[i]? = some b := by rw [List.getElem?_map, hi]; rfl
    have h2 : (l.map (·.1))[k]? = some b := by rw [List.getElem?_map, hk]; exact congrArg some e2
    have hi' : i < (l.map (·.1)).length := (List.getElem?_eq_some_iff.1 h1).1
    have hk' : k < (l.map (·.1)).length := (List.getElem?_eq_some_iff.1 h2).1
    have e3 : (l.map (·.1))[i] = (l.map (·.1))[k] := by
      have a1 := (List.getElem?_eq_some_iff.1 h1).2
      have a2 := (List.getElem?_eq_some_iff.1 h2).2
      rw [a1, a2]
    have hp2 := List.pairwise_iff_getElem.1 hnd
    rcases Nat.lt_trichotomy i k with h4 | h4 | h4
    · exact absurd e3 (hp2 i k hi' hk' h4)
    · exact h4
    · exact absurd e3.symm (hp2 k i hk' hi' h4)
theorem St.cell (h : St w l W) (i j : Nat) {b t : Nat} {cs : Array Value} (hi : l[i]? = some (b, .cells cs t (0, 0))) : W.cell? ⟨b, j, none⟩ = cs[j]? := blk_cell (h.blk i hi) j
theorem St.frozen (h : St w l W) (i j : Nat) {b t : Nat} {cs : Array Value} (hi : l[i]? = some (b, .cells cs t (0, 0))) : W.frozen? ⟨b, j, none⟩ = false := blk_frozen (h.blk i hi) j
theorem St.sub {l' : List (Nat × Obj)} (h : St w l W) (hs : l'.Sublist l) : St w l' W := ⟨h.hB, (hs.map _).nodup h.nd, fun p hp => h.held p (hs.subset hp)⟩
end
/-- blocks told one by one, and what holds as long as the blocks of FP lie as they lie -/
structure Fr (w : World) (l : List (Nat × Obj)) (FP : Nat → Prop) (X : World → Prop) (W : World) : Prop where
  st : St w l W
  fp : ∀ k, FP k → k < W.heap.size
  stable : ∀ W1 : World, W.heap.size ≤ W1.heap.size → (∀ k, FP k → W1.heap[k]? = W.heap[k]?) → X W1
section
variable {w W W1 : World} {l : List (Nat × Obj)} {FP : Nat → Prop} {X : World → Prop}
theorem Fr.x (h : Fr w l FP X W) : X W := h.stable W (Nat.le_refl _) fun _ _ => rfl
theorem Fr.move (h : Fr w l FP X W) (hs : St w l W1) (hz : W.heap.size ≤ W1.heap.size) (hm : ∀ k, FP k → W1.heap[k]? = W.heap[k]?) : Fr w l FP X W1 :=
  ⟨hs, fun k hk => Nat.lt_of_lt_of_le (h.fp k hk) hz, fun W2 h2 hm2 => h.stable W2 (Nat.le_trans hz h2) fun k hk => (hm2 k hk).trans (hm k hk)⟩
theorem Fr.move' {l' : List (Nat × Obj)} (h : Fr w l FP X W) (hs : St w l' W1) (hz : W.heap.size ≤ W1.heap.size) (hm : ∀ k, FP k → W1.heap[k]? = W.heap[k]?) : Fr w l' FP X W1 :=
  ⟨hs, fun k hk => Nat.lt_of_lt_of_le (h.fp k hk) hz, fun W2 h2 hm2 => h.stable W2 (Nat.le_trans hz h2) fun k hk => (hm2 k hk).trans (hm k hk)⟩
theorem Fr.new (h : Fr w l FP X W) (o : Obj) : Fr w ((W.heap.size, o) :: l) FP X (W.alloc o) := h.move' (h.st.new o) (by simp) fun k hk => Below.heap_alloc W o k (h.fp k hk)
theorem Fr.keep (h : Fr w l FP X W) (k : Below W.heap.size W W1) : Fr w l FP X W1 := h.move (h.st.keep k) k.size fun j hj => k.block j (h.fp j hj)
theorem Fr.grow {M : Nat → Prop} (h : Fr w l FP X W) (hg : Grow M W W1) (hM : ∀ k, M k → w.heap.size ≤ k ∧ ¬ FP k ∧ ∀ p ∈ l, p.1 ≠ k) : Fr w l FP X W1 :=
  h.move (h.st.grow hg fun k hk => ⟨(hM k hk).1, (hM k hk).2.2⟩) hg.size fun k hk => hg.block k (h.fp k hk) fun hk2 => (hM k hk2).2.1 hk
theorem Fr.growN {M : Nat → Prop} (h : Fr w l FP X W) (hg : Grow M W W1) {n : Nat} (hM : ∀ k, M k → n ≤ k) (hw : w.heap.size ≤ n) (hf : ∀ k, FP k → k < n) (hl : ∀ p ∈ l, p.1 < n) : Fr w l FP X W1 :=
  h.grow hg fun k hk => ⟨Nat.le_trans hw (hM k hk), fun h2 => by have := hf k h2; have := hM k hk; omega, fun p hp => by have := hl p hp; have := hM k hk; omega⟩
theorem Fr.far (h : Fr w l FP X W) {p : Addr} (hp : w.heap.size ≤ p.block) (hf : ¬ FP p.block) (hl : ∀ q ∈ l, q.1 ≠ p.block) (u : Value) : Fr w l FP X (W.setCell p u) :=
  h.move (h.st.far hp hl u) ((Below.refl 0 W).setCell (p := p) (Nat.zero_le _) u).size fun k hk => Below.heap_setCell W p u k fun e => hf (by have e2 : k = _ := e; subst e2; exact hk)
theorem Fr.put (h : Fr w l FP X W) (i : Nat) {b t : Nat} {cs cs' : Array Value} (hi : l[i]? = some (b, .cells cs t (0, 0))) (hf : ¬ FP b) (j : Nat) (u : Value) (e : cs.setIfInBounds j u = cs') : Fr w (l.set i (b, .cells cs' t (0, 0))) FP X (W.setCell ⟨b, j, none⟩ u) :=
  h.move' (h.st.put i hi j u e) ((Below.refl 0 W).setCell (p := ⟨b, j, none⟩) (Nat.zero_le _) u).size fun k hk => Below.heap_setCell W ⟨b, j, none⟩ u k fun e => hf (by have e2 : k = _ := e; subst e2; exact hk)
theorem Fr.sub {l' : List (Nat × Obj)} (h : Fr w l FP X W) (hs : l'.Sublist l) : Fr w l' FP X W := ⟨h.st.sub hs, h.fp, h.stable⟩
/-- facts with footprints, taken together -/
theorem Fr.and {FP' : Nat → Prop} {X' : World → Prop} (h : Fr w l FP X W) (hf : ∀ k, FP' k → k < W.heap.size) (hx : ∀ W1 : World, W.heap.size ≤ W1.heap.size → (∀ k, FP' k → W1.heap[k]? = W.heap[k]?) → X' W1) : Fr w l (fun k => FP k ∨ FP' k) (fun W => X W ∧ X' W) W :=
  ⟨h.st, fun k hk => hk.elim (h.fp k) (hf k), fun W1 hz hm => ⟨h.stable W1 hz fun k hk => hm k (.inl hk), hx W1 hz fun k hk => hm k (.inr hk)⟩⟩
theorem Fr.start (h : St w l W) : Fr w l (fun _ => False) (fun _ => True) W := ⟨h, fun _ h => h.elim, fun _ _ _ => trivial⟩
end
/-- a sequence that gives what S says, as long as its blocks Rd lie as they lie -/
def SQg {α : Type} (F : Fence) (n : Nat) (P : Program) (g : Nat) (lb : Array Value) (encs : α → Array Value) (Hd : World → (Nat → Prop) → α → World → Prop) (Rd : Nat → Prop) (S Sp : List α → Prop) (N : Nat) (W : World) : Prop :=
  (∀ k, Rd k → k < W.heap.size) ∧ ∀ W1 : World, W.heap.size ≤ W1.heap.size → (∀ k, Rd k → W1.heap[k]? = W.heap[k]?) → SeqD F n P g lb encs Hd Rd S Sp N W1
theorem SQg.step {α : Type} {F : Fence} {n : Nat} {P : Program} {g : Nat} {lb : Array Value} {encs : α → Array Value} {Hd : World → (Nat → Prop) → α → World → Prop} {Rd : Nat → Prop} {S Sp : List α → Prop} {N : Nat} {W W1 : World} (h : SQg F n P g lb encs Hd Rd S Sp N W) (hz : W.heap.size ≤ W1.heap.size) (hm : ∀ k, Rd k → W1.heap[k]? = W.heap[k]?) : SQg F n P g lb encs Hd Rd S Sp N W1 :=
  ⟨fun k hk => Nat.lt_of_lt_of_le (h.1 k hk) hz, fun W2 h2 hm2 => h.2 W2 (Nat.le_trans hz h2) fun k hk => (hm2 k hk).trans (hm k hk)⟩
theorem SQg.now {α : Type} {F : Fence} {n : Nat} {P : Program} {g : Nat} {lb : Array Value} {encs : α → Array Value} {Hd : World → (Nat → Prop) → α → World → Prop} {Rd : Nat → Prop} {S Sp : List α → Prop} {N : Nat} {W : World} (h : SQg F n P g lb encs Hd Rd S Sp N W) : SeqD F n P g lb encs Hd Rd S Sp N W := h.2 W (Nat.le_refl _) fun _ _ => rfl
/-- one element more behind a row of one's own: the element lies in a new block -/
theorem R_push {α : Type} {P : Program} (d : Kd α) (t ty e : TypeId) (z : Value) (bytes : Nat) (ht : P.underlying t = some (.slice e)) (hinfo : (P.info? e).map (fun i => (i.zero, i.size, i.bytes)) = some (some z, d.sz, bytes)) (hz : z.cells.size = d.sz) (hs0 : 0 < d.sz)
    {W : World} {base : Nat} {ok okp : Nat → Prop} {v : Value} {xs : List α} {p : α} {cs : List Value} (hR : d.R e W base ok v xs) (hp : d.M W base okp p cs) (hokp : ∀ k, okp k → ok k ∧ some k ≠ v.ownBlock) (hfresh : ∀ k, W.heap.size ≤ k → ok k) (hbase : base ≤ W.heap.size) (hl : (xs.length + 1) * bytes ≤ 140737488355328) (hb0 : 0 < bytes) :
    ∃ v1 w1, (Builtin.append_ #[t, t] ty #[v, .slice (some ⟨W.heap.size, 0, none⟩) 1 1]).run P (W.alloc (.cells cs.toArray e)) = .ok v1 w1 ∧ d.R e w1 base ok v1 (xs ++ [p]) ∧ W.grownBy w1 v.ownBlock ∧ (v1.ownBlock = v.ownBlock ∨ ∃ b, v1.ownBlock = some b ∧ W.heap.size ≤ b) := by
  obtain ⟨h0, inner, hown, hr⟩ := hR
  obtain ⟨i0, hi, hzz⟩ := Option.map_eq_some_iff.1 hinfo
  simp only [Prod.mk.injEq] at hzz
  obtain ⟨hz0, hz1, hz2⟩ := hzz
  have hcl := d.K_len (d.K_of_M hp)
  have hone := d.K_one (d.K_of_M hp)
  have hown2 : (W.alloc (.cells cs.toArray e)).ownsRow base e d.sz v xs.length inner := own_move hown fun k hk => Below.heap_alloc _ _ _ (own_lt hown k hk)
  obtain ⟨v1, w1, hrun, ho1, hg1, _, hat⟩ := run_append_own_at (P := P) (W.alloc (.cells cs.toArray e)) base t ty e i0 z d.sz bytes ht hi hz0 hz1 hz2 hz hs0 v xs.length inner hown2 ⟨W.heap.size, 0, none⟩ 1 1 cs (by omega) (fun j u hj => by
    have hb := World.alloc_heap_new W (.cells cs.toArray e)
    have hc := blk_cell (t := e) hb j
    have ha : (⟨W.heap.size, 0, none⟩ : Addr).add j = ⟨W.heap.size, j, none⟩ := by rw [add_at, Nat.zero_add]
    rw [ha, hc]
    simpa using hj) hone (by
      have : xs.length + 1 ≤ (xs.length + 1) * bytes := Nat.le_mul_of_pos_right _ hb0
      simp only [maxLen]
      omega) hl (by simp; omega)
  have hgW : W.grownBy w1 v.ownBlock := (World.grownBy_alloc W (.cells cs.toArray e) v.ownBlock).trans hg1
  have hatW : v1.ownBlock = v.ownBlock ∨ ∃ b, v1.ownBlock = some b ∧ W.heap.size ≤ b := by
    rcases hat with h | h
    · exact .inl h
    · exact .inr ⟨_, h, by simp⟩
  exact ⟨v1, w1, hrun, Kd.R_appended h0 hr hp hokp hfresh ho1 hgW hatW, hgW, hatW⟩
end Go.Proofs.YtggnnnddnppcpaaDoorOwn
/-! text YtggnnnddnppcpaaDoorRowsLent -/
namespace Go.Proofs.YtggnnnddnppcpaaDoorOwn
open Go Go.RowKit Go.Proofs.YtggnnnddnppcpaaDoorW.PrintWords
set_option linter.unusedVariables false
/-- a slice's head -/
abbrev Hd3 := Option Addr × Nat × Nat
def encH (h : Hd3) : Value := .slice h.1 h.2.1 h.2.2
def headK : Kd Hd3 := Kd.scalar encH fun _ => rfl
/-- where a row lies, its room, its numbers, how many of them a list shows -/
structure LRow where
  A : Option Addr
  c : Nat
  row : List Int
  k : Nat
def LRow.all (t : LRow) : Hd3 := (t.A, t.row.length, t.c)
def LRow.shown (t : LRow) : Hd3 := (t.A, t.k, t.c)
def LRow.nums (t : LRow) : List Int := t.row.take t.k
/-- the rows themselves, each in a block of its own -/
def dataP (W : World) (ok : Nat → Prop) (f : Nat → Nat) (D : List LRow) : Prop := ∀ (i : Nat) t, D[i]? = some t → Kd.R (Kd.int .i64) 3 W 0 (fun k => ok k ∧ f k = i) (.slice t.A t.row.length t.c) t.row ∧ t.k ≤ t.row.length
def dataA (D : List LRow) : Asr := ⟨fun W ok => ∃ f : Nat → Nat, dataP W ok f D, fun {W W1 ok ok'} h hz hk => by
  obtain ⟨f, h⟩ := h
  exact ⟨f, fun i t hi => ⟨(Asr.row (Kd.int .i64) 3 _ _).step (h i t hi).1 hz fun k h1 h2 => ⟨(hk k h1.1 h2).1, (hk k h1.1 h2).2, h1.2⟩, (h i t hi).2⟩⟩⟩
/-- a list of heads -/
abbrev headA (v : Value) (hs : List Hd3) : Asr := .row headK 40 v hs
section
variable {w W W1 W2 : World} {X : Nat → Prop} {l l2 : List Asr} {A B : Asr}
theorem data_nil (W : World) (ok : Nat → Prop) : (dataA []).P W ok := ⟨fun _ => 0, fun i t h => by simp at h⟩
theorem data_get {D : List LRow} {ok : Nat → Prop} (h : (dataA D).P W ok) (i : Nat) {t : LRow} (hi : D[i]? = some t) : t.row.length ≤ t.c ∧ t.k ≤ t.row.length ∧ Kd.C (Kd.int .i64) W t.A t.row.length t.row := by
  obtain ⟨f, h⟩ := h
  have h1 := Kd.R_reads' (h i t hi).1
  exact ⟨h1.2.1, (h i t hi).2, h1.2.2⟩
/-- one more row -/
theorem data_snoc {D : List LRow} {t : LRow} {ok : Nat → Prop} (h : ((dataA D).sep (.row (Kd.int .i64) 3 (.slice t.A t.row.length t.c) t.row)).P W ok) (hk : t.k ≤ t.row.length) : (dataA (D ++ [t])).P W ok := by
  classical
  obtain ⟨g, ⟨f, h1⟩, h2⟩ := h
  refine ⟨fun k => if g k then f k else D.length, fun i u hi => ?_⟩
  rcases Nat.lt_or_ge i D.length with h3 | h3
  · rw [List.getElem?_append_left h3] at hi
    refine ⟨Kd.R_mono (h1 i u hi).1 fun k hk1 => ⟨hk1.1.1, (if_pos hk1.1.2).trans hk1.2⟩, (h1 i u hi).2⟩
  · rw [List.getElem?_append_right h3] at hi
    have h4 : i - D.length = 0 := by
      have := (List.getElem?_eq_some_iff.1 hi).1
      simp at this
      omega
    rw [h4] at hi
    obtain rfl : t = u := by simpa using hi
    exact ⟨Kd.R_mono h2 fun k hk1 => ⟨hk1.1, (if_neg hk1.2).trans (by omega)⟩, hk⟩
theorem Sep.gather (h : Sep w X l W) (i j : Nat) (hij : i ≠ j) {D : List LRow} (t : LRow) (hi : l[i]? = some (dataA D)) (hj : l[j]? = some (.row (Kd.int .i64) 3 (.slice t.A t.row.length t.c) t.row)) (hk : t.k ≤ t.row.length) :
    Sep w X ((l.set i (dataA (D ++ [t]))).set j .emp) W := by
  have h1 := h.join i j hij hi hj
  have h2 := h1.as (A' := dataA (D ++ [t])) i (by rw [List.getElem?_set_ne (fun e => hij e.symm), List.getElem?_set_self (List.getElem?_eq_some_iff.1 hi).1]) fun ok hp => data_snoc hp hk
  rw [List.set_comm _ _ (fun e => hij e.symm), List.set_set] at h2
  exact h2
/-- what a call made, one by one -/
theorem Sep.append (h : Sep w X l W) (h2 : Sep W (fun _ => False) l2 W1) (hX : ∀ b, X b → b < W.heap.size) : Sep w X (l ++ l2) W1 := by
  obtain ⟨f, hf⟩ := h.tags
  obtain ⟨f2, hf2⟩ := h2.tags
  have hw := h.hB.size
  refine ⟨h.hB.trans (h2.hB.mono hw), fun b => if b < W.heap.size then f b else l.length + f2 b, fun i C hi => ?_⟩
  rcases Nat.lt_or_ge i l.length with h1 | h1
  · rw [List.getElem?_append_left h1] at hi
    exact C.step (hf i C hi) h2.hB.size fun b h3 h4 => ⟨h2.hB.block b h4, (if_pos h4).trans h3.1, h3.2⟩
  · rw [List.getElem?_append_right h1] at hi
    refine Asr.mono (hf2 _ C hi) fun b h3 h4 => ⟨?_, Nat.le_trans hw h3.2.1, fun hx => ?_⟩
    · have := h3.2.1
      show (if b < W.heap.size then f b else l.length + f2 b) = i
      rw [if_neg (by omega), h3.1]
      omega
    · have := hX b hx
      have := h3.2.1
      omega
/-- one more head -/
theorem Sep.pushH (h : Sep w X l W) (i : Nat) {v : Value} {hs : List Hd3} (hi : l[i]? = some (headA v hs)) (q : Hd3) (hX : ∀ b, X b → b < W.heap.size) {P : Program} {t ty : TypeId} (ht : P.underlying t = some (.slice 40))
    (hinfo : (P.info? 40).map (fun i => (i.zero, i.size, i.bytes)) = some (some (.slice none 0 0), 1, 24)) (hl : (hs.length + 1) * 24 ≤ 140737488355328) :
    ∃ v1 w1, (Builtin.append_ #[t, t] ty #[v, .slice (some ⟨W.heap.size, 0, none⟩) 1 1]).run P (W.alloc (.cells #[encH q] 40)) = .ok v1 w1 ∧ Sep w X (l.set i (headA v1 (hs ++ [q]))) w1 ∧ Grow (fun k => some k = v.ownBlock) W w1 := by
  have run : ∀ ok, (∀ b, W.heap.size ≤ b → ok b) → (headA v hs).P W ok → ∃ v1 w1, (Builtin.append_ #[t, t] ty #[v, .slice (some ⟨W.heap.size, 0, none⟩) 1 1]).run P (W.alloc (.cells #[encH q] 40)) = .ok v1 w1 ∧ (headA v1 (hs ++ [q])).P w1 ok ∧ W.grownBy w1 v.ownBlock := fun ok hok hp => by
    obtain ⟨v1, w1, hrun, hR, hg, _⟩ := R_push (P := P) headK t ty 40 (.slice none 0 0) 24 ht hinfo rfl Nat.one_pos (W := W) (base := 0) (ok := ok) (okp := fun _ => False) (p := q) (cs := [encH q]) hp rfl (fun k hk => hk.elim) hok (Nat.zero_le _) hl (by decide)
    exact ⟨v1, w1, hrun, hR, hg⟩
  obtain ⟨v1, w1, hrun, _, hg⟩ := run _ (fun b _ => trivial) (Asr.mono (h.get i hi) (ok' := fun _ => True) fun _ _ _ => trivial)
  refine ⟨v1, w1, hrun, h.upd i hi (M := fun k => some k = v.ownBlock) (Grow.of_grownBy hg fun r e => e.symm) hX (fun ok hA b hb _ => hA.1 b hb.symm) fun ok hA hnew => ?_, Grow.of_grownBy hg fun r e => e.symm⟩
  obtain ⟨v2, w2, hrun2, h2, _⟩ := run ok hnew hA
  rw [hrun] at hrun2
  injection hrun2 with e1 e2
  subst e1
  subst e2
  exact h2
theorem C_take {α : Type} {d : Kd α} {A : Option Addr} {n m : Nat} {xs : List α} (h : Kd.C d W A n xs) (hm : m ≤ n) : Kd.C d W A m (xs.take m) := by
  refine ⟨by rw [List.length_take, h.1]; omega, Nat.le_trans hm h.2.1, fun h0 => ?_⟩
  obtain ⟨ad, e, hc⟩ := h.2.2 (by omega)
  refine ⟨ad, e, fun j p hj => hc j p ?_⟩
  rw [List.getElem?_take] at hj
  split at hj
  · exact hj
  · cases hj
/-- what a list of heads shows -/
theorem heads_C {A : Option Addr} {n c : Nat} {ok1 ok2 : Nat → Prop} {U D : List LRow} {hd : LRow → Hd3} {nm : LRow → List Int} (h1 : (headA (.slice A n c) (U.map hd)).P W ok1) (h2 : (dataA D).P W ok2)
    (hU : ∀ (i : Nat) t, U[i]? = some t → ∃ j : Nat, D[j]? = some t) (hd1 : ∀ t, t.k ≤ t.row.length → ∃ m, hd t = (t.A, m, t.c) ∧ m ≤ t.row.length ∧ nm t = t.row.take m) : n = U.length ∧ n ≤ c ∧ Kd.C (Kd.slice 3 (Kd.int .i64)) W A U.length (U.map nm) := by
  obtain ⟨e1, e2, h3⟩ := Kd.R_reads' h1
  rw [List.length_map] at e1 h3
  refine ⟨e1, e2, by rw [List.length_map], h3.2.1, fun h0 => ?_⟩
  obtain ⟨ad, e, hc⟩ := h3.2.2 h0
  refine ⟨ad, e, fun j p hj => ?_⟩
  rw [List.getElem?_map] at hj
  obtain ⟨t, ht, rfl⟩ := Option.map_eq_some_iff.1 hj
  obtain ⟨cs, hl, hcs, hcell⟩ := hc j (hd t) (by rw [List.getElem?_map, ht]; rfl)
  refine ⟨cs, hl, ?_, hcell⟩
  obtain ⟨j2, hj2⟩ := hU j t ht
  obtain ⟨g1, g2, g3⟩ := data_get h2 j2 hj2
  obtain ⟨m, em, hm, en⟩ := hd1 t g2
  have hlen : (nm t).length = m := by rw [en, List.length_take]; omega
  have hcs2 : cs = [encH (hd t)] := hcs
  refine ⟨t.A, t.c, ?_, by omega, ?_⟩
  · rw [hcs2, em, hlen]; rfl
  · rw [hlen, en]; exact C_take g3 hm
/-- a store into a row -/
theorem Sep.putRow (h : Sep w X l W) (hX : ∀ b, X b → b < W.heap.size) (j : Nat) {D : List LRow} (hj : l[j]? = some (dataA D)) (i : Nat) (t : LRow) (hi : D[i]? = some t) (q : Nat) (hq : q < t.row.length) :
    ∃ g, t.A = some ⟨g, 0, none⟩ ∧ W.cell? ⟨g, q, none⟩ = some (.int .i64 (t.row.getD q 0)) ∧ W.frozen? ⟨g, q, none⟩ = false ∧ ∀ x : Int, Sep w X (l.set j (dataA (D.set i { t with row := t.row.set q x }))) (W.setCell ⟨g, q, none⟩ (.int .i64 x)) := by
  obtain ⟨f0, h0⟩ := h.get j hj
  have hR0 := (h0 i t hi).1
  obtain ⟨g, cap, e, _, _, _⟩ := Kd.R_form hR0 (by omega)
  injection e with e1 _ e3
  have hR1 := hR0
  rw [e1] at hR1
  have hc := Kd.R_cell (enc := Value.int .i64) (h1 := fun _ => rfl) 0 hR1 (q : Int) (by omega) (by omega)
  rw [Int.toNat_natCast] at hc
  have hrd : rdOf (0 : Int) t.row (q : Int) = t.row.getD q 0 := by simp [rdOf]
  refine ⟨g, e1, by rw [← hrd]; exact hc.1, hc.2, fun x => ?_⟩
  refine h.upd j hj (grow_put q (.int .i64 x) W) hX (fun ok hA b hb _ => ?_) fun ok hA hnew => ?_
  · obtain ⟨f, hf⟩ := hA
    subst hb
    exact ((hf i t hi).1.1 b (by rw [e1]; rfl)).1
  · obtain ⟨f, hf⟩ := hA
    refine ⟨f, fun i' u hu => ?_⟩
    have hil := (List.getElem?_eq_some_iff.1 hi).1
    by_cases hii : i' = i
    · subst hii
      rw [List.getElem?_set_self hil] at hu
      obtain rfl := Option.some.inj hu
      have h2 := (hf i' t hi).1
      rw [e1] at h2
      have h3 := (Kd.R_put (enc := Value.int .i64) (h1 := fun _ => rfl) h2 (q : Int) x).1
      rw [Int.toNat_natCast] at h3
      show Kd.R (Kd.int .i64) 3 _ 0 _ (.slice t.A (t.row.set q x).length t.c) (t.row.set q x) ∧ t.k ≤ (t.row.set q x).length
      rw [List.length_set, e1]
      exact ⟨h3, (hf i' t hi).2⟩
    · rw [List.getElem?_set_ne (fun e => hii e.symm)] at hu
      refine ⟨Kd.R_far (p := ⟨g, q, none⟩) (hf i' u hu).1 (fun k hk e => hii ?_) _, (hf i' u hu).2⟩
      have h3 := ((hf i t hi).1.1 g (by rw [e1]; rfl)).2
      subst e
      exact hk.2.symm.trans h3
/-- a store into a list of heads -/
theorem Sep.putHead (h : Sep w X l W) (hX : ∀ b, X b → b < W.heap.size) (j : Nat) {A : Option Addr} {n c : Nat} {hs : List Hd3} (hj : l[j]? = some (headA (.slice A n c) hs)) (q : Nat) (hq : q < hs.length) :
    ∃ g, A = some ⟨g, 0, none⟩ ∧ n = hs.length ∧ W.cell? ⟨g, q, none⟩ = some (encH (hs.getD q (none, 0, 0))) ∧ W.frozen? ⟨g, q, none⟩ = false ∧ ∀ x : Hd3, Sep w X (l.set j (headA (.slice A n c) (hs.set q x))) (W.setCell ⟨g, q, none⟩ (encH x)) := by
  have hR0 : Kd.R headK 40 W 0 _ (.slice A n c) hs := h.get j hj
  obtain ⟨g, cap, e, _, _, _⟩ := Kd.R_form hR0 (by omega)
  injection e with e1 e2 e3
  subst e1 e2 e3
  have hc := Kd.R_cell (enc := encH) (h1 := fun _ => rfl) (none, 0, 0) hR0 (q : Int) (by omega) (by omega)
  rw [Int.toNat_natCast] at hc
  have hrd : rdOf ((none, 0, 0) : Hd3) hs (q : Int) = hs.getD q (none, 0, 0) := by simp [rdOf]
  refine ⟨g, rfl, rfl, by rw [← hrd]; exact hc.1, hc.2, fun x => ?_⟩
  refine h.upd j hj (grow_put q (encH x) W) hX (fun ok hA b hb _ => ?_) fun ok hA hnew => ?_
  · subst hb
    exact hA.1 b rfl
  · have h3 := (Kd.R_put (enc := encH) (h1 := fun _ => rfl) hA (q : Int) x).1
    rw [Int.toNat_natCast] at h3
    show Kd.R headK 40 _ 0 ok _ _
    exact h3
end
end Go.Proofs.YtggnnnddnppcpaaDoorOwn
/-! text YtggnnnddnppcpaaDoorGCnfKeepsTidyx0 -/
namespace Go.Proofs.YtggnnnddnppcpaaDoor.PCnfKeepsTidy
open Go.RowKit Go.Proofs.YtggnnnddnppcpaaDoorW.PrintWords Go.Proofs.YtggnnnddnppcpaaDoorW.PrintLast Go.Proofs.YtggnnnddnppcpaaDoorW.PrintMore
attribute [local go_sem] max2_int min2_int max_two min_two max_three min_three max_four min_four   -- for this text's walks alone
set_option linter.unusedVariables false
set_option linter.unusedSimpArgs false



def errW : Option Int → Value
  | none => .nilIface
  | some c => .iface 0 (.int .i64 c)
theorem errW_none : errW none = .nilIface := rfl
theorem errW_some (c : Int) : errW (some c) = .iface 0 (.int .i64 c) := rfl

theorem info3 : (Tryd.prog.info? 3).map (fun i => (i.zero, i.size, i.bytes)) = some (some (.int .i64 0), 1, 8) := by kernel_rfl
theorem info40 : (Tryd.prog.info? 40).map (fun i => (i.zero, i.size, i.bytes)) = some (some (.slice none 0 0), 1, 24) := by kernel_rfl
-- the values' own types
def rd_L1 (xs : List (List Int)) (i : Int) : (List Int) := xs.getD i.toNat ([] : List Int)
theorem at_L1 {w : World} {A : Option Addr} {n : Nat} {xs : List (List Int)} (h : Kd.C (Kd.slice 3 (Kd.int .i64)) w A n xs) (i : Int) (h0 : 0 ≤ i) (h1 : i < n) : ∃ ad A0 c0, A = some ad ∧ w.cell? (ad.add i.toNat) = some (.slice A0 (rd_L1 xs i).length c0) ∧ (rd_L1 xs i).length ≤ c0 ∧ (Kd.int .i64).C w A0 (rd_L1 xs i).length (rd_L1 xs i) := by
  obtain ⟨ad, c, e, _, hK, hc0⟩ := Kd.C_get h ([] : List Int) i h0 h1
  have hc : ∀ j u, c[j]? = some u → w.cell? (ad.add (i.toNat * 1 + j)) = some u := hc0
  obtain ⟨A0, c0, rfl, l0, g0⟩ := hK
  exact ⟨ad, A0, c0, e, by have hq := hc 0 _ rfl; rwa [Nat.mul_one, Nat.add_zero] at hq, l0, g0⟩

/-! #### struct type 24 -/
structure S24 where
  f0 : Int
  f1 : (List (List Int))
end Go.Proofs.YtggnnnddnppcpaaDoor.PCnfKeepsTidy
/-! text YtggnnnddnppcpaaDoorGCnfKeepsTidyx1 -/
namespace Go.Proofs.YtggnnnddnppcpaaDoor.PCnfKeepsTidy
open Go.RowKit Go.Proofs.YtggnnnddnppcpaaDoorW.PrintWords Go.Proofs.YtggnnnddnppcpaaDoorW.PrintLast Go.Proofs.YtggnnnddnppcpaaDoorW.PrintMore
attribute [local go_sem] max2_int min2_int max_two min_two max_three min_three max_four min_four   -- for this text's walks alone
set_option linter.unusedVariables false
set_option linter.unusedSimpArgs false

end Go.Proofs.YtggnnnddnppcpaaDoor.PCnfKeepsTidy
