/- A range over a function whose iterator has blocks of its own, which it may turn, and which no round may turn: M says which blocks are the iterator's. The contract of such an iterator, and the law for the loop over it. (The proof goes by the steps of the kit's law wpIn_rangeFunc_ownG; what is new: M, and what is handed over.) -/
import Derived.RangeFuncWrites
import Derived.RangeFuncCalls
import Derived.Test.YtggnnnddnppcpaaDoorClCnfKeepsTidyUptoCardp0
import Derived.Maps.AppendAt
/-! text YtggnnnddnppcpaaDoorRangeOwn -/
namespace Go.Proofs.YtggnnnddnppcpaaDoorOwn
open Go Go.RowKit
set_option linter.unusedVariables false
variable {F : Fence} {n : Nat} {P : Program}

/-- from A to B: new blocks, and turns of blocks of M alone -/
structure Grow (M : Nat → Prop) (A B : World) : Prop where
  os : B.os = A.os
  tape : B.tape = A.tape
  output : B.output = A.output
  size : A.heap.size ≤ B.heap.size
  block : ∀ k, k < A.heap.size → ¬ M k → B.heap[k]? = A.heap[k]?
theorem Grow.refl (M : Nat → Prop) (A : World) : Grow M A A := ⟨rfl, rfl, rfl, Nat.le_refl _, fun _ _ _ => rfl⟩
theorem Grow.trans {M M' : Nat → Prop} {A B C : World} (h : Grow M A B) (k : Grow M' B C) (hM : ∀ k, M' k → M k ∨ A.heap.size ≤ k) : Grow M A C :=
  ⟨k.os.trans h.os, k.tape.trans h.tape, k.output.trans h.output, Nat.le_trans h.size k.size, fun i hi hn => (k.block i (Nat.lt_of_lt_of_le hi h.size) (fun e => by rcases hM i e with h | h; exact hn h; omega)).trans (h.block i hi hn)⟩
theorem Grow.mono {M M' : Nat → Prop} {A B : World} (h : Grow M A B) (hM : ∀ k, M k → M' k) : Grow M' A B := ⟨h.os, h.tape, h.output, h.size, fun k hk hn => h.block k hk (fun e => hn (hM k e))⟩
theorem Grow.of_grownBy {M : Nat → Prop} {A B : World} {row : Option Nat} (h : A.grownBy B row) (hr : ∀ r, row = some r → M r) : Grow M A B := ⟨h.os, h.tape, h.output, h.size, fun k hk hn => h.block k hk (fun e => hn (hr k e.symm))⟩
theorem Grow.of_below {M : Nat → Prop} {A B : World} (h : Below A.heap.size A B) : Grow M A B := ⟨h.os, h.tape, h.output, h.size, fun k hk _ => h.block k hk⟩
theorem Grow.put {M : Nat → Prop} {A : World} {l : Nat} (o : Obj) (h : M l) : Grow M A (A.putObj l o) := Grow.of_grownBy (grownBy_putObj' A l o) (fun r e => by cases e; exact h)
theorem Grow.below {M : Nat → Prop} {A B : World} {n₀ : Nat} (h : Grow M A B) (hn : n₀ ≤ A.heap.size) (hM : ∀ k, M k → n₀ ≤ k) : Below n₀ A B := ⟨h.os, h.tape, h.output, h.size, fun k hk => h.block k (Nat.lt_of_lt_of_le hk hn) (fun e => Nat.not_le_of_lt hk (hM k e))⟩
/-- M's blocks lie as they lay -/
def KeptD (M : Nat → Prop) (A B : World) : Prop := A.heap.size ≤ B.heap.size ∧ ∀ k o, M k → A.heap[k]? = some o → B.heap[k]? = some o
theorem KeptD.refl (M : Nat → Prop) (A : World) : KeptD M A A := ⟨Nat.le_refl _, fun _ _ _ h => h⟩
theorem KeptD.trans {M : Nat → Prop} {A B C : World} (h : KeptD M A B) (k : KeptD M B C) : KeptD M A C := ⟨Nat.le_trans h.1 k.1, fun i o hi ho => k.2 i o hi (h.2 i o hi ho)⟩
theorem KeptD.mono {M M' : Nat → Prop} {A B : World} (h : KeptD M A B) (hM : ∀ k, M' k → M k) : KeptD M' A B := ⟨h.1, fun k o hk ho => h.2 k o (hM k hk) ho⟩
theorem KeptD.of_below {M : Nat → Prop} {A B : World} (h : Below A.heap.size A B) : KeptD M A B := ⟨h.size, fun k o _ ho => (h.block k (Array.getElem?_eq_some_iff.1 ho).1).trans ho⟩
theorem KeptD.setCell {M : Nat → Prop} {A : World} {p : Addr} (h : ¬ M p.block) (u : Value) : KeptD M A (A.setCell p u) :=
  ⟨((Below.refl 0 A).setCell (p := p) (Nat.zero_le _) u).size, fun k o hk ho => (Below.heap_setCell A p u k (fun e => h (by rw [← e]; exact hk))).trans ho⟩
theorem KeptD.of_grownBy {M : Nat → Prop} {A B : World} {row : Option Nat} (h : A.grownBy B row) (hr : ∀ r, row = some r → ¬ M r) : KeptD M A B :=
  ⟨h.size, fun k o hk ho => (h.block k (Array.getElem?_eq_some_iff.1 ho).1 (fun e => hr k e.symm hk)).trans ho⟩
theorem KeptD.alloc {M : Nat → Prop} (A : World) (o : Obj) : KeptD M A (A.alloc o) := KeptD.of_grownBy (World.grownBy_alloc A o none) (fun r e => by cases e)
/-- M and what is new from A to B -/
def More (M : Nat → Prop) (A B : World) (M1 : Nat → Prop) : Prop := ∀ k, M1 k → M k ∨ (A.heap.size ≤ k ∧ k < B.heap.size)
theorem More.refl (M : Nat → Prop) (A B : World) : More M A B M := fun _ h => .inl h
/-- what a caller holds may go on, whatever the iterator lays and turns of its own -/
def OwnD {β : Type} (I : (Nat → Prop) → β → World → Prop) : Prop := ∀ M M1 s A B, I M s A → Grow M A B → More M A B M1 → I M1 s B
/-- the iterator's contract: Rd: the blocks that it reads and never turns -/
def SeqD {α : Type} (F : Fence) (n : Nat) (P : Program) (g : Nat) (lb : Array Value) (encs : α → Array Value) (Hd : World → (Nat → Prop) → α → World → Prop) (Rd : Nat → Prop) (S Sp : List α → Prop) (N : Nat) (w : World) : Prop :=
  ∀ (l : Nat) (J Jx : (Nat → Prop) → List α → World → Prop) (W : World), Below w.heap.size w W → OwnD J → OwnD Jx →
    (∀ M M1 pre x A W1, J M pre A → Grow M A W1 → More M A W1 M1 → (∀ k, M k → M1 k) → Hd A M1 x W1 → pre.length < N → YieldAt F (n - 1) P l (encs x) W1 fun e W' =>
      (e = .returned (.bool true) ∧ J M1 (pre ++ [x]) W' ∧ KeptD (fun k => M1 k ∨ Rd k) W1 W') ∨ (e = .returned (.bool false) ∧ Jx M1 (pre ++ [x]) W' ∧ KeptD (fun k => M1 k ∨ Rd k) W1 W')) →
    J (fun _ => False) [] W →
    CallsIn F n P g (#[.func (.yield l) #[] #[]] ++ lb) W fun e W' => (∃ v, e = .returned v) ∧ ∃ M, ((∃ xs, S xs ∧ J M xs W') ∨ (∃ pre, Sp pre ∧ Jx M pre W'))
end Go.Proofs.YtggnnnddnppcpaaDoorOwn
/-! text YtggnnnddnppcpaaDoorApart0 -/
namespace Go.Proofs.YtggnnnddnppcpaaDoorOwn
open Go Go.RowKit Go.Proofs.YtggnnnddnppcpaaDoorW.PrintWords
set_option linter.unusedVariables false
/-- the row v of one's own, its block (if any) tagged t -/
def At (f : Nat → Nat) (t : Nat) (e : TypeId) (W : World) (v : Value) (n : Nat) (xs : List Value) : Prop := W.ownsRow 0 e 1 v n xs ∧ ∀ b, v.ownBlock = some b → f b = t
section
variable {f f' : Nat → Nat} {t : Nat} {e : TypeId} {W W1 : World} {v : Value} {n : Nat} {xs : List Value}
theorem At.move (h : At f t e W v n xs) (hf : ∀ b, b < W.heap.size → f' b = f b) (hm : ∀ b, b < W.heap.size → f b = t → W1.heap[b]? = W.heap[b]?) : At f' t e W1 v n xs :=
  ⟨own_move h.1 fun k hk => hm k (own_lt h.1 k hk) (h.2 k hk), fun b hb => (hf b (own_lt h.1 b hb)).trans (h.2 b hb)⟩
theorem At.form (h : At f t e W v n xs) : (v = .slice none 0 0 ∧ n = 0 ∧ xs = []) ∨ ∃ b c cur, v = .slice (some ⟨b, 0, none⟩) n c ∧ W.heap[b]? = some (.cells cur e (0, 0)) ∧ f b = t ∧ n ≤ c ∧ c ≤ maxLen ∧ cur.size = c ∧ cur.toList.take n = xs ∧ xs.length = n := by
  obtain ⟨⟨h1, h2⟩, h3⟩ := h
  rcases h2 with ⟨rfl, rfl⟩ | ⟨b, c, cur, rfl, _, hh, hn, hc, hs, ht⟩
  · exact .inl ⟨rfl, rfl, List.eq_nil_of_length_eq_zero (by simpa using h1)⟩
  · exact .inr ⟨b, c, cur, rfl, hh, h3 b rfl, hn, hc, by simpa using hs, by simpa using ht, by simpa using h1⟩
theorem At.of {b c : Nat} {cur : Array Value} (hh : W.heap[b]? = some (.cells cur e (0, 0))) (hf : f b = t) (hn : n ≤ c) (hc : c ≤ maxLen) (hs : cur.size = c) (hx : cur.toList.take n = xs) : At f t e W (.slice (some ⟨b, 0, none⟩) n c) n xs := by
  refine ⟨⟨?_, .inr ⟨b, c, cur, rfl, Nat.zero_le _, hh, hn, hc, by simpa using hs, by simpa using hx⟩⟩, fun b' hb' => ?_⟩
  · rw [← hx, List.length_take, Array.length_toList]; omega
  · have : b = b' := by simpa [Value.ownBlock] using hb'
    subst this
    exact hf
theorem At.len (h : At f t e W v n xs) : xs.length = n := by simpa using h.1.1
theorem At.nil (f : Nat → Nat) (t : Nat) (e : TypeId) (W : World) : At f t e W (.slice none 0 0) 0 [] := ⟨World.ownsRow_nil W 0 e 1, fun b hb => by simp [Value.ownBlock] at hb⟩
theorem At.cell (h : At f t e W v n xs) {i : Nat} {u : Value} (hi : xs[i]? = some u) : ∃ b c, v = .slice (some ⟨b, 0, none⟩) n c ∧ i < n ∧ W.cell? ⟨b, i, none⟩ = some u ∧ W.frozen? ⟨b, i, none⟩ = false := by
  rcases h.form with ⟨_, _, rfl⟩ | ⟨b, c, cur, rfl, hh, _, hn, hc, hs, ht, hl⟩
  · simp at hi
  · have hin : i < n := by have := (List.getElem?_eq_some_iff.1 hi).1; omega
    refine ⟨b, c, rfl, hin, ?_, blk_frozen hh i⟩
    rw [blk_cell hh i]
    rw [← ht, List.getElem?_take] at hi
    rw [if_pos hin] at hi
    simpa using hi
theorem At.put {b c : Nat} (h : At f t e W (.slice (some ⟨b, 0, none⟩) n c) n xs) (i : Nat) (u : Value) : At f t e (W.setCell ⟨b, i, none⟩ u) (.slice (some ⟨b, 0, none⟩) n c) n (xs.set i u) := by
  rcases h.form with ⟨h0, _⟩ | ⟨b', c', cur, e1, hh, hf, hn, hc, hs, ht, hl⟩
  · cases h0
  · injection e1 with e1 _ e3
    injection e1 with e1
    injection e1 with e1
    subst e1 e3
    refine At.of (cur := cur.setIfInBounds i u) (blk_put hh i u rfl) hf hn hc (by simpa using hs) ?_
    rw [← ht, Array.toList_setIfInBounds, List.take_set]
/-- appended to: in place, or in a new block -/
theorem At.append {P : Program} {z : Value} {bytes m c : Nat} {ty tt : TypeId} {ad : Addr} {news : List Value} (h : At f t e W v n xs) (ht : P.underlying tt = some (.slice e)) (hinfo : (P.info? e).map (fun i => (i.zero, i.size, i.bytes)) = some (some z, 1, bytes)) (hz : z.cells.size = 1)
    (hl : news.length = m) (hnews : ∀ j u, news[j]? = some u → W.cell? (ad.add j) = some u) (h1 : ∀ u ∈ news, u.oneCell' = true) (hm : 0 < m) (hn : n + m ≤ maxLen) (hb : (n + m) * bytes ≤ 140737488355328) :
    ∃ v' W1, (Builtin.append_ #[tt, tt] ty #[v, .slice (some ad) m c]).run P W = .ok v' W1 ∧ ∃ b' c', v' = .slice (some ⟨b', 0, none⟩) (n + m) c' ∧
      ((v = .slice (some ⟨b', 0, none⟩) n c' ∧ W.grownBy W1 (some b') ∧ At f t e W1 v' (n + m) (xs ++ news)) ∨
       (b' = W.heap.size ∧ W.grownBy W1 none ∧ ∀ f', f' W.heap.size = t → At f' t e W1 v' (n + m) (xs ++ news))) := by
  obtain ⟨i, hi, hzz⟩ := Option.map_eq_some_iff.1 hinfo
  simp only [Prod.mk.injEq] at hzz
  obtain ⟨hz0, hz1, hz2⟩ := hzz
  subst hz2
  have hlen : (xs ++ news).length = n + m := by rw [List.length_append, h.len, hl]
  have hsmall : n + m ≤ 9223372036854775807 := by simp only [maxLen] at hn; omega
  rcases h.form with ⟨rfl, rfl, rfl⟩ | ⟨b, cap, cur, rfl, hh, hf, hnc, hcm, hcs, htk, hxl⟩
  · have hr := run_append_nil (P := P) W tt ty e i z ht hi hz0 ad m c news (by simpa [hz1] using hl) hnews (by omega) (by omega) (by have hb2 := hb; simp only [Nat.zero_add] at hb2; omega)
    have hge := grownCap_ge W m 0 e
    have hcm2 := grownCap_le_maxLen W m 0 e (by omega)
    refine ⟨_, _, hr, W.heap.size, _, by rw [Nat.zero_add], .inr ⟨rfl, ⟨rfl, rfl, rfl, by simp, fun k hk _ => Below.heap_alloc W.drew _ k hk⟩, fun f' hf' => ?_⟩⟩
    rw [Nat.zero_add, List.nil_append]
    refine At.of (heap_alloc_new W.drew _) hf' hge hcm2 ?_ ?_
    · simp only [Array.size_append, List.size_toArray, size_zeroCells, hz, hl]
      omega
    · simp only [Array.toList_append]
      rw [← hl]
      exact List.take_left
  · by_cases hroom : n + m ≤ cap
    · have hr := run_append_room (P := P) W tt ty e i ht hi b n cap cur hh ad m c news (by simpa [hz1] using hl) hnews h1 hroom (by rw [hz1, hcs]; omega)
      refine ⟨_, _, hr, b, cap, rfl, .inl ⟨rfl, ⟨rfl, rfl, rfl, by simp, fun k _ hk => setRow_other W b k _ (fun e => hk (by simp [e]))⟩, ?_⟩⟩
      refine At.of (setRow_heap W b cur _ e _ hh) hf hroom hcm ?_ ?_
      · simp only [hz1, List.size_toArray, List.length_append, List.length_take, List.length_drop, Array.length_toList]
        omega
      · simp only [hz1, Nat.mul_one]
        rw [htk, ← hlen]
        exact List.take_left
    · have holds : ∀ j u, xs[j]? = some u → W.cell? ((⟨b, 0, none⟩ : Addr).add j) = some u := h.1.cells (g := b) rfl
      have hr := run_append_grow (P := P) W tt ty e i z ht hi hz0 ⟨b, 0, none⟩ n cap xs (by simpa [hz1] using hxl) holds ad m c news (by simpa [hz1] using hl) hnews (by omega) (by omega) (growslice_fits (by omega) hb)
      have hge := grownCap_ge W (n + m) cap e
      have hcm2 := grownCap_le_maxLen W (n + m) cap e hn
      refine ⟨_, _, hr, W.heap.size, _, rfl, .inr ⟨rfl, ⟨rfl, rfl, rfl, by simp, fun k hk _ => Below.heap_alloc W.drew _ k hk⟩, fun f' hf' => ?_⟩⟩
      refine At.of (heap_alloc_new W.drew _) hf' hge hcm2 ?_ ?_
      · simp only [Array.size_append, List.size_toArray, size_zeroCells, hz, hl, hxl]
        omega
      · simp only [Array.toList_append, List.append_assoc]
        rw [← List.append_assoc, ← hlen]
        exact List.take_left
end
/-- the row p as it came, and what it has grown into: g, which holds ys -/
structure RowF (f : Nat → Nat) (k : Nat) (e : TypeId) (p : Value × Nat) (d : Value × List Value) (W : World) : Prop where
  le : p.2 ≤ d.2.length
  old : At f k e W p.1 p.2 (d.2.take p.2)
  now : At f k e W d.1 d.2.length d.2
  sh : (∃ b n' c, p.1 = .slice (some ⟨b, 0, none⟩) p.2 c ∧ d.1 = .slice (some ⟨b, 0, none⟩) n' c) ∨ ∀ b, d.1.ownBlock = some b → p.1.ownBlock ≠ some b
section
variable {f f' : Nat → Nat} {k : Nat} {e : TypeId} {W W1 : World} {p : Value × Nat} {d : Value × List Value}
theorem RowF.move (h : RowF f k e p d W) (hf : ∀ b, b < W.heap.size → f' b = f b) (hm : ∀ b, b < W.heap.size → f b = k → W1.heap[b]? = W.heap[b]?) : RowF f' k e p d W1 := ⟨h.le, h.old.move hf hm, h.now.move hf hm, h.sh⟩
theorem RowF.start {xs : List Value} (h : At f k e W p.1 p.2 xs) : RowF f k e p (p.1, xs) W := by
  have hl := h.len
  refine ⟨by simp [hl], ?_, ?_, ?_⟩
  · show At f k e W p.1 p.2 (xs.take p.2)
    rw [← hl, List.take_length, hl]; exact h
  · show At f k e W p.1 xs.length xs
    rw [hl]; exact h
  · rcases h.form with ⟨h1, _⟩ | ⟨b, c, _, h1, _⟩
    · exact .inr fun b hb => by rw [h1] at hb; cases hb
    · exact .inl ⟨b, p.2, c, h1, h1⟩
theorem RowF.reset (h : RowF f k e p d W) : RowF f k e p (p.1, d.2.take p.2) W := RowF.start h.old
theorem RowF.appended {v' : Value} {m : Nat} {news : List Value} {b' c' : Nat} (h : RowF f k e p d W) (hv : v' = .slice (some ⟨b', 0, none⟩) (d.2.length + m) c')
    (hs : (d.1 = .slice (some ⟨b', 0, none⟩) d.2.length c' ∧ W.grownBy W1 (some b') ∧ At f k e W1 v' (d.2.length + m) (d.2 ++ news)) ∨ (b' = W.heap.size ∧ W.grownBy W1 none ∧ ∀ f', f' W.heap.size = k → At f' k e W1 v' (d.2.length + m) (d.2 ++ news))) :
    ∃ f', (∀ b, b < W.heap.size → f' b = f b) ∧ (∀ b, b < W.heap.size → f b ≠ k → W1.heap[b]? = W.heap[b]?) ∧ RowF f' k e p (v', d.2 ++ news) W1 := by
  have htk : (d.2 ++ news).take p.2 = d.2.take p.2 := by rw [List.take_append_of_le_length h.le]
  rcases hs with ⟨h1, hg, ha⟩ | ⟨h1, hg, ha⟩
  · have hf : f b' = k := h.now.2 b' (by rw [h1]; rfl)
    refine ⟨f, fun _ _ => rfl, fun b hb hne => hg.block b hb (fun e => by injection e with e; subst e; exact hne hf), ?_, ?_, ?_, ?_⟩
    · have := h.le; simp; omega
    · rcases h.sh with ⟨b, n', c, e1, e2⟩ | h2
      · rw [h1] at e2
        injection e2 with e2 _ e3
        injection e2 with e2
        injection e2 with e2
        subst e2 e3
        rcases ha.form with ⟨h0, _⟩ | ⟨b2, c2, cur, e3, hh, hf2, hn2, hc2, hs2, ht2, hl2⟩
        · rw [hv] at h0; cases h0
        · rw [hv] at e3
          injection e3 with e3 _ e4
          injection e3 with e3
          injection e3 with e3
          subst e3 e4
          have hle := h.le
          show At f k e W1 p.1 p.2 ((d.2 ++ news).take p.2)
          rw [e1]
          refine At.of hh hf2 (by omega) hc2 hs2 ?_
          rw [← ht2, List.take_take, Nat.min_eq_left (by omega)]
      · show At f k e W1 p.1 p.2 ((d.2 ++ news).take p.2)
        rw [htk]
        have hne : p.1.ownBlock ≠ some b' := h2 b' (by rw [h1]; rfl)
        exact ⟨own_move h.old.1 fun j hj => hg.block j (own_lt h.old.1 j hj) (fun e => hne (by rw [hj, ← e])), h.old.2⟩
    · show At f k e W1 v' (d.2 ++ news).length (d.2 ++ news)
      have := ha.len
      rw [this]; exact ha
    · rcases h.sh with ⟨b, n', c, e1, e2⟩ | h2
      · rw [h1] at e2
        injection e2 with e2 _ e3
        injection e2 with e2
        injection e2 with e2
        subst e2 e3
        exact .inl ⟨b', _, c', e1, hv⟩
      · refine .inr fun b hb => ?_
        rw [show (v', d.2 ++ news).1 = v' from rfl, hv] at hb
        have : b' = b := by simpa [Value.ownBlock] using hb
        subst this
        exact h2 b' (by rw [h1]; rfl)
  · refine ⟨fun b => if b = W.heap.size then k else f b, fun b hb => if_neg (by omega), fun b hb _ => hg.block b hb (by simp), ?_, ?_, ?_, ?_⟩
    · have := h.le; simp; omega
    · show At _ k e W1 p.1 p.2 ((d.2 ++ news).take p.2)
      rw [htk]
      exact h.old.move (fun b hb => if_neg (by omega)) fun b hb _ => hg.block b hb (by simp)
    · show At _ k e W1 v' (d.2 ++ news).length (d.2 ++ news)
      have h3 := ha (fun b => if b = W.heap.size then k else f b) (if_pos rfl)
      have := h3.len
      rw [this]; exact h3
    · refine .inr fun b hb => ?_
      rw [show (v', d.2 ++ news).1 = v' from rfl, hv, h1] at hb
      have hb2 : W.heap.size = b := by simpa [Value.ownBlock] using hb
      intro hp
      have := own_lt h.old.1 b hp
      omega
end
end Go.Proofs.YtggnnnddnppcpaaDoorOwn
/-! text YtggnnnddnppcpaaDoorApart1 -/
namespace Go.Proofs.YtggnnnddnppcpaaDoorOwn
open Go Go.RowKit Go.Proofs.YtggnnnddnppcpaaDoorW.PrintWords
set_option linter.unusedVariables false
/-- the rows' own blocks -/
def MR (rows : List (Value × Nat)) (b : Nat) : Prop := ∃ p ∈ rows, p.1.ownBlock = some b
/-- tags: row k's blocks k; the list of rows L; the grown ones' list L + 1; a list of news L + 2; what is known L + 3 -/
structure AP (e e' : TypeId) (w : World) (rows : List (Value × Nat)) (A : Option Addr) (D : List (Value × List Value)) (gv : Value) (H : List Value) (mv : Value) (ms : List Value) (Z : List (Nat × Obj)) (f : Nat → Nat) (W : World) : Prop where
  grow : Grow (MR rows) w W
  len : D.length = rows.length
  fw : ∀ b, b < w.heap.size → f b ≤ rows.length ∧ (f b < rows.length → MR rows b)
  out : ∀ k p, rows[k]? = some p → ∃ ad, A = some ad ∧ f ad.block = rows.length ∧ W.cell? (ad.add k) = some p.1
  row : ∀ (k : Nat) p d, rows[k]? = some p → D[k]? = some d → RowF f k e p d W
  gs : At f (rows.length + 1) e' W gv H.length H
  many : At f (rows.length + 2) e W mv ms.length ms
  known : ∀ z ∈ Z, W.heap[z.1]? = some z.2 ∧ f z.1 = rows.length + 3
section
variable {e e' : TypeId} {w W W1 : World} {rows : List (Value × Nat)} {A : Option Addr} {D D' : List (Value × List Value)} {gv gv' : Value} {H H' : List Value} {mv mv' : Value} {ms ms' : List Value} {Z Z' : List (Nat × Obj)} {f f' : Nat → Nat}
theorem AP.upd (h : AP e e' w rows A D gv H mv ms Z f W) (t : Nat) (hf : ∀ b, b < W.heap.size → f' b = f b) (hg : Grow (fun b => f b = t) W W1) (ht : t ≠ rows.length) (hD : D'.length = rows.length)
    (hrow : ∀ (k : Nat) p d, rows[k]? = some p → D'[k]? = some d → (k ≠ t ∧ D[k]? = some d) ∨ RowF f' k e p d W1)
    (hgs : (t ≠ rows.length + 1 ∧ gv' = gv ∧ H' = H) ∨ At f' (rows.length + 1) e' W1 gv' H'.length H')
    (hmany : (t ≠ rows.length + 2 ∧ mv' = mv ∧ ms' = ms) ∨ At f' (rows.length + 2) e W1 mv' ms'.length ms')
    (hZ : ∀ z ∈ Z', (z ∈ Z ∧ t ≠ rows.length + 3) ∨ (W1.heap[z.1]? = some z.2 ∧ f' z.1 = rows.length + 3)) : AP e e' w rows A D' gv' H' mv' ms' Z' f' W1 := by
  have hw := h.grow.size
  have far : ∀ s, s ≠ t → ∀ b, b < W.heap.size → f b = s → W1.heap[b]? = W.heap[b]? := fun s hs b hb e => hg.block b hb fun h2 => hs (by rw [← e, ← h2])
  refine ⟨?_, hD, ?_, ?_, ?_, ?_, ?_, ?_⟩
  · refine ⟨hg.os.trans h.grow.os, hg.tape.trans h.grow.tape, hg.output.trans h.grow.output, Nat.le_trans hw hg.size, fun b hb hn => ?_⟩
    refine (hg.block b (Nat.lt_of_lt_of_le hb hw) fun e => ?_).trans (h.grow.block b hb hn)
    obtain ⟨h1, h2⟩ := h.fw b hb
    exact hn (h2 (by omega))
  · intro b hb
    rw [hf b (Nat.lt_of_lt_of_le hb hw)]
    exact h.fw b hb
  · intro k p hp
    obtain ⟨ad, h1, h2, h3⟩ := h.out k p hp
    have hlt := World.block_lt_of_cell? W (ad.add k) h3
    rw [add_block] at hlt
    refine ⟨ad, h1, (hf _ hlt).trans h2, ?_⟩
    exact (World.cell?_of_block (by rw [add_block]; exact far _ (Ne.symm ht) _ hlt h2)).trans h3
  · intro k p d hp hd
    rcases hrow k p d hp hd with ⟨h1, h2⟩ | h1
    · exact (h.row k p d hp h2).move hf (far k h1)
    · exact h1
  · rcases hgs with ⟨h1, rfl, rfl⟩ | h1
    · exact h.gs.move hf (far _ (Ne.symm h1))
    · exact h1
  · rcases hmany with ⟨h1, rfl, rfl⟩ | h1
    · exact h.many.move hf (far _ (Ne.symm h1))
    · exact h1
  · intro z hz
    rcases hZ z hz with ⟨h1, h2⟩ | h1
    · obtain ⟨h3, h4⟩ := h.known z h1
      have hlt := blk_lt h3
      exact ⟨(far _ (Ne.symm h2) _ hlt h4).trans h3, (hf _ hlt).trans h4⟩
    · exact h1
end
/-- whatever the tags are -/
def AQ (e e' : TypeId) (w : World) (rows : List (Value × Nat)) (A : Option Addr) (D : List (Value × List Value)) (gv : Value) (H : List Value) (mv : Value) (ms : List Value) (Z : List (Nat × Obj)) (W : World) : Prop := ∃ f, AP e e' w rows A D gv H mv ms Z f W
section
variable {e e' : TypeId} {w W W1 : World} {rows : List (Value × Nat)} {A : Option Addr} {D D' : List (Value × List Value)} {gv gv' : Value} {H H' : List Value} {mv mv' : Value} {ms ms' : List Value} {Z Z' : List (Nat × Obj)}
theorem AQ.keep (h : AQ e e' w rows A D gv H mv ms Z W) (hb : Below W.heap.size W W1) : AQ e e' w rows A D gv H mv ms Z W1 := by
  obtain ⟨f, h⟩ := h
  exact ⟨f, h.upd (rows.length + 4) (fun _ _ => rfl) (Grow.of_below hb) (by omega) h.len (fun k p d hp hd => .inl ⟨by have := (List.getElem?_eq_some_iff.1 hp).1; omega, hd⟩) (.inl ⟨by omega, rfl, rfl⟩) (.inl ⟨by omega, rfl, rfl⟩) fun z hz => .inl ⟨hz, by omega⟩⟩
theorem AQ.grow (h : AQ e e' w rows A D gv H mv ms Z W) : Grow (MR rows) w W := by obtain ⟨f, h⟩ := h; exact h.grow
theorem AQ.len (h : AQ e e' w rows A D gv H mv ms Z W) : D.length = rows.length := by obtain ⟨f, h⟩ := h; exact h.len
theorem AQ.out (h : AQ e e' w rows A D gv H mv ms Z W) {k : Nat} {p : Value × Nat} (hp : rows[k]? = some p) : ∃ ad, A = some ad ∧ W.cell? (ad.add k) = some p.1 := by
  obtain ⟨f, h⟩ := h
  obtain ⟨ad, h1, _, h3⟩ := h.out k p hp
  exact ⟨ad, h1, h3⟩
theorem AQ.row (h : AQ e e' w rows A D gv H mv ms Z W) {k : Nat} {p : Value × Nat} {d : Value × List Value} (hp : rows[k]? = some p) (hd : D[k]? = some d) : ∃ f, RowF f k e p d W := by obtain ⟨f, h⟩ := h; exact ⟨f, h.row k p d hp hd⟩
theorem AQ.gs (h : AQ e e' w rows A D gv H mv ms Z W) : ∃ f t, At f t e' W gv H.length H := by obtain ⟨f, h⟩ := h; exact ⟨f, _, h.gs⟩
theorem AQ.many (h : AQ e e' w rows A D gv H mv ms Z W) : ∃ f t, At f t e W mv ms.length ms := by obtain ⟨f, h⟩ := h; exact ⟨f, _, h.many⟩
theorem AQ.known (h : AQ e e' w rows A D gv H mv ms Z W) {z : Nat × Obj} (hz : z ∈ Z) : W.heap[z.1]? = some z.2 := by obtain ⟨f, h⟩ := h; exact (h.known z hz).1
theorem AQ.ge (h : AQ e e' w rows A D gv H mv ms Z W) {b : Nat} (hb : gv.ownBlock = some b ∨ mv.ownBlock = some b) : w.heap.size ≤ b := by
  obtain ⟨f, h⟩ := h
  rcases Nat.lt_or_ge b w.heap.size with h1 | h1
  · have h2 := (h.fw b h1).1
    rcases hb with hb | hb
    · have := h.gs.2 b hb; omega
    · have := h.many.2 b hb; omega
  · exact h1
/-- a block that is laid now, and known -/
theorem AQ.know (h : AQ e e' w rows A D gv H mv ms Z W) (o : Obj) : AQ e e' w rows A D gv H mv ms ((W.heap.size, o) :: Z) (W.alloc o) := by
  obtain ⟨f, h⟩ := h
  refine ⟨fun b => if b = W.heap.size then rows.length + 3 else f b, h.upd (rows.length + 4) (fun b hb => if_neg (by omega)) (Grow.of_below (below_alloc (Below.refl _ _) o)) (by omega) h.len (fun k p d hp hd => .inl ⟨by have := (List.getElem?_eq_some_iff.1 hp).1; omega, hd⟩) (.inl ⟨by omega, rfl, rfl⟩) (.inl ⟨by omega, rfl, rfl⟩) fun z hz => ?_⟩
  rcases List.mem_cons.1 hz with rfl | hz
  · exact .inr ⟨World.alloc_heap_new W o, if_pos rfl⟩
  · exact .inl ⟨hz, by omega⟩
/-- a mark is laid into row k, as it came -/
theorem AQ.mark {k n b c : Nat} {xs : List Value} (h : AQ e e' w rows A D gv H mv ms Z W) (hp : rows[k]? = some (.slice (some ⟨b, 0, none⟩) n c, n)) (hd : D[k]? = some (.slice (some ⟨b, 0, none⟩) n c, xs)) (i : Nat) (u : Value) :
    AQ e e' w rows A (D.set k (.slice (some ⟨b, 0, none⟩) n c, xs.set i u)) gv H mv ms Z (W.setCell ⟨b, i, none⟩ u) := by
  obtain ⟨f, h⟩ := h
  have hr := h.row k _ _ hp hd
  have hk := (List.getElem?_eq_some_iff.1 hp).1
  have hfb : f b = k := hr.now.2 b rfl
  refine ⟨f, h.upd k (fun _ _ => rfl) ⟨rfl, rfl, rfl, ((Below.refl 0 W).setCell (p := ⟨b, i, none⟩) (Nat.zero_le _) u).size, fun b' hb' hn => Below.heap_setCell W ⟨b, i, none⟩ u b' fun e => hn (by have e2 : b' = b := e; rw [e2]; exact hfb)⟩ (by omega) (by simpa using h.len) (fun k' p d hp' hd' => ?_) (.inl ⟨by omega, rfl, rfl⟩) (.inl ⟨by omega, rfl, rfl⟩) fun z hz => .inl ⟨hz, by omega⟩⟩
  rw [List.getElem?_set] at hd'
  by_cases hkk : k = k'
  · subst hkk
    rw [hp] at hp'
    injection hp' with hp'
    rw [if_pos rfl, if_pos (by rw [h.len]; exact hk)] at hd'
    injection hd' with hd'
    subst hp' hd'
    have hl : xs.length = n := by
      have h1 := hr.now
      rcases h1.form with ⟨h0, _⟩ | ⟨b2, c2, cur, e3, _⟩
      · cases h0
      · injection e3 with _ e3 _
        exact e3.symm
    have hn := hr.now
    simp only [hl] at hn
    exact .inr (RowF.start (hn.put i u))
  · rw [if_neg hkk] at hd'
    exact .inl ⟨fun e => hkk e.symm, hd'⟩
/-- row k, as it came, begins to grow (or once more) -/
theorem AQ.reset {k : Nat} {p : Value × Nat} {d : Value × List Value} (h : AQ e e' w rows A D gv H mv ms Z W) (hp : rows[k]? = some p) (hd : D[k]? = some d) : AQ e e' w rows A (D.set k (p.1, d.2.take p.2)) gv H mv ms Z W := by
  obtain ⟨f, h⟩ := h
  have hk := (List.getElem?_eq_some_iff.1 hp).1
  refine ⟨f, h.upd (rows.length + 4) (fun _ _ => rfl) (Grow.refl _ _) (by omega) (by simpa using h.len) (fun k' p' d' hp' hd' => ?_) (.inl ⟨by omega, rfl, rfl⟩) (.inl ⟨by omega, rfl, rfl⟩) fun z hz => .inl ⟨hz, by omega⟩⟩
  rw [List.getElem?_set] at hd'
  by_cases hkk : k = k'
  · subst hkk
    rw [hp] at hp'
    injection hp' with hp'
    rw [if_pos rfl, if_pos (by rw [h.len]; exact hk)] at hd'
    injection hd' with hd'
    subst hp' hd'
    exact .inr (h.row k _ _ hp hd).reset
  · rw [if_neg hkk] at hd'
    exact .inl ⟨by have := (List.getElem?_eq_some_iff.1 hp').1; omega, hd'⟩
/-- row k grows -/
theorem AQ.append {P : Program} {z : Value} {bytes m c : Nat} {ty tt : TypeId} {ad : Addr} {news : List Value} {k : Nat} {p : Value × Nat} {d : Value × List Value} (h : AQ e e' w rows A D gv H mv ms Z W) (hp : rows[k]? = some p) (hd : D[k]? = some d)
    (ht : P.underlying tt = some (.slice e)) (hinfo : (P.info? e).map (fun i => (i.zero, i.size, i.bytes)) = some (some z, 1, bytes)) (hz : z.cells.size = 1)
    (hl : news.length = m) (hnews : ∀ j u, news[j]? = some u → W.cell? (ad.add j) = some u) (h1 : ∀ u ∈ news, u.oneCell' = true) (hm : 0 < m) (hn : d.2.length + m ≤ maxLen) (hb : (d.2.length + m) * bytes ≤ 140737488355328) :
    ∃ v' W1, (Builtin.append_ #[tt, tt] ty #[d.1, .slice (some ad) m c]).run P W = .ok v' W1 ∧ AQ e e' w rows A (D.set k (v', d.2 ++ news)) gv H mv ms Z W1 ∧ W.heap.size ≤ W1.heap.size := by
  obtain ⟨f, h⟩ := h
  have hr := h.row k _ _ hp hd
  have hk := (List.getElem?_eq_some_iff.1 hp).1
  obtain ⟨v', W1, hrun, b', c', hv, hs⟩ := hr.now.append (ty := ty) (c := c) ht hinfo hz hl hnews h1 hm hn hb
  obtain ⟨f', hf', hfar, hrow⟩ := hr.appended hv hs
  have hg : Grow (fun b => f b = k) W W1 := by
    rcases hs with ⟨e1, hg, _⟩ | ⟨_, hg, _⟩
    · exact Grow.of_grownBy hg fun r e2 => by injection e2 with e2; subst e2; exact hr.now.2 b' (by rw [e1]; rfl)
    · exact Grow.of_grownBy hg fun r e2 => by cases e2
  refine ⟨v', W1, hrun, ⟨f', h.upd k hf' hg (by omega) (by simpa using h.len) (fun k' p' d' hp' hd' => ?_) (.inl ⟨by omega, rfl, rfl⟩) (.inl ⟨by omega, rfl, rfl⟩) fun z hz => .inl ⟨hz, by omega⟩⟩, hg.size⟩
  rw [List.getElem?_set] at hd'
  by_cases hkk : k = k'
  · subst hkk
    rw [hp] at hp'
    injection hp' with hp'
    rw [if_pos rfl, if_pos (by rw [h.len]; exact hk)] at hd'
    injection hd' with hd'
    subst hp' hd'
    exact .inr hrow
  · rw [if_neg hkk] at hd'
    exact .inl ⟨fun e => hkk e.symm, hd'⟩
/-- a row of one's own (tag t) grows by At.append's law -/
theorem At.appended {f : Nat → Nat} {t n m : Nat} {v v' : Value} {xs news : List Value} {b' c' : Nat} (h : At f t e W v n xs) (hv : v' = .slice (some ⟨b', 0, none⟩) (n + m) c')
    (hs : (v = .slice (some ⟨b', 0, none⟩) n c' ∧ W.grownBy W1 (some b') ∧ At f t e W1 v' (n + m) (xs ++ news)) ∨ (b' = W.heap.size ∧ W.grownBy W1 none ∧ ∀ f', f' W.heap.size = t → At f' t e W1 v' (n + m) (xs ++ news))) :
    ∃ f', (∀ b, b < W.heap.size → f' b = f b) ∧ Grow (fun b => f b = t) W W1 ∧ At f' t e W1 v' (xs ++ news).length (xs ++ news) := by
  rcases hs with ⟨h1, hg, ha⟩ | ⟨h1, hg, ha⟩
  · refine ⟨f, fun _ _ => rfl, Grow.of_grownBy hg (fun r e2 => by injection e2 with e2; subst e2; exact h.2 b' (by rw [h1]; rfl)), ?_⟩
    rw [ha.len]; exact ha
  · refine ⟨fun b => if b = W.heap.size then t else f b, fun b hb => if_neg (by omega), Grow.of_grownBy hg (fun r e2 => by cases e2), ?_⟩
    have h3 := ha (fun b => if b = W.heap.size then t else f b) (if_pos rfl)
    rw [h3.len]; exact h3
/-- the grown ones' list gets one more -/
theorem AQ.push {P : Program} {z : Value} {bytes m c : Nat} {ty tt : TypeId} {ad : Addr} {news : List Value} (h : AQ e e' w rows A D gv H mv ms Z W)
    (ht : P.underlying tt = some (.slice e')) (hinfo : (P.info? e').map (fun i => (i.zero, i.size, i.bytes)) = some (some z, 1, bytes)) (hz : z.cells.size = 1)
    (hl : news.length = m) (hnews : ∀ j u, news[j]? = some u → W.cell? (ad.add j) = some u) (h1 : ∀ u ∈ news, u.oneCell' = true) (hm : 0 < m) (hn : H.length + m ≤ maxLen) (hb : (H.length + m) * bytes ≤ 140737488355328) :
    ∃ v' W1, (Builtin.append_ #[tt, tt] ty #[gv, .slice (some ad) m c]).run P W = .ok v' W1 ∧ AQ e e' w rows A D v' (H ++ news) mv ms Z W1 ∧ W.heap.size ≤ W1.heap.size := by
  obtain ⟨f, h⟩ := h
  obtain ⟨v', W1, hrun, b', c', hv, hs⟩ := h.gs.append (ty := ty) (c := c) ht hinfo hz hl hnews h1 hm hn hb
  obtain ⟨f', hf', hg, ha⟩ := h.gs.appended hv hs
  exact ⟨v', W1, hrun, ⟨f', h.upd (rows.length + 1) hf' hg (by omega) h.len (fun k p d hp hd => .inl ⟨by have := (List.getElem?_eq_some_iff.1 hp).1; omega, hd⟩) (.inr ha) (.inl ⟨by omega, rfl, rfl⟩) fun z hz => .inl ⟨hz, by omega⟩⟩, hg.size⟩
/-- the list of news gets one more -/
theorem AQ.more {P : Program} {z : Value} {bytes m c : Nat} {ty tt : TypeId} {ad : Addr} {news : List Value} (h : AQ e e' w rows A D gv H mv ms Z W)
    (ht : P.underlying tt = some (.slice e)) (hinfo : (P.info? e).map (fun i => (i.zero, i.size, i.bytes)) = some (some z, 1, bytes)) (hz : z.cells.size = 1)
    (hl : news.length = m) (hnews : ∀ j u, news[j]? = some u → W.cell? (ad.add j) = some u) (h1 : ∀ u ∈ news, u.oneCell' = true) (hm : 0 < m) (hn : ms.length + m ≤ maxLen) (hb : (ms.length + m) * bytes ≤ 140737488355328) :
    ∃ v' W1, (Builtin.append_ #[tt, tt] ty #[mv, .slice (some ad) m c]).run P W = .ok v' W1 ∧ AQ e e' w rows A D gv H v' (ms ++ news) Z W1 ∧ W.heap.size ≤ W1.heap.size := by
  obtain ⟨f, h⟩ := h
  obtain ⟨v', W1, hrun, b', c', hv, hs⟩ := h.many.append (ty := ty) (c := c) ht hinfo hz hl hnews h1 hm hn hb
  obtain ⟨f', hf', hg, ha⟩ := h.many.appended hv hs
  exact ⟨v', W1, hrun, ⟨f', h.upd (rows.length + 2) hf' hg (by omega) h.len (fun k p d hp hd => .inl ⟨by have := (List.getElem?_eq_some_iff.1 hp).1; omega, hd⟩) (.inl ⟨by omega, rfl, rfl⟩) (.inr ha) fun z hz => .inl ⟨hz, by omega⟩⟩, hg.size⟩
/-- no news yet -/
theorem AQ.nomore (h : AQ e e' w rows A D gv H mv ms Z W) : AQ e e' w rows A D gv H (.slice none 0 0) [] Z W := by
  obtain ⟨f, h⟩ := h
  exact ⟨f, h.upd (rows.length + 4) (fun _ _ => rfl) (Grow.refl _ _) (by omega) h.len (fun k p d hp hd => .inl ⟨by have := (List.getElem?_eq_some_iff.1 hp).1; omega, hd⟩) (.inl ⟨by omega, rfl, rfl⟩) (.inr (At.nil _ _ _ _)) fun z hz => .inl ⟨hz, by omega⟩⟩
/-- a store into the grown ones' list -/
theorem AQ.put {b n c : Nat} (h : AQ e e' w rows A D (.slice (some ⟨b, 0, none⟩) n c) H mv ms Z W) (i : Nat) (u : Value) : AQ e e' w rows A D (.slice (some ⟨b, 0, none⟩) n c) (H.set i u) mv ms Z (W.setCell ⟨b, i, none⟩ u) := by
  obtain ⟨f, h⟩ := h
  have hfb : f b = rows.length + 1 := h.gs.2 b rfl
  have hn : n = H.length := by
    rcases h.gs.form with ⟨h0, _⟩ | ⟨b2, c2, cur, e3, _⟩
    · cases h0
    · injection e3 with _ e3 _
  have hg := h.gs
  rw [← hn] at hg
  have hg2 := hg.put i u
  refine ⟨f, h.upd (rows.length + 1) (fun _ _ => rfl) ⟨rfl, rfl, rfl, ((Below.refl 0 W).setCell (p := ⟨b, i, none⟩) (Nat.zero_le _) u).size, fun b' hb' hn => Below.heap_setCell W ⟨b, i, none⟩ u b' fun e => hn (by have e2 : b' = b := e; rw [e2]; exact hfb)⟩ (by omega) h.len (fun k p d hp hd => .inl ⟨by have := (List.getElem?_eq_some_iff.1 hp).1; omega, hd⟩) (.inr (by rw [List.length_set, ← hn]; exact hg2)) (.inl ⟨by omega, rfl, rfl⟩) fun z hz => .inl ⟨hz, by omega⟩⟩
end
/-- rows that lie apart, at the start -/
theorem AQ.start (e e' : TypeId) (w : World) (rows : List (Value × Nat)) (A : Option Addr) (D : List (Value × List Value)) (f : Nat → Nat) (hl : D.length = rows.length)
    (hrow : ∀ (k : Nat) p d, rows[k]? = some p → D[k]? = some d → d.1 = p.1 ∧ At f k e w p.1 p.2 d.2) (hout : ∀ k p, rows[k]? = some p → ∃ ad, A = some ad ∧ rows.length ≤ f ad.block ∧ w.cell? (ad.add k) = some p.1) :
    AQ e e' w rows A D (.slice none 0 0) [] (.slice none 0 0) [] [] w := by
  classical
  have hm : ∀ (k : Nat) p b, rows[k]? = some p → p.1.ownBlock = some b → f b = k ∧ MR rows b := fun k p b hp hb => by
    obtain ⟨hk, hk2⟩ := List.getElem?_eq_some_iff.1 hp
    obtain ⟨d, hd⟩ : ∃ d, D[k]? = some d := ⟨_, List.getElem?_eq_getElem (by omega)⟩
    exact ⟨(hrow k p d hp hd).2.2 b hb, p, List.mem_of_getElem? hp, hb⟩
  have hMR : ∀ b, MR rows b → f b < rows.length := fun b hb => by
    obtain ⟨p, hp, hb⟩ := hb
    obtain ⟨k, hk⟩ := List.getElem?_of_mem hp
    have := (hm k p b hk hb).1
    have := (List.getElem?_eq_some_iff.1 hk).1
    omega
  refine ⟨fun b => if MR rows b then f b else rows.length, ⟨Grow.refl _ _, hl, ?_, ?_, ?_, At.nil _ _ _ _, At.nil _ _ _ _, fun z hz => by cases hz⟩⟩
  · intro b hb
    split
    · rename_i h1
      exact ⟨Nat.le_of_lt (hMR b h1), fun _ => h1⟩
    · exact ⟨Nat.le_refl _, fun h => absurd h (Nat.lt_irrefl _)⟩
  · intro k p hp
    obtain ⟨ad, h1, h2, h3⟩ := hout k p hp
    refine ⟨ad, h1, if_neg fun h4 => ?_, h3⟩
    have := hMR _ h4
    omega
  · intro k p d hp hd
    obtain ⟨h1, h2⟩ := hrow k p d hp hd
    obtain ⟨d1, d2⟩ := d
    subst h1
    refine RowF.start ⟨h2.1, fun b hb => ?_⟩
    refine (if_pos (hm k p b hp hb).2).trans ?_
    exact (hm k p b hp hb).1
end Go.Proofs.YtggnnnddnppcpaaDoorOwn
