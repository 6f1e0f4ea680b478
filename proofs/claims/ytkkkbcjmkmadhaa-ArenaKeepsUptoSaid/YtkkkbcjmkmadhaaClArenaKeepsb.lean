/- Lists that lie apart, marked and grown: the state of the whole. -/
import Derived.Test.YtkkkbcjmkmadhaaClArenaKeepsa
import Derived.Test.YtkkkbcjmkmadhaaWApart
import Derived.Test.YtkkkbcjmkmadhaaWShare
/-! text YtkkkbcjmkmadhaaApart1 -/
namespace Go.Proofs.YtkkkbcjmkmadhaaOwn
open Go Go.RowKit Go.Proofs.YtkkkbcjmkmadhaaW.PrintWords
set_option linter.unusedVariables false
/-- the rows' own blocks -/
def MR (rows : List (Value × Nat)) (b : Nat) : Prop := ∃ p ∈ rows, p.1.ownBlock = some b
/-- tags: row k's blocks k; the list of rows L; the grown ones' list L + 1; a list of news L + 2; what is known L + 3 -/
structure AP (e e' : TypeId) (w : World) (rows : List (Value × Nat)) (A : Option Addr) (D : List (Value × List Value)) (gv : Value) (H : List Value) (mv : Value) (ms : List Value) (Z : List (Nat × Obj)) (f : Nat → Nat) (W : World) : Prop where
  grow : Grow (MR rows) w W
  len : D.length = rows.length
  fw : ∀ b, b < w.heap.size → f b ≤ rows.length ∧ (f b < rows.length → MR rows b)
  out : ∀ k p, rows[k]? = some p → ∃ ad, A = some ad ∧ f ad.block = rows.length ∧ W.cell? (ad.add k) = some p.1
  row : ∀ (k : Nat) p d, rows[k]? = some p → D[k]? = some d → RowF f k e p d W
  gs : At f (rows.length + 1) e' W gv H.length H
  many : At f (rows.length + 2) e W mv ms.length ms
  known : ∀ z ∈ Z, W.heap[z.1]? = some z.2 ∧ f z.1 = rows.length + 3
section
variable {e e' : TypeId} {w W W1 : World} {rows : List (Value × Nat)} {A : Option Addr} {D D' : List (Value × List Value)} {gv gv' : Value} {H H' : List Value} {mv mv' : Value} {ms ms' : List Value} {Z Z' : List (Nat × Obj)} {f f' : Nat → Nat}
theorem AP.upd (h : AP e e' w rows A D gv H mv ms Z f W) (t : Nat) (hf : ∀ b, b < W.heap.size → f' b = f b) (hg : Grow (fun b => f b = t) W W1) (ht : t ≠ rows.length) (hD : D'.length = rows.length)
    (hrow : ∀ (k : Nat) p d, rows[k]? = some p → D'[k]? = some d → (k ≠ t ∧ D[k]? = some d) ∨ RowF f' k e p d W1)
    (hgs : (t ≠ rows.length + 1 ∧ gv' = gv ∧ H' = H) ∨ At f' (rows.length + 1) e' W1 gv' H'.length H')
    (hmany : (t ≠ rows.length + 2 ∧ mv' = mv ∧ ms' = ms) ∨ At f' (rows.length + 2) e W1 mv' ms'.length ms')
    (hZ : ∀ z ∈ Z', (z ∈ Z ∧ t ≠ rows.length + 3) ∨ (W1.heap[z.1]? = some z.2 ∧ f' z.1 = rows.length + 3)) : AP e e' w rows A D' gv' H' mv' ms' Z' f' W1 := by
  have hw := h.grow.size
  have far : ∀ s, s ≠ t → ∀ b, b < W.heap.size → f b = s → W1.heap[b]? = W.heap[b]? := fun s hs b hb e => hg.block b hb fun h2 => hs (by rw [← e, ← h2])
  refine ⟨?_, hD, ?_, ?_, ?_, ?_, ?_, ?_⟩
  · refine ⟨hg.os.trans h.grow.os, hg.tape.trans h.grow.tape, hg.output.trans h.grow.output, Nat.le_trans hw hg.size, fun b hb hn => ?_⟩
    refine (hg.block b (Nat.lt_of_lt_of_le hb hw) fun e => ?_).trans (h.grow.block b hb hn)
    obtain ⟨h1, h2⟩ := h.fw b hb
    exact hn (h2 (by omega))
  · intro b hb
    rw [hf b (Nat.lt_of_lt_of_le hb hw)]
    exact h.fw b hb
  · intro k p hp
    obtain ⟨ad, h1, h2, h3⟩ := h.out k p hp
    have hlt := World.block_lt_of_cell? W (ad.add k) h3
    rw [add_block] at hlt
    refine ⟨ad, h1, (hf _ hlt).trans h2, ?_⟩
    exact (World.cell?_of_block (by rw [add_block]; exact far _ (Ne.symm ht) _ hlt h2)).trans h3
  · intro k p d hp hd
    rcases hrow k p d hp hd with ⟨h1, h2⟩ | h1
    · exact (h.row k p d hp h2).move hf (far k h1)
    · exact h1
  · rcases hgs with ⟨h1, rfl, rfl⟩ | h1
    · exact h.gs.move hf (far _ (Ne.symm h1))
    · exact h1
  · rcases hmany with ⟨h1, rfl, rfl⟩ | h1
    · exact h.many.move hf (far _ (Ne.symm h1))
    · exact h1
  · intro z hz
    rcases hZ z hz with ⟨h1, h2⟩ | h1
    · obtain ⟨h3, h4⟩ := h.known z h1
      have hlt := blk_lt h3
      exact ⟨(far _ (Ne.symm h2) _ hlt h4).trans h3, (hf _ hlt).trans h4⟩
    · exact h1
end
/-- whatever the tags are -/
def AQ (e e' : TypeId) (w : World) (rows : List (Value × Nat)) (A : Option Addr) (D : List (Value × List Value)) (gv : Value) (H : List Value) (mv : Value) (ms : List Value) (Z : List (Nat × Obj)) (W : World) : Prop := ∃ f, AP e e' w rows A D gv H mv ms Z f W
section
variable {e e' : TypeId} {w W W1 : World} {rows : List (Value × Nat)} {A : Option Addr} {D D' : List (Value × List Value)} {gv gv' : Value} {H H' : List Value} {mv mv' : Value} {ms ms' : List Value} {Z Z' : List (Nat × Obj)}
theorem AQ.keep (h : AQ e e' w rows A D gv H mv ms Z W) (hb : Below W.heap.size W W1) : AQ e e' w rows A D gv H mv ms Z W1 := by
  obtain ⟨f, h⟩ := h
  exact ⟨f, h.upd (rows.length + 4) (fun _ _ => rfl) (Grow.of_below hb) (by omega) h.len (fun k p d hp hd => .inl ⟨by have := (List.getElem?_eq_some_iff.1 hp).1; omega, hd⟩) (.inl ⟨by omega, rfl, rfl⟩) (.inl ⟨by omega, rfl, rfl⟩) fun z hz => .inl ⟨hz, by omega⟩⟩
theorem AQ.grow (h : AQ e e' w rows A D gv H mv ms Z W) : Grow (MR rows) w W := by obtain ⟨f, h⟩ := h; exact h.grow
theorem AQ.len (h : AQ e e' w rows A D gv H mv ms Z W) : D.length = rows.length := by obtain ⟨f, h⟩ := h; exact h.len
theorem AQ.out (h : AQ e e' w rows A D gv H mv ms Z W) {k : Nat} {p : Value × Nat} (hp : rows[k]? = some p) : ∃ ad, A = some ad ∧ W.cell? (ad.add k) = some p.1 := by
  obtain ⟨f, h⟩ := h
  obtain ⟨ad, h1, _, h3⟩ := h.out k p hp
  exact ⟨ad, h1, h3⟩
theorem AQ.row (h : AQ e e' w rows A D gv H mv ms Z W) {k : Nat} {p : Value × Nat} {d : Value × List Value} (hp : rows[k]? = some p) (hd : D[k]? = some d) : ∃ f, RowF f k e p d W := by obtain ⟨f, h⟩ := h; exact ⟨f, h.row k p d hp hd⟩
theorem AQ.gs (h : AQ e e' w rows A D gv H mv ms Z W) : ∃ f t, At f t e' W gv H.length H := by obtain ⟨f, h⟩ := h; exact ⟨f, _, h.gs⟩
theorem AQ.many (h : AQ e e' w rows A D gv H mv ms Z W) : ∃ f t, At f t e W mv ms.length ms := by obtain ⟨f, h⟩ := h; exact ⟨f, _, h.many⟩
theorem AQ.known (h : AQ e e' w rows A D gv H mv ms Z W) {z : Nat × Obj} (hz : z ∈ Z) : W.heap[z.1]? = some z.2 := by obtain ⟨f, h⟩ := h; exact (h.known z hz).1
theorem AQ.ge (h : AQ e e' w rows A D gv H mv ms Z W) {b : Nat} (hb : gv.ownBlock = some b ∨ mv.ownBlock = some b) : w.heap.size ≤ b := by
  obtain ⟨f, h⟩ := h
  rcases Nat.lt_or_ge b w.heap.size with h1 | h1
  · have h2 := (h.fw b h1).1
    rcases hb with hb | hb
    · have := h.gs.2 b hb; omega
    · have := h.many.2 b hb; omega
  · exact h1
/-- a block that is laid now, and known -/
theorem AQ.know (h : AQ e e' w rows A D gv H mv ms Z W) (o : Obj) : AQ e e' w rows A D gv H mv ms ((W.heap.size, o) :: Z) (W.alloc o) := by
  obtain ⟨f, h⟩ := h
  refine ⟨fun b => if b = W.heap.size then rows.length + 3 else f b, h.upd (rows.length + 4) (fun b hb => if_neg (by omega)) (Grow.of_below (below_alloc (Below.refl _ _) o)) (by omega) h.len (fun k p d hp hd => .inl ⟨by have := (List.getElem?_eq_some_iff.1 hp).1; omega, hd⟩) (.inl ⟨by omega, rfl, rfl⟩) (.inl ⟨by omega, rfl, rfl⟩) fun z hz => ?_⟩
  rcases List.mem_cons.1 hz with rfl | hz
  · exact .inr ⟨World.alloc_heap_new W o, if_pos rfl⟩
  · exact .inl ⟨hz, by omega⟩
/-- a mark is laid into row k, as it came -/
theorem AQ.mark {k n b c : Nat} {xs : List Value} (h : AQ e e' w rows A D gv H mv ms Z W) (hp : rows[k]? = some (.slice (some ⟨b, 0, none⟩) n c, n)) (hd : D[k]? = some (.slice (some ⟨b, 0, none⟩) n c, xs)) (i : Nat) (u : Value) :
    AQ e e' w rows A (D.set k (.slice (some ⟨b, 0, none⟩) n c, xs.set i u)) gv H mv ms Z (W.setCell ⟨b, i, none⟩ u) := by
  obtain ⟨f, h⟩ := h
  have hr := h.row k _ _ hp hd
  have hk := (List.getElem?_eq_some_iff.1 hp).1
  have hfb : f b = k := hr.now.2 b rfl
  refine ⟨f, h.upd k (fun _ _ => rfl) ⟨rfl, rfl, rfl, ((Below.refl 0 W).setCell (p := ⟨b, i, none⟩) (Nat.zero_le _) u).size, fun b' hb' hn => Below.heap_setCell W ⟨b, i, none⟩ u b' fun e => hn (by have e2 : b' = b := e; rw [e2]; exact hfb)⟩ (by omega) (by simpa using h.len) (fun k' p d hp' hd' => ?_) (.inl ⟨by omega, rfl, rfl⟩) (.inl ⟨by omega, rfl, rfl⟩) fun z hz => .inl ⟨hz, by omega⟩⟩
  rw [List.getElem?_set] at hd'
  by_cases hkk : k = k'
  · subst hkk
    rw [hp] at hp'
    injection hp' with hp'
    rw [if_pos rfl, if_pos (by rw [h.len]; exact hk)] at hd'
    injection hd' with hd'
    subst hp' hd'
    have hl : xs.length = n := by
      have h1 := hr.now
      rcases h1.form with ⟨h0, _⟩ | ⟨b2, c2, cur, e3, _⟩
      · cases h0
      · injection e3 with _ e3 _
        exact e3.symm
    have hn := hr.now
    simp only [hl] at hn
    exact .inr (RowF.start (hn.put i u))
  · rw [if_neg hkk] at hd'
    exact .inl ⟨fun e => hkk e.symm, hd'⟩
/-- row k, as it came, begins to grow (or once more) -/
theorem AQ.reset {k : Nat} {p : Value × Nat} {d : Value × List Value} (h : AQ e e' w rows A D gv H mv ms Z W) (hp : rows[k]? = some p) (hd : D[k]? = some d) : AQ e e' w rows A (D.set k (p.1, d.2.take p.2)) gv H mv ms Z W := by
  obtain ⟨f, h⟩ := h
  have hk := (List.getElem?_eq_some_iff.1 hp).1
  refine ⟨f, h.upd (rows.length + 4) (fun _ _ => rfl) (Grow.refl _ _) (by omega) (by simpa using h.len) (fun k' p' d' hp' hd' => ?_) (.inl ⟨by omega, rfl, rfl⟩) (.inl ⟨by omega, rfl, rfl⟩) fun z hz => .inl ⟨hz, by omega⟩⟩
  rw [List.getElem?_set] at hd'
  by_cases hkk : k = k'
  · subst hkk
    rw [hp] at hp'
    injection hp' with hp'
    rw [if_pos rfl, if_pos (by rw [h.len]; exact hk)] at hd'
    injection hd' with hd'
    subst hp' hd'
    exact .inr (h.row k _ _ hp hd).reset
  · rw [if_neg hkk] at hd'
    exact .inl ⟨by have := (List.getElem?_eq_some_iff.1 hp').1; omega, hd'⟩
/-- row k grows -/
theorem AQ.append {P : Program} {z : Value} {bytes m c : Nat} {ty tt : TypeId} {ad : Addr} {news : List Value} {k : Nat} {p : Value × Nat} {d : Value × List Value} (h : AQ e e' w rows A D gv H mv ms Z W) (hp : rows[k]? = some p) (hd : D[k]? = some d)
    (ht : P.underlying tt = some (.slice e)) (hinfo : (P.info? e).map (fun i => (i.zero, i.size, i.bytes)) = some (some z, 1, bytes)) (hz : z.cells.size = 1)
    (hl : news.length = m) (hnews : ∀ j u, news[j]? = some u → W.cell? (ad.add j) = some u) (h1 : ∀ u ∈ news, u.oneCell' = true) (hm : 0 < m) (hn : d.2.length + m ≤ maxLen) (hb : (d.2.length + m) * bytes ≤ 140737488355328) :
    ∃ v' W1, (Builtin.append_ #[tt, tt] ty #[d.1, .slice (some ad) m c]).run P W = .ok v' W1 ∧ AQ e e' w rows A (D.set k (v', d.2 ++ news)) gv H mv ms Z W1 ∧ W.heap.size ≤ W1.heap.size := by
  obtain ⟨f, h⟩ := h
  have hr := h.row k _ _ hp hd
  have hk := (List.getElem?_eq_some_iff.1 hp).1
  obtain ⟨v', W1, hrun, b', c', hv, hs⟩ := hr.now.append (ty := ty) (c := c) ht hinfo hz hl hnews h1 hm hn hb
  obtain ⟨f', hf', hfar, hrow⟩ := hr.appended hv hs
  have hg : Grow (fun b => f b = k) W W1 := by
    rcases hs with ⟨e1, hg, _⟩ | ⟨_, hg, _⟩
    · exact Grow.of_grownBy hg fun r e2 => by injection e2 with e2; subst e2; exact hr.now.2 b' (by rw [e1]; rfl)
    · exact Grow.of_grownBy hg fun r e2 => by cases e2
  refine ⟨v', W1, hrun, ⟨f', h.upd k hf' hg (by omega) (by simpa using h.len) (fun k' p' d' hp' hd' => ?_) (.inl ⟨by omega, rfl, rfl⟩) (.inl ⟨by omega, rfl, rfl⟩) fun z hz => .inl ⟨hz, by omega⟩⟩, hg.size⟩
  rw [List.getElem?_set] at hd'
  by_cases hkk : k = k'
  · subst hkk
    rw [hp] at hp'
    injection hp' with hp'
    rw [if_pos rfl, if_pos (by rw [h.len]; exact hk)] at hd'
    injection hd' with hd'
    subst hp' hd'
    exact .inr hrow
  · rw [if_neg hkk] at hd'
    exact .inl ⟨fun e => hkk e.symm, hd'⟩
/-- a row of one's own (tag t) grows by At.append's law -/
theorem At.appended {f : Nat → Nat} {t n m : Nat} {v v' : Value} {xs news : List Value} {b' c' : Nat} (h : At f t e W v n xs) (hv : v' = .slice (some ⟨b', 0, none⟩) (n + m) c')
    (hs : (v = .slice (some ⟨b', 0, none⟩) n c' ∧ W.grownBy W1 (some b') ∧ At f t e W1 v' (n + m) (xs ++ news)) ∨ (b' = W.heap.size ∧ W.grownBy W1 none ∧ ∀ f', f' W.heap.size = t → At f' t e W1 v' (n + m) (xs ++ news))) :
    ∃ f', (∀ b, b < W.heap.size → f' b = f b) ∧ Grow (fun b => f b = t) W W1 ∧ At f' t e W1 v' (xs ++ news).length (xs ++ news) := by
  rcases hs with ⟨h1, hg, ha⟩ | ⟨h1, hg, ha⟩
  · refine ⟨f, fun _ _ => rfl, Grow.of_grownBy hg (fun r e2 => by injection e2 with e2; subst e2; exact h.2 b' (by rw [h1]; rfl)), ?_⟩
    rw [ha.len]; exact ha
  · refine ⟨fun b => if b = W.heap.size then t else f b, fun b hb => if_neg (by omega), Grow.of_grownBy hg (fun r e2 => by cases e2), ?_⟩
    have h3 := ha (fun b => if b = W.heap.size then t else f b) (if_pos rfl)
    rw [h3.len]; exact h3
/-- the grown ones' list gets one more -/
theorem AQ.push {P : Program} {z : Value} {bytes m c : Nat} {ty tt : TypeId} {ad : Addr} {news : List Value} (h : AQ e e' w rows A D gv H mv ms Z W)
    (ht : P.underlying tt = some (.slice e')) (hinfo : (P.info? e').map (fun i => (i.zero, i.size, i.bytes)) = some (some z, 1, bytes)) (hz : z.cells.size = 1)
    (hl : news.length = m) (hnews : ∀ j u, news[j]? = some u → W.cell? (ad.add j) = some u) (h1 : ∀ u ∈ news, u.oneCell' = true) (hm : 0 < m) (hn : H.length + m ≤ maxLen) (hb : (H.length + m) * bytes ≤ 140737488355328) :
    ∃ v' W1, (Builtin.append_ #[tt, tt] ty #[gv, .slice (some ad) m c]).run P W = .ok v' W1 ∧ AQ e e' w rows A D v' (H ++ news) mv ms Z W1 ∧ W.heap.size ≤ W1.heap.size := by
  obtain ⟨f, h⟩ := h
  obtain ⟨v', W1, hrun, b', c', hv, hs⟩ := h.gs.append (ty := ty) (c := c) ht hinfo hz hl hnews h1 hm hn hb
  obtain ⟨f', hf', hg, ha⟩ := h.gs.appended hv hs
  exact ⟨v', W1, hrun, ⟨f', h.upd (rows.length + 1) hf' hg (by omega) h.len (fun k p d hp hd => .inl ⟨by have := (List.getElem?_eq_some_iff.1 hp).1; omega, hd⟩) (.inr ha) (.inl ⟨by omega, rfl, rfl⟩) fun z hz => .inl ⟨hz, by omega⟩⟩, hg.size⟩
/-- the list of news gets one more -/
theorem AQ.more {P : Program} {z : Value} {bytes m c : Nat} {ty tt : TypeId} {ad : Addr} {news : List Value} (h : AQ e e' w rows A D gv H mv ms Z W)
    (ht : P.underlying tt = some (.slice e)) (hinfo : (P.info? e).map (fun i => (i.zero, i.size, i.bytes)) = some (some z, 1, bytes)) (hz : z.cells.size = 1)
    (hl : news.length = m) (hnews : ∀ j u, news[j]? = some u → W.cell? (ad.add j) = some u) (h1 : ∀ u ∈ news, u.oneCell' = true) (hm : 0 < m) (hn : ms.length + m ≤ maxLen) (hb : (ms.length + m) * bytes ≤ 140737488355328) :
    ∃ v' W1, (Builtin.append_ #[tt, tt] ty #[mv, .slice (some ad) m c]).run P W = .ok v' W1 ∧ AQ e e' w rows A D gv H v' (ms ++ news) Z W1 ∧ W.heap.size ≤ W1.heap.size := by
  obtain ⟨f, h⟩ := h
  obtain ⟨v', W1, hrun, b', c', hv, hs⟩ := h.many.append (ty := ty) (c := c) ht hinfo hz hl hnews h1 hm hn hb
  obtain ⟨f', hf', hg, ha⟩ := h.many.appended hv hs
  exact ⟨v', W1, hrun, ⟨f', h.upd (rows.length + 2) hf' hg (by omega) h.len (fun k p d hp hd => .inl ⟨by have := (List.getElem?_eq_some_iff.1 hp).1; omega, hd⟩) (.inl ⟨by omega, rfl, rfl⟩) (.inr ha) fun z hz => .inl ⟨hz, by omega⟩⟩, hg.size⟩
/-- no news yet -/
theorem AQ.nomore (h : AQ e e' w rows A D gv H mv ms Z W) : AQ e e' w rows A D gv H (.slice none 0 0) [] Z W := by
  obtain ⟨f, h⟩ := h
  exact ⟨f, h.upd (rows.length + 4) (fun _ _ => rfl) (Grow.refl _ _) (by omega) h.len (fun k p d hp hd => .inl ⟨by have := (List.getElem?_eq_some_iff.1 hp).1; omega, hd⟩) (.inl ⟨by omega, rfl, rfl⟩) (.inr (At.nil _ _ _ _)) fun z hz => .inl ⟨hz, by omega⟩⟩
/-- a store into the grown ones' list -/
theorem AQ.put {b n c : Nat} (h : AQ e e' w rows A D (.slice (some ⟨b, 0, none⟩) n c) H mv ms Z W) (i : Nat) (u : Value) : AQ e e' w rows A D (.slice (some ⟨b, 0, none⟩) n c) (H.set i u) mv ms Z (W.setCell ⟨b, i, none⟩ u) := by
  obtain ⟨f, h⟩ := h
  have hfb : f b = rows.length + 1 := h.gs.2 b rfl
  have hn : n = H.length := by
    rcases h.gs.form with ⟨h0, _⟩ | ⟨b2, c2, cur, e3, _⟩
    · cases h0
    · injection e3 with _ e3 _
  have hg := h.gs
  rw [← hn] at hg
  have hg2 := hg.put i u
  refine ⟨f, h.upd (rows.length + 1) (fun _ _ => rfl) ⟨rfl, rfl, rfl, ((Below.refl 0 W).setCell (p := ⟨b, i, none⟩) (Nat.zero_le _) u).size, fun b' hb' hn => Below.heap_setCell W ⟨b, i, none⟩ u b' fun e => hn (by have e2 : b' = b := e; rw [e2]; exact hfb)⟩ (by omega) h.len (fun k p d hp hd => .inl ⟨by have := (List.getElem?_eq_some_iff.1 hp).1; omega, hd⟩) (.inr (by rw [List.length_set, ← hn]; exact hg2)) (.inl ⟨by omega, rfl, rfl⟩) fun z hz => .inl ⟨hz, by omega⟩⟩
end
/-- rows that lie apart, at the start -/
theorem AQ.start (e e' : TypeId) (w : World) (rows : List (Value × Nat)) (A : Option Addr) (D : List (Value × List Value)) (f : Nat → Nat) (hl : D.length = rows.length)
    (hrow : ∀ (k : Nat) p d, rows[k]? = some p → D[k]? = some d → d.1 = p.1 ∧ At f k e w p.1 p.2 d.2) (hout : ∀ k p, rows[k]? = some p → ∃ ad, A = some ad ∧ rows.length ≤ f ad.block ∧ w.cell? (ad.add k) = some p.1) :
    AQ e e' w rows A D (.slice none 0 0) [] (.slice none 0 0) [] [] w := by
  classical
  have hm : ∀ (k : Nat) p b, rows[k]? = some p → p.1.ownBlock = some b → f b = k ∧ MR rows b := fun k p b hp hb => by
    obtain ⟨hk, hk2⟩ := List.getElem?_eq_some_iff.1 hp
    obtain ⟨d, hd⟩ : ∃ d, D[k]? = some d := ⟨_, List.getElem?_eq_getElem (by omega)⟩
    exact ⟨(hrow k p d hp hd).2.2 b hb, p, List.mem_of_getElem? hp, hb⟩
  have hMR : ∀ b, MR rows b → f b < rows.length := fun b hb => by
    obtain ⟨p, hp, hb⟩ := hb
    obtain ⟨k, hk⟩ := List.getElem?_of_mem hp
    have := (hm k p b hk hb).1
    have := (List.getElem?_eq_some_iff.1 hk).1
    omega
  refine ⟨fun b => if MR rows b then f b else rows.length, ⟨Grow.refl _ _, hl, ?_, ?_, ?_, At.nil _ _ _ _, At.nil _ _ _ _, fun z hz => by cases hz⟩⟩
  · intro b hb
    split
    · rename_i h1
      exact ⟨Nat.le_of_lt (hMR b h1), fun _ => h1⟩
    · exact ⟨Nat.le_refl _, fun h => absurd h (Nat.lt_irrefl _)⟩
  · intro k p hp
    obtain ⟨ad, h1, h2, h3⟩ := hout k p hp
    refine ⟨ad, h1, if_neg fun h4 => ?_, h3⟩
    have := hMR _ h4
    omega
  · intro k p d hp hd
    obtain ⟨h1, h2⟩ := hrow k p d hp hd
    obtain ⟨d1, d2⟩ := d
    subst h1
    refine RowF.start ⟨h2.1, fun b hb => ?_⟩
    refine (if_pos (hm k p b hp hb).2).trans ?_
    exact (hm k p b hp hb).1
end Go.Proofs.YtkkkbcjmkmadhaaOwn
/-! text YtkkkbcjmkmadhaaLot -/
namespace Go.Proofs.YtkkkbcjmkmadhaaOwn
open Go Go.RowKit Go.Proofs.YtkkkbcjmkmadhaaW.PrintWords
set_option linter.unusedVariables false
set_option linter.unusedSimpArgs false
theorem drop_add_left {α : Type} (cs ds : List α) (m : Nat) : (cs ++ ds).drop (cs.length + m) = ds.drop m := by
  rw [← List.drop_drop, List.drop_left]
theorem reps_append {α : Type} {R : α → List Value → Prop} {size : Nat} {ps qs : List α} {cs ds : List Value} (h : Reps R size ps cs) (k : Reps R size qs ds) : Reps R size (ps ++ qs) (cs ++ ds) := by
  refine ⟨by rw [List.length_append, h.1, k.1, List.length_append, Nat.add_mul], fun j q hq => ?_⟩
  rcases Nat.lt_or_ge j ps.length with hj | hj
  · rw [List.getElem?_append_left hj] at hq
    have h1 : j * size + size ≤ cs.length := by rw [h.1, ← Nat.succ_mul]; exact Nat.mul_le_mul_right _ hj
    rw [List.drop_append_of_le_length (by omega), List.take_append_of_le_length (by rw [List.length_drop]; omega)]
    exact h.2 j q hq
  · obtain ⟨m, rfl⟩ : ∃ m, j = ps.length + m := ⟨j - ps.length, by omega⟩
    rw [List.getElem?_append_right hj, Nat.add_sub_cancel_left] at hq
    rw [Nat.add_mul, ← h.1, drop_add_left]
    exact k.2 m q hq
section
variable {α : Type} {d : Kd α} {e : Nat} {W w1 : World} {base : Nat} {ok : Nat → Prop} {v v1 : Value} {xs ys : List α}
/-- several pushed at once: where the append is done -/
theorem R_appendeds {inner news : List Value} (h0 : ∀ k, v.ownBlock = some k → ok k) (hr : Reps (d.M W base (fun k => ok k ∧ some k ≠ v.ownBlock)) d.sz xs inner)
    (hn : Reps (d.M W base (fun k => ok k ∧ some k ≠ v.ownBlock)) d.sz ys news) (hfresh : ∀ k, W.heap.size ≤ k → ok k)
    (hown : w1.ownsRow base e d.sz v1 (xs.length + ys.length) (inner ++ news)) (hg : W.grownBy w1 v.ownBlock) (hat : v1.ownBlock = v.ownBlock ∨ ∃ b, v1.ownBlock = some b ∧ W.heap.size ≤ b) : d.R e w1 base ok v1 (xs ++ ys) := by
  have hne : ∀ k, some k ≠ v.ownBlock → k < W.heap.size → some k ≠ v1.ownBlock := by
    intro k hk hlt
    rcases hat with hat | ⟨b, hb, hle⟩
    · rw [hat]; exact hk
    · rw [hb]
      intro he
      injection he with he
      omega
  have step : ∀ {q : α} {c : List Value}, d.M W base (fun k => ok k ∧ some k ≠ v.ownBlock) q c → d.M w1 base (fun k => ok k ∧ some k ≠ v1.ownBlock) q c := by
    intro q c hq
    have h1 := d.M_move (w1 := w1) (fun k hk => hg.block k hk.2.2.1 hk.1.2) (d.M_bound hq)
    exact d.M_mono (fun k hk => ⟨hk.1.1, hne k hk.1.2 hk.2.2.1⟩) h1
  refine ⟨fun k hk => ?_, inner ++ news, by rw [List.length_append]; exact hown, ?_⟩
  · rcases hat with hat | ⟨b, hb, hle⟩
    · exact h0 k (hat ▸ hk)
    · rw [hb] at hk
      injection hk with hk
      exact hfresh k (by omega)
  · exact (reps_append hr hn).imp_ fun _ _ hq => step hq
open Classical in
/-- the new ones' blocks: of the j-th okj j -/
theorem S_tags (h : Kd.S d e W base ok v xs) (okj : Nat → Nat → Prop) (hap : ∀ j k, okj j k → ¬ ok k) (hdis : ∀ i j k, okj i k → okj j k → i = j) :
    ∃ f, (∀ j k, okj j k → f k = xs.length + j) ∧ (Kd.tag f d).R e W base ok v xs.zipIdx := by
  obtain ⟨f, h⟩ := h
  refine ⟨fun k => if hx : ∃ j, okj j k then xs.length + Classical.choose hx else f k, fun j k hk => ?_, ?_⟩
  · have hx : ∃ j, okj j k := ⟨j, hk⟩
    have h1 : (if hx : ∃ j, okj j k then xs.length + Classical.choose hx else f k) = xs.length + Classical.choose hx := dif_pos hx
    exact h1.trans (by rw [hdis _ _ _ (Classical.choose_spec hx) hk])
  · exact Kd.R_tag h (fun k hk _ => dif_neg (fun ⟨j, h2⟩ => hap j k h2 hk))
/-- several pushed at once -/
theorem S_pushes {P : Program} (t ty : TypeId) (z : Value) (bytes : Nat) (ht : P.underlying t = some (.slice e)) (hinfo : (P.info? e).map (fun i => (i.zero, i.size, i.bytes)) = some (some z, d.sz, bytes)) (hz : z.cells.size = d.sz) (hs0 : 0 < d.sz)
    (okj : Nat → Nat → Prop) (hdis : ∀ i j k, okj i k → okj j k → i = j) (hokj : ∀ j k, okj j k → ok k ∧ some k ≠ v.ownBlock) (hfresh : ∀ k, W.heap.size ≤ k → ok k)
    (HO : Kd.S d e W base (fun k => ok k ∧ ∀ j, ¬ okj j k) v xs) {news : List Value} (hnl : news.length = ys.length * d.sz) (hn : ∀ j p, ys[j]? = some p → d.M W base (okj j) p ((news.drop (j * d.sz)).take d.sz))
    {ad : Addr} {m c : Nat} (hm : ys.length = m) (hnews : ∀ j u, news[j]? = some u → W.cell? (ad.add j) = some u) (h63 : xs.length + m ≤ maxLen) (hbytes : (xs.length + m) * bytes ≤ 140737488355328) (hbase : base ≤ W.heap.size) :
    ∃ v1 w1, (Builtin.append_ #[t, t] ty #[v, .slice (some ad) m c]).run P W = .ok v1 w1 ∧ Kd.S d e w1 base ok v1 (xs ++ ys) ∧ W.grownBy w1 v.ownBlock ∧ (v1.ownBlock = v.ownBlock ∨ v1.ownBlock = some W.heap.size) := by
  obtain ⟨f, hf, hR⟩ := S_tags HO okj (fun j k hk h => h.2 j hk) hdis
  obtain ⟨h0, inner, ho, hr⟩ := hR
  have ho' : W.ownsRow base e d.sz v xs.length inner := by have := ho; rw [List.length_zipIdx] at this; exact this
  obtain ⟨i, hi, hzz⟩ := Option.map_eq_some_iff.1 hinfo
  simp only [Prod.mk.injEq] at hzz
  obtain ⟨hz0, hz1, hz2⟩ := hzz
  subst hm
  have hone : ∀ u ∈ news, u.oneCell' = true := fun u hu => by
    obtain ⟨q, hq⟩ := List.getElem?_of_mem hu
    have hql := (List.getElem?_eq_some_iff.1 hq).1
    have hj : q / d.sz < ys.length := Nat.div_lt_of_lt_mul (by rw [Nat.mul_comm]; omega)
    have hM := hn (q / d.sz) _ (List.getElem?_eq_getElem hj)
    refine d.K_one (d.K_of_M hM) u (List.mem_of_getElem? (i := q % d.sz) ?_)
    rw [List.getElem?_take, if_pos (Nat.mod_lt _ hs0), List.getElem?_drop, Nat.mul_comm, Nat.div_add_mod]
    exact hq
  obtain ⟨v1, w1, hrun, hown, hg, _, hat⟩ := run_append_own_at (P := P) W base t ty e i z d.sz bytes ht hi hz0 hz1 hz2 hz hs0 v xs.length inner ho' ad ys.length c news hnl hnews hone h63 hbytes hbase
  refine ⟨v1, w1, hrun, ⟨f, ?_⟩, hg, hat⟩
  rw [List.zipIdx_append]
  refine R_appendeds (d := Kd.tag f d) (inner := inner) (news := news) (fun k hk => (h0 k hk).1) (hr.imp_ fun p c hp => (Kd.tag f d).M_mono (fun k hk => ⟨hk.1.1, hk.2⟩) hp) ?_ hfresh (by rw [List.length_zipIdx, List.length_zipIdx]; exact hown) hg (hat.imp id fun h => ⟨_, h, Nat.le_refl _⟩)
  refine ⟨by rw [List.length_zipIdx]; exact hnl, fun j p hp => ?_⟩
  rw [List.getElem?_zipIdx] at hp
  obtain ⟨q, hq, rfl⟩ := Option.map_eq_some_iff.1 hp
  exact d.M_mono (fun k hk => ⟨hokj j k hk, by rw [hf j k hk, Nat.zero_add]⟩) (hn j q hq)
/-- one pushed, out of a block of its own -/
theorem S_push {P : Program} (t ty : TypeId) (z : Value) (bytes : Nat) (ht : P.underlying t = some (.slice e)) (hinfo : (P.info? e).map (fun i => (i.zero, i.size, i.bytes)) = some (some z, d.sz, bytes)) (hz : z.cells.size = d.sz) (hs0 : 0 < d.sz)
    {okp : Nat → Prop} (hokp : ∀ k, okp k → ok k ∧ some k ≠ v.ownBlock) (hfresh : ∀ k, W.heap.size ≤ k → ok k)
    (HO : Kd.S d e W base (fun k => ok k ∧ ¬ okp k) v xs) {p : α} {cs : List Value} (hp : d.M W base okp p cs)
    {ad : Addr} {c : Nat} (hnews : ∀ j u, cs[j]? = some u → W.cell? (ad.add j) = some u) (h63 : xs.length + 1 ≤ maxLen) (hbytes : (xs.length + 1) * bytes ≤ 140737488355328) (hbase : base ≤ W.heap.size) :
    ∃ v1 w1, (Builtin.append_ #[t, t] ty #[v, .slice (some ad) 1 c]).run P W = .ok v1 w1 ∧ Kd.S d e w1 base ok v1 (xs ++ [p]) ∧ W.grownBy w1 v.ownBlock ∧ (v1.ownBlock = v.ownBlock ∨ v1.ownBlock = some W.heap.size) := by
  have hl := d.K_len (d.K_of_M hp)
  refine S_pushes t ty z bytes ht hinfo hz hs0 (fun j k => j = 0 ∧ okp k) (fun i j k h1 h2 => by rw [h1.1, h2.1]) (fun j k h => hokp k h.2) hfresh (Kd.S_mono HO fun k hk => ⟨hk.1, fun j h => hk.2 h.2⟩) (ys := [p]) (news := cs) (by simpa using hl) (fun j q hq => ?_) rfl hnews h63 hbytes hbase
  have hj : j = 0 := by
    have := (List.getElem?_eq_some_iff.1 hq).1
    simp at this
    exact this
  subst hj
  have : q = p := by simpa using hq.symm
  subst this
  rw [Nat.zero_mul, List.drop_zero, List.take_of_length_le (by omega)]
  exact d.M_mono (fun k hk => ⟨rfl, hk⟩) hp
end
/-- rows of one cell an element, told row by row -/
theorem S_rows {α : Type} (enc : α → Value) (h1 : ∀ x, (enc x).oneCell' = true) {t e : Nat} {W : World} {base : Nat} {ok : Nat → Prop} {v : Value} {xs : List (List α)} (h : Kd.S (Kd.slice t (Kd.scalar enc h1)) e W base ok v xs) :
    ∃ (rows : List (Value × Nat)) (f : Nat → Nat), rows.length = xs.length ∧ (∀ b, MR rows b → ok b ∧ b < W.heap.size ∧ some b ≠ v.ownBlock) ∧ W.ownsRow base e 1 v xs.length (rows.map (·.1)) ∧
      ∀ (i : Nat) r x, rows[i]? = some r → xs[i]? = some x → r.2 = x.length ∧ At f i t W r.1 r.2 (x.map enc) := by
  obtain ⟨f, h0, inner, ho, hr⟩ := h
  rw [List.length_zipIdx] at ho
  have hsz : (Kd.tag f (Kd.slice t (Kd.scalar enc h1))).sz = 1 := rfl
  rw [hsz] at ho hr
  have hil : inner.length = xs.length := by have := ho.1; omega
  have hrow : ∀ (i : Nat) x u, xs[i]? = some x → inner[i]? = some u → (∀ b, u.ownBlock = some b → ok b ∧ some b ≠ v.ownBlock) ∧ At f i t W u x.length (x.map enc) := fun i x u hx hu => by
    obtain ⟨u', hu', hR⟩ := hr.2 i (x, i) (Kd.zip_at hx)
    have e1 : u' = u := by
      have h3 : ((inner.drop (i * 1)).take 1)[0]? = some u' := by rw [hu']; rfl
      rw [Nat.mul_one, List.getElem?_take, if_pos (by omega), List.getElem?_drop, Nat.add_zero, hu] at h3
      injection h3 with h3
      exact h3.symm
    subst e1
    obtain ⟨g0, inn, gown, gr⟩ := hR
    have e2 : inn = x.map enc := by
      have hl : inn.length = x.length := by have h9 : inn.length = x.length * 1 := gown.1; omega
      refine List.ext_getElem? fun j => ?_
      rw [List.getElem?_map]
      rcases Nat.lt_or_ge j x.length with hj | hj
      · have h4 := gr.2 j x[j] (List.getElem?_eq_getElem hj)
        have h5 : (inn.drop (j * 1)).take 1 = [enc x[j]] := h4
        have h6 : ((inn.drop (j * 1)).take 1)[0]? = some (enc x[j]) := by rw [h5]; rfl
        rw [Nat.mul_one, List.getElem?_take, if_pos (by omega), List.getElem?_drop, Nat.add_zero] at h6
        rw [h6, List.getElem?_eq_getElem hj]; rfl
      · rw [List.getElem?_eq_none (by omega), List.getElem?_eq_none hj]; rfl
    subst e2
    refine ⟨fun b hb => ⟨(g0 b hb).1.1, (g0 b hb).1.2⟩, own_weaken gown (Nat.zero_le _), fun b hb => (g0 b hb).2⟩
  have hz : (inner.zip (xs.map List.length)).length = xs.length := by rw [List.length_zip, List.length_map]; omega
  have hat : ∀ (i : Nat) r, (inner.zip (xs.map List.length))[i]? = some r → inner[i]? = some r.1 ∧ ∃ x, xs[i]? = some x ∧ r.2 = x.length := fun i r hr => by
    rw [List.getElem?_zip_eq_some] at hr
    obtain ⟨h3, h4⟩ := hr
    rw [List.getElem?_map] at h4
    obtain ⟨x, hx, h5⟩ := Option.map_eq_some_iff.1 h4
    exact ⟨h3, x, hx, h5.symm⟩
  refine ⟨inner.zip (xs.map List.length), f, hz, fun b hb => ?_, ?_, fun i r x hr hx => ?_⟩
  · obtain ⟨r, hr, hb⟩ := hb
    obtain ⟨i, hi⟩ := List.getElem?_of_mem hr
    obtain ⟨h3, x, hx, _⟩ := hat i r hi
    obtain ⟨h4, h5⟩ := hrow i x r.1 hx h3
    exact ⟨(h4 b hb).1, own_lt h5.1 b hb, (h4 b hb).2⟩
  · rw [List.map_fst_zip (by rw [List.length_map]; omega)]
    exact ho
  · obtain ⟨h3, x', hx', h6⟩ := hat i r hr
    rw [hx] at hx'
    injection hx' with hx'
    subst hx'
    obtain ⟨h4, h5⟩ := hrow i x r.1 hx h3
    refine ⟨h6, ?_⟩
    rw [h6]
    exact h5
/-- what ApartInts and its like want at the start -/
theorem AQ.ofS {α : Type} (enc : α → Value) (h1 : ∀ x, (enc x).oneCell' = true) {t e e' : Nat} {W : World} {base : Nat} {ok : Nat → Prop} {A : Option Addr} {n c : Nat} {xs : List (List α)} (h : Kd.S (Kd.slice t (Kd.scalar enc h1)) e W base ok (.slice A n c) xs) :
    ∃ (rows : List (Value × Nat)) (D : List (Value × List Value)), rows.length = xs.length ∧ (∀ b, MR rows b → ok b ∧ b < W.heap.size) ∧ AQ t e' W rows A D (.slice none 0 0) [] (.slice none 0 0) [] [] W ∧
      (∀ (k : Nat) p d, rows[k]? = some p → D[k]? = some d → d.1 = p.1 ∧ d.2.length = p.2) ∧ ∀ p ∈ rows, ∃ x ∈ xs, p.2 = x.length := by
  obtain ⟨rows, f, hl, hM, ho, hrow⟩ := S_rows enc h1 h
  have hD : ∀ (k : Nat) p d, rows[k]? = some p → ((rows.zip xs).map fun q => (q.1.1, q.2.map enc))[k]? = some d → ∃ x, xs[k]? = some x ∧ d = (p.1, x.map enc) := fun k p d hp hd => by
    rw [List.getElem?_map] at hd
    obtain ⟨q, hq, rfl⟩ := Option.map_eq_some_iff.1 hd
    rw [List.getElem?_zip_eq_some] at hq
    rw [hp] at hq
    obtain ⟨h3, h4⟩ := hq
    injection h3 with h3
    exact ⟨q.2, h4, by rw [h3]⟩
  have hf : ∀ b, MR rows b → f b < rows.length := fun b ⟨r, hr, hb⟩ => by
    obtain ⟨i, hi⟩ := List.getElem?_of_mem hr
    have hil := (List.getElem?_eq_some_iff.1 hi).1
    obtain ⟨_, h3⟩ := hrow i r _ hi (List.getElem?_eq_getElem (by omega))
    rw [h3.2 b hb]
    exact hil
  refine ⟨rows, (rows.zip xs).map fun q => (q.1.1, q.2.map enc), hl, fun b hb => ⟨(hM b hb).1, (hM b hb).2.1⟩, ?_, fun k p d hp hd => ?_, fun p hp => ?_⟩
  · classical
    refine AQ.start t e' W rows A _ (fun b => if MR rows b then f b else rows.length) (by simp [List.length_zip, hl]) (fun k p d hp hd => ?_) fun k p hp => ?_
    · obtain ⟨x, hx, rfl⟩ := hD k p d hp hd
      obtain ⟨h3, h4⟩ := hrow k p x hp hx
      refine ⟨rfl, h4.1, fun b hb => ?_⟩
      have hb2 : MR rows b := ⟨p, List.mem_of_getElem? hp, hb⟩
      exact (if_pos hb2).trans (h4.2 b hb)
    · have hin : (rows.map (·.1))[k]? = some p.1 := by rw [List.getElem?_map, hp]; rfl
      have hk := (List.getElem?_eq_some_iff.1 hp).1
      rcases ho.2 with ⟨_, h3⟩ | ⟨g, cap, cur, e1, _, hh, hnc, _, hcs, htk⟩
      · omega
      · injection e1 with e1 _ _
        subst e1
        refine ⟨_, rfl, ?_, ?_⟩
        · show rows.length ≤ if MR rows g then f g else rows.length
          rw [if_neg fun h => (hM g h).2.2 rfl]
          exact Nat.le_refl _
        · rw [add_at, Nat.zero_add, blk_cell hh k]
          rw [← htk, List.getElem?_take] at hin
          split at hin
          · simpa using hin
          · cases hin
  · obtain ⟨x, hx, rfl⟩ := hD k p d hp hd
    exact ⟨rfl, by rw [List.length_map]; exact (hrow k p x hp hx).1.symm⟩
  · obtain ⟨i, hi⟩ := List.getElem?_of_mem hp
    have hil := (List.getElem?_eq_some_iff.1 hi).1
    have hx := List.getElem?_eq_getElem (l := xs) (i := i) (by omega)
    exact ⟨_, List.mem_of_getElem? hx, (hrow i p _ hi hx).1⟩
/-- lists whose elements lie apart, as elements -/
def apartK {α : Type} (e : Nat) (d : Kd α) : Kd (List α) where
  sz := 1
  E := e :: d.E
  K := fun w xs cs => ∃ A c, cs = [.slice A xs.length c] ∧ xs.length ≤ c ∧ d.C w A xs.length xs
  M := fun w base ok xs cs => ∃ v, cs = [v] ∧ Kd.S d e w base ok v xs
  K_len := by
    rintro w x cs ⟨A, c, rfl, _⟩
    rfl
  K_one := by
    rintro w x cs ⟨A, c, rfl, _⟩ u hu
    rw [List.mem_singleton.1 hu]
    rfl
  K_below := by
    rintro w w1 x cs hb ⟨A, c, rfl, hl, hr⟩
    exact ⟨A, c, rfl, hl, Kd.C_below hr hb⟩
  K_of_M := by
    rintro w base ok x cs ⟨v, rfl, h⟩
    obtain ⟨A, c, rfl, hl, hr⟩ := Kd.S_reads h
    exact ⟨A, c, rfl, hl, hr⟩
  M_mono := by
    rintro w base ok ok' x cs hok ⟨v, rfl, h⟩
    exact ⟨v, rfl, Kd.S_mono h hok⟩
  M_bound := by
    rintro w base ok x cs ⟨v, rfl, h⟩
    exact ⟨v, rfl, Kd.S_bound h⟩
  M_move := by
    rintro w w1 base ok x cs hm ⟨v, rfl, h⟩
    exact ⟨v, rfl, Kd.S_move h hm⟩
  M_lower := by
    rintro w base base' ok x cs hb ⟨v, rfl, h⟩
    exact ⟨v, rfl, Kd.S_lower h hb⟩
/-- such a list of lists, list by list -/
theorem S_deep {α : Type} {d : Kd α} {e2 e : Nat} {W : World} {base : Nat} {ok : Nat → Prop} {v : Value} {xs : List (List α)} (h : Kd.S (apartK e2 d) e W base ok v xs) :
    ∃ (vs : List Value) (okj : Nat → Nat → Prop), vs.length = xs.length ∧ W.ownsRow base e 1 v xs.length vs ∧ (∀ k, v.ownBlock = some k → ok k) ∧ (∀ (i : Nat) u x, vs[i]? = some u → xs[i]? = some x → Kd.S d e2 W base (okj i) u x) ∧
      (∀ i k, okj i k → ok k ∧ some k ≠ v.ownBlock ∧ k < W.heap.size) ∧ ∀ i j k, okj i k → okj j k → i = j := by
  obtain ⟨f, h0, inner, ho, hr⟩ := h
  rw [List.length_zipIdx] at ho
  have hsz : (Kd.tag f (apartK e2 d)).sz = 1 := rfl
  rw [hsz] at ho hr
  refine ⟨inner, fun i k => ((ok k ∧ some k ≠ v.ownBlock) ∧ f k = i) ∧ k < W.heap.size, by have := ho.1; omega, ho, h0, fun i u x hu hx => ?_, fun i k hk => ⟨hk.1.1.1, hk.1.1.2, hk.2⟩, fun i j k h1 h2 => h1.1.2.symm.trans h2.1.2⟩
  obtain ⟨u', hu', hS⟩ := hr.2 i (x, i) (Kd.zip_at hx)
  have e1 : u' = u := by
    have h3 : ((inner.drop (i * 1)).take 1)[0]? = some u' := by rw [hu']; rfl
    rw [Nat.mul_one, List.getElem?_take, if_pos (by omega), List.getElem?_drop, Nat.add_zero, hu] at h3
    injection h3 with h3
    exact h3.symm
  subst e1
  exact Kd.S_mono (Kd.S_bound hS) fun k hk => ⟨hk.1, hk.2.2.1⟩
/-- lists that lie apart, behind one another: the second's elements pushed onto the first -/
theorem S_both {α : Type} {d : Kd α} {P : Program} {e t ty : TypeId} {W : World} {base base2 : Nat} {ok ok2 : Nat → Prop} {v u : Value} {xs ys : List α} (z : Value) (bytes : Nat) (ht : P.underlying t = some (.slice e)) (hinfo : (P.info? e).map (fun i => (i.zero, i.size, i.bytes)) = some (some z, d.sz, bytes)) (hz : z.cells.size = d.sz) (hs0 : 0 < d.sz)
    (HO : Kd.S d e W base ok v xs) (HU : Kd.S d e W base2 ok2 u ys) (hdis : ∀ k, ok k → ¬ ok2 k) (hb2 : base ≤ base2) (hbase : base ≤ W.heap.size) (h63 : xs.length + ys.length ≤ maxLen) (hbytes : (xs.length + ys.length) * bytes ≤ 140737488355328) (hy : 0 < ys.length) :
    ∃ v1 w1, (Builtin.append_ #[t, t] ty #[v, u]).run P W = .ok v1 w1 ∧ Kd.S d e w1 base (fun k => ok k ∨ (ok2 k ∧ some k ≠ u.ownBlock) ∨ W.heap.size ≤ k) v1 (xs ++ ys) ∧ W.grownBy w1 v.ownBlock ∧ (v1.ownBlock = v.ownBlock ∨ v1.ownBlock = some W.heap.size) := by
  obtain ⟨f, h0, inner, ho, hr⟩ := Kd.S_bound HU |>.imp fun f h => Kd.R_mono (ok' := fun k => ok2 k ∧ k < W.heap.size) h fun k hk => ⟨hk.1, hk.2.2.1⟩
  rw [List.length_zipIdx] at ho
  have hsz : (Kd.tag f d).sz = d.sz := rfl
  rw [hsz] at ho hr
  obtain ⟨g, cap, rfl, _⟩ := ho.form hy
  have hd : ∀ j k, (f k = j ∧ (ok2 k ∧ k < W.heap.size) ∧ some k ≠ (Value.slice (some ⟨g, 0, none⟩) ys.length cap).ownBlock) → ok2 k := fun j k h => h.2.1.1
  refine S_pushes t ty z bytes ht hinfo hz hs0 (fun j k => f k = j ∧ (ok2 k ∧ k < W.heap.size) ∧ some k ≠ (Value.slice (some ⟨g, 0, none⟩) ys.length cap).ownBlock) (fun i j k h1 h2 => h1.1.symm.trans h2.1) (fun j k h => ⟨.inr (.inl ⟨hd j k h, h.2.2⟩), fun e => ?_⟩) (fun k hk => .inr (.inr hk)) (Kd.S_mono HO fun k hk => ⟨.inl hk, fun j h => hdis k hk (hd j k h)⟩) (ys := ys) (news := inner) ho.1 (fun j p hp => ?_) rfl (ho.cells (g := g) rfl) h63 hbytes hbase
  · have h3 : ok k := (Kd.S_R HO).1 k e.symm
    exact hdis k h3 (hd j k h)
  · have h3 := hr.2 j (p, j) (Kd.zip_at hp)
    exact d.M_mono (fun k hk => ⟨hk.2, hk.1.1, hk.1.2⟩) (d.M_lower hb2 h3)
end Go.Proofs.YtkkkbcjmkmadhaaOwn
