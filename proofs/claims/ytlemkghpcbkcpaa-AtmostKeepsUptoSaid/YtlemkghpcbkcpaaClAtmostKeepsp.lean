/- Lists that lie apart, marked and grown: the state of the whole. -/
import Derived.Test.YtlemkghpcbkcpaaClAtmostKeepso
/-! text YtlemkghpcbkcpaaApart1 -/
namespace Go.Proofs.YtlemkghpcbkcpaaOwn
open Go Go.RowKit Go.Proofs.YtlemkghpcbkcpaaW.PrintWords
set_option linter.unusedVariables false
/-- the rows' own blocks -/
def MR (rows : List (Value × Nat)) (b : Nat) : Prop := ∃ p ∈ rows, p.1.ownBlock = some b
/-- tags: row k's blocks k; the list of rows L; the grown ones' list L + 1; a list of news L + 2; what is known L + 3 -/
structure AP (e e' : TypeId) (w : World) (rows : List (Value × Nat)) (A : Option Addr) (D : List (Value × List Value)) (gv : Value) (H : List Value) (mv : Value) (ms : List Value) (Z : List (Nat × Obj)) (f : Nat → Nat) (W : World) : Prop where
  grow : Grow (MR rows) w W
  len : D.length = rows.length
  fw : ∀ b, b < w.heap.size → f b ≤ rows.length ∧ (f b < rows.length → MR rows b)
  out : ∀ k p, rows[k]? = some p → ∃ ad, A = some ad ∧ f ad.block = rows.length ∧ W.cell? (ad.add k) = some p.1
  row : ∀ (k : Nat) p d, rows[k]? = some p → D[k]? = some d → RowF f k e p d W
  gs : At f (rows.length + 1) e' W gv H.length H
  many : At f (rows.length + 2) e W mv ms.length ms
  known : ∀ z ∈ Z, W.heap[z.1]? = some z.2 ∧ f z.1 = rows.length + 3
section
variable {e e' : TypeId} {w W W1 : World} {rows : List (Value × Nat)} {A : Option Addr} {D D' : List (Value × List Value)} {gv gv' : Value} {H H' : List Value} {mv mv' : Value} {ms ms' : List Value} {Z Z' : List (Nat × Obj)} {f f' : Nat → Nat}
theorem AP.upd (h : AP e e' w rows A D gv H mv ms Z f W) (t : Nat) (hf : ∀ b, b < W.heap.size → f' b = f b) (hg : Grow (fun b => f b = t) W W1) (ht : t ≠ rows.length) (hD : D'.length = rows.length)
    (hrow : ∀ (k : Nat) p d, rows[k]? = some p → D'[k]? = some d → (k ≠ t ∧ D[k]? = some d) ∨ RowF f' k e p d W1)
    (hgs : (t ≠ rows.length + 1 ∧ gv' = gv ∧ H' = H) ∨ At f' (rows.length + 1) e' W1 gv' H'.length H')
    (hmany : (t ≠ rows.length + 2 ∧ mv' = mv ∧ ms' = ms) ∨ At f' (rows.length + 2) e W1 mv' ms'.length ms')
    (hZ : ∀ z ∈ Z', (z ∈ Z ∧ t ≠ rows.length + 3) ∨ (W1.heap[z.1]? = some z.2 ∧ f' z.1 = rows.length + 3)) : AP e e' w rows A D' gv' H' mv' ms' Z' f' W1 := by
  have hw := h.grow.size
  have far : ∀ s, s ≠ t → ∀ b, b < W.heap.size → f b = s → W1.heap[b]? = W.heap[b]? := fun s hs b hb e => hg.block b hb fun h2 => hs (by rw [← e, ← h2])
  refine ⟨?_, hD, ?_, ?_, ?_, ?_, ?_, ?_⟩
  · refine ⟨hg.os.trans h.grow.os, hg.tape.trans h.grow.tape, hg.output.trans h.grow.output, Nat.le_trans hw hg.size, fun b hb hn => ?_⟩
    refine (hg.block b (Nat.lt_of_lt_of_le hb hw) fun e => ?_).trans (h.grow.block b hb hn)
    obtain ⟨h1, h2⟩ := h.fw b hb
    exact hn (h2 (by omega))
  · intro b hb
    rw [hf b (Nat.lt_of_lt_of_le hb hw)]
    exact h.fw b hb
  · intro k p hp
    obtain ⟨ad, h1, h2, h3⟩ := h.out k p hp
    have hlt := World.block_lt_of_cell? W (ad.add k) h3
    rw [add_block] at hlt
    refine ⟨ad, h1, (hf _ hlt).trans h2, ?_⟩
    exact (World.cell?_of_block (by rw [add_block]; exact far _ (Ne.symm ht) _ hlt h2)).trans h3
  · intro k p d hp hd
    rcases hrow k p d hp hd with ⟨h1, h2⟩ | h1
    · exact (h.row k p d hp h2).move hf (far k h1)
    · exact h1
  · rcases hgs with ⟨h1, rfl, rfl⟩ | h1
    · exact h.gs.move hf (far _ (Ne.symm h1))
    · exact h1
  · rcases hmany with ⟨h1, rfl, rfl⟩ | h1
    · exact h.many.move hf (far _ (Ne.symm h1))
    · exact h1
  · intro z hz
    rcases hZ z hz with ⟨h1, h2⟩ | h1
    · obtain ⟨h3, h4⟩ := h.known z h1
      have hlt := blk_lt h3
      exact ⟨(far _ (Ne.symm h2) _ hlt h4).trans h3, (hf _ hlt).trans h4⟩
    · exact h1
end
/-- whatever the tags are -/
def AQ (e e' : TypeId) (w : World) (rows : List (Value × Nat)) (A : Option Addr) (D : List (Value × List Value)) (gv : Value) (H : List Value) (mv : Value) (ms : List Value) (Z : List (Nat × Obj)) (W : World) : Prop := ∃ f, AP e e' w rows A D gv H mv ms Z f W
section
variable {e e' : TypeId} {w W W1 : World} {rows : List (Value × Nat)} {A : Option Addr} {D D' : List (Value × List Value)} {gv gv' : Value} {H H' : List Value} {mv mv' : Value} {ms ms' : List Value} {Z Z' : List (Nat × Obj)}
theorem AQ.keep (h : AQ e e' w rows A D gv H mv ms Z W) (hb : Below W.heap.size W W1) : AQ e e' w rows A D gv H mv ms Z W1 := by
  obtain ⟨f, h⟩ := h
  exact ⟨f, h.upd (rows.length + 4) (fun _ _ => rfl) (Grow.of_below hb) (by omega) h.len (fun k p d hp hd => .inl ⟨by have := (List.getElem?_eq_some_iff.1 hp).1; omega, hd⟩) (.inl ⟨by omega, rfl, rfl⟩) (.inl ⟨by omega, rfl, rfl⟩) fun z hz => .inl ⟨hz, by omega⟩⟩
theorem AQ.grow (h : AQ e e' w rows A D gv H mv ms Z W) : Grow (MR rows) w W := by obtain ⟨f, h⟩ := h; exact h.grow
theorem AQ.len (h : AQ e e' w rows A D gv H mv ms Z W) : D.length = rows.length := by obtain ⟨f, h⟩ := h; exact h.len
theorem AQ.out (h : AQ e e' w rows A D gv H mv ms Z W) {k : Nat} {p : Value × Nat} (hp : rows[k]? = some p) : ∃ ad, A = some ad ∧ W.cell? (ad.add k) = some p.1 := by
  obtain ⟨f, h⟩ := h
  obtain ⟨ad, h1, _, h3⟩ := h.out k p hp
  exact ⟨ad, h1, h3⟩
theorem AQ.row (h : AQ e e' w rows A D gv H mv ms Z W) {k : Nat} {p : Value × Nat} {d : Value × List Value} (hp : rows[k]? = some p) (hd : D[k]? = some d) : ∃ f, RowF f k e p d W := by obtain ⟨f, h⟩ := h; exact ⟨f, h.row k p d hp hd⟩
theorem AQ.gs (h : AQ e e' w rows A D gv H mv ms Z W) : ∃ f t, At f t e' W gv H.length H := by obtain ⟨f, h⟩ := h; exact ⟨f, _, h.gs⟩
theorem AQ.many (h : AQ e e' w rows A D gv H mv ms Z W) : ∃ f t, At f t e W mv ms.length ms := by obtain ⟨f, h⟩ := h; exact ⟨f, _, h.many⟩
theorem AQ.known (h : AQ e e' w rows A D gv H mv ms Z W) {z : Nat × Obj} (hz : z ∈ Z) : W.heap[z.1]? = some z.2 := by obtain ⟨f, h⟩ := h; exact (h.known z hz).1
theorem AQ.ge (h : AQ e e' w rows A D gv H mv ms Z W) {b : Nat} (hb : gv.ownBlock = some b ∨ mv.ownBlock = some b) : w.heap.size ≤ b := by
  obtain ⟨f, h⟩ := h
  rcases Nat.lt_or_ge b w.heap.size with h1 | h1
  · have h2 := (h.fw b h1).1
    rcases hb with hb | hb
    · have := h.gs.2 b hb; omega
    · have := h.many.2 b hb; omega
  · exact h1
/-- a block that is laid now, and known -/
theorem AQ.know (h : AQ e e' w rows A D gv H mv ms Z W) (o : Obj) : AQ e e' w rows A D gv H mv ms ((W.heap.size, o) :: Z) (W.alloc o) := by
  obtain ⟨f, h⟩ := h
  refine ⟨fun b => if b = W.heap.size then rows.length + 3 else f b, h.upd (rows.length + 4) (fun b hb => if_neg (by omega)) (Grow.of_below (below_alloc (Below.refl _ _) o)) (by omega) h.len (fun k p d hp hd => .inl ⟨by have := (List.getElem?_eq_some_iff.1 hp).1; omega, hd⟩) (.inl ⟨by omega, rfl, rfl⟩) (.inl ⟨by omega, rfl, rfl⟩) fun z hz => ?_⟩
  rcases List.mem_cons.1 hz with rfl | hz
  · exact .inr ⟨World.alloc_heap_new W o, if_pos rfl⟩
  · exact .inl ⟨hz, by omega⟩
/-- a mark is laid into row k, as it came -/
theorem AQ.mark {k n b c : Nat} {xs : List Value} (h : AQ e e' w rows A D gv H mv ms Z W) (hp : rows[k]? = some (.slice (some ⟨b, 0, none⟩) n c, n)) (hd : D[k]? = some (.slice (some ⟨b, 0, none⟩) n c, xs)) (i : Nat) (u : Value) :
    AQ e e' w rows A (D.set k (.slice (some ⟨b, 0, none⟩) n c, xs.set i u)) gv H mv ms Z (W.setCell ⟨b, i, none⟩ u) := by
  obtain ⟨f, h⟩ := h
  have hr := h.row k _ _ hp hd
  have hk := (List.getElem?_eq_some_iff.1 hp).1
  have hfb : f b = k := hr.now.2 b rfl
  refine ⟨f, h.upd k (fun _ _ => rfl) ⟨rfl, rfl, rfl, ((Below.refl 0 W).setCell (p := ⟨b, i, none⟩) (Nat.zero_le _) u).size, fun b' hb' hn => Below.heap_setCell W ⟨b, i, none⟩ u b' fun e => hn (by have e2 : b' = b := e; rw [e2]; exact hfb)⟩ (by omega) (by simpa using h.len) (fun k' p d hp' hd' => ?_) (.inl ⟨by omega, rfl, rfl⟩) (.inl ⟨by omega, rfl, rfl⟩) fun z hz => .inl ⟨hz, by omega⟩⟩
  rw [List.getElem?_set] at hd'
  by_cases hkk : k = k'
  · subst hkk
    rw [hp] at hp'
    injection hp' with hp'
    rw [if_pos rfl, if_pos (by rw [h.len]; exact hk)] at hd'
    injection hd' with hd'
    subst hp' hd'
    have hl : xs.length = n := by
      have h1 := hr.now
      rcases h1.form with ⟨h0, _⟩ | ⟨b2, c2, cur, e3, _⟩
      · cases h0
      · injection e3 with _ e3 _
        exact e3.symm
    have hn := hr.now
    simp only [hl] at hn
    exact .inr (RowF.start (hn.put i u))
  · rw [if_neg hkk] at hd'
    exact .inl ⟨fun e => hkk e.symm, hd'⟩
/-- row k, as it came, begins to grow (or once more) -/
theorem AQ.reset {k : Nat} {p : Value × Nat} {d : Value × List Value} (h : AQ e e' w rows A D gv H mv ms Z W) (hp : rows[k]? = some p) (hd : D[k]? = some d) : AQ e e' w rows A (D.set k (p.1, d.2.take p.2)) gv H mv ms Z W := by
  obtain ⟨f, h⟩ := h
  have hk := (List.getElem?_eq_some_iff.1 hp).1
  refine ⟨f, h.upd (rows.length + 4) (fun _ _ => rfl) (Grow.refl _ _) (by omega) (by simpa using h.len) (fun k' p' d' hp' hd' => ?_) (.inl ⟨by omega, rfl, rfl⟩) (.inl ⟨by omega, rfl, rfl⟩) fun z hz => .inl ⟨hz, by omega⟩⟩
  rw [List.getElem?_set] at hd'
  by_cases hkk : k = k'
  · subst hkk
    rw [hp] at hp'
    injection hp' with hp'
    rw [if_pos rfl, if_pos (by rw [h.len]; exact hk)] at hd'
    injection hd' with hd'
    subst hp' hd'
    exact .inr (h.row k _ _ hp hd).reset
  · rw [if_neg hkk] at hd'
    exact .inl ⟨by have := (List.getElem?_eq_some_iff.1 hp').1; omega, hd'⟩
/-- row k grows -/
theorem AQ.append {P : Program} {z : Value} {bytes m c : Nat} {ty tt : TypeId} {ad : Addr} {news : List Value} {k : Nat} {p : Value × Nat} {d : Value × List Value} (h : AQ e e' w rows A D gv H mv ms Z W) (hp : rows[k]? = some p) (hd : D[k]? = some d)
    (ht : P.underlying tt = some (.slice e)) (hinfo : (P.info? e).map (fun i => (i.zero, i.size, i.bytes)) = some (some z, 1, bytes)) (hz : z.cells.size = 1)
    (hl : news.length = m) (hnews : ∀ j u, news[j]? = some u → W.cell? (ad.add j) = some u) (h1 : ∀ u ∈ news, u.oneCell' = true) (hm : 0 < m) (hn : d.2.length + m ≤ maxLen) (hb : (d.2.length + m) * bytes ≤ 140737488355328) :
    ∃ v' W1, (Builtin.append_ #[tt, tt] ty #[d.1, .slice (some ad) m c]).run P W = .ok v' W1 ∧ AQ e e' w rows A (D.set k (v', d.2 ++ news)) gv H mv ms Z W1 ∧ W.heap.size ≤ W1.heap.size := by
  obtain ⟨f, h⟩ := h
  have hr := h.row k _ _ hp hd
  have hk := (List.getElem?_eq_some_iff.1 hp).1
  obtain ⟨v', W1, hrun, b', c', hv, hs⟩ := hr.now.append (ty := ty) (c := c) ht hinfo hz hl hnews h1 hm hn hb
  obtain ⟨f', hf', hfar, hrow⟩ := hr.appended hv hs
  have hg : Grow (fun b => f b = k) W W1 := by
    rcases hs with ⟨e1, hg, _⟩ | ⟨_, hg, _⟩
    · exact Grow.of_grownBy hg fun r e2 => by injection e2 with e2; subst e2; exact hr.now.2 b' (by rw [e1]; rfl)
    · exact Grow.of_grownBy hg fun r e2 => by cases e2
  refine ⟨v', W1, hrun, ⟨f', h.upd k hf' hg (by omega) (by simpa using h.len) (fun k' p' d' hp' hd' => ?_) (.inl ⟨by omega, rfl, rfl⟩) (.inl ⟨by omega, rfl, rfl⟩) fun z hz => .inl ⟨hz, by omega⟩⟩, hg.size⟩
  rw [List.getElem?_set] at hd'
  by_cases hkk : k = k'
  · subst hkk
    rw [hp] at hp'
    injection hp' with hp'
    rw [if_pos rfl, if_pos (by rw [h.len]; exact hk)] at hd'
    injection hd' with hd'
    subst hp' hd'
    exact .inr hrow
  · rw [if_neg hkk] at hd'
    exact .inl ⟨fun e => hkk e.symm, hd'⟩
/-- a row of one's own (tag t) grows by At.append's law -/
theorem At.appended {f : Nat → Nat} {t n m : Nat} {v v' : Value} {xs news : List Value} {b' c' : Nat} (h : At f t e W v n xs) (hv : v' = .slice (some ⟨b', 0, none⟩) (n + m) c')
    (hs : (v = .slice (some ⟨b', 0, none⟩) n c' ∧ W.grownBy W1 (some b') ∧ At f t e W1 v' (n + m) (xs ++ news)) ∨ (b' = W.heap.size ∧ W.grownBy W1 none ∧ ∀ f', f' W.heap.size = t → At f' t e W1 v' (n + m) (xs ++ news))) :
    ∃ f', (∀ b, b < W.heap.size → f' b = f b) ∧ Grow (fun b => f b = t) W W1 ∧ At f' t e W1 v' (xs ++ news).length (xs ++ news) := by
  rcases hs with ⟨h1, hg, ha⟩ | ⟨h1, hg, ha⟩
  · refine ⟨f, fun _ _ => rfl, Grow.of_grownBy hg (fun r e2 => by injection e2 with e2; subst e2; exact h.2 b' (by rw [h1]; rfl)), ?_⟩
    rw [ha.len]; exact ha
  · refine ⟨fun b => if b = W.heap.size then t else f b, fun b hb => if_neg (by omega), Grow.of_grownBy hg (fun r e2 => by cases e2), ?_⟩
    have h3 := ha (fun b => if b = W.heap.size then t else f b) (if_pos rfl)
    rw [h3.len]; exact h3
/-- the grown ones' list gets one more -/
theorem AQ.push {P : Program} {z : Value} {bytes m c : Nat} {ty tt : TypeId} {ad : Addr} {news : List Value} (h : AQ e e' w rows A D gv H mv ms Z W)
    (ht : P.underlying tt = some (.slice e')) (hinfo : (P.info? e').map (fun i => (i.zero, i.size, i.bytes)) = some (some z, 1, bytes)) (hz : z.cells.size = 1)
    (hl : news.length = m) (hnews : ∀ j u, news[j]? = some u → W.cell? (ad.add j) = some u) (h1 : ∀ u ∈ news, u.oneCell' = true) (hm : 0 < m) (hn : H.length + m ≤ maxLen) (hb : (H.length + m) * bytes ≤ 140737488355328) :
    ∃ v' W1, (Builtin.append_ #[tt, tt] ty #[gv, .slice (some ad) m c]).run P W = .ok v' W1 ∧ AQ e e' w rows A D v' (H ++ news) mv ms Z W1 ∧ W.heap.size ≤ W1.heap.size := by
  obtain ⟨f, h⟩ := h
  obtain ⟨v', W1, hrun, b', c', hv, hs⟩ := h.gs.append (ty := ty) (c := c) ht hinfo hz hl hnews h1 hm hn hb
  obtain ⟨f', hf', hg, ha⟩ := h.gs.appended hv hs
  exact ⟨v', W1, hrun, ⟨f', h.upd (rows.length + 1) hf' hg (by omega) h.len (fun k p d hp hd => .inl ⟨by have := (List.getElem?_eq_some_iff.1 hp).1; omega, hd⟩) (.inr ha) (.inl ⟨by omega, rfl, rfl⟩) fun z hz => .inl ⟨hz, by omega⟩⟩, hg.size⟩
/-- the list of news gets one more -/
theorem AQ.more {P : Program} {z : Value} {bytes m c : Nat} {ty tt : TypeId} {ad : Addr} {news : List Value} (h : AQ e e' w rows A D gv H mv ms Z W)
    (ht : P.underlying tt = some (.slice e)) (hinfo : (P.info? e).map (fun i => (i.zero, i.size, i.bytes)) = some (some z, 1, bytes)) (hz : z.cells.size = 1)
    (hl : news.length = m) (hnews : ∀ j u, news[j]? = some u → W.cell? (ad.add j) = some u) (h1 : ∀ u ∈ news, u.oneCell' = true) (hm : 0 < m) (hn : ms.length + m ≤ maxLen) (hb : (ms.length + m) * bytes ≤ 140737488355328) :
    ∃ v' W1, (Builtin.append_ #[tt, tt] ty #[mv, .slice (some ad) m c]).run P W = .ok v' W1 ∧ AQ e e' w rows A D gv H v' (ms ++ news) Z W1 ∧ W.heap.size ≤ W1.heap.size := by
  obtain ⟨f, h⟩ := h
  obtain ⟨v', W1, hrun, b', c', hv, hs⟩ := h.many.append (ty := ty) (c := c) ht hinfo hz hl hnews h1 hm hn hb
  obtain ⟨f', hf', hg, ha⟩ := h.many.appended hv hs
  exact ⟨v', W1, hrun, ⟨f', h.upd (rows.length + 2) hf' hg (by omega) h.len (fun k p d hp hd => .inl ⟨by have := (List.getElem?_eq_some_iff.1 hp).1; omega, hd⟩) (.inl ⟨by omega, rfl, rfl⟩) (.inr ha) fun z hz => .inl ⟨hz, by omega⟩⟩, hg.size⟩
/-- no news yet -/
theorem AQ.nomore (h : AQ e e' w rows A D gv H mv ms Z W) : AQ e e' w rows A D gv H (.slice none 0 0) [] Z W := by
  obtain ⟨f, h⟩ := h
  exact ⟨f, h.upd (rows.length + 4) (fun _ _ => rfl) (Grow.refl _ _) (by omega) h.len (fun k p d hp hd => .inl ⟨by have := (List.getElem?_eq_some_iff.1 hp).1; omega, hd⟩) (.inl ⟨by omega, rfl, rfl⟩) (.inr (At.nil _ _ _ _)) fun z hz => .inl ⟨hz, by omega⟩⟩
/-- a store into the grown ones' list -/
theorem AQ.put {b n c : Nat} (h : AQ e e' w rows A D (.slice (some ⟨b, 0, none⟩) n c) H mv ms Z W) (i : Nat) (u : Value) : AQ e e' w rows A D (.slice (some ⟨b, 0, none⟩) n c) (H.set i u) mv ms Z (W.setCell ⟨b, i, none⟩ u) := by
  obtain ⟨f, h⟩ := h
  have hfb : f b = rows.length + 1 := h.gs.2 b rfl
  have hn : n = H.length := by
    rcases h.gs.form with ⟨h0, _⟩ | ⟨b2, c2, cur, e3, _⟩
    · cases h0
    · injection e3 with _ e3 _
  have hg := h.gs
  rw [← hn] at hg
  have hg2 := hg.put i u
  refine ⟨f, h.upd (rows.length + 1) (fun _ _ => rfl) ⟨rfl, rfl, rfl, ((Below.refl 0 W).setCell (p := ⟨b, i, none⟩) (Nat.zero_le _) u).size, fun b' hb' hn => Below.heap_setCell W ⟨b, i, none⟩ u b' fun e => hn (by have e2 : b' = b := e; rw [e2]; exact hfb)⟩ (by omega) h.len (fun k p d hp hd => .inl ⟨by have := (List.getElem?_eq_some_iff.1 hp).1; omega, hd⟩) (.inr (by rw [List.length_set, ← hn]; exact hg2)) (.inl ⟨by omega, rfl, rfl⟩) fun z hz => .inl ⟨hz, by omega⟩⟩
end
/-- rows that lie apart, at the start -/
theorem AQ.start (e e' : TypeId) (w : World) (rows : List (Value × Nat)) (A : Option Addr) (D : List (Value × List Value)) (f : Nat → Nat) (hl : D.length = rows.length)
    (hrow : ∀ (k : Nat) p d, rows[k]? = some p → D[k]? = some d → d.1 = p.1 ∧ At f k e w p.1 p.2 d.2) (hout : ∀ k p, rows[k]? = some p → ∃ ad, A = some ad ∧ rows.length ≤ f ad.block ∧ w.cell? (ad.add k) = some p.1) :
    AQ e e' w rows A D (.slice none 0 0) [] (.slice none 0 0) [] [] w := by
  classical
  have hm : ∀ (k : Nat) p b, rows[k]? = some p → p.1.ownBlock = some b → f b = k ∧ MR rows b := fun k p b hp hb => by
    obtain ⟨hk, hk2⟩ := List.getElem?_eq_some_iff.1 hp
    obtain ⟨d, hd⟩ : ∃ d, D[k]? = some d := ⟨_, List.getElem?_eq_getElem (by omega)⟩
    exact ⟨(hrow k p d hp hd).2.2 b hb, p, List.mem_of_getElem? hp, hb⟩
  have hMR : ∀ b, MR rows b → f b < rows.length := fun b hb => by
    obtain ⟨p, hp, hb⟩ := hb
    obtain ⟨k, hk⟩ := List.getElem?_of_mem hp
    have := (hm k p b hk hb).1
    have := (List.getElem?_eq_some_iff.1 hk).1
    omega
  refine ⟨fun b => if MR rows b then f b else rows.length, ⟨Grow.refl _ _, hl, ?_, ?_, ?_, At.nil _ _ _ _, At.nil _ _ _ _, fun z hz => by cases hz⟩⟩
  · intro b hb
    split
    · rename_i h1
      exact ⟨Nat.le_of_lt (hMR b h1), fun _ => h1⟩
    · exact ⟨Nat.le_refl _, fun h => absurd h (Nat.lt_irrefl _)⟩
  · intro k p hp
    obtain ⟨ad, h1, h2, h3⟩ := hout k p hp
    refine ⟨ad, h1, if_neg fun h4 => ?_, h3⟩
    have := hMR _ h4
    omega
  · intro k p d hp hd
    obtain ⟨h1, h2⟩ := hrow k p d hp hd
    obtain ⟨d1, d2⟩ := d
    subst h1
    refine RowF.start ⟨h2.1, fun b hb => ?_⟩
    refine (if_pos (hm k p b hp hb).2).trans ?_
    exact (hm k p b hp hb).1
end Go.Proofs.YtlemkghpcbkcpaaOwn
/-! text YtlemkghpcbkcpaaApartMath -/
namespace Go.Proofs.YtlemkghpcbkcpaaOwn
open Go Go.RowKit Go.Proofs.YtlemkghpcbkcpaaW.PrintWords
set_option linter.unusedVariables false
def marks (E : Nat → Value) (n : Nat) : List Value := (List.range n).map E
theorem marks_len (E : Nat → Value) (n : Nat) : (marks E n).length = n := by simp [marks]
theorem marks_succ (E : Nat → Value) (n : Nat) : marks E (n + 1) = marks E n ++ [E n] := by simp [marks, List.range_succ]
theorem marks_at (E : Nat → Value) {n i : Nat} (h : i < n) : (marks E n)[i]? = some (E i) := by simp [marks, h]
theorem marks_take (E : Nat → Value) {n m : Nat} (h : m ≤ n) : (marks E n).take m = marks E m := by
  apply List.ext_getElem?
  intro i
  rw [List.getElem?_take]
  split
  · rename_i h1
    rw [marks_at E h1, marks_at E (by omega)]
  · rw [List.getElem?_eq_none (by rw [marks_len]; omega)]
theorem eq_marks {E : Nat → Value} {xs : List Value} {n : Nat} (hl : xs.length = n) (h : ∀ j, j < n → xs[j]? = some (E j)) : xs = marks E n := by
  apply List.ext_getElem?
  intro i
  by_cases hi : i < n
  · rw [h i hi, marks_at E hi]
  · rw [List.getElem?_eq_none (by omega), List.getElem?_eq_none (by rw [marks_len]; omega)]
section
variable (E : Nat → Nat → Value) (rows : List (Value × Nat))
/-- marked: all rows before k, of row k the first i places -/
def M1 (D : List (Value × List Value)) (k i : Nat) : Prop := ∀ (k' : Nat) p d, rows[k']? = some p → D[k']? = some d → d.1 = p.1 ∧ d.2.length = p.2 ∧ ∀ j, j < p.2 → (k' < k ∨ k' = k ∧ j < i) → d.2[j]? = some (E k' j)
/-- grown: all rows before k, row k by x -/
def M2 (D : List (Value × List Value)) (k x : Nat) : Prop := ∀ (k' : Nat) p d, rows[k']? = some p → D[k']? = some d → (k' < k → d.2 = marks (E k') (p.2 + 64)) ∧ (k' = k → d.2 = marks (E k') (p.2 + x)) ∧ (k < k' → d.2 = marks (E k') p.2)
/-- their list, as far as k -/
def HD (D : List (Value × List Value)) (H : List Value) (k : Nat) : Prop := H.length = k ∧ ∀ (k' : Nat) d, k' < k → D[k']? = some d → H[k']? = some d.1
/-- in front, as marked -/
def M4 (D : List (Value × List Value)) : Prop := ∀ (k' : Nat) p d, rows[k']? = some p → D[k']? = some d → d.2.length = p.2 + 64 ∧ d.2.take p.2 = marks (E k') p.2
variable {E rows} {D : List (Value × List Value)} {H : List Value} {k i : Nat} {p : Value × Nat}
theorem M1.start (hD : ∀ (k' : Nat) p d, rows[k']? = some p → D[k']? = some d → d.1 = p.1 ∧ d.2.length = p.2) : M1 E rows D 0 0 := fun k' p d hp hd => ⟨(hD k' p d hp hd).1, (hD k' p d hp hd).2, fun j _ hj => by omega⟩
theorem M1.mark {v : Value} {xs : List Value} (h : M1 E rows D k i) (hp : rows[k]? = some p) (hd : D[k]? = some (v, xs)) (hi : i < p.2) : M1 E rows (D.set k (v, xs.set i (E k i))) k (i + 1) := by
  intro k' p' d' hp' hd'
  rw [List.getElem?_set] at hd'
  by_cases hk : k = k'
  · subst hk
    rw [hp] at hp'
    injection hp' with hp'
    subst hp'
    rw [if_pos rfl, if_pos (List.getElem?_eq_some_iff.1 hd).1] at hd'
    injection hd' with hd'
    subst hd'
    obtain ⟨h1, h2, h3⟩ := h k p _ hp hd
    refine ⟨h1, by simpa using h2, fun j hj hjj => ?_⟩
    rw [List.getElem?_set]
    split
    · rename_i hij
      subst hij
      have : i < xs.length := by have := h2; simp only at this; omega
      simp [this]
    · exact h3 j hj (by omega)
  · rw [if_neg hk] at hd'
    obtain ⟨h1, h2, h3⟩ := h k' p' d' hp' hd'
    exact ⟨h1, h2, fun j hj hjj => h3 j hj (by omega)⟩
theorem M1.next (h : M1 E rows D k p.2) (hp : rows[k]? = some p) : M1 E rows D (k + 1) 0 := fun k' p' d' hp' hd' => by
  obtain ⟨h1, h2, h3⟩ := h k' p' d' hp' hd'
  refine ⟨h1, h2, fun j hj hjj => h3 j hj ?_⟩
  by_cases hk : k' = k
  · subst hk
    rw [hp] at hp'
    injection hp' with hp'
    subst hp'
    omega
  · omega
theorem M1.done (h : M1 E rows D rows.length 0) : M2 E rows D 0 0 := fun k' p d hp hd => by
  obtain ⟨h1, h2, h3⟩ := h k' p d hp hd
  have hk := (List.getElem?_eq_some_iff.1 hp).1
  have h4 : d.2 = marks (E k') p.2 := eq_marks h2 fun j hj => h3 j hj (by omega)
  exact ⟨fun hlt => by omega, fun _ => h4, fun _ => h4⟩
theorem M2.set {d d' : Value × List Value} {x : Nat} (h : M2 E rows D k i) (hp : rows[k]? = some p) (hd : D[k]? = some d) (hd' : d'.2 = marks (E k) (p.2 + x)) : M2 E rows (D.set k d') k x := by
  intro k' p' d2 hp' hd2
  rw [List.getElem?_set] at hd2
  by_cases hk : k = k'
  · subst hk
    rw [hp] at hp'
    injection hp' with hp'
    subst hp'
    rw [if_pos rfl, if_pos (List.getElem?_eq_some_iff.1 hd).1] at hd2
    injection hd2 with hd2
    subst hd2
    exact ⟨fun h => by omega, fun _ => hd', fun h => by omega⟩
  · rw [if_neg hk] at hd2
    obtain ⟨h1, h2, h3⟩ := h k' p' d2 hp' hd2
    exact ⟨h1, fun e => absurd e.symm hk, h3⟩
theorem M2.next (h : M2 E rows D k 64) : M2 E rows D (k + 1) 0 := fun k' p' d' hp' hd' => by
  obtain ⟨h1, h2, h3⟩ := h k' p' d' hp' hd'
  refine ⟨fun hk => ?_, fun hk => h3 (by omega), fun hk => h3 (by omega)⟩
  by_cases hk2 : k' = k
  · exact h2 hk2
  · exact h1 (by omega)
theorem M2.row {d : Value × List Value} (h : M2 E rows D k i) (hp : rows[k]? = some p) (hd : D[k]? = some d) : d.2 = marks (E k) (p.2 + i) := (h k p d hp hd).2.1 rfl
theorem M2.full {d : Value × List Value} (h : M2 E rows D rows.length 0) (hp : rows[k]? = some p) (hd : D[k]? = some d) : d.2 = marks (E k) (p.2 + 64) := (h k p d hp hd).1 (List.getElem?_eq_some_iff.1 hp).1
theorem M2.four (h : M2 E rows D rows.length 0) : M4 E rows D := fun k p d hp hd => by
  have := h.full hp hd
  rw [this]
  exact ⟨marks_len _ _, marks_take _ (by omega)⟩
theorem HD.start : HD D [] 0 := ⟨rfl, fun k' d h => by omega⟩
theorem HD.set {d : Value × List Value} (h : HD D H k) : HD (D.set k d) H k := ⟨h.1, fun k' d' hk hd' => by
  rw [List.getElem?_set, if_neg (by omega)] at hd'
  exact h.2 k' d' hk hd'⟩
theorem HD.push {d : Value × List Value} (h : HD D H k) (hd : D[k]? = some d) : HD D (H ++ [d.1]) (k + 1) := by
  refine ⟨by simp [h.1], fun k' d' hk hd' => ?_⟩
  by_cases hk2 : k' = k
  · subst hk2
    rw [hd] at hd'
    injection hd' with hd'
    subst hd'
    rw [List.getElem?_append_right (by rw [h.1]; exact Nat.le_refl _), h.1, Nat.sub_self]; rfl
  · rw [List.getElem?_append_left (by rw [h.1]; omega)]
    exact h.2 k' d' (by omega) hd'
theorem HD.put {n : Nat} {d : Value × List Value} (h : HD D H n) (hk : k < n) : HD (D.set k d) (H.set k d.1) n := by
  refine ⟨by simpa using h.1, fun k' d' hk' hd' => ?_⟩
  rw [List.getElem?_set] at hd' ⊢
  by_cases hk2 : k = k'
  · subst hk2
    rw [if_pos rfl] at hd' ⊢
    split at hd'
    · injection hd' with hd'
      subst hd'
      rw [if_pos (by rw [h.1]; exact hk)]
    · cases hd'
  · rw [if_neg hk2] at hd' ⊢
    exact h.2 k' d' hk' hd'
theorem M4.set {d d' : Value × List Value} {ms : List Value} (h : M4 E rows D) (hp : rows[k]? = some p) (hd : D[k]? = some d) (hm : ms.length = 64) (hd' : d'.2 = d.2.take p.2 ++ ms) : M4 E rows (D.set k d') := by
  intro k' p' d2 hp' hd2
  rw [List.getElem?_set] at hd2
  by_cases hk : k = k'
  · subst hk
    rw [hp] at hp'
    injection hp' with hp'
    subst hp'
    rw [if_pos rfl, if_pos (List.getElem?_eq_some_iff.1 hd).1] at hd2
    injection hd2 with hd2
    subst hd2
    obtain ⟨h1, h2⟩ := h k p d hp hd
    rw [hd', h2]
    refine ⟨by rw [List.length_append, marks_len, hm], ?_⟩
    rw [List.take_append_of_le_length (by rw [marks_len]; exact Nat.le_refl _), List.take_of_length_le (by rw [marks_len]; exact Nat.le_refl _)]
  · rw [if_neg hk] at hd2
    exact h k' p' d2 hp' hd2
end
end Go.Proofs.YtlemkghpcbkcpaaOwn
