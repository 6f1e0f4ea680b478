/- A row of one's own told by its cells, whatever its elements are: read, written, appended to. -/
import Derived.Test.YtkkkbcjmkmadhaaClArenaKeepsd
import Derived.Maps.AppendAt
import Derived.Test.YtkkkbcjmkmadhaaWWords
/-! text YtkkkbcjmkmadhaaSepOwn -/
namespace Go.Proofs.YtkkkbcjmkmadhaaOwn
open Go Go.RowKit Go.Proofs.YtkkkbcjmkmadhaaW.PrintWords
set_option linter.unusedVariables false
set_option linter.unusedSimpArgs false
theorem own_lt {W : World} {base e sz n : Nat} {v : Value} {xs : List Value} (h : W.ownsRow base e sz v n xs) {k : Nat} (hk : v.ownBlock = some k) : k < W.heap.size := by
  obtain ⟨cells, hc⟩ := own_typed h k hk
  exact (Array.getElem?_eq_some_iff.1 hc).1
/-- a row of one's own, its cells told -/
def Asr.own (e sz : Nat) (v : Value) (n : Nat) (xs : List Value) : Asr := ⟨fun W ok => (∀ k, v.ownBlock = some k → ok k) ∧ W.ownsRow 0 e sz v n xs, fun {W W1 ok ok'} h hz hk =>
  ⟨fun k h1 => (hk k (h.1 k h1) (own_lt h.2 h1)).2, own_move h.2 fun k h1 => (hk k (h.1 k h1) (own_lt h.2 h1)).1⟩⟩
section
variable {w W W1 : World} {X : Nat → Prop} {l : List Asr} {e sz n : Nat} {v : Value} {xs : List Value}
theorem own_head {base : Nat} (h : W.ownsRow base e sz v n xs) (hn : 0 < n) : ∃ g cap cur, v = .slice (some ⟨g, 0, none⟩) n cap ∧ W.heap[g]? = some (.cells cur e (0, 0)) ∧ n ≤ cap ∧ cap ≤ maxLen ∧ cur.size = cap * sz ∧ cur.toList.take (n * sz) = xs := by
  rcases h.2 with ⟨_, h0⟩ | ⟨g, cap, cur, h1, _, h2⟩
  · omega
  · exact ⟨g, cap, cur, h1, h2⟩
theorem Sep.ownSlice (h : Sep w X l W) (i : Nat) (hi : l[i]? = some (.own e sz v n xs)) : ∃ A c, v = .slice A n c ∧ n ≤ c ∧ (0 < n → ∃ g, A = some ⟨g, 0, none⟩) := by
  rcases (h.get i hi).2.2 with ⟨h1, h0⟩ | ⟨g, cap, cur, h1, _, h2, h3, _⟩
  · exact ⟨none, 0, by rw [h1, h0], by omega, fun h => by omega⟩
  · exact ⟨_, cap, h1, h3, fun _ => ⟨g, rfl⟩⟩
theorem Sep.ownCell (h : Sep w X l W) (i : Nat) {g c : Nat} (hi : l[i]? = some (.own e sz (.slice (some ⟨g, 0, none⟩) n c) n xs)) (j : Nat) {u : Value} (hj : xs[j]? = some u) : W.cell? ⟨g, j, none⟩ = some u ∧ W.frozen? ⟨g, j, none⟩ = false := by
  have h0 := (h.get i hi).2
  have hn : 0 < n := by
    rcases Nat.eq_zero_or_pos n with h1 | h1
    · have h2 := h0.1
      rw [h1, Nat.zero_mul] at h2
      rw [List.length_eq_zero_iff.1 h2] at hj
      cases hj
    · exact h1
  obtain ⟨g', cap, cur, e1, h2, h3, h4, h5, h6⟩ := own_head h0 hn
  injection e1 with e1 _ _
  injection e1 with e1
  injection e1 with e1 _ _
  subst e1
  refine ⟨?_, blk_frozen h2 j⟩
  rw [blk_cell h2 j]
  rw [← h6, List.getElem?_take] at hj
  split at hj
  · simpa using hj
  · cases hj
theorem Sep.ownPut (h : Sep w X l W) (hX : ∀ b, X b → b < W.heap.size) (i : Nat) {g c : Nat} (hi : l[i]? = some (.own e sz (.slice (some ⟨g, 0, none⟩) n c) n xs)) (j : Nat) (hj : j < xs.length) (u : Value) :
    Sep w X (l.set i (.own e sz (.slice (some ⟨g, 0, none⟩) n c) n (xs.set j u))) (W.setCell ⟨g, j, none⟩ u) :=
  h.upd i hi (grow_put j u W) hX (fun ok hA k hk _ => by subst hk; exact hA.1 _ rfl) fun ok hA _ => by
    refine ⟨hA.1, by rw [List.length_set]; exact hA.2.1, ?_⟩
    rcases hA.2.2 with ⟨h1, _⟩ | ⟨g', cap, cur, e1, hb, h2, h3, h4, h5, h6⟩
    · cases h1
    · refine .inr ⟨g', cap, cur.setIfInBounds j u, e1, hb, ?_, h3, h4, by simpa using h5, ?_⟩
      · injection e1 with e1 _ _
        injection e1 with e1
        injection e1 with e1 _ _
        subst e1
        exact blk_put h2 j u rfl
      · rw [Array.toList_setIfInBounds, List.take_set, h6]
theorem Sep.ownNil (h : Sep w X l W) (i : Nat) (hi : l[i]? = some .emp) (e sz : Nat) : Sep w X (l.set i (.own e sz (.slice none 0 0) 0 [])) W :=
  h.as i hi fun ok _ => ⟨fun k hk => by simp [Value.ownBlock] at hk, by simp, .inl ⟨rfl, rfl⟩⟩
/-- an element laid down and appended -/
theorem Sep.ownPush {P : Program} {t ty : TypeId} (z : Value) (bytes : Nat) (h : Sep w X l W) (hX : ∀ b, X b → b < W.heap.size) (i : Nat) (hi : l[i]? = some (.own e sz v n xs)) (news : List Value) (hl : news.length = sz) (h1 : ∀ u ∈ news, u.oneCell' = true)
    (ht : P.underlying t = some (.slice e)) (hinfo : (P.info? e).map (fun i => (i.zero, i.size, i.bytes)) = some (some z, sz, bytes)) (hz : z.cells.size = sz) (hs0 : 0 < sz) (h63 : n + 1 ≤ maxLen) (hbytes : (n + 1) * bytes ≤ 140737488355328) :
    ∃ g c w1, (Builtin.append_ #[t, t] ty #[v, .slice (some ⟨W.heap.size, 0, none⟩) 1 1]).run P (W.alloc (.cells news.toArray e (0, 0))) = .ok (.slice (some ⟨g, 0, none⟩) (n + 1) c) w1 ∧ Sep w X (l.set i (.own e sz (.slice (some ⟨g, 0, none⟩) (n + 1) c) (n + 1) (xs ++ news))) w1 := by
  obtain ⟨q, hq, hzz⟩ := Option.map_eq_some_iff.1 hinfo
  simp only [Prod.mk.injEq] at hzz
  obtain ⟨hz0, hz1, hz2⟩ := hzz
  have hk := h.keep (below_alloc (Below.refl _ _) (.cells news.toArray e (0, 0)))
  have hsz : (W.alloc (.cells news.toArray e (0, 0))).heap.size = W.heap.size + 1 := by simp
  have run : ∀ ok, (Asr.own e sz v n xs).P (W.alloc (.cells news.toArray e (0, 0))) ok → ∃ g c w1, (Builtin.append_ #[t, t] ty #[v, .slice (some ⟨W.heap.size, 0, none⟩) 1 1]).run P (W.alloc (.cells news.toArray e (0, 0))) = .ok (.slice (some ⟨g, 0, none⟩) (n + 1) c) w1 ∧ w1.ownsRow 0 e sz (.slice (some ⟨g, 0, none⟩) (n + 1) c) (n + 1) (xs ++ news) ∧ (W.alloc (.cells news.toArray e (0, 0))).grownBy w1 v.ownBlock ∧ (some g = v.ownBlock ∨ (W.alloc (.cells news.toArray e (0, 0))).heap.size ≤ g) := fun ok hA => by
    obtain ⟨v1, w1, hrun, hown, hg, _, hat⟩ := run_append_own_at (P := P) (W.alloc (.cells news.toArray e (0, 0))) 0 t ty e q z sz bytes ht hq hz0 hz1 hz2 hz hs0 v n xs hA.2 ⟨W.heap.size, 0, none⟩ 1 1 news (by rw [hl, Nat.one_mul]) (fun j u hj => by
      rw [add_at, Nat.zero_add, blk_cell (World.alloc_heap_new W _) j]
      simpa using hj) h1 h63 hbytes (Nat.zero_le _)
    obtain ⟨g, cap, cur, e1, _⟩ := own_head hown (Nat.succ_pos _)
    subst e1
    refine ⟨g, cap, w1, hrun, hown, hg, hat.elim (fun h => .inl h) fun h => .inr (Nat.le_of_eq (Option.some.inj h).symm)⟩
  obtain ⟨g, c, w1, hrun, hown, hg, hat⟩ := run _ (hk.get i hi)
  refine ⟨g, c, w1, hrun, hk.upd i hi (M := fun k => v.ownBlock = some k) (Grow.of_grownBy hg fun r e => e) (fun b hb => by have := hX b hb; omega) (fun ok hA b hb _ => hA.1 b hb) fun ok hA hnew => ⟨fun k hk => ?_, hown⟩⟩
  have e1 : g = k := Option.some.inj hk
  subst e1
  exact hat.elim (fun h => hA.1 _ h.symm) (hnew _)
end
end Go.Proofs.YtkkkbcjmkmadhaaOwn
/-! text YtkkkbcjmkmadhaaArenaMath -/
namespace Go.Proofs.YtkkkbcjmkmadhaaMath
open Go.Proofs.YtkkkbcjmkmadhaaMaps
set_option linter.unusedVariables false
set_option linter.unusedSimpArgs false
/-- a clause that has words -/
structure Cl where
  lits : List Int
  learnt : Bool
  live : Bool
def Cl.len (c : Cl) : Nat := c.lits.length + 1
def Cl.words (c : Cl) : List Int := (c.lits.length : Int) :: c.lits
theorem Cl.words_length (c : Cl) : c.words.length = c.len := rfl
theorem Cl.len_pos (c : Cl) : 0 < c.len := Nat.succ_pos _
def wordsOf (L : List Cl) : List Int := L.flatMap Cl.words
def sizeL : List Cl → Nat
  | [] => 0
  | c :: r => c.len + sizeL r
theorem wordsOf_length (L : List Cl) : (wordsOf L).length = sizeL L := by
  induction L with
  | nil => rfl
  | cons c r ih => rw [wordsOf, List.flatMap_cons, List.length_append, Cl.words_length]; exact congrArg (c.len + ·) ih
theorem sizeOf_append (L M : List Cl) : sizeL (L ++ M) = sizeL L + sizeL M := by
  induction L with
  | nil => simp [sizeL]
  | cons c r ih => simp only [List.cons_append, sizeL, ih]; omega
theorem wordsOf_append (L M : List Cl) : wordsOf (L ++ M) = wordsOf L ++ wordsOf M := List.flatMap_append
/-- each with its place, from n on -/
def placed : Nat → List Cl → List (Nat × Cl)
  | _, [] => []
  | n, c :: r => (n, c) :: placed (n + c.len) r
theorem placed_append (L M : List Cl) : ∀ n, placed n (L ++ M) = placed n L ++ placed (n + sizeL L) M := by
  induction L with
  | nil => intro n; rfl
  | cons c r ih => intro n; simp only [List.cons_append, placed, sizeL, ih, Nat.add_assoc]
theorem placed_length (L : List Cl) : ∀ n, (placed n L).length = L.length := by
  induction L with
  | nil => intro n; rfl
  | cons c r ih => intro n; simp only [placed, List.length_cons, ih]
theorem placed_snd (L : List Cl) : ∀ n, (placed n L).map (·.2) = L := by
  induction L with
  | nil => intro n; rfl
  | cons c r ih => intro n; simp only [placed, List.map_cons, ih]
theorem placed_bd {L : List Cl} : ∀ {n} {p : Nat × Cl}, p ∈ placed n L → n ≤ p.1 ∧ p.1 + p.2.len ≤ n + sizeL L := by
  induction L with
  | nil => intro n p h; simp [placed] at h
  | cons c r ih =>
    intro n p h
    simp only [placed, List.mem_cons] at h
    rcases h with rfl | h
    · simp only [sizeL]; omega
    · have := ih h
      simp only [sizeL]
      omega
theorem placed_inj {L : List Cl} : ∀ {n} {p q : Nat × Cl}, p ∈ placed n L → q ∈ placed n L → p.1 = q.1 → p = q := by
  induction L with
  | nil => intro n p q h; simp [placed] at h
  | cons c r ih =>
    intro n p q hp hq e
    simp only [placed, List.mem_cons] at hp hq
    have hc := c.len_pos
    rcases hp with rfl | hp <;> rcases hq with rfl | hq
    · rfl
    · have h1 : n = q.1 := e
      have := (placed_bd hq).1
      omega
    · have h1 : p.1 = n := e
      have := (placed_bd hp).1
      omega
    · exact ih hp hq e
/-- what stands at a place -/
theorem placed_words {L : List Cl} : ∀ {n} {p : Nat × Cl}, p ∈ placed n L → ∃ A B, wordsOf L = A ++ p.2.words ++ B ∧ A.length + n = p.1 := by
  induction L with
  | nil => intro n p h; simp [placed] at h
  | cons c r ih =>
    intro n p h
    simp only [placed, List.mem_cons] at h
    rcases h with rfl | h
    · exact ⟨[], wordsOf r, rfl, by simp⟩
    · obtain ⟨A, B, h1, h2⟩ := ih h
      refine ⟨c.words ++ A, B, ?_, ?_⟩
      · rw [wordsOf, List.flatMap_cons]
        show c.words ++ wordsOf r = _
        rw [h1]
        simp [List.append_assoc]
      · rw [List.length_append, Cl.words_length]; omega
def orderOf (L : List Cl) : List Int := (placed 0 L).map fun p => (p.1 : Int)
theorem orderOf_length (L : List Cl) : (orderOf L).length = L.length := by rw [orderOf, List.length_map, placed_length]
theorem orderOf_append (L : List Cl) (c : Cl) : orderOf (L ++ [c]) = orderOf L ++ [((sizeL L : Nat) : Int)] := by
  rw [orderOf, placed_append, List.map_append, orderOf]
  simp [placed]
/-- what the marks say of a place -/
def marksGo : List (Nat × Cl) → Int → Option Bool
  | [], _ => none
  | p :: r, x => if x = (p.1 : Int) ∧ p.2.live = true then some p.2.learnt else marksGo r x
def marksOf (L : List Cl) : Int → Option Bool := marksGo (placed 0 L)
theorem marksGo_none {l : List (Nat × Cl)} {x : Int} (h : ∀ p ∈ l, x = (p.1 : Int) → p.2.live = false) : marksGo l x = none := by
  induction l with
  | nil => rfl
  | cons p r ih =>
    simp only [marksGo]
    rw [if_neg, ih fun q hq => h q (List.mem_cons_of_mem _ hq)]
    rintro ⟨h1, h2⟩
    rw [h p List.mem_cons_self h1] at h2
    cases h2
theorem marksGo_some {l : List (Nat × Cl)} {x : Int} {b : Bool} (h : marksGo l x = some b) : ∃ p ∈ l, x = (p.1 : Int) ∧ p.2.live = true ∧ p.2.learnt = b := by
  induction l with
  | nil => cases h
  | cons p r ih =>
    simp only [marksGo] at h
    split at h
    · rename_i h1
      injection h with h
      exact ⟨p, List.mem_cons_self, h1.1, h1.2, h⟩
    · obtain ⟨q, h1, h2⟩ := ih h
      exact ⟨q, List.mem_cons_of_mem _ h1, h2⟩
theorem marksGo_append (l m : List (Nat × Cl)) (x : Int) : marksGo (l ++ m) x = (marksGo l x).or (marksGo m x) := by
  induction l with
  | nil => rfl
  | cons p r ih =>
    simp only [List.cons_append, marksGo]
    split
    · rfl
    · exact ih
theorem marksOf_live {L : List Cl} {p : Nat × Cl} (hp : p ∈ placed 0 L) : marksOf L (p.1 : Int) = if p.2.live = true then some p.2.learnt else none := by
  cases hm : marksOf L (p.1 : Int) with
  | none =>
    split
    · rename_i hl
      exfalso
      have : ∀ l : List (Nat × Cl), p ∈ l → marksGo l (p.1 : Int) ≠ none := by
        intro l
        induction l with
        | nil => intro h; cases h
        | cons q r ih =>
          intro h
          simp only [marksGo]
          split
          · simp
          · rename_i h1
            rcases List.mem_cons.1 h with rfl | h
            · exact absurd ⟨rfl, hl⟩ h1
            · exact ih h
      exact this _ hp hm
    · rfl
  | some b =>
    obtain ⟨q, h1, h2, h3, h4⟩ := marksGo_some hm
    have : p = q := placed_inj hp h1 (by omega)
    subst this
    rw [if_pos h3, h4]
theorem marksOf_out {L : List Cl} {x : Int} (h : ∀ p ∈ placed 0 L, x ≠ (p.1 : Int)) : marksOf L x = none := marksGo_none fun p hp e => absurd e (h p hp)
theorem marksOf_big (L : List Cl) {x : Int} (h : (sizeL L : Int) ≤ x ∨ x < 0) : marksOf L x = none := marksOf_out fun p hp e => by
  have := placed_bd hp
  have := p.2.len_pos
  omega
theorem marksOf_put (L : List Cl) (lits : List Int) (b : Bool) (x : Int) : marksOf (L ++ [⟨lits, b, true⟩]) x = upd (marksOf L) (sizeL L : Nat) b x := by
  rw [marksOf, placed_append, marksGo_append]
  by_cases hx : x = ((sizeL L : Nat) : Int)
  · subst hx
    have h1 : marksGo (placed 0 L) ((sizeL L : Nat) : Int) = none := marksOf_big L (.inl (Int.le_refl _))
    rw [h1, upd_same]
    simp [placed, marksGo]
  · rw [upd_other _ _ hx]
    have h1 : marksGo (placed (0 + sizeL L) [⟨lits, b, true⟩]) x = none := by
      simp only [placed, marksGo]
      rw [if_neg]
      rintro ⟨h1, _⟩
      rw [Nat.zero_add] at h1
      exact hx h1
    rw [h1]
    show _ = marksGo (placed 0 L) x
    cases marksGo (placed 0 L) x <;> rfl
def countOf (L : List Cl) : Nat := (L.filter (·.live)).length
/-- the clause at a place is taken out -/
def killGo : Nat → List Cl → Int → List Cl
  | _, [], _ => []
  | n, c :: r, x => (if x = (n : Int) then { c with live := false } else c) :: killGo (n + c.len) r x
def kill (L : List Cl) (x : Int) : List Cl := killGo 0 L x
theorem killGo_placed (L : List Cl) (x : Int) : ∀ n, placed n (killGo n L x) = (placed n L).map fun p => if x = (p.1 : Int) then (p.1, { p.2 with live := false }) else p := by
  induction L with
  | nil => intro n; rfl
  | cons c r ih =>
    intro n
    simp only [killGo, placed, List.map_cons]
    have e : (if x = (n : Int) then { c with live := false } else c).len = c.len := by split <;> rfl
    rw [e, ih]
    congr 1
    split <;> rfl
theorem killGo_words (L : List Cl) (x : Int) : ∀ n, wordsOf (killGo n L x) = wordsOf L := by
  induction L with
  | nil => intro n; rfl
  | cons c r ih =>
    intro n
    have e : (if x = (n : Int) then { c with live := false } else c).words = c.words := by split <;> rfl
    show (if x = (n : Int) then { c with live := false } else c).words ++ wordsOf (killGo (n + c.len) r x) = c.words ++ wordsOf r
    rw [e, ih]
theorem kill_words (L : List Cl) (x : Int) : wordsOf (kill L x) = wordsOf L := killGo_words L x 0
theorem kill_size (L : List Cl) (x : Int) : sizeL (kill L x) = sizeL L := by rw [← wordsOf_length, kill_words, wordsOf_length]
theorem kill_order (L : List Cl) (x : Int) : orderOf (kill L x) = orderOf L := by
  rw [orderOf, kill, killGo_placed, List.map_map, orderOf]
  refine List.map_congr_left fun p _ => ?_
  show ((if x = (p.1 : Int) then (p.1, ({ p.2 with live := false } : Cl)) else p).1 : Int) = p.1
  split <;> rfl
theorem kill_length (L : List Cl) (x : Int) : (kill L x).length = L.length := by
  have := congrArg List.length (kill_order L x)
  rwa [orderOf_length, orderOf_length] at this
theorem kill_marks (L : List Cl) (x y : Int) : marksOf (kill L x) y = del (marksOf L) x y := by
  by_cases hy : y = x
  · subst hy
    rw [del_same]
    refine marksGo_none fun p hp e => ?_
    rw [kill, killGo_placed, List.mem_map] at hp
    obtain ⟨q, hq, rfl⟩ := hp
    split
    · rfl
    · rename_i h1
      rw [if_neg h1] at e
      exact absurd e h1
  · rw [del_other _ hy, marksOf, kill, killGo_placed]
    show _ = marksGo (placed 0 L) y
    generalize placed 0 L = l
    induction l with
    | nil => rfl
    | cons p r ih =>
      simp only [List.map_cons, marksGo, ih]
      by_cases h1 : x = (p.1 : Int)
      · rw [if_pos h1]
        rw [if_neg (by rintro ⟨_, h⟩; cases h), if_neg (by rintro ⟨h, _⟩; exact hy (h.trans h1.symm))]
      · rw [if_neg h1]
theorem killGo_count {x : Int} {L : List Cl} : ∀ {n} {p : Nat × Cl}, p ∈ placed n L → x = (p.1 : Int) → p.2.live = true → countOf (killGo n L x) + 1 = countOf L := by
  induction L with
  | nil => intro n p h; simp [placed] at h
  | cons c r ih =>
    intro n p h e hl
    simp only [placed, List.mem_cons] at h
    have hc := c.len_pos
    rcases h with rfl | h
    · have h2 : killGo (n + c.len) r x = r := by
        have : ∀ (r : List Cl) (m : Nat), x < (m : Int) → killGo m r x = r := by
          intro r
          induction r with
          | nil => intro m _; rfl
          | cons d s ih2 =>
            intro m hm
            simp only [killGo]
            rw [if_neg (by omega), ih2 (m + d.len) (by omega)]
        exact this r _ (by have e' : x = (n : Int) := e; omega)
      have hl' : c.live = true := hl
      have e' : x = (n : Int) := e
      simp [countOf, killGo, e', hl']
      rw [e'] at h2
      rw [h2]
    · have h3 : x ≠ (n : Int) := by have h5 := (placed_bd h).1; omega
      have := ih h e hl
      simp only [countOf, killGo] at this ⊢
      rw [if_neg h3, List.filter_cons, List.filter_cons]
      cases c.live <;> simp <;> omega
theorem kill_count {L : List Cl} {x : Int} (h : (marksOf L x).isSome = true) : countOf (kill L x) = countOf L - 1 := by
  obtain ⟨b, hb⟩ := Option.isSome_iff_exists.1 h
  obtain ⟨p, h1, h2, h3, _⟩ := marksGo_some hb
  have := killGo_count h1 h2 h3
  unfold kill
  omega
theorem countOf_put (L : List Cl) (lits : List Int) (b : Bool) : countOf (L ++ [⟨lits, b, true⟩]) = countOf L + 1 := by simp [countOf, List.filter_append]
/-- the live ones, each with its place -/
def livesOf (L : List Cl) : List (Nat × Cl) := (placed 0 L).filter (·.2.live)
def refsOf (L : List Cl) : List Int := (livesOf L).map fun p => (p.1 : Int)
/-- what a sweep leaves -/
def sweptOf (L : List Cl) : List Cl := (livesOf L).map (·.2)
theorem sweptOf_eq (L : List Cl) : sweptOf L = L.filter (·.live) := by
  have h : ∀ n, ((placed n L).filter (·.2.live)).map (·.2) = L.filter (·.live) := by
    induction L with
    | nil => intro n; rfl
    | cons c r ih =>
      intro n
      simp only [placed, List.filter_cons]
      cases c.live <;> simp [ih]
  exact h 0
theorem livesOf_length (L : List Cl) : (livesOf L).length = countOf L := by rw [← List.length_map (f := (·.2)), countOf, ← sweptOf_eq]; rfl
theorem livesOf_mem {L : List Cl} {p : Nat × Cl} (h : p ∈ livesOf L) : p ∈ placed 0 L ∧ p.2.live = true := by
  have := List.mem_filter.1 h
  exact ⟨this.1, this.2⟩
theorem placed_sorted (L : List Cl) : ∀ n, (placed n L).Pairwise fun p q => p.1 < q.1 := by
  induction L with
  | nil => intro n; exact List.Pairwise.nil
  | cons c r ih =>
    intro n
    refine List.Pairwise.cons (fun q hq => ?_) (ih _)
    have := (placed_bd hq).1
    have := c.len_pos
    show n < q.1
    omega
theorem livesOf_sorted (L : List Cl) : (livesOf L).Pairwise fun p q => p.1 < q.1 := (placed_sorted L 0).sublist List.filter_sublist
/-- where a sweep of these leads, the first of them to n -/
def leadsGo : Nat → List (Nat × Cl) → List (Int × Int)
  | _, [] => []
  | n, p :: r => ((p.1 : Int), (n : Int)) :: leadsGo (n + p.2.len) r
def leadsOf (L : List Cl) : List (Int × Int) := leadsGo 0 (livesOf L)
def leadIn : List (Int × Int) → Int → Option Int
  | [], _ => none
  | p :: r, x => if x = p.1 then some p.2 else leadIn r x
theorem leadsGo_append (l m : List (Nat × Cl)) : ∀ n, leadsGo n (l ++ m) = leadsGo n l ++ leadsGo (n + sizeL (l.map (·.2))) m := by
  induction l with
  | nil => intro n; rfl
  | cons p r ih => intro n; simp only [List.cons_append, leadsGo, ih, List.map_cons, sizeL, Nat.add_assoc]
theorem leadIn_append (l m : List (Int × Int)) (x : Int) : leadIn (l ++ m) x = (leadIn l x).or (leadIn m x) := by
  induction l with
  | nil => rfl
  | cons p r ih =>
    simp only [List.cons_append, leadIn]
    split
    · rfl
    · exact ih
theorem leadIn_none {l : List (Int × Int)} {x : Int} (h : ∀ p ∈ l, x ≠ p.1) : leadIn l x = none := by
  induction l with
  | nil => rfl
  | cons p r ih =>
    simp only [leadIn]
    rw [if_neg (h p List.mem_cons_self), ih fun q hq => h q (List.mem_cons_of_mem _ hq)]
theorem leadsGo_fst (l : List (Nat × Cl)) : ∀ n, (leadsGo n l).map (·.1) = l.map fun p => (p.1 : Int) := by
  induction l with
  | nil => intro n; rfl
  | cons p r ih => intro n; simp only [leadsGo, List.map_cons, ih]
theorem take_step {α : Type} {l : List α} {k : Nat} {p : α} (h : l[k]? = some p) : l.take (k + 1) = l.take k ++ [p] := by rw [List.take_add_one, h]; rfl
/-- one round of a sweep -/
theorem lead_step {L : List Cl} {k : Nat} {p : Nat × Cl} (h : (livesOf L)[k]? = some p) (x : Int) :
    leadIn (leadsGo 0 ((livesOf L).take (k + 1))) x = upd (leadIn (leadsGo 0 ((livesOf L).take k))) (p.1 : Int) ((sizeL (((livesOf L).take k).map (·.2)) : Nat) : Int) x := by
  rw [take_step h, leadsGo_append, leadIn_append]
  by_cases hx : x = (p.1 : Int)
  · subst hx
    rw [upd_same, leadIn_none]
    · simp [leadsGo, leadIn]
    · intro q hq e
      have h1 : q.1 ∈ (leadsGo 0 ((livesOf L).take k)).map (·.1) := List.mem_map_of_mem hq
      rw [leadsGo_fst, List.mem_map] at h1
      obtain ⟨r, hr, h2⟩ := h1
      obtain ⟨j, hj⟩ := List.getElem?_of_mem hr
      rw [List.getElem?_take] at hj
      split at hj
      · rename_i hlt
        obtain ⟨l1, e1⟩ := List.getElem?_eq_some_iff.1 hj
        obtain ⟨l2, e2⟩ := List.getElem?_eq_some_iff.1 h
        have := List.pairwise_iff_getElem.1 (livesOf_sorted L) j k l1 l2 hlt
        rw [e1, e2] at this
        omega
      · cases hj
  · rw [upd_other _ _ hx]
    have h1 : leadIn (leadsGo (0 + sizeL (((livesOf L).take k).map (·.2))) [p]) x = none := by
      simp only [leadsGo, leadIn]
      rw [if_neg hx]
    rw [h1]
    cases leadIn (leadsGo 0 ((livesOf L).take k)) x <;> rfl
theorem swept_step {L : List Cl} {k : Nat} {p : Nat × Cl} (h : (livesOf L)[k]? = some p) : ((livesOf L).take (k + 1)).map (·.2) = ((livesOf L).take k).map (·.2) ++ [⟨p.2.lits, p.2.learnt, true⟩] := by
  rw [take_step h, List.map_append]
  have hl := (livesOf_mem (List.mem_of_getElem? h)).2
  obtain ⟨n, ⟨a, b, c⟩⟩ := p
  have hl' : c = true := hl
  subst hl'
  rfl
theorem lead_some {L : List Cl} {x y : Int} (h : leadIn (leadsOf L) x = some y) : ∃ p ∈ livesOf L, x = (p.1 : Int) := by
  have : ∀ l : List (Int × Int), leadIn l x = some y → x ∈ l.map (·.1) := by
    intro l
    induction l with
    | nil => intro h; cases h
    | cons p r ih =>
      intro h
      simp only [leadIn] at h
      split at h
      · rename_i h1; simp [h1]
      · exact List.mem_cons_of_mem _ (ih h)
  have h1 := this _ h
  rw [leadsOf, leadsGo_fst, List.mem_map] at h1
  obtain ⟨p, hp, e⟩ := h1
  exact ⟨p, hp, e.symm⟩
theorem refsOf_filter (L : List Cl) : refsOf L = (orderOf L).filter fun r => (marksOf L r).isSome := by
  rw [refsOf, livesOf, orderOf, List.filter_map]
  congr 1
  refine List.filter_congr fun p hp => ?_
  show p.2.live = (marksOf L (p.1 : Int)).isSome
  rw [marksOf_live hp]
  cases p.2.live <;> rfl
theorem orderOf_bd {L : List Cl} {r : Int} (h : r ∈ orderOf L) : 0 ≤ r ∧ r < (sizeL L : Int) := by
  rw [orderOf, List.mem_map] at h
  obtain ⟨p, hp, rfl⟩ := h
  have := placed_bd hp
  have := p.2.len_pos
  omega
end Go.Proofs.YtkkkbcjmkmadhaaMath
/-! text YtkkkbcjmkmadhaaMath -/
namespace Go.Proofs.YtkkkbcjmkmadhaaMath
open Go.RowKit Go.Proofs.YtkkkbcjmkmadhaaW.PrintWords
set_option linter.unusedVariables false
set_option linter.unusedSimpArgs false

theorem Ev.succ {α : Type} {g : Nat → Option α} {r : α} (h : Ev (fun k => g (k + 1)) r) : Ev g r := Ev.step (fun _ => rfl) h
theorem Ev.bound {α β : Type} {x : Option α} {f : Nat → α → Option β} {a : α} {r : β} (h : x = some a) (k : Ev (fun n => f n a) r) : Ev (fun n => x.bind (f n)) r := by
  subst h
  exact k
theorem Ev.fixed {α : Type} {x : Option α} {r : α} (h : x = some r) : Ev (fun _ => x) r := by
  subst h
  exact Ev.now _

theorem w64 {x : Int} (h1 : -9223372036854775808 ≤ x) (h2 : x ≤ 9223372036854775807) : wrap64 x = x := by
  unfold wrap64
  omega
theorem w64s {i : Nat} (h : (i : Int) < 9223372036854775807) : wrap64 ((i : Int) + 1) = ((i + 1 : Nat) : Int) := by
  rw [w64 (by omega) (by omega)]
  omega
theorem w64p {i : Nat} (h0 : 0 < i) (h : (i : Int) < 9223372036854775807) : wrap64 ((i : Int) - 1) = ((i - 1 : Nat) : Int) := by
  rw [w64 (by omega) (by omega)]
  omega
theorem wf_lo {x : Int} (h : (Lit.int .i64 x).wf = true) : -9223372036854775808 ≤ x ∧ x ≤ 9223372036854775807 := by
  have h2 : (decide (IntKind.i64.min ≤ x) && decide (x ≤ IntKind.i64.max)) = true := h
  rw [Bool.and_eq_true, decide_eq_true_eq, decide_eq_true_eq] at h2
  have e1 : IntKind.i64.min = -9223372036854775808 := by decide
  have e2 : IntKind.i64.max = 9223372036854775807 := by decide
  omega

/-! reading -/
theorem rd_nat {l : List Int} {i : Nat} (h : i < l.length) : rd l (i : Int) = l[i] := by
  simp [rd, List.getD_eq_getElem?_getD, List.getElem?_eq_getElem h]
theorem drop_rd {l : List Int} {i : Nat} (h : i < l.length) : l.drop i = rd l (i : Int) :: l.drop (i + 1) := by
  rw [rd_nat h]
  exact List.drop_eq_getElem_cons h
theorem rd_mem {l : List Int} {i : Nat} (h : i < l.length) : rd l (i : Int) ∈ l := by
  rw [rd_nat h]
  exact List.getElem_mem h
theorem rdOf_nat {α : Type} {z : α} {l : List α} {i : Nat} (h : i < l.length) : rdOf z l (i : Int) = l[i] := by
  simp [rdOf, List.getD_eq_getElem?_getD, List.getElem?_eq_getElem h]
theorem drop_rdOf {α : Type} {z : α} {l : List α} {i : Nat} (h : i < l.length) : l.drop i = rdOf z l (i : Int) :: l.drop (i + 1) := by
  rw [rdOf_nat h]
  exact List.drop_eq_getElem_cons h
theorem getD_nat {α : Type} {z : α} {l : List α} {i : Nat} (h : i < l.length) : l.getD ((i : Int).toNat) z = l[i] := by
  simp [List.getD_eq_getElem?_getD, List.getElem?_eq_getElem h]
theorem drop_getD {α : Type} {z : α} {l : List α} {i : Nat} (h : i < l.length) : l.drop i = l.getD ((i : Int).toNat) z :: l.drop (i + 1) := by
  rw [getD_nat h]
  exact List.drop_eq_getElem_cons h
theorem take_snoc {α : Type} {l : List α} {i : Nat} (h : i < l.length) : l.take (i + 1) = l.take i ++ [l[i]] := by
  rw [List.take_succ_eq_append_getElem h]
theorem take_rd {l : List Int} {i : Nat} (h : i < l.length) : l.take (i + 1) = l.take i ++ [rd l (i : Int)] := by
  rw [rd_nat h]; exact take_snoc h
theorem take_rdOf {α : Type} {z : α} {l : List α} {i : Nat} (h : i < l.length) : l.take (i + 1) = l.take i ++ [rdOf z l (i : Int)] := by
  rw [rdOf_nat h]; exact take_snoc h
theorem take_getD {α : Type} {z : α} {l : List α} {i : Nat} (h : i < l.length) : l.take (i + 1) = l.take i ++ [l.getD ((i : Int).toNat) z] := by
  rw [getD_nat h]; exact take_snoc h

/-! literals -/
def formed (l : Int) : Bool := decide (l ≠ 0 ∧ -1048576 ≤ l ∧ l ≤ 1048576)
theorem formed_iff {l : Int} : formed l = true ↔ l ≠ 0 ∧ -1048576 ≤ l ∧ l ≤ 1048576 := by simp [formed]
theorem formed_neg (l : Int) : formed (-l) = formed l := by
  rw [Bool.eq_iff_iff, formed_iff, formed_iff]
  omega
def sound (c : List Int) : Bool := c.all formed
def has (c : List Int) (l : Int) : Bool := formed l && c.contains l
def varOf (l : Int) : Int := if formed l = true then (if l < 0 then -l else l) else 0
def within (c : List Int) (v : Int) : Bool := sound c && c.all fun l => decide (l ≤ v ∧ -l ≤ v)
def isFormula (v : Int) (cs : List (List Int)) : Bool := decide (0 ≤ v ∧ v ≤ 1048576) && cs.all fun c => within c v
theorem formed_bd {l : Int} (h : formed l = true) : -1048576 ≤ l ∧ l ≤ 1048576 := by
  rw [formed_iff] at h
  omega
theorem sound_mem {c : List Int} (h : sound c = true) {l : Int} (hl : l ∈ c) : formed l = true := List.all_eq_true.1 h l hl

/-- The numbers of those of which p holds, from number i on. -/
def idxs {α : Type} (p : α → Bool) : Nat → List α → List Int
  | _, [] => []
  | i, c :: cs => if p c = true then (i : Int) :: idxs p (i + 1) cs else idxs p (i + 1) cs
theorem idxs_length {α : Type} (p : α → Bool) (cs : List α) : ∀ i, (idxs p i cs).length ≤ cs.length := by
  induction cs with
  | nil => intro i; simp [idxs]
  | cons c cs ih =>
    intro i
    simp only [idxs]
    have := ih (i + 1)
    split <;> simp <;> omega

/-! models -/
def truth (m : List Bool) (l : Int) : Bool := (m.getD (l.natAbs - 1) false) == decide (l > 0)
def holdsIn (c : List Int) (m : List Bool) : Bool := c.any (truth m)
def allIn (cs : List (List Int)) (m : List Bool) : Bool := cs.all fun c => holdsIn c m
def fitsIn (v : Int) (cs : List (List Int)) (m : List Bool) : Bool := isFormula v cs && decide ((m.length : Int) = v)
def satisfies (v : Int) (cs : List (List Int)) (m : List Bool) : Bool := fitsIn v cs m && allIn cs m
def falses (v : Int) (cs : List (List Int)) (m : List Bool) : List Int := if fitsIn v cs m = true then idxs (fun c => !holdsIn c m) 0 cs else []
def sizeFrom : Int → List (List Int) → Int
  | a, [] => a
  | a, c :: cs => sizeFrom (wrap64 (a + (c.length : Int))) cs
theorem within_lit {c : List Int} {v : Int} (h : within c v = true) {l : Int} (hl : l ∈ c) : formed l = true ∧ l ≤ v ∧ -l ≤ v := by
  unfold within at h
  rw [Bool.and_eq_true] at h
  refine ⟨sound_mem h.1 hl, ?_⟩
  simpa using List.all_eq_true.1 h.2 l hl
theorem rdOf_truth {m : List Bool} {l : Int} (h : formed l = true) : (rdOf false m ((l.natAbs : Int) - 1) == decide (l > 0)) = truth m l := by
  have hb := formed_iff.1 h
  unfold truth rdOf
  rw [show ((l.natAbs : Int) - 1).toNat = l.natAbs - 1 by omega]
theorem isFormula_clause {v : Int} {cs : List (List Int)} (h : isFormula v cs = true) {c : List Int} (hc : c ∈ cs) : within c v = true := by
  unfold isFormula at h
  rw [Bool.and_eq_true] at h
  exact List.all_eq_true.1 h.2 c hc
theorem isFormula_bd {v : Int} {cs : List (List Int)} (h : isFormula v cs = true) : 0 ≤ v ∧ v ≤ 1048576 := by
  unfold isFormula at h
  rw [Bool.and_eq_true] at h
  simpa using h.1

/-! counting -/
def cnt : List Bool → Nat
  | [] => 0
  | b :: bs => (if b = true then 1 else 0) + cnt bs
theorem cnt_le (l : List Bool) : cnt l ≤ l.length := by
  induction l with
  | nil => simp [cnt]
  | cons b bs ih =>
    simp only [cnt, List.length_cons]
    split <;> omega
def rowF (c : Nat) : Nat → Nat → List Bool
  | _, 0 => []
  | j, d + 1 => decide (c > j) :: rowF c (j + 1) d
theorem rowF_length (c : Nat) (d : Nat) : ∀ j, (rowF c j d).length = d := by
  induction d with
  | zero => intro j; rfl
  | succ d ih => intro j; simp [rowF, ih]
def fillF (k : Nat) : Nat → List Bool → List Bool
  | _, [] => []
  | c, b :: bs => rowF (if b = true then c + 1 else c) 0 k ++ fillF k (if b = true then c + 1 else c) bs
theorem fillF_length (k : Nat) (bs : List Bool) : ∀ c, (fillF k c bs).length = bs.length * k := by
  induction bs with
  | nil => intro c; simp [fillF]
  | cons b bs ih => intro c; simp only [fillF, List.length_append, rowF_length, ih, List.length_cons, Nat.add_mul]; omega
def fillOf (on : List Bool) (k : Int) : List Bool × Int :=
  if k < 0 ∨ (cnt on : Int) > k then ([], 2) else if k = 0 ∨ k ≥ (on.length : Int) then ([], 0) else (fillF k.toNat 0 (on.take (on.length - 1)), 0)

/-! places -/
def idxOf (l : Int) : Int := if formed l = true then (if l < 0 then -2 * l - 1 else 2 * l - 2) else -1
def atOf (i : Int) : Int := if 0 ≤ i ∧ i < 2097152 then (if i % 2 = 1 then -(i / 2 + 1) else i / 2 + 1) else 0

end Go.Proofs.YtkkkbcjmkmadhaaMath
