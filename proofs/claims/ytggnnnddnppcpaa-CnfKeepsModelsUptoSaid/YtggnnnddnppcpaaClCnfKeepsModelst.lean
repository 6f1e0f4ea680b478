/- Things that lie apart, laid down side by side as a list of their own. -/
import Derived.Test.YtggnnnddnppcpaaClCnfKeepsModelsb
import Derived.Test.YtggnnnddnppcpaaClCnfKeepsModelsa
import Derived.RangeFuncNested
import Derived.Test.YtggnnnddnppcpaaClCnfKeepsModelsj
import Derived.Test.YtggnnnddnppcpaaClCnfKeepsModelsq
import Derived.Test.YtggnnnddnppcpaaClCnfKeepsModelsr
import Derived.Test.YtggnnnddnppcpaaClCnfKeepsModelss
import Derived.Laws.EntriesVeiled
/-! text YtggnnnddnppcpaaSepMade -/
namespace Go.Proofs.YtggnnnddnppcpaaOwn
open Go Go.RowKit Go.Proofs.YtggnnnddnppcpaaW.PrintWords
set_option linter.unusedVariables false
set_option linter.unusedSimpArgs false
/-- a list of things, made out of those that were told one by one -/
theorem Sep.made {β : Type} {w W : World} {X : Nat → Prop} {l : List Asr} (K : Kd β) (hK : K.sz = 1) (e : TypeId) (h : Sep w X l W) (R : List (Nat × Value × β)) (hR : ∀ (q : Nat) r, R[q]? = some r → ∃ A, l[r.1]? = some A ∧ ∀ ok, A.P W ok → K.M W 0 ok r.2.2 [r.2.1])
    (hnd : (R.map (·.1)).Nodup) (hX : ∀ b, X b → b < W.heap.size) (hn : R.length ≤ maxLen) :
    Sep w X (R.foldl (fun l r => l.set r.1 .emp) l ++ [.rows K e (.slice (some ⟨W.heap.size, 0, none⟩) R.length R.length) (R.map (·.2.2))]) (W.alloc (.cells (R.map (·.2.1)).toArray e (0, 0))) := by
  obtain ⟨f, hf⟩ := h.tags
  have hbW := below_alloc (Below.refl W.heap.size W) (.cells (R.map (·.2.1)).toArray e (0, 0))
  have hw := h.hB.size
  obtain ⟨W1, hW1⟩ : ∃ W1, W1 = W.alloc (.cells (R.map (·.2.1)).toArray e (0, 0)) := ⟨_, rfl⟩
  rw [← hW1] at hbW ⊢
  have hz2 : W1.heap.size = W.heap.size + 1 := by rw [hW1]; simp
  have hnew : W1.heap[W.heap.size]? = some (.cells (R.map (·.2.1)).toArray e (0, 0)) := by rw [hW1]; exact World.alloc_heap_new W _
  have hinj : ∀ (q q' : Nat) r r', R[q]? = some r → R[q']? = some r' → r.1 = r'.1 → q = q' := fun q q' r r' h1 h2 h3 => by
    have e1 : (R.map (·.1))[q]? = some r.1 := by rw [List.getElem?_map, h1]; rfl
    have e2 : (R.map (·.1))[q']? = some r.1 := by rw [List.getElem?_map, h2, h3]; rfl
    obtain ⟨l1, k1⟩ := List.getElem?_eq_some_iff.1 e1
    obtain ⟨l2, k2⟩ := List.getElem?_eq_some_iff.1 e2
    have hp := List.pairwise_iff_getElem.1 hnd
    rcases Nat.lt_trichotomy q q' with h4 | h4 | h4
    · exact absurd (k1.trans k2.symm) (hp q q' l1 l2 h4)
    · exact h4
    · exact absurd (k2.trans k1.symm) (hp q' q l2 l1 h4)
  have hmem : ∀ (q : Nat) r, R[q]? = some r → r.1 ∈ R.map (·.1) := fun q r h1 => List.mem_map.2 ⟨r, List.mem_of_getElem? h1, rfl⟩
  have hll : (R.foldl (fun l r => l.set r.1 .emp) l).length = l.length := by
    have : ∀ (R : List (Nat × Value × β)) (l : List Asr), (R.foldl (fun l r => l.set r.1 .emp) l).length = l.length := fun R => by
      induction R with
      | nil => intro l; rfl
      | cons r R ih => intro l; rw [List.foldl_cons, ih, List.length_set]
    exact this R l
  refine ⟨below_step h.hB hbW, fun b => if b < W.heap.size then (if f b ∈ R.map (·.1) then l.length else f b) else l.length, fun k C hk => ?_⟩
  rcases Nat.lt_or_ge k l.length with h1 | h1
  · rw [List.getElem?_append_left (by rw [hll]; exact h1), foldl_emp (fun r : Nat × Value × β => r.1)] at hk
    split at hk
    · obtain ⟨_, _, rfl⟩ := Option.map_eq_some_iff.1 hk
      exact trivial
    · rename_i hkR
      refine C.step (hf k C hk) hbW.size fun b h2 h3 => ⟨hbW.block b h3, ?_, h2.2⟩
      show (if b < W.heap.size then (if f b ∈ R.map (·.1) then l.length else f b) else l.length) = k
      rw [if_pos h3, h2.1, if_neg hkR]
  · rw [List.getElem?_append_right (by rw [hll]; exact h1)] at hk
    have h2 : k - (R.foldl (fun l r => l.set r.1 .emp) l).length = 0 := by
      have := (List.getElem?_eq_some_iff.1 hk).1
      simp at this
      omega
    rw [h2] at hk
    have hC : Asr.rows K e (.slice (some ⟨W.heap.size, 0, none⟩) R.length R.length) (R.map (·.2.2)) = C := by simpa using hk
    subst hC
    have hkl : k = l.length := by omega
    subst hkl
    classical
    obtain ⟨g, hg⟩ : ∃ g : Nat → Nat, ∀ (q : Nat) r b, R[q]? = some r → f b = r.1 → g b = q := by
      refine ⟨fun b => if hx : ∃ (q : Nat) (r : Nat × Value × β), R[q]? = some r ∧ f b = r.1 then Classical.choose hx else 0, fun q r b hr hb => ?_⟩
      have hx : ∃ (q : Nat) (r : Nat × Value × β), R[q]? = some r ∧ f b = r.1 := ⟨q, r, hr, hb⟩
      refine (dif_pos hx).trans ?_
      obtain ⟨r2, h3, h4⟩ := Classical.choose_spec hx
      exact hinj _ _ _ _ h3 hr (h4.symm.trans hb)
    refine ⟨g, fun b hb => ?_, R.map (·.2.1), ⟨?_, .inr ⟨W.heap.size, R.length, (R.map (·.2.1)).toArray, ?_, Nat.zero_le _, hnew, ?_, hn, ?_, ?_⟩⟩, ?_, fun q p hq => ?_⟩
    · have hb2 : W.heap.size = b := by simpa [Value.ownBlock] using hb
      subst hb2
      exact ⟨if_neg (Nat.lt_irrefl _), hw, fun hx => Nat.lt_irrefl _ (hX _ hx)⟩
    · show (R.map (·.2.1)).length = (R.map (·.2.2)).zipIdx.length * K.sz
      rw [hK, List.length_map, List.length_zipIdx, List.length_map, Nat.mul_one]
    · rw [List.length_zipIdx, List.length_map]
    · rw [List.length_zipIdx, List.length_map]; exact Nat.le_refl _
    · show (R.map (·.2.1)).toArray.size = R.length * K.sz
      rw [hK, List.size_toArray, List.length_map, Nat.mul_one]
    · show ((R.map (·.2.1)).toArray.toList.take ((R.map (·.2.2)).zipIdx.length * K.sz)) = R.map (·.2.1)
      rw [hK, List.length_zipIdx, List.length_map, Nat.mul_one]
      exact List.take_of_length_le (by simp)
    · show (R.map (·.2.1)).length = (R.map (·.2.2)).zipIdx.length * K.sz
      rw [hK, List.length_map, List.length_zipIdx, List.length_map, Nat.mul_one]
    · rw [List.getElem?_zipIdx, List.getElem?_map] at hq
      obtain ⟨x, hx, rfl⟩ := Option.map_eq_some_iff.1 hq
      obtain ⟨r, hr, rfl⟩ := Option.map_eq_some_iff.1 hx
      obtain ⟨A, hA, hM⟩ := hR q r hr
      have hsz : (Kd.tag g K).sz = 1 := hK
      rw [hsz]
      have hin : ((R.map (·.2.1)).drop (q * 1)).take 1 = [r.2.1] := by
        have hj : (R.map (·.2.1))[q]? = some r.2.1 := by rw [List.getElem?_map, hr]; rfl
        have hjl := (List.getElem?_eq_some_iff.1 hj).1
        rw [Nat.mul_one, List.drop_eq_getElem_cons hjl, List.take_succ_cons, List.take_zero, (List.getElem?_eq_some_iff.1 hj).2]
      rw [hin]
      have hM1 := hM _ (Asr.mono (hf r.1 A hA) (ok' := fun b => (f b = r.1 ∧ w.heap.size ≤ b ∧ ¬ X b) ∧ b < W.heap.size) fun b h1 h2 => ⟨h1, h2⟩)
      have hM2 := K.M_move (w1 := W1) (fun b hb => hbW.block b hb.2) hM1
      refine K.M_mono (fun b hb => ?_) hM2
      have h5 : b ≠ W.heap.size := by have := hb.2; omega
      refine ⟨⟨⟨?_, hb.1.2⟩, ?_⟩, ?_⟩
      · show (if b < W.heap.size then (if f b ∈ R.map (·.1) then l.length else f b) else l.length) = l.length
        rw [if_pos hb.2, hb.1.1, if_pos (hmem q r hr)]
      · intro e1
        have e2 : some b = some W.heap.size := e1
        injection e2 with e2
        exact h5 e2
      · show g b = 0 + q
        rw [Nat.zero_add]
        exact hg q r b hr hb.1.1
end Go.Proofs.YtggnnnddnppcpaaOwn
/-! text YtggnnnddnppcpaaRangeOwn2 -/
namespace Go.Proofs.YtggnnnddnppcpaaOwn
open Go Go.RowKit
set_option linter.unusedVariables false
variable {F : Fence} {n : Nat} {P : Program}
theorem SeqD.inRound {α : Type} {g : Nat} {lb : Array Value} {encs : α → Array Value} {Hd : World → (Nat → Prop) → α → World → Prop} {Rd : Nat → Prop} {S Sp : List α → Prop} {N : Nat} {w : World} (l : Nat) (h : SeqD F n P g lb encs Hd Rd S Sp N w) : SeqD (F.inRound l) n P g lb encs Hd Rd S Sp N w := h
theorem wpIn_range_ownH {α : Type} {g : Operand} {ps : Array Tmp} {assign body : Code} {Q : Exit → Act → World → Prop} {a : Act} {w : World}
    (h1 : 1 ≤ n) {gf : Nat} {lb : Array Value} (hro : F.round = none) (hg : a.eval g = .func (.func gf) #[] lb) (hFg : F.fn gf) (eg : ∀ args w, (callFunc gf args).run P w = .ok (.enter gf args) w)
    {encs : α → Array Value} {Hd : World → (Nat → Prop) → α → World → Prop} {Rd : Nat → Prop} {S Sp : List α → Prop} {N : Nat} {w0 : World} (hseq : SeqD F (n - 1) P gf lb encs Hd Rd S Sp N w0)
    (hHd : ∀ A M M' x W W', Hd A M x W → (∀ k, M' k → M k ∨ k < A.heap.size) → (∀ k cs t z, A.heap.size ≤ k → W.heap[k]? = some (.cells cs t z) → W'.heap[k]? = some (.cells cs t z)) → Hd A M' x W')
    (hRd : ∀ k, Rd k → k < w0.heap.size) (hb0 : Below w0.heap.size w0 w) (hps : ∀ x, (encs x).size = ps.size)
    (I : (Nat → Prop) → List α → World → Prop) (Ix : Code → (Nat → Prop) → List α → World → Prop) (hI : OwnD I) (hIx : ∀ c, OwnD (Ix c)) (h0 : I (fun _ => False) [] w) (a₁ : α → Act)
    (hassign : ∀ (l : Nat) (x : α) (W : World) (K : Act → World → Prop), K (a₁ x) W →
      assign.wpIn (F.inRound l) (n - 1 - 1) P (Exit.then K (fun _ _ _ => False)) { tmps := (ps.zip (encs x)).foldl (fun t (p, v) => t.setIfInBounds p v) a.tmps, defers := [] } W)
    (hbody : ∀ (l : Nat) (M M1 : Nat → Prop) (pre : List α) (x : α) (A W : World), I M pre A → Grow M A W → More M A W M1 → (∀ k, M k → M1 k) → M w.heap.size → M (w.heap.size + 1) → w.heap.size + 2 ≤ A.heap.size → Hd A M1 x W → pre.length < N → l = w.heap.size + 1 → (∃ r, W.heap[l]? = some (.loop r)) → body.wpIn (F.inRound l) (n - 1 - 1) P (ownPostD Rd M1 I Ix (pre ++ [x]) W) (a₁ x) W)
    (hdone : ∀ (M : Nat → Prop) (xs : List α) (W : World), M w.heap.size → S xs → I M xs W → W.heap[w.heap.size]? = some (.deferred (some [])) → Q .normal { a with defers := { target := .collected w.heap.size, args := #[] } :: a.defers } W)
    (hstop : ∀ (M : Nat → Prop) (c : Code) (pre : List α) (W : World), M w.heap.size → Sp pre → Ix c M pre W → W.heap[w.heap.size]? = some (.deferred (some [])) → c.wpIn F n P Q { a with defers := { target := .collected w.heap.size, args := #[] } :: a.defers } W) :
    (Code.rangeFunc g ps assign body).wpIn F n P Q a w := by
  refine wpIn_rangeFunc ?_
  intro fn hfn
  rw [hro]
  obtain ⟨rec, hrec⟩ : ∃ rec : LoopState → Option Code → Loop, rec = fun st pe => { state := st, pending := pe, fn, tmps := a.tmps, params := ps, assign, body, defers := w.heap.size } := ⟨_, rfl⟩
  obtain ⟨W1, hW1⟩ : ∃ W1, (w.alloc (.deferred (some []))).alloc (.loop (rec .ready none)) = W1 := ⟨_, rfl⟩
  have hz1 : W1.heap.size = w.heap.size + 2 := by rw [← hW1]; simp
  have hL1 : W1.heap[w.heap.size + 1]? = some (.loop (rec .ready none)) := by
    rw [← hW1]
    have := World.alloc_heap_new (w.alloc (.deferred (some []))) (.loop (rec .ready none))
    rwa [World.size_alloc] at this
  have hK1 : W1.heap[w.heap.size]? = some (.deferred (some [])) := by
    rw [← hW1]
    exact (Below.heap_alloc _ _ _ (by simp)).trans (World.alloc_heap_new w _)
  have hG1 : Below w.heap.size w W1 := by rw [← hW1]; exact ((Below.refl _ w).alloc (Nat.le_refl _) _).alloc (by simp) _
  have hb1 : Below w0.heap.size w0 W1 := hb0.trans (hG1.mono hb0.size)
  have hRlt : ∀ k, Rd k → k < w.heap.size := fun k hk => Nat.lt_of_lt_of_le (hRd k hk) hb0.size
  have hI1 : I (With w.heap.size (fun _ => False)) [] W1 := hI _ _ _ _ _ h0 (Grow.of_below hG1) (fun k hk => by rcases hk with h | h | h; exact .inl h; exact .inr (by omega); exact .inr (by omega))
  refine ⟨w.heap.size + 1, [{ target := .collected w.heap.size, args := #[] }], W1, { target := .fn (.func gf) lb, args := #[.func (.yield (w.heap.size + 1)) #[] #[]] }, W1, gf,
    #[.func (.yield (w.heap.size + 1)) #[] #[]] ++ lb, W1, ?_, ?_, ?_, ?_, fun _ => h1, ?_⟩
  · rw [← hW1, hrec]; exact run_enterLoop_outer _ _ _ _ _
  · simp only [resolve, hg]
    simp [go_sem]
  · intro f' hf'
    simp [Target.leads] at hf'
    subst hf'
    exact hFg
  · simp [invoke, go_sem, eg]
  · refine (hseq (w.heap.size + 1)
      (fun M pre W => I (With w.heap.size M) pre W ∧ W.heap[w.heap.size + 1]? = some (.loop (rec .ready none)) ∧ W.heap[w.heap.size]? = some (.deferred (some [])) ∧ ¬ M w.heap.size ∧ ¬ M (w.heap.size + 1))
      (fun M pre W => ∃ c, Ix c (With w.heap.size M) pre W ∧ W.heap[w.heap.size + 1]? = some (.loop (rec .done (some c))) ∧ W.heap[w.heap.size]? = some (.deferred (some [])) ∧ ¬ M w.heap.size ∧ ¬ M (w.heap.size + 1))
      W1 hb1 ?_ ?_ ?_ ⟨hI1, hL1, hK1, fun h => h, fun h => h⟩).mono ?_
    · rintro M M1 s A B ⟨hi, hl, hk, n1, n2⟩ hg' hm
      have l1 := (Array.getElem?_eq_some_iff.1 hl).1
      have l2 := (Array.getElem?_eq_some_iff.1 hk).1
      refine ⟨hI _ _ _ _ _ hi (hg'.mono fun k h => .inl h) (fun k h => ?_), (hg'.block _ l1 n2).trans hl, (hg'.block _ l2 n1).trans hk, fun h => ?_, fun h => ?_⟩
      · rcases h with h | h
        · rcases hm k h with h | h
          · exact .inl (.inl h)
          · exact .inr h
        · exact .inl (.inr h)
      · rcases hm _ h with h | h
        · exact n1 h
        · omega
      · rcases hm _ h with h | h
        · exact n2 h
        · omega
    · rintro M M1 s A B ⟨c, hi, hl, hk, n1, n2⟩ hg' hm
      have l1 := (Array.getElem?_eq_some_iff.1 hl).1
      have l2 := (Array.getElem?_eq_some_iff.1 hk).1
      refine ⟨c, hIx c _ _ _ _ _ hi (hg'.mono fun k h => .inl h) (fun k h => ?_), (hg'.block _ l1 n2).trans hl, (hg'.block _ l2 n1).trans hk, fun h => ?_, fun h => ?_⟩
      · rcases h with h | h
        · rcases hm k h with h | h
          · exact .inl (.inl h)
          · exact .inr h
        · exact .inl (.inr h)
      · rcases hm _ h with h | h
        · exact n1 h
        · omega
      · rcases hm _ h with h | h
        · exact n2 h
        · omega
    · rintro M M1 pre x A W ⟨hi, hlA, hkA, n1, n2⟩ hgr hm hsub hx hlen
      have l1 := (Array.getElem?_eq_some_iff.1 hlA).1
      have l2 := (Array.getElem?_eq_some_iff.1 hkA).1
      have hl := (hgr.block _ l1 n2).trans hlA
      have hk := (hgr.block _ l2 n1).trans hkA
      have m1 : ¬ M1 w.heap.size := fun h => by rcases hm _ h with h | h; exact n1 h; omega
      have m2 : ¬ M1 (w.heap.size + 1) := fun h => by rcases hm _ h with h | h; exact n2 h; omega
      have hlt : w.heap.size + 1 < W.heap.size := (Array.getElem?_eq_some_iff.1 hl).1
      have hy := run_yield (P := P) (args := encs x) hl (by rw [hrec]; exact hps x)
      rw [hrec] at hy
      refine ⟨fn, _, assign, body, hy, roundIn_of_wpIn hfn (hassign _ x W _ ⟨_, run_beginRound hl (by rw [hrec]), ?_⟩)⟩
      have hl2 : (W.putObj (w.heap.size + 1) (.loop { rec .ready none with state := .busy })).heap[w.heap.size + 1]? = some (.loop { rec .ready none with state := .busy }) := World.putObj_heap_same hlt
      have hk2 : (W.putObj (w.heap.size + 1) (.loop { rec .ready none with state := .busy })).heap[w.heap.size]? = some (.deferred (some [])) := (World.putObj_heap_other (by omega)).trans hk
      have hgp : Grow (With w.heap.size M) A (W.putObj (w.heap.size + 1) (.loop { rec .ready none with state := .busy })) := (hgr.mono fun k h => .inl h).trans (Grow.put (M := With w.heap.size M) _ (.inr (.inr rfl))) (fun k h => .inl h)
      have hmp : More (With w.heap.size M) A (W.putObj (w.heap.size + 1) (.loop { rec .ready none with state := .busy })) (With w.heap.size M1) := fun k h => by
        rcases h with h | h
        · rcases hm k h with h | h
          · exact .inl (.inl h)
          · exact .inr ⟨h.1, Nat.lt_of_lt_of_le h.2 (grownBy_putObj' W _ _).size⟩
        · exact .inl (.inr h)
      have hxp : Hd A (With w.heap.size M1) x (W.putObj (w.heap.size + 1) (.loop { rec .ready none with state := .busy })) := hHd _ _ _ _ _ _ hx
        (fun k h => by rcases h with h | h; exact .inl h; exact .inr (by omega))
        (fun k cs t z hkk hcs => (World.putObj_heap_other (fun e => by subst e; rw [hl] at hcs; cases hcs)).trans hcs)
      refine wpIn_mono (hbody _ (With w.heap.size M) (With w.heap.size M1) pre x A _ hi hgp hmp (fun k h => by rcases h with h | h; exact .inl (hsub k h); exact .inr h) (.inr (.inl rfl)) (.inr (.inr rfl)) (by omega) hxp hlen rfl ⟨_, hl2⟩) ?_
      have fin : ∀ (jump : Option Code) (W3 : World), KeptD (fun k => With w.heap.size M1 k ∨ Rd k) (W.putObj (w.heap.size + 1) (.loop { rec .ready none with state := .busy })) W3 →
          (Instr.endRound (w.heap.size + 1) jump).run P W3 = .ok (.bool jump.isNone) (W3.putObj (w.heap.size + 1) (.loop (rec (if jump.isNone then .ready else .done) jump))) ∧
          W3.heap[w.heap.size + 1]? = some (.loop { rec .ready none with state := .busy }) ∧
          (W3.putObj (w.heap.size + 1) (.loop (rec (if jump.isNone then .ready else .done) jump))).heap[w.heap.size + 1]? = some (.loop (rec (if jump.isNone then .ready else .done) jump)) ∧
          (W3.putObj (w.heap.size + 1) (.loop (rec (if jump.isNone then .ready else .done) jump))).heap[w.heap.size]? = some (.deferred (some [])) := fun jump W3 hk3 => by
        have hl3 := hk3.2 _ _ (.inl (.inr (.inr rfl))) hl2
        have := run_endRound (P := P) jump hl3
        rw [hrec] at this ⊢
        exact ⟨this, by rw [hrec] at hl3; exact hl3, World.putObj_heap_same (Array.getElem?_eq_some_iff.1 hl3).1, (World.putObj_heap_other (by omega)).trans (hk3.2 _ _ (.inl (.inr (.inl rfl))) hk2)⟩
      have left : ∀ (c : Code) (W3 : World), KeptD (fun k => With w.heap.size M1 k ∨ Rd k) (W.putObj (w.heap.size + 1) (.loop { rec .ready none with state := .busy })) W3 → Ix c (With w.heap.size M1) (pre ++ [x]) W3 → _ := fun c W3 hk3 hi3 => by
        obtain ⟨hr, hl3, hl4, hk4⟩ := fin (some c) W3 hk3
        have mr : ¬ (M1 (w.heap.size + 1) ∨ Rd (w.heap.size + 1)) := fun h => h.elim m2 (fun h => by have := hRlt _ h; omega)
        exact (⟨_, _, hr, .inr ⟨rfl, ⟨c, hIx c _ _ _ _ _ hi3 (Grow.put _ (.inr (.inr rfl))) (More.refl _ _ _), hl4, hk4, m1, m2⟩, ((KeptD.of_grownBy (grownBy_putObj' W _ _) (fun r e => by cases e; exact mr)).trans (hk3.mono fun k h => h.elim (fun h => .inl (.inl h)) .inr)).trans (KeptD.of_grownBy (grownBy_putObj' W3 _ _) (fun r e => by cases e; exact mr))⟩⟩ : ∃ v W4, (Instr.endRound (w.heap.size + 1) (some c)).run P W3 = .ok v W4 ∧ ((Ending.returned v = .returned (.bool true) ∧ (I (With w.heap.size M1) (pre ++ [x]) W4 ∧ W4.heap[w.heap.size + 1]? = some (.loop (rec .ready none)) ∧ W4.heap[w.heap.size]? = some (.deferred (some [])) ∧ ¬ M1 w.heap.size ∧ ¬ M1 (w.heap.size + 1)) ∧ KeptD (fun k => M1 k ∨ Rd k) W W4) ∨ (Ending.returned v = .returned (.bool false) ∧ (∃ c, Ix c (With w.heap.size M1) (pre ++ [x]) W4 ∧ W4.heap[w.heap.size + 1]? = some (.loop (rec .done (some c))) ∧ W4.heap[w.heap.size]? = some (.deferred (some [])) ∧ ¬ M1 w.heap.size ∧ ¬ M1 (w.heap.size + 1)) ∧ KeptD (fun k => M1 k ∨ Rd k) W W4)))
      rintro e a3 W3 hp
      cases e with
      | normal =>
        obtain ⟨hk3, hi3⟩ := hp
        obtain ⟨hr, hl3, hl4, hk4⟩ := fin none W3 hk3
        refine ⟨_, _, hr, .inl ⟨rfl, ⟨hI _ _ _ _ _ hi3 (Grow.put _ (.inr (.inr rfl))) (More.refl _ _ _), hl4, hk4, m1, m2⟩, ?_⟩⟩
        have mr : ¬ (M1 (w.heap.size + 1) ∨ Rd (w.heap.size + 1)) := fun h => h.elim m2 (fun h => by have := hRlt _ h; omega)
        refine ((KeptD.of_grownBy (grownBy_putObj' W _ _) (fun r e => by cases e; exact mr)).trans (hk3.mono fun k h => h.elim (fun h => .inl (.inl h)) .inr)).trans (KeptD.of_grownBy (grownBy_putObj' W3 _ _) (fun r e => by cases e; exact mr))
      | ret => exact left .ret W3 hp.1 hp.2
      | exit id => exact left (.exit id) W3 hp.1 hp.2
      | goto t => exact left (.goto t) W3 hp.1 hp.2
      | panic ch => exact hp.elim
      | outgrown => exact hp.elim
    · rintro e W2 ⟨⟨v, rfl⟩, M, (⟨xs, hS, hi, hl, hk, n1, n2⟩ | ⟨pre, hSp, c, hi, hl, hk, n1, n2⟩)⟩
      · exact ⟨none, _, by have := run_endLoop (P := P) hl (by rw [hrec]; simp); rw [hrec] at this; exact this, hdone _ xs _ (.inr (.inl rfl)) hS (hI _ _ _ _ _ hi (Grow.put _ (.inr (.inr rfl))) (More.refl _ _ _)) ((World.putObj_heap_other (by omega)).trans hk)⟩
      · exact ⟨some c, _, by have := run_endLoop (P := P) hl (by rw [hrec]; simp); rw [hrec] at this; exact this, hstop _ c pre _ (.inr (.inl rfl)) hSp (hIx c _ _ _ _ _ hi (Grow.put _ (.inr (.inr rfl))) (More.refl _ _ _)) ((World.putObj_heap_other (by omega)).trans hk)⟩
/-- a record's block beside M -/
def With1 (B : Nat) (M : Nat → Prop) (k : Nat) : Prop := M k ∨ k = B
theorem wpIn_range_ownN {α : Type} {g : Operand} {ps : Array Tmp} {assign body : Code} {Q : Exit → Act → World → Prop} {a : Act} {w : World}
    (h1 : 1 ≤ n) {gf : Nat} {lb : Array Value} {l₀ : Nat} {r₀ : Loop} (hro : F.round = some l₀) (hr0 : w.heap[l₀]? = some (.loop r₀)) (hg : a.eval g = .func (.func gf) #[] lb) (hFg : F.fn gf) (eg : ∀ args w, (callFunc gf args).run P w = .ok (.enter gf args) w)
    {encs : α → Array Value} {Hd : World → (Nat → Prop) → α → World → Prop} {Rd : Nat → Prop} {S Sp : List α → Prop} {N : Nat} {w0 : World} (hseq : SeqD F (n - 1) P gf lb encs Hd Rd S Sp N w0)
    (hHd : ∀ A M M' x W W', Hd A M x W → (∀ k, M' k → M k ∨ k < A.heap.size) → (∀ k cs t z, A.heap.size ≤ k → W.heap[k]? = some (.cells cs t z) → W'.heap[k]? = some (.cells cs t z)) → Hd A M' x W')
    (hRd : ∀ k, Rd k → k < w0.heap.size) (hb0 : Below w0.heap.size w0 w) (hps : ∀ x, (encs x).size = ps.size)
    (I : (Nat → Prop) → List α → World → Prop) (Ix : Code → (Nat → Prop) → List α → World → Prop) (hI : OwnD I) (hIx : ∀ c, OwnD (Ix c)) (h0 : I (fun _ => False) [] w) (a₁ : α → Act)
    (hassign : ∀ (l : Nat) (x : α) (W : World) (K : Act → World → Prop), K (a₁ x) W →
      assign.wpIn (F.inRound l) (n - 1 - 1) P (Exit.then K (fun _ _ _ => False)) { tmps := (ps.zip (encs x)).foldl (fun t (p, v) => t.setIfInBounds p v) a.tmps, defers := [] } W)
    (hbody : ∀ (l : Nat) (M M1 : Nat → Prop) (pre : List α) (x : α) (A W : World), I M pre A → Grow M A W → More M A W M1 → (∀ k, M k → M1 k) → M w.heap.size → w.heap.size + 1 ≤ A.heap.size → Hd A M1 x W → pre.length < N → body.wpIn (F.inRound l) (n - 1 - 1) P (ownPostD Rd M1 I Ix (pre ++ [x]) W) (a₁ x) W)
    (hdone : ∀ (M : Nat → Prop) (xs : List α) (W : World), M w.heap.size → S xs → I M xs W → Q .normal a W)
    (hstop : ∀ (M : Nat → Prop) (c : Code) (pre : List α) (W : World), M w.heap.size → Sp pre → Ix c M pre W → c.wpIn F n P Q a W) :
    (Code.rangeFunc g ps assign body).wpIn F n P Q a w := by
  refine wpIn_rangeFunc ?_
  intro fn hfn
  rw [hro]
  obtain ⟨rec, hrec⟩ : ∃ rec : LoopState → Option Code → Loop, rec = fun st pe => { state := st, pending := pe, fn, tmps := a.tmps, params := ps, assign, body, defers := r₀.defers } := ⟨_, rfl⟩
  obtain ⟨W1, hW1⟩ : ∃ W1, w.alloc (.loop (rec .ready none)) = W1 := ⟨_, rfl⟩
  have hz1 : W1.heap.size = w.heap.size + 1 := by rw [← hW1]; simp
  have hL1 : W1.heap[w.heap.size]? = some (.loop (rec .ready none)) := by
    rw [← hW1]
    exact World.alloc_heap_new w _
  have hG1 : Below w.heap.size w W1 := by rw [← hW1]; exact (Below.refl _ w).alloc (Nat.le_refl _) _
  have hb1 : Below w0.heap.size w0 W1 := hb0.trans (hG1.mono hb0.size)
  have hRlt : ∀ k, Rd k → k < w.heap.size := fun k hk => Nat.lt_of_lt_of_le (hRd k hk) hb0.size
  have hI1 : I (With1 w.heap.size (fun _ => False)) [] W1 := hI _ _ _ _ _ h0 (Grow.of_below hG1) (fun k hk => by rcases hk with h | h; exact .inl h; exact .inr (by omega))
  refine ⟨w.heap.size, [], W1, { target := .fn (.func gf) lb, args := #[.func (.yield w.heap.size) #[] #[]] }, W1, gf,
    #[.func (.yield w.heap.size) #[] #[]] ++ lb, W1, ?_, ?_, ?_, ?_, fun _ => h1, ?_⟩
  · rw [← hW1, hrec]; exact run_enterLoop_inner hr0 _ _ _ _ _
  · simp only [resolve, hg]
    simp [go_sem]
  · intro f' hf'
    simp [Target.leads] at hf'
    subst hf'
    exact hFg
  · simp [invoke, go_sem, eg]
  · refine (hseq w.heap.size
      (fun M pre W => I (With1 w.heap.size M) pre W ∧ W.heap[w.heap.size]? = some (.loop (rec .ready none)) ∧ ¬ M w.heap.size)
      (fun M pre W => ∃ c, Ix c (With1 w.heap.size M) pre W ∧ W.heap[w.heap.size]? = some (.loop (rec .done (some c))) ∧ ¬ M w.heap.size)
      W1 hb1 ?_ ?_ ?_ ⟨hI1, hL1, fun h => h⟩).mono ?_
    · rintro M M1 s A B ⟨hi, hl, n1⟩ hg' hm
      have l1 := (Array.getElem?_eq_some_iff.1 hl).1
      refine ⟨hI _ _ _ _ _ hi (hg'.mono fun k h => .inl h) (fun k h => ?_), (hg'.block _ l1 n1).trans hl, fun h => ?_⟩
      · rcases h with h | h
        · rcases hm k h with h | h
          · exact .inl (.inl h)
          · exact .inr h
        · exact .inl (.inr h)
      · rcases hm _ h with h | h
        · exact n1 h
        · omega
    · rintro M M1 s A B ⟨c, hi, hl, n1⟩ hg' hm
      have l1 := (Array.getElem?_eq_some_iff.1 hl).1
      refine ⟨c, hIx c _ _ _ _ _ hi (hg'.mono fun k h => .inl h) (fun k h => ?_), (hg'.block _ l1 n1).trans hl, fun h => ?_⟩
      · rcases h with h | h
        · rcases hm k h with h | h
          · exact .inl (.inl h)
          · exact .inr h
        · exact .inl (.inr h)
      · rcases hm _ h with h | h
        · exact n1 h
        · omega
    · rintro M M1 pre x A W ⟨hi, hlA, n1⟩ hgr hm hsub hx hlen
      have l1 := (Array.getElem?_eq_some_iff.1 hlA).1
      have hl := (hgr.block _ l1 n1).trans hlA
      have m1 : ¬ M1 w.heap.size := fun h => by rcases hm _ h with h | h; exact n1 h; omega
      have hlt : w.heap.size < W.heap.size := (Array.getElem?_eq_some_iff.1 hl).1
      have hy := run_yield (P := P) (args := encs x) hl (by rw [hrec]; exact hps x)
      rw [hrec] at hy
      refine ⟨fn, _, assign, body, hy, roundIn_of_wpIn hfn (hassign _ x W _ ⟨_, run_beginRound hl (by rw [hrec]), ?_⟩)⟩
      have hl2 : (W.putObj w.heap.size (.loop { rec .ready none with state := .busy })).heap[w.heap.size]? = some (.loop { rec .ready none with state := .busy }) := World.putObj_heap_same hlt
      have hgp : Grow (With1 w.heap.size M) A (W.putObj w.heap.size (.loop { rec .ready none with state := .busy })) := (hgr.mono fun k h => .inl h).trans (Grow.put (M := With1 w.heap.size M) _ (.inr rfl)) (fun k h => .inl h)
      have hmp : More (With1 w.heap.size M) A (W.putObj w.heap.size (.loop { rec .ready none with state := .busy })) (With1 w.heap.size M1) := fun k h => by
        rcases h with h | h
        · rcases hm k h with h | h
          · exact .inl (.inl h)
          · exact .inr ⟨h.1, Nat.lt_of_lt_of_le h.2 (grownBy_putObj' W _ _).size⟩
        · exact .inl (.inr h)
      have hxp : Hd A (With1 w.heap.size M1) x (W.putObj w.heap.size (.loop { rec .ready none with state := .busy })) := hHd _ _ _ _ _ _ hx
        (fun k h => by rcases h with h | h; exact .inl h; exact .inr (by omega))
        (fun k cs t z hkk hcs => (World.putObj_heap_other (fun e => by subst e; rw [hl] at hcs; cases hcs)).trans hcs)
      refine wpIn_mono (hbody _ (With1 w.heap.size M) (With1 w.heap.size M1) pre x A _ hi hgp hmp (fun k h => by rcases h with h | h; exact .inl (hsub k h); exact .inr h) (.inr rfl) (by omega) hxp hlen) ?_
      have fin : ∀ (jump : Option Code) (W3 : World), KeptD (fun k => With1 w.heap.size M1 k ∨ Rd k) (W.putObj w.heap.size (.loop { rec .ready none with state := .busy })) W3 →
          (Instr.endRound w.heap.size jump).run P W3 = .ok (.bool jump.isNone) (W3.putObj w.heap.size (.loop (rec (if jump.isNone then .ready else .done) jump))) ∧
          W3.heap[w.heap.size]? = some (.loop { rec .ready none with state := .busy }) ∧
          (W3.putObj w.heap.size (.loop (rec (if jump.isNone then .ready else .done) jump))).heap[w.heap.size]? = some (.loop (rec (if jump.isNone then .ready else .done) jump)) := fun jump W3 hk3 => by
        have hl3 := hk3.2 _ _ (.inl (.inr rfl)) hl2
        have := run_endRound (P := P) jump hl3
        rw [hrec] at this ⊢
        exact ⟨this, by rw [hrec] at hl3; exact hl3, World.putObj_heap_same (Array.getElem?_eq_some_iff.1 hl3).1⟩
      have mr : ¬ (M1 w.heap.size ∨ Rd w.heap.size) := fun h => h.elim m1 (fun h => by have := hRlt _ h; omega)
      have left : ∀ (c : Code) (W3 : World), KeptD (fun k => With1 w.heap.size M1 k ∨ Rd k) (W.putObj w.heap.size (.loop { rec .ready none with state := .busy })) W3 → Ix c (With1 w.heap.size M1) (pre ++ [x]) W3 → _ := fun c W3 hk3 hi3 => by
        obtain ⟨hr, hl3, hl4⟩ := fin (some c) W3 hk3
        exact (⟨_, _, hr, .inr ⟨rfl, ⟨c, hIx c _ _ _ _ _ hi3 (Grow.put _ (.inr rfl)) (More.refl _ _ _), hl4, m1⟩, ((KeptD.of_grownBy (grownBy_putObj' W _ _) (fun r e => by cases e; exact mr)).trans (hk3.mono fun k h => h.elim (fun h => .inl (.inl h)) .inr)).trans (KeptD.of_grownBy (grownBy_putObj' W3 _ _) (fun r e => by cases e; exact mr))⟩⟩ : ∃ v W4, (Instr.endRound w.heap.size (some c)).run P W3 = .ok v W4 ∧ ((Ending.returned v = .returned (.bool true) ∧ (I (With1 w.heap.size M1) (pre ++ [x]) W4 ∧ W4.heap[w.heap.size]? = some (.loop (rec .ready none)) ∧ ¬ M1 w.heap.size) ∧ KeptD (fun k => M1 k ∨ Rd k) W W4) ∨ (Ending.returned v = .returned (.bool false) ∧ (∃ c, Ix c (With1 w.heap.size M1) (pre ++ [x]) W4 ∧ W4.heap[w.heap.size]? = some (.loop (rec .done (some c))) ∧ ¬ M1 w.heap.size) ∧ KeptD (fun k => M1 k ∨ Rd k) W W4)))
      rintro e a3 W3 hp
      cases e with
      | normal =>
        obtain ⟨hk3, hi3⟩ := hp
        obtain ⟨hr, hl3, hl4⟩ := fin none W3 hk3
        refine ⟨_, _, hr, .inl ⟨rfl, ⟨hI _ _ _ _ _ hi3 (Grow.put _ (.inr rfl)) (More.refl _ _ _), hl4, m1⟩, ?_⟩⟩
        refine ((KeptD.of_grownBy (grownBy_putObj' W _ _) (fun r e => by cases e; exact mr)).trans (hk3.mono fun k h => h.elim (fun h => .inl (.inl h)) .inr)).trans (KeptD.of_grownBy (grownBy_putObj' W3 _ _) (fun r e => by cases e; exact mr))
      | ret => exact left .ret W3 hp.1 hp.2
      | exit id => exact left (.exit id) W3 hp.1 hp.2
      | goto t => exact left (.goto t) W3 hp.1 hp.2
      | panic ch => exact hp.elim
      | outgrown => exact hp.elim
    · rintro e W2 ⟨⟨v, rfl⟩, M, (⟨xs, hS, hi, hl, n1⟩ | ⟨pre, hSp, c, hi, hl, n1⟩)⟩
      · exact ⟨none, _, by have := run_endLoop (P := P) hl (by rw [hrec]; simp); rw [hrec] at this; exact this, hdone _ xs _ (.inr rfl) hS (hI _ _ _ _ _ hi (Grow.put _ (.inr rfl)) (More.refl _ _ _))⟩
      · exact ⟨some c, _, by have := run_endLoop (P := P) hl (by rw [hrec]; simp); rw [hrec] at this; exact this, hstop _ c pre _ (.inr rfl) hSp (hIx c _ _ _ _ _ hi (Grow.put _ (.inr rfl)) (More.refl _ _ _))⟩
end Go.Proofs.YtggnnnddnppcpaaOwn
/-! text YtggnnnddnppcpaaKmBase -/
namespace Go.Proofs.YtggnnnddnppcpaaHand
open Go.RowKit Go.Sort Go.Lib Go.Shelf Go.Proofs.YtggnnnddnppcpaaW.PrintWords Go.Proofs.YtggnnnddnppcpaaW.PrintLast Go.Proofs.YtggnnnddnppcpaaMath Go.Proofs.YtggnnnddnppcpaaOwn Go.Proofs.Ytggnnnddnppcpaa.PCnfKeepsModels
attribute [local go_sem] Oper.semAt_some
set_option linter.unusedVariables false
set_option linter.unusedSimpArgs false
abbrev rI (v : Value) (l : List Int) : Asr := .row (Kd.int .i64) 3 v l
abbrev rB (v : Value) (l : List Bool) : Asr := .row Kd.bool 4 v l
/-- the variable a: a formula, another, a list, a model -/
abbrev aB (b : Nat) (v1 : Int) (u1 : Value) (v2 : Int) (u2 u3 u4 : Value) : Asr := .blk b (.cells #[.int .i64 v1, u1, .int .i64 v2, u2, u3, u4] 61 (0, 0))
def wantM (v : Int) (cs : List (List Int)) : List (List Bool) := if (isFormula v cs && decide (v ≤ 16)) = true then modelsIn v.toNat cs else []
theorem wantM_len (v : Int) (cs : List (List Int)) : (wantM v cs).length ≤ 65536 ∧ ∀ a ∈ wantM v cs, a.length ≤ 16 := by
  unfold wantM
  split
  · rename_i h
    rw [Bool.and_eq_true, decide_eq_true_eq] at h
    have h0 := isFormula_bd h.1
    have h2 : 2 ^ v.toNat ≤ 65536 := Nat.pow_le_pow_right (n := 2) (by omega) (show v.toNat ≤ 16 by omega)
    exact ⟨Nat.le_trans (modelsTo_length v.toNat cs (2 ^ v.toNat)) h2, fun a ha => by have := modelsTo_mem ha; omega⟩
  · simp
section
variable {n : Nat} {l : List (List Int)} (hb : l.length ≤ 1048576 ∧ ∀ x ∈ l, x.length ≤ 1099511627776) (v : Int) (A : Option Addr) (c : Nat) (w : World) (hr : Kd.C kC w A n l) (hc : n ≤ c) (hn : n = l.length)
include hb hr hc hn
theorem formed_n : Calls Try.prog 16 #[.agg #[.int .i64 v, .slice A n c]] w fun e w' => e = .returned (.bool (isFormula v l)) ∧ Below w.heap.size w w' := by
  subst hn
  exact isFormula_calls v A c l w hr hc (by omega) fun x hx => by have := hb.2 x hx; omega
theorem size_n : Calls Try.prog 18 #[.agg #[.int .i64 v, .slice A n c]] w fun e w' => (∃ i : Int, e = .returned (.int .i64 i)) ∧ Below w.heap.size w w' := by
  subst hn
  obtain ⟨k, hk⟩ := (cnf_Size_ev v l (by omega)).rounds
  refine (cnf_Size.calls k v A c l _ w hr hc hk).mono ?_
  rintro e w' ⟨rfl, hd⟩
  exact ⟨⟨_, rfl⟩, hd⟩
theorem count_n : Calls Try.prog 40 #[.agg #[.int .i64 v, .slice A n c]] w fun e w' => (∃ i j : Int, e = .returned (.tuple #[.int .i64 i, .int .i64 j])) ∧ Below w.heap.size w w' := by
  subst hn
  refine (count_calls v A c l w hr hc (by omega) fun x hx => by have := hb.2 x hx; omega).mono ?_
  rintro e w' ⟨rfl, hd⟩
  exact ⟨⟨_, _, rfl⟩, hd⟩
theorem entails_n {part : List Int} (A2 : Option Addr) (c2 : Nat) (hr2 : Kd.C (Kd.int .i64) w A2 part.length part) (hc2 : part.length ≤ c2) (hp : part.length ≤ 1099511627776) :
    Calls Try.prog 44 #[.agg #[.int .i64 v, .slice A n c], .slice A2 part.length c2] w fun e w' => (∃ (i : Bool) (j : Int), e = .returned (.tuple #[.bool i, .int .i64 j])) ∧ Below w.heap.size w w' := by
  subst hn
  refine (entails_calls v A A2 c c2 l part w hr hc hr2 hc2 (by omega) (fun x hx => by have := hb.2 x hx; omega) (by omega)).mono ?_
  rintro e w' ⟨rfl, hd⟩
  exact ⟨⟨_, _, rfl⟩, hd⟩
theorem sat_n {m : List Bool} (A2 : Option Addr) (c2 : Nat) (hr2 : Kd.C Kd.bool w A2 m.length m) (hc2 : m.length ≤ c2) :
    Calls Try.prog 30 #[.agg #[.int .i64 v, .slice A n c], .slice A2 m.length c2] w fun e w' => (∃ i : Bool, e = .returned (.bool i)) ∧ Below w.heap.size w w' := by
  subst hn
  obtain ⟨k, hk⟩ := (cnf_Satisfies_ev v l m (by omega) fun x hx => by have := hb.2 x hx; omega).rounds
  refine (cnf_Satisfies.calls k v A c l A2 c2 m _ w hr hc hr2 hc2 hk).mono ?_
  rintro e w' ⟨rfl, hd⟩
  exact ⟨⟨_, rfl⟩, hd⟩
theorem false_n {m : List Bool} {fl : List Int} (hF : falses v l m = fl) (A2 : Option Addr) (c2 : Nat) (hr2 : Kd.C Kd.bool w A2 m.length m) (hc2 : m.length ≤ c2) :
    Calls Try.prog 31 #[.agg #[.int .i64 v, .slice A n c], .slice A2 m.length c2] w fun e w' => ∃ (A' : Option Addr) (c' : Nat), e = .returned (.slice A' fl.length c') ∧ (rI (.slice A' fl.length c') fl).P w' (fun b => w.heap.size ≤ b) ∧ Below w.heap.size w w' := by
  subst hn
  obtain ⟨k, hk⟩ := (cnf_False_ev v l m (by omega) fun x hx => by have := hb.2 x hx; omega).rounds
  rw [hF] at hk
  refine (cnf_False.calls k v A c l A2 c2 m _ w hr hc hr2 hc2 hk).mono ?_
  rintro e w' ⟨u, rfl, hR, hd⟩
  obtain ⟨A', c', rfl⟩ := Kd.R_slice hR
  exact ⟨A', c', rfl, row_of hR, hd⟩
theorem refFalse_n {m : List Bool} {fl : List Int} (hF : falses v l m = fl) (A2 : Option Addr) (c2 : Nat) (hr2 : Kd.C Kd.bool w A2 m.length m) (hc2 : m.length ≤ c2) :
    Calls Try.prog 34 #[.agg #[.int .i64 v, .slice A n c], .slice A2 m.length c2] w fun e w' => ∃ (A' : Option Addr) (c' : Nat), e = .returned (.slice A' fl.length c') ∧ (rI (.slice A' fl.length c') fl).P w' (fun b => w.heap.size ≤ b) ∧ Below w.heap.size w w' := by
  subst hn
  obtain ⟨k, hk⟩ := (depotref02_False_ev v l m (by omega) fun x hx => by have := hb.2 x hx; omega).rounds
  rw [hF] at hk
  refine (depotref02_False.calls k v A c l A2 c2 m _ w hr hc hr2 hc2 hk).mono ?_
  rintro e w' ⟨u, rfl, hR, hd⟩
  obtain ⟨A', c', rfl⟩ := Kd.R_slice hR
  exact ⟨A', c', rfl, row_of hR, hd⟩
theorem refModels_n {ML : List (List Bool)} (hM : wantM v l = ML) : Calls Try.prog 35 #[.agg #[.int .i64 v, .slice A n c]] w fun e w' => ∃ (A' : Option Addr) (c' : Nat), e = .returned (.slice A' ML.length c') ∧
      (Asr.rows (Kd.slice 4 Kd.bool) 41 (.slice A' ML.length c') ML).P w' (fun b => w.heap.size ≤ b) ∧ Below w.heap.size w w' := by
  subst hn
  obtain ⟨k, h⟩ := (depotref02_Models_ev v l (by omega) fun x hx => by have := hb.2 x hx; omega).rounds
  have h2 : depotref02_Models.f k v l = some (wantM v l) := h
  rw [hM] at h2
  refine (depotref02_Models.calls k v A c l _ w hr hc h2).mono ?_
  rintro e w' ⟨u, rfl, hS, hB⟩
  obtain ⟨Aw, cw, rfl⟩ := Kd.S_slice hS
  exact ⟨Aw, cw, rfl, rows_of hS, hB⟩
end
theorem sameInts_n {l : List Int} (A1 A2 : Option Addr) (c1 c2 : Nat) (w : World) (hr1 : Kd.C (Kd.int .i64) w A1 l.length l) (hc1 : l.length ≤ c1) (hr2 : Kd.C (Kd.int .i64) w A2 l.length l) (hc2 : l.length ≤ c2) (hl : l.length ≤ 17592186044416) :
    Calls Try.prog 33 #[.slice A1 l.length c1, .slice A2 l.length c2] w fun e w' => e = .returned (.bool true) ∧ Below w.heap.size w w' := by
  obtain ⟨k, hk⟩ := (depotref00_SameInts_ev l l hl).rounds
  refine (depotref00_SameInts.calls k A1 c1 l A2 c2 l true w hr1 hc1 hr2 hc2 (by rw [hk]; simp)).mono ?_
  rintro e w' ⟨rfl, hd⟩
  exact ⟨rfl, hd.below⟩
/-- a list of truths that is lent -/
theorem lentB1_n (A : Option Addr) (c : Nat) (l : List Bool) (w : World) (hr : Kd.C Kd.bool w A l.length l) (hc : l.length ≤ c) (hn : l.length ≤ 1099511627776) :
    Calls Try.prog 47 #[.slice A l.length c] w fun e w' => ∃ (A' : Option Addr) (n c' : Nat), e = .returned (.slice A' n c') ∧ (l.length : Int) ≤ (c' : Int) ∧ (rB (.slice A' n c') (lentB l)).P w' (fun b => w.heap.size ≤ b) ∧ Below w.heap.size w w' := by
  obtain ⟨k, h⟩ := (depotkit_LentBools_ev l (by omega)).rounds
  refine (depotkit_LentBools.calls k A c l _ w hr hc h).mono ?_
  rintro e w' ⟨v, rfl, hR, hB⟩
  obtain ⟨A', c', rfl⟩ := Kd.R_slice hR
  have h1 := (Kd.R_reads' hR).2.1
  rw [lentB_length] at h1
  exact ⟨A', _, c', rfl, by omega, row_of hR, hB⟩
theorem lentB_take' (l : List Bool) : (lentB l).take l.length = l := List.take_left
theorem model_C {w W : World} {X : Nat → Prop} {L : List Asr} {A : Option Addr} {n c : Nat} {l : List Bool} (h : Sep w X L W) (i : Nat) (hi : L[i]? = some (rB (.slice A n c) (lentB l))) : Kd.C Kd.bool W A l.length l ∧ l.length ≤ c := by
  have h2 := Kd.R_reads' (h.get i hi)
  have h3 := Kd.C_take h2.2.2 (m := l.length) (by rw [lentB_length]; omega)
  rw [lentB_take'] at h3
  refine ⟨h3, ?_⟩
  have h4 := h2.1
  rw [lentB_length] at h4
  have := h2.2.1
  omega
theorem keptB1_n {w W : World} {X : Nat → Prop} {L : List Asr} {A B : Option Addr} {n c d : Nat} {l : List Bool} (h : Sep w X L W) (i : Nat) (hi : L[i]? = some (rB (.slice A n c) (lentB l))) (hs : Kd.C Kd.bool W B l.length l) (hd : l.length ≤ d) (hn : l.length ≤ 1099511627776) :
    Calls Try.prog 49 #[.slice A n c, .slice B l.length d] W fun e w' => e = .returned (.bool true) ∧ Below W.heap.size W w' := by
  obtain ⟨h1, h2, h3⟩ := Kd.R_reads' (h.get i hi)
  obtain ⟨k, hk⟩ := (depotkit_KeptBools_ev l (by omega)).rounds
  subst h1
  refine (depotkit_KeptBools.calls k A c (lentB l) B d l _ W h3 h2 hs hd hk).mono ?_
  rintro e w' ⟨rfl, hd⟩
  exact ⟨rfl, hd.below⟩
theorem R_raiseB {w : World} {base : Nat} {e : Nat} {v : Value} {xs : List Bool} {ok : Nat → Prop} (h : Kd.R Kd.bool e w 0 ok v xs) (hb : ∀ k, ok k → base ≤ k) : Kd.R Kd.bool e w base ok v xs := by
  obtain ⟨h0, inner, ho, hr⟩ := h
  exact ⟨h0, inner, own_raiseD ho fun k hk => hb k (h0 k hk), hr⟩
theorem overB1_n {w0 w : World} {X : Nat → Prop} {l : List Asr} {v : Value} {xs : List Bool} (h : Sep w0 X l w) (i : Nat) (hi : l[i]? = some (rB v xs)) (hX : ∀ b, X b → b < w.heap.size) (hn : xs.length < 140737488355328) :
    Calls Try.prog 50 #[v] w fun e w' => e = .returned (.tuple #[]) ∧ Sep w0 X (l.set i .emp) w' := by
  obtain ⟨r, hr, hev⟩ := depotkit_OverBools_ev xs hn
  obtain ⟨k, hk⟩ := hev.rounds
  have hR := Kd.R_tight rfl (R_raiseB (base := w0.heap.size) (h.get i hi) (fun k hk => hk.1))
  refine (depotkit_OverBools.calls k (fun k => some k = v.ownBlock) v xs r w0 w h.hB hR hk).mono ?_
  rintro e w' ⟨rfl, hR', hB', hK⟩
  exact ⟨rfl, h.upd i hi (M := fun k => some k = v.ownBlock) ⟨hB'.os.trans h.hB.os.symm, hB'.tape.trans h.hB.tape.symm, hB'.output.trans h.hB.output.symm, hK.1, fun k h1 h2 => hK.2 k h1 h2⟩ hX (fun ok hA k hk _ => hA.1 k hk.symm) fun ok hA hnew => trivial⟩
theorem sameBools_n {l : List Bool} (A1 A2 : Option Addr) (c1 c2 : Nat) (w : World) (hr1 : Kd.C Kd.bool w A1 l.length l) (hc1 : l.length ≤ c1) (hr2 : Kd.C Kd.bool w A2 l.length l) (hc2 : l.length ≤ c2) (hl : l.length ≤ 140737488355328) :
    Calls Try.prog 38 #[.slice A1 l.length c1, .slice A2 l.length c2] w fun e w' => e = .returned (.bool true) ∧ Below w.heap.size w w' := by
  obtain ⟨k, hk⟩ := (depotref00_SameBools_ev l l hl).rounds
  refine (depotref00_SameBools.calls k A1 c1 l A2 c2 l true w hr1 hc1 hr2 hc2 (by rw [hk]; simp)).mono ?_
  rintro e w' ⟨rfl, hd⟩
  exact ⟨rfl, hd.below⟩
/-- a sequence that gives L, as long as its blocks Rd lie as they lie -/
def SQB (g : Nat) (lb : Array Value) (Rd : Nat → Prop) (v : Nat) (L : List (List Bool)) (W : World) : Prop :=
  (∀ k, Rd k → k < W.heap.size) ∧ ∀ W1 : World, W.heap.size ≤ W1.heap.size → (∀ k, Rd k → W1.heap[k]? = W.heap[k]?) → SeqD Fence.wide 11 Try.prog g lb (fun x : Value × List Bool => #[x.1]) (HandB v) Rd (fun xs => xs.map (·.2) = L) (fun pre => pre.map (·.2) <+: L) 65536 W1
theorem SQB.step {g : Nat} {lb : Array Value} {Rd : Nat → Prop} {v : Nat} {L : List (List Bool)} {W W1 : World} (h : SQB g lb Rd v L W) (hz : W.heap.size ≤ W1.heap.size) (hm : ∀ k, Rd k → W1.heap[k]? = W.heap[k]?) : SQB g lb Rd v L W1 :=
  ⟨fun k hk => Nat.lt_of_lt_of_le (h.1 k hk) hz, fun W2 h2 hm2 => h.2 W2 (Nat.le_trans hz h2) fun k hk => (hm2 k hk).trans (hm k hk)⟩
theorem SQB.now {g : Nat} {lb : Array Value} {Rd : Nat → Prop} {v : Nat} {L : List (List Bool)} {W : World} (h : SQB g lb Rd v L W) : SeqD Fence.wide 11 Try.prog g lb (fun x : Value × List Bool => #[x.1]) (HandB v) Rd (fun xs => xs.map (·.2) = L) (fun pre => pre.map (·.2) <+: L) 65536 W := h.2 W (Nat.le_refl _) fun _ _ => rfl
theorem SQB.none {v : Nat} {W : World} : SQB 71 #[] (fun _ => False) v [] W :=
  ⟨fun _ h => h.elim, fun W1 _ _ => fun l J Jx W2 hW hJ hJx hY h0 => (nothing_own 11 v (fun _ => False) W1 l J Jx W2 hW hJ hJx hY h0).mono fun e w' h => by
    obtain ⟨h1, M, h2⟩ := h
    refine ⟨h1, M, h2.imp id ?_⟩
    rintro ⟨pre, hf, _⟩
    exact hf.elim⟩
/-- the sequence as an assertion -/
def seqB (g : Nat) (lb : Array Value) (Rd : Nat → Prop) (v : Nat) (L : List (List Bool)) : Asr := ⟨fun W ok => SQB g lb Rd v L W ∧ ∀ k, Rd k → ok k, fun {W W1 ok ok'} h hz hk => ⟨h.1.step hz fun k hr => (hk k (h.2 k hr) (h.1.1 k hr)).1, fun k hr => (hk k (h.2 k hr) (h.1.1 k hr)).2⟩⟩
theorem models_n {n : Nat} {l : List (List Int)} {ML : List (List Bool)} (hb : l.length ≤ 1048576 ∧ ∀ x ∈ l, x.length ≤ 1099511627776) (v : Int) (hM : wantM v l = ML) (A : Option Addr) (c : Nat) (w : World) (hr : Kd.C kC w A n l) (hc : n ≤ c) (hn : n = l.length) :
    Calls Try.prog 37 #[.agg #[.int .i64 v, .slice A n c]] w fun e w' => ∃ (g : Nat) (lb : Array Value) (Rd : Nat → Prop) (vn : Nat), e = .returned (.func (.func g) #[] lb) ∧ vn ≤ 16 ∧ (seqB g lb Rd vn ML).P w' (fun k => w.heap.size ≤ k) ∧ (∀ (args : Array Value) (W : World), (callFunc g args).run Try.prog W = .ok (.enter g args) W) ∧ Below w.heap.size w w' := by
  subst hn
  cases hs : (isFormula v l && decide (v ≤ 16)) with
  | false =>
    refine (models_bad v A c l w hr hc (by omega) (fun x hx => by have := hb.2 x hx; omega) hs).mono ?_
    rintro e w' ⟨rfl, hb⟩
    refine ⟨_, _, fun _ => False, 0, rfl, by decide, ⟨?_, fun k h => h.elim⟩, enters_of Try.func71 (by kernel_rfl) rfl, hb⟩
    have e : ML = [] := by rw [← hM]; unfold wantM; rw [hs]; rfl
    rw [e]
    exact SQB.none
  | true =>
    have hs2 := (Bool.and_eq_true _ _).mp hs
    have hv := of_decide_eq_true hs2.2
    have h0 := isFormula_bd hs2.1
    refine (models_good v A c l w hr hc (by omega) (fun x hx => by have := hb.2 x hx; omega) hs2.1 hv).mono ?_
    rintro e w' ⟨Bg, A', cap, rfl, hS, h1, h2, hb2⟩
    have hML : ML = modelsIn v.toNat l := by rw [← hM]; unfold wantM; rw [hs]; rfl
    refine ⟨_, _, fun k => k = Bg ∨ (w.heap.size ≤ k ∧ k < w'.heap.size), v.toNat, rfl, by omega, ⟨⟨?_, fun W1 hz hm => ?_⟩, ?_⟩, enters_of Try.func72 (by kernel_rfl) rfl, hb2⟩
    · rintro k (rfl | h) <;> omega
    · rw [hML]
      exact models_own 11 (by decide) v.toNat l Bg w.heap.size (fun k => w.heap.size ≤ k ∧ k < w'.heap.size) A' cap (by omega) (by rw [Int.toNat_of_nonneg (by omega)]; exact hs2.1) (by omega) (fun x hx => by have := hb.2 x hx; omega) W1
        ⟨(hm Bg (.inl rfl)).trans hS.hg, Kd.S_step hS.hc fun k hk _ => hm k (.inr hk)⟩
    · rintro k (rfl | h)
      · exact h1
      · exact h.1
theorem nil_seqB (g : Nat) (lb : Array Value) (W : World) : (binOp .eql 49 (.func (.func g) #[] lb) .nilFunc).run Try.prog W = .ok (.bool false) W := by kernel_rfl
/-- a walk that never panics -/
def noPanic (Q : Exit → Act → World → Prop) : Exit → Act → World → Prop
  | .panic _, _, _ => False
  | .normal, a, w => Q .normal a w
  | .ret, a, w => Q .ret a w
  | .exit i, a, w => Q (.exit i) a w
  | .goto t, a, w => Q (.goto t) a w
  | .outgrown, a, w => Q .outgrown a w
theorem wp_noPanic {P : Program} {c : Code} {Q : Exit → Act → World → Prop} {a : Act} {w : World} (h : c.wp P (noPanic Q) a w) : c.wp P Q a w :=
  wp_mono h fun e a w hq => by cases e <;> first | exact hq | exact hq.elim
end Go.Proofs.YtggnnnddnppcpaaHand
/-! text YtggnnnddnppcpaaKmInv -/
namespace Go.Proofs.YtggnnnddnppcpaaHand
open Go.RowKit Go.Sort Go.Lib Go.Shelf Go.Proofs.YtggnnnddnppcpaaW.PrintWords Go.Proofs.YtggnnnddnppcpaaW.PrintLast Go.Proofs.YtggnnnddnppcpaaMath Go.Proofs.YtggnnnddnppcpaaOwn
set_option linter.unusedVariables false
set_option linter.unusedSimpArgs false
abbrev mB (b : Nat) (u : Value) : Asr := .blk b (.cells #[u] 46 (0, 0))
abbrev nB (b : Nat) (i : Int) : Asr := .blk b (.cells #[.int .i64 i] 3 (0, 0))
abbrev sB (v : Value) (l : List (List Bool)) : Asr := .rows (Kd.slice 4 Kd.bool) 41 v l
theorem infoKM : (Try.prog.info? 41).map (fun i => (i.zero, i.size, i.bytes)) = some (some (.slice none 0 0), 1, 24) := by kernel_rfl
/-- the model that an iterator hands over stands beside all else -/
theorem _root_.Go.Proofs.YtggnnnddnppcpaaOwn.Sep.handB {w A W : World} {M M1 : Nat → Prop} {l : List Asr} {vn : Nat} (h : Sep w M l A) (hg : Grow M A W) (hw : ∀ b, M b → w.heap.size ≤ b) (hm : More M A W M1) {u : Value} {s : List Bool} (hh : HandB vn A M1 (u, s) W) :
    Sep w M1 (l ++ [rB u s]) W := by
  refine h.hand hg (fun b hb _ => hb) hw (fun b hb => (hm b hb).imp id And.left) ?_
  have h1 : Kd.R Kd.bool 4 W A.heap.size (fun _ => True) u s := Kd.R_of_own hh.2.1 fun _ _ => trivial
  exact Kd.R_lower (Kd.R_mono (Kd.R_bound (Kd.R_tight rfl h1)) fun k hk => ⟨hk.2.1, hh.2.2 k hk.1.symm⟩) (Nat.zero_le _)
/-- what holds from round to round -/
def KInv (w : World) (cs : Value → List (List Bool) → Int → List Asr) (L0 : List (List Bool)) (f : Nat → Int) (ok : Nat → Prop) (M : Nat → Prop) (pre : List (Value × List Bool)) (W : World) : Prop :=
  (∀ k, M k → w.heap.size ≤ k ∧ k < W.heap.size) ∧ ok pre.length ∧ ∃ (Aa : Option Addr) (na ca : Nat), Sep w M (cs (.slice Aa na ca) (L0 ++ pre.map (·.2)) (f pre.length)) W
theorem KInv.own {w : World} {cs : Value → List (List Bool) → Int → List Asr} {L0 : List (List Bool)} {f : Nat → Int} {ok : Nat → Prop} : OwnD (fun (M : Nat → Prop) (pre : List (Value × List Bool)) (W : World) => KInv w cs L0 f ok M pre W) := by
  rintro M M1 s A B ⟨h1, hn, Aa, na, ca, h2⟩ hg hm
  refine ⟨fun k hk => ?_, hn, Aa, na, ca, h2.own hg (fun b hb _ => hb) (fun b hb => (h1 b hb).1) (fun b hb => (hm b hb).imp id And.left)⟩
  rcases hm k hk with h | h
  · exact ⟨(h1 k h).1, Nat.lt_of_lt_of_le (h1 k h).2 hg.size⟩
  · exact ⟨Nat.le_trans h2.hB.size h.1, h.2⟩
/-- a round turns the list that grows, and the two boxes, alone -/
theorem km_kept {w W W1 : World} {M1 Rd : Nat → Prop} {l : List Asr} {g : Nat} {lb : Array Value} {vn : Nat} {ML xs : List (List Bool)} {v u1 u2 : Value} {b1 b2 : Nat} {o1 o2 : Obj} (h : Sep w M1 l W) (i j1 j2 m : Nat) (him : i ≠ m) (hj1m : j1 ≠ m) (hj2m : j2 ≠ m)
    (hi : l[i]? = some (sB v xs)) (hj1 : l[j1]? = some (.blk b1 o1)) (hj2 : l[j2]? = some (.blk b2 o2)) (hs : l[m]? = some (seqB g lb Rd vn ML)) (hg : Grow (fun k => some k = v.ownBlock) W W1) : KeptD (fun k => M1 k ∨ Rd k) W ((W1.setCell ⟨b1, 0, none⟩ u1).setCell ⟨b2, 0, none⟩ u2) := by
  have hS : ∀ k, Rd k → ∀ ok, (seqB g lb Rd vn ML).P W ok → ok k := fun k hk ok h => h.2 k hk
  refine kept_of_grow (N := fun k => some k = v.ownBlock ∨ k = b1 ∨ k = b2) ?_ ?_
  · have g1 : Grow (fun k => some k = v.ownBlock ∨ k = b1 ∨ k = b2) W W1 := hg.mono fun k hk => .inl hk
    have g2 : Grow (fun k => some k = v.ownBlock ∨ k = b1 ∨ k = b2) W1 (W1.setCell ⟨b1, 0, none⟩ u1) := (grow_put 0 u1 W1).mono fun k hk => .inr (.inl hk)
    have g3 : Grow (fun k => some k = v.ownBlock ∨ k = b1 ∨ k = b2) (W1.setCell ⟨b1, 0, none⟩ u1) ((W1.setCell ⟨b1, 0, none⟩ u1).setCell ⟨b2, 0, none⟩ u2) := (grow_put 0 u2 _).mono fun k hk => .inr (.inr hk)
    exact (g1.trans g2 fun k hk => .inl hk).trans g3 fun k hk => .inl hk
  · rintro k (hk | rfl | rfl) (h1 | h1)
    · exact (h.nX i hi (rows_blk hk)).1 h1
    · exact h.ne i m him hi hs (rows_blk hk) (hS k h1) rfl
    · exact (h.nX j1 hj1 blk_blk).1 h1
    · exact h.ne j1 m hj1m hj1 hs blk_blk (hS k h1) rfl
    · exact (h.nX j2 hj2 blk_blk).1 h1
    · exact h.ne j2 m hj2m hj2 hs blk_blk (hS k h1) rfl
/-- a round's end: the list is longer, the number another -/
theorem km_round {w W5 w1 : World} {cs : Value → List (List Bool) → Int → List Asr} {L0 : List (List Bool)} {f : Nat → Int} {ok : Nat → Prop} {M1 : Nat → Prop} {pre : List (Value × List Bool)} {p : Value × List Bool} {l : List Asr} {A9 : Option Addr} {n9 c9 : Nat} {y : Int} {L9 : List (List Bool)}
    (hs : Sep w M1 l w1) (hM5 : ∀ b, M1 b → w.heap.size ≤ b ∧ b < W5.heap.size) (hz : W5.heap.size ≤ w1.heap.size) (iM iN nc : Nat) {b1 b2 t1 t2 : Nat} {cs1 cs1' cs2 cs2' : Array Value}
    (h1 : l[iM]? = some (.blk b1 (.cells cs1 t1 (0, 0)))) (e1 : cs1.setIfInBounds 0 (.slice A9 n9 c9) = cs1') (h2 : (l.set iM (.blk b1 (.cells cs1' t1 (0, 0))))[iN]? = some (.blk b2 (.cells cs2 t2 (0, 0)))) (e2 : cs2.setIfInBounds 0 (.int .i64 y) = cs2')
    (hcs : ((l.set iM (.blk b1 (.cells cs1' t1 (0, 0)))).set iN (.blk b2 (.cells cs2' t2 (0, 0)))).take nc = cs (.slice A9 n9 c9) L9 y) (hL : L9 = L0 ++ (pre ++ [p]).map (·.2)) (hy : y = f (pre ++ [p]).length) (hok : ok (pre ++ [p]).length) :
    KInv w cs L0 f ok M1 (pre ++ [p]) ((w1.setCell ⟨b1, 0, none⟩ (.slice A9 n9 c9)).setCell ⟨b2, 0, none⟩ (.int .i64 y)) := by
  have g1 := (grow_put (b := b1) 0 (.slice A9 n9 c9) w1).size
  have g2 := (grow_put (b := b2) 0 (.int .i64 y) (w1.setCell ⟨b1, 0, none⟩ (.slice A9 n9 c9))).size
  have h3 := hs.put (fun b hb => Nat.lt_of_lt_of_le (hM5 b hb).2 hz) iM 0 h1 (.slice A9 n9 c9) e1
  have h4 := h3.put (fun b hb => Nat.lt_of_lt_of_le (hM5 b hb).2 (Nat.le_trans hz g1)) iN 0 h2 (.int .i64 y) e2
  have h5 := h4.takeD nc
  rw [hcs, hL, hy] at h5
  refine ⟨fun k hk => ⟨(hM5 k hk).1, by have := (hM5 k hk).2; omega⟩, hok, A9, n9, c9, ?_⟩
  rw [hy]
  exact h5
theorem falses_len (v : Int) (cs : List (List Int)) (m : List Bool) (h : cs.length ≤ 1048576) : (falses v cs m).length ≤ 1048576 := by
  unfold falses
  split
  · exact Nat.le_trans (idxs_length _ cs 0) h
  · exact Nat.zero_le _
/-- a model that stands in a list -/
theorem elem_model {w W : World} {X : Nat → Prop} {l : List Asr} (h : Sep w X l W) (i : Nat) {A : Option Addr} {n c : Nat} {L : List (List Bool)} (hi : l[i]? = some (sB (.slice A n c) L)) {k : Nat} {p : List Bool} (hk : L[k]? = some p) :
    ∃ ad A' c', A = some ad ∧ W.cell? (ad.add k) = some (.slice A' p.length c') ∧ p.length ≤ c' ∧ Kd.C Kd.bool W A' p.length p := by
  have hl := (List.getElem?_eq_some_iff.1 hk).1
  have hC := (Kd.S_reads' (h.get i hi)).2.2
  obtain ⟨ad, e, hc⟩ := hC.2.2 (by omega)
  obtain ⟨cs, _, ⟨A', c', rfl, h1, h2⟩, hcell⟩ := hc k p hk
  have h3 := hcell 0 _ rfl
  rw [show k * (Kd.slice 4 Kd.bool).sz + 0 = k from by show k * 1 + 0 = k; omega] at h3
  exact ⟨ad, A', c', e, h3, h1, h2⟩
theorem mod_models {c k nm : Nat} {nT x : Int} (hT : nT = (c : Int)) (hc : c ≤ 9) (hn : nm = c + c) (hx : x = k) (hk : k < nm) : wrap64 ((wrap64 ((nm : Int) + 1)).tdiv 2) = nT ∧ x.tmod nT = ((k % c : Nat) : Int) ∧ 0 < c := by
  have hc0 : 0 < c := by omega
  refine ⟨?_, by rw [hx, hT]; rfl, hc0⟩
  have e1 : wrap64 ((nm : Int) + 1) = ((c + c + 1 : Nat) : Int) := by rw [w64 (by omega) (by omega), hn]; omega
  have e2 : ((c + c + 1 : Nat) : Int).tdiv 2 = (((c + c + 1) / 2 : Nat) : Int) := rfl
  rw [e1, e2, show (c + c + 1) / 2 = c from by omega, hT, w64 (by omega) (by omega)]
theorem twice_at {MT ML : List (List Bool)} {k : Nat} (hT : MT = ML.take 9) (hk : k < MT.length + MT.length) (hc : 0 < MT.length) : ∃ s, (MT ++ MT)[k]? = some s ∧ ML[k % MT.length]? = some s ∧ s ∈ ML := by
  have hlt : k % MT.length < MT.length := Nat.mod_lt _ hc
  have hin : k % MT.length < ML.length := by have : MT.length = min 9 ML.length := by rw [hT, List.length_take]
                                             omega
  have e1 : MT[k % MT.length]? = ML[k % MT.length]? := by
    have h9 : k % MT.length < 9 := by have : MT.length = min 9 ML.length := by rw [hT, List.length_take]
                                      omega
    conv => lhs; rw [show MT[k % MT.length]? = (ML.take 9)[k % MT.length]? from by rw [← hT]]
    rw [List.getElem?_take, if_pos h9]
  refine ⟨ML[k % MT.length], ?_, List.getElem?_eq_getElem hin, List.getElem_mem hin⟩
  rw [← List.getElem?_eq_getElem hin, ← e1]
  rcases Nat.lt_or_ge k MT.length with h | h
  · rw [List.getElem?_append_left h, Nat.mod_eq_of_lt h]
  · rw [List.getElem?_append_right h, Nat.mod_eq_sub_mod h, Nat.mod_eq_of_lt (by omega)]
/-- behind a range over a function: one more mark among the deferred calls -/
theorem wp_joinD {P : Program} {s : Code} {K : Act → World → Prop} {Q' : Exit → Act → World → Prop} {a : Act} {w : World} (F : Nat → World → Prop)
    (rest : ∀ D w', F D w' → K { tmps := a.tmps, defers := { target := .collected D, args := #[] } :: a.defers } w')
    (first : ∀ K' : Act → World → Prop, (∀ D w', F D w' → K' { tmps := a.tmps, defers := { target := .collected D, args := #[] } :: a.defers } w') → s.wp P (Exit.then K' Q') a w) : s.wp P (Exit.then K Q') a w := first K rest
end Go.Proofs.YtggnnnddnppcpaaHand
