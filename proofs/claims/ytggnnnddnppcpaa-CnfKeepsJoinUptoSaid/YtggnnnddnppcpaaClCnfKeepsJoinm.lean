/- What lists that are lent show, before and behind a turn; clauses that a call made, as such lists. -/
import Derived.Test.YtggnnnddnppcpaaClCnfKeepsJoinj
import Derived.Test.YtggnnnddnppcpaaClCnfKeepsJoinl
/-! text YtggnnnddnppcpaaLentUse -/
namespace Go.Proofs.YtggnnnddnppcpaaOwn
open Go Go.RowKit Go.Proofs.YtggnnnddnppcpaaW.PrintWords Go.Proofs.YtggnnnddnppcpaaHand
set_option linter.unusedVariables false
set_option linter.unusedSimpArgs false
def hdA : Value → Option Addr | .slice A _ _ => A | _ => none
def hdC : Value → Nat | .slice _ _ c => c | _ => 0
def mkRow (q : Value × List Int) : LRow := ⟨hdA q.1, hdC q.1, q.2, q.2.length⟩
theorem S_lrows {W : World} {base : Nat} {ok : Nat → Prop} {v : Value} {xs : List (List Int)} (h : Kd.S (Kd.slice 3 (Kd.int .i64)) 43 W base ok v xs) :
    ∃ U : List LRow, U.map LRow.row = xs ∧ (∀ t ∈ U, t.k = t.row.length) ∧ ((headA v (U.map LRow.shown)).sep (dataA U)).P W ok := by
  obtain ⟨f, h0, inner, ho, hr⟩ := h
  rw [List.length_zipIdx] at ho
  have hsz : (Kd.tag f (Kd.slice 3 (Kd.int .i64))).sz = 1 := rfl
  rw [hsz] at ho hr
  have hil : inner.length = xs.length := by have := ho.1; omega
  have hrow : ∀ (i : Nat) x, xs[i]? = some x → ∃ A c, inner[i]? = some (.slice A x.length c) ∧ Kd.R (Kd.int .i64) 3 W 0 (fun b => (ok b ∧ some b ≠ v.ownBlock) ∧ f b = i) (.slice A x.length c) x := fun i x hx => by
    obtain ⟨u', hu', hR⟩ := hr.2 i (x, i) (Kd.zip_at hx)
    have hlt := (List.getElem?_eq_some_iff.1 hx).1
    obtain ⟨A, c, rfl⟩ := Kd.R_slice hR
    refine ⟨A, c, ?_, Kd.R_lower (Kd.R_mono hR fun b hb => hb) (Nat.zero_le _)⟩
    have h3 : ((inner.drop (i * 1)).take 1)[0]? = some (Value.slice A x.length c) := by rw [hu']; rfl
    rw [Nat.mul_one, List.getElem?_take, if_pos (by omega), List.getElem?_drop, Nat.add_zero] at h3
    exact h3
  have hU : ∀ (i : Nat) t, ((inner.zip xs).map mkRow)[i]? = some t → ∃ x A c, xs[i]? = some x ∧ inner[i]? = some (.slice A x.length c) ∧ t = ⟨A, c, x, x.length⟩ := fun i t ht => by
    rw [List.getElem?_map] at ht
    obtain ⟨q, hq, rfl⟩ := Option.map_eq_some_iff.1 ht
    rw [List.getElem?_zip_eq_some] at hq
    obtain ⟨A, c, h1, _⟩ := hrow i q.2 hq.2
    refine ⟨q.2, A, c, hq.2, h1, ?_⟩
    have h4 := hq.1
    rw [h1] at h4
    injection h4 with h4
    unfold mkRow
    rw [← h4]
    rfl
  refine ⟨(inner.zip xs).map mkRow, ?_, fun t ht => ?_, fun b => v.ownBlock = some b, ?_, f, fun i t ht => ?_⟩
  · rw [List.map_map]
    exact List.map_snd_zip (by omega)
  · obtain ⟨q, _, rfl⟩ := List.mem_map.1 ht
    rfl
  · have hl : (((inner.zip xs).map mkRow).map LRow.shown).length = xs.length := by rw [List.length_map, List.length_map, List.length_zip]; omega
    refine ⟨fun b hb => ⟨h0 b hb, hb⟩, inner, by rw [hl]; exact own_weaken ho (Nat.zero_le _), ⟨by rw [hl]; show inner.length = xs.length * 1; omega, fun i p hp => ?_⟩⟩
    rw [List.getElem?_map] at hp
    obtain ⟨t, ht, rfl⟩ := Option.map_eq_some_iff.1 hp
    obtain ⟨x, A, c, hx, hi, rfl⟩ := hU i t ht
    show (inner.drop (i * 1)).take 1 = [.slice A x.length c]
    have hlt := (List.getElem?_eq_some_iff.1 hi).1
    rw [Nat.mul_one, List.drop_eq_getElem_cons hlt, List.take_succ_cons, List.take_zero, (List.getElem?_eq_some_iff.1 hi).2]
  · obtain ⟨x, A, c, hx, hi, rfl⟩ := hU i t ht
    obtain ⟨A', c', h1, h2⟩ := hrow i x hx
    rw [hi] at h1
    injection h1 with h1
    injection h1 with e1 _ e3
    subst e1 e3
    exact ⟨Kd.R_mono h2 fun b hb => ⟨⟨hb.1.1, fun e => hb.1.2 e.symm⟩, hb.2⟩, Nat.le_refl _⟩
section
variable {w W : World} {X : Nat → Prop} {l : List Asr}
/-- what a list of the heads that are shown shows -/
theorem shown_C (h : Sep w X l W) (iw id : Nat) {A : Option Addr} {n c : Nat} {U : List LRow} (hw : l[iw]? = some (headA (.slice A n c) (U.map LRow.shown))) (hd : l[id]? = some (dataA U)) :
    n = U.length ∧ n ≤ c ∧ Kd.C (Kd.slice 3 (Kd.int .i64)) W A U.length (U.map LRow.nums) := heads_C (h.get iw hw) (h.get id hd) (fun i t ht => ⟨i, ht⟩) fun t ht => ⟨t.k, rfl, ht, rfl⟩
theorem all_C (h : Sep w X l W) (ir id : Nat) {A : Option Addr} {n c : Nat} {T M : List LRow} (hw : l[ir]? = some (headA (.slice A n c) (T.map LRow.all))) (hd : l[id]? = some (dataA (T ++ M))) :
    n = T.length ∧ n ≤ c ∧ Kd.C (Kd.slice 3 (Kd.int .i64)) W A T.length (T.map LRow.row) := heads_C (h.get ir hw) (h.get id hd) (fun i t ht => ⟨i, by rw [List.getElem?_append_left (List.getElem?_eq_some_iff.1 ht).1]; exact ht⟩) fun t ht => ⟨t.row.length, rfl, Nat.le_refl _, by rw [List.take_length]⟩
theorem data_k (h : Sep w X l W) (id : Nat) {U : List LRow} (hd : l[id]? = some (dataA U)) : ∀ t ∈ U, t.k ≤ t.row.length := fun t ht => by
  obtain ⟨i, hi⟩ := List.getElem?_of_mem ht
  exact (data_get (h.get id hd) i hi).2.1
end
theorem turnAt_shown (k : Nat) (U : List LRow) : (turnAt k 0 U).map LRow.shown = U.map LRow.shown := by
  refine List.ext_getElem? fun m => ?_
  rw [List.getElem?_map, List.getElem?_map]
  cases h : U[m]? with
  | none => rw [turnAt_none h]
  | some t =>
    rw [turnAt_at h]
    by_cases h1 : m < k
    · rw [if_pos h1]; rfl
    · rw [if_neg h1]
      by_cases h2 : m = k
      · rw [if_pos h2, upto_zero]
      · rw [if_neg h2]
theorem upto_nums {t : LRow} (h : t.k ≤ t.row.length) : (upto t.k t).nums = t.nums.map negw := by
  show ((t.row.take t.k).map negw ++ t.row.drop t.k).take t.k = (t.row.take t.k).map negw
  exact List.take_left' (by rw [List.length_map, List.length_take]; omega)
theorem turnAt_nums {T M : List LRow} (h : ∀ t ∈ T ++ M, t.k ≤ t.row.length) : ((turnAt T.length 0 (T ++ M)).map LRow.nums).take T.length = (T.map LRow.nums).map (List.map negw) := by
  refine List.ext_getElem? fun m => ?_
  rw [List.getElem?_take, List.getElem?_map, List.getElem?_map, List.getElem?_map]
  by_cases hm : m < T.length
  · have h1 : (T ++ M)[m]? = some T[m] := by rw [List.getElem?_append_left hm, List.getElem?_eq_getElem hm]
    rw [if_pos hm, turnAt_at h1, if_pos hm, List.getElem?_eq_getElem hm]
    simp only [Option.map_some]
    rw [upto_nums (h _ (List.mem_append_left _ (List.getElem_mem hm)))]
  · rw [if_neg hm, List.getElem?_eq_none (by omega)]
    rfl
theorem likeD_left (T M : List LRow) : LikeD T (T ++ M) := fun i t ht => ⟨t, by rw [List.getElem?_append_left (List.getElem?_eq_some_iff.1 ht).1]; exact ht, rfl, rfl, rfl⟩
theorem likeD_turn (T M : List LRow) (n : Nat) : LikeD T (turnAt n 0 (T ++ M)) := fun i t ht => by
  have h1 : (T ++ M)[i]? = some t := by rw [List.getElem?_append_left (List.getElem?_eq_some_iff.1 ht).1]; exact ht
  refine ⟨_, turnAt_at h1, ?_⟩
  by_cases h2 : i < n
  · rw [if_pos h2]; exact ⟨rfl, rfl, upto_row_length _ _⟩
  · rw [if_neg h2]
    by_cases h3 : i = n
    · rw [if_pos h3]; exact ⟨rfl, rfl, upto_row_length _ _⟩
    · rw [if_neg h3]; exact ⟨rfl, rfl, rfl⟩
end Go.Proofs.YtggnnnddnppcpaaOwn
namespace Go.Proofs.YtggnnnddnppcpaaHand
open Go.RowKit Go.Proofs.YtggnnnddnppcpaaW.PrintWords Go.Proofs.YtggnnnddnppcpaaW.PrintLast Go.Proofs.YtggnnnddnppcpaaMath Go.Proofs.YtggnnnddnppcpaaOwn Go.Proofs.Ytggnnnddnppcpaa.PCnfKeepsJoin
set_option linter.unusedVariables false
set_option linter.unusedSimpArgs false

/-- a walk stops ahead of such a goal -/
structure HoldU (p : Prop) : Prop where
  out : p

set_option maxHeartbeats 8000000 in
set_option maxRecDepth 100000 in
theorem turned_calls (v : Int) (A : Option Addr) (c : Nat) (l : List (List Int)) (w : World) (hr : Kd.C (Kd.slice 3 (Kd.int .i64)) w A l.length l) (hc : l.length ≤ c) (hn : l.length ≤ 1099511627776) (hs : ∀ x ∈ l, x.length ≤ 1099511627776) :
    Calls Try.prog 25 #[.agg #[.int .i64 v, .slice A l.length c]] w fun e w' => ∃ (A' : Option Addr) (c' : Nat), e = .returned (.agg #[.int .i64 v, .slice A' l.length c']) ∧
      (Asr.foot fun W => Kd.C (Kd.slice 3 (Kd.int .i64)) W A' l.length (l.map (List.map negw))).P w' (fun b => w.heap.size ≤ b) ∧ l.length ≤ c' ∧ Below w.heap.size w w' := by
  have HR := Aside0.mk hr
  have HC := Aside0.mk hc
  have HB := Aside0.mk (And.intro hn hs)
  have HX : Aside0 (∀ (W : World) b, (fun _ : Nat => False) b → b < W.heap.size) := ⟨fun _ _ h => h.elim⟩
  clear hr hc hn hs
  have hN := ((Sep.start (Below.refl w.heap.size w) (fun _ => False)).new (HX.out _) (.cells #[.int .i64 v, .slice A l.length c] 24 (0, 0))).new (HX.out _) (.cells #[.int .i64 0, .slice none 0 0] 24 (0, 0))
  rw [World.size_alloc] at hN
  have HN := Aside0.mk hN
  clear hN
  go_enter Try.func25, Try.ntmps25
  go_wp2_with (go_at_call 36; refine HoldU.out ?_)
  refine ⟨?_⟩
  obtain ⟨k, hk⟩ := (depotref00_CopyFormula_ev v l (by have := HB.out.1; omega) (fun x hx => by have := HB.out.2 x hx; omega)).rounds
  refine (depotref00_CopyFormula.calls k v A c l _ _ _ (Kd.C_below HR.out HN.out.hB) HC.out hk).mono ?_
  rintro e w1 ⟨u, rfl, hS, hb⟩
  obtain ⟨A1, c1, rfl⟩ := Kd.S_slice hS
  obtain ⟨U, hU, hUk, hP⟩ := S_lrows (rows_of hS)
  have hUl : U.length = l.length := by rw [← hU, List.length_map]
  have h2 := ((HN.out.push hb (HX.out _) hP).cut 2 rfl).new (HX.out _) (.cells #[.int .i64 v, .slice A1 l.length c1] 24 (0, 0))
  have HQ : Aside0 (Sep w (fun _ => False) [.blk w.heap.size (.cells #[.int .i64 v, .slice A l.length c] 24 (0, 0)), .blk (w.heap.size + 1) (.cells #[.int .i64 0, .slice none 0 0] 24 (0, 0)), headA (.slice A1 l.length c1) (U.map LRow.shown), dataA U, .blk w1.heap.size (.cells #[.int .i64 v, .slice A1 l.length c1] 24 (0, 0))] (w1.alloc (.cells #[.int .i64 v, .slice A1 l.length c1] 24 (0, 0)))) := ⟨h2⟩
  have HT := Aside0.mk (turn_calls HQ.out (HX.out _) 2 3 (by decide) rfl rfl l.length (by omega) ⟨HB.out.1, fun t ht => by
    rw [hUk t ht]
    exact HB.out.2 t.row (by rw [← hU]; exact List.mem_map_of_mem ht)⟩)
  have HU := Aside0.mk (And.intro hU (And.intro hUk hUl))
  obtain ⟨Bg, hBg⟩ : ∃ q, q = w1.heap.size := ⟨_, rfl⟩
  obtain ⟨Bf, hBf⟩ : ∃ q, q = w.heap.size + 1 := ⟨_, rfl⟩
  clear hS hP h2 hb hk HN hU hUk hUl
  go_wp2_with (go_at_call 27; refine HoldU.out ?_)
  refine ⟨?_⟩
  refine HT.out.mono ?_
  rintro e w2 ⟨rfl, hsep⟩
  rw [← hBg, ← hBf] at hsep ⊢
  have HS : Aside0 (Sep w (fun _ => False) [.blk w.heap.size (.cells #[.int .i64 v, .slice A l.length c] 24 (0, 0)), .blk Bf (.cells #[.int .i64 0, .slice none 0 0] 24 (0, 0)), headA (.slice A1 l.length c1) (U.map LRow.shown), dataA (turnAt l.length 0 U), .blk Bg (.cells #[.int .i64 v, .slice A1 l.length c1] 24 (0, 0))] w2) := ⟨hsep⟩
  have f1 : w2.cell? ⟨Bg, 0, none⟩ = some (.int .i64 v) := hsep.cell 4 0 rfl
  have f2 : w2.cell? ⟨Bg, 1, none⟩ = some (.slice A1 l.length c1) := hsep.cell 4 1 rfl
  have f3 : w2.cell? ⟨Bf, 0, none⟩ = some (.int .i64 0) := hsep.cell 1 0 rfl
  have f4 : w2.cell? ⟨Bf, 1, none⟩ = some (.slice none 0 0) := hsep.cell 1 1 rfl
  have f5 : w2.frozen? ⟨Bf, 0, none⟩ = false := hsep.frozen 1 0 rfl
  have f6 : w2.frozen? ⟨Bf, 1, none⟩ = false := hsep.frozen 1 1 rfl
  clear hsep hBg hBf HT HQ
  go_wp2_with fail
  have hp := (HS.out.put (HX.out _) 1 0 rfl (.int .i64 v) rfl).put (HX.out _) 1 1 rfl (.slice A1 l.length c1) rfl
  have hT : Sep w (fun _ => False) [.blk w.heap.size (.cells #[.int .i64 v, .slice A l.length c] 24 (0, 0)), .blk Bf (.cells #[.int .i64 v, .slice A1 l.length c1] 24 (0, 0)), headA (.slice A1 l.length c1) ((turnAt l.length 0 U).map LRow.shown), dataA (turnAt l.length 0 U), .blk Bg (.cells #[.int .i64 v, .slice A1 l.length c1] 24 (0, 0))] ((w2.setCell ⟨Bf, 0, none⟩ (.int .i64 v)).setCell ⟨Bf, 1, none⟩ (.slice A1 l.length c1)) := by
    rw [turnAt_shown]
    exact hp
  have HT := Aside0.mk hT
  clear hp hT HS f1 f2 f3 f4 f5 f6
  generalize (w2.setCell ⟨Bf, 0, none⟩ (.int .i64 v)).setCell ⟨Bf, 1, none⟩ (.slice A1 l.length c1) = W3 at HT ⊢
  have r1 : W3.cell? ⟨Bf, 0, none⟩ = some (.int .i64 v) := HT.out.cell 1 0 rfl
  have r2 : W3.cell? ⟨Bf, 1, none⟩ = some (.slice A1 l.length c1) := HT.out.cell 1 1 rfl
  refine bodyPost_ret (v := .agg #[.int .i64 v, .slice A1 l.length c1]) (by simp [results, Try.results25, go_sem, r1, r2]) rfl ?_
  obtain ⟨e1, e2, e3⟩ := shown_C HT.out 2 3 rfl rfl
  have hl := HU.out.2.2
  have e4 : (turnAt l.length 0 U).map LRow.nums = l.map (List.map negw) := by
    have h1 := turnAt_nums (T := U) (M := []) (fun t ht => by rw [HU.out.2.1 t (by simpa using ht)]; exact Nat.le_refl _)
    rw [List.append_nil, hl, List.take_of_length_le (by rw [List.length_map, turnAt_length, hl]; exact Nat.le_refl _)] at h1
    rw [h1]
    have h2 : U.map LRow.nums = U.map LRow.row := List.map_congr_left fun t ht => by show t.row.take t.k = t.row; rw [HU.out.2.1 t ht, List.take_length]
    rw [h2, HU.out.1]
  refine ⟨A1, c1, rfl, fun W1 hz hk => ?_, e2, HT.out.hB⟩
  have g1 := (headA (.slice A1 l.length c1) ((turnAt l.length 0 U).map LRow.shown)).step (ok' := fun _ => True) (HT.out.get 2 rfl) hz fun k h1 h2 => ⟨hk k h1.1 h2, trivial⟩
  have g2 := (dataA (turnAt l.length 0 U)).step (ok' := fun _ => True) (HT.out.get 3 rfl) hz fun k h1 h2 => ⟨hk k h1.1 h2, trivial⟩
  have e5 := (heads_C (nm := LRow.nums) g1 g2 (fun i t ht => ⟨i, ht⟩) fun t ht => ⟨t.k, rfl, ht, rfl⟩).2.2
  rw [turnAt_length, HU.out.2.2, e4] at e5
  exact e5
end Go.Proofs.YtggnnnddnppcpaaHand
/-! text YtggnnnddnppcpaaApartRel -/
namespace Go.Proofs.YtggnnnddnppcpaaOwn
open Go Go.RowKit Go.Proofs.YtggnnnddnppcpaaW.PrintWords
set_option linter.unusedVariables false
/-- n places, each as G says of row k -/
def AllG (G : Nat → Nat → Value → Prop) (k n : Nat) (xs : List Value) : Prop := xs.length = n ∧ ∀ j, j < n → ∃ u, xs[j]? = some u ∧ G k j u
section
variable (G : Nat → Nat → Value → Prop) (rows : List (Value × Nat))
def G1 (D : List (Value × List Value)) (k i : Nat) : Prop := ∀ (k' : Nat) p d, rows[k']? = some p → D[k']? = some d → d.1 = p.1 ∧ d.2.length = p.2 ∧ ∀ j, j < p.2 → (k' < k ∨ k' = k ∧ j < i) → ∃ u, d.2[j]? = some u ∧ G k' j u
def G2 (D : List (Value × List Value)) (k x : Nat) : Prop := ∀ (k' : Nat) p d, rows[k']? = some p → D[k']? = some d → (k' < k → AllG G k' (p.2 + 64) d.2) ∧ (k' = k → AllG G k' (p.2 + x) d.2) ∧ (k < k' → AllG G k' p.2 d.2)
def G4 (D : List (Value × List Value)) : Prop := ∀ (k' : Nat) p d, rows[k']? = some p → D[k']? = some d → d.2.length = p.2 + 64 ∧ ∀ j, j < p.2 → ∃ u, d.2[j]? = some u ∧ G k' j u
variable {G rows} {G' : Nat → Nat → Value → Prop} {D : List (Value × List Value)} {k i n : Nat} {p : Value × Nat} {xs : List Value} {u : Value}
theorem AllG.mono (h : AllG G k n xs) (hG : ∀ k j u, G k j u → G' k j u) : AllG G' k n xs := ⟨h.1, fun j hj => by
  obtain ⟨u, h1, h2⟩ := h.2 j hj
  exact ⟨u, h1, hG _ _ _ h2⟩⟩
theorem AllG.append (h : AllG G k n xs) (hu : G k n u) : AllG G k (n + 1) (xs ++ [u]) := ⟨by rw [List.length_append, h.1]; rfl, fun j hj => by
  rcases Nat.lt_or_ge j n with h1 | h1
  · obtain ⟨v, h2, h3⟩ := h.2 j h1
    exact ⟨v, by rw [List.getElem?_append_left (by rw [h.1]; exact h1)]; exact h2, h3⟩
  · obtain rfl : j = n := by omega
    exact ⟨u, by rw [List.getElem?_append_right (by rw [h.1]; exact Nat.le_refl _), h.1, Nat.sub_self]; rfl, hu⟩⟩
theorem AllG.take (h : AllG G k n xs) {m : Nat} (hm : m ≤ n) : AllG G k m (xs.take m) := ⟨by rw [List.length_take, h.1]; omega, fun j hj => by
  obtain ⟨u, h1, h2⟩ := h.2 j (by omega)
  exact ⟨u, by rw [List.getElem?_take, if_pos hj]; exact h1, h2⟩⟩
theorem G1.mono (h : G1 G rows D k i) (hG : ∀ k j u, G k j u → G' k j u) : G1 G' rows D k i := fun k' p d hp hd => by
  obtain ⟨h1, h2, h3⟩ := h k' p d hp hd
  refine ⟨h1, h2, fun j hj hjj => ?_⟩
  obtain ⟨u, h4, h5⟩ := h3 j hj hjj
  exact ⟨u, h4, hG _ _ _ h5⟩
theorem G2.mono (h : G2 G rows D k i) (hG : ∀ k j u, G k j u → G' k j u) : G2 G' rows D k i := fun k' p d hp hd => by
  obtain ⟨h1, h2, h3⟩ := h k' p d hp hd
  exact ⟨fun h => (h1 h).mono hG, fun h => (h2 h).mono hG, fun h => (h3 h).mono hG⟩
theorem G1.start (hD : ∀ (k' : Nat) p d, rows[k']? = some p → D[k']? = some d → d.1 = p.1 ∧ d.2.length = p.2) : G1 G rows D 0 0 := fun k' p d hp hd => ⟨(hD k' p d hp hd).1, (hD k' p d hp hd).2, fun j _ hj => by omega⟩
theorem G1.mark {v : Value} (h : G1 G rows D k i) (hp : rows[k]? = some p) (hd : D[k]? = some (v, xs)) (hi : i < p.2) (hu : G k i u) : G1 G rows (D.set k (v, xs.set i u)) k (i + 1) := by
  intro k' p' d' hp' hd'
  rw [List.getElem?_set] at hd'
  by_cases hk : k = k'
  · subst hk
    rw [hp] at hp'
    injection hp' with hp'
    subst hp'
    rw [if_pos rfl, if_pos (List.getElem?_eq_some_iff.1 hd).1] at hd'
    injection hd' with hd'
    subst hd'
    obtain ⟨h1, h2, h3⟩ := h k p _ hp hd
    refine ⟨h1, by simpa using h2, fun j hj hjj => ?_⟩
    show ∃ u', (xs.set i u)[j]? = some u' ∧ G k j u'
    rw [List.getElem?_set]
    split
    · rename_i hij
      subst hij
      have : i < xs.length := by have := h2; simp only at this; omega
      exact ⟨u, by simp [this], hu⟩
    · exact h3 j hj (by omega)
  · rw [if_neg hk] at hd'
    obtain ⟨h1, h2, h3⟩ := h k' p' d' hp' hd'
    exact ⟨h1, h2, fun j hj hjj => h3 j hj (by omega)⟩
theorem G1.next (h : G1 G rows D k p.2) (hp : rows[k]? = some p) : G1 G rows D (k + 1) 0 := fun k' p' d' hp' hd' => by
  obtain ⟨h1, h2, h3⟩ := h k' p' d' hp' hd'
  refine ⟨h1, h2, fun j hj hjj => h3 j hj ?_⟩
  by_cases hk : k' = k
  · subst hk
    rw [hp] at hp'
    injection hp' with hp'
    subst hp'
    omega
  · omega
theorem G1.done (h : G1 G rows D rows.length 0) : G2 G rows D 0 0 := fun k' p d hp hd => by
  obtain ⟨h1, h2, h3⟩ := h k' p d hp hd
  have hk := (List.getElem?_eq_some_iff.1 hp).1
  have h4 : AllG G k' p.2 d.2 := ⟨h2, fun j hj => h3 j hj (by omega)⟩
  exact ⟨fun hlt => by omega, fun _ => h4, fun _ => h4⟩
theorem G2.set {d d' : Value × List Value} {x : Nat} (h : G2 G rows D k i) (hp : rows[k]? = some p) (hd : D[k]? = some d) (hd' : AllG G k (p.2 + x) d'.2) : G2 G rows (D.set k d') k x := by
  intro k' p' d2 hp' hd2
  rw [List.getElem?_set] at hd2
  by_cases hk : k = k'
  · subst hk
    rw [hp] at hp'
    injection hp' with hp'
    subst hp'
    rw [if_pos rfl, if_pos (List.getElem?_eq_some_iff.1 hd).1] at hd2
    injection hd2 with hd2
    subst hd2
    exact ⟨fun h => by omega, fun _ => hd', fun h => by omega⟩
  · rw [if_neg hk] at hd2
    obtain ⟨h1, h2, h3⟩ := h k' p' d2 hp' hd2
    exact ⟨h1, fun e => absurd e.symm hk, h3⟩
theorem G2.next (h : G2 G rows D k 64) : G2 G rows D (k + 1) 0 := fun k' p' d' hp' hd' => by
  obtain ⟨h1, h2, h3⟩ := h k' p' d' hp' hd'
  refine ⟨fun hk => ?_, fun hk => h3 (by omega), fun hk => h3 (by omega)⟩
  by_cases hk2 : k' = k
  · exact h2 hk2
  · exact h1 (by omega)
theorem G2.row {d : Value × List Value} (h : G2 G rows D k i) (hp : rows[k]? = some p) (hd : D[k]? = some d) : AllG G k (p.2 + i) d.2 := (h k p d hp hd).2.1 rfl
theorem G2.full {d : Value × List Value} (h : G2 G rows D rows.length 0) (hp : rows[k]? = some p) (hd : D[k]? = some d) : AllG G k (p.2 + 64) d.2 := (h k p d hp hd).1 (List.getElem?_eq_some_iff.1 hp).1
theorem G2.four (h : G2 G rows D rows.length 0) : G4 G rows D := fun k p d hp hd => by
  have := h.full hp hd
  exact ⟨this.1, fun j hj => this.2 j (by omega)⟩
theorem G4.set {d d' : Value × List Value} {ms : List Value} (h : G4 G rows D) (hp : rows[k]? = some p) (hd : D[k]? = some d) (hm : ms.length = 64) (hd' : d'.2 = d.2.take p.2 ++ ms) : G4 G rows (D.set k d') := by
  intro k' p' d2 hp' hd2
  rw [List.getElem?_set] at hd2
  by_cases hk : k = k'
  · subst hk
    rw [hp] at hp'
    injection hp' with hp'
    subst hp'
    rw [if_pos rfl, if_pos (List.getElem?_eq_some_iff.1 hd).1] at hd2
    injection hd2 with hd2
    subst hd2
    obtain ⟨h1, h2⟩ := h k p d hp hd
    have hl : (d.2.take p.2).length = p.2 := by rw [List.length_take]; omega
    rw [hd']
    refine ⟨by rw [List.length_append, hl, hm], fun j hj => ?_⟩
    obtain ⟨u, h3, h4⟩ := h2 j hj
    exact ⟨u, by rw [List.getElem?_append_left (by rw [hl]; exact hj), List.getElem?_take, if_pos hj]; exact h3, h4⟩
  · rw [if_neg hk] at hd2
    exact h k' p' d2 hp' hd2
end
/-- the list of rows lies in no row -/
theorem AQ.out_ne {e e' : TypeId} {w W : World} {rows : List (Value × Nat)} {D : List (Value × List Value)} {gv : Value} {H : List Value} {mv : Value} {ms : List Value} {Z : List (Nat × Obj)} {k : Nat} {p : Value × Nat} {d : Value × List Value} {ad : Addr} {b : Nat}
    (h : AQ e e' w rows (some ad) D gv H mv ms Z W) (hp : rows[k]? = some p) (hd : D[k]? = some d) (hb : d.1.ownBlock = some b) : b ≠ ad.block := by
  obtain ⟨f, h⟩ := h
  obtain ⟨ad', h1, h2, _⟩ := h.out k p hp
  injection h1 with h1
  subst h1
  have h3 := (h.row k p d hp hd).now.2 b hb
  have hk := (List.getElem?_eq_some_iff.1 hp).1
  rintro rfl
  omega
end Go.Proofs.YtggnnnddnppcpaaOwn
