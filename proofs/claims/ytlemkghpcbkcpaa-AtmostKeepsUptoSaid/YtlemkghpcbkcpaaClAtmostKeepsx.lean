/- Things that lie apart, laid down side by side as a list of their own. -/
import Derived.Test.YtlemkghpcbkcpaaClAtmostKeepsu
import Derived.Test.YtlemkghpcbkcpaaClAtmostKeepsn
import Derived.Test.YtlemkghpcbkcpaaClAtmostKeepsi
import Derived.Test.YtlemkghpcbkcpaaClAtmostKeepsv
import Derived.Test.YtlemkghpcbkcpaaClAtmostKeepsw
/-! text YtlemkghpcbkcpaaSepMade -/
namespace Go.Proofs.YtlemkghpcbkcpaaOwn
open Go Go.RowKit Go.Proofs.YtlemkghpcbkcpaaW.PrintWords
set_option linter.unusedVariables false
set_option linter.unusedSimpArgs false
/-- a list of things, made out of those that were told one by one -/
theorem Sep.made {β : Type} {w W : World} {X : Nat → Prop} {l : List Asr} (K : Kd β) (hK : K.sz = 1) (e : TypeId) (h : Sep w X l W) (R : List (Nat × Value × β)) (hR : ∀ (q : Nat) r, R[q]? = some r → ∃ A, l[r.1]? = some A ∧ ∀ ok, A.P W ok → K.M W 0 ok r.2.2 [r.2.1])
    (hnd : (R.map (·.1)).Nodup) (hX : ∀ b, X b → b < W.heap.size) (hn : R.length ≤ maxLen) :
    Sep w X (R.foldl (fun l r => l.set r.1 .emp) l ++ [.rows K e (.slice (some ⟨W.heap.size, 0, none⟩) R.length R.length) (R.map (·.2.2))]) (W.alloc (.cells (R.map (·.2.1)).toArray e (0, 0))) := by
  obtain ⟨f, hf⟩ := h.tags
  have hbW := below_alloc (Below.refl W.heap.size W) (.cells (R.map (·.2.1)).toArray e (0, 0))
  have hw := h.hB.size
  obtain ⟨W1, hW1⟩ : ∃ W1, W1 = W.alloc (.cells (R.map (·.2.1)).toArray e (0, 0)) := ⟨_, rfl⟩
  rw [← hW1] at hbW ⊢
  have hz2 : W1.heap.size = W.heap.size + 1 := by rw [hW1]; simp
  have hnew : W1.heap[W.heap.size]? = some (.cells (R.map (·.2.1)).toArray e (0, 0)) := by rw [hW1]; exact World.alloc_heap_new W _
  have hinj : ∀ (q q' : Nat) r r', R[q]? = some r → R[q']? = some r' → r.1 = r'.1 → q = q' := fun q q' r r' h1 h2 h3 => by
    have e1 : (R.map (·.1))[q]? = some r.1 := by rw [List.getElem?_map, h1]; rfl
    have e2 : (R.map (·.1))[q']? = some r.1 := by rw [List.getElem?_map, h2, h3]; rfl
    obtain ⟨l1, k1⟩ := List.getElem?_eq_some_iff.1 e1
    obtain ⟨l2, k2⟩ := List.getElem?_eq_some_iff.1 e2
    have hp := List.pairwise_iff_getElem.1 hnd
    rcases Nat.lt_trichotomy q q' with h4 | h4 | h4
    · exact absurd (k1.trans k2.symm) (hp q q' l1 l2 h4)
    · exact h4
    · exact absurd (k2.trans k1.symm) (hp q' q l2 l1 h4)
  have hmem : ∀ (q : Nat) r, R[q]? = some r → r.1 ∈ R.map (·.1) := fun q r h1 => List.mem_map.2 ⟨r, List.mem_of_getElem? h1, rfl⟩
  have hll : (R.foldl (fun l r => l.set r.1 .emp) l).length = l.length := by
    have : ∀ (R : List (Nat × Value × β)) (l : List Asr), (R.foldl (fun l r => l.set r.1 .emp) l).length = l.length := fun R => by
      induction R with
      | nil => intro l; rfl
      | cons r R ih => intro l; rw [List.foldl_cons, ih, List.length_set]
    exact this R l
  refine ⟨below_step h.hB hbW, fun b => if b < W.heap.size then (if f b ∈ R.map (·.1) then l.length else f b) else l.length, fun k C hk => ?_⟩
  rcases Nat.lt_or_ge k l.length with h1 | h1
  · rw [List.getElem?_append_left (by rw [hll]; exact h1), foldl_emp (fun r : Nat × Value × β => r.1)] at hk
    split at hk
    · obtain ⟨_, _, rfl⟩ := Option.map_eq_some_iff.1 hk
      exact trivial
    · rename_i hkR
      refine C.step (hf k C hk) hbW.size fun b h2 h3 => ⟨hbW.block b h3, ?_, h2.2⟩
      show (if b < W.heap.size then (if f b ∈ R.map (·.1) then l.length else f b) else l.length) = k
      rw [if_pos h3, h2.1, if_neg hkR]
  · rw [List.getElem?_append_right (by rw [hll]; exact h1)] at hk
    have h2 : k - (R.foldl (fun l r => l.set r.1 .emp) l).length = 0 := by
      have := (List.getElem?_eq_some_iff.1 hk).1
      simp at this
      omega
    rw [h2] at hk
    have hC : Asr.rows K e (.slice (some ⟨W.heap.size, 0, none⟩) R.length R.length) (R.map (·.2.2)) = C := by simpa using hk
    subst hC
    have hkl : k = l.length := by omega
    subst hkl
    classical
    obtain ⟨g, hg⟩ : ∃ g : Nat → Nat, ∀ (q : Nat) r b, R[q]? = some r → f b = r.1 → g b = q := by
      refine ⟨fun b => if hx : ∃ (q : Nat) (r : Nat × Value × β), R[q]? = some r ∧ f b = r.1 then Classical.choose hx else 0, fun q r b hr hb => ?_⟩
      have hx : ∃ (q : Nat) (r : Nat × Value × β), R[q]? = some r ∧ f b = r.1 := ⟨q, r, hr, hb⟩
      refine (dif_pos hx).trans ?_
      obtain ⟨r2, h3, h4⟩ := Classical.choose_spec hx
      exact hinj _ _ _ _ h3 hr (h4.symm.trans hb)
    refine ⟨g, fun b hb => ?_, R.map (·.2.1), ⟨?_, .inr ⟨W.heap.size, R.length, (R.map (·.2.1)).toArray, ?_, Nat.zero_le _, hnew, ?_, hn, ?_, ?_⟩⟩, ?_, fun q p hq => ?_⟩
    · have hb2 : W.heap.size = b := by simpa [Value.ownBlock] using hb
      subst hb2
      exact ⟨if_neg (Nat.lt_irrefl _), hw, fun hx => Nat.lt_irrefl _ (hX _ hx)⟩
    · show (R.map (·.2.1)).length = (R.map (·.2.2)).zipIdx.length * K.sz
      rw [hK, List.length_map, List.length_zipIdx, List.length_map, Nat.mul_one]
    · rw [List.length_zipIdx, List.length_map]
    · rw [List.length_zipIdx, List.length_map]; exact Nat.le_refl _
    · show (R.map (·.2.1)).toArray.size = R.length * K.sz
      rw [hK, List.size_toArray, List.length_map, Nat.mul_one]
    · show ((R.map (·.2.1)).toArray.toList.take ((R.map (·.2.2)).zipIdx.length * K.sz)) = R.map (·.2.1)
      rw [hK, List.length_zipIdx, List.length_map, Nat.mul_one]
      exact List.take_of_length_le (by simp)
    · show (R.map (·.2.1)).length = (R.map (·.2.2)).zipIdx.length * K.sz
      rw [hK, List.length_map, List.length_zipIdx, List.length_map, Nat.mul_one]
    · rw [List.getElem?_zipIdx, List.getElem?_map] at hq
      obtain ⟨x, hx, rfl⟩ := Option.map_eq_some_iff.1 hq
      obtain ⟨r, hr, rfl⟩ := Option.map_eq_some_iff.1 hx
      obtain ⟨A, hA, hM⟩ := hR q r hr
      have hsz : (Kd.tag g K).sz = 1 := hK
      rw [hsz]
      have hin : ((R.map (·.2.1)).drop (q * 1)).take 1 = [r.2.1] := by
        have hj : (R.map (·.2.1))[q]? = some r.2.1 := by rw [List.getElem?_map, hr]; rfl
        have hjl := (List.getElem?_eq_some_iff.1 hj).1
        rw [Nat.mul_one, List.drop_eq_getElem_cons hjl, List.take_succ_cons, List.take_zero, (List.getElem?_eq_some_iff.1 hj).2]
      rw [hin]
      have hM1 := hM _ (Asr.mono (hf r.1 A hA) (ok' := fun b => (f b = r.1 ∧ w.heap.size ≤ b ∧ ¬ X b) ∧ b < W.heap.size) fun b h1 h2 => ⟨h1, h2⟩)
      have hM2 := K.M_move (w1 := W1) (fun b hb => hbW.block b hb.2) hM1
      refine K.M_mono (fun b hb => ?_) hM2
      have h5 : b ≠ W.heap.size := by have := hb.2; omega
      refine ⟨⟨⟨?_, hb.1.2⟩, ?_⟩, ?_⟩
      · show (if b < W.heap.size then (if f b ∈ R.map (·.1) then l.length else f b) else l.length) = l.length
        rw [if_pos hb.2, hb.1.1, if_pos (hmem q r hr)]
      · intro e1
        have e2 : some b = some W.heap.size := e1
        injection e2 with e2
        exact h5 e2
      · show g b = 0 + q
        rw [Nat.zero_add]
        exact hg q r b hr hb.1.1
end Go.Proofs.YtlemkghpcbkcpaaOwn
/-! text YtlemkghpcbkcpaaAkBase -/
namespace Go.Proofs.YtlemkghpcbkcpaaHand
open Go.RowKit Go.Proofs.YtlemkghpcbkcpaaW.PrintWords Go.Proofs.YtlemkghpcbkcpaaW.PrintLast Go.Proofs.YtlemkghpcbkcpaaMath Go.Proofs.YtlemkghpcbkcpaaOwn Go.Proofs.Ytlemkghpcbkcpaa.PAtmostKeeps
set_option linter.unusedVariables false
set_option linter.unusedSimpArgs false
theorem lent_calls (A : Option Addr) (c : Nat) (l : List Int) (w : World) (hr : Kd.C (Kd.int .i64) w A l.length l) (hc : l.length ≤ c) (hn : l.length ≤ 4398046511104) :
    Calls Try.prog 22 #[.slice A l.length c] w fun e w' => ∃ v : Value, e = .returned v ∧ Kd.R (Kd.int .i64) 3 w' w.heap.size (fun _ => True) v (lentOf l) ∧ Below w.heap.size w w' := by
  obtain ⟨k, h⟩ := (depotkit_Lent_ev l (by omega)).rounds
  exact depotkit_Lent.calls k A c l _ w hr hc h
theorem kept_calls (A B : Option Addr) (n c d : Nat) (l : List Int) (w : World) (hn : n = (lentOf l).length) (hr : Kd.C (Kd.int .i64) w A (lentOf l).length (lentOf l)) (hc : n ≤ c) (hs : Kd.C (Kd.int .i64) w B l.length l) (hd : l.length ≤ d) (hl : l.length ≤ 4398046511104) :
    Calls Try.prog 24 #[.slice A n c, .slice B l.length d] w fun e w' => e = .returned (.bool true) ∧ Drawn0 w w' := by
  obtain ⟨k, h⟩ := (depotkit_Kept_ev l (by omega)).rounds
  subst hn
  exact depotkit_Kept.calls k A c (lentOf l) B d l _ w hr hc hs hd h
theorem lent_take (l : List Int) : (lentOf l).take l.length = l := List.take_left
theorem own_raise {w : World} {base : Nat} {e : TypeId} {size n : Nat} {v : Value} {xs : List Value} (h : w.ownsRow 0 e size v n xs) (hb : ∀ k, v.ownBlock = some k → base ≤ k) : w.ownsRow base e size v n xs := by
  obtain ⟨h1, h2⟩ := h
  refine ⟨h1, ?_⟩
  rcases h2 with h2 | ⟨g, cap, cur, rfl, hg, r⟩
  · exact .inl h2
  · exact .inr ⟨g, cap, cur, rfl, hb g rfl, r⟩
theorem R_raise {w : World} {base : Nat} {e : Nat} {v : Value} {xs : List Int} {ok : Nat → Prop} (h : Kd.R (Kd.int .i64) e w 0 ok v xs) (hb : ∀ k, ok k → base ≤ k) : Kd.R (Kd.int .i64) e w base ok v xs := by
  obtain ⟨h0, inner, ho, hr⟩ := h
  exact ⟨h0, inner, own_raise ho fun k hk => hb k (h0 k hk), hr⟩
/-- a lent list is written over -/
theorem over_calls {w0 w : World} {X : Nat → Prop} {l : List Asr} {v : Value} {xs : List Int} (h : Sep w0 X l w) (i : Nat) (hi : l[i]? = some (.row (Kd.int .i64) 3 v xs)) (hX : ∀ b, X b → b < w.heap.size) (hn : xs.length < 17592186044416) :
    Calls Try.prog 26 #[v] w fun e w' => e = .returned (.tuple #[]) ∧ ∃ ys : List Int, ys.length = xs.length ∧ Sep w0 X (l.set i (.row (Kd.int .i64) 3 v ys)) w' := by
  obtain ⟨r, hr, hev⟩ := depotkit_Over_ev xs hn
  obtain ⟨k, hk⟩ := hev.rounds
  have hR := Kd.R_tight rfl (R_raise (h.get i hi) (fun k hk => hk.1))
  refine (depotkit_Over.calls k (fun k => some k = v.ownBlock) v xs r w0 w h.hB hR hk).mono ?_
  rintro e w' ⟨rfl, hR', hB', hK⟩
  refine ⟨rfl, r, hr, h.upd i hi (M := fun k => some k = v.ownBlock) ⟨hB'.os.trans h.hB.os.symm, hB'.tape.trans h.hB.tape.symm, hB'.output.trans h.hB.output.symm, hK.1, fun k h1 h2 => hK.2 k h1 h2⟩ hX (fun ok hA k hk _ => hA.1 k hk.symm) fun ok hA hnew => ?_⟩
  exact Kd.R_mono (Kd.R_lower hR' (Nat.zero_le _)) fun k hk => hk.elim (fun h => hA.1 k h.symm) (hnew k)
/-- what stands in a lent list's first places -/
theorem head_C {w W : World} {X : Nat → Prop} {L : List Asr} {Ax : Option Addr} {n c : Nat} {xs : List Int} (h : Sep w X L W) (i : Nat) (hi : L[i]? = some (.row (Kd.int .i64) 3 (.slice Ax n c) xs)) {m : Nat} {ys : List Int} (hm : m ≤ xs.length) (hy : xs.take m = ys) (hl : ys.length = m) : Kd.C (Kd.int .i64) W Ax ys.length ys := by
  have h2 := (Kd.R_reads' (h.get i hi)).2.2
  have h3 := Kd.C_take h2 hm
  rw [hy] at h3
  exact h3
theorem row_len {w W : World} {X : Nat → Prop} {L : List Asr} {Ax : Option Addr} {n c : Nat} {xs : List Int} (h : Sep w X L W) (i : Nat) (hi : L[i]? = some (.row (Kd.int .i64) 3 (.slice Ax n c) xs)) : n = xs.length ∧ n ≤ c ∧ Kd.C (Kd.int .i64) W Ax xs.length xs := Kd.R_reads' (h.get i hi)
theorem lentB_calls (A : Option Addr) (c : Nat) (l : List Bool) (w : World) (hr : Kd.C Kd.bool w A l.length l) (hc : l.length ≤ c) (hn : l.length ≤ 4398046511104) :
    Calls Try.prog 23 #[.slice A l.length c] w fun e w' => ∃ v : Value, e = .returned v ∧ Kd.R Kd.bool 4 w' w.heap.size (fun _ => True) v (lentB l) ∧ Below w.heap.size w w' := by
  obtain ⟨k, h⟩ := (depotkit_LentBools_ev l (by omega)).rounds
  exact depotkit_LentBools.calls k A c l _ w hr hc h
theorem keptB_calls (A B : Option Addr) (n c d : Nat) (l : List Bool) (w : World) (hn : n = (lentB l).length) (hr : Kd.C Kd.bool w A (lentB l).length (lentB l)) (hc : n ≤ c) (hs : Kd.C Kd.bool w B l.length l) (hd : l.length ≤ d) (hl : l.length ≤ 4398046511104) :
    Calls Try.prog 25 #[.slice A n c, .slice B l.length d] w fun e w' => e = .returned (.bool true) ∧ Drawn0 w w' := by
  obtain ⟨k, h⟩ := (depotkit_KeptBools_ev l (by omega)).rounds
  subst hn
  exact depotkit_KeptBools.calls k A c (lentB l) B d l _ w hr hc hs hd h
theorem lentB_take (l : List Bool) : (lentB l).take l.length = l := List.take_left
theorem R_raiseB {w : World} {base : Nat} {e : Nat} {v : Value} {xs : List Bool} {ok : Nat → Prop} (h : Kd.R Kd.bool e w 0 ok v xs) (hb : ∀ k, ok k → base ≤ k) : Kd.R Kd.bool e w base ok v xs := by
  obtain ⟨h0, inner, ho, hr⟩ := h
  exact ⟨h0, inner, own_raise ho fun k hk => hb k (h0 k hk), hr⟩
/-- a lent list is written over -/
theorem overB_calls {w0 w : World} {X : Nat → Prop} {l : List Asr} {v : Value} {xs : List Bool} (h : Sep w0 X l w) (i : Nat) (hi : l[i]? = some (.row Kd.bool 4 v xs)) (hX : ∀ b, X b → b < w.heap.size) (hn : xs.length < 140737488355328) :
    Calls Try.prog 27 #[v] w fun e w' => e = .returned (.tuple #[]) ∧ ∃ ys : List Bool, ys.length = xs.length ∧ Sep w0 X (l.set i (.row Kd.bool 4 v ys)) w' := by
  obtain ⟨r, hr, hev⟩ := depotkit_OverBools_ev xs hn
  obtain ⟨k, hk⟩ := hev.rounds
  have hR := Kd.R_tight rfl (R_raiseB (h.get i hi) (fun k hk => hk.1))
  refine (depotkit_OverBools.calls k (fun k => some k = v.ownBlock) v xs r w0 w h.hB hR hk).mono ?_
  rintro e w' ⟨rfl, hR', hB', hK⟩
  refine ⟨rfl, r, hr, h.upd i hi (M := fun k => some k = v.ownBlock) ⟨hB'.os.trans h.hB.os.symm, hB'.tape.trans h.hB.tape.symm, hB'.output.trans h.hB.output.symm, hK.1, fun k h1 h2 => hK.2 k h1 h2⟩ hX (fun ok hA k hk _ => hA.1 k hk.symm) fun ok hA hnew => ?_⟩
  exact Kd.R_mono (Kd.R_lower hR' (Nat.zero_le _)) fun k hk => hk.elim (fun h => hA.1 k h.symm) (hnew k)
/-- what stands in a lent list's first places -/
theorem head_CB {w W : World} {X : Nat → Prop} {L : List Asr} {Ax : Option Addr} {n c : Nat} {xs : List Bool} (h : Sep w X L W) (i : Nat) (hi : L[i]? = some (.row Kd.bool 4 (.slice Ax n c) xs)) {m : Nat} {ys : List Bool} (hm : m ≤ xs.length) (hy : xs.take m = ys) (hl : ys.length = m) : Kd.C Kd.bool W Ax ys.length ys := by
  have h2 := (Kd.R_reads' (h.get i hi)).2.2
  have h3 := Kd.C_take h2 hm
  rw [hy] at h3
  exact h3
theorem row_lenB {w W : World} {X : Nat → Prop} {L : List Asr} {Ax : Option Addr} {n c : Nat} {xs : List Bool} (h : Sep w X L W) (i : Nat) (hi : L[i]? = some (.row Kd.bool 4 (.slice Ax n c) xs)) : n = xs.length ∧ n ≤ c ∧ Kd.C Kd.bool W Ax xs.length xs := Kd.R_reads' (h.get i hi)
abbrev rI (v : Value) (xs : List Int) : Asr := .row (Kd.int .i64) 3 v xs
abbrev rB (v : Value) (xs : List Bool) : Asr := .row Kd.bool 4 v xs
abbrev sC (v : Value) (xs : List (List Int)) : Asr := .rows (Kd.slice 3 (Kd.int .i64)) 33 v xs
abbrev fC (A : Option Addr) (xs : List (List Int)) : Asr := .foot fun W => Kd.C (Kd.slice 3 (Kd.int .i64)) W A xs.length xs
theorem atmost_n {n : Nat} {l : List Int} (hn : n = l.length) (A0 : Option Addr) (c0 : Nat) (k first : Int) (w : World) (hr0 : Kd.C (Kd.int .i64) w A0 l.length l) (hl : n ≤ 17592186044416) (hkb : -9223372036854775808 ≤ k ∧ k ≤ 9223372036854775807) :
    Calls Try.prog 17 #[.slice A0 n c0, .int .i64 k, .int .i64 first] w fun e w' => ∃ v : Value, e = .returned (.tuple #[v, .int .i64 (atmostOf l k first).2.1, .int .i64 (atmostOf l k first).2.2]) ∧ (sC v (atmostOf l k first).1).P w' (fun b => w.heap.size ≤ b) ∧ Below w.heap.size w w' := by
  subst hn
  refine (atmost_calls A0 c0 l k first w hr0 hl hkb).mono ?_
  rintro e w' ⟨v, rfl, hS, hB⟩
  exact ⟨v, rfl, rows_of hS, hB⟩
theorem ref_n {n : Nat} {l : List Int} (hn : n = l.length) (A0 : Option Addr) (c0 : Nat) (k first : Int) (w : World) (hr0 : Kd.C (Kd.int .i64) w A0 l.length l) (hc0 : n ≤ c0) (hl : n ≤ 17592186044416) (hkb : k ≤ 9223372036854775807) :
    Calls Try.prog 19 #[.slice A0 n c0, .int .i64 k, .int .i64 first] w fun e w' => ∃ (A : Option Addr) (c : Nat), e = .returned (.tuple #[.slice A (atmostOf l k first).1.length c, .int .i64 (atmostOf l k first).2.1, .int .i64 (atmostOf l k first).2.2]) ∧ (atmostOf l k first).1.length ≤ c ∧ (fC A (atmostOf l k first).1).P w' (fun b => w.heap.size ≤ b) ∧ Below w.heap.size w w' := by
  subst hn
  obtain ⟨q, h⟩ := (depotref27_AtMost_ev l k first hl hkb).rounds
  refine (depotref27_AtMost.calls q A0 c0 l k first _ _ _ w hr0 hc0 h).mono ?_
  rintro e w' ⟨v, rfl, hN, hB⟩
  obtain ⟨A, c, rfl⟩ := Kd.N_slice hN
  exact ⟨A, c, rfl, (Kd.N_reads' hN).2.1, fun W1 _ hk => (Kd.N_F hN) W1 hk, hB⟩
theorem fill_n {n : Nat} {l : List Bool} (hn : n = l.length) (A0 : Option Addr) (c0 : Nat) (k : Int) (w : World) (hr0 : Kd.C Kd.bool w A0 l.length l) (hc0 : n ≤ c0) (hl : n ≤ 1048576) (hk : k ≤ 64) :
    Calls Try.prog 12 #[.slice A0 n c0, .int .i64 k] w fun e w' => ∃ v : Value, e = .returned (.tuple #[v, .int .i64 (fillOf l k).2]) ∧ (rB v (fillOf l k).1).P w' (fun b => w.heap.size ≤ b) ∧ Below w.heap.size w w' := by
  subst hn
  obtain ⟨q, h⟩ := (atmost_Fill_ev l k hl (fun h1 h2 => by
    have h3 : (l.length : Int) * k ≤ 1048576 * 64 := Int.mul_le_mul (by omega) hk h2 (by omega)
    omega)).rounds
  refine (atmost_Fill.calls q A0 c0 l k _ _ w hr0 hc0 h).mono ?_
  rintro e w' ⟨v, rfl, hR, hB⟩
  exact ⟨v, rfl, row_of hR, hB⟩
theorem refFill_n {n : Nat} {l : List Bool} (hn : n = l.length) (A0 : Option Addr) (c0 : Nat) (k : Int) (w : World) (hr0 : Kd.C Kd.bool w A0 l.length l) (hc0 : n ≤ c0) (hl : n ≤ 1048576) (hk : k ≤ 64) :
    Calls Try.prog 14 #[.slice A0 n c0, .int .i64 k] w fun e w' => ∃ v : Value, e = .returned (.tuple #[v, .int .i64 (fillOf l k).2]) ∧ (rB v (fillOf l k).1).P w' (fun b => w.heap.size ≤ b) ∧ Below w.heap.size w w' := by
  subst hn
  obtain ⟨q, h⟩ := (depotref27_Fill_ev l k hl (fun h1 h2 => by
    have h3 : (l.length : Int) * k ≤ 1048576 * 64 := Int.mul_le_mul (by omega) hk h2 (by omega)
    omega)).rounds
  refine (depotref27_Fill.calls q A0 c0 l k _ _ w hr0 hc0 h).mono ?_
  rintro e w' ⟨v, rfl, hR, hB⟩
  exact ⟨v, rfl, row_of hR, hB⟩
theorem copyInts_c (A0 : Option Addr) (c0 : Nat) (l : List Int) (w : World) (hr0 : Kd.C (Kd.int .i64) w A0 l.length l) (hc0 : l.length ≤ c0) (hl : l.length ≤ 1048576) :
    Calls Try.prog 18 #[.slice A0 l.length c0] w fun e w' => ∃ v : Value, e = .returned v ∧ Kd.R (Kd.int .i64) 3 w' w.heap.size (fun _ => True) v l ∧ Below w.heap.size w w' := by
  obtain ⟨q, h⟩ := (depotref00_CopyInts_ev l (by omega)).rounds
  exact depotref00_CopyInts.calls q A0 c0 l _ w hr0 hc0 h
theorem sameClauses_c (A B : Option Addr) (c d : Nat) (L : List (List Int)) (w : World) (hr : Kd.C (Kd.slice 3 (Kd.int .i64)) w A L.length L) (hc : L.length ≤ c) (hs : Kd.C (Kd.slice 3 (Kd.int .i64)) w B L.length L) (hd : L.length ≤ d) (hn : L.length ≤ 17592186044416) (hl : ∀ x ∈ L, x.length ≤ 17592186044416) :
    Calls Try.prog 20 #[.slice A L.length c, .slice B L.length d] w fun e w' => e = .returned (.bool true) ∧ Drawn0 w w' := by
  have hev := depotref00_SameClauses_ev L L hn hl
  rw [beq_self_eq_true] at hev
  obtain ⟨k, h⟩ := hev.rounds
  exact depotref00_SameClauses.calls k A c L B d L _ w hr hc hs hd h
theorem sameBools_c (A B : Option Addr) (c d : Nat) (L : List Bool) (w : World) (hr : Kd.C Kd.bool w A L.length L) (hc : L.length ≤ c) (hs : Kd.C Kd.bool w B L.length L) (hd : L.length ≤ d) (hn : L.length ≤ 140737488355328) :
    Calls Try.prog 15 #[.slice A L.length c, .slice B L.length d] w fun e w' => e = .returned (.bool true) ∧ Drawn0 w w' := by
  have hev := depotref00_SameBools_ev L L hn
  rw [beq_self_eq_true] at hev
  obtain ⟨k, h⟩ := hev.rounds
  exact depotref00_SameBools.calls k A c L B d L _ w hr hc hs hd h
theorem midAt_small (l : List Int) (k : Nat) (first : Int) (m : Nat) : ∀ x ∈ midAt l k first m, x.length ≤ 3 := by
  intro x hx
  simp only [midAt, List.mem_append, List.mem_cons, List.not_mem_nil, or_false, List.mem_flatMap] at hx
  rcases hx with ((rfl | rfl) | ⟨h, _, rfl | rfl⟩) | rfl <;> simp
theorem atmostOf_small (l : List Int) (k first : Int) (hl : l.length ≤ 1048576) (hk : k ≤ 65) : (atmostOf l k first).1.length ≤ 1073741824 ∧ ∀ x ∈ (atmostOf l k first).1, x.length ≤ 3 := by
  unfold atmostOf
  split
  · simp
  split
  · simp
  split
  · simp
  split
  · rename_i h1 h2 h3 h4
    by_cases hz : k.toNat = 0
    · rw [hz, clausesOf_zero]
      exact ⟨by rw [List.length_map]; omega, fun x hx => by obtain ⟨y, _, rfl⟩ := List.mem_map.1 hx; simp⟩
    · constructor
      · rw [clausesOf_length l k.toNat first (by omega) (by omega)]
        have : (l.length - 2) * (2 * k.toNat + 1) ≤ 1048576 * 131 := Nat.mul_le_mul (by omega) (by omega)
        omega
      · intro x hx
        unfold clausesOf at hx
        rw [if_neg hz] at hx
        simp only [List.mem_append, List.mem_cons, List.not_mem_nil, or_false, List.mem_flatMap, List.mem_map] at hx
        rcases hx with ((rfl | ⟨j, _, rfl⟩) | ⟨m, _, hx⟩) | rfl
        · simp
        · simp
        · exact midAt_small l k.toNat first m x hx
        · simp
  · simp
theorem fillOf_small (l : List Bool) (k : Int) (hl : l.length ≤ 1048576) (hk : k ≤ 64) : (fillOf l k).1.length ≤ 1073741824 := by
  unfold fillOf
  split
  · simp
  split
  · simp
  · rw [fillF_length, List.length_take]
    have : min (l.length - 1) l.length * k.toNat ≤ 1048576 * 64 := Nat.mul_le_mul (by omega) (by omega)
    omega
end Go.Proofs.YtlemkghpcbkcpaaHand
