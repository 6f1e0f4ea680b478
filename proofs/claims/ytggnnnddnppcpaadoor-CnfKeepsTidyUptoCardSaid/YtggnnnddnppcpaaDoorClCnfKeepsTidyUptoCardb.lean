/- Rows that lie apart, in the print's words: several pushed at once; told row by row for ApartInts and its like. -/
import Derived.Test.YtggnnnddnppcpaaDoorClCnfKeepsTidyUptoCarda
import Derived.Test.YtggnnnddnppcpaaDoorClCnfKeepsTidyUptoCardp2
import Derived.Test.YtggnnnddnppcpaaDoorClCnfKeepsTidyUptoCardp6
/-! text YtggnnnddnppcpaaDoorLot -/
namespace Go.Proofs.YtggnnnddnppcpaaDoorOwn
open Go Go.RowKit Go.Proofs.YtggnnnddnppcpaaDoorW.PrintWords
set_option linter.unusedVariables false
set_option linter.unusedSimpArgs false
theorem drop_add_left {α : Type} (cs ds : List α) (m : Nat) : (cs ++ ds).drop (cs.length + m) = ds.drop m := by
  rw [← List.drop_drop, List.drop_left]
theorem reps_append {α : Type} {R : α → List Value → Prop} {size : Nat} {ps qs : List α} {cs ds : List Value} (h : Reps R size ps cs) (k : Reps R size qs ds) : Reps R size (ps ++ qs) (cs ++ ds) := by
  refine ⟨by rw [List.length_append, h.1, k.1, List.length_append, Nat.add_mul], fun j q hq => ?_⟩
  rcases Nat.lt_or_ge j ps.length with hj | hj
  · rw [List.getElem?_append_left hj] at hq
    have h1 : j * size + size ≤ cs.length := by rw [h.1, ← Nat.succ_mul]; exact Nat.mul_le_mul_right _ hj
    rw [List.drop_append_of_le_length (by omega), List.take_append_of_le_length (by rw [List.length_drop]; omega)]
    exact h.2 j q hq
  · obtain ⟨m, rfl⟩ : ∃ m, j = ps.length + m := ⟨j - ps.length, by omega⟩
    rw [List.getElem?_append_right hj, Nat.add_sub_cancel_left] at hq
    rw [Nat.add_mul, ← h.1, drop_add_left]
    exact k.2 m q hq
section
variable {α : Type} {d : Kd α} {e : Nat} {W w1 : World} {base : Nat} {ok : Nat → Prop} {v v1 : Value} {xs ys : List α}
/-- several pushed at once: where the append is done -/
theorem R_appendeds {inner news : List Value} (h0 : ∀ k, v.ownBlock = some k → ok k) (hr : Reps (d.M W base (fun k => ok k ∧ some k ≠ v.ownBlock)) d.sz xs inner)
    (hn : Reps (d.M W base (fun k => ok k ∧ some k ≠ v.ownBlock)) d.sz ys news) (hfresh : ∀ k, W.heap.size ≤ k → ok k)
    (hown : w1.ownsRow base e d.sz v1 (xs.length + ys.length) (inner ++ news)) (hg : W.grownBy w1 v.ownBlock) (hat : v1.ownBlock = v.ownBlock ∨ ∃ b, v1.ownBlock = some b ∧ W.heap.size ≤ b) : d.R e w1 base ok v1 (xs ++ ys) := by
  have hne : ∀ k, some k ≠ v.ownBlock → k < W.heap.size → some k ≠ v1.ownBlock := by
    intro k hk hlt
    rcases hat with hat | ⟨b, hb, hle⟩
    · rw [hat]; exact hk
    · rw [hb]
      intro he
      injection he with he
      omega
  have step : ∀ {q : α} {c : List Value}, d.M W base (fun k => ok k ∧ some k ≠ v.ownBlock) q c → d.M w1 base (fun k => ok k ∧ some k ≠ v1.ownBlock) q c := by
    intro q c hq
    have h1 := d.M_move (w1 := w1) (fun k hk => hg.block k hk.2.2.1 hk.1.2) (d.M_bound hq)
    exact d.M_mono (fun k hk => ⟨hk.1.1, hne k hk.1.2 hk.2.2.1⟩) h1
  refine ⟨fun k hk => ?_, inner ++ news, by rw [List.length_append]; exact hown, ?_⟩
  · rcases hat with hat | ⟨b, hb, hle⟩
    · exact h0 k (hat ▸ hk)
    · rw [hb] at hk
      injection hk with hk
      exact hfresh k (by omega)
  · exact (reps_append hr hn).imp_ fun _ _ hq => step hq
open Classical in
/-- the new ones' blocks: of the j-th okj j -/
theorem S_tags (h : Kd.S d e W base ok v xs) (okj : Nat → Nat → Prop) (hap : ∀ j k, okj j k → ¬ ok k) (hdis : ∀ i j k, okj i k → okj j k → i = j) :
    ∃ f, (∀ j k, okj j k → f k = xs.length + j) ∧ (Kd.tag f d).R e W base ok v xs.zipIdx := by
  obtain ⟨f, h⟩ := h
  refine ⟨fun k => if hx : ∃ j, okj j k then xs.length + Classical.choose hx else f k, fun j k hk => ?_, ?_⟩
  · have hx : ∃ j, okj j k := ⟨j, hk⟩
    have h1 : (if hx : ∃ j, okj j k then xs.length + Classical.choose hx else f k) = xs.length + Classical.choose hx := dif_pos hx
    exact h1.trans (by rw [hdis _ _ _ (Classical.choose_spec hx) hk])
  · exact Kd.R_tag h (fun k hk _ => dif_neg (fun ⟨j, h2⟩ => hap j k h2 hk))
/-- several pushed at once -/
theorem S_pushes {P : Program} (t ty : TypeId) (z : Value) (bytes : Nat) (ht : P.underlying t = some (.slice e)) (hinfo : (P.info? e).map (fun i => (i.zero, i.size, i.bytes)) = some (some z, d.sz, bytes)) (hz : z.cells.size = d.sz) (hs0 : 0 < d.sz)
    (okj : Nat → Nat → Prop) (hdis : ∀ i j k, okj i k → okj j k → i = j) (hokj : ∀ j k, okj j k → ok k ∧ some k ≠ v.ownBlock) (hfresh : ∀ k, W.heap.size ≤ k → ok k)
    (HO : Kd.S d e W base (fun k => ok k ∧ ∀ j, ¬ okj j k) v xs) {news : List Value} (hnl : news.length = ys.length * d.sz) (hn : ∀ j p, ys[j]? = some p → d.M W base (okj j) p ((news.drop (j * d.sz)).take d.sz))
    {ad : Addr} {m c : Nat} (hm : ys.length = m) (hnews : ∀ j u, news[j]? = some u → W.cell? (ad.add j) = some u) (h63 : xs.length + m ≤ maxLen) (hbytes : (xs.length + m) * bytes ≤ 140737488355328) (hbase : base ≤ W.heap.size) :
    ∃ v1 w1, (Builtin.append_ #[t, t] ty #[v, .slice (some ad) m c]).run P W = .ok v1 w1 ∧ Kd.S d e w1 base ok v1 (xs ++ ys) ∧ W.grownBy w1 v.ownBlock ∧ (v1.ownBlock = v.ownBlock ∨ v1.ownBlock = some W.heap.size) := by
  obtain ⟨f, hf, hR⟩ := S_tags HO okj (fun j k hk h => h.2 j hk) hdis
  obtain ⟨h0, inner, ho, hr⟩ := hR
  have ho' : W.ownsRow base e d.sz v xs.length inner := by have := ho; rw [List.length_zipIdx] at this; exact this
  obtain ⟨i, hi, hzz⟩ := Option.map_eq_some_iff.1 hinfo
  simp only [Prod.mk.injEq] at hzz
  obtain ⟨hz0, hz1, hz2⟩ := hzz
  subst hm
  have hone : ∀ u ∈ news, u.oneCell' = true := fun u hu => by
    obtain ⟨q, hq⟩ := List.getElem?_of_mem hu
    have hql := (List.getElem?_eq_some_iff.1 hq).1
    have hj : q / d.sz < ys.length := Nat.div_lt_of_lt_mul (by rw [Nat.mul_comm]; omega)
    have hM := hn (q / d.sz) _ (List.getElem?_eq_getElem hj)
    refine d.K_one (d.K_of_M hM) u (List.mem_of_getElem? (i := q % d.sz) ?_)
    rw [List.getElem?_take, if_pos (Nat.mod_lt _ hs0), List.getElem?_drop, Nat.mul_comm, Nat.div_add_mod]
    exact hq
  obtain ⟨v1, w1, hrun, hown, hg, _, hat⟩ := run_append_own_at (P := P) W base t ty e i z d.sz bytes ht hi hz0 hz1 hz2 hz hs0 v xs.length inner ho' ad ys.length c news hnl hnews hone h63 hbytes hbase
  refine ⟨v1, w1, hrun, ⟨f, ?_⟩, hg, hat⟩
  rw [List.zipIdx_append]
  refine R_appendeds (d := Kd.tag f d) (inner := inner) (news := news) (fun k hk => (h0 k hk).1) (hr.imp_ fun p c hp => (Kd.tag f d).M_mono (fun k hk => ⟨hk.1.1, hk.2⟩) hp) ?_ hfresh (by rw [List.length_zipIdx, List.length_zipIdx]; exact hown) hg (hat.imp id fun h => ⟨_, h, Nat.le_refl _⟩)
  refine ⟨by rw [List.length_zipIdx]; exact hnl, fun j p hp => ?_⟩
  rw [List.getElem?_zipIdx] at hp
  obtain ⟨q, hq, rfl⟩ := Option.map_eq_some_iff.1 hp
  exact d.M_mono (fun k hk => ⟨hokj j k hk, by rw [hf j k hk, Nat.zero_add]⟩) (hn j q hq)
/-- one pushed, out of a block of its own -/
theorem S_push {P : Program} (t ty : TypeId) (z : Value) (bytes : Nat) (ht : P.underlying t = some (.slice e)) (hinfo : (P.info? e).map (fun i => (i.zero, i.size, i.bytes)) = some (some z, d.sz, bytes)) (hz : z.cells.size = d.sz) (hs0 : 0 < d.sz)
    {okp : Nat → Prop} (hokp : ∀ k, okp k → ok k ∧ some k ≠ v.ownBlock) (hfresh : ∀ k, W.heap.size ≤ k → ok k)
    (HO : Kd.S d e W base (fun k => ok k ∧ ¬ okp k) v xs) {p : α} {cs : List Value} (hp : d.M W base okp p cs)
    {ad : Addr} {c : Nat} (hnews : ∀ j u, cs[j]? = some u → W.cell? (ad.add j) = some u) (h63 : xs.length + 1 ≤ maxLen) (hbytes : (xs.length + 1) * bytes ≤ 140737488355328) (hbase : base ≤ W.heap.size) :
    ∃ v1 w1, (Builtin.append_ #[t, t] ty #[v, .slice (some ad) 1 c]).run P W = .ok v1 w1 ∧ Kd.S d e w1 base ok v1 (xs ++ [p]) ∧ W.grownBy w1 v.ownBlock ∧ (v1.ownBlock = v.ownBlock ∨ v1.ownBlock = some W.heap.size) := by
  have hl := d.K_len (d.K_of_M hp)
  refine S_pushes t ty z bytes ht hinfo hz hs0 (fun j k => j = 0 ∧ okp k) (fun i j k h1 h2 => by rw [h1.1, h2.1]) (fun j k h => hokp k h.2) hfresh (Kd.S_mono HO fun k hk => ⟨hk.1, fun j h => hk.2 h.2⟩) (ys := [p]) (news := cs) (by simpa using hl) (fun j q hq => ?_) rfl hnews h63 hbytes hbase
  have hj : j = 0 := by
    have := (List.getElem?_eq_some_iff.1 hq).1
    simp at this
    exact this
  subst hj
  have : q = p := by simpa using hq.symm
  subst this
  rw [Nat.zero_mul, List.drop_zero, List.take_of_length_le (by omega)]
  exact d.M_mono (fun k hk => ⟨rfl, hk⟩) hp
end
/-- rows of one cell an element, told row by row -/
theorem S_rows {α : Type} (enc : α → Value) (h1 : ∀ x, (enc x).oneCell' = true) {t e : Nat} {W : World} {base : Nat} {ok : Nat → Prop} {v : Value} {xs : List (List α)} (h : Kd.S (Kd.slice t (Kd.scalar enc h1)) e W base ok v xs) :
    ∃ (rows : List (Value × Nat)) (f : Nat → Nat), rows.length = xs.length ∧ (∀ b, MR rows b → ok b ∧ b < W.heap.size ∧ some b ≠ v.ownBlock) ∧ W.ownsRow base e 1 v xs.length (rows.map (·.1)) ∧
      ∀ (i : Nat) r x, rows[i]? = some r → xs[i]? = some x → r.2 = x.length ∧ At f i t W r.1 r.2 (x.map enc) := by
  obtain ⟨f, h0, inner, ho, hr⟩ := h
  rw [List.length_zipIdx] at ho
  have hsz : (Kd.tag f (Kd.slice t (Kd.scalar enc h1))).sz = 1 := rfl
  rw [hsz] at ho hr
  have hil : inner.length = xs.length := by have := ho.1; omega
  have hrow : ∀ (i : Nat) x u, xs[i]? = some x → inner[i]? = some u → (∀ b, u.ownBlock = some b → ok b ∧ some b ≠ v.ownBlock) ∧ At f i t W u x.length (x.map enc) := fun i x u hx hu => by
    obtain ⟨u', hu', hR⟩ := hr.2 i (x, i) (Kd.zip_at hx)
    have e1 : u' = u := by
      have h3 : ((inner.drop (i * 1)).take 1)[0]? = some u' := by rw [hu']; rfl
      rw [Nat.mul_one, List.getElem?_take, if_pos (by omega), List.getElem?_drop, Nat.add_zero, hu] at h3
      injection h3 with h3
      exact h3.symm
    subst e1
    obtain ⟨g0, inn, gown, gr⟩ := hR
    have e2 : inn = x.map enc := by
      have hl : inn.length = x.length := by have h9 : inn.length = x.length * 1 := gown.1; omega
      refine List.ext_getElem? fun j => ?_
      rw [List.getElem?_map]
      rcases Nat.lt_or_ge j x.length with hj | hj
      · have h4 := gr.2 j x[j] (List.getElem?_eq_getElem hj)
        have h5 : (inn.drop (j * 1)).take 1 = [enc x[j]] := h4
        have h6 : ((inn.drop (j * 1)).take 1)[0]? = some (enc x[j]) := by rw [h5]; rfl
        rw [Nat.mul_one, List.getElem?_take, if_pos (by omega), List.getElem?_drop, Nat.add_zero] at h6
        rw [h6, List.getElem?_eq_getElem hj]; rfl
      · rw [List.getElem?_eq_none (by omega), List.getElem?_eq_none hj]; rfl
    subst e2
    refine ⟨fun b hb => ⟨(g0 b hb).1.1, (g0 b hb).1.2⟩, own_weaken gown (Nat.zero_le _), fun b hb => (g0 b hb).2⟩
  have hz : (inner.zip (xs.map List.length)).length = xs.length := by rw [List.length_zip, List.length_map]; omega
  have hat : ∀ (i : Nat) r, (inner.zip (xs.map List.length))[i]? = some r → inner[i]? = some r.1 ∧ ∃ x, xs[i]? = some x ∧ r.2 = x.length := fun i r hr => by
    rw [List.getElem?_zip_eq_some] at hr
    obtain ⟨h3, h4⟩ := hr
    rw [List.getElem?_map] at h4
    obtain ⟨x, hx, h5⟩ := Option.map_eq_some_iff.1 h4
    exact ⟨h3, x, hx, h5.symm⟩
  refine ⟨inner.zip (xs.map List.length), f, hz, fun b hb => ?_, ?_, fun i r x hr hx => ?_⟩
  · obtain ⟨r, hr, hb⟩ := hb
    obtain ⟨i, hi⟩ := List.getElem?_of_mem hr
    obtain ⟨h3, x, hx, _⟩ := hat i r hi
    obtain ⟨h4, h5⟩ := hrow i x r.1 hx h3
    exact ⟨(h4 b hb).1, own_lt h5.1 b hb, (h4 b hb).2⟩
  · rw [List.map_fst_zip (by rw [List.length_map]; omega)]
    exact ho
  · obtain ⟨h3, x', hx', h6⟩ := hat i r hr
    rw [hx] at hx'
    injection hx' with hx'
    subst hx'
    obtain ⟨h4, h5⟩ := hrow i x r.1 hx h3
    refine ⟨h6, ?_⟩
    rw [h6]
    exact h5
/-- what ApartInts and its like want at the start -/
theorem AQ.ofS {α : Type} (enc : α → Value) (h1 : ∀ x, (enc x).oneCell' = true) {t e e' : Nat} {W : World} {base : Nat} {ok : Nat → Prop} {A : Option Addr} {n c : Nat} {xs : List (List α)} (h : Kd.S (Kd.slice t (Kd.scalar enc h1)) e W base ok (.slice A n c) xs) :
    ∃ (rows : List (Value × Nat)) (D : List (Value × List Value)), rows.length = xs.length ∧ (∀ b, MR rows b → ok b ∧ b < W.heap.size) ∧ AQ t e' W rows A D (.slice none 0 0) [] (.slice none 0 0) [] [] W ∧
      (∀ (k : Nat) p d, rows[k]? = some p → D[k]? = some d → d.1 = p.1 ∧ d.2.length = p.2) ∧ ∀ p ∈ rows, ∃ x ∈ xs, p.2 = x.length := by
  obtain ⟨rows, f, hl, hM, ho, hrow⟩ := S_rows enc h1 h
  have hD : ∀ (k : Nat) p d, rows[k]? = some p → ((rows.zip xs).map fun q => (q.1.1, q.2.map enc))[k]? = some d → ∃ x, xs[k]? = some x ∧ d = (p.1, x.map enc) := fun k p d hp hd => by
    rw [List.getElem?_map] at hd
    obtain ⟨q, hq, rfl⟩ := Option.map_eq_some_iff.1 hd
    rw [List.getElem?_zip_eq_some] at hq
    rw [hp] at hq
    obtain ⟨h3, h4⟩ := hq
    injection h3 with h3
    exact ⟨q.2, h4, by rw [h3]⟩
  have hf : ∀ b, MR rows b → f b < rows.length := fun b ⟨r, hr, hb⟩ => by
    obtain ⟨i, hi⟩ := List.getElem?_of_mem hr
    have hil := (List.getElem?_eq_some_iff.1 hi).1
    obtain ⟨_, h3⟩ := hrow i r _ hi (List.getElem?_eq_getElem (by omega))
    rw [h3.2 b hb]
    exact hil
  refine ⟨rows, (rows.zip xs).map fun q => (q.1.1, q.2.map enc), hl, fun b hb => ⟨(hM b hb).1, (hM b hb).2.1⟩, ?_, fun k p d hp hd => ?_, fun p hp => ?_⟩
  · classical
    refine AQ.start t e' W rows A _ (fun b => if MR rows b then f b else rows.length) (by simp [List.length_zip, hl]) (fun k p d hp hd => ?_) fun k p hp => ?_
    · obtain ⟨x, hx, rfl⟩ := hD k p d hp hd
      obtain ⟨h3, h4⟩ := hrow k p x hp hx
      refine ⟨rfl, h4.1, fun b hb => ?_⟩
      have hb2 : MR rows b := ⟨p, List.mem_of_getElem? hp, hb⟩
      exact (if_pos hb2).trans (h4.2 b hb)
    · have hin : (rows.map (·.1))[k]? = some p.1 := by rw [List.getElem?_map, hp]; rfl
      have hk := (List.getElem?_eq_some_iff.1 hp).1
      rcases ho.2 with ⟨_, h3⟩ | ⟨g, cap, cur, e1, _, hh, hnc, _, hcs, htk⟩
      · omega
      · injection e1 with e1 _ _
        subst e1
        refine ⟨_, rfl, ?_, ?_⟩
        · show rows.length ≤ if MR rows g then f g else rows.length
          rw [if_neg fun h => (hM g h).2.2 rfl]
          exact Nat.le_refl _
        · rw [add_at, Nat.zero_add, blk_cell hh k]
          rw [← htk, List.getElem?_take] at hin
          split at hin
          · simpa using hin
          · cases hin
  · obtain ⟨x, hx, rfl⟩ := hD k p d hp hd
    exact ⟨rfl, by rw [List.length_map]; exact (hrow k p x hp hx).1.symm⟩
  · obtain ⟨i, hi⟩ := List.getElem?_of_mem hp
    have hil := (List.getElem?_eq_some_iff.1 hi).1
    have hx := List.getElem?_eq_getElem (l := xs) (i := i) (by omega)
    exact ⟨_, List.mem_of_getElem? hx, (hrow i p _ hi hx).1⟩
/-- lists whose elements lie apart, as elements -/
def apartK {α : Type} (e : Nat) (d : Kd α) : Kd (List α) where
  sz := 1
  E := e :: d.E
  K := fun w xs cs => ∃ A c, cs = [.slice A xs.length c] ∧ xs.length ≤ c ∧ d.C w A xs.length xs
  M := fun w base ok xs cs => ∃ v, cs = [v] ∧ Kd.S d e w base ok v xs
  K_len := by
    rintro w x cs ⟨A, c, rfl, _⟩
    rfl
  K_one := by
    rintro w x cs ⟨A, c, rfl, _⟩ u hu
    rw [List.mem_singleton.1 hu]
    rfl
  K_below := by
    rintro w w1 x cs hb ⟨A, c, rfl, hl, hr⟩
    exact ⟨A, c, rfl, hl, Kd.C_below hr hb⟩
  K_of_M := by
    rintro w base ok x cs ⟨v, rfl, h⟩
    obtain ⟨A, c, rfl, hl, hr⟩ := Kd.S_reads h
    exact ⟨A, c, rfl, hl, hr⟩
  M_mono := by
    rintro w base ok ok' x cs hok ⟨v, rfl, h⟩
    exact ⟨v, rfl, Kd.S_mono h hok⟩
  M_bound := by
    rintro w base ok x cs ⟨v, rfl, h⟩
    exact ⟨v, rfl, Kd.S_bound h⟩
  M_move := by
    rintro w w1 base ok x cs hm ⟨v, rfl, h⟩
    exact ⟨v, rfl, Kd.S_move h hm⟩
  M_lower := by
    rintro w base base' ok x cs hb ⟨v, rfl, h⟩
    exact ⟨v, rfl, Kd.S_lower h hb⟩
/-- such a list of lists, list by list -/
theorem S_deep {α : Type} {d : Kd α} {e2 e : Nat} {W : World} {base : Nat} {ok : Nat → Prop} {v : Value} {xs : List (List α)} (h : Kd.S (apartK e2 d) e W base ok v xs) :
    ∃ (vs : List Value) (okj : Nat → Nat → Prop), vs.length = xs.length ∧ W.ownsRow base e 1 v xs.length vs ∧ (∀ k, v.ownBlock = some k → ok k) ∧ (∀ (i : Nat) u x, vs[i]? = some u → xs[i]? = some x → Kd.S d e2 W base (okj i) u x) ∧
      (∀ i k, okj i k → ok k ∧ some k ≠ v.ownBlock ∧ k < W.heap.size) ∧ ∀ i j k, okj i k → okj j k → i = j := by
  obtain ⟨f, h0, inner, ho, hr⟩ := h
  rw [List.length_zipIdx] at ho
  have hsz : (Kd.tag f (apartK e2 d)).sz = 1 := rfl
  rw [hsz] at ho hr
  refine ⟨inner, fun i k => ((ok k ∧ some k ≠ v.ownBlock) ∧ f k = i) ∧ k < W.heap.size, by have := ho.1; omega, ho, h0, fun i u x hu hx => ?_, fun i k hk => ⟨hk.1.1.1, hk.1.1.2, hk.2⟩, fun i j k h1 h2 => h1.1.2.symm.trans h2.1.2⟩
  obtain ⟨u', hu', hS⟩ := hr.2 i (x, i) (Kd.zip_at hx)
  have e1 : u' = u := by
    have h3 : ((inner.drop (i * 1)).take 1)[0]? = some u' := by rw [hu']; rfl
    rw [Nat.mul_one, List.getElem?_take, if_pos (by omega), List.getElem?_drop, Nat.add_zero, hu] at h3
    injection h3 with h3
    exact h3.symm
  subst e1
  exact Kd.S_mono (Kd.S_bound hS) fun k hk => ⟨hk.1, hk.2.2.1⟩
/-- lists that lie apart, behind one another: the second's elements pushed onto the first -/
theorem S_both {α : Type} {d : Kd α} {P : Program} {e t ty : TypeId} {W : World} {base base2 : Nat} {ok ok2 : Nat → Prop} {v u : Value} {xs ys : List α} (z : Value) (bytes : Nat) (ht : P.underlying t = some (.slice e)) (hinfo : (P.info? e).map (fun i => (i.zero, i.size, i.bytes)) = some (some z, d.sz, bytes)) (hz : z.cells.size = d.sz) (hs0 : 0 < d.sz)
    (HO : Kd.S d e W base ok v xs) (HU : Kd.S d e W base2 ok2 u ys) (hdis : ∀ k, ok k → ¬ ok2 k) (hb2 : base ≤ base2) (hbase : base ≤ W.heap.size) (h63 : xs.length + ys.length ≤ maxLen) (hbytes : (xs.length + ys.length) * bytes ≤ 140737488355328) (hy : 0 < ys.length) :
    ∃ v1 w1, (Builtin.append_ #[t, t] ty #[v, u]).run P W = .ok v1 w1 ∧ Kd.S d e w1 base (fun k => ok k ∨ (ok2 k ∧ some k ≠ u.ownBlock) ∨ W.heap.size ≤ k) v1 (xs ++ ys) ∧ W.grownBy w1 v.ownBlock ∧ (v1.ownBlock = v.ownBlock ∨ v1.ownBlock = some W.heap.size) := by
  obtain ⟨f, h0, inner, ho, hr⟩ := Kd.S_bound HU |>.imp fun f h => Kd.R_mono (ok' := fun k => ok2 k ∧ k < W.heap.size) h fun k hk => ⟨hk.1, hk.2.2.1⟩
  rw [List.length_zipIdx] at ho
  have hsz : (Kd.tag f d).sz = d.sz := rfl
  rw [hsz] at ho hr
  obtain ⟨g, cap, rfl, _⟩ := ho.form hy
  have hd : ∀ j k, (f k = j ∧ (ok2 k ∧ k < W.heap.size) ∧ some k ≠ (Value.slice (some ⟨g, 0, none⟩) ys.length cap).ownBlock) → ok2 k := fun j k h => h.2.1.1
  refine S_pushes t ty z bytes ht hinfo hz hs0 (fun j k => f k = j ∧ (ok2 k ∧ k < W.heap.size) ∧ some k ≠ (Value.slice (some ⟨g, 0, none⟩) ys.length cap).ownBlock) (fun i j k h1 h2 => h1.1.symm.trans h2.1) (fun j k h => ⟨.inr (.inl ⟨hd j k h, h.2.2⟩), fun e => ?_⟩) (fun k hk => .inr (.inr hk)) (Kd.S_mono HO fun k hk => ⟨.inl hk, fun j h => hdis k hk (hd j k h)⟩) (ys := ys) (news := inner) ho.1 (fun j p hp => ?_) rfl (ho.cells (g := g) rfl) h63 hbytes hbase
  · have h3 : ok k := (Kd.S_R HO).1 k e.symm
    exact hdis k h3 (hd j k h)
  · have h3 := hr.2 j (p, j) (Kd.zip_at hp)
    exact d.M_mono (fun k hk => ⟨hk.2, hk.1.1, hk.1.2⟩) (d.M_lower hb2 h3)
end Go.Proofs.YtggnnnddnppcpaaDoorOwn
/-! text YtggnnnddnppcpaaDoorSep -/
namespace Go.Proofs.YtggnnnddnppcpaaDoorOwn
open Go Go.RowKit Go.Proofs.YtggnnnddnppcpaaDoorW.PrintWords
set_option linter.unusedVariables false
set_option linter.unusedSimpArgs false
/-- an assertion that speaks of the blocks ok alone -/
structure Asr where
  P : World → (Nat → Prop) → Prop
  step : ∀ {W W1 : World} {ok ok' : Nat → Prop}, P W ok → W.heap.size ≤ W1.heap.size → (∀ k, ok k → k < W.heap.size → W1.heap[k]? = W.heap[k]? ∧ ok' k) → P W1 ok'
namespace Asr
theorem mono {A : Asr} {W : World} {ok ok' : Nat → Prop} (h : A.P W ok) (hk : ∀ k, ok k → k < W.heap.size → ok' k) : A.P W ok' := A.step h (Nat.le_refl _) fun k h1 h2 => ⟨rfl, hk k h1 h2⟩
theorem below {A : Asr} {W W1 : World} {ok : Nat → Prop} (h : A.P W ok) (hb : Below W.heap.size W W1) : A.P W1 ok := A.step h hb.size fun k h1 h2 => ⟨hb.block k h2, h1⟩
/-- nothing -/
def emp : Asr := ⟨fun _ _ => True, fun _ _ _ => trivial⟩
/-- no memory -/
def pure (p : Prop) : Asr := ⟨fun _ _ => p, fun h _ _ => h⟩
/-- a block -/
def blk (b : Nat) (o : Obj) : Asr := ⟨fun W ok => ok b ∧ W.heap[b]? = some o, fun {W W1 ok ok'} h _ hk => by
  have hb : b < W.heap.size := (Array.getElem?_eq_some_iff.1 h.2).1
  exact ⟨(hk b h.1 hb).2, (hk b h.1 hb).1.trans h.2⟩⟩
/-- a row of one's own -/
def row {α : Type} (d : Kd α) (e : Nat) (v : Value) (xs : List α) : Asr := ⟨fun W ok => Kd.R d e W 0 ok v xs, fun {W W1 ok ok'} h _ hk => by
  have h2 := Kd.R_mono (ok' := fun k => ok k ∧ k < W.heap.size) (Kd.R_bound h) fun k hk1 => ⟨hk1.1, hk1.2.2.1⟩
  exact Kd.R_mono (Kd.R_step (w1 := W1) h2 fun k h1 _ => (hk k h1.1 h1.2).1) fun k h1 => (hk k h1.1 h1.2).2⟩
/-- a row whose elements lie apart -/
def rows {α : Type} (d : Kd α) (e : Nat) (v : Value) (xs : List α) : Asr := ⟨fun W ok => Kd.S d e W 0 ok v xs, fun {W W1 ok ok'} h _ hk => by
  have h2 := Kd.S_mono (ok' := fun k => ok k ∧ k < W.heap.size) (Kd.S_bound h) fun k hk1 => ⟨hk1.1, hk1.2.2.1⟩
  exact Kd.S_mono (Kd.S_step (w1 := W1) h2 fun k h1 _ => (hk k h1.1 h1.2).1) fun k h1 => (hk k h1.1 h1.2).2⟩
/-- whatever holds as long as the blocks lie as they lie -/
def foot (Q : World → Prop) : Asr := ⟨fun W ok => ∀ W1 : World, W.heap.size ≤ W1.heap.size → (∀ k, ok k → k < W.heap.size → W1.heap[k]? = W.heap[k]?) → Q W1, fun {W W1 ok ok'} h hz hk => fun W2 hz2 hk2 => h W2 (Nat.le_trans hz hz2) fun k h1 h2 => (hk2 k (hk k h1 h2).2 (Nat.lt_of_lt_of_le h2 hz)).trans (hk k h1 h2).1⟩
/-- both, of the same blocks -/
def and (A B : Asr) : Asr := ⟨fun W ok => A.P W ok ∧ B.P W ok, fun h hz hk => ⟨A.step h.1 hz hk, B.step h.2 hz hk⟩⟩
/-- both, apart -/
def sep (A B : Asr) : Asr := ⟨fun W ok => ∃ g : Nat → Prop, A.P W (fun k => ok k ∧ g k) ∧ B.P W (fun k => ok k ∧ ¬ g k), fun ⟨g, h1, h2⟩ hz hk => ⟨g, A.step h1 hz fun k h3 h4 => ⟨(hk k h3.1 h4).1, (hk k h3.1 h4).2, h3.2⟩, B.step h2 hz fun k h3 h4 => ⟨(hk k h3.1 h4).1, (hk k h3.1 h4).2, h3.2⟩⟩⟩
end Asr
/-- since w: new blocks alone; those of l lie apart, none is one of X -/
structure Sep (w : World) (X : Nat → Prop) (l : List Asr) (W : World) : Prop where
  hB : Below w.heap.size w W
  tags : ∃ f : Nat → Nat, ∀ (i : Nat) A, l[i]? = some A → A.P W (fun b => f b = i ∧ w.heap.size ≤ b ∧ ¬ X b)
section
variable {w W W1 : World} {X : Nat → Prop} {l : List Asr} {A A' B : Asr}
theorem Sep.start (h : Below w.heap.size w W) (X : Nat → Prop) : Sep w X [] W := ⟨h, fun _ => 0, fun i A h => by simp at h⟩
theorem Sep.get (h : Sep w X l W) (i : Nat) (hi : l[i]? = some A) : A.P W (fun b => w.heap.size ≤ b ∧ ¬ X b) := by
  obtain ⟨f, hf⟩ := h.tags
  exact Asr.mono (hf i A hi) fun k h1 _ => h1.2
theorem Sep.keep (h : Sep w X l W) (k : Below W.heap.size W W1) : Sep w X l W1 := by
  obtain ⟨f, hf⟩ := h.tags
  exact ⟨below_step h.hB k, f, fun i A hi => Asr.below (hf i A hi) k⟩
/-- one more, in new blocks -/
theorem Sep.push (h : Sep w X l W) (k : Below W.heap.size W W1) (hX : ∀ b, X b → b < W.heap.size) (hA : A.P W1 (fun b => W.heap.size ≤ b)) : Sep w X (l ++ [A]) W1 := by
  obtain ⟨f, hf⟩ := h.tags
  refine ⟨below_step h.hB k, fun b => if b < W.heap.size then f b else l.length, fun i C hi => ?_⟩
  rcases Nat.lt_or_ge i l.length with h1 | h1
  · rw [List.getElem?_append_left h1] at hi
    exact C.step (hf i C hi) k.size fun j h2 h3 => ⟨k.block j h3, (if_pos h3).trans h2.1, h2.2⟩
  · rw [List.getElem?_append_right h1] at hi
    have h2 : i - l.length = 0 := by
      have := (List.getElem?_eq_some_iff.1 hi).1
      simp at this
      omega
    rw [h2] at hi
    have hC : A = C := by simpa using hi
    subst hC
    refine Asr.mono hA fun j h3 _ => ⟨(if_neg (by omega)).trans (by omega), Nat.le_trans h.hB.size h3, fun hx => ?_⟩
    have := hX j hx
    omega
/-- one is turned -/
theorem Sep.upd (h : Sep w X l W) (i : Nat) (hi : l[i]? = some A) {M : Nat → Prop} (hg : Grow M W W1) (hX : ∀ b, X b → b < W.heap.size) (hM : ∀ ok, A.P W ok → ∀ b, M b → b < W.heap.size → ok b)
    (hA : ∀ ok, A.P W ok → (∀ b, W.heap.size ≤ b → ok b) → A'.P W1 ok) : Sep w X (l.set i A') W1 := by
  obtain ⟨f, hf⟩ := h.tags
  have hw := h.hB.size
  have hMi : ∀ b, M b → b < W.heap.size → f b = i ∧ w.heap.size ≤ b ∧ ¬ X b := fun b hb hlt => hM _ (hf i A hi) b hb hlt
  refine ⟨⟨hg.os.trans h.hB.os, hg.tape.trans h.hB.tape, hg.output.trans h.hB.output, Nat.le_trans hw hg.size, fun b hb => ?_⟩, fun b => if b < W.heap.size then f b else i, fun j C hj => ?_⟩
  · refine (hg.block b (Nat.lt_of_lt_of_le hb hw) fun hm => ?_).trans (h.hB.block b hb)
    have := (hMi b hm (Nat.lt_of_lt_of_le hb hw)).2.1
    omega
  · by_cases hij : j = i
    · subst hij
      rw [List.getElem?_set_self (List.getElem?_eq_some_iff.1 hi).1] at hj
      injection hj with hj
      subst hj
      have h1 : A.P W (fun b => (if b < W.heap.size then f b else j) = j ∧ w.heap.size ≤ b ∧ ¬ X b) := Asr.mono (hf j A hi) fun b h2 h3 => ⟨(if_pos h3).trans h2.1, h2.2⟩
      refine hA _ h1 fun b hb => ⟨if_neg (by omega), by omega, fun hx => ?_⟩
      have := hX b hx
      omega
    · rw [List.getElem?_set_ne (fun e => hij e.symm)] at hj
      refine C.step (hf j C hj) hg.size fun b h2 h3 => ⟨hg.block b h3 fun hm => ?_, (if_pos h3).trans h2.1, h2.2⟩
      exact hij (h2.1.symm.trans (hMi b hm h3).1)
/-- one is told otherwise -/
theorem Sep.as (h : Sep w X l W) (i : Nat) (hi : l[i]? = some A) (hA : ∀ ok, A.P W ok → A'.P W ok) : Sep w X (l.set i A') W := by
  obtain ⟨f, hf⟩ := h.tags
  refine ⟨h.hB, f, fun j C hj => ?_⟩
  by_cases hij : j = i
  · subst hij
    rw [List.getElem?_set_self (List.getElem?_eq_some_iff.1 hi).1] at hj
    injection hj with hj
    subst hj
    exact hA _ (hf j A hi)
  · rw [List.getElem?_set_ne (fun e => hij e.symm)] at hj
    exact hf j C hj
theorem Sep.drop (h : Sep w X l W) (i : Nat) (hi : l[i]? = some A) : Sep w X (l.set i .emp) W := h.as i hi fun _ _ => trivial
/-- the j-th goes into the i-th -/
theorem Sep.join (h : Sep w X l W) (i j : Nat) (hij : i ≠ j) (hi : l[i]? = some A) (hj : l[j]? = some B) : Sep w X ((l.set i (A.sep B)).set j .emp) W := by
  obtain ⟨f, hf⟩ := h.tags
  have hil := (List.getElem?_eq_some_iff.1 hi).1
  have hjl := (List.getElem?_eq_some_iff.1 hj).1
  refine ⟨h.hB, fun b => if f b = j then i else f b, fun k C hk => ?_⟩
  by_cases hkj : k = j
  · subst hkj
    rw [List.getElem?_set_self (by simpa using hjl)] at hk
    injection hk with hk
    subst hk
    exact trivial
  rw [List.getElem?_set_ne (fun e => hkj e.symm)] at hk
  by_cases hki : k = i
  · subst hki
    rw [List.getElem?_set_self hil] at hk
    injection hk with hk
    subst hk
    refine ⟨fun b => f b = k, Asr.mono (hf k A hi) fun b h1 _ => ⟨⟨?_, h1.2⟩, h1.1⟩, Asr.mono (hf j B hj) fun b h1 _ => ⟨⟨if_pos h1.1, h1.2⟩, fun h2 => hij (h2.symm.trans h1.1)⟩⟩
    show (if f b = j then k else f b) = k
    split
    · rfl
    · exact h1.1
  · rw [List.getElem?_set_ne (fun e => hki e.symm)] at hk
    refine Asr.mono (hf k C hk) fun b h1 _ => ⟨?_, h1.2⟩
    show (if f b = j then i else f b) = k
    rw [if_neg fun h2 => hkj (h1.1.symm.trans h2)]
    exact h1.1
/-- two of them -/
theorem Sep.two (h : Sep w X l W) (i j : Nat) (hij : i ≠ j) (hi : l[i]? = some A) (hj : l[j]? = some B) : ∃ o1 o2 : Nat → Prop, A.P W o1 ∧ B.P W o2 ∧ (∀ k, o1 k → ¬ o2 k) ∧ (∀ k, o1 k → w.heap.size ≤ k ∧ ¬ X k ∧ k < W.heap.size) ∧ (∀ k, o2 k → w.heap.size ≤ k ∧ ¬ X k ∧ k < W.heap.size) := by
  obtain ⟨f, hf⟩ := h.tags
  refine ⟨fun b => (f b = i ∧ w.heap.size ≤ b ∧ ¬ X b) ∧ b < W.heap.size, fun b => (f b = j ∧ w.heap.size ≤ b ∧ ¬ X b) ∧ b < W.heap.size, Asr.mono (hf i A hi) fun b h1 h2 => ⟨h1, h2⟩, Asr.mono (hf j B hj) fun b h1 h2 => ⟨h1, h2⟩, ?_, ?_, ?_⟩
  · intro k h1 h2
    exact hij (h1.1.1.symm.trans h2.1.1)
  · intro k h1
    exact ⟨h1.1.2.1, h1.1.2.2, h1.2⟩
  · intro k h1
    exact ⟨h1.1.2.1, h1.1.2.2, h1.2⟩
/-- what an iterator lays and turns of its own -/
theorem Sep.own {M : Nat → Prop} {X1 : Nat → Prop} (h : Sep w X l W) (hg : Grow M W W1) (hM : ∀ b, M b → b < W.heap.size → X b) (hw : ∀ b, M b → w.heap.size ≤ b) (hX : ∀ b, X1 b → X b ∨ W.heap.size ≤ b) : Sep w X1 l W1 := by
  obtain ⟨f, hf⟩ := h.tags
  refine ⟨h.hB.trans (hg.below h.hB.size hw), f, fun i A hi => A.step (hf i A hi) hg.size fun b h1 h2 => ⟨hg.block b h2 fun hm => h1.2.2 (hM b hm h2), h1.1, h1.2.1, fun hx => ?_⟩⟩
  rcases hX b hx with h3 | h3
  · exact h1.2.2 h3
  · omega
/-- a block, told: its cells -/
theorem Sep.cell (h : Sep w X l W) (i j : Nat) {b t : Nat} {cs : Array Value} (hi : l[i]? = some (.blk b (.cells cs t (0, 0)))) : W.cell? ⟨b, j, none⟩ = cs[j]? := blk_cell (h.get i hi).2 j
theorem Sep.frozen (h : Sep w X l W) (i j : Nat) {b t : Nat} {cs : Array Value} (hi : l[i]? = some (.blk b (.cells cs t (0, 0)))) : W.frozen? ⟨b, j, none⟩ = false := blk_frozen (h.get i hi).2 j
theorem Sep.new (h : Sep w X l W) (hX : ∀ b, X b → b < W.heap.size) (o : Obj) : Sep w X (l ++ [.blk W.heap.size o]) (W.alloc o) :=
  h.push (below_alloc (Below.refl _ _) o) hX ⟨Nat.le_refl _, World.alloc_heap_new W o⟩
theorem grow_put {b : Nat} (j : Nat) (u : Value) (W : World) : Grow (fun k => k = b) W (W.setCell ⟨b, j, none⟩ u) :=
  ⟨rfl, rfl, rfl, ((Below.refl 0 W).setCell (p := ⟨b, j, none⟩) (Nat.zero_le _) u).size, fun k _ hk => Below.heap_setCell W ⟨b, j, none⟩ u k hk⟩
/-- a store into a block -/
theorem Sep.put (h : Sep w X l W) (hX : ∀ b, X b → b < W.heap.size) (i j : Nat) {b t : Nat} {cs cs' : Array Value} (hi : l[i]? = some (.blk b (.cells cs t (0, 0)))) (u : Value) (e : cs.setIfInBounds j u = cs') : Sep w X (l.set i (.blk b (.cells cs' t (0, 0)))) (W.setCell ⟨b, j, none⟩ u) :=
  h.upd i hi (grow_put j u W) hX (fun ok hA k hk _ => by subst hk; exact hA.1) fun ok hA _ => ⟨hA.1, blk_put hA.2 j u e⟩
end
section
variable {w W W1 : World} {X : Nat → Prop} {l : List Asr} {A A' B : Asr}
/-- whose blocks are whose -/
theorem Sep.fam (h : Sep w X l W) : ∃ okj : Nat → Nat → Prop, (∀ (i : Nat) A, l[i]? = some A → A.P W (okj i)) ∧ (∀ i j k, okj i k → okj j k → i = j) ∧ ∀ i k, okj i k → w.heap.size ≤ k ∧ ¬ X k ∧ k < W.heap.size := by
  obtain ⟨f, hf⟩ := h.tags
  exact ⟨fun i b => (f b = i ∧ w.heap.size ≤ b ∧ ¬ X b) ∧ b < W.heap.size, fun i A hi => Asr.mono (hf i A hi) fun b h1 h2 => ⟨h1, h2⟩, fun i j k h1 h2 => h1.1.1.symm.trans h2.1.1, fun i k h1 => ⟨h1.1.2.1, h1.1.2.2, h1.2⟩⟩
/-- out of an iterator's hand -/
theorem Sep.hand {M X1 : Nat → Prop} (h : Sep w X l W) (hg : Grow M W W1) (hM : ∀ b, M b → b < W.heap.size → X b) (hw : ∀ b, M b → w.heap.size ≤ b) (hX : ∀ b, X1 b → X b ∨ W.heap.size ≤ b) (hA : A.P W1 (fun b => W.heap.size ≤ b ∧ ¬ X1 b)) : Sep w X1 (l ++ [A]) W1 := by
  obtain ⟨f, hf⟩ := h.tags
  refine ⟨h.hB.trans (hg.below h.hB.size hw), fun b => if b < W.heap.size then f b else l.length, fun i C hi => ?_⟩
  rcases Nat.lt_or_ge i l.length with h1 | h1
  · rw [List.getElem?_append_left h1] at hi
    refine C.step (hf i C hi) hg.size fun b h1 h2 => ⟨hg.block b h2 fun hm => h1.2.2 (hM b hm h2), (if_pos h2).trans h1.1, h1.2.1, fun hx => ?_⟩
    rcases hX b hx with h3 | h3
    · exact h1.2.2 h3
    · omega
  · rw [List.getElem?_append_right h1] at hi
    have h2 : i - l.length = 0 := by
      have := (List.getElem?_eq_some_iff.1 hi).1
      simp at this
      omega
    rw [h2] at hi
    have hC : A = C := by simpa using hi
    subst hC
    exact Asr.mono hA fun j h3 _ => ⟨(if_neg (by omega)).trans (by omega), Nat.le_trans h.hB.size h3.1, h3.2⟩
theorem row_of {α : Type} {d : Kd α} {e : Nat} {v : Value} {xs : List α} {base : Nat} {ok : Nat → Prop} (h : Kd.R d e W base ok v xs) : (Asr.row d e v xs).P W (fun b => base ≤ b) := Kd.R_lower (Kd.R_mono (Kd.R_bound h) fun k hk => hk.2.1) (Nat.zero_le base)
theorem rows_of {α : Type} {d : Kd α} {e : Nat} {v : Value} {xs : List α} {base : Nat} {ok : Nat → Prop} (h : Kd.S d e W base ok v xs) : (Asr.rows d e v xs).P W (fun b => base ≤ b) := Kd.S_lower (Kd.S_mono (Kd.S_bound h) fun k hk => hk.2.1) (Nat.zero_le base)
/-- rows, laid down side by side and appended to nothing -/
theorem Sep.lits {α : Type} {d : Kd α} {P : Program} {e s t ty : TypeId} (z : Value) (bytes : Nat) (R : List (Value × List α)) (h : Sep w X (R.map fun r => .row d e r.1 r.2) W) (ht : P.underlying t = some (.slice s)) (hinfo : (P.info? s).map (fun i => (i.zero, i.size, i.bytes)) = some (some z, 1, bytes)) (hz : z.cells.size = 1)
    (h63 : R.length ≤ maxLen) (hbytes : R.length * bytes ≤ 140737488355328) :
    ∃ v1 w1, (Builtin.append_ #[t, t] ty #[.slice none 0 0, .slice (some ⟨W.heap.size, 0, none⟩) R.length R.length]).run P (W.alloc (.cells (R.map (·.1)).toArray s (0, 0))) = .ok v1 w1 ∧ Kd.S (Kd.slice e d) s w1 0 (fun k => w.heap.size ≤ k) v1 (R.map (·.2)) ∧ Below w.heap.size w w1 := by
  obtain ⟨okj, h1, h2, h3⟩ := h.fam
  have hbW := below_alloc (Below.refl W.heap.size W) (.cells (R.map (·.1)).toArray s (0, 0))
  have hw := h.hB.size
  have hz2 : (W.alloc (.cells (R.map (·.1)).toArray s (0, 0))).heap.size = W.heap.size + 1 := by simp
  obtain ⟨v1, w1, hrun, hS, hg, _⟩ := S_pushes (P := P) (d := Kd.slice e d) (e := s) (W := W.alloc (.cells (R.map (·.1)).toArray s (0, 0))) (base := 0) (ok := fun k => w.heap.size ≤ k) (v := .slice none 0 0) (xs := []) (ys := R.map (·.2)) t ty z bytes ht hinfo hz Nat.one_pos okj h2
    (fun j k hk => ⟨(h3 j k hk).1, by simp [Value.ownBlock]⟩) (fun k hk => by omega) (Kd.S_nil _ _ _ _ _) (news := R.map (·.1)) (by rw [List.length_map, List.length_map]; exact (Nat.mul_one _).symm) (fun j p hp => by
      rw [List.getElem?_map] at hp
      obtain ⟨r, hr, rfl⟩ := Option.map_eq_some_iff.1 hp
      have h4 := h1 j (.row d e r.1 r.2) (by rw [List.getElem?_map, hr]; rfl)
      refine ⟨r.1, ?_, Asr.below (A := .row d e r.1 r.2) h4 hbW⟩
      show ((R.map (·.1)).drop (j * 1)).take 1 = [r.1]
      have hj : (R.map (·.1))[j]? = some r.1 := by rw [List.getElem?_map, hr]; rfl
      have hjl := (List.getElem?_eq_some_iff.1 hj).1
      rw [Nat.mul_one, List.drop_eq_getElem_cons hjl, List.take_succ_cons, List.take_zero, (List.getElem?_eq_some_iff.1 hj).2])
    (m := R.length) (c := R.length) (ad := ⟨W.heap.size, 0, none⟩) (List.length_map _) (fun j u hj => by
      rw [add_at, Nat.zero_add, blk_cell (World.alloc_heap_new W _) j]
      simpa using hj) (by simpa using h63) (by simpa using hbytes) (Nat.zero_le _)
  refine ⟨v1, w1, hrun, hS, ?_⟩
  exact (h.hB.trans (hbW.mono hw)).trans ((Grow.of_grownBy (M := fun _ => False) hg fun r e => by simp [Value.ownBlock] at e).below (by omega) fun k h => h.elim)
end
section
variable {w W W1 : World} {X : Nat → Prop} {l : List Asr} {A A' B : Asr}
/-- a list of rows appended whole -/
theorem Sep.both {α : Type} {d : Kd α} {P : Program} {s t ty : TypeId} (z : Value) (bytes : Nat) (h : Sep w X l W) (i j : Nat) (hij : i ≠ j) {v u : Value} {xs ys : List α} (hi : l[i]? = some (.rows d s v xs)) (hj : l[j]? = some (.rows d s u ys)) (hX : ∀ b, X b → b < W.heap.size)
    (ht : P.underlying t = some (.slice s)) (hinfo : (P.info? s).map (fun i => (i.zero, i.size, i.bytes)) = some (some z, d.sz, bytes)) (hz : z.cells.size = d.sz) (hs0 : 0 < d.sz) (h63 : xs.length + ys.length ≤ maxLen) (hbytes : (xs.length + ys.length) * bytes ≤ 140737488355328) (hy : 0 < ys.length) :
    ∃ v1 w1, (Builtin.append_ #[t, t] ty #[v, u]).run P W = .ok v1 w1 ∧ Sep w X ((l.set i (.rows d s v1 (xs ++ ys))).set j .emp) w1 := by
  have hjn := h.join i j hij hi hj
  have hil := (List.getElem?_eq_some_iff.1 hi).1
  have hi2 : ((l.set i ((Asr.rows d s v xs).sep (Asr.rows d s u ys))).set j .emp)[i]? = some ((Asr.rows d s v xs).sep (Asr.rows d s u ys)) := by
    rw [List.getElem?_set_ne (fun e => hij e.symm), List.getElem?_set_self hil]
  have run : ∀ ok, ((Asr.rows d s v xs).sep (Asr.rows d s u ys)).P W ok → ∃ v1 w1, (Builtin.append_ #[t, t] ty #[v, u]).run P W = .ok v1 w1 ∧ Kd.S d s w1 0 (fun k => ok k ∨ W.heap.size ≤ k) v1 (xs ++ ys) ∧ W.grownBy w1 v.ownBlock := fun ok ⟨g, h1, h2⟩ => by
    obtain ⟨v1, w1, hrun, hS, hg, _⟩ := S_both (P := P) (t := t) (ty := ty) z bytes ht hinfo hz hs0 h1 h2 (fun k h3 h4 => h4.2 h3.2) (Nat.le_refl _) (Nat.zero_le _) h63 hbytes hy
    exact ⟨v1, w1, hrun, Kd.S_mono hS fun k hk => hk.elim (fun h => .inl h.1) fun hk => hk.elim (fun h => .inl h.1.1) .inr, hg⟩
  obtain ⟨v1, w1, hrun, hS, hg⟩ := run _ (hjn.get i hi2)
  refine ⟨v1, w1, hrun, ?_⟩
  have hup := hjn.upd i hi2 (A' := .rows d s v1 (xs ++ ys)) (M := fun k => some k = v.ownBlock) (Grow.of_grownBy hg fun r e => e.symm) hX (fun ok ⟨g, h1, h2⟩ b hb _ => ((Kd.S_R h1).1 b hb.symm).1) fun ok hA hnew => by
    obtain ⟨v2, w2, hrun2, hS2, _⟩ := run ok hA
    rw [hrun] at hrun2
    injection hrun2 with e1 e2
    subst e1
    subst e2
    exact Kd.S_mono hS2 fun k hk => hk.elim id (hnew k)
  rw [List.set_comm _ _ (fun e => hij e.symm), List.set_set] at hup
  exact hup
end
section
variable {w W W1 : World} {X : Nat → Prop} {l : List Asr} {A A' B : Asr}
/-- a block of the one is none of the other's -/
theorem Sep.ne (h : Sep w X l W) (i j : Nat) (hij : i ≠ j) (hi : l[i]? = some A) (hj : l[j]? = some B) {k k' : Nat} (hA : ∀ ok, A.P W ok → ok k) (hB : ∀ ok, B.P W ok → ok k') : k ≠ k' := by
  obtain ⟨f, hf⟩ := h.tags
  have h1 := (hA _ (hf i A hi)).1
  have h2 := (hB _ (hf j B hj)).1
  rintro rfl
  exact hij (h1.symm.trans h2)
/-- the iterator's blocks are told no more, but for one -/
theorem Sep.mark (h : Sep w X l W) {b : Nat} {o : Obj} (hX : X b) (hb : w.heap.size ≤ b) (ho : W.heap[b]? = some o) : Sep w (fun _ => False) (l ++ [.blk b o]) W := by
  obtain ⟨f, hf⟩ := h.tags
  refine ⟨h.hB, fun k => if k = b then l.length else f k, fun i C hi => ?_⟩
  rcases Nat.lt_or_ge i l.length with h1 | h1
  · rw [List.getElem?_append_left h1] at hi
    refine Asr.mono (hf i C hi) fun k h2 _ => ⟨(if_neg fun e => h2.2.2 (by rw [e]; exact hX)).trans h2.1, h2.2.1, fun h => h⟩
  · rw [List.getElem?_append_right h1] at hi
    have h2 : i - l.length = 0 := by
      have := (List.getElem?_eq_some_iff.1 hi).1
      simp at this
      omega
    rw [h2] at hi
    have hC : Asr.blk b o = C := by simpa using hi
    subst hC
    exact ⟨⟨(if_pos rfl).trans (by omega), hb, fun h => h⟩, ho⟩
theorem blk_blk {b : Nat} {o : Obj} : ∀ ok, (Asr.blk b o).P W ok → ok b := fun ok h => h.1
end
theorem foot_now {Q : World → Prop} {W : World} {ok : Nat → Prop} (h : (Asr.foot Q).P W ok) : Q W := h W (Nat.le_refl _) fun _ _ _ => rfl
/-- a block's object is another -/
theorem Sep.putObj {w W : World} {X : Nat → Prop} {l : List Asr} (h : Sep w X l W) (hX : ∀ b, X b → b < W.heap.size) (i : Nat) {b : Nat} {o o' : Obj} (hi : l[i]? = some (.blk b o)) : Sep w X (l.set i .emp) (W.putObj b o') :=
  h.upd i hi (M := fun k => k = b) (Grow.put o' rfl) hX (fun ok hA k hk _ => by have e : k = b := hk; subst e; exact hA.1) fun _ _ _ => trivial
end Go.Proofs.YtggnnnddnppcpaaDoorOwn
