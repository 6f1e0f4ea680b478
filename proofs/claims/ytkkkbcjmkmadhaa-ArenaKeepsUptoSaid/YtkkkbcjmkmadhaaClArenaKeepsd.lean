/- Places of a list of assertions that are kept free and filled later, in whatever order; a drawn region where two or three operations may come up next. -/
import Derived.Test.YtkkkbcjmkmadhaaClArenaKeepsc
import Derived.Maps.OwnSet
import Derived.Maps.OwnIn
import Derived.WalkKit
import Derived.Below
import Derived.Deep.Draws
/-! text YtkkkbcjmkmadhaaSepFill -/
namespace Go.Proofs.YtkkkbcjmkmadhaaOwn
open Go Go.RowKit Go.Proofs.YtkkkbcjmkmadhaaW.PrintWords
set_option linter.unusedVariables false
set_option linter.unusedSimpArgs false
section
variable {w W W1 : World} {X : Nat → Prop} {l : List Asr} {A A' B C : Asr}
/-- a free place is filled -/
theorem Sep.fill (h : Sep w X l W) (i : Nat) (hi : l[i]? = some .emp) (hb : Below W.heap.size W W1) (hX : ∀ b, X b → b < W.heap.size) (hA : A.P W1 (fun b => W.heap.size ≤ b)) : Sep w X (l.set i A) W1 :=
  h.upd i hi (M := fun _ => False) (Grow.of_below hb) hX (fun _ _ _ h => h.elim) fun ok _ hnew => Asr.mono hA fun b hb _ => hnew b hb
/-- a new block in a free place -/
theorem Sep.fillNew (h : Sep w X l W) (hX : ∀ b, X b → b < W.heap.size) (i : Nat) (hi : l[i]? = some .emp) (o : Obj) : Sep w X (l.set i (.blk W.heap.size o)) (W.alloc o) :=
  h.fill i hi (below_alloc (Below.refl _ _) o) hX ⟨Nat.le_refl _, World.alloc_heap_new W o⟩
/-- three free places are filled -/
theorem Sep.fill3 (h : Sep w X l W) (h2 : Sep W (fun _ => False) [A, B, C] W1) (i j k : Nat) (hX : ∀ b, X b → b < W.heap.size) (hij : i ≠ j) (hik : i ≠ k) (hjk : j ≠ k) : Sep w X (((l.set i A).set j B).set k C) W1 := by
  obtain ⟨f, hf⟩ := h.tags
  obtain ⟨f2, hf2⟩ := h2.tags
  have hw := h.hB.size
  have hold : ∀ (q : Nat) D, l[q]? = some D → q ≠ i → q ≠ j → q ≠ k → D.P W1 (fun b => (if b < W.heap.size then f b else if f2 b = 0 then i else if f2 b = 1 then j else k) = q ∧ w.heap.size ≤ b ∧ ¬ X b) := fun q D hq _ _ _ =>
    D.step (hf q D hq) h2.hB.size fun b h3 h4 => ⟨h2.hB.block b h4, (if_pos h4).trans h3.1, h3.2⟩
  have hnew : ∀ (q m : Nat) D, [A, B, C][m]? = some D → (∀ b, f2 b = m → (if f2 b = 0 then i else if f2 b = 1 then j else k) = q) → D.P W1 (fun b => (if b < W.heap.size then f b else if f2 b = 0 then i else if f2 b = 1 then j else k) = q ∧ w.heap.size ≤ b ∧ ¬ X b) := fun q m D hm hq =>
    Asr.mono (hf2 m D hm) fun b h3 _ => by
      have h4 : ¬ b < W.heap.size := Nat.not_lt.2 h3.2.1
      refine ⟨(if_neg h4).trans (hq b h3.1), Nat.le_trans hw h3.2.1, fun hx => ?_⟩
      have := hX b hx
      omega
  refine ⟨h.hB.trans (h2.hB.mono hw), fun b => if b < W.heap.size then f b else if f2 b = 0 then i else if f2 b = 1 then j else k, fun q D hq => ?_⟩
  · by_cases hk : q = k
    · subst hk
      have e : C = D := by
        rw [List.getElem?_set_self] at hq
        · exact Option.some.inj hq
        · rcases Nat.lt_or_ge q (((l.set i A).set j B)).length with h5 | h5
          · exact h5
          · rw [List.getElem?_eq_none (by rw [List.length_set]; exact h5)] at hq; cases hq
      subst e
      exact hnew q 2 _ rfl fun b h3 => by simp [h3]
    · rw [List.getElem?_set_ne (fun e => hk e.symm)] at hq
      by_cases hj : q = j
      · subst hj
        have e : B = D := by
          rw [List.getElem?_set_self] at hq
          · exact Option.some.inj hq
          · rcases Nat.lt_or_ge q ((l.set i A)).length with h5 | h5
            · exact h5
            · rw [List.getElem?_eq_none (by rw [List.length_set]; exact h5)] at hq; cases hq
        subst e
        exact hnew q 1 _ rfl fun b h3 => by simp [h3]
      · rw [List.getElem?_set_ne (fun e => hj e.symm)] at hq
        by_cases hi : q = i
        · subst hi
          have e : A = D := by
            rw [List.getElem?_set_self] at hq
            · exact Option.some.inj hq
            · rcases Nat.lt_or_ge q l.length with h5 | h5
              · exact h5
              · rw [List.getElem?_eq_none (by rw [List.length_set]; exact h5)] at hq; cases hq
          subst e
          exact hnew q 0 _ rfl fun b h3 => by simp [h3]
        · rw [List.getElem?_set_ne (fun e => hi e.symm)] at hq
          exact hold q D hq hi hj hk
/-- one that is two is told as two -/
theorem Sep.cut (h : Sep w X l W) (i : Nat) (hi : l[i]? = some (A.sep B)) : Sep w X (l.set i A ++ [B]) W := by
  classical
  obtain ⟨f, hf⟩ := h.tags
  obtain ⟨g, h1, h2⟩ := hf i _ hi
  have hil := (List.getElem?_eq_some_iff.1 hi).1
  refine ⟨h.hB, fun b => if f b = i then (if g b then i else l.length) else f b, fun q D hq => ?_⟩
  rcases Nat.lt_or_ge q l.length with hl | hl
  · rw [List.getElem?_append_left (by rw [List.length_set]; exact hl)] at hq
    by_cases hqi : q = i
    · subst hqi
      rw [List.getElem?_set_self hil] at hq
      obtain rfl := Option.some.inj hq
      refine Asr.mono h1 fun b h3 _ => ⟨?_, h3.1.2⟩
      show (if f b = q then (if g b then q else l.length) else f b) = q
      rw [if_pos h3.1.1, if_pos h3.2]
    · rw [List.getElem?_set_ne (fun e => hqi e.symm)] at hq
      refine Asr.mono (hf q D hq) fun b h3 _ => ⟨?_, h3.2⟩
      show (if f b = i then (if g b then i else l.length) else f b) = q
      rw [if_neg (fun e => hqi (h3.1.symm.trans e)), h3.1]
  · rw [List.getElem?_append_right (by rw [List.length_set]; exact hl), List.length_set] at hq
    have h4 : q - l.length = 0 := by
      have := (List.getElem?_eq_some_iff.1 hq).1
      simp at this
      omega
    rw [h4] at hq
    have hD : B = D := by simpa using hq
    subst hD
    refine Asr.mono h2 fun b h3 _ => ⟨?_, h3.1.2⟩
    show (if f b = i then (if g b then i else l.length) else f b) = q
    rw [if_pos h3.1.1, if_neg h3.2]
    omega
end
section
variable {P : Program} {ops : Array Oper} {Q : Exit → Act → World → Prop} {md : Region.Mode} {S : World → Prop}
/-- one of two operations comes up -/
theorem wpAnyH_two {i j : Nat} {oi oj : Oper} {fuel : Nat} {listed : Array Bool} {a : Act} {w : World} (hr : Region.ready md ops listed = [i, j]) (ho : ops[i]? = some oi) (hp : ops[j]? = some oj) (hwi : Region.wanted oi (yielded ops a.tmps) = true) (hwj : Region.wanted oj (yielded ops a.tmps) = true)
    (h : ∀ K' : Act → World → Prop, (∀ a w, S w → wpAnyH P md ops Q S fuel (listed.setIfInBounds i true) a w → K' a w) → Oper.wp P oi a w K' Q)
    (h2 : ∀ K' : Act → World → Prop, (∀ a w, S w → wpAnyH P md ops Q S fuel (listed.setIfInBounds j true) a w → K' a w) → Oper.wp P oj a w K' Q) : wpAnyH P md ops Q S (fuel + 1) listed a w := by
  refine ⟨fun h0 => (by rw [hr] at h0; cases h0), fun m hm => ?_⟩
  rw [hr] at hm
  simp only [List.mem_cons, List.not_mem_nil, or_false] at hm
  rcases hm with rfl | rfl
  · refine wpOp_step ho fun K' hK => ?_
    rw [if_pos hwi]
    exact h K' (fun a w h1 h2 => hK a w ⟨h1, h2⟩)
  · refine wpOp_step hp fun K' hK => ?_
    rw [if_pos hwj]
    exact h2 K' (fun a w h1 h2 => hK a w ⟨h1, h2⟩)
/-- one of three operations comes up -/
theorem wpAnyH_three {i j k : Nat} {oi oj ok : Oper} {fuel : Nat} {listed : Array Bool} {a : Act} {w : World} (hr : Region.ready md ops listed = [i, j, k]) (ho : ops[i]? = some oi) (hp : ops[j]? = some oj) (hq : ops[k]? = some ok) (hwi : Region.wanted oi (yielded ops a.tmps) = true) (hwj : Region.wanted oj (yielded ops a.tmps) = true) (hwk : Region.wanted ok (yielded ops a.tmps) = true)
    (h : ∀ K' : Act → World → Prop, (∀ a w, S w → wpAnyH P md ops Q S fuel (listed.setIfInBounds i true) a w → K' a w) → Oper.wp P oi a w K' Q)
    (h2 : ∀ K' : Act → World → Prop, (∀ a w, S w → wpAnyH P md ops Q S fuel (listed.setIfInBounds j true) a w → K' a w) → Oper.wp P oj a w K' Q)
    (h3 : ∀ K' : Act → World → Prop, (∀ a w, S w → wpAnyH P md ops Q S fuel (listed.setIfInBounds k true) a w → K' a w) → Oper.wp P ok a w K' Q) : wpAnyH P md ops Q S (fuel + 1) listed a w := by
  refine ⟨fun h0 => (by rw [hr] at h0; cases h0), fun m hm => ?_⟩
  rw [hr] at hm
  simp only [List.mem_cons, List.not_mem_nil, or_false] at hm
  rcases hm with rfl | rfl | rfl
  · refine wpOp_step ho fun K' hK => ?_
    rw [if_pos hwi]
    exact h K' (fun a w h1 h2 => hK a w ⟨h1, h2⟩)
  · refine wpOp_step hp fun K' hK => ?_
    rw [if_pos hwj]
    exact h2 K' (fun a w h1 h2 => hK a w ⟨h1, h2⟩)
  · refine wpOp_step hq fun K' hK => ?_
    rw [if_pos hwk]
    exact h3 K' (fun a w h1 h2 => hK a w ⟨h1, h2⟩)
/-- a quiet operation taken first, its frame to be written out -/
theorem wpAnyH_takeA {i : Nat} {oi : Oper} {v : Value} (d : Nat) {fuel : Nat} {listed : Array Bool} {a : Act} {w : World} (hi : ops[i]? = some oi) (hd : oi.dst = some d)
    (hs : Region.noSelect ops = true) (hf : Region.free md ops listed i = true) (hr : (Region.ready md ops listed).contains i = true)
    (hQ : ∀ c a w, Q (.panic c) (a.put oi.dst v) w → Q (.panic c) a w) (hy : YieldsIf P ops S oi v a) (hS : S w)
    (h : ∀ a' : Act, ({ tmps := a.tmps.setIfInBounds d v, defers := a.defers } : Act) = a' → wpAnyH P md ops Q S fuel (listed.setIfInBounds i true) a' w) : wpAnyH P md ops Q S (fuel + 1) listed a w :=
  wpAnyH_take hi hs hf hr hQ hy hS (h _ (by rw [hd]; rfl))
theorem wp_region_H {id : Nat} {a : Act} {w : World} (hm : P.follows .mixedOrders = true)
    (h : wpAnyH P .any ops Q S ops.size (Array.replicate ops.size false) a w.drew) : (Code.region id ops true).wp P Q a w := wp_region_held hm h
end
end Go.Proofs.YtkkkbcjmkmadhaaOwn
/-! text YtkkkbcjmkmadhaaIntMap -/
namespace Go.Proofs.YtkkkbcjmkmadhaaMaps
open Go Go.Maps Go.RowKit
set_option linter.unusedVariables false
set_option linter.unusedSimpArgs false

/-- kinds of keys -/
structure Keys (κ : Type) where
  kl : κ → Lit
  inj : ∀ {a b}, kl a = kl b → a = b
  isKey : ∀ a, WideAt.IsKeyLit (kl a)
def intKeys : Keys Int where
  kl := Lit.int .i64
  inj := fun h => by injection h
  isKey := fun a => by simp [WideAt.IsKeyLit]
def strKeys : Keys (List UInt8) where
  kl := Lit.string
  inj := fun h => by injection h
  isKey := fun a => by simp [WideAt.IsKeyLit]
/-- kinds of elements -/
structure Elem (α : Type) where
  enc : α → Value
  el : α → DataW Unit
  R : Value → Option (DataW Unit × List MemPlace)
  ok : α → Prop
  inv : ∀ {v z}, R v = some z → ∃ a, v = enc a ∧ z.1 = el a
  reads : ∀ {a}, ok a → R (enc a) = some (el a, [])
  inj : ∀ {a b}, el a = el b → a = b
def intElem (P : Program) (e : TypeId) (he : P.underlying e = some (.int .i64)) : Elem Int where
  enc := Value.int .i64
  el := fun c => .lit (.int .i64 c)
  R := plainElem P e
  ok := fun c => (Lit.int .i64 c).wf = true
  inv := fun h => by
    obtain ⟨a, rfl, rfl, _⟩ := plainElem_int_inv he h
    exact ⟨a, rfl, rfl⟩
  reads := fun h => plainElem_int he h
  inj := fun h => by injection h with h; injection h
noncomputable def markR (v : Value) : Option (DataW Unit × List MemPlace) := by classical exact if v = .agg #[.bool true] then some (.lit (.bool true), []) else if v = .agg #[.bool false] then some (.lit (.bool false), []) else none
noncomputable def markElem : Elem Bool where
  enc := fun b => .agg #[.bool b]
  el := fun b => .lit (.bool b)
  R := markR
  ok := fun _ => True
  inv := fun {v z} h => by
    unfold markR at h
    split at h
    · rename_i hv
      cases h
      exact ⟨true, hv, rfl⟩
    · split at h
      · rename_i hv
        cases h
        exact ⟨false, hv, rfl⟩
      · cases h
  reads := fun {a} _ => by cases a <;> simp [markR]
  inj := fun h => by injection h with h; injection h

variable {κ α : Type}
/-- Block B of W is a map that holds at each key what f says: at most n, just c of them. -/
def IM (P : Program) (k : TypeId) (Ky : Keys κ) (E : Elem α) (W : World) (B n : Nat) (f : κ → Option α) (c : Nat) : Prop :=
  ∃ D, W.ownsMap P k E.R B n D ∧ Maps.size D = c ∧ ∀ x, Maps.has D (Ky.kl x) = (f x).isSome ∧ ∀ z, D.atKey (Ky.kl x) z = ((f x).map E.el).getD z

noncomputable def upd (f : κ → Option α) (x : κ) (v : α) : κ → Option α := by classical exact fun y => if y = x then some v else f y
noncomputable def del (f : κ → Option α) (x : κ) : κ → Option α := by classical exact fun y => if y = x then none else f y
theorem upd_same (f : κ → Option α) (x : κ) (v : α) : upd f x v x = some v := by simp [upd]
theorem upd_other (f : κ → Option α) {x y : κ} (v : α) (h : y ≠ x) : upd f x v y = f y := by simp [upd, h]
theorem del_same (f : κ → Option α) (x : κ) : del f x x = none := by simp [del]
theorem del_other (f : κ → Option α) {x y : κ} (h : y ≠ x) : del f x y = f y := by simp [del, h]

section
variable {P : Program} {k : TypeId} {Ky : Keys κ} {E : Elem α} {W : World} {B n c : Nat} {f : κ → Option α}
theorem IM.made (W : World) : IM P k Ky E (W.alloc (.map #[] 0)) W.heap.size 0 (fun _ => none) 0 :=
  ⟨_, World.ownsMap_made W P k E.R, rfl, fun x => ⟨rfl, fun z => rfl⟩⟩
theorem IM.lt (h : IM P k Ky E W B n f c) : B < W.heap.size := by
  obtain ⟨D, h, _⟩ := h
  exact h.lt
theorem IM.kept {W' : World} {row : Option Nat} (h : IM P k Ky E W B n f c) (hg : W.grownBy W' row) (hne : some B ≠ row) : IM P k Ky E W' B n f c := by
  obtain ⟨D, h, r⟩ := h
  exact ⟨D, h.kept hg hne, r⟩
theorem IM.block {W' : World} (h : IM P k Ky E W B n f c) (hb : W'.heap[B]? = W.heap[B]?) : IM P k Ky E W' B n f c := by
  obtain ⟨D, ⟨es, clock, h1, h2⟩, r⟩ := h
  exact ⟨D, ⟨es, clock, hb.trans h1, h2⟩, r⟩
theorem IM.below {W' : World} (h : IM P k Ky E W B n f c) (hb : Below W.heap.size W W') : IM P k Ky E W' B n f c := h.block (hb.block B h.lt)
theorem IM.alloc (h : IM P k Ky E W B n f c) (o : Obj) : IM P k Ky E (W.alloc o) B n f c := by
  obtain ⟨D, h, r⟩ := h
  exact ⟨D, h.alloc o, r⟩
theorem IM.drewN (h : IM P k Ky E W B n f c) (m : Nat) : IM P k Ky E (W.drewN m) B n f c := h
theorem IM.drew (h : IM P k Ky E W B n f c) : IM P k Ky E W.drew B n f c := h
theorem IM.setCell (h : IM P k Ky E W B n f c) {a : Addr} (ha : B ≠ a.block) (u : Value) : IM P k Ky E (W.setCell a u) B n f c := by
  obtain ⟨D, h, r⟩ := h
  exact ⟨D, h.setCell ha u, r⟩
theorem IM.mono (h : IM P k Ky E W B n f c) {n' : Nat} (hn : n ≤ n') : IM P k Ky E W B n' f c := by
  obtain ⟨D, h, r⟩ := h
  exact ⟨D, h.mono hn, r⟩
theorem IM.congr (h : IM P k Ky E W B n f c) {g : κ → Option α} (hg : ∀ x, g x = f x) : IM P k Ky E W B n g c := by
  obtain rfl : g = f := funext hg
  exact h
theorem IM.size_le (h : IM P k Ky E W B n f c) : c ≤ n := by
  obtain ⟨D, h, rfl, _⟩ := h
  exact h.size_le
theorem put_reads {D : DataW Unit} (hD : Maps.Tidy D) (hr : ∀ x, Maps.has D (Ky.kl x) = (f x).isSome ∧ ∀ z, D.atKey (Ky.kl x) z = ((f x).map E.el).getD z) (x : κ) (v : α) :
    Maps.size (D.put (Ky.kl x) (E.el v)) = (if (f x).isSome = true then Maps.size D else Maps.size D + 1) ∧ ∀ y, Maps.has (D.put (Ky.kl x) (E.el v)) (Ky.kl y) = (upd f x v y).isSome ∧ ∀ z, (D.put (Ky.kl x) (E.el v)).atKey (Ky.kl y) z = ((upd f x v y).map E.el).getD z := by
  refine ⟨by rw [Maps.size_put hD, (hr x).1], fun y => ?_⟩
  by_cases hy : y = x
  · subst hy
    rw [upd_same]
    exact ⟨Maps.has_put_same hD.isMap (Ky.isKey _) _, fun z => Maps.atKey_put_same hD.isMap (Ky.isKey _) _ z⟩
  · rw [upd_other f v hy]
    have hne : Ky.kl y ≠ Ky.kl x := fun h => hy (Ky.inj h)
    exact ⟨(Maps.has_put_other hne _).trans (hr y).1, fun z => (Maps.atKey_put_other hne _ z).trans ((hr y).2 z)⟩
theorem del_reads {D : DataW Unit} (hD : Maps.Tidy D) (hr : ∀ x, Maps.has D (Ky.kl x) = (f x).isSome ∧ ∀ z, D.atKey (Ky.kl x) z = ((f x).map E.el).getD z) (x : κ) :
    Maps.size (D.del (Ky.kl x)) = (if (f x).isSome = true then Maps.size D - 1 else Maps.size D) ∧ ∀ y, Maps.has (D.del (Ky.kl x)) (Ky.kl y) = (del f x y).isSome ∧ ∀ z, (D.del (Ky.kl x)).atKey (Ky.kl y) z = ((del f x y).map E.el).getD z := by
  refine ⟨?_, fun y => ?_⟩
  · have h := Maps.size_del (k := Ky.kl x) hD
    rw [(hr x).1] at h
    split <;> simp_all <;> omega
  by_cases hy : y = x
  · subst hy
    rw [del_same]
    exact ⟨Maps.has_del_same, fun z => Maps.atKey_del_same z⟩
  · rw [del_other f hy]
    have hne : Ky.kl y ≠ Ky.kl x := fun h => hy (Ky.inj h)
    exact ⟨(Maps.has_del_other hne).trans (hr y).1, fun z => (Maps.atKey_del_other hne z).trans ((hr y).2 z)⟩
theorem IM.look (h : IM P k Ky E W B n f c) {t e : TypeId} (K : Keyed P k) (ht : P.underlying t = some (.map k e)) {z : α} (hz : (zeroValue e).run P W = .ok (E.enc z) W) (hzk : E.ok z) {xv : Value} {x : κ} (hkey : keyOf P k xv = some (Ky.kl x)) :
    (Instr.lookup t (.map (some B)) xv false).run P W = .ok (E.enc ((f x).getD z)) W := by
  obtain ⟨D, h, _, hr⟩ := h
  obtain ⟨v, ps, hrun, hv⟩ := h.lookup K ht hz (E.reads hzk) hkey
  obtain ⟨a, rfl, ha⟩ := E.inv hv
  rw [(hr x).2] at ha
  have : a = (f x).getD z := by
    cases hf : f x with
    | none => rw [hf] at ha; exact (E.inj ha).symm
    | some b => rw [hf] at ha; exact (E.inj ha).symm
  rw [hrun, this]
theorem IM.look_ok (h : IM P k Ky E W B n f c) {t e : TypeId} (K : Keyed P k) (ht : P.underlying t = some (.map k e)) {z : α} (hz : (zeroValue e).run P W = .ok (E.enc z) W) (hzk : E.ok z) {xv : Value} {x : κ} (hkey : keyOf P k xv = some (Ky.kl x)) :
    (Instr.lookup t (.map (some B)) xv true).run P W = .ok (.tuple #[E.enc ((f x).getD z), .bool (f x).isSome]) W := by
  obtain ⟨D, h, _, hr⟩ := h
  obtain ⟨v, ps, hrun, hv⟩ := h.look_ok K ht hz (E.reads hzk) hkey
  obtain ⟨a, rfl, ha⟩ := E.inv hv
  rw [(hr x).2] at ha
  have : a = (f x).getD z := by
    cases hf : f x with
    | none => rw [hf] at ha; exact (E.inj ha).symm
    | some b => rw [hf] at ha; exact (E.inj ha).symm
  rw [hrun, this, (hr x).1]
theorem IM.store (h : IM P k Ky E W B n f c) {t e : TypeId} (K : Keyed P k) (ht : P.underlying t = some (.map k e)) (hn : n < maxLen) {xv : Value} {x : κ} {v : α} (hkey : keyOf P k xv = some (Ky.kl x)) (hv : E.ok v) :
    ∃ w', (Instr.mapUpdate t (.map (some B)) xv (E.enc v)).run P W = .ok () w' ∧ IM P k Ky E w' B (n + 1) (upd f x v) (if (f x).isSome = true then c else c + 1) ∧ W.grownBy w' (some B) := by
  obtain ⟨D, h, rfl, hr⟩ := h
  obtain ⟨w', hrun, h1, h2⟩ := h.update K ht hn hkey (E.reads hv)
  obtain ⟨p1, p2⟩ := put_reads (h.tidy K) hr x v
  exact ⟨w', hrun, ⟨_, h1, p1, p2⟩, h2⟩
theorem IM.drop (h : IM P k Ky E W B n f c) {t e : TypeId} (K : Keyed P k) (ht : P.underlying t = some (.map k e)) {xv : Value} {x : κ} (hkey : keyOf P k xv = some (Ky.kl x)) (ty : TypeId) :
    ∃ w', (Builtin.delete_ #[t, k] ty #[.map (some B), xv]).run P W = .ok (.tuple #[]) w' ∧ IM P k Ky E w' B n (del f x) (if (f x).isSome = true then c - 1 else c) ∧ W.grownBy w' (some B) := by
  obtain ⟨D, h, rfl, hr⟩ := h
  obtain ⟨w', hrun, h1, h2⟩ := h.drop K ht hkey ty
  obtain ⟨p1, p2⟩ := del_reads (h.tidy K) hr x
  exact ⟨w', hrun, ⟨_, h1, p1, p2⟩, h2.grown⟩
theorem IM.len (h : IM P k Ky E W B n f c) {t e : TypeId} (ht : P.underlying t = some (.map k e)) (ty : TypeId) : (Builtin.len_ #[t] ty #[.map (some B)]).run P W = .ok (.int .i64 c) W := by
  obtain ⟨D, h, rfl, _⟩ := h
  exact h.len ht ty
end

/-! at the operation, for the walk -/
section
variable {P : Program} (w : World) {ops : Array Oper} {rest : List Oper} {o : Oper} {a : Act} {Q : Exit → Act → World → Prop} {k e : TypeId} {Ky : Keys κ} {E : Elem α} {B n c : Nat} {f : κ → Option α}
theorem im_look (hg : o.guard = none) (m x : Operand) (t : TypeId) (hop : o.op = Op.lookup t m x false) (K : Keyed P k) (ht : P.underlying t = some (.map k e)) {z : α} (hz : (zeroValue e).run P w = .ok (E.enc z) w) (hzk : E.ok z)
    (hm : a.eval m = .map (some B)) (h : IM P k Ky E w B n f c) (xv : Value) (key : κ) (hx : a.eval x = xv) (hkey : keyOf P k xv = some (Ky.kl key))
    (hK : wpList P ops Q rest (a.put o.dst (E.enc ((f key).getD z))) w) : wpList P ops Q (o :: rest) a w := by
  refine wpList_plain hg fun K' hK' => ?_
  have hrun := h.look K ht hz hzk hkey
  unfold Oper.wp
  simp [execOp, hop, hm, hx, hrun, Result.andThen]
  exact hK' _ _ hK
theorem im_look_int (he : P.underlying e = some (.int .i64)) (hg : o.guard = none) (m x : Operand) (t : TypeId) (hop : o.op = Op.lookup t m x false) (K : Keyed P k) (ht : P.underlying t = some (.map k e)) (hz : (zeroValue e).run P w = .ok (.int .i64 0) w)
    (hm : a.eval m = .map (some B)) {f : κ → Option Int} (h : IM P k Ky (intElem P e he) w B n f c) (xv : Value) (key : κ) (hx : a.eval x = xv) (hkey : keyOf P k xv = some (Ky.kl key))
    (hK : wpList P ops Q rest (a.put o.dst (.int .i64 ((f key).getD 0))) w) : wpList P ops Q (o :: rest) a w :=
  im_look w hg m x t hop K ht (z := (0 : Int)) hz (show (Lit.int .i64 0).wf = true by decide) hm h xv key hx hkey hK
theorem im_look_mark (hg : o.guard = none) (m x : Operand) (t : TypeId) (hop : o.op = Op.lookup t m x false) (K : Keyed P k) (ht : P.underlying t = some (.map k e)) (hz : (zeroValue e).run P w = .ok (.agg #[.bool false]) w)
    (hm : a.eval m = .map (some B)) {f : κ → Option Bool} (h : IM P k Ky markElem w B n f c) (xv : Value) (key : κ) (hx : a.eval x = xv) (hkey : keyOf P k xv = some (Ky.kl key))
    (hK : wpList P ops Q rest (a.put o.dst (.agg #[.bool ((f key).getD false)])) w) : wpList P ops Q (o :: rest) a w :=
  im_look w hg m x t hop K ht (z := false) hz trivial hm h xv key hx hkey hK
theorem im_ok (hg : o.guard = none) (m x : Operand) (t : TypeId) (hop : o.op = Op.lookup t m x true) (K : Keyed P k) (ht : P.underlying t = some (.map k e)) {z : α} (hz : (zeroValue e).run P w = .ok (E.enc z) w) (hzk : E.ok z)
    (hm : a.eval m = .map (some B)) (h : IM P k Ky E w B n f c) (xv : Value) (key : κ) (hx : a.eval x = xv) (hkey : keyOf P k xv = some (Ky.kl key))
    (hK : wpList P ops Q rest (a.put o.dst (.tuple #[E.enc ((f key).getD z), .bool (f key).isSome])) w) : wpList P ops Q (o :: rest) a w := by
  refine wpList_plain hg fun K' hK' => ?_
  have hrun := h.look_ok K ht hz hzk hkey
  unfold Oper.wp
  simp [execOp, hop, hm, hx, hrun, Result.andThen]
  exact hK' _ _ hK
theorem im_ok_int (he : P.underlying e = some (.int .i64)) (hg : o.guard = none) (m x : Operand) (t : TypeId) (hop : o.op = Op.lookup t m x true) (K : Keyed P k) (ht : P.underlying t = some (.map k e)) (hz : (zeroValue e).run P w = .ok (.int .i64 0) w)
    (hm : a.eval m = .map (some B)) {f : κ → Option Int} (h : IM P k Ky (intElem P e he) w B n f c) (xv : Value) (key : κ) (hx : a.eval x = xv) (hkey : keyOf P k xv = some (Ky.kl key))
    (hK : wpList P ops Q rest (a.put o.dst (.tuple #[.int .i64 ((f key).getD 0), .bool (f key).isSome])) w) : wpList P ops Q (o :: rest) a w :=
  im_ok w hg m x t hop K ht (z := (0 : Int)) hz (show (Lit.int .i64 0).wf = true by decide) hm h xv key hx hkey hK
theorem im_ok_mark (hg : o.guard = none) (m x : Operand) (t : TypeId) (hop : o.op = Op.lookup t m x true) (K : Keyed P k) (ht : P.underlying t = some (.map k e)) (hz : (zeroValue e).run P w = .ok (.agg #[.bool false]) w)
    (hm : a.eval m = .map (some B)) {f : κ → Option Bool} (h : IM P k Ky markElem w B n f c) (xv : Value) (key : κ) (hx : a.eval x = xv) (hkey : keyOf P k xv = some (Ky.kl key))
    (hK : wpList P ops Q rest (a.put o.dst (.tuple #[.agg #[.bool ((f key).getD false)], .bool (f key).isSome])) w) : wpList P ops Q (o :: rest) a w :=
  im_ok w hg m x t hop K ht (z := false) hz trivial hm h xv key hx hkey hK
theorem im_store (hg : o.guard = none) (m x v : Operand) (t : TypeId) (hop : o.op = Op.mapUpdate t m x v) (K : Keyed P k) (ht : P.underlying t = some (.map k e)) (hm : a.eval m = .map (some B)) (h : IM P k Ky E w B n f c) (hn : n < maxLen)
    (xv vv : Value) (key : κ) (val : α) (hx : a.eval x = xv) (hv : a.eval v = vv) (hkey : keyOf P k xv = some (Ky.kl key)) (hval : vv = E.enc val) (hok : E.ok val)
    (hK : ∀ w', IM P k Ky E w' B (n + 1) (upd f key val) (if (f key).isSome = true then c else c + 1) → w.grownBy w' (some B) → wpList P ops Q rest (a.put o.dst undef) w') : wpList P ops Q (o :: rest) a w := by
  refine wpList_plain hg fun K' hK' => ?_
  subst hval
  obtain ⟨w', hrun, r1, r2⟩ := h.store K ht hn hkey hok
  unfold Oper.wp
  simp [execOp, hop, hm, hx, hv, hrun, Result.andThen]
  exact hK' _ _ (hK w' r1 r2)
theorem im_store_int (he : P.underlying e = some (.int .i64)) (hg : o.guard = none) (m x v : Operand) (t : TypeId) (hop : o.op = Op.mapUpdate t m x v) (K : Keyed P k) (ht : P.underlying t = some (.map k e)) (hm : a.eval m = .map (some B)) {f : κ → Option Int} (h : IM P k Ky (intElem P e he) w B n f c) (hn : n < maxLen)
    (xv : Value) (key : κ) (val : Int) (hx : a.eval x = xv) (hv : a.eval v = .int .i64 val) (hkey : keyOf P k xv = some (Ky.kl key)) (hok : (Lit.int .i64 val).wf = true)
    (hK : ∀ w', IM P k Ky (intElem P e he) w' B (n + 1) (upd f key val) (if (f key).isSome = true then c else c + 1) → w.grownBy w' (some B) → wpList P ops Q rest (a.put o.dst undef) w') : wpList P ops Q (o :: rest) a w :=
  im_store w hg m x v t hop K ht hm h hn xv (.int .i64 val) key val hx hv hkey rfl hok hK
theorem im_store_mark (hg : o.guard = none) (m x v : Operand) (t : TypeId) (hop : o.op = Op.mapUpdate t m x v) (K : Keyed P k) (ht : P.underlying t = some (.map k e)) (hm : a.eval m = .map (some B)) {f : κ → Option Bool} (h : IM P k Ky markElem w B n f c) (hn : n < maxLen)
    (xv : Value) (key : κ) (val : Bool) (hx : a.eval x = xv) (hv : a.eval v = .agg #[.bool val]) (hkey : keyOf P k xv = some (Ky.kl key))
    (hK : ∀ w', IM P k Ky markElem w' B (n + 1) (upd f key val) (if (f key).isSome = true then c else c + 1) → w.grownBy w' (some B) → wpList P ops Q rest (a.put o.dst undef) w') : wpList P ops Q (o :: rest) a w :=
  im_store w hg m x v t hop K ht hm h hn xv (.agg #[.bool val]) key val hx hv hkey rfl trivial hK
theorem im_delete (hg : o.guard = none) (m x : Operand) (t : TypeId) (hop : o.op = Op.call { callee := Callee.builtin Builtin.delete, args := #[m, x], argTypes := #[t, k] }) (K : Keyed P k) (ht : P.underlying t = some (.map k e)) (hm : a.eval m = .map (some B)) (h : IM P k Ky E w B n f c)
    (xv : Value) (key : κ) (hx : a.eval x = xv) (hkey : keyOf P k xv = some (Ky.kl key))
    (hK : ∀ w', IM P k Ky E w' B n (del f key) (if (f key).isSome = true then c - 1 else c) → w.grownBy w' (some B) → wpList P ops Q rest (a.put o.dst (.tuple #[])) w') : wpList P ops Q (o :: rest) a w := by
  refine wpList_plain hg fun K' hK' => ?_
  obtain ⟨w', hrun, r1, r2⟩ := h.drop K ht hkey o.type
  unfold Oper.wp
  simp [execOp, hop, resolve, invoke, builtin, hm, hx, hrun, Result.andThen]
  exact hK' _ _ (hK w' r1 r2)
theorem im_len (hg : o.guard = none) (m : Operand) (t : TypeId) (hop : o.op = Op.call { callee := Callee.builtin Builtin.len, args := #[m], argTypes := #[t] }) (ht : P.underlying t = some (.map k e)) (hm : a.eval m = .map (some B)) (h : IM P k Ky E w B n f c)
    (hK : wpList P ops Q rest (a.put o.dst (.int .i64 c)) w) : wpList P ops Q (o :: rest) a w := by
  refine wpList_plain hg fun K' hK' => ?_
  have hrun := h.len ht o.type
  unfold Oper.wp
  simp [execOp, hop, resolve, invoke, builtin, hm, hrun, Result.andThen]
  exact hK' _ _ hK
end
end Go.Proofs.YtkkkbcjmkmadhaaMaps
/-! text YtkkkbcjmkmadhaaSepAll -/
namespace Go.Proofs.YtkkkbcjmkmadhaaOwn
open Go Go.RowKit Go.Proofs.YtkkkbcjmkmadhaaW.PrintWords Go.Proofs.YtkkkbcjmkmadhaaMaps
set_option linter.unusedVariables false
set_option linter.unusedSimpArgs false
namespace Asr
/-- all of a list, each in blocks of its own -/
def all (As : List Asr) : Asr := ⟨fun W ok => ∃ f : Nat → Nat, ∀ (i : Nat) A, As[i]? = some A → A.P W (fun b => f b = i ∧ ok b), fun {W W1 ok ok'} ⟨f, h⟩ hz hk => ⟨f, fun i A hi => A.step (h i A hi) hz fun k h1 h2 => ⟨(hk k h1.2 h2).1, h1.1, (hk k h1.2 h2).2⟩⟩⟩
/-- a map of one's own -/
def im {κ α : Type} (P : Program) (k : TypeId) (Ky : Keys κ) (E : Elem α) (b n : Nat) (f : κ → Option α) (c : Nat) : Asr := ⟨fun W ok => ok b ∧ IM P k Ky E W b n f c, fun {W W1 ok ok'} h hz hk => by
  have hb : b < W.heap.size := h.2.lt
  exact ⟨(hk b h.1 hb).2, h.2.block (hk b h.1 hb).1⟩⟩
end Asr
section
variable {w W W1 : World} {X : Nat → Prop} {l As : List Asr} {A A' B : Asr}
/-- one that is many is told as many, ahead of the others -/
theorem Sep.opened (h : Sep w X l W) (i : Nat) (hi : l[i]? = some (.all As)) : Sep w X (As ++ l.set i .emp) W := by
  classical
  obtain ⟨f, hf⟩ := h.tags
  obtain ⟨g, hg⟩ := hf i _ hi
  have hil := (List.getElem?_eq_some_iff.1 hi).1
  refine ⟨h.hB, fun b => if f b = i then (if g b < As.length then g b else As.length + i) else As.length + f b, fun q D hq => ?_⟩
  rcases Nat.lt_or_ge q As.length with hl | hl
  · rw [List.getElem?_append_left hl] at hq
    refine Asr.mono (hg q D hq) fun b h1 _ => ⟨?_, h1.2.2⟩
    show (if f b = i then (if g b < As.length then g b else As.length + i) else As.length + f b) = q
    rw [if_pos h1.2.1, if_pos (by rw [h1.1]; exact hl), h1.1]
  · rw [List.getElem?_append_right hl] at hq
    by_cases hqi : q - As.length = i
    · rw [hqi, List.getElem?_set_self hil] at hq
      obtain rfl := Option.some.inj hq
      exact trivial
    · rw [List.getElem?_set_ne (fun e => hqi e.symm)] at hq
      refine Asr.mono (hf _ D hq) fun b h1 _ => ⟨?_, h1.2⟩
      show (if f b = i then (if g b < As.length then g b else As.length + i) else As.length + f b) = q
      rw [if_neg (by rw [h1.1]; exact hqi), h1.1]
      omega
/-- those ahead are told as one, in a free place -/
theorem Sep.shut (h : Sep w X (As ++ l) W) (i : Nat) (hi : l[i]? = some .emp) : Sep w X (l.set i (.all As)) W := by
  classical
  obtain ⟨f, hf⟩ := h.tags
  have hil := (List.getElem?_eq_some_iff.1 hi).1
  refine ⟨h.hB, fun b => if f b < As.length then i else f b - As.length, fun q D hq => ?_⟩
  by_cases hqi : q = i
  · subst hqi
    rw [List.getElem?_set_self hil] at hq
    obtain rfl := Option.some.inj hq
    refine ⟨f, fun j A hj => ?_⟩
    have hjl := (List.getElem?_eq_some_iff.1 hj).1
    refine Asr.mono (hf j A (by rw [List.getElem?_append_left hjl]; exact hj)) fun b h1 _ => ⟨h1.1, ?_, h1.2⟩
    show (if f b < As.length then q else f b - As.length) = q
    rw [if_pos (by rw [h1.1]; exact hjl)]
  · rw [List.getElem?_set_ne (fun e => hqi e.symm)] at hq
    refine Asr.mono (hf (As.length + q) D (by rw [List.getElem?_append_right (by omega), Nat.add_sub_cancel_left]; exact hq)) fun b h1 _ => ⟨?_, h1.2⟩
    show (if f b < As.length then i else f b - As.length) = q
    rw [if_neg (by omega), h1.1]
    omega
/-- one that is some x -/
theorem Sep.exOpen {α : Type} {A : α → Asr} (h : Sep w X l W) (i : Nat) (hi : l[i]? = some (.ex A)) : ∃ x, Sep w X (l.set i (A x)) W := by
  obtain ⟨f, hf⟩ := h.tags
  have hil := (List.getElem?_eq_some_iff.1 hi).1
  obtain ⟨x, hx⟩ := hf i _ hi
  refine ⟨x, h.hB, f, fun q D hq => ?_⟩
  by_cases hqi : q = i
  · subst hqi
    rw [List.getElem?_set_self hil] at hq
    obtain rfl := Option.some.inj hq
    exact hx
  · rw [List.getElem?_set_ne (fun e => hqi e.symm)] at hq
    exact hf q D hq
theorem Sep.exShut {α : Type} {A : α → Asr} {x : α} (h : Sep w X l W) (i : Nat) (hi : l[i]? = some (A x)) : Sep w X (l.set i (.ex A)) W :=
  h.as i hi fun ok h1 => ⟨x, h1⟩
/-- a map is written -/
theorem Sep.imStep {κ α : Type} {P : Program} {k : TypeId} {Ky : Keys κ} {E : Elem α} {b n n' c c' : Nat} {f f' : κ → Option α} (h : Sep w X l W) (hX : ∀ b, X b → b < W.heap.size) (i : Nat) (hi : l[i]? = some (.im P k Ky E b n f c)) (h1 : IM P k Ky E W1 b n' f' c') (hg : W.grownBy W1 (some b)) : Sep w X (l.set i (.im P k Ky E b n' f' c')) W1 :=
  h.upd i hi (M := fun k => k = b) (Grow.of_grownBy hg fun r e => by injection e with e; exact e.symm) hX (fun ok hA k hk _ => by subst hk; exact hA.1) fun ok hA _ => ⟨hA.1, h1⟩
theorem Sep.imGet {κ α : Type} {P : Program} {k : TypeId} {Ky : Keys κ} {E : Elem α} {b n c : Nat} {f : κ → Option α} (h : Sep w X l W) (i : Nat) (hi : l[i]? = some (.im P k Ky E b n f c)) : IM P k Ky E W b n f c := (h.get i hi).2
/-- a new map in a free place -/
theorem Sep.imNew {κ α : Type} {P : Program} {k : TypeId} {Ky : Keys κ} {E : Elem α} (h : Sep w X l W) (hX : ∀ b, X b → b < W.heap.size) (i : Nat) (hi : l[i]? = some .emp) : Sep w X (l.set i (.im P k Ky E W.heap.size 0 (fun _ => none) 0)) (W.alloc (.map #[] 0)) :=
  h.fill i hi (below_alloc (Below.refl _ _) _) hX ⟨Nat.le_refl _, IM.made W⟩
end
end Go.Proofs.YtkkkbcjmkmadhaaOwn
/-! text YtkkkbcjmkmadhaaSepMove -/
namespace Go.Proofs.YtkkkbcjmkmadhaaOwn
open Go Go.RowKit Go.Proofs.YtkkkbcjmkmadhaaW.PrintWords Go.Proofs.YtkkkbcjmkmadhaaMaps
set_option linter.unusedVariables false
set_option linter.unusedSimpArgs false
section
variable {w W W1 : World} {X : Nat → Prop} {l l' As Bs R : List Asr} {A A' B : Asr}
/-- the places in another order, each from where g says; some left out, free ones anywhere -/
theorem Sep.move (h : Sep w X l W) (g : Nat → Nat) (hl : ∀ (j : Nat) A, l'[j]? = some A → A = .emp ∨ ∃ i, l[i]? = some A ∧ g i = j) : Sep w X l' W := by
  obtain ⟨f, hf⟩ := h.tags
  refine ⟨h.hB, fun b => g (f b), fun j A hj => ?_⟩
  rcases hl j A hj with rfl | ⟨i, hi, hg⟩
  · exact trivial
  · exact Asr.mono (hf i A hi) fun b h1 _ => ⟨by show g (f b) = j; rw [h1.1]; exact hg, h1.2⟩
/-- by a list of places: the j-th of l' is the (ix j)-th of l -/
theorem Sep.pick (h : Sep w X l W) (ix : List Nat) (hnd : ix.Nodup) (hl : ∀ (j : Nat) A, l'[j]? = some A → A = .emp ∨ ∃ i, ix[j]? = some i ∧ l[i]? = some A) : Sep w X l' W := by
  refine h.move (fun i => ix.idxOf i) fun j A hj => ?_
  rcases hl j A hj with h1 | ⟨i, h1, h2⟩
  · exact .inl h1
  · refine .inr ⟨i, h2, ?_⟩
    obtain ⟨hlt, he⟩ := List.getElem?_eq_some_iff.1 h1
    rw [← he]
    exact hnd.idxOf_getElem j hlt
theorem Sep.padEnd (h : Sep w X l W) (k : Nat) : Sep w X (l ++ List.replicate k .emp) W := by
  refine h.move id fun j A hj => ?_
  rcases Nat.lt_or_ge j l.length with h1 | h1
  · rw [List.getElem?_append_left h1] at hj
    exact .inr ⟨j, hj, rfl⟩
  · rw [List.getElem?_append_right h1, List.getElem?_replicate] at hj
    split at hj
    · exact .inl (Option.some.inj hj).symm
    · cases hj
/-- what stands behind As as one thing -/
theorem Sep.frameIn (h : Sep w X (As ++ R) W) : Sep w X (As ++ [.all R]) W := by
  have h1 : Sep w X (R ++ (As ++ [.emp])) W := by
    refine h.move (fun i => if i < As.length then R.length + i else i - As.length) fun j A hj => ?_
    rcases Nat.lt_or_ge j R.length with h1 | h1
    · rw [List.getElem?_append_left h1] at hj
      refine .inr ⟨As.length + j, by rw [List.getElem?_append_right (by omega), Nat.add_sub_cancel_left]; exact hj, ?_⟩
      show (if As.length + j < As.length then _ else _) = j
      rw [if_neg (by omega)]
      omega
    · rw [List.getElem?_append_right h1] at hj
      rcases Nat.lt_or_ge (j - R.length) As.length with h2 | h2
      · rw [List.getElem?_append_left h2] at hj
        refine .inr ⟨j - R.length, by rw [List.getElem?_append_left h2]; exact hj, ?_⟩
        show (if j - R.length < As.length then _ else _) = j
        rw [if_pos h2]
        omega
      · rw [List.getElem?_append_right h2] at hj
        have h3 : j - R.length - As.length = 0 := by
          have := (List.getElem?_eq_some_iff.1 hj).1
          simp at this
          omega
        rw [h3] at hj
        exact .inl (by simpa using hj.symm)
  have h2 := h1.shut As.length (by rw [List.getElem?_append_right (Nat.le_refl _), Nat.sub_self]; rfl)
  have e : (As ++ [Asr.emp]).set As.length (.all R) = As ++ [.all R] := by
    rw [List.set_append_right _ _ (Nat.le_refl _), Nat.sub_self]; rfl
  rwa [e] at h2
/-- the frame is told as many again, behind the others -/
theorem Sep.frameOut (h : Sep w X (As ++ .all R :: Bs) W) : Sep w X (As ++ Bs ++ R) W := by
  have h1 := h.opened As.length (by rw [List.getElem?_append_right (Nat.le_refl _), Nat.sub_self]; rfl)
  have e : (As ++ .all R :: Bs).set As.length .emp = As ++ .emp :: Bs := by
    rw [List.set_append_right _ _ (Nat.le_refl _), Nat.sub_self]; rfl
  rw [e] at h1
  refine h1.move (fun i => if i < R.length then As.length + Bs.length + i else if i < R.length + As.length then i - R.length else i - R.length - 1) fun j A hj => ?_
  rcases Nat.lt_or_ge j As.length with h2 | h2
  · rw [List.getElem?_append_left (by rw [List.length_append]; omega), List.getElem?_append_left h2] at hj
    refine .inr ⟨R.length + j, by rw [List.getElem?_append_right (by omega), Nat.add_sub_cancel_left, List.getElem?_append_left h2]; exact hj, ?_⟩
    show (if R.length + j < R.length then _ else if R.length + j < R.length + As.length then _ else _) = j
    rw [if_neg (by omega), if_pos (by omega)]
    omega
  · rcases Nat.lt_or_ge j (As.length + Bs.length) with h3 | h3
    · rw [List.getElem?_append_left (by rw [List.length_append]; omega), List.getElem?_append_right h2] at hj
      refine .inr ⟨R.length + (j + 1), by rw [List.getElem?_append_right (by omega), Nat.add_sub_cancel_left, List.getElem?_append_right (by omega), show j + 1 - As.length = (j - As.length) + 1 by omega, List.getElem?_cons_succ]; exact hj, ?_⟩
      show (if R.length + (j + 1) < R.length then _ else if R.length + (j + 1) < R.length + As.length then _ else _) = j
      rw [if_neg (by omega), if_neg (by omega)]
      omega
    · rw [List.getElem?_append_right (by rw [List.length_append]; omega), List.length_append] at hj
      have hlt := (List.getElem?_eq_some_iff.1 hj).1
      refine .inr ⟨j - (As.length + Bs.length), by rw [List.getElem?_append_left hlt]; exact hj, ?_⟩
      show (if j - (As.length + Bs.length) < R.length then _ else _) = j
      rw [if_pos hlt]
      omega
end
end Go.Proofs.YtkkkbcjmkmadhaaOwn
