/- How an argument's reading hands over a value of a kind, kind by kind: its cells, its numbers' bounds, its size. -/
import Derived.Test.YtggnnnddnppcpaaRows
import Derived.Test.YtggnnnddnppcpaaWWords
import Derived.Deep.Slices
import Derived.SizedLaws
import Derived.ChangeSame
import Derived.ProofKit
import Derived.OpenShut
import Derived.Test.YtggnnnddnppcpaaClCnfModelse
import Derived.Test.YtggnnnddnppcpaaPCnfToldx2
/-! text YtggnnnddnppcpaaOpens -/
namespace Go.Proofs.YtggnnnddnppcpaaOpens
open Go.RowKit Go.ChangeShapes Go.WideShapes Go.Proofs.YtggnnnddnppcpaaW.PrintWords Go.Proofs.Ytggnnnddnppcpaa
set_option linter.unusedVariables false

structure Opens {α : Type} (P : Program) (T : TypeId) (d : Kd α) (OK : α → Prop) (m : α → Nat) : Prop where
  size : P.cellsOf T = d.sz
  opens : ∀ {H : Type} {enc : TypeId × Value → H} {W : World} {fuel : Nat} {cs : List Value} {x : DataW H} {ps : List MemPlace},
    DataW.trod enc P W 0 (fun _ => true) true fuel T cs = some (x, ps) → (∀ n ∈ DataW.weights P T x, n ≤ reachBytes) → ∃ a, d.K W a cs ∧ OK a ∧ m a ≤ Rows.uptoBulk x

theorem opens_int {P : Program} {T : TypeId} {k : IntKind} (hu : P.underlying T = some (.int k)) (hs : P.cellsOf T = 1) : Opens P T (Kd.int k) (fun x => (Lit.int k x).wf = true) (fun _ => 1) where
  size := hs
  opens := by
    intro H enc W fuel cs x ps h _
    obtain ⟨n, rfl, hx, hw⟩ := DataW.trod_int hu h
    injection hx with hx _
    subst hx
    exact ⟨n, rfl, hw, by simp [Rows.uptoBulk]⟩

theorem opens_bool {P : Program} {T : TypeId} (hu : P.underlying T = some .bool) (hs : P.cellsOf T = 1) : Opens P T Kd.bool (fun _ => True) (fun _ => 1) where
  size := hs
  opens := by
    intro H enc W fuel cs x ps h _
    obtain ⟨n, rfl, hx⟩ := DataW.trod_bool hu h
    injection hx with hx _
    subst hx
    exact ⟨n, rfl, trivial, by simp [Rows.uptoBulk]⟩

def sumOf {α : Type} (m : α → Nat) : List α → Nat
  | [] => 0
  | x :: r => m x + sumOf m r

theorem opens_rows {α H : Type} {P : Program} {e : TypeId} {d : Kd α} {OK : α → Prop} {m : α → Nat} (he : Opens P e d OK m) {enc : TypeId × Value → H} {W : World} {n : Nat} {a : Addr} :
    ∀ (l : List (DataW H)) (o : Nat), (∀ i x, l[i]? = some x → ∃ cs' ps, W.cells? 0 (a.add ((o + i) * P.cellsOf e)) (P.cellsOf e) = some cs' ∧ DataW.trod enc P W 0 (fun _ => true) true n e cs' = some (x, ps)) →
    (∀ q ∈ DataW.weightsAll P e l, q ≤ reachBytes) →
    ∃ xs : List α, xs.length = l.length ∧ (∀ x ∈ xs, OK x) ∧ sumOf m xs ≤ Rows.uptoBulkAll l ∧
      ∀ j p, xs[j]? = some p → ∃ c, c.length = d.sz ∧ d.K W p c ∧ W.cells? 0 (a.add ((o + j) * P.cellsOf e)) (P.cellsOf e) = some c
  | [], o, _, _ => ⟨[], rfl, by simp, by simp [sumOf], by simp⟩
  | x :: l, o, hx, hw => by
    obtain ⟨cs', ps, h1, h2⟩ := hx 0 x rfl
    obtain ⟨p, hK, hok, hm⟩ := he.opens h2 (fun q hq => hw q (by simp only [DataW.weightsAll, List.mem_append]; exact .inl hq))
    obtain ⟨xs, e1, e2, e3, e4⟩ := opens_rows he l (o + 1) (fun i y hy => by
      have := hx (i + 1) y (by simpa using hy)
      rwa [show o + (i + 1) = o + 1 + i by omega] at this) (fun q hq => hw q (by simp only [DataW.weightsAll, List.mem_append]; exact .inr hq))
    refine ⟨p :: xs, by simp [e1], ?_, ?_, ?_⟩
    · intro y hy
      rcases List.mem_cons.1 hy with rfl | hy
      · exact hok
      · exact e2 y hy
    · simp only [sumOf, Rows.uptoBulkAll]
      omega
    · intro j q hj
      cases j with
      | zero =>
        simp at hj
        subst hj
        exact ⟨cs', d.K_len hK, hK, h1⟩
      | succ j =>
        obtain ⟨c, c1, c2, c3⟩ := e4 j q (by simpa using hj)
        exact ⟨c, c1, c2, by rwa [show o + (j + 1) = o + 1 + j by omega]⟩

theorem bulk_pos {H : Type} (d : DataW H) : 1 ≤ Rows.uptoBulk d := by
  cases d with
  | lit l => cases l <;> simp [Rows.uptoBulk]
  | nil => simp [Rows.uptoBulk]
  | ptr d => simp [Rows.uptoBulk]
  | slice elems spare => simp [Rows.uptoBulk]
  | agg parts => simp [Rows.uptoBulk]
  | iface t d => simp [Rows.uptoBulk]
  | map entries => simp [Rows.uptoBulk]
  | held h => simp [Rows.uptoBulk]

theorem bulkAll_append {H : Type} (l r : List (DataW H)) : Rows.uptoBulkAll (l ++ r) = Rows.uptoBulkAll l + Rows.uptoBulkAll r := by
  induction l with
  | nil => simp [Rows.uptoBulkAll]
  | cons x l ih => simp only [List.cons_append, Rows.uptoBulkAll, ih]; omega

theorem bulk_length {H : Type} (l : List (DataW H)) : l.length ≤ Rows.uptoBulkAll l := by
  induction l with
  | nil => simp [Rows.uptoBulkAll]
  | cons x r ih => have := bulk_pos x; simp only [Rows.uptoBulkAll, List.length_cons]; omega

theorem opens_slice {α : Type} {P : Program} {T e : TypeId} {d : Kd α} {OK : α → Prop} {m : α → Nat} {B : Nat} (he : Opens P e d OK m) (hu : P.underlying T = some (.slice e)) (hs : P.cellsOf T = 1) (hB : P.bytesOf e = B) :
    Opens P T (Kd.slice e d) (fun xs => xs.length * B ≤ 140737488351232 ∧ ∀ x ∈ xs, OK x) (fun xs => sumOf m xs + 1) where
  size := hs
  opens := by
    intro H enc W fuel cs x ps h hw
    rcases DataW.trod_slice hu h with ⟨rfl, hx⟩ | ⟨a, len, cap, elems, rest, n, _, rfl, hx, hb, hl, hm, hlen, hel, hsp, _⟩
    · injection hx with hx _
      subst hx
      refine ⟨[], ⟨none, 0, rfl, Nat.le_refl _, rfl, by simp, fun hp => absurd hp (by simp)⟩, ⟨by simp, by simp⟩, ?_⟩
      simp [sumOf, Rows.uptoBulk]
    · injection hx with hx _
      subst hx
      have hw1 : (elems.length + rest.length) * B ≤ reachBytes := by
        have := hw ((elems.length + rest.length) * B) (by simp [DataW.weights, hu, hB])
        exact this
      obtain ⟨xs, e1, e2, e3, e4⟩ := opens_rows he (enc := enc) (W := W) (n := n) (a := a) (elems.map (·.1)) 0 (by
        intro i y hy
        rw [List.getElem?_map] at hy
        obtain ⟨z, hz, rfl⟩ := Option.map_eq_some_iff.1 hy
        have hi : i < len := by
          rcases Nat.lt_or_ge i elems.length with h | h
          · omega
          · rw [List.getElem?_eq_none h] at hz; cases hz
        have hq := hel i hi
        rw [hz] at hq
        obtain ⟨cs', h1, h2⟩ := Option.bind_eq_some_iff.1 hq
        exact ⟨cs', z.2, by rwa [Nat.zero_add], h2⟩) (fun q hq => hw q (by
          simp only [DataW.weights, hu, List.mem_cons, List.mem_append]
          exact .inr (.inl hq)))
      have e1' : xs.length = len := by rw [e1, List.length_map, hlen]
      have hmx : len ≤ 9223372036854775807 := by simp only [maxLen] at hm; omega
      refine ⟨xs, ⟨some a, cap, by rw [e1'], by omega, ⟨rfl, by omega, fun _ => ⟨a, rfl, ?_⟩⟩⟩, ⟨?_, e2⟩, ?_⟩
      · intro j p hj
        obtain ⟨c, c1, c2, c3⟩ := e4 j p hj
        rw [Nat.zero_add] at c3
        refine ⟨c, c1, c2, fun i u hu' => ?_⟩
        obtain ⟨_, hlen2, hcell⟩ := World.cells?_some c3
        have hi : i < c.length := by
          rcases Nat.lt_or_ge i c.length with h | h
          · exact h
          · rw [List.getElem?_eq_none h] at hu'; cases hu'
        have hq := hcell i (by omega)
        rw [hu'] at hq
        rw [← hq, he.size]
        congr 1
        unfold Addr.add
        by_cases g1 : j * d.sz = 0 <;> by_cases g2 : i = 0 <;> simp [g1, g2, Nat.add_assoc]
      · have : reachBytes = 140737488351232 := rfl
        have h3 : xs.length * B ≤ (elems.length + rest.length) * B := Nat.mul_le_mul_right _ (by omega)
        omega
      · simp only [Rows.uptoBulk]
        omega

/-- Some fields of a struct, from an offset on. -/
structure OpensF {α : Type} (P : Program) (fs : List Field) (off : Nat) (d : Kd α) (OK : α → Prop) (m : α → Nat) : Prop where
  opens : ∀ {H : Type} {enc : TypeId × Value → H} {W : World} {n : Nat} {cs : List Value} {xs : List (DataW H × List MemPlace)}, xs.length = fs.length →
    (∀ (i : Nat) (f : Field), fs[i]? = some f → DataW.trod enc P W 0 (fun _ => true) true n f.type ((cs.drop f.offset).take (P.cellsOf f.type)) = xs[i]?) →
    (∀ q ∈ DataW.weightsEach P (fs.map (·.type)) (xs.map (·.1)), q ≤ reachBytes) → ∃ a, d.K W a ((cs.drop off).take d.sz) ∧ OK a ∧ m a ≤ Rows.uptoBulkAll (xs.map (·.1))

theorem opensF_last {α : Type} {P : Program} {f : Field} {off : Nat} {d : Kd α} {OK : α → Prop} {m : α → Nat} (he : Opens P f.type d OK m) (ho : f.offset = off) : OpensF P [f] off d OK m where
  opens := by
    intro H enc W n cs xs hl h hw
    match xs, hl with
    | [x], _ =>
      have h0 := h 0 f rfl
      rw [he.size, ho] at h0
      obtain ⟨a, h1, h2, h3⟩ := he.opens (x := x.1) (ps := x.2) h0 (fun q hq => hw q (by simpa [DataW.weightsEach] using hq))
      exact ⟨a, h1, h2, by simpa [Rows.uptoBulkAll] using h3⟩

theorem opensF_cons {α β : Type} {P : Program} {f : Field} {fs : List Field} {off : Nat} {d : Kd α} {d1 : Kd β} {OK : α → Prop} {OK1 : β → Prop} {m : α → Nat} {m1 : β → Nat}
    (he : Opens P f.type d OK m) (ho : f.offset = off) (hr : OpensF P fs (off + d.sz) d1 OK1 m1) : OpensF P (f :: fs) off (Kd.pair d d1) (fun p => OK p.1 ∧ OK1 p.2) (fun p => m p.1 + m1 p.2) where
  opens := by
    intro H enc W n cs xs hl h hw
    match xs, hl with
    | x :: xs, hl =>
      have h0 := h 0 f rfl
      rw [he.size, ho] at h0
      obtain ⟨a, h1, h2, h3⟩ := he.opens (x := x.1) (ps := x.2) h0 (fun q hq => hw q (by
        simp only [List.map_cons, DataW.weightsEach, List.mem_append]; exact .inl hq))
      obtain ⟨b, g1, g2, g3⟩ := hr.opens (xs := xs) (by simpa using hl) (fun i f' hf => by simpa using h (i + 1) f' (by simpa using hf)) (fun q hq => hw q (by
        simp only [List.map_cons, DataW.weightsEach, List.mem_append]; exact .inr hq))
      refine ⟨(a, b), ⟨_, _, ?_, h1, g1⟩, ⟨h2, g2⟩, by simp only [List.map_cons, Rows.uptoBulkAll]; omega⟩
      show (cs.drop off).take (d.sz + d1.sz) = _
      rw [List.take_add, List.drop_drop]

theorem opens_struct {α : Type} {P : Program} {T : TypeId} {fs : Array Field} {d : Kd α} {OK : α → Prop} {m : α → Nat} (hf : OpensF P fs.toList 0 d OK m) (hu : P.underlying T = some (.struct fs)) (hs : P.cellsOf T = d.sz) :
    Opens P T d OK (fun a => m a + 1) where
  size := hs
  opens := by
    intro H enc W fuel cs x ps h hw
    obtain ⟨xs, n, _, hx, hl, hlen, hq⟩ := DataW.trod_struct hu h
    injection hx with hx _
    subst hx
    obtain ⟨a, h1, h2, h3⟩ := hf.opens (xs := xs) (cs := cs) (by simpa using hlen) (fun i f hi => hq i f (by simpa using hi)) (fun q hq => hw q (by
      simp only [DataW.weights, hu]; exact hq))
    refine ⟨a, ?_, h2, by simp only [Rows.uptoBulk]; omega⟩
    rwa [List.drop_zero, List.take_of_length_le (by omega)] at h1

theorem opens_iso {α β : Type} {P : Program} {T : TypeId} {d : Kd α} {OK : α → Prop} {m : α → Nat} (he : Opens P T d OK m) (f : β → α) (g : α → β) (hfg : ∀ a, f (g a) = a) : Opens P T (Kd.iso d f) (fun b => OK (f b)) (fun b => m (f b)) where
  size := he.size
  opens := by
    intro H enc W fuel cs x ps h hw
    obtain ⟨a, h1, h2, h3⟩ := he.opens h hw
    exact ⟨g a, by show d.K W (f (g a)) cs; rw [hfg]; exact h1, by rw [hfg]; exact h2, by rw [hfg]; exact h3⟩

/-- A slice, as an argument's value. -/
theorem slice_arg {α H : Type} {P : Program} {T e : TypeId} {d : Kd α} {OK : List α → Prop} {m : List α → Nat} (he : Opens P T (Kd.slice e d) OK m) {enc : TypeId × Value → H} {W : World} {a : Option Addr} {len cap : Nat} {x : DataW H} {ps : List MemPlace}
    (h : DataW.Trod enc P W 0 (fun _ => true) true T (.slice a len cap) x ps) (hw : ∀ n ∈ DataW.weights P T x, n ≤ reachBytes) :
    ∃ xs, len = xs.length ∧ d.C W a xs.length xs ∧ xs.length ≤ cap ∧ OK xs ∧ m xs ≤ Rows.uptoBulk x := by
  obtain ⟨fuel, hf⟩ := h
  obtain ⟨xs, ⟨A, c, hcs, hc, hC⟩, h2, h3⟩ := he.opens hf hw
  simp [Value.cells] at hcs
  obtain ⟨rfl, rfl, rfl⟩ := hcs
  exact ⟨xs, rfl, hC, hc, h2, h3⟩

/-- A struct, as an argument's value. -/
theorem struct_arg {α H : Type} {P : Program} {T : TypeId} {d : Kd α} {OK : α → Prop} {m : α → Nat} (he : Opens P T d OK m) {enc : TypeId × Value → H} {W : World} {cs : Array Value} {x : DataW H} {ps : List MemPlace}
    (h : DataW.Trod enc P W 0 (fun _ => true) true T (.agg cs) x ps) (hw : ∀ n ∈ DataW.weights P T x, n ≤ reachBytes) :
    ∃ a, d.K W a cs.toList ∧ OK a ∧ m a ≤ Rows.uptoBulk x := by
  obtain ⟨fuel, hf⟩ := h
  exact he.opens (by simpa [Value.cells] using hf) hw

/-- What the row's reach says of one argument. -/
theorem reach_of {H : Type} {P : Program} {ts : List TypeId} {ds : List (DataW H)} (hsz : (DataW.weightsEach P ts ds).all (· ≤ reachBytes) = true) {j : Nat} {t : TypeId} {d : DataW H} (ht : ts[j]? = some t) (hd : ds[j]? = some d) : ∀ n ∈ DataW.weights P t d, n ≤ reachBytes := by
  intro n hn
  simpa using List.all_eq_true.1 hsz n (DataW.weights_mem_each ht hd n hn)

/-- What the second form's bound says of one argument. -/
theorem bulk_of {H : Type} {ds : List (DataW H)} (hk : Rows.uptoSmall H ds = true) : Rows.uptoBulkAll ds ≤ 1048576 := of_decide_eq_true hk

end Go.Proofs.YtggnnnddnppcpaaOpens
/-! text YtggnnnddnppcpaaTidyPure -/
set_option linter.unusedVariables false
set_option linter.unusedSimpArgs false
namespace Go.Proofs.YtggnnnddnppcpaaMath
open Go.RowKit Go.Proofs.YtggnnnddnppcpaaW.PrintWords

def mg : List Int → List Int → List Int
  | [], bs => bs
  | a :: az, [] => a :: az
  | a :: az, b :: bs => if idxOf a < idxOf b then a :: mg az (b :: bs) else if idxOf b < idxOf a then b :: mg (a :: az) bs else a :: mg az bs
termination_by a b => a.length + b.length
theorem mg_nil (b : List Int) : mg [] b = b := by rw [mg]
theorem mg_nil' (a : List Int) : mg a [] = a := by cases a <;> rw [mg]
theorem mg_lt {a b : Int} {az bs : List Int} (h : idxOf a < idxOf b) : mg (a :: az) (b :: bs) = a :: mg az (b :: bs) := by rw [mg, if_pos h]
theorem mg_gt {a b : Int} {az bs : List Int} (h : idxOf b < idxOf a) : mg (a :: az) (b :: bs) = b :: mg (a :: az) bs := by rw [mg, if_neg (by omega), if_pos h]
theorem mg_eq {a b : Int} {az bs : List Int} (h : idxOf a = idxOf b) : mg (a :: az) (b :: bs) = a :: mg az bs := by rw [mg, if_neg (by omega), if_neg (by omega)]
theorem mg_length (n : Nat) : ∀ a b : List Int, a.length + b.length ≤ n → (mg a b).length ≤ a.length + b.length := by
  induction n with
  | zero =>
    intro a b h
    cases a with
    | nil => simp [mg_nil]
    | cons => simp at h
  | succ n ih =>
    intro a b h
    cases a with
    | nil => simp [mg_nil]
    | cons x az =>
      cases b with
      | nil => simp [mg_nil']
      | cons y bs =>
        simp only [List.length_cons] at h
        by_cases h1 : idxOf x < idxOf y
        · have := ih az (y :: bs) (by simp only [List.length_cons]; omega)
          rw [mg_lt h1]; simp only [List.length_cons] at this ⊢; omega
        · by_cases h2 : idxOf y < idxOf x
          · have := ih (x :: az) bs (by simp only [List.length_cons]; omega)
            rw [mg_gt h2]; simp only [List.length_cons] at this ⊢; omega
          · have := ih az bs (by omega)
            rw [mg_eq (by omega)]; simp only [List.length_cons]; omega
theorem mg_mem (n : Nat) : ∀ a b : List Int, a.length + b.length ≤ n → (∀ x ∈ a, formed x = true) → (∀ x ∈ b, formed x = true) → ∀ x, x ∈ mg a b ↔ x ∈ a ∨ x ∈ b := by
  induction n with
  | zero =>
    intro a b h _ _ x
    cases a with
    | nil => simp [mg_nil]
    | cons => simp at h
  | succ n ih =>
    intro a b h ha hb x
    cases a with
    | nil => simp [mg_nil]
    | cons p az =>
      cases b with
      | nil => simp [mg_nil']
      | cons q bs =>
        simp only [List.length_cons] at h
        have ha' : ∀ x ∈ az, formed x = true := fun x hx => ha x (List.mem_cons_of_mem _ hx)
        have hb' : ∀ x ∈ bs, formed x = true := fun x hx => hb x (List.mem_cons_of_mem _ hx)
        by_cases h1 : idxOf p < idxOf q
        · have := ih az (q :: bs) (by simp only [List.length_cons]; omega) ha' hb x
          rw [mg_lt h1]; simp only [List.mem_cons] at this ⊢; rw [this]; simp only [or_assoc]
        · by_cases h2 : idxOf q < idxOf p
          · have := ih (p :: az) bs (by simp only [List.length_cons]; omega) ha hb' x
            rw [mg_gt h2]; simp only [List.mem_cons] at this ⊢; rw [this]
            constructor
            · rintro (h | (h | h) | h) <;> simp [h]
            · rintro ((h | h) | h | h) <;> simp [h]
          · have e : p = q := idx_inj (ha p (List.mem_cons_self ..)) (hb q (List.mem_cons_self ..)) (by omega)
            have := ih az bs (by omega) ha' hb' x
            rw [mg_eq (by omega)]; simp only [List.mem_cons] at this ⊢; rw [this, e]
            constructor
            · rintro (h | h | h) <;> simp [h]
            · rintro ((h | h) | h | h) <;> simp [h]
theorem mg_rising (n : Nat) : ∀ a b : List Int, a.length + b.length ≤ n → (∀ x ∈ a, formed x = true) → (∀ x ∈ b, formed x = true) → Rising a → Rising b → Rising (mg a b) := by
  induction n with
  | zero =>
    intro a b h _ _ r1 r2
    cases a with
    | nil => rwa [mg_nil]
    | cons => simp at h
  | succ n ih =>
    intro a b h ha hb r1 r2
    cases a with
    | nil => rwa [mg_nil]
    | cons p az =>
      cases b with
      | nil => rwa [mg_nil']
      | cons q bs =>
        simp only [List.length_cons] at h
        have ha' : ∀ x ∈ az, formed x = true := fun x hx => ha x (List.mem_cons_of_mem _ hx)
        have hb' : ∀ x ∈ bs, formed x = true := fun x hx => hb x (List.mem_cons_of_mem _ hx)
        obtain ⟨p1, p2⟩ := List.pairwise_cons.1 r1
        obtain ⟨q1, q2⟩ := List.pairwise_cons.1 r2
        by_cases h1 : idxOf p < idxOf q
        · rw [mg_lt h1]
          refine List.pairwise_cons.2 ⟨fun x hx => ?_, ih az (q :: bs) (by simp only [List.length_cons]; omega) ha' hb p2 r2⟩
          rcases (mg_mem _ az (q :: bs) (Nat.le_refl _) ha' hb x).1 hx with h | h
          · exact p1 x h
          · rcases List.mem_cons.1 h with h | h
            · rw [h]; exact h1
            · have := q1 x h; omega
        · by_cases h2 : idxOf q < idxOf p
          · rw [mg_gt h2]
            refine List.pairwise_cons.2 ⟨fun x hx => ?_, ih (p :: az) bs (by simp only [List.length_cons]; omega) ha hb' r1 q2⟩
            rcases (mg_mem _ (p :: az) bs (Nat.le_refl _) ha hb' x).1 hx with h | h
            · rcases List.mem_cons.1 h with h | h
              · rw [h]; exact h2
              · have := p1 x h; omega
            · exact q1 x h
          · rw [mg_eq (by omega)]
            refine List.pairwise_cons.2 ⟨fun x hx => ?_, ih az bs (by omega) ha' hb' p2 q2⟩
            rcases (mg_mem _ az bs (Nat.le_refl _) ha' hb' x).1 hx with h | h
            · exact p1 x h
            · have := q1 x h; omega
theorem tidyOf_append (a b : List Int) : tidyOf (a ++ b) = mg (tidyOf a) (tidyOf b) :=
  tidyOf_eq (mg_rising _ _ _ (Nat.le_refl _) (fun _ h => tidyOf_formed h) (fun _ h => tidyOf_formed h) (rising_tidyOf a) (rising_tidyOf b)) fun x => by
    rw [mg_mem _ _ _ (Nat.le_refl _) (fun _ h => tidyOf_formed h) (fun _ h => tidyOf_formed h), mem_tidyOf, mem_tidyOf, List.mem_append]
    constructor
    · rintro (⟨h, g⟩ | ⟨h, g⟩) <;> simp [h, g]
    · rintro ⟨h | h, g⟩ <;> simp [h, g]
theorem tidyOf_nil : tidyOf [] = [] := rfl
theorem tidyOf_one (x : Int) : tidyOf [x] = if formed x = true then [x] else [] := by
  refine tidyOf_eq ?_ fun y => ?_
  · split
    · exact List.pairwise_singleton ..
    · exact List.Pairwise.nil
  · split
    · rename_i h
      simp only [List.mem_singleton]
      exact ⟨fun e => ⟨e, e ▸ h⟩, fun e => e.1⟩
    · rename_i h
      simp only [List.mem_singleton, List.not_mem_nil, false_iff]
      rintro ⟨rfl, g⟩; exact h g
theorem tidyOf_tidyOf (a : List Int) : tidyOf (tidyOf a) = tidyOf a :=
  tidyOf_eq (rising_tidyOf a) fun x => ⟨fun h => ⟨h, tidyOf_formed h⟩, fun h => h.1⟩
theorem rising_filter {a : List Int} (p : Int → Bool) (h : Rising a) : Rising (a.filter p) := List.Pairwise.filter _ h
theorem tidyOf_rising {t : List Int} (hr : Rising t) (hf : ∀ x ∈ t, formed x = true) : tidyOf t = t :=
  tidyOf_eq hr fun x => ⟨fun h => ⟨h, hf x h⟩, fun h => h.1⟩
theorem withoutOf_tidy (a : List Int) (p : Int → Bool) : tidyOf ((tidyOf a).filter p) = (tidyOf a).filter p :=
  tidyOf_rising (rising_filter p (rising_tidyOf a)) fun x h => tidyOf_formed (List.mem_filter.1 h).1
theorem mg_len (n : Nat) : ∀ a b : List Int, a.length + b.length ≤ n → (∀ x ∈ a, formed x = true) → (∀ x ∈ b, formed x = true) → b.length ≤ (mg a b).length ∧ ((mg a b).length = b.length → ∀ x ∈ a, x ∈ b) := by
  induction n with
  | zero =>
    intro a b h _ _
    cases a with
    | nil => simp [mg_nil]
    | cons => simp at h
  | succ n ih =>
    intro a b h ha hb
    cases a with
    | nil => simp [mg_nil]
    | cons p az =>
      cases b with
      | nil => simp [mg_nil']
      | cons q bs =>
        simp only [List.length_cons] at h
        have ha' : ∀ x ∈ az, formed x = true := fun x hx => ha x (List.mem_cons_of_mem _ hx)
        have hb' : ∀ x ∈ bs, formed x = true := fun x hx => hb x (List.mem_cons_of_mem _ hx)
        by_cases h1 : idxOf p < idxOf q
        · have := (ih az (q :: bs) (by simp only [List.length_cons]; omega) ha' hb).1
          rw [mg_lt h1]; simp only [List.length_cons] at this ⊢
          exact ⟨by omega, fun h => by omega⟩
        · by_cases h2 : idxOf q < idxOf p
          · have := ih (p :: az) bs (by simp only [List.length_cons]; omega) ha hb'
            rw [mg_gt h2]; simp only [List.length_cons] at this ⊢
            exact ⟨by omega, fun h x hx => List.mem_cons_of_mem _ (this.2 (by omega) x hx)⟩
          · have e : p = q := idx_inj (ha p (List.mem_cons_self ..)) (hb q (List.mem_cons_self ..)) (by omega)
            have := ih az bs (by omega) ha' hb'
            rw [mg_eq (by omega)]; simp only [List.length_cons]
            refine ⟨by omega, fun h x hx => ?_⟩
            rcases List.mem_cons.1 hx with rfl | hx
            · rw [e]; exact List.mem_cons_self ..
            · exact List.mem_cons_of_mem _ (this.2 (by omega) x hx)
/-- a rising list of literals has at most 2097152 places -/
theorem rising_count (t : List Int) : ∀ m : Int, Rising t → (∀ x ∈ t, formed x = true) → (∀ x ∈ t, m ≤ idxOf x) → m ≤ 2097152 → (t.length : Int) ≤ 2097152 - m := by
  induction t with
  | nil => intro m _ _ _ h; simp; omega
  | cons x t ih =>
    intro m hr hf hm h
    obtain ⟨h1, h2⟩ := List.pairwise_cons.1 hr
    have hx := idx_formed (hf x (List.mem_cons_self ..))
    have hmx := hm x (List.mem_cons_self ..)
    have := ih (idxOf x + 1) h2 (fun y hy => hf y (List.mem_cons_of_mem _ hy)) (fun y hy => by have := h1 y hy; omega) (by omega)
    simp only [List.length_cons]
    omega
theorem formed_count (t : List Int) (hr : Rising t) (hf : ∀ x ∈ t, formed x = true) : t.length ≤ 2097152 := by
  have := rising_count t 0 hr hf (fun x hx => (idx_formed (hf x hx)).1) (by omega)
  omega
/-- two neighbours are opposites -/
def tautIn : List Int → Bool
  | [] => false
  | [_] => false
  | a :: b :: t => (b == -a) || tautIn (b :: t)
/-- the one is a list of literals, and each stands in the other one, that is one too -/
def subOf (a b : List Int) : Bool := sound a && (sound b && a.all fun l => (tidyOf b).contains l)
theorem tautIn_iff (t : List Int) : Rising t → (∀ x ∈ t, formed x = true) → (tautIn t = true ↔ ∃ x ∈ t, -x ∈ t) := by
  induction t with
  | nil => intro _ _; simp [tautIn]
  | cons a t ih =>
    intro hr hf
    obtain ⟨h1, h2⟩ := List.pairwise_cons.1 hr
    have ih := ih h2 (fun y hy => hf y (List.mem_cons_of_mem _ hy))
    have ha := hf a (List.mem_cons_self ..)
    cases t with
    | nil =>
      simp only [tautIn, Bool.false_eq_true, List.mem_singleton, exists_eq_left, false_iff]
      have := (formed_iff.1 ha).1
      omega
    | cons b t =>
      have hb := hf b (by simp)
      have key : ∀ y ∈ b :: t, y = -a → b = -a := by
        intro y hy hya
        have hfy := hf y (List.mem_cons_of_mem _ hy)
        have e := (idx_neg hfy ha).1 hya
        have l1 := h1 b (List.mem_cons_self ..)
        have l2 := h1 y hy
        have l3 : idxOf b ≤ idxOf y := by
          rcases List.mem_cons.1 hy with rfl | hy
          · omega
          · exact Int.le_of_lt ((List.pairwise_cons.1 h2).1 y hy)
        have : b = y := idx_inj hb hfy (by omega)
        rw [this, hya]
      simp only [tautIn, Bool.or_eq_true, beq_iff_eq, ih]
      constructor
      · rintro (h | ⟨x, hx, hy⟩)
        · exact ⟨a, List.mem_cons_self .., by rw [← h]; simp⟩
        · exact ⟨x, List.mem_cons_of_mem _ hx, List.mem_cons_of_mem _ hy⟩
      · rintro ⟨x, hx, hy⟩
        rcases List.mem_cons.1 hx with rfl | hx
        · rcases List.mem_cons.1 hy with hy | hy
          · have := (formed_iff.1 ha).1; omega
          · exact .inl (key _ hy rfl)
        · rcases List.mem_cons.1 hy with hy | hy
          · exact .inl (key x hx (by omega))
          · exact .inr ⟨x, hx, hy⟩
theorem mem_tidy_sound {b : List Int} (hb : sound b = true) (x : Int) : x ∈ tidyOf b ↔ x ∈ b := by
  rw [mem_tidyOf]
  exact ⟨fun h => h.1, fun h => ⟨h, sound_mem hb h⟩⟩
theorem subOf_sound {a b : List Int} (ha : sound a = true) (hb : sound b = true) : subOf a b = a.all fun x => b.contains x := by
  unfold subOf
  rw [ha, hb, Bool.true_and, Bool.true_and, Bool.eq_iff_iff]
  simp only [List.all_eq_true, List.contains_iff_mem, mem_tidy_sound hb]
theorem taut_sound {b : List Int} (hb : sound b = true) : tautIn (tidyOf b) = b.any fun x => b.contains (-x) := by
  rw [Bool.eq_iff_iff, tautIn_iff _ (rising_tidyOf b) (fun _ h => tidyOf_formed h)]
  simp only [List.any_eq_true, List.contains_iff_mem, mem_tidy_sound hb]
theorem same_sound {a b : List Int} (ha : sound a = true) (hb : sound b = true) : (tidyOf a == tidyOf b) = (subOf a b && subOf b a) := by
  rw [subOf_sound ha hb, subOf_sound hb ha, Bool.eq_iff_iff]
  simp only [beq_iff_eq, Bool.and_eq_true, List.all_eq_true, List.contains_iff_mem]
  constructor
  · intro h
    exact ⟨fun x hx => (mem_tidy_sound hb x).1 (h ▸ (mem_tidy_sound ha x).2 hx), fun x hx => (mem_tidy_sound ha x).1 (h ▸ (mem_tidy_sound hb x).2 hx)⟩
  · rintro ⟨h1, h2⟩
    refine rising_ext (rising_tidyOf a) (rising_tidyOf b) fun x => ?_
    rw [mem_tidy_sound ha, mem_tidy_sound hb]
    exact ⟨h1 x, h2 x⟩
end Go.Proofs.YtggnnnddnppcpaaMath
/-! text YtggnnnddnppcpaaCnfLib -/
namespace Go.Proofs.Ytggnnnddnppcpaa.PCnfTold
open Go.RowKit Go.Proofs.YtggnnnddnppcpaaW.PrintWords Go.Proofs.YtggnnnddnppcpaaW.PrintLast Go.Proofs.YtggnnnddnppcpaaMath
set_option linter.unusedVariables false
set_option linter.unusedSimpArgs false
theorem lits_Formed_eq (l : Int) : lits_Formed.f l = some (formed l) := by
  unfold lits_Formed.f formed
  by_cases h0 : l = 0
  · simp [h0]
  · by_cases h1 : l ≥ -1048576
    · rw [if_neg h0, if_pos h1]; congr 1; rw [Bool.eq_iff_iff]; simp; omega
    · rw [if_neg h0, if_neg h1]; congr 1; symm; simp; omega
theorem lits_Var_eq (l : Int) : lits_Var.f l = some (varOf l) := by
  unfold lits_Var.f varOf
  rw [lits_Formed_eq]
  simp only [Option.bind_some]
  by_cases h : formed l = true
  · have := formed_bd h
    rw [if_pos h, if_pos h, w64 (by omega) (by omega)]
    split <;> rfl
  · rw [if_neg h, if_neg h]
theorem lits_Sound_l0 (l : List Int) (hn : l.length ≤ 17592186044416) (d : Nat) : ∀ i : Nat, i + d = l.length → Ev (fun k => lits_Sound.l0 k l (l.length : Int) (i : Int)) (sound (l.drop i)) := by
  induction d with
  | zero =>
    intro i hi
    refine Ev.succ ?_
    simp only [lits_Sound.l0]
    have h1 : ¬ ((i : Int) < (l.length : Int)) := by omega
    simp only [h1, if_false]
    rw [List.drop_of_length_le (by omega)]
    exact Ev.now _
  | succ d ih =>
    intro i hi
    refine Ev.succ ?_
    simp only [lits_Sound.l0, lits_Formed_eq, Option.bind_some]
    have h1 : (i : Int) < (l.length : Int) := by omega
    have h0 : (0 : Int) ≤ (i : Int) := by omega
    simp only [h1, h0, if_true]
    rw [drop_rd (show i < l.length by omega)]
    by_cases hf : formed (rd l i) = true
    · simp only [hf, if_true, w64s (show (i : Int) < 9223372036854775807 by omega), sound, List.all_cons, Bool.true_and]
      exact ih (i + 1) (by omega)
    · simp only [Bool.not_eq_true] at hf
      simp only [hf, Bool.false_eq_true, if_false, sound, List.all_cons, Bool.false_and]
      exact Ev.now _
theorem lits_Sound_ev (l : List Int) (hn : l.length ≤ 17592186044416) : Ev (fun k => lits_Sound.f k l) (sound l) := lits_Sound_l0 l hn l.length 0 (by omega)
theorem cnf_within_l0 (l : List Int) (v : Int) (hn : l.length ≤ 17592186044416) (hs : sound l = true) (d : Nat) : ∀ i : Nat, i + d = l.length → Ev (fun k => cnf_within.l0 k v l (l.length : Int) (i : Int)) ((l.drop i).all fun l => decide (l ≤ v ∧ -l ≤ v)) := by
  induction d with
  | zero =>
    intro i hi
    refine Ev.succ ?_
    simp only [cnf_within.l0]
    have h1 : ¬ ((i : Int) < (l.length : Int)) := by omega
    simp only [h1, if_false]
    rw [List.drop_of_length_le (by omega)]
    exact Ev.now _
  | succ d ih =>
    intro i hi
    refine Ev.succ ?_
    simp only [cnf_within.l0, lits_Var_eq, Option.bind_some]
    have h1 : (i : Int) < (l.length : Int) := by omega
    have h0 : (0 : Int) ≤ (i : Int) := by omega
    simp only [h1, h0, if_true]
    rw [drop_rd (show i < l.length by omega)]
    have hf : formed (rd l i) = true := sound_mem hs (rd_mem (by omega))
    have hv : varOf (rd l i) > v ↔ ¬ (rd l i ≤ v ∧ - rd l i ≤ v) := by
      unfold varOf
      rw [if_pos hf]
      split <;> omega
    by_cases hc : rd l i ≤ v ∧ - rd l i ≤ v
    · have h2 : ¬ varOf (rd l i) > v := fun h => hv.1 h hc
      simp only [h2, if_false, w64s (show (i : Int) < 9223372036854775807 by omega), List.all_cons, decide_eq_true hc, Bool.true_and]
      exact ih (i + 1) (by omega)
    · have h2 : varOf (rd l i) > v := hv.2 hc
      simp only [h2, if_true, List.all_cons, decide_eq_false hc, Bool.false_and]
      exact Ev.now _
theorem cnf_within_ev (l : List Int) (v : Int) (hn : l.length ≤ 17592186044416) : Ev (fun k => cnf_within.f k l v) (within l v) := by
  unfold cnf_within.f within
  refine Ev.bind (lits_Sound_ev l hn) ?_
  by_cases hs : sound l = true
  · simp only [hs, if_true, Bool.true_and]
    exact cnf_within_l0 l v hn hs l.length 0 (by omega)
  · simp only [Bool.not_eq_true] at hs
    simp only [hs, Bool.false_eq_true, if_false, Bool.false_and]
    exact Ev.now _
theorem cnf_Formed_l0 (v : Int) (cs : List (List Int)) (hn : cs.length ≤ 17592186044416) (hc : ∀ c ∈ cs, c.length ≤ 17592186044416) (d : Nat) : ∀ i : Nat, i + d = cs.length → Ev (fun k => cnf_Formed.l0 k cs (cs.length : Int) (i : Int) v cs) ((cs.drop i).all fun c => within c v) := by
  induction d with
  | zero =>
    intro i hi
    refine Ev.succ ?_
    simp only [cnf_Formed.l0]
    have h1 : ¬ ((i : Int) < (cs.length : Int)) := by omega
    simp only [h1, if_false]
    rw [List.drop_of_length_le (by omega)]
    exact Ev.now _
  | succ d ih =>
    intro i hi
    refine Ev.succ ?_
    simp only [cnf_Formed.l0, rd_L1]
    have h1 : (i : Int) < (cs.length : Int) := by omega
    have h0 : (0 : Int) ≤ (i : Int) := by omega
    simp only [h1, h0, if_true]
    rw [drop_getD (z := ([] : List Int)) (show i < cs.length by omega), List.all_cons]
    have hm : (cs.getD ((i : Int).toNat) ([] : List Int)).length ≤ 17592186044416 := by
      rw [getD_nat (show i < cs.length by omega)]
      exact hc _ (List.getElem_mem _)
    refine Ev.bind (cnf_within_ev _ v hm) ?_
    by_cases hf : within (cs.getD ((i : Int).toNat) ([] : List Int)) v = true
    · simp only [hf, if_true, w64s (show (i : Int) < 9223372036854775807 by omega), Bool.true_and]
      exact ih (i + 1) (by omega)
    · simp only [Bool.not_eq_true] at hf
      simp only [hf, Bool.false_eq_true, if_false, Bool.false_and]
      exact Ev.now _
theorem cnf_Formed_ev (v : Int) (cs : List (List Int)) (hn : cs.length ≤ 17592186044416) (hc : ∀ c ∈ cs, c.length ≤ 17592186044416) : Ev (fun k => cnf_Formed.f k v cs) (isFormula v cs) := by
  have hj : ∀ b, Ev (fun k => cnf_Formed.j0 k b v cs) (!b && cs.all fun c => within c v) := by
    intro b
    refine Ev.succ ?_
    simp only [cnf_Formed.j0]
    cases b with
    | true => exact Ev.now _
    | false => exact cnf_Formed_l0 v cs hn hc cs.length 0 (by omega)
  unfold cnf_Formed.f isFormula
  by_cases h0 : v < 0
  · simp only [h0, if_true]
    have := hj true
    rw [decide_eq_false (by omega)]
    simpa using this
  · simp only [h0, if_false]
    have := hj (decide (v > 1048576))
    rw [show (!decide (v > 1048576)) = decide (0 ≤ v ∧ v ≤ 1048576) by rw [Bool.eq_iff_iff]; simp; omega] at this
    exact this
theorem cnf_holds_l0 (c : List Int) (m : List Bool) (v : Int) (hv : (m.length : Int) = v) (hw : within c v = true) (hn : c.length ≤ 17592186044416) (d : Nat) : ∀ i : Nat, i + d = c.length → Ev (fun k => cnf_holds.l0 k m c (c.length : Int) (i : Int)) (holdsIn (c.drop i) m) := by
  induction d with
  | zero =>
    intro i hi
    refine Ev.succ ?_
    simp only [cnf_holds.l0]
    have h1 : ¬ ((i : Int) < (c.length : Int)) := by omega
    simp only [h1, if_false]
    rw [List.drop_of_length_le (by omega)]
    exact Ev.now _
  | succ d ih =>
    intro i hi
    refine Ev.succ ?_
    simp only [cnf_holds.l0, lits_Var_eq, Option.bind_some]
    have h1 : (i : Int) < (c.length : Int) := by omega
    have h0 : (0 : Int) ≤ (i : Int) := by omega
    obtain ⟨hf, g1, g2⟩ := within_lit hw (rd_mem (l := c) (i := i) (by omega))
    have hb := formed_iff.1 hf
    have ev : varOf (rd c i) = ((rd c i).natAbs : Int) := by
      unfold varOf
      rw [if_pos hf]
      split <;> omega
    have e1 : wrap64 (varOf (rd c i) - 1) = ((rd c i).natAbs : Int) - 1 := by rw [ev, w64 (by omega) (by omega)]
    have h2 : (0 : Int) ≤ ((rd c i).natAbs : Int) - 1 := by omega
    have h3 : ((rd c i).natAbs : Int) - 1 < (m.length : Int) := by omega
    simp only [h1, h0, e1, h2, h3, if_true, rdOf_truth hf]
    rw [drop_rd (show i < c.length by omega)]
    simp only [holdsIn, List.any_cons]
    by_cases ht : truth m (rd c i) = true
    · simp only [ht, if_true, Bool.true_or]
      exact Ev.now _
    · simp only [Bool.not_eq_true] at ht
      simp only [ht, Bool.false_eq_true, if_false, Bool.false_or, w64s (show (i : Int) < 9223372036854775807 by omega)]
      exact ih (i + 1) (by omega)
theorem cnf_holds_ev (c : List Int) (m : List Bool) (v : Int) (hv : (m.length : Int) = v) (hw : within c v = true) (hn : c.length ≤ 17592186044416) : Ev (fun k => cnf_holds.f k c m) (holdsIn c m) := cnf_holds_l0 c m v hv hw hn c.length 0 (by omega)
theorem cnf_all_l0 (cs : List (List Int)) (m : List Bool) (v : Int) (hv : (m.length : Int) = v) (hw : ∀ c ∈ cs, within c v = true) (hn : cs.length ≤ 17592186044416) (hc : ∀ c ∈ cs, c.length ≤ 17592186044416) (d : Nat) : ∀ i : Nat, i + d = cs.length → Ev (fun k => cnf_all.l0 k m cs (cs.length : Int) (i : Int)) (allIn (cs.drop i) m) := by
  induction d with
  | zero =>
    intro i hi
    refine Ev.succ ?_
    simp only [cnf_all.l0]
    have h1 : ¬ ((i : Int) < (cs.length : Int)) := by omega
    simp only [h1, if_false]
    rw [List.drop_of_length_le (by omega)]
    exact Ev.now _
  | succ d ih =>
    intro i hi
    refine Ev.succ ?_
    simp only [cnf_all.l0, rd_L1]
    have h1 : (i : Int) < (cs.length : Int) := by omega
    have h0 : (0 : Int) ≤ (i : Int) := by omega
    simp only [h1, h0, if_true]
    have hm : cs.getD ((i : Int).toNat) ([] : List Int) ∈ cs := by
      rw [getD_nat (show i < cs.length by omega)]
      exact List.getElem_mem _
    rw [drop_getD (z := ([] : List Int)) (show i < cs.length by omega)]
    simp only [allIn, List.all_cons]
    refine Ev.bind (cnf_holds_ev _ m v hv (hw _ hm) (hc _ hm)) ?_
    by_cases ht : holdsIn (cs.getD ((i : Int).toNat) ([] : List Int)) m = true
    · simp only [ht, if_true, Bool.true_and, w64s (show (i : Int) < 9223372036854775807 by omega)]
      exact ih (i + 1) (by omega)
    · simp only [Bool.not_eq_true] at ht
      simp only [ht, Bool.false_eq_true, if_false, Bool.false_and]
      exact Ev.now _
theorem cnf_all_ev (v : Int) (cs : List (List Int)) (m : List Bool) (hv : (m.length : Int) = v) (hw : ∀ c ∈ cs, within c v = true) (hn : cs.length ≤ 17592186044416) (hc : ∀ c ∈ cs, c.length ≤ 17592186044416) (u : Int) : Ev (fun k => cnf_all.f k u cs m) (allIn cs m) := cnf_all_l0 cs m v hv hw hn hc cs.length 0 (by omega)
end Go.Proofs.Ytggnnnddnppcpaa.PCnfTold
/-! text YtggnnnddnppcpaaCnfFormed -/
namespace Go.Proofs.YtggnnnddnppcpaaHand
open Go.RowKit Go.Proofs.YtggnnnddnppcpaaW.PrintWords Go.Proofs.YtggnnnddnppcpaaW.PrintLast Go.Proofs.YtggnnnddnppcpaaMath
open Go.Proofs.Ytggnnnddnppcpaa.PCnfTold
set_option linter.unusedVariables false
set_option linter.unusedSimpArgs false
theorem within_calls (A0 : Option Addr) (c0 : Nat) (l0 : List Int) (v : Int) (w : World) (hr0 : Kd.C (Kd.int .i64) w A0 l0.length l0) (hc0 : l0.length ≤ c0) (hn : l0.length ≤ 17592186044416) :
    Calls Try.prog 57 #[.slice A0 l0.length c0, .int .i64 v] w fun e w' => e = .returned (.bool (within l0 v)) ∧ Drawn0 w w' := by
  obtain ⟨k, h⟩ := (cnf_within_ev l0 v hn).rounds
  exact cnf_within.calls k A0 c0 l0 v _ w hr0 hc0 h
theorem isFormula_calls (v : Int) (A0 : Option Addr) (c0 : Nat) (cs : List (List Int)) (w : World) (hr0 : Kd.C (Kd.slice 3 (Kd.int .i64)) w A0 cs.length cs) (hc0 : cs.length ≤ c0) (hn : cs.length ≤ 17592186044416) (hs : ∀ c ∈ cs, c.length ≤ 17592186044416) :
    Calls Try.prog 16 #[.agg #[.int .i64 v, .slice A0 cs.length c0]] w fun e w' => e = .returned (.bool (isFormula v cs)) ∧ Below w.heap.size w w' := by
  obtain ⟨k, h⟩ := (cnf_Formed_ev v cs hn hs).rounds
  exact cnf_Formed.calls k v A0 c0 cs _ w hr0 hc0 h
end Go.Proofs.YtggnnnddnppcpaaHand
