/- How an argument's reading hands over a value of a kind, kind by kind: its cells, its numbers' bounds, its size. -/
import Derived.Test.YtggnnnddnppcpaaDoorRows
import Derived.Test.YtggnnnddnppcpaaDoorClCnfKeepsTidyUptoCardp0
import Derived.Deep.Slices
import Derived.SizedLaws
import Derived.ChangeSame
import Derived.ProofKit
import Derived.OpenShut
import Derived.Test.YtggnnnddnppcpaaDoorClCnfKeepsTidyUptoCardk
import Derived.Lib.SlicesCompact
import Derived.Sort.Statements
import Derived.Lib.ItoaLen
import Derived.Maps.OwnSet
import Derived.Maps.OwnIn
import Derived.WalkKit
import Derived.Below
import Derived.Deep.Draws
/-! text YtggnnnddnppcpaaDoorOpens -/
namespace Go.Proofs.YtggnnnddnppcpaaDoorOpens
open Go.RowKit Go.ChangeShapes Go.WideShapes Go.Proofs.YtggnnnddnppcpaaDoorW.PrintWords Go.Proofs.YtggnnnddnppcpaaDoor
set_option linter.unusedVariables false

structure Opens {α : Type} (P : Program) (T : TypeId) (d : Kd α) (OK : α → Prop) (m : α → Nat) : Prop where
  size : P.cellsOf T = d.sz
  opens : ∀ {H : Type} {enc : TypeId × Value → H} {W : World} {fuel : Nat} {cs : List Value} {x : DataW H} {ps : List MemPlace},
    DataW.trod enc P W 0 (fun _ => true) true fuel T cs = some (x, ps) → (∀ n ∈ DataW.weights P T x, n ≤ reachBytes) → ∃ a, d.K W a cs ∧ OK a ∧ m a ≤ Rows.uptoBulk x

theorem opens_int {P : Program} {T : TypeId} {k : IntKind} (hu : P.underlying T = some (.int k)) (hs : P.cellsOf T = 1) : Opens P T (Kd.int k) (fun x => (Lit.int k x).wf = true) (fun _ => 1) where
  size := hs
  opens := by
    intro H enc W fuel cs x ps h _
    obtain ⟨n, rfl, hx, hw⟩ := DataW.trod_int hu h
    injection hx with hx _
    subst hx
    exact ⟨n, rfl, hw, by simp [Rows.uptoBulk]⟩

def sumOf {α : Type} (m : α → Nat) : List α → Nat
  | [] => 0
  | x :: r => m x + sumOf m r

theorem opens_rows {α H : Type} {P : Program} {e : TypeId} {d : Kd α} {OK : α → Prop} {m : α → Nat} (he : Opens P e d OK m) {enc : TypeId × Value → H} {W : World} {n : Nat} {a : Addr} :
    ∀ (l : List (DataW H)) (o : Nat), (∀ i x, l[i]? = some x → ∃ cs' ps, W.cells? 0 (a.add ((o + i) * P.cellsOf e)) (P.cellsOf e) = some cs' ∧ DataW.trod enc P W 0 (fun _ => true) true n e cs' = some (x, ps)) →
    (∀ q ∈ DataW.weightsAll P e l, q ≤ reachBytes) →
    ∃ xs : List α, xs.length = l.length ∧ (∀ x ∈ xs, OK x) ∧ sumOf m xs ≤ Rows.uptoBulkAll l ∧
      ∀ j p, xs[j]? = some p → ∃ c, c.length = d.sz ∧ d.K W p c ∧ W.cells? 0 (a.add ((o + j) * P.cellsOf e)) (P.cellsOf e) = some c
  | [], o, _, _ => ⟨[], rfl, by simp, by simp [sumOf], by simp⟩
  | x :: l, o, hx, hw => by
    obtain ⟨cs', ps, h1, h2⟩ := hx 0 x rfl
    obtain ⟨p, hK, hok, hm⟩ := he.opens h2 (fun q hq => hw q (by simp only [DataW.weightsAll, List.mem_append]; exact .inl hq))
    obtain ⟨xs, e1, e2, e3, e4⟩ := opens_rows he l (o + 1) (fun i y hy => by
      have := hx (i + 1) y (by simpa using hy)
      rwa [show o + (i + 1) = o + 1 + i by omega] at this) (fun q hq => hw q (by simp only [DataW.weightsAll, List.mem_append]; exact .inr hq))
    refine ⟨p :: xs, by simp [e1], ?_, ?_, ?_⟩
    · intro y hy
      rcases List.mem_cons.1 hy with rfl | hy
      · exact hok
      · exact e2 y hy
    · simp only [sumOf, Rows.uptoBulkAll]
      omega
    · intro j q hj
      cases j with
      | zero =>
        simp at hj
        subst hj
        exact ⟨cs', d.K_len hK, hK, h1⟩
      | succ j =>
        obtain ⟨c, c1, c2, c3⟩ := e4 j q (by simpa using hj)
        exact ⟨c, c1, c2, by rwa [show o + (j + 1) = o + 1 + j by omega]⟩

theorem opens_slice {α : Type} {P : Program} {T e : TypeId} {d : Kd α} {OK : α → Prop} {m : α → Nat} {B : Nat} (he : Opens P e d OK m) (hu : P.underlying T = some (.slice e)) (hs : P.cellsOf T = 1) (hB : P.bytesOf e = B) :
    Opens P T (Kd.slice e d) (fun xs => xs.length * B ≤ 140737488351232 ∧ ∀ x ∈ xs, OK x) (fun xs => sumOf m xs + 1) where
  size := hs
  opens := by
    intro H enc W fuel cs x ps h hw
    rcases DataW.trod_slice hu h with ⟨rfl, hx⟩ | ⟨a, len, cap, elems, rest, n, _, rfl, hx, hb, hl, hm, hlen, hel, hsp, _⟩
    · injection hx with hx _
      subst hx
      refine ⟨[], ⟨none, 0, rfl, Nat.le_refl _, rfl, by simp, fun hp => absurd hp (by simp)⟩, ⟨by simp, by simp⟩, ?_⟩
      simp [sumOf, Rows.uptoBulk]
    · injection hx with hx _
      subst hx
      have hw1 : (elems.length + rest.length) * B ≤ reachBytes := by
        have := hw ((elems.length + rest.length) * B) (by simp [DataW.weights, hu, hB])
        exact this
      obtain ⟨xs, e1, e2, e3, e4⟩ := opens_rows he (enc := enc) (W := W) (n := n) (a := a) (elems.map (·.1)) 0 (by
        intro i y hy
        rw [List.getElem?_map] at hy
        obtain ⟨z, hz, rfl⟩ := Option.map_eq_some_iff.1 hy
        have hi : i < len := by
          rcases Nat.lt_or_ge i elems.length with h | h
          · omega
          · rw [List.getElem?_eq_none h] at hz; cases hz
        have hq := hel i hi
        rw [hz] at hq
        obtain ⟨cs', h1, h2⟩ := Option.bind_eq_some_iff.1 hq
        exact ⟨cs', z.2, by rwa [Nat.zero_add], h2⟩) (fun q hq => hw q (by
          simp only [DataW.weights, hu, List.mem_cons, List.mem_append]
          exact .inr (.inl hq)))
      have e1' : xs.length = len := by rw [e1, List.length_map, hlen]
      have hmx : len ≤ 9223372036854775807 := by simp only [maxLen] at hm; omega
      refine ⟨xs, ⟨some a, cap, by rw [e1'], by omega, ⟨rfl, by omega, fun _ => ⟨a, rfl, ?_⟩⟩⟩, ⟨?_, e2⟩, ?_⟩
      · intro j p hj
        obtain ⟨c, c1, c2, c3⟩ := e4 j p hj
        rw [Nat.zero_add] at c3
        refine ⟨c, c1, c2, fun i u hu' => ?_⟩
        obtain ⟨_, hlen2, hcell⟩ := World.cells?_some c3
        have hi : i < c.length := by
          rcases Nat.lt_or_ge i c.length with h | h
          · exact h
          · rw [List.getElem?_eq_none h] at hu'; cases hu'
        have hq := hcell i (by omega)
        rw [hu'] at hq
        rw [← hq, he.size]
        congr 1
        unfold Addr.add
        by_cases g1 : j * d.sz = 0 <;> by_cases g2 : i = 0 <;> simp [g1, g2, Nat.add_assoc]
      · have : reachBytes = 140737488351232 := rfl
        have h3 : xs.length * B ≤ (elems.length + rest.length) * B := Nat.mul_le_mul_right _ (by omega)
        omega
      · simp only [Rows.uptoBulk]
        omega

/-- Some fields of a struct, from an offset on. -/
structure OpensF {α : Type} (P : Program) (fs : List Field) (off : Nat) (d : Kd α) (OK : α → Prop) (m : α → Nat) : Prop where
  opens : ∀ {H : Type} {enc : TypeId × Value → H} {W : World} {n : Nat} {cs : List Value} {xs : List (DataW H × List MemPlace)}, xs.length = fs.length →
    (∀ (i : Nat) (f : Field), fs[i]? = some f → DataW.trod enc P W 0 (fun _ => true) true n f.type ((cs.drop f.offset).take (P.cellsOf f.type)) = xs[i]?) →
    (∀ q ∈ DataW.weightsEach P (fs.map (·.type)) (xs.map (·.1)), q ≤ reachBytes) → ∃ a, d.K W a ((cs.drop off).take d.sz) ∧ OK a ∧ m a ≤ Rows.uptoBulkAll (xs.map (·.1))

theorem opensF_last {α : Type} {P : Program} {f : Field} {off : Nat} {d : Kd α} {OK : α → Prop} {m : α → Nat} (he : Opens P f.type d OK m) (ho : f.offset = off) : OpensF P [f] off d OK m where
  opens := by
    intro H enc W n cs xs hl h hw
    match xs, hl with
    | [x], _ =>
      have h0 := h 0 f rfl
      rw [he.size, ho] at h0
      obtain ⟨a, h1, h2, h3⟩ := he.opens (x := x.1) (ps := x.2) h0 (fun q hq => hw q (by simpa [DataW.weightsEach] using hq))
      exact ⟨a, h1, h2, by simpa [Rows.uptoBulkAll] using h3⟩

theorem opensF_cons {α β : Type} {P : Program} {f : Field} {fs : List Field} {off : Nat} {d : Kd α} {d1 : Kd β} {OK : α → Prop} {OK1 : β → Prop} {m : α → Nat} {m1 : β → Nat}
    (he : Opens P f.type d OK m) (ho : f.offset = off) (hr : OpensF P fs (off + d.sz) d1 OK1 m1) : OpensF P (f :: fs) off (Kd.pair d d1) (fun p => OK p.1 ∧ OK1 p.2) (fun p => m p.1 + m1 p.2) where
  opens := by
    intro H enc W n cs xs hl h hw
    match xs, hl with
    | x :: xs, hl =>
      have h0 := h 0 f rfl
      rw [he.size, ho] at h0
      obtain ⟨a, h1, h2, h3⟩ := he.opens (x := x.1) (ps := x.2) h0 (fun q hq => hw q (by
        simp only [List.map_cons, DataW.weightsEach, List.mem_append]; exact .inl hq))
      obtain ⟨b, g1, g2, g3⟩ := hr.opens (xs := xs) (by simpa using hl) (fun i f' hf => by simpa using h (i + 1) f' (by simpa using hf)) (fun q hq => hw q (by
        simp only [List.map_cons, DataW.weightsEach, List.mem_append]; exact .inr hq))
      refine ⟨(a, b), ⟨_, _, ?_, h1, g1⟩, ⟨h2, g2⟩, by simp only [List.map_cons, Rows.uptoBulkAll]; omega⟩
      show (cs.drop off).take (d.sz + d1.sz) = _
      rw [List.take_add, List.drop_drop]

theorem opens_struct {α : Type} {P : Program} {T : TypeId} {fs : Array Field} {d : Kd α} {OK : α → Prop} {m : α → Nat} (hf : OpensF P fs.toList 0 d OK m) (hu : P.underlying T = some (.struct fs)) (hs : P.cellsOf T = d.sz) :
    Opens P T d OK (fun a => m a + 1) where
  size := hs
  opens := by
    intro H enc W fuel cs x ps h hw
    obtain ⟨xs, n, _, hx, hl, hlen, hq⟩ := DataW.trod_struct hu h
    injection hx with hx _
    subst hx
    obtain ⟨a, h1, h2, h3⟩ := hf.opens (xs := xs) (cs := cs) (by simpa using hlen) (fun i f hi => hq i f (by simpa using hi)) (fun q hq => hw q (by
      simp only [DataW.weights, hu]; exact hq))
    refine ⟨a, ?_, h2, by simp only [Rows.uptoBulk]; omega⟩
    rwa [List.drop_zero, List.take_of_length_le (by omega)] at h1

/-- A struct, as an argument's value. -/
theorem struct_arg {α H : Type} {P : Program} {T : TypeId} {d : Kd α} {OK : α → Prop} {m : α → Nat} (he : Opens P T d OK m) {enc : TypeId × Value → H} {W : World} {cs : Array Value} {x : DataW H} {ps : List MemPlace}
    (h : DataW.Trod enc P W 0 (fun _ => true) true T (.agg cs) x ps) (hw : ∀ n ∈ DataW.weights P T x, n ≤ reachBytes) :
    ∃ a, d.K W a cs.toList ∧ OK a ∧ m a ≤ Rows.uptoBulk x := by
  obtain ⟨fuel, hf⟩ := h
  exact he.opens (by simpa [Value.cells] using hf) hw

/-- What the row's reach says of one argument. -/
theorem reach_of {H : Type} {P : Program} {ts : List TypeId} {ds : List (DataW H)} (hsz : (DataW.weightsEach P ts ds).all (· ≤ reachBytes) = true) {j : Nat} {t : TypeId} {d : DataW H} (ht : ts[j]? = some t) (hd : ds[j]? = some d) : ∀ n ∈ DataW.weights P t d, n ≤ reachBytes := by
  intro n hn
  simpa using List.all_eq_true.1 hsz n (DataW.weights_mem_each ht hd n hn)

/-- What the second form's bound says of one argument. -/
theorem bulk_of {H : Type} {ds : List (DataW H)} (hk : Rows.uptoSmall H ds = true) : Rows.uptoBulkAll ds ≤ 1048576 := of_decide_eq_true hk

end Go.Proofs.YtggnnnddnppcpaaDoorOpens
/-! text YtggnnnddnppcpaaDoorTidyMath -/
namespace Go.Proofs.YtggnnnddnppcpaaDoorMath
open Go.RowKit Go.Proofs.YtggnnnddnppcpaaDoorW.PrintWords
set_option linter.unusedVariables false
set_option linter.unusedSimpArgs false

theorem idx_formed {l : Int} (h : formed l = true) : 0 ≤ idxOf l ∧ idxOf l < 2097152 ∧ ((l < 0 ∧ idxOf l = -2 * l - 1) ∨ (0 < l ∧ idxOf l = 2 * l - 2)) := by
  have hb := formed_iff.1 h
  unfold idxOf
  rw [if_pos h]
  split <;> omega
theorem idx_none {l : Int} (h : formed l = false) : idxOf l = -1 := by
  unfold idxOf
  rw [h]
  rfl
theorem idx_bound (l : Int) : -1 ≤ idxOf l ∧ idxOf l < 2097152 := by
  cases h : formed l with
  | true => have := idx_formed h; omega
  | false => rw [idx_none h]; omega
theorem idx_inj {a b : Int} (ha : formed a = true) (hb : formed b = true) (h : idxOf a = idxOf b) : a = b := by
  have h1 := idx_formed ha
  have h2 := idx_formed hb
  omega
/-- rising by place -/
def Rising (t : List Int) : Prop := t.Pairwise fun a b => idxOf a < idxOf b
def ins (x : Int) : List Int → List Int
  | [] => [x]
  | y :: t => if idxOf x < idxOf y then x :: y :: t else if x = y then y :: t else y :: ins x t
def tidyOf : List Int → List Int
  | [] => []
  | x :: c => if formed x = true then ins x (tidyOf c) else tidyOf c

theorem mem_ins (x y : Int) (t : List Int) : y ∈ ins x t ↔ y = x ∨ y ∈ t := by
  induction t with
  | nil => simp [ins]
  | cons z t ih =>
    simp only [ins]
    split
    · simp
    · split
      · rename_i h
        subst h
        simp
      · simp only [List.mem_cons, ih]
        constructor
        · rintro (h | h | h) <;> simp [h]
        · rintro (h | h | h) <;> simp [h]
theorem mem_tidyOf (y : Int) (c : List Int) : y ∈ tidyOf c ↔ y ∈ c ∧ formed y = true := by
  induction c with
  | nil => simp [tidyOf]
  | cons x c ih =>
    simp only [tidyOf]
    by_cases hx : formed x = true
    · rw [if_pos hx, mem_ins, ih, List.mem_cons]
      constructor
      · rintro (rfl | ⟨h1, h2⟩)
        · exact ⟨.inl rfl, hx⟩
        · exact ⟨.inr h1, h2⟩
      · rintro ⟨rfl | h1, h2⟩
        · exact .inl rfl
        · exact .inr ⟨h1, h2⟩
    · rw [if_neg hx, ih, List.mem_cons]
      constructor
      · rintro ⟨h1, h2⟩
        exact ⟨.inr h1, h2⟩
      · rintro ⟨rfl | h1, h2⟩
        · exact absurd h2 hx
        · exact ⟨h1, h2⟩
theorem tidyOf_formed {c : List Int} {y : Int} (h : y ∈ tidyOf c) : formed y = true := ((mem_tidyOf y c).1 h).2
theorem rising_ins {x : Int} (hx : formed x = true) : ∀ {t : List Int}, (∀ y ∈ t, formed y = true) → Rising t → Rising (ins x t)
  | [], _, _ => by simp [ins, Rising]
  | y :: t, hf, hr => by
    have hr' := List.pairwise_cons.1 hr
    simp only [ins]
    split
    · rename_i h
      refine List.pairwise_cons.2 ⟨?_, hr⟩
      intro z hz
      rcases List.mem_cons.1 hz with rfl | hz
      · exact h
      · have := hr'.1 z hz
        omega
    · split
      · exact hr
      · rename_i h1 h2
        refine List.pairwise_cons.2 ⟨?_, rising_ins hx (fun z hz => hf z (List.mem_cons_of_mem _ hz)) hr'.2⟩
        intro z hz
        rcases (mem_ins x z t).1 hz with rfl | hz
        · have h3 : idxOf z ≠ idxOf y := fun e => h2 (idx_inj hx (hf y List.mem_cons_self) e)
          omega
        · exact hr'.1 z hz
theorem rising_tidyOf (c : List Int) : Rising (tidyOf c) := by
  induction c with
  | nil => simp [tidyOf, Rising]
  | cons x c ih =>
    simp only [tidyOf]
    by_cases hx : formed x = true
    · rw [if_pos hx]
      exact rising_ins hx (fun y hy => tidyOf_formed hy) ih
    · rw [if_neg hx]
      exact ih
/-- Rising lists that hold the same are one. -/
theorem rising_ext : ∀ {s t : List Int}, Rising s → Rising t → (∀ x, x ∈ s ↔ x ∈ t) → s = t
  | [], [], _, _, _ => rfl
  | [], y :: t, _, _, h => absurd ((h y).2 List.mem_cons_self) (by simp)
  | x :: s, [], _, _, h => absurd ((h x).1 List.mem_cons_self) (by simp)
  | x :: s, y :: t, hs, ht, h => by
    have hs' := List.pairwise_cons.1 hs
    have ht' := List.pairwise_cons.1 ht
    have e : x = y := by
      rcases List.mem_cons.1 ((h x).1 List.mem_cons_self) with e | hx
      · exact e
      · rcases List.mem_cons.1 ((h y).2 List.mem_cons_self) with e | hy
        · exact e.symm
        · have h1 := hs'.1 y hy
          have h2 := ht'.1 x hx
          omega
    subst e
    congr 1
    refine rising_ext hs'.2 ht'.2 fun z => ?_
    constructor
    · intro hz
      rcases List.mem_cons.1 ((h z).1 (List.mem_cons_of_mem _ hz)) with rfl | hz'
      · have := hs'.1 z hz
        omega
      · exact hz'
    · intro hz
      rcases List.mem_cons.1 ((h z).2 (List.mem_cons_of_mem _ hz)) with rfl | hz'
      · have := ht'.1 z hz
        omega
      · exact hz'
theorem tidyOf_eq {c t : List Int} (hr : Rising t) (hm : ∀ x, x ∈ t ↔ x ∈ c ∧ formed x = true) : tidyOf c = t :=
  rising_ext (rising_tidyOf c) hr fun x => by rw [mem_tidyOf, hm]
theorem ins_length (x : Int) (t : List Int) : (ins x t).length ≤ t.length + 1 := by
  induction t with
  | nil => simp [ins]
  | cons y t ih =>
    simp only [ins]
    split
    · simp
    · split
      · simp
      · simp only [List.length_cons]; omega
theorem tidyOf_length (c : List Int) : (tidyOf c).length ≤ c.length := by
  induction c with
  | nil => simp [tidyOf]
  | cons x c ih =>
    simp only [tidyOf]
    have := ins_length x (tidyOf c)
    split <;> simp only [List.length_cons] <;> omega

/-! what a sort by place and slices.Compact leave -/
def byIdx (a b : Int) : Int := idxOf a - idxOf b
theorem compact_tidy (c : List Int) (d : Array Int) (hp : d.toList.Perm (c.filter formed)) (hs : ∀ i j, i < j → j < d.size → idxOf d[i]! ≤ idxOf d[j]!) : Go.Lib.compact d.toList = tidyOf c := by
  have hf : ∀ i, i < d.size → formed d[i]! = true := fun i hi => by
    have h1 : d[i]! ∈ d.toList := by
      rw [getElem!_pos d i hi]
      exact Array.getElem_mem_toList hi
    have := hp.subset h1
    exact (List.mem_filter.1 this).2
  have key : ∀ m, m ≤ d.size → Rising (Go.Lib.compactUpTo d m) ∧ (∀ x, x ∈ Go.Lib.compactUpTo d m ↔ ∃ i, i < m ∧ d[i]! = x) := by
    intro m
    induction m with
    | zero =>
      intro _
      exact ⟨by simp [Go.Lib.compactUpTo, Rising], by simp [Go.Lib.compactUpTo]⟩
    | succ m ih =>
      intro hm
      obtain ⟨h1, h2⟩ := ih (by omega)
      rw [Go.Lib.compactUpTo_succ]
      cases hk : Go.Lib.keeps d m with
      | true =>
        simp only [if_true]
        refine ⟨List.pairwise_append.2 ⟨h1, by simp, ?_⟩, ?_⟩
        · intro a ha b hb
          rw [List.mem_singleton] at hb
          subst hb
          obtain ⟨i, hi, rfl⟩ := (h2 a).1 ha
          have h3 := hs i m hi (by omega)
          have h4 : idxOf d[i]! ≠ idxOf d[m]! := by
            intro e
            have hne : m ≠ 0 := by omega
            have h5 : d[m]! ≠ d[m - 1]! := by simpa [Go.Lib.keeps, hne] using hk
            apply h5
            have h6 : idxOf d[i]! ≤ idxOf d[m - 1]! := by
              rcases Nat.lt_or_ge i (m - 1) with h | h
              · exact hs i (m - 1) h (by omega)
              · rw [show i = m - 1 by omega]
                exact Int.le_refl _
            have h7 := hs (m - 1) m (by omega) (by omega)
            exact idx_inj (hf m (by omega)) (hf (m - 1) (by omega)) (by omega)
          omega
        · intro x
          rw [List.mem_append, h2, List.mem_singleton]
          constructor
          · rintro (⟨i, hi, rfl⟩ | rfl)
            · exact ⟨i, by omega, rfl⟩
            · exact ⟨m, by omega, rfl⟩
          · rintro ⟨i, hi, rfl⟩
            rcases Nat.lt_or_ge i m with h | h
            · exact .inl ⟨i, h, rfl⟩
            · rw [show i = m by omega]
              exact .inr rfl
      | false =>
        simp only [Bool.false_eq_true, if_false, List.append_nil]
        refine ⟨h1, ?_⟩
        intro x
        rw [h2]
        constructor
        · rintro ⟨i, hi, rfl⟩
          exact ⟨i, by omega, rfl⟩
        · rintro ⟨i, hi, rfl⟩
          rcases Nat.lt_or_ge i m with h | h
          · exact ⟨i, h, rfl⟩
          · obtain rfl : i = m := by omega
            have hne : i ≠ 0 := by
              rintro rfl
              simp [Go.Lib.keeps] at hk
            have h5 : d[i]! = d[i - 1]! := by simpa [Go.Lib.keeps, hne] using hk
            exact ⟨i - 1, by omega, h5.symm⟩
  obtain ⟨h1, h2⟩ := key d.size (Nat.le_refl _)
  have e : Go.Lib.compact d.toList = Go.Lib.compactUpTo d d.size := by simp [Go.Lib.compact]
  rw [e]
  symm
  refine tidyOf_eq h1 fun x => ?_
  rw [h2]
  have h3 : (x ∈ d.toList) ↔ (x ∈ c ∧ formed x = true) := by rw [hp.mem_iff, List.mem_filter]
  rw [← h3]
  constructor
  · rintro ⟨i, hi, rfl⟩
    rw [getElem!_pos d i hi]
    exact Array.getElem_mem_toList hi
  · intro hx
    obtain ⟨i, hi, rfl⟩ := List.getElem_of_mem hx
    have hi' : i < d.size := by simpa using hi
    refine ⟨i, hi', ?_⟩
    rw [getElem!_pos d i hi']
    simp

end Go.Proofs.YtggnnnddnppcpaaDoorMath
/-! text YtggnnnddnppcpaaDoorTidyPure -/
set_option linter.unusedVariables false
set_option linter.unusedSimpArgs false
namespace Go.Proofs.YtggnnnddnppcpaaDoorMath
open Go.RowKit Go.Proofs.YtggnnnddnppcpaaDoorW.PrintWords

def mg : List Int → List Int → List Int
  | [], bs => bs
  | a :: az, [] => a :: az
  | a :: az, b :: bs => if idxOf a < idxOf b then a :: mg az (b :: bs) else if idxOf b < idxOf a then b :: mg (a :: az) bs else a :: mg az bs
termination_by a b => a.length + b.length
theorem mg_nil (b : List Int) : mg [] b = b := by rw [mg]
theorem mg_nil' (a : List Int) : mg a [] = a := by cases a <;> rw [mg]
theorem mg_lt {a b : Int} {az bs : List Int} (h : idxOf a < idxOf b) : mg (a :: az) (b :: bs) = a :: mg az (b :: bs) := by rw [mg, if_pos h]
theorem mg_gt {a b : Int} {az bs : List Int} (h : idxOf b < idxOf a) : mg (a :: az) (b :: bs) = b :: mg (a :: az) bs := by rw [mg, if_neg (by omega), if_pos h]
theorem mg_eq {a b : Int} {az bs : List Int} (h : idxOf a = idxOf b) : mg (a :: az) (b :: bs) = a :: mg az bs := by rw [mg, if_neg (by omega), if_neg (by omega)]
theorem mg_mem (n : Nat) : ∀ a b : List Int, a.length + b.length ≤ n → (∀ x ∈ a, formed x = true) → (∀ x ∈ b, formed x = true) → ∀ x, x ∈ mg a b ↔ x ∈ a ∨ x ∈ b := by
  induction n with
  | zero =>
    intro a b h _ _ x
    cases a with
    | nil => simp [mg_nil]
    | cons => simp at h
  | succ n ih =>
    intro a b h ha hb x
    cases a with
    | nil => simp [mg_nil]
    | cons p az =>
      cases b with
      | nil => simp [mg_nil']
      | cons q bs =>
        simp only [List.length_cons] at h
        have ha' : ∀ x ∈ az, formed x = true := fun x hx => ha x (List.mem_cons_of_mem _ hx)
        have hb' : ∀ x ∈ bs, formed x = true := fun x hx => hb x (List.mem_cons_of_mem _ hx)
        by_cases h1 : idxOf p < idxOf q
        · have := ih az (q :: bs) (by simp only [List.length_cons]; omega) ha' hb x
          rw [mg_lt h1]; simp only [List.mem_cons] at this ⊢; rw [this]; simp only [or_assoc]
        · by_cases h2 : idxOf q < idxOf p
          · have := ih (p :: az) bs (by simp only [List.length_cons]; omega) ha hb' x
            rw [mg_gt h2]; simp only [List.mem_cons] at this ⊢; rw [this]
            constructor
            · rintro (h | (h | h) | h) <;> simp [h]
            · rintro ((h | h) | h | h) <;> simp [h]
          · have e : p = q := idx_inj (ha p (List.mem_cons_self ..)) (hb q (List.mem_cons_self ..)) (by omega)
            have := ih az bs (by omega) ha' hb' x
            rw [mg_eq (by omega)]; simp only [List.mem_cons] at this ⊢; rw [this, e]
            constructor
            · rintro (h | h | h) <;> simp [h]
            · rintro ((h | h) | h | h) <;> simp [h]
theorem mg_rising (n : Nat) : ∀ a b : List Int, a.length + b.length ≤ n → (∀ x ∈ a, formed x = true) → (∀ x ∈ b, formed x = true) → Rising a → Rising b → Rising (mg a b) := by
  induction n with
  | zero =>
    intro a b h _ _ r1 r2
    cases a with
    | nil => rwa [mg_nil]
    | cons => simp at h
  | succ n ih =>
    intro a b h ha hb r1 r2
    cases a with
    | nil => rwa [mg_nil]
    | cons p az =>
      cases b with
      | nil => rwa [mg_nil']
      | cons q bs =>
        simp only [List.length_cons] at h
        have ha' : ∀ x ∈ az, formed x = true := fun x hx => ha x (List.mem_cons_of_mem _ hx)
        have hb' : ∀ x ∈ bs, formed x = true := fun x hx => hb x (List.mem_cons_of_mem _ hx)
        obtain ⟨p1, p2⟩ := List.pairwise_cons.1 r1
        obtain ⟨q1, q2⟩ := List.pairwise_cons.1 r2
        by_cases h1 : idxOf p < idxOf q
        · rw [mg_lt h1]
          refine List.pairwise_cons.2 ⟨fun x hx => ?_, ih az (q :: bs) (by simp only [List.length_cons]; omega) ha' hb p2 r2⟩
          rcases (mg_mem _ az (q :: bs) (Nat.le_refl _) ha' hb x).1 hx with h | h
          · exact p1 x h
          · rcases List.mem_cons.1 h with h | h
            · rw [h]; exact h1
            · have := q1 x h; omega
        · by_cases h2 : idxOf q < idxOf p
          · rw [mg_gt h2]
            refine List.pairwise_cons.2 ⟨fun x hx => ?_, ih (p :: az) bs (by simp only [List.length_cons]; omega) ha hb' r1 q2⟩
            rcases (mg_mem _ (p :: az) bs (Nat.le_refl _) ha hb' x).1 hx with h | h
            · rcases List.mem_cons.1 h with h | h
              · rw [h]; exact h2
              · have := p1 x h; omega
            · exact q1 x h
          · rw [mg_eq (by omega)]
            refine List.pairwise_cons.2 ⟨fun x hx => ?_, ih az bs (by omega) ha' hb' p2 q2⟩
            rcases (mg_mem _ az bs (Nat.le_refl _) ha' hb' x).1 hx with h | h
            · exact p1 x h
            · have := q1 x h; omega
theorem tidyOf_append (a b : List Int) : tidyOf (a ++ b) = mg (tidyOf a) (tidyOf b) :=
  tidyOf_eq (mg_rising _ _ _ (Nat.le_refl _) (fun _ h => tidyOf_formed h) (fun _ h => tidyOf_formed h) (rising_tidyOf a) (rising_tidyOf b)) fun x => by
    rw [mg_mem _ _ _ (Nat.le_refl _) (fun _ h => tidyOf_formed h) (fun _ h => tidyOf_formed h), mem_tidyOf, mem_tidyOf, List.mem_append]
    constructor
    · rintro (⟨h, g⟩ | ⟨h, g⟩) <;> simp [h, g]
    · rintro ⟨h | h, g⟩ <;> simp [h, g]
theorem tidyOf_one (x : Int) : tidyOf [x] = if formed x = true then [x] else [] := by
  refine tidyOf_eq ?_ fun y => ?_
  · split
    · exact List.pairwise_singleton ..
    · exact List.Pairwise.nil
  · split
    · rename_i h
      simp only [List.mem_singleton]
      exact ⟨fun e => ⟨e, e ▸ h⟩, fun e => e.1⟩
    · rename_i h
      simp only [List.mem_singleton, List.not_mem_nil, false_iff]
      rintro ⟨rfl, g⟩; exact h g
theorem tidyOf_tidyOf (a : List Int) : tidyOf (tidyOf a) = tidyOf a :=
  tidyOf_eq (rising_tidyOf a) fun x => ⟨fun h => ⟨h, tidyOf_formed h⟩, fun h => h.1⟩
/-- a rising list of literals has at most 2097152 places -/
theorem rising_count (t : List Int) : ∀ m : Int, Rising t → (∀ x ∈ t, formed x = true) → (∀ x ∈ t, m ≤ idxOf x) → m ≤ 2097152 → (t.length : Int) ≤ 2097152 - m := by
  induction t with
  | nil => intro m _ _ _ h; simp; omega
  | cons x t ih =>
    intro m hr hf hm h
    obtain ⟨h1, h2⟩ := List.pairwise_cons.1 hr
    have hx := idx_formed (hf x (List.mem_cons_self ..))
    have hmx := hm x (List.mem_cons_self ..)
    have := ih (idxOf x + 1) h2 (fun y hy => hf y (List.mem_cons_of_mem _ hy)) (fun y hy => by have := h1 y hy; omega) (by omega)
    simp only [List.length_cons]
    omega
theorem formed_count (t : List Int) (hr : Rising t) (hf : ∀ x ∈ t, formed x = true) : t.length ≤ 2097152 := by
  have := rising_count t 0 hr hf (fun x hx => (idx_formed (hf x hx)).1) (by omega)
  omega
/-- two neighbours are opposites -/
def tautIn : List Int → Bool
  | [] => false
  | [_] => false
  | a :: b :: t => (b == -a) || tautIn (b :: t)
end Go.Proofs.YtggnnnddnppcpaaDoorMath
/-! text YtggnnnddnppcpaaDoorNameMath -/
namespace Go.Proofs.YtggnnnddnppcpaaDoorMath
open Go.Lib
set_option linter.unusedVariables false
set_option linter.unusedSimpArgs false
def valOf (l : List UInt8) : Nat := l.foldl (fun a b => a * 10 + (b.toNat - 48)) 0
theorem valOf_dec (u : Nat) : valOf (decDigits u) = u := by
  induction u using Nat.strongRecOn with
  | _ u ih =>
    by_cases h : u < 10
    · rw [decDigits, dif_pos h]
      have e : (UInt8.ofNat (48 + u)).toNat = 48 + u := by simp; omega
      simp only [valOf, List.foldl_cons, List.foldl_nil, e]
      omega
    · rw [decDigits, dif_neg h, valOf, List.foldl_append]
      have e : (UInt8.ofNat (48 + u % 10)).toNat = 48 + u % 10 := by simp; omega
      have := ih (u / 10) (by omega)
      unfold valOf at this
      simp only [List.foldl_cons, List.foldl_nil, e, this]
      omega
theorem decDigits_inj {u v : Nat} (h : decDigits u = decDigits v) : u = v := by rw [← valOf_dec u, h, valOf_dec]
theorem decDigits_mem (u : Nat) : ∀ b ∈ decDigits u, 48 ≤ b.toNat ∧ b.toNat ≤ 57 := by
  induction u using Nat.strongRecOn with
  | _ u ih =>
    intro b hb
    by_cases h : u < 10
    · rw [decDigits, dif_pos h, List.mem_singleton] at hb
      subst hb
      have e : (UInt8.ofNat (48 + u)).toNat = 48 + u := by simp; omega
      omega
    · rw [decDigits, dif_neg h, List.mem_append, List.mem_singleton] at hb
      rcases hb with hb | rfl
      · exact ih (u / 10) (by omega) b hb
      · have e : (UInt8.ofNat (48 + u % 10)).toNat = 48 + u % 10 := by simp; omega
        omega
theorem itoa_mem (n : Int) : ∀ b ∈ itoa n, b ≠ 32 := by
  intro b hb e
  subst e
  unfold itoa at hb
  split at hb
  · rcases List.mem_cons.1 hb with h | h
    · cases h
    · have := (decDigits_mem _ _ h).1
      exact absurd this (by decide)
  · have := (decDigits_mem _ _ hb).1
    exact absurd this (by decide)
theorem itoa_inj {a b : Int} (h : itoa a = itoa b) : a = b := by
  have h45 : ∀ u r, (45 : UInt8) :: r ≠ decDigits u := fun u r e => by
    have := (decDigits_mem u 45 (by rw [← e]; exact List.mem_cons_self)).1
    exact absurd this (by decide)
  unfold itoa at h
  split at h <;> split at h
  · injection h with _ h
    have := decDigits_inj h
    omega
  · exact absurd h (h45 _ _)
  · exact absurd h.symm (h45 _ _)
  · have := decDigits_inj h
    omega
def nameOf (c : List Int) : List UInt8 := c.flatMap fun l => itoa l ++ [32]
theorem split_blank {a b r s : List UInt8} (ha : ∀ x ∈ a, x ≠ 32) (hb : ∀ x ∈ b, x ≠ 32) (h : a ++ 32 :: r = b ++ 32 :: s) : a = b ∧ r = s := by
  induction a generalizing b with
  | nil =>
    cases b with
    | nil => injection h with _ h; exact ⟨rfl, h⟩
    | cons y b => injection h with h _; exact absurd h.symm (hb y List.mem_cons_self)
  | cons x a ih =>
    cases b with
    | nil => injection h with h _; exact absurd h (ha x List.mem_cons_self)
    | cons y b =>
      injection h with h1 h2
      obtain ⟨e1, e2⟩ := ih (fun z hz => ha z (List.mem_cons_of_mem _ hz)) (fun z hz => hb z (List.mem_cons_of_mem _ hz)) h2
      exact ⟨by rw [h1, e1], e2⟩
theorem nameOf_inj {c d : List Int} (h : nameOf c = nameOf d) : c = d := by
  have hc : ∀ (x : Int) (r : List Int), nameOf (x :: r) = itoa x ++ 32 :: nameOf r := fun x r => by simp [nameOf]
  induction c generalizing d with
  | nil =>
    cases d with
    | nil => rfl
    | cons y d => rw [hc] at h; exact absurd h (by simp [nameOf])
  | cons x c ih =>
    cases d with
    | nil => rw [hc] at h; exact absurd h (by simp [nameOf])
    | cons y d =>
      rw [hc, hc] at h
      obtain ⟨h1, h2⟩ := split_blank (itoa_mem x) (itoa_mem y) h
      rw [itoa_inj h1, ih h2]
theorem nameOf_snoc (c : List Int) (x : Int) : nameOf (c ++ [x]) = nameOf c ++ itoa x ++ [32] := by simp [nameOf]
theorem nameOf_length {c : List Int} (h : ∀ x ∈ c, -9223372036854775808 ≤ x ∧ x ≤ 9223372036854775807) : (nameOf c).length ≤ 22 * c.length := by
  induction c with
  | nil => simp [nameOf]
  | cons x c ih =>
    have h1 := itoa_length_le x (h x List.mem_cons_self).1 (h x List.mem_cons_self).2
    have h2 := ih fun y hy => h y (List.mem_cons_of_mem _ hy)
    have e : nameOf (x :: c) = itoa x ++ 32 :: nameOf c := by simp [nameOf]
    rw [e, List.length_append, List.length_cons, List.length_cons]
    omega
end Go.Proofs.YtggnnnddnppcpaaDoorMath
/-! text YtggnnnddnppcpaaDoorIntMap -/
namespace Go.Proofs.YtggnnnddnppcpaaDoorMaps
open Go Go.Maps Go.RowKit
set_option linter.unusedVariables false
set_option linter.unusedSimpArgs false

/-- kinds of keys -/
structure Keys (κ : Type) where
  kl : κ → Lit
  inj : ∀ {a b}, kl a = kl b → a = b
  isKey : ∀ a, WideAt.IsKeyLit (kl a)
def intKeys : Keys Int where
  kl := Lit.int .i64
  inj := fun h => by injection h
  isKey := fun a => by simp [WideAt.IsKeyLit]
def strKeys : Keys (List UInt8) where
  kl := Lit.string
  inj := fun h => by injection h
  isKey := fun a => by simp [WideAt.IsKeyLit]
/-- kinds of elements -/
structure Elem (α : Type) where
  enc : α → Value
  el : α → DataW Unit
  R : Value → Option (DataW Unit × List MemPlace)
  ok : α → Prop
  inv : ∀ {v z}, R v = some z → ∃ a, v = enc a ∧ z.1 = el a
  reads : ∀ {a}, ok a → R (enc a) = some (el a, [])
  inj : ∀ {a b}, el a = el b → a = b
def intElem (P : Program) (e : TypeId) (he : P.underlying e = some (.int .i64)) : Elem Int where
  enc := Value.int .i64
  el := fun c => .lit (.int .i64 c)
  R := plainElem P e
  ok := fun c => (Lit.int .i64 c).wf = true
  inv := fun h => by
    obtain ⟨a, rfl, rfl, _⟩ := plainElem_int_inv he h
    exact ⟨a, rfl, rfl⟩
  reads := fun h => plainElem_int he h
  inj := fun h => by injection h with h; injection h
noncomputable def markR (v : Value) : Option (DataW Unit × List MemPlace) := by classical exact if v = .agg #[.bool true] then some (.lit (.bool true), []) else if v = .agg #[.bool false] then some (.lit (.bool false), []) else none
noncomputable def markElem : Elem Bool where
  enc := fun b => .agg #[.bool b]
  el := fun b => .lit (.bool b)
  R := markR
  ok := fun _ => True
  inv := fun {v z} h => by
    unfold markR at h
    split at h
    · rename_i hv
      cases h
      exact ⟨true, hv, rfl⟩
    · split at h
      · rename_i hv
        cases h
        exact ⟨false, hv, rfl⟩
      · cases h
  reads := fun {a} _ => by cases a <;> simp [markR]
  inj := fun h => by injection h with h; injection h

variable {κ α : Type}
/-- Block B of W is a map that holds at each key what f says: at most n, just c of them. -/
def IM (P : Program) (k : TypeId) (Ky : Keys κ) (E : Elem α) (W : World) (B n : Nat) (f : κ → Option α) (c : Nat) : Prop :=
  ∃ D, W.ownsMap P k E.R B n D ∧ Maps.size D = c ∧ ∀ x, Maps.has D (Ky.kl x) = (f x).isSome ∧ ∀ z, D.atKey (Ky.kl x) z = ((f x).map E.el).getD z

noncomputable def upd (f : κ → Option α) (x : κ) (v : α) : κ → Option α := by classical exact fun y => if y = x then some v else f y
noncomputable def del (f : κ → Option α) (x : κ) : κ → Option α := by classical exact fun y => if y = x then none else f y
theorem upd_same (f : κ → Option α) (x : κ) (v : α) : upd f x v x = some v := by simp [upd]
theorem upd_other (f : κ → Option α) {x y : κ} (v : α) (h : y ≠ x) : upd f x v y = f y := by simp [upd, h]
theorem del_same (f : κ → Option α) (x : κ) : del f x x = none := by simp [del]
theorem del_other (f : κ → Option α) {x y : κ} (h : y ≠ x) : del f x y = f y := by simp [del, h]

section
variable {P : Program} {k : TypeId} {Ky : Keys κ} {E : Elem α} {W : World} {B n c : Nat} {f : κ → Option α}
theorem IM.made (W : World) : IM P k Ky E (W.alloc (.map #[] 0)) W.heap.size 0 (fun _ => none) 0 :=
  ⟨_, World.ownsMap_made W P k E.R, rfl, fun x => ⟨rfl, fun z => rfl⟩⟩
theorem IM.lt (h : IM P k Ky E W B n f c) : B < W.heap.size := by
  obtain ⟨D, h, _⟩ := h
  exact h.lt
theorem IM.kept {W' : World} {row : Option Nat} (h : IM P k Ky E W B n f c) (hg : W.grownBy W' row) (hne : some B ≠ row) : IM P k Ky E W' B n f c := by
  obtain ⟨D, h, r⟩ := h
  exact ⟨D, h.kept hg hne, r⟩
theorem IM.block {W' : World} (h : IM P k Ky E W B n f c) (hb : W'.heap[B]? = W.heap[B]?) : IM P k Ky E W' B n f c := by
  obtain ⟨D, ⟨es, clock, h1, h2⟩, r⟩ := h
  exact ⟨D, ⟨es, clock, hb.trans h1, h2⟩, r⟩
theorem IM.below {W' : World} (h : IM P k Ky E W B n f c) (hb : Below W.heap.size W W') : IM P k Ky E W' B n f c := h.block (hb.block B h.lt)
theorem IM.alloc (h : IM P k Ky E W B n f c) (o : Obj) : IM P k Ky E (W.alloc o) B n f c := by
  obtain ⟨D, h, r⟩ := h
  exact ⟨D, h.alloc o, r⟩
theorem IM.drewN (h : IM P k Ky E W B n f c) (m : Nat) : IM P k Ky E (W.drewN m) B n f c := h
theorem IM.drew (h : IM P k Ky E W B n f c) : IM P k Ky E W.drew B n f c := h
theorem IM.setCell (h : IM P k Ky E W B n f c) {a : Addr} (ha : B ≠ a.block) (u : Value) : IM P k Ky E (W.setCell a u) B n f c := by
  obtain ⟨D, h, r⟩ := h
  exact ⟨D, h.setCell ha u, r⟩
theorem IM.mono (h : IM P k Ky E W B n f c) {n' : Nat} (hn : n ≤ n') : IM P k Ky E W B n' f c := by
  obtain ⟨D, h, r⟩ := h
  exact ⟨D, h.mono hn, r⟩
theorem IM.congr (h : IM P k Ky E W B n f c) {g : κ → Option α} (hg : ∀ x, g x = f x) : IM P k Ky E W B n g c := by
  obtain rfl : g = f := funext hg
  exact h
theorem put_reads {D : DataW Unit} (hD : Maps.Tidy D) (hr : ∀ x, Maps.has D (Ky.kl x) = (f x).isSome ∧ ∀ z, D.atKey (Ky.kl x) z = ((f x).map E.el).getD z) (x : κ) (v : α) :
    Maps.size (D.put (Ky.kl x) (E.el v)) = (if (f x).isSome = true then Maps.size D else Maps.size D + 1) ∧ ∀ y, Maps.has (D.put (Ky.kl x) (E.el v)) (Ky.kl y) = (upd f x v y).isSome ∧ ∀ z, (D.put (Ky.kl x) (E.el v)).atKey (Ky.kl y) z = ((upd f x v y).map E.el).getD z := by
  refine ⟨by rw [Maps.size_put hD, (hr x).1], fun y => ?_⟩
  by_cases hy : y = x
  · subst hy
    rw [upd_same]
    exact ⟨Maps.has_put_same hD.isMap (Ky.isKey _) _, fun z => Maps.atKey_put_same hD.isMap (Ky.isKey _) _ z⟩
  · rw [upd_other f v hy]
    have hne : Ky.kl y ≠ Ky.kl x := fun h => hy (Ky.inj h)
    exact ⟨(Maps.has_put_other hne _).trans (hr y).1, fun z => (Maps.atKey_put_other hne _ z).trans ((hr y).2 z)⟩
theorem del_reads {D : DataW Unit} (hD : Maps.Tidy D) (hr : ∀ x, Maps.has D (Ky.kl x) = (f x).isSome ∧ ∀ z, D.atKey (Ky.kl x) z = ((f x).map E.el).getD z) (x : κ) :
    Maps.size (D.del (Ky.kl x)) = (if (f x).isSome = true then Maps.size D - 1 else Maps.size D) ∧ ∀ y, Maps.has (D.del (Ky.kl x)) (Ky.kl y) = (del f x y).isSome ∧ ∀ z, (D.del (Ky.kl x)).atKey (Ky.kl y) z = ((del f x y).map E.el).getD z := by
  refine ⟨?_, fun y => ?_⟩
  · have h := Maps.size_del (k := Ky.kl x) hD
    rw [(hr x).1] at h
    split <;> simp_all <;> omega
  by_cases hy : y = x
  · subst hy
    rw [del_same]
    exact ⟨Maps.has_del_same, fun z => Maps.atKey_del_same z⟩
  · rw [del_other f hy]
    have hne : Ky.kl y ≠ Ky.kl x := fun h => hy (Ky.inj h)
    exact ⟨(Maps.has_del_other hne).trans (hr y).1, fun z => (Maps.atKey_del_other hne z).trans ((hr y).2 z)⟩
theorem IM.look (h : IM P k Ky E W B n f c) {t e : TypeId} (K : Keyed P k) (ht : P.underlying t = some (.map k e)) {z : α} (hz : (zeroValue e).run P W = .ok (E.enc z) W) (hzk : E.ok z) {xv : Value} {x : κ} (hkey : keyOf P k xv = some (Ky.kl x)) :
    (Instr.lookup t (.map (some B)) xv false).run P W = .ok (E.enc ((f x).getD z)) W := by
  obtain ⟨D, h, _, hr⟩ := h
  obtain ⟨v, ps, hrun, hv⟩ := h.lookup K ht hz (E.reads hzk) hkey
  obtain ⟨a, rfl, ha⟩ := E.inv hv
  rw [(hr x).2] at ha
  have : a = (f x).getD z := by
    cases hf : f x with
    | none => rw [hf] at ha; exact (E.inj ha).symm
    | some b => rw [hf] at ha; exact (E.inj ha).symm
  rw [hrun, this]
theorem IM.store (h : IM P k Ky E W B n f c) {t e : TypeId} (K : Keyed P k) (ht : P.underlying t = some (.map k e)) (hn : n < maxLen) {xv : Value} {x : κ} {v : α} (hkey : keyOf P k xv = some (Ky.kl x)) (hv : E.ok v) :
    ∃ w', (Instr.mapUpdate t (.map (some B)) xv (E.enc v)).run P W = .ok () w' ∧ IM P k Ky E w' B (n + 1) (upd f x v) (if (f x).isSome = true then c else c + 1) ∧ W.grownBy w' (some B) := by
  obtain ⟨D, h, rfl, hr⟩ := h
  obtain ⟨w', hrun, h1, h2⟩ := h.update K ht hn hkey (E.reads hv)
  obtain ⟨p1, p2⟩ := put_reads (h.tidy K) hr x v
  exact ⟨w', hrun, ⟨_, h1, p1, p2⟩, h2⟩
theorem IM.drop (h : IM P k Ky E W B n f c) {t e : TypeId} (K : Keyed P k) (ht : P.underlying t = some (.map k e)) {xv : Value} {x : κ} (hkey : keyOf P k xv = some (Ky.kl x)) (ty : TypeId) :
    ∃ w', (Builtin.delete_ #[t, k] ty #[.map (some B), xv]).run P W = .ok (.tuple #[]) w' ∧ IM P k Ky E w' B n (del f x) (if (f x).isSome = true then c - 1 else c) ∧ W.grownBy w' (some B) := by
  obtain ⟨D, h, rfl, hr⟩ := h
  obtain ⟨w', hrun, h1, h2⟩ := h.drop K ht hkey ty
  obtain ⟨p1, p2⟩ := del_reads (h.tidy K) hr x
  exact ⟨w', hrun, ⟨_, h1, p1, p2⟩, h2.grown⟩
theorem IM.len (h : IM P k Ky E W B n f c) {t e : TypeId} (ht : P.underlying t = some (.map k e)) (ty : TypeId) : (Builtin.len_ #[t] ty #[.map (some B)]).run P W = .ok (.int .i64 c) W := by
  obtain ⟨D, h, rfl, _⟩ := h
  exact h.len ht ty
end

/-! at the operation, for the walk -/
section
variable {P : Program} (w : World) {ops : Array Oper} {rest : List Oper} {o : Oper} {a : Act} {Q : Exit → Act → World → Prop} {k e : TypeId} {Ky : Keys κ} {E : Elem α} {B n c : Nat} {f : κ → Option α}
theorem im_store (hg : o.guard = none) (m x v : Operand) (t : TypeId) (hop : o.op = Op.mapUpdate t m x v) (K : Keyed P k) (ht : P.underlying t = some (.map k e)) (hm : a.eval m = .map (some B)) (h : IM P k Ky E w B n f c) (hn : n < maxLen)
    (xv vv : Value) (key : κ) (val : α) (hx : a.eval x = xv) (hv : a.eval v = vv) (hkey : keyOf P k xv = some (Ky.kl key)) (hval : vv = E.enc val) (hok : E.ok val)
    (hK : ∀ w', IM P k Ky E w' B (n + 1) (upd f key val) (if (f key).isSome = true then c else c + 1) → w.grownBy w' (some B) → wpList P ops Q rest (a.put o.dst undef) w') : wpList P ops Q (o :: rest) a w := by
  refine wpList_plain hg fun K' hK' => ?_
  subst hval
  obtain ⟨w', hrun, r1, r2⟩ := h.store K ht hn hkey hok
  unfold Oper.wp
  simp [execOp, hop, hm, hx, hv, hrun, Result.andThen]
  exact hK' _ _ (hK w' r1 r2)
theorem im_store_int (he : P.underlying e = some (.int .i64)) (hg : o.guard = none) (m x v : Operand) (t : TypeId) (hop : o.op = Op.mapUpdate t m x v) (K : Keyed P k) (ht : P.underlying t = some (.map k e)) (hm : a.eval m = .map (some B)) {f : κ → Option Int} (h : IM P k Ky (intElem P e he) w B n f c) (hn : n < maxLen)
    (xv : Value) (key : κ) (val : Int) (hx : a.eval x = xv) (hv : a.eval v = .int .i64 val) (hkey : keyOf P k xv = some (Ky.kl key)) (hok : (Lit.int .i64 val).wf = true)
    (hK : ∀ w', IM P k Ky (intElem P e he) w' B (n + 1) (upd f key val) (if (f key).isSome = true then c else c + 1) → w.grownBy w' (some B) → wpList P ops Q rest (a.put o.dst undef) w') : wpList P ops Q (o :: rest) a w :=
  im_store w hg m x v t hop K ht hm h hn xv (.int .i64 val) key val hx hv hkey rfl hok hK
end
end Go.Proofs.YtggnnnddnppcpaaDoorMaps
/-! text YtggnnnddnppcpaaDoorCnfTidied -/
namespace Go.Proofs.YtggnnnddnppcpaaDoorMath
open Go.Proofs.YtggnnnddnppcpaaDoorMaps
set_option linter.unusedVariables false
set_option linter.unusedSimpArgs false
/-- the clauses tidied, those that say nothing and those met before left out; P: the tidied ones met before -/
def tidyGo : List (List Int) → List (List Int) → List (List Int)
  | _, [] => []
  | P, c :: r => (if tidyOf c ∈ P ∨ tautIn (tidyOf c) = true then [] else [tidyOf c]) ++ tidyGo (P ++ [tidyOf c]) r
def tidyAll (cs : List (List Int)) : List (List Int) := tidyGo [] cs
theorem tidyGo_append (a b : List (List Int)) : ∀ P, tidyGo P (a ++ b) = tidyGo P a ++ tidyGo (P ++ a.map tidyOf) b := by
  induction a with
  | nil => intro P; simp [tidyGo]
  | cons c r ih => intro P; simp only [List.cons_append, List.nil_append, tidyGo, ih, List.append_assoc, List.map_cons, List.singleton_append]
theorem tidyAll_snoc (cs : List (List Int)) (c : List Int) : tidyAll (cs ++ [c]) = tidyAll cs ++ (if tidyOf c ∈ cs.map tidyOf ∨ tautIn (tidyOf c) = true then [] else [tidyOf c]) := by
  rw [tidyAll, tidyGo_append, tidyAll]
  simp [tidyGo]
theorem tidyAll_take {cs : List (List Int)} {k : Nat} (hk : k < cs.length) : tidyAll (cs.take (k + 1)) = tidyAll (cs.take k) ++ (if tidyOf (cs.getD k []) ∈ (cs.take k).map tidyOf ∨ tautIn (tidyOf (cs.getD k [])) = true then [] else [tidyOf (cs.getD k [])]) := by
  have e : cs.take (k + 1) = cs.take k ++ [cs.getD k []] := by
    rw [List.take_add_one, List.getElem?_eq_getElem hk, List.getD_eq_getElem?_getD, List.getElem?_eq_getElem hk]; rfl
  rw [e, tidyAll_snoc]
theorem tidyGo_length (cs : List (List Int)) : ∀ P, (tidyGo P cs).length ≤ cs.length := by
  induction cs with
  | nil => intro P; exact Nat.le_refl _
  | cons c r ih =>
    intro P
    have := ih (P ++ [tidyOf c])
    simp only [tidyGo, List.length_append, List.length_cons]
    split <;> simp <;> omega
theorem tidyAll_length (cs : List (List Int)) : (tidyAll cs).length ≤ cs.length := tidyGo_length cs []
theorem tidyGo_mem {cs : List (List Int)} : ∀ {P} {t : List Int}, t ∈ tidyGo P cs → ∃ c ∈ cs, t = tidyOf c ∧ tautIn t = false := by
  induction cs with
  | nil => intro P t h; simp [tidyGo] at h
  | cons c r ih =>
    intro P t h
    simp only [tidyGo, List.mem_append] at h
    rcases h with h | h
    · split at h
      · cases h
      · rename_i h1
        rw [List.mem_singleton] at h
        exact ⟨c, List.mem_cons_self, h, by rw [h]; cases hh : tautIn (tidyOf c) with | false => rfl | true => exact absurd (.inr hh) h1⟩
    · obtain ⟨d, h1, h2⟩ := ih h
      exact ⟨d, List.mem_cons_of_mem _ h1, h2⟩
theorem tidyAll_mem {cs : List (List Int)} {t : List Int} (h : t ∈ tidyAll cs) : ∃ c ∈ cs, t = tidyOf c ∧ tautIn t = false := tidyGo_mem h
def tidiedOf (v : Int) (cs : List (List Int)) : Int × List (List Int) × Int := if isFormula v cs = true then (v, tidyAll cs, 0) else (0, [], 1)
/-- a map counts names -/
def NTally (f : List UInt8 → Option Int) (K : List (List Int)) : Prop := ∀ c, (f (nameOf c)).getD 0 = ((K.count c : Nat) : Int)
theorem ntally_snoc {f : List UInt8 → Option Int} {K : List (List Int)} (h : NTally f K) (c : List Int) : NTally (upd f (nameOf c) (((K.count c : Nat) : Int) + 1)) (K ++ [c]) := by
  intro d
  by_cases e : d = c
  · subst e
    rw [upd_same, List.count_append, List.count_singleton_self]
    simp
  · rw [upd_other _ _ (fun e2 => e (nameOf_inj e2)), h d, List.count_append, List.count_singleton]
    simp [show (c == d) = false from beq_eq_false_iff_ne.2 fun e2 => e e2.symm]
theorem tidyOf_small (c : List Int) : (tidyOf c).length ≤ 2097152 := formed_count (tidyOf c) (rising_tidyOf c) (fun _ h => tidyOf_formed h)
end Go.Proofs.YtggnnnddnppcpaaDoorMath
