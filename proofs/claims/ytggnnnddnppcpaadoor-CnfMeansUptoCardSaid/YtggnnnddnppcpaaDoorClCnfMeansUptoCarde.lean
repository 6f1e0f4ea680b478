/- Plain words on numbers and lists that the laws' statements are told in; rounds. -/
import Derived.Test.YtggnnnddnppcpaaDoorWWords
import Derived.Test.YtggnnnddnppcpaaDoorRows
import Derived.Deep.Slices
import Derived.SizedLaws
import Derived.ChangeSame
import Derived.ProofKit
import Derived.OpenShut
import Derived.Lib.SlicesCompact
import Derived.Sort.Statements
/-! text YtggnnnddnppcpaaDoorMath -/
namespace Go.Proofs.YtggnnnddnppcpaaDoorMath
open Go.RowKit Go.Proofs.YtggnnnddnppcpaaDoorW.PrintWords
set_option linter.unusedVariables false
set_option linter.unusedSimpArgs false

theorem Ev.succ {α : Type} {g : Nat → Option α} {r : α} (h : Ev (fun k => g (k + 1)) r) : Ev g r := Ev.step (fun _ => rfl) h
theorem Ev.bound {α β : Type} {x : Option α} {f : Nat → α → Option β} {a : α} {r : β} (h : x = some a) (k : Ev (fun n => f n a) r) : Ev (fun n => x.bind (f n)) r := by
  subst h
  exact k
theorem Ev.fixed {α : Type} {x : Option α} {r : α} (h : x = some r) : Ev (fun _ => x) r := by
  subst h
  exact Ev.now _

theorem w64 {x : Int} (h1 : -9223372036854775808 ≤ x) (h2 : x ≤ 9223372036854775807) : wrap64 x = x := by
  unfold wrap64
  omega
theorem w64s {i : Nat} (h : (i : Int) < 9223372036854775807) : wrap64 ((i : Int) + 1) = ((i + 1 : Nat) : Int) := by
  rw [w64 (by omega) (by omega)]
  omega
theorem w64p {i : Nat} (h0 : 0 < i) (h : (i : Int) < 9223372036854775807) : wrap64 ((i : Int) - 1) = ((i - 1 : Nat) : Int) := by
  rw [w64 (by omega) (by omega)]
  omega
theorem wf_lo {x : Int} (h : (Lit.int .i64 x).wf = true) : -9223372036854775808 ≤ x ∧ x ≤ 9223372036854775807 := by
  have h2 : (decide (IntKind.i64.min ≤ x) && decide (x ≤ IntKind.i64.max)) = true := h
  rw [Bool.and_eq_true, decide_eq_true_eq, decide_eq_true_eq] at h2
  have e1 : IntKind.i64.min = -9223372036854775808 := by decide
  have e2 : IntKind.i64.max = 9223372036854775807 := by decide
  omega

/-! reading -/
theorem rd_nat {l : List Int} {i : Nat} (h : i < l.length) : rd l (i : Int) = l[i] := by
  simp [rd, List.getD_eq_getElem?_getD, List.getElem?_eq_getElem h]
theorem drop_rd {l : List Int} {i : Nat} (h : i < l.length) : l.drop i = rd l (i : Int) :: l.drop (i + 1) := by
  rw [rd_nat h]
  exact List.drop_eq_getElem_cons h
theorem rd_mem {l : List Int} {i : Nat} (h : i < l.length) : rd l (i : Int) ∈ l := by
  rw [rd_nat h]
  exact List.getElem_mem h
theorem rdOf_nat {α : Type} {z : α} {l : List α} {i : Nat} (h : i < l.length) : rdOf z l (i : Int) = l[i] := by
  simp [rdOf, List.getD_eq_getElem?_getD, List.getElem?_eq_getElem h]
theorem drop_rdOf {α : Type} {z : α} {l : List α} {i : Nat} (h : i < l.length) : l.drop i = rdOf z l (i : Int) :: l.drop (i + 1) := by
  rw [rdOf_nat h]
  exact List.drop_eq_getElem_cons h
theorem getD_nat {α : Type} {z : α} {l : List α} {i : Nat} (h : i < l.length) : l.getD ((i : Int).toNat) z = l[i] := by
  simp [List.getD_eq_getElem?_getD, List.getElem?_eq_getElem h]
theorem drop_getD {α : Type} {z : α} {l : List α} {i : Nat} (h : i < l.length) : l.drop i = l.getD ((i : Int).toNat) z :: l.drop (i + 1) := by
  rw [getD_nat h]
  exact List.drop_eq_getElem_cons h
theorem take_snoc {α : Type} {l : List α} {i : Nat} (h : i < l.length) : l.take (i + 1) = l.take i ++ [l[i]] := by
  rw [List.take_succ_eq_append_getElem h]
theorem take_rd {l : List Int} {i : Nat} (h : i < l.length) : l.take (i + 1) = l.take i ++ [rd l (i : Int)] := by
  rw [rd_nat h]; exact take_snoc h
theorem take_rdOf {α : Type} {z : α} {l : List α} {i : Nat} (h : i < l.length) : l.take (i + 1) = l.take i ++ [rdOf z l (i : Int)] := by
  rw [rdOf_nat h]; exact take_snoc h
theorem take_getD {α : Type} {z : α} {l : List α} {i : Nat} (h : i < l.length) : l.take (i + 1) = l.take i ++ [l.getD ((i : Int).toNat) z] := by
  rw [getD_nat h]; exact take_snoc h

/-! literals -/
def formed (l : Int) : Bool := decide (l ≠ 0 ∧ -1048576 ≤ l ∧ l ≤ 1048576)
theorem formed_iff {l : Int} : formed l = true ↔ l ≠ 0 ∧ -1048576 ≤ l ∧ l ≤ 1048576 := by simp [formed]
theorem formed_neg (l : Int) : formed (-l) = formed l := by
  rw [Bool.eq_iff_iff, formed_iff, formed_iff]
  omega
def sound (c : List Int) : Bool := c.all formed
def has (c : List Int) (l : Int) : Bool := formed l && c.contains l
def varOf (l : Int) : Int := if formed l = true then (if l < 0 then -l else l) else 0
def within (c : List Int) (v : Int) : Bool := sound c && c.all fun l => decide (l ≤ v ∧ -l ≤ v)
def isFormula (v : Int) (cs : List (List Int)) : Bool := decide (0 ≤ v ∧ v ≤ 1048576) && cs.all fun c => within c v
theorem formed_bd {l : Int} (h : formed l = true) : -1048576 ≤ l ∧ l ≤ 1048576 := by
  rw [formed_iff] at h
  omega
theorem sound_mem {c : List Int} (h : sound c = true) {l : Int} (hl : l ∈ c) : formed l = true := List.all_eq_true.1 h l hl

/-- The numbers of those of which p holds, from number i on. -/
def idxs {α : Type} (p : α → Bool) : Nat → List α → List Int
  | _, [] => []
  | i, c :: cs => if p c = true then (i : Int) :: idxs p (i + 1) cs else idxs p (i + 1) cs
theorem idxs_length {α : Type} (p : α → Bool) (cs : List α) : ∀ i, (idxs p i cs).length ≤ cs.length := by
  induction cs with
  | nil => intro i; simp [idxs]
  | cons c cs ih =>
    intro i
    simp only [idxs]
    have := ih (i + 1)
    split <;> simp <;> omega

/-! models -/
def truth (m : List Bool) (l : Int) : Bool := (m.getD (l.natAbs - 1) false) == decide (l > 0)
def holdsIn (c : List Int) (m : List Bool) : Bool := c.any (truth m)
def allIn (cs : List (List Int)) (m : List Bool) : Bool := cs.all fun c => holdsIn c m
def fitsIn (v : Int) (cs : List (List Int)) (m : List Bool) : Bool := isFormula v cs && decide ((m.length : Int) = v)
def satisfies (v : Int) (cs : List (List Int)) (m : List Bool) : Bool := fitsIn v cs m && allIn cs m
def falses (v : Int) (cs : List (List Int)) (m : List Bool) : List Int := if fitsIn v cs m = true then idxs (fun c => !holdsIn c m) 0 cs else []
def sizeFrom : Int → List (List Int) → Int
  | a, [] => a
  | a, c :: cs => sizeFrom (wrap64 (a + (c.length : Int))) cs
theorem within_lit {c : List Int} {v : Int} (h : within c v = true) {l : Int} (hl : l ∈ c) : formed l = true ∧ l ≤ v ∧ -l ≤ v := by
  unfold within at h
  rw [Bool.and_eq_true] at h
  refine ⟨sound_mem h.1 hl, ?_⟩
  simpa using List.all_eq_true.1 h.2 l hl
theorem rdOf_truth {m : List Bool} {l : Int} (h : formed l = true) : (rdOf false m ((l.natAbs : Int) - 1) == decide (l > 0)) = truth m l := by
  have hb := formed_iff.1 h
  unfold truth rdOf
  rw [show ((l.natAbs : Int) - 1).toNat = l.natAbs - 1 by omega]
theorem isFormula_clause {v : Int} {cs : List (List Int)} (h : isFormula v cs = true) {c : List Int} (hc : c ∈ cs) : within c v = true := by
  unfold isFormula at h
  rw [Bool.and_eq_true] at h
  exact List.all_eq_true.1 h.2 c hc
theorem isFormula_bd {v : Int} {cs : List (List Int)} (h : isFormula v cs = true) : 0 ≤ v ∧ v ≤ 1048576 := by
  unfold isFormula at h
  rw [Bool.and_eq_true] at h
  simpa using h.1

/-! counting -/
def cnt : List Bool → Nat
  | [] => 0
  | b :: bs => (if b = true then 1 else 0) + cnt bs
theorem cnt_le (l : List Bool) : cnt l ≤ l.length := by
  induction l with
  | nil => simp [cnt]
  | cons b bs ih =>
    simp only [cnt, List.length_cons]
    split <;> omega
def rowF (c : Nat) : Nat → Nat → List Bool
  | _, 0 => []
  | j, d + 1 => decide (c > j) :: rowF c (j + 1) d
theorem rowF_length (c : Nat) (d : Nat) : ∀ j, (rowF c j d).length = d := by
  induction d with
  | zero => intro j; rfl
  | succ d ih => intro j; simp [rowF, ih]
def fillF (k : Nat) : Nat → List Bool → List Bool
  | _, [] => []
  | c, b :: bs => rowF (if b = true then c + 1 else c) 0 k ++ fillF k (if b = true then c + 1 else c) bs
theorem fillF_length (k : Nat) (bs : List Bool) : ∀ c, (fillF k c bs).length = bs.length * k := by
  induction bs with
  | nil => intro c; simp [fillF]
  | cons b bs ih => intro c; simp only [fillF, List.length_append, rowF_length, ih, List.length_cons, Nat.add_mul]; omega
def fillOf (on : List Bool) (k : Int) : List Bool × Int :=
  if k < 0 ∨ (cnt on : Int) > k then ([], 2) else if k = 0 ∨ k ≥ (on.length : Int) then ([], 0) else (fillF k.toNat 0 (on.take (on.length - 1)), 0)

/-! places -/
def idxOf (l : Int) : Int := if formed l = true then (if l < 0 then -2 * l - 1 else 2 * l - 2) else -1
def atOf (i : Int) : Int := if 0 ≤ i ∧ i < 2097152 then (if i % 2 = 1 then -(i / 2 + 1) else i / 2 + 1) else 0

end Go.Proofs.YtggnnnddnppcpaaDoorMath
/-! text YtggnnnddnppcpaaDoorOpens -/
namespace Go.Proofs.YtggnnnddnppcpaaDoorOpens
open Go.RowKit Go.ChangeShapes Go.WideShapes Go.Proofs.YtggnnnddnppcpaaDoorW.PrintWords Go.Proofs.YtggnnnddnppcpaaDoor
set_option linter.unusedVariables false

structure Opens {α : Type} (P : Program) (T : TypeId) (d : Kd α) (OK : α → Prop) (m : α → Nat) : Prop where
  size : P.cellsOf T = d.sz
  opens : ∀ {H : Type} {enc : TypeId × Value → H} {W : World} {fuel : Nat} {cs : List Value} {x : DataW H} {ps : List MemPlace},
    DataW.trod enc P W 0 (fun _ => true) true fuel T cs = some (x, ps) → (∀ n ∈ DataW.weights P T x, n ≤ reachBytes) → ∃ a, d.K W a cs ∧ OK a ∧ m a ≤ Rows.uptoBulk x

theorem opens_int {P : Program} {T : TypeId} {k : IntKind} (hu : P.underlying T = some (.int k)) (hs : P.cellsOf T = 1) : Opens P T (Kd.int k) (fun x => (Lit.int k x).wf = true) (fun _ => 1) where
  size := hs
  opens := by
    intro H enc W fuel cs x ps h _
    obtain ⟨n, rfl, hx, hw⟩ := DataW.trod_int hu h
    injection hx with hx _
    subst hx
    exact ⟨n, rfl, hw, by simp [Rows.uptoBulk]⟩

theorem opens_bool {P : Program} {T : TypeId} (hu : P.underlying T = some .bool) (hs : P.cellsOf T = 1) : Opens P T Kd.bool (fun _ => True) (fun _ => 1) where
  size := hs
  opens := by
    intro H enc W fuel cs x ps h _
    obtain ⟨n, rfl, hx⟩ := DataW.trod_bool hu h
    injection hx with hx _
    subst hx
    exact ⟨n, rfl, trivial, by simp [Rows.uptoBulk]⟩

def sumOf {α : Type} (m : α → Nat) : List α → Nat
  | [] => 0
  | x :: r => m x + sumOf m r

theorem opens_rows {α H : Type} {P : Program} {e : TypeId} {d : Kd α} {OK : α → Prop} {m : α → Nat} (he : Opens P e d OK m) {enc : TypeId × Value → H} {W : World} {n : Nat} {a : Addr} :
    ∀ (l : List (DataW H)) (o : Nat), (∀ i x, l[i]? = some x → ∃ cs' ps, W.cells? 0 (a.add ((o + i) * P.cellsOf e)) (P.cellsOf e) = some cs' ∧ DataW.trod enc P W 0 (fun _ => true) true n e cs' = some (x, ps)) →
    (∀ q ∈ DataW.weightsAll P e l, q ≤ reachBytes) →
    ∃ xs : List α, xs.length = l.length ∧ (∀ x ∈ xs, OK x) ∧ sumOf m xs ≤ Rows.uptoBulkAll l ∧
      ∀ j p, xs[j]? = some p → ∃ c, c.length = d.sz ∧ d.K W p c ∧ W.cells? 0 (a.add ((o + j) * P.cellsOf e)) (P.cellsOf e) = some c
  | [], o, _, _ => ⟨[], rfl, by simp, by simp [sumOf], by simp⟩
  | x :: l, o, hx, hw => by
    obtain ⟨cs', ps, h1, h2⟩ := hx 0 x rfl
    obtain ⟨p, hK, hok, hm⟩ := he.opens h2 (fun q hq => hw q (by simp only [DataW.weightsAll, List.mem_append]; exact .inl hq))
    obtain ⟨xs, e1, e2, e3, e4⟩ := opens_rows he l (o + 1) (fun i y hy => by
      have := hx (i + 1) y (by simpa using hy)
      rwa [show o + (i + 1) = o + 1 + i by omega] at this) (fun q hq => hw q (by simp only [DataW.weightsAll, List.mem_append]; exact .inr hq))
    refine ⟨p :: xs, by simp [e1], ?_, ?_, ?_⟩
    · intro y hy
      rcases List.mem_cons.1 hy with rfl | hy
      · exact hok
      · exact e2 y hy
    · simp only [sumOf, Rows.uptoBulkAll]
      omega
    · intro j q hj
      cases j with
      | zero =>
        simp at hj
        subst hj
        exact ⟨cs', d.K_len hK, hK, h1⟩
      | succ j =>
        obtain ⟨c, c1, c2, c3⟩ := e4 j q (by simpa using hj)
        exact ⟨c, c1, c2, by rwa [show o + (j + 1) = o + 1 + j by omega]⟩

theorem bulk_pos {H : Type} (d : DataW H) : 1 ≤ Rows.uptoBulk d := by
  cases d with
  | lit l => cases l <;> simp [Rows.uptoBulk]
  | nil => simp [Rows.uptoBulk]
  | ptr d => simp [Rows.uptoBulk]
  | slice elems spare => simp [Rows.uptoBulk]
  | agg parts => simp [Rows.uptoBulk]
  | iface t d => simp [Rows.uptoBulk]
  | map entries => simp [Rows.uptoBulk]
  | held h => simp [Rows.uptoBulk]

theorem bulkAll_append {H : Type} (l r : List (DataW H)) : Rows.uptoBulkAll (l ++ r) = Rows.uptoBulkAll l + Rows.uptoBulkAll r := by
  induction l with
  | nil => simp [Rows.uptoBulkAll]
  | cons x l ih => simp only [List.cons_append, Rows.uptoBulkAll, ih]; omega

theorem bulk_length {H : Type} (l : List (DataW H)) : l.length ≤ Rows.uptoBulkAll l := by
  induction l with
  | nil => simp [Rows.uptoBulkAll]
  | cons x r ih => have := bulk_pos x; simp only [Rows.uptoBulkAll, List.length_cons]; omega

theorem opens_slice {α : Type} {P : Program} {T e : TypeId} {d : Kd α} {OK : α → Prop} {m : α → Nat} {B : Nat} (he : Opens P e d OK m) (hu : P.underlying T = some (.slice e)) (hs : P.cellsOf T = 1) (hB : P.bytesOf e = B) :
    Opens P T (Kd.slice e d) (fun xs => xs.length * B ≤ 140737488351232 ∧ ∀ x ∈ xs, OK x) (fun xs => sumOf m xs + 1) where
  size := hs
  opens := by
    intro H enc W fuel cs x ps h hw
    rcases DataW.trod_slice hu h with ⟨rfl, hx⟩ | ⟨a, len, cap, elems, rest, n, _, rfl, hx, hb, hl, hm, hlen, hel, hsp, _⟩
    · injection hx with hx _
      subst hx
      refine ⟨[], ⟨none, 0, rfl, Nat.le_refl _, rfl, by simp, fun hp => absurd hp (by simp)⟩, ⟨by simp, by simp⟩, ?_⟩
      simp [sumOf, Rows.uptoBulk]
    · injection hx with hx _
      subst hx
      have hw1 : (elems.length + rest.length) * B ≤ reachBytes := by
        have := hw ((elems.length + rest.length) * B) (by simp [DataW.weights, hu, hB])
        exact this
      obtain ⟨xs, e1, e2, e3, e4⟩ := opens_rows he (enc := enc) (W := W) (n := n) (a := a) (elems.map (·.1)) 0 (by
        intro i y hy
        rw [List.getElem?_map] at hy
        obtain ⟨z, hz, rfl⟩ := Option.map_eq_some_iff.1 hy
        have hi : i < len := by
          rcases Nat.lt_or_ge i elems.length with h | h
          · omega
          · rw [List.getElem?_eq_none h] at hz; cases hz
        have hq := hel i hi
        rw [hz] at hq
        obtain ⟨cs', h1, h2⟩ := Option.bind_eq_some_iff.1 hq
        exact ⟨cs', z.2, by rwa [Nat.zero_add], h2⟩) (fun q hq => hw q (by
          simp only [DataW.weights, hu, List.mem_cons, List.mem_append]
          exact .inr (.inl hq)))
      have e1' : xs.length = len := by rw [e1, List.length_map, hlen]
      have hmx : len ≤ 9223372036854775807 := by simp only [maxLen] at hm; omega
      refine ⟨xs, ⟨some a, cap, by rw [e1'], by omega, ⟨rfl, by omega, fun _ => ⟨a, rfl, ?_⟩⟩⟩, ⟨?_, e2⟩, ?_⟩
      · intro j p hj
        obtain ⟨c, c1, c2, c3⟩ := e4 j p hj
        rw [Nat.zero_add] at c3
        refine ⟨c, c1, c2, fun i u hu' => ?_⟩
        obtain ⟨_, hlen2, hcell⟩ := World.cells?_some c3
        have hi : i < c.length := by
          rcases Nat.lt_or_ge i c.length with h | h
          · exact h
          · rw [List.getElem?_eq_none h] at hu'; cases hu'
        have hq := hcell i (by omega)
        rw [hu'] at hq
        rw [← hq, he.size]
        congr 1
        unfold Addr.add
        by_cases g1 : j * d.sz = 0 <;> by_cases g2 : i = 0 <;> simp [g1, g2, Nat.add_assoc]
      · have : reachBytes = 140737488351232 := rfl
        have h3 : xs.length * B ≤ (elems.length + rest.length) * B := Nat.mul_le_mul_right _ (by omega)
        omega
      · simp only [Rows.uptoBulk]
        omega

/-- Some fields of a struct, from an offset on. -/
structure OpensF {α : Type} (P : Program) (fs : List Field) (off : Nat) (d : Kd α) (OK : α → Prop) (m : α → Nat) : Prop where
  opens : ∀ {H : Type} {enc : TypeId × Value → H} {W : World} {n : Nat} {cs : List Value} {xs : List (DataW H × List MemPlace)}, xs.length = fs.length →
    (∀ (i : Nat) (f : Field), fs[i]? = some f → DataW.trod enc P W 0 (fun _ => true) true n f.type ((cs.drop f.offset).take (P.cellsOf f.type)) = xs[i]?) →
    (∀ q ∈ DataW.weightsEach P (fs.map (·.type)) (xs.map (·.1)), q ≤ reachBytes) → ∃ a, d.K W a ((cs.drop off).take d.sz) ∧ OK a ∧ m a ≤ Rows.uptoBulkAll (xs.map (·.1))

theorem opensF_last {α : Type} {P : Program} {f : Field} {off : Nat} {d : Kd α} {OK : α → Prop} {m : α → Nat} (he : Opens P f.type d OK m) (ho : f.offset = off) : OpensF P [f] off d OK m where
  opens := by
    intro H enc W n cs xs hl h hw
    match xs, hl with
    | [x], _ =>
      have h0 := h 0 f rfl
      rw [he.size, ho] at h0
      obtain ⟨a, h1, h2, h3⟩ := he.opens (x := x.1) (ps := x.2) h0 (fun q hq => hw q (by simpa [DataW.weightsEach] using hq))
      exact ⟨a, h1, h2, by simpa [Rows.uptoBulkAll] using h3⟩

theorem opensF_cons {α β : Type} {P : Program} {f : Field} {fs : List Field} {off : Nat} {d : Kd α} {d1 : Kd β} {OK : α → Prop} {OK1 : β → Prop} {m : α → Nat} {m1 : β → Nat}
    (he : Opens P f.type d OK m) (ho : f.offset = off) (hr : OpensF P fs (off + d.sz) d1 OK1 m1) : OpensF P (f :: fs) off (Kd.pair d d1) (fun p => OK p.1 ∧ OK1 p.2) (fun p => m p.1 + m1 p.2) where
  opens := by
    intro H enc W n cs xs hl h hw
    match xs, hl with
    | x :: xs, hl =>
      have h0 := h 0 f rfl
      rw [he.size, ho] at h0
      obtain ⟨a, h1, h2, h3⟩ := he.opens (x := x.1) (ps := x.2) h0 (fun q hq => hw q (by
        simp only [List.map_cons, DataW.weightsEach, List.mem_append]; exact .inl hq))
      obtain ⟨b, g1, g2, g3⟩ := hr.opens (xs := xs) (by simpa using hl) (fun i f' hf => by simpa using h (i + 1) f' (by simpa using hf)) (fun q hq => hw q (by
        simp only [List.map_cons, DataW.weightsEach, List.mem_append]; exact .inr hq))
      refine ⟨(a, b), ⟨_, _, ?_, h1, g1⟩, ⟨h2, g2⟩, by simp only [List.map_cons, Rows.uptoBulkAll]; omega⟩
      show (cs.drop off).take (d.sz + d1.sz) = _
      rw [List.take_add, List.drop_drop]

theorem opens_struct {α : Type} {P : Program} {T : TypeId} {fs : Array Field} {d : Kd α} {OK : α → Prop} {m : α → Nat} (hf : OpensF P fs.toList 0 d OK m) (hu : P.underlying T = some (.struct fs)) (hs : P.cellsOf T = d.sz) :
    Opens P T d OK (fun a => m a + 1) where
  size := hs
  opens := by
    intro H enc W fuel cs x ps h hw
    obtain ⟨xs, n, _, hx, hl, hlen, hq⟩ := DataW.trod_struct hu h
    injection hx with hx _
    subst hx
    obtain ⟨a, h1, h2, h3⟩ := hf.opens (xs := xs) (cs := cs) (by simpa using hlen) (fun i f hi => hq i f (by simpa using hi)) (fun q hq => hw q (by
      simp only [DataW.weights, hu]; exact hq))
    refine ⟨a, ?_, h2, by simp only [Rows.uptoBulk]; omega⟩
    rwa [List.drop_zero, List.take_of_length_le (by omega)] at h1

theorem opens_iso {α β : Type} {P : Program} {T : TypeId} {d : Kd α} {OK : α → Prop} {m : α → Nat} (he : Opens P T d OK m) (f : β → α) (g : α → β) (hfg : ∀ a, f (g a) = a) : Opens P T (Kd.iso d f) (fun b => OK (f b)) (fun b => m (f b)) where
  size := he.size
  opens := by
    intro H enc W fuel cs x ps h hw
    obtain ⟨a, h1, h2, h3⟩ := he.opens h hw
    exact ⟨g a, by show d.K W (f (g a)) cs; rw [hfg]; exact h1, by rw [hfg]; exact h2, by rw [hfg]; exact h3⟩

/-- A slice, as an argument's value. -/
theorem slice_arg {α H : Type} {P : Program} {T e : TypeId} {d : Kd α} {OK : List α → Prop} {m : List α → Nat} (he : Opens P T (Kd.slice e d) OK m) {enc : TypeId × Value → H} {W : World} {a : Option Addr} {len cap : Nat} {x : DataW H} {ps : List MemPlace}
    (h : DataW.Trod enc P W 0 (fun _ => true) true T (.slice a len cap) x ps) (hw : ∀ n ∈ DataW.weights P T x, n ≤ reachBytes) :
    ∃ xs, len = xs.length ∧ d.C W a xs.length xs ∧ xs.length ≤ cap ∧ OK xs ∧ m xs ≤ Rows.uptoBulk x := by
  obtain ⟨fuel, hf⟩ := h
  obtain ⟨xs, ⟨A, c, hcs, hc, hC⟩, h2, h3⟩ := he.opens hf hw
  simp [Value.cells] at hcs
  obtain ⟨rfl, rfl, rfl⟩ := hcs
  exact ⟨xs, rfl, hC, hc, h2, h3⟩

/-- A struct, as an argument's value. -/
theorem struct_arg {α H : Type} {P : Program} {T : TypeId} {d : Kd α} {OK : α → Prop} {m : α → Nat} (he : Opens P T d OK m) {enc : TypeId × Value → H} {W : World} {cs : Array Value} {x : DataW H} {ps : List MemPlace}
    (h : DataW.Trod enc P W 0 (fun _ => true) true T (.agg cs) x ps) (hw : ∀ n ∈ DataW.weights P T x, n ≤ reachBytes) :
    ∃ a, d.K W a cs.toList ∧ OK a ∧ m a ≤ Rows.uptoBulk x := by
  obtain ⟨fuel, hf⟩ := h
  exact he.opens (by simpa [Value.cells] using hf) hw

/-- What the row's reach says of one argument. -/
theorem reach_of {H : Type} {P : Program} {ts : List TypeId} {ds : List (DataW H)} (hsz : (DataW.weightsEach P ts ds).all (· ≤ reachBytes) = true) {j : Nat} {t : TypeId} {d : DataW H} (ht : ts[j]? = some t) (hd : ds[j]? = some d) : ∀ n ∈ DataW.weights P t d, n ≤ reachBytes := by
  intro n hn
  simpa using List.all_eq_true.1 hsz n (DataW.weights_mem_each ht hd n hn)

/-- What the second form's bound says of one argument. -/
theorem bulk_of {H : Type} {ds : List (DataW H)} (hk : Rows.uptoSmall H ds = true) : Rows.uptoBulkAll ds ≤ 1048576 := of_decide_eq_true hk

end Go.Proofs.YtggnnnddnppcpaaDoorOpens
/-! text YtggnnnddnppcpaaDoorTidyMath -/
namespace Go.Proofs.YtggnnnddnppcpaaDoorMath
open Go.RowKit Go.Proofs.YtggnnnddnppcpaaDoorW.PrintWords
set_option linter.unusedVariables false
set_option linter.unusedSimpArgs false

theorem idx_formed {l : Int} (h : formed l = true) : 0 ≤ idxOf l ∧ idxOf l < 2097152 ∧ ((l < 0 ∧ idxOf l = -2 * l - 1) ∨ (0 < l ∧ idxOf l = 2 * l - 2)) := by
  have hb := formed_iff.1 h
  unfold idxOf
  rw [if_pos h]
  split <;> omega
theorem idx_none {l : Int} (h : formed l = false) : idxOf l = -1 := by
  unfold idxOf
  rw [h]
  rfl
theorem idx_bound (l : Int) : -1 ≤ idxOf l ∧ idxOf l < 2097152 := by
  cases h : formed l with
  | true => have := idx_formed h; omega
  | false => rw [idx_none h]; omega
theorem idx_inj {a b : Int} (ha : formed a = true) (hb : formed b = true) (h : idxOf a = idxOf b) : a = b := by
  have h1 := idx_formed ha
  have h2 := idx_formed hb
  omega
theorem idx_neg {a b : Int} (ha : formed a = true) (hb : formed b = true) : a = -b ↔ (idxOf a / 2 = idxOf b / 2 ∧ idxOf a ≠ idxOf b) := by
  have h1 := idx_formed ha
  have h2 := idx_formed hb
  omega

/-- rising by place -/
def Rising (t : List Int) : Prop := t.Pairwise fun a b => idxOf a < idxOf b
def ins (x : Int) : List Int → List Int
  | [] => [x]
  | y :: t => if idxOf x < idxOf y then x :: y :: t else if x = y then y :: t else y :: ins x t
def tidyOf : List Int → List Int
  | [] => []
  | x :: c => if formed x = true then ins x (tidyOf c) else tidyOf c

theorem mem_ins (x y : Int) (t : List Int) : y ∈ ins x t ↔ y = x ∨ y ∈ t := by
  induction t with
  | nil => simp [ins]
  | cons z t ih =>
    simp only [ins]
    split
    · simp
    · split
      · rename_i h
        subst h
        simp
      · simp only [List.mem_cons, ih]
        constructor
        · rintro (h | h | h) <;> simp [h]
        · rintro (h | h | h) <;> simp [h]
theorem mem_tidyOf (y : Int) (c : List Int) : y ∈ tidyOf c ↔ y ∈ c ∧ formed y = true := by
  induction c with
  | nil => simp [tidyOf]
  | cons x c ih =>
    simp only [tidyOf]
    by_cases hx : formed x = true
    · rw [if_pos hx, mem_ins, ih, List.mem_cons]
      constructor
      · rintro (rfl | ⟨h1, h2⟩)
        · exact ⟨.inl rfl, hx⟩
        · exact ⟨.inr h1, h2⟩
      · rintro ⟨rfl | h1, h2⟩
        · exact .inl rfl
        · exact .inr ⟨h1, h2⟩
    · rw [if_neg hx, ih, List.mem_cons]
      constructor
      · rintro ⟨h1, h2⟩
        exact ⟨.inr h1, h2⟩
      · rintro ⟨rfl | h1, h2⟩
        · exact absurd h2 hx
        · exact ⟨h1, h2⟩
theorem tidyOf_formed {c : List Int} {y : Int} (h : y ∈ tidyOf c) : formed y = true := ((mem_tidyOf y c).1 h).2
theorem rising_ins {x : Int} (hx : formed x = true) : ∀ {t : List Int}, (∀ y ∈ t, formed y = true) → Rising t → Rising (ins x t)
  | [], _, _ => by simp [ins, Rising]
  | y :: t, hf, hr => by
    have hr' := List.pairwise_cons.1 hr
    simp only [ins]
    split
    · rename_i h
      refine List.pairwise_cons.2 ⟨?_, hr⟩
      intro z hz
      rcases List.mem_cons.1 hz with rfl | hz
      · exact h
      · have := hr'.1 z hz
        omega
    · split
      · exact hr
      · rename_i h1 h2
        refine List.pairwise_cons.2 ⟨?_, rising_ins hx (fun z hz => hf z (List.mem_cons_of_mem _ hz)) hr'.2⟩
        intro z hz
        rcases (mem_ins x z t).1 hz with rfl | hz
        · have h3 : idxOf z ≠ idxOf y := fun e => h2 (idx_inj hx (hf y List.mem_cons_self) e)
          omega
        · exact hr'.1 z hz
theorem rising_tidyOf (c : List Int) : Rising (tidyOf c) := by
  induction c with
  | nil => simp [tidyOf, Rising]
  | cons x c ih =>
    simp only [tidyOf]
    by_cases hx : formed x = true
    · rw [if_pos hx]
      exact rising_ins hx (fun y hy => tidyOf_formed hy) ih
    · rw [if_neg hx]
      exact ih
/-- Rising lists that hold the same are one. -/
theorem rising_ext : ∀ {s t : List Int}, Rising s → Rising t → (∀ x, x ∈ s ↔ x ∈ t) → s = t
  | [], [], _, _, _ => rfl
  | [], y :: t, _, _, h => absurd ((h y).2 List.mem_cons_self) (by simp)
  | x :: s, [], _, _, h => absurd ((h x).1 List.mem_cons_self) (by simp)
  | x :: s, y :: t, hs, ht, h => by
    have hs' := List.pairwise_cons.1 hs
    have ht' := List.pairwise_cons.1 ht
    have e : x = y := by
      rcases List.mem_cons.1 ((h x).1 List.mem_cons_self) with e | hx
      · exact e
      · rcases List.mem_cons.1 ((h y).2 List.mem_cons_self) with e | hy
        · exact e.symm
        · have h1 := hs'.1 y hy
          have h2 := ht'.1 x hx
          omega
    subst e
    congr 1
    refine rising_ext hs'.2 ht'.2 fun z => ?_
    constructor
    · intro hz
      rcases List.mem_cons.1 ((h z).1 (List.mem_cons_of_mem _ hz)) with rfl | hz'
      · have := hs'.1 z hz
        omega
      · exact hz'
    · intro hz
      rcases List.mem_cons.1 ((h z).2 (List.mem_cons_of_mem _ hz)) with rfl | hz'
      · have := ht'.1 z hz
        omega
      · exact hz'
theorem tidyOf_eq {c t : List Int} (hr : Rising t) (hm : ∀ x, x ∈ t ↔ x ∈ c ∧ formed x = true) : tidyOf c = t :=
  rising_ext (rising_tidyOf c) hr fun x => by rw [mem_tidyOf, hm]
theorem rising_nodup {t : List Int} (h : Rising t) : t.Nodup := by
  refine List.Pairwise.imp ?_ h
  intro a b h e
  subst e
  omega
theorem ins_length (x : Int) (t : List Int) : (ins x t).length ≤ t.length + 1 := by
  induction t with
  | nil => simp [ins]
  | cons y t ih =>
    simp only [ins]
    split
    · simp
    · split
      · simp
      · simp only [List.length_cons]; omega
theorem tidyOf_length (c : List Int) : (tidyOf c).length ≤ c.length := by
  induction c with
  | nil => simp [tidyOf]
  | cons x c ih =>
    simp only [tidyOf]
    have := ins_length x (tidyOf c)
    split <;> simp only [List.length_cons] <;> omega

/-! what a sort by place and slices.Compact leave -/
def byIdx (a b : Int) : Int := idxOf a - idxOf b
theorem compact_tidy (c : List Int) (d : Array Int) (hp : d.toList.Perm (c.filter formed)) (hs : ∀ i j, i < j → j < d.size → idxOf d[i]! ≤ idxOf d[j]!) : Go.Lib.compact d.toList = tidyOf c := by
  have hf : ∀ i, i < d.size → formed d[i]! = true := fun i hi => by
    have h1 : d[i]! ∈ d.toList := by
      rw [getElem!_pos d i hi]
      exact Array.getElem_mem_toList hi
    have := hp.subset h1
    exact (List.mem_filter.1 this).2
  have key : ∀ m, m ≤ d.size → Rising (Go.Lib.compactUpTo d m) ∧ (∀ x, x ∈ Go.Lib.compactUpTo d m ↔ ∃ i, i < m ∧ d[i]! = x) := by
    intro m
    induction m with
    | zero =>
      intro _
      exact ⟨by simp [Go.Lib.compactUpTo, Rising], by simp [Go.Lib.compactUpTo]⟩
    | succ m ih =>
      intro hm
      obtain ⟨h1, h2⟩ := ih (by omega)
      rw [Go.Lib.compactUpTo_succ]
      cases hk : Go.Lib.keeps d m with
      | true =>
        simp only [if_true]
        refine ⟨List.pairwise_append.2 ⟨h1, by simp, ?_⟩, ?_⟩
        · intro a ha b hb
          rw [List.mem_singleton] at hb
          subst hb
          obtain ⟨i, hi, rfl⟩ := (h2 a).1 ha
          have h3 := hs i m hi (by omega)
          have h4 : idxOf d[i]! ≠ idxOf d[m]! := by
            intro e
            have hne : m ≠ 0 := by omega
            have h5 : d[m]! ≠ d[m - 1]! := by simpa [Go.Lib.keeps, hne] using hk
            apply h5
            have h6 : idxOf d[i]! ≤ idxOf d[m - 1]! := by
              rcases Nat.lt_or_ge i (m - 1) with h | h
              · exact hs i (m - 1) h (by omega)
              · rw [show i = m - 1 by omega]
                exact Int.le_refl _
            have h7 := hs (m - 1) m (by omega) (by omega)
            exact idx_inj (hf m (by omega)) (hf (m - 1) (by omega)) (by omega)
          omega
        · intro x
          rw [List.mem_append, h2, List.mem_singleton]
          constructor
          · rintro (⟨i, hi, rfl⟩ | rfl)
            · exact ⟨i, by omega, rfl⟩
            · exact ⟨m, by omega, rfl⟩
          · rintro ⟨i, hi, rfl⟩
            rcases Nat.lt_or_ge i m with h | h
            · exact .inl ⟨i, h, rfl⟩
            · rw [show i = m by omega]
              exact .inr rfl
      | false =>
        simp only [Bool.false_eq_true, if_false, List.append_nil]
        refine ⟨h1, ?_⟩
        intro x
        rw [h2]
        constructor
        · rintro ⟨i, hi, rfl⟩
          exact ⟨i, by omega, rfl⟩
        · rintro ⟨i, hi, rfl⟩
          rcases Nat.lt_or_ge i m with h | h
          · exact ⟨i, h, rfl⟩
          · obtain rfl : i = m := by omega
            have hne : i ≠ 0 := by
              rintro rfl
              simp [Go.Lib.keeps] at hk
            have h5 : d[i]! = d[i - 1]! := by simpa [Go.Lib.keeps, hne] using hk
            exact ⟨i - 1, by omega, h5.symm⟩
  obtain ⟨h1, h2⟩ := key d.size (Nat.le_refl _)
  have e : Go.Lib.compact d.toList = Go.Lib.compactUpTo d d.size := by simp [Go.Lib.compact]
  rw [e]
  symm
  refine tidyOf_eq h1 fun x => ?_
  rw [h2]
  have h3 : (x ∈ d.toList) ↔ (x ∈ c ∧ formed x = true) := by rw [hp.mem_iff, List.mem_filter]
  rw [← h3]
  constructor
  · rintro ⟨i, hi, rfl⟩
    rw [getElem!_pos d i hi]
    exact Array.getElem_mem_toList hi
  · intro hx
    obtain ⟨i, hi, rfl⟩ := List.getElem_of_mem hx
    have hi' : i < d.size := by simpa using hi
    refine ⟨i, hi', ?_⟩
    rw [getElem!_pos d i hi']
    simp

end Go.Proofs.YtggnnnddnppcpaaDoorMath
