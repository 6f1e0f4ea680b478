/- How an argument's reading hands over a value of a kind, kind by kind: its cells, its numbers' bounds, its size. -/
import Derived.Test.YtamefocngapkpaaRows
import Derived.Test.YtamefocngapkpaaWWords
import Derived.Deep.Slices
import Derived.SizedLaws
import Derived.ChangeSame
import Derived.ProofKit
import Derived.OpenShut
import Derived.Test.YtamefocngapkpaaClLitsMeetsi
import Derived.Test.YtamefocngapkpaaClLitsMeetse
import Derived.Test.YtamefocngapkpaaClLitsMeetsf
/-! text YtamefocngapkpaaOpens -/
namespace Go.Proofs.YtamefocngapkpaaOpens
open Go.RowKit Go.ChangeShapes Go.WideShapes Go.Proofs.YtamefocngapkpaaW.PrintWords Go.Proofs.Ytamefocngapkpaa
set_option linter.unusedVariables false

structure Opens {α : Type} (P : Program) (T : TypeId) (d : Kd α) (OK : α → Prop) (m : α → Nat) : Prop where
  size : P.cellsOf T = d.sz
  opens : ∀ {H : Type} {enc : TypeId × Value → H} {W : World} {fuel : Nat} {cs : List Value} {x : DataW H} {ps : List MemPlace},
    DataW.trod enc P W 0 (fun _ => true) true fuel T cs = some (x, ps) → (∀ n ∈ DataW.weights P T x, n ≤ reachBytes) → ∃ a, d.K W a cs ∧ OK a ∧ m a ≤ Rows.uptoBulk x

theorem opens_int {P : Program} {T : TypeId} {k : IntKind} (hu : P.underlying T = some (.int k)) (hs : P.cellsOf T = 1) : Opens P T (Kd.int k) (fun x => (Lit.int k x).wf = true) (fun _ => 1) where
  size := hs
  opens := by
    intro H enc W fuel cs x ps h _
    obtain ⟨n, rfl, hx, hw⟩ := DataW.trod_int hu h
    injection hx with hx _
    subst hx
    exact ⟨n, rfl, hw, by simp [Rows.uptoBulk]⟩

theorem opens_bool {P : Program} {T : TypeId} (hu : P.underlying T = some .bool) (hs : P.cellsOf T = 1) : Opens P T Kd.bool (fun _ => True) (fun _ => 1) where
  size := hs
  opens := by
    intro H enc W fuel cs x ps h _
    obtain ⟨n, rfl, hx⟩ := DataW.trod_bool hu h
    injection hx with hx _
    subst hx
    exact ⟨n, rfl, trivial, by simp [Rows.uptoBulk]⟩

def sumOf {α : Type} (m : α → Nat) : List α → Nat
  | [] => 0
  | x :: r => m x + sumOf m r

theorem opens_rows {α H : Type} {P : Program} {e : TypeId} {d : Kd α} {OK : α → Prop} {m : α → Nat} (he : Opens P e d OK m) {enc : TypeId × Value → H} {W : World} {n : Nat} {a : Addr} :
    ∀ (l : List (DataW H)) (o : Nat), (∀ i x, l[i]? = some x → ∃ cs' ps, W.cells? 0 (a.add ((o + i) * P.cellsOf e)) (P.cellsOf e) = some cs' ∧ DataW.trod enc P W 0 (fun _ => true) true n e cs' = some (x, ps)) →
    (∀ q ∈ DataW.weightsAll P e l, q ≤ reachBytes) →
    ∃ xs : List α, xs.length = l.length ∧ (∀ x ∈ xs, OK x) ∧ sumOf m xs ≤ Rows.uptoBulkAll l ∧
      ∀ j p, xs[j]? = some p → ∃ c, c.length = d.sz ∧ d.K W p c ∧ W.cells? 0 (a.add ((o + j) * P.cellsOf e)) (P.cellsOf e) = some c
  | [], o, _, _ => ⟨[], rfl, by simp, by simp [sumOf], by simp⟩
  | x :: l, o, hx, hw => by
    obtain ⟨cs', ps, h1, h2⟩ := hx 0 x rfl
    obtain ⟨p, hK, hok, hm⟩ := he.opens h2 (fun q hq => hw q (by simp only [DataW.weightsAll, List.mem_append]; exact .inl hq))
    obtain ⟨xs, e1, e2, e3, e4⟩ := opens_rows he l (o + 1) (fun i y hy => by
      have := hx (i + 1) y (by simpa using hy)
      rwa [show o + (i + 1) = o + 1 + i by omega] at this) (fun q hq => hw q (by simp only [DataW.weightsAll, List.mem_append]; exact .inr hq))
    refine ⟨p :: xs, by simp [e1], ?_, ?_, ?_⟩
    · intro y hy
      rcases List.mem_cons.1 hy with rfl | hy
      · exact hok
      · exact e2 y hy
    · simp only [sumOf, Rows.uptoBulkAll]
      omega
    · intro j q hj
      cases j with
      | zero =>
        simp at hj
        subst hj
        exact ⟨cs', d.K_len hK, hK, h1⟩
      | succ j =>
        obtain ⟨c, c1, c2, c3⟩ := e4 j q (by simpa using hj)
        exact ⟨c, c1, c2, by rwa [show o + (j + 1) = o + 1 + j by omega]⟩

theorem bulk_pos {H : Type} (d : DataW H) : 1 ≤ Rows.uptoBulk d := by
  cases d with
  | lit l => cases l <;> simp [Rows.uptoBulk]
  | nil => simp [Rows.uptoBulk]
  | ptr d => simp [Rows.uptoBulk]
  | slice elems spare => simp [Rows.uptoBulk]
  | agg parts => simp [Rows.uptoBulk]
  | iface t d => simp [Rows.uptoBulk]
  | map entries => simp [Rows.uptoBulk]
  | held h => simp [Rows.uptoBulk]

theorem bulkAll_append {H : Type} (l r : List (DataW H)) : Rows.uptoBulkAll (l ++ r) = Rows.uptoBulkAll l + Rows.uptoBulkAll r := by
  induction l with
  | nil => simp [Rows.uptoBulkAll]
  | cons x l ih => simp only [List.cons_append, Rows.uptoBulkAll, ih]; omega

theorem bulk_length {H : Type} (l : List (DataW H)) : l.length ≤ Rows.uptoBulkAll l := by
  induction l with
  | nil => simp [Rows.uptoBulkAll]
  | cons x r ih => have := bulk_pos x; simp only [Rows.uptoBulkAll, List.length_cons]; omega

theorem opens_slice {α : Type} {P : Program} {T e : TypeId} {d : Kd α} {OK : α → Prop} {m : α → Nat} {B : Nat} (he : Opens P e d OK m) (hu : P.underlying T = some (.slice e)) (hs : P.cellsOf T = 1) (hB : P.bytesOf e = B) :
    Opens P T (Kd.slice e d) (fun xs => xs.length * B ≤ 140737488351232 ∧ ∀ x ∈ xs, OK x) (fun xs => sumOf m xs + 1) where
  size := hs
  opens := by
    intro H enc W fuel cs x ps h hw
    rcases DataW.trod_slice hu h with ⟨rfl, hx⟩ | ⟨a, len, cap, elems, rest, n, _, rfl, hx, hb, hl, hm, hlen, hel, hsp, _⟩
    · injection hx with hx _
      subst hx
      refine ⟨[], ⟨none, 0, rfl, Nat.le_refl _, rfl, by simp, fun hp => absurd hp (by simp)⟩, ⟨by simp, by simp⟩, ?_⟩
      simp [sumOf, Rows.uptoBulk]
    · injection hx with hx _
      subst hx
      have hw1 : (elems.length + rest.length) * B ≤ reachBytes := by
        have := hw ((elems.length + rest.length) * B) (by simp [DataW.weights, hu, hB])
        exact this
      obtain ⟨xs, e1, e2, e3, e4⟩ := opens_rows he (enc := enc) (W := W) (n := n) (a := a) (elems.map (·.1)) 0 (by
        intro i y hy
        rw [List.getElem?_map] at hy
        obtain ⟨z, hz, rfl⟩ := Option.map_eq_some_iff.1 hy
        have hi : i < len := by
          rcases Nat.lt_or_ge i elems.length with h | h
          · omega
          · rw [List.getElem?_eq_none h] at hz; cases hz
        have hq := hel i hi
        rw [hz] at hq
        obtain ⟨cs', h1, h2⟩ := Option.bind_eq_some_iff.1 hq
        exact ⟨cs', z.2, by rwa [Nat.zero_add], h2⟩) (fun q hq => hw q (by
          simp only [DataW.weights, hu, List.mem_cons, List.mem_append]
          exact .inr (.inl hq)))
      have e1' : xs.length = len := by rw [e1, List.length_map, hlen]
      have hmx : len ≤ 9223372036854775807 := by simp only [maxLen] at hm; omega
      refine ⟨xs, ⟨some a, cap, by rw [e1'], by omega, ⟨rfl, by omega, fun _ => ⟨a, rfl, ?_⟩⟩⟩, ⟨?_, e2⟩, ?_⟩
      · intro j p hj
        obtain ⟨c, c1, c2, c3⟩ := e4 j p hj
        rw [Nat.zero_add] at c3
        refine ⟨c, c1, c2, fun i u hu' => ?_⟩
        obtain ⟨_, hlen2, hcell⟩ := World.cells?_some c3
        have hi : i < c.length := by
          rcases Nat.lt_or_ge i c.length with h | h
          · exact h
          · rw [List.getElem?_eq_none h] at hu'; cases hu'
        have hq := hcell i (by omega)
        rw [hu'] at hq
        rw [← hq, he.size]
        congr 1
        unfold Addr.add
        by_cases g1 : j * d.sz = 0 <;> by_cases g2 : i = 0 <;> simp [g1, g2, Nat.add_assoc]
      · have : reachBytes = 140737488351232 := rfl
        have h3 : xs.length * B ≤ (elems.length + rest.length) * B := Nat.mul_le_mul_right _ (by omega)
        omega
      · simp only [Rows.uptoBulk]
        omega

/-- Some fields of a struct, from an offset on. -/
structure OpensF {α : Type} (P : Program) (fs : List Field) (off : Nat) (d : Kd α) (OK : α → Prop) (m : α → Nat) : Prop where
  opens : ∀ {H : Type} {enc : TypeId × Value → H} {W : World} {n : Nat} {cs : List Value} {xs : List (DataW H × List MemPlace)}, xs.length = fs.length →
    (∀ (i : Nat) (f : Field), fs[i]? = some f → DataW.trod enc P W 0 (fun _ => true) true n f.type ((cs.drop f.offset).take (P.cellsOf f.type)) = xs[i]?) →
    (∀ q ∈ DataW.weightsEach P (fs.map (·.type)) (xs.map (·.1)), q ≤ reachBytes) → ∃ a, d.K W a ((cs.drop off).take d.sz) ∧ OK a ∧ m a ≤ Rows.uptoBulkAll (xs.map (·.1))

theorem opensF_last {α : Type} {P : Program} {f : Field} {off : Nat} {d : Kd α} {OK : α → Prop} {m : α → Nat} (he : Opens P f.type d OK m) (ho : f.offset = off) : OpensF P [f] off d OK m where
  opens := by
    intro H enc W n cs xs hl h hw
    match xs, hl with
    | [x], _ =>
      have h0 := h 0 f rfl
      rw [he.size, ho] at h0
      obtain ⟨a, h1, h2, h3⟩ := he.opens (x := x.1) (ps := x.2) h0 (fun q hq => hw q (by simpa [DataW.weightsEach] using hq))
      exact ⟨a, h1, h2, by simpa [Rows.uptoBulkAll] using h3⟩

theorem opensF_cons {α β : Type} {P : Program} {f : Field} {fs : List Field} {off : Nat} {d : Kd α} {d1 : Kd β} {OK : α → Prop} {OK1 : β → Prop} {m : α → Nat} {m1 : β → Nat}
    (he : Opens P f.type d OK m) (ho : f.offset = off) (hr : OpensF P fs (off + d.sz) d1 OK1 m1) : OpensF P (f :: fs) off (Kd.pair d d1) (fun p => OK p.1 ∧ OK1 p.2) (fun p => m p.1 + m1 p.2) where
  opens := by
    intro H enc W n cs xs hl h hw
    match xs, hl with
    | x :: xs, hl =>
      have h0 := h 0 f rfl
      rw [he.size, ho] at h0
      obtain ⟨a, h1, h2, h3⟩ := he.opens (x := x.1) (ps := x.2) h0 (fun q hq => hw q (by
        simp only [List.map_cons, DataW.weightsEach, List.mem_append]; exact .inl hq))
      obtain ⟨b, g1, g2, g3⟩ := hr.opens (xs := xs) (by simpa using hl) (fun i f' hf => by simpa using h (i + 1) f' (by simpa using hf)) (fun q hq => hw q (by
        simp only [List.map_cons, DataW.weightsEach, List.mem_append]; exact .inr hq))
      refine ⟨(a, b), ⟨_, _, ?_, h1, g1⟩, ⟨h2, g2⟩, by simp only [List.map_cons, Rows.uptoBulkAll]; omega⟩
      show (cs.drop off).take (d.sz + d1.sz) = _
      rw [List.take_add, List.drop_drop]

theorem opens_struct {α : Type} {P : Program} {T : TypeId} {fs : Array Field} {d : Kd α} {OK : α → Prop} {m : α → Nat} (hf : OpensF P fs.toList 0 d OK m) (hu : P.underlying T = some (.struct fs)) (hs : P.cellsOf T = d.sz) :
    Opens P T d OK (fun a => m a + 1) where
  size := hs
  opens := by
    intro H enc W fuel cs x ps h hw
    obtain ⟨xs, n, _, hx, hl, hlen, hq⟩ := DataW.trod_struct hu h
    injection hx with hx _
    subst hx
    obtain ⟨a, h1, h2, h3⟩ := hf.opens (xs := xs) (cs := cs) (by simpa using hlen) (fun i f hi => hq i f (by simpa using hi)) (fun q hq => hw q (by
      simp only [DataW.weights, hu]; exact hq))
    refine ⟨a, ?_, h2, by simp only [Rows.uptoBulk]; omega⟩
    rwa [List.drop_zero, List.take_of_length_le (by omega)] at h1

theorem opens_iso {α β : Type} {P : Program} {T : TypeId} {d : Kd α} {OK : α → Prop} {m : α → Nat} (he : Opens P T d OK m) (f : β → α) (g : α → β) (hfg : ∀ a, f (g a) = a) : Opens P T (Kd.iso d f) (fun b => OK (f b)) (fun b => m (f b)) where
  size := he.size
  opens := by
    intro H enc W fuel cs x ps h hw
    obtain ⟨a, h1, h2, h3⟩ := he.opens h hw
    exact ⟨g a, by show d.K W (f (g a)) cs; rw [hfg]; exact h1, by rw [hfg]; exact h2, by rw [hfg]; exact h3⟩

/-- A slice, as an argument's value. -/
theorem slice_arg {α H : Type} {P : Program} {T e : TypeId} {d : Kd α} {OK : List α → Prop} {m : List α → Nat} (he : Opens P T (Kd.slice e d) OK m) {enc : TypeId × Value → H} {W : World} {a : Option Addr} {len cap : Nat} {x : DataW H} {ps : List MemPlace}
    (h : DataW.Trod enc P W 0 (fun _ => true) true T (.slice a len cap) x ps) (hw : ∀ n ∈ DataW.weights P T x, n ≤ reachBytes) :
    ∃ xs, len = xs.length ∧ d.C W a xs.length xs ∧ xs.length ≤ cap ∧ OK xs ∧ m xs ≤ Rows.uptoBulk x := by
  obtain ⟨fuel, hf⟩ := h
  obtain ⟨xs, ⟨A, c, hcs, hc, hC⟩, h2, h3⟩ := he.opens hf hw
  simp [Value.cells] at hcs
  obtain ⟨rfl, rfl, rfl⟩ := hcs
  exact ⟨xs, rfl, hC, hc, h2, h3⟩

/-- A struct, as an argument's value. -/
theorem struct_arg {α H : Type} {P : Program} {T : TypeId} {d : Kd α} {OK : α → Prop} {m : α → Nat} (he : Opens P T d OK m) {enc : TypeId × Value → H} {W : World} {cs : Array Value} {x : DataW H} {ps : List MemPlace}
    (h : DataW.Trod enc P W 0 (fun _ => true) true T (.agg cs) x ps) (hw : ∀ n ∈ DataW.weights P T x, n ≤ reachBytes) :
    ∃ a, d.K W a cs.toList ∧ OK a ∧ m a ≤ Rows.uptoBulk x := by
  obtain ⟨fuel, hf⟩ := h
  exact he.opens (by simpa [Value.cells] using hf) hw

/-- What the row's reach says of one argument. -/
theorem reach_of {H : Type} {P : Program} {ts : List TypeId} {ds : List (DataW H)} (hsz : (DataW.weightsEach P ts ds).all (· ≤ reachBytes) = true) {j : Nat} {t : TypeId} {d : DataW H} (ht : ts[j]? = some t) (hd : ds[j]? = some d) : ∀ n ∈ DataW.weights P t d, n ≤ reachBytes := by
  intro n hn
  simpa using List.all_eq_true.1 hsz n (DataW.weights_mem_each ht hd n hn)

/-- What the second form's bound says of one argument. -/
theorem bulk_of {H : Type} {ds : List (DataW H)} (hk : Rows.uptoSmall H ds = true) : Rows.uptoBulkAll ds ≤ 1048576 := of_decide_eq_true hk

end Go.Proofs.YtamefocngapkpaaOpens
/-! text YtamefocngapkpaaMeetsLib -/
namespace Go.Proofs.Ytamefocngapkpaa.PLitsMeets
open Go.RowKit Go.Proofs.YtamefocngapkpaaW.PrintWords Go.Proofs.YtamefocngapkpaaW.PrintLast Go.Proofs.YtamefocngapkpaaMath
set_option linter.unusedVariables false
set_option linter.unusedSimpArgs false
theorem depotref01_Formed_eq (l : Int) : depotref01_Formed.f l = some (formed l) := by
  unfold depotref01_Formed.f formed
  by_cases h1 : l ≥ 1
  · by_cases h2 : l ≤ 1048576
    · rw [if_pos h1, if_pos h2]; congr 1; symm; simp; omega
    · rw [if_pos h1, if_neg h2, if_pos (by omega)]; congr 1; rw [Bool.eq_iff_iff]; simp; omega
  · by_cases h2 : l ≥ -1048576
    · rw [if_neg h1, if_pos h2]; congr 1; rw [Bool.eq_iff_iff]; simp; omega
    · rw [if_neg h1, if_neg h2]; congr 1; symm; simp; omega
theorem depotref01_Var_eq (l : Int) : depotref01_Var.f l = some (varOf l) := by
  unfold depotref01_Var.f varOf
  rw [depotref01_Formed_eq]
  simp only [Option.bind_some]
  by_cases h : formed l = true
  · have := formed_bd h
    rw [if_pos h, if_pos h, w64 (by omega) (by omega)]
    split <;> rfl
  · rw [if_neg h, if_neg h]
theorem depotref01_Sound_l0 (l : List Int) (hn : l.length ≤ 17592186044416) (d : Nat) : ∀ i : Nat, i + d = l.length → Ev (fun k => depotref01_Sound.l0 k l (i : Int)) (sound (l.drop i)) := by
  induction d with
  | zero =>
    intro i hi
    refine Ev.succ ?_
    simp only [depotref01_Sound.l0]
    have h1 : ¬ ((i : Int) < (l.length : Int)) := by omega
    simp only [h1, if_false]
    rw [List.drop_of_length_le (by omega)]
    exact Ev.now _
  | succ d ih =>
    intro i hi
    refine Ev.succ ?_
    simp only [depotref01_Sound.l0, depotref01_Formed_eq, Option.bind_some]
    have h1 : (i : Int) < (l.length : Int) := by omega
    have h0 : (0 : Int) ≤ (i : Int) := by omega
    simp only [h1, h0, if_true]
    rw [drop_rd (show i < l.length by omega)]
    by_cases hf : formed (rd l i) = true
    · simp only [hf, if_true, w64s (show (i : Int) < 9223372036854775807 by omega), sound, List.all_cons, Bool.true_and]
      exact ih (i + 1) (by omega)
    · simp only [Bool.not_eq_true] at hf
      simp only [hf, Bool.false_eq_true, if_false, sound, List.all_cons, Bool.false_and]
      exact Ev.now _
theorem depotref01_Sound_ev (l : List Int) (hn : l.length ≤ 17592186044416) : Ev (fun k => depotref01_Sound.f k l) (sound l) := depotref01_Sound_l0 l hn l.length 0 (by omega)
theorem depotref01_Has_l0 (l : List Int) (x : Int) (hn : l.length ≤ 17592186044416) (d : Nat) : ∀ i : Nat, i + d = l.length → Ev (fun k => depotref01_Has.l0 k l x (i : Int)) ((l.drop i).contains x) := by
  induction d with
  | zero =>
    intro i hi
    refine Ev.succ ?_
    simp only [depotref01_Has.l0]
    have h1 : ¬ ((i : Int) < (l.length : Int)) := by omega
    simp only [h1, if_false]
    rw [List.drop_of_length_le (by omega)]
    exact Ev.now _
  | succ d ih =>
    intro i hi
    refine Ev.succ ?_
    simp only [depotref01_Has.l0]
    have h1 : (i : Int) < (l.length : Int) := by omega
    have h0 : (0 : Int) ≤ (i : Int) := by omega
    simp only [h1, h0, if_true]
    rw [drop_rd (show i < l.length by omega), List.contains_cons]
    by_cases hx : rd l i = x
    · simp only [hx, if_true, beq_self_eq_true, Bool.true_or]
      exact Ev.now _
    · have hx2 : (x == rd l i) = false := by simp; omega
      simp only [hx, if_false, hx2, Bool.false_or, w64s (show (i : Int) < 9223372036854775807 by omega)]
      exact ih (i + 1) (by omega)
theorem depotref01_Has_ev (l : List Int) (x : Int) (hn : l.length ≤ 17592186044416) : Ev (fun k => depotref01_Has.f k l x) (has l x) := by
  unfold depotref01_Has.f has
  simp only [depotref01_Formed_eq, Option.bind_some]
  by_cases hf : formed x = true
  · simp only [hf, if_true, Bool.true_and]
    exact depotref01_Has_l0 l x hn l.length 0 (by omega)
  · simp only [Bool.not_eq_true] at hf
    simp only [hf, Bool.false_eq_true, if_false, Bool.false_and]
    exact Ev.now _
theorem depotref01_Index_eq (l : Int) : depotref01_Index.f l = some (idxOf l) := by
  unfold depotref01_Index.f idxOf
  rw [depotref01_Formed_eq]
  simp only [Option.bind_some]
  by_cases h : formed l = true
  · have := formed_bd h
    have e1 : wrap64 (wrap64 (-2 * l) - 1) = -2 * l - 1 := by unfold wrap64; omega
    have e2 : wrap64 (wrap64 (2 * l) - 2) = 2 * l - 2 := by unfold wrap64; omega
    rw [if_pos h, if_pos h, e1, e2]
    split <;> rfl
  · rw [if_neg h, if_neg h]
theorem depotlaw01_copied_eq {l : List Int} (hn : l.length < 17592186044416) : depotlaw01_copied.f l = some l := by
  unfold depotlaw01_copied.f; rw [if_pos (by simpa using hn)]; rfl
theorem depotref01_Equal_l0 (a b : List Int) (hn : a.length ≤ 17592186044416) (he : a.length = b.length) (d : Nat) : ∀ i : Nat, i + d = a.length → Ev (fun k => depotref01_Equal.l0 k a b (i : Int)) (a.drop i == b.drop i) := by
  induction d with
  | zero =>
    intro i hi
    refine Ev.succ ?_
    simp only [depotref01_Equal.l0]
    have h1 : ¬ ((i : Int) < (a.length : Int)) := by omega
    simp only [h1, if_false]
    rw [List.drop_of_length_le (by omega), List.drop_of_length_le (by omega)]
    exact Ev.now _
  | succ d ih =>
    intro i hi
    refine Ev.succ ?_
    simp only [depotref01_Equal.l0]
    have h1 : (i : Int) < (a.length : Int) := by omega
    have h2 : (i : Int) < (b.length : Int) := by omega
    have h0 : (0 : Int) ≤ (i : Int) := by omega
    simp only [h1, h2, h0, if_true]
    rw [drop_rd (show i < a.length by omega), drop_rd (show i < b.length by omega)]
    by_cases hf : rd a i = rd b i
    · simp only [hf, if_true, w64s (show (i : Int) < 9223372036854775807 by omega), List.cons_beq_cons, beq_self_eq_true, Bool.true_and]
      exact ih (i + 1) (by omega)
    · have : (rd a i == rd b i) = false := by simpa using hf
      simp only [hf, if_false, List.cons_beq_cons, this, Bool.false_and]
      exact Ev.now _
theorem depotref01_Equal_ev (a b : List Int) (hn : a.length ≤ 17592186044416) : Ev (fun k => depotref01_Equal.f k a b) (a == b) := by
  unfold depotref01_Equal.f
  by_cases he : a.length = b.length
  · have : (a.length : Int) = (b.length : Int) := by omega
    simp only [this, if_true]
    exact depotref01_Equal_l0 a b hn he a.length 0 (by omega)
  · have : ¬ (a.length : Int) = (b.length : Int) := by omega
    simp only [this, if_false]
    have e : (a == b) = false := by
      simp only [beq_eq_false_iff_ne, ne_eq]
      rintro rfl; exact he rfl
    rw [e]
    exact Ev.now _
theorem depotref01_merged_l0 (a b : List Int) (hn : a.length + b.length ≤ 17592186044416) (n : Nat) : ∀ (i j : Nat) (o : List Int), i ≤ a.length → j ≤ b.length → a.length - i + (b.length - j) ≤ n → o.length + (a.length - i + (b.length - j)) ≤ 17592186044416 →
    Ev (fun k => depotref01_merged.l0 k a b o (i : Int) (j : Int)) (o ++ mg (a.drop i) (b.drop j)) := by
  induction n with
  | zero =>
    intro i j o hi hj hd ho
    refine Ev.succ ?_
    simp only [depotref01_merged.l0]
    have h1 : ¬ ((i : Int) < (a.length : Int)) := by omega
    have h2 : ¬ ((j : Int) < (b.length : Int)) := by omega
    simp only [h1, if_false, decide_eq_false h2]
    refine Ev.succ ?_
    simp only [depotref01_merged.j1, Bool.false_eq_true, if_false]
    rw [List.drop_of_length_le (by omega), List.drop_of_length_le (by omega), mg_nil, List.append_nil]
    exact Ev.now _
  | succ n ih =>
    intro i j o hi hj hd ho
    have h0i : (0 : Int) ≤ (i : Int) := by omega
    have h0j : (0 : Int) ≤ (j : Int) := by omega
    refine Ev.succ ?_
    simp only [depotref01_merged.l0]
    by_cases h1 : i < a.length
    · have h1' : (i : Int) < (a.length : Int) := by omega
      have hii : ¬ (i : Int) = (a.length : Int) := by omega
      simp only [h1', if_true]
      refine Ev.succ ?_
      simp only [depotref01_merged.j1, if_true]
      have hol : o.length < 17592186044416 := by omega
      by_cases h2 : j < b.length
      · have h2' : (j : Int) < (b.length : Int) := by omega
        have hjj : ¬ (j : Int) = (b.length : Int) := by omega
        simp only [hjj, if_false, h1', if_true, h0i, h0j, h2', depotref01_Index_eq, Option.bind_some]
        rw [drop_rd h1, drop_rd h2]
        refine Ev.succ ?_
        by_cases c1 : idxOf (rd a i) < idxOf (rd b j)
        · simp only [depotref01_merged.j2, decide_eq_true c1, if_true, h0i, h1', hol, w64s (show (i : Int) < 9223372036854775807 by omega)]
          rw [mg_lt c1, ← drop_rd h2]
          have := ih (i + 1) j (o ++ [rd a i]) (by omega) hj (by omega) (by simp only [List.length_append, List.length_singleton]; omega)
          simpa using this
        · simp only [depotref01_merged.j2, decide_eq_false c1, Bool.false_eq_true, if_false, hii, h0i, h0j, h1', h2', if_true, depotref01_Index_eq, Option.bind_some]
          by_cases c2 : idxOf (rd b j) < idxOf (rd a i)
          · simp only [c2, if_true, hol, w64s (show (j : Int) < 9223372036854775807 by omega)]
            rw [mg_gt c2, ← drop_rd h1]
            have := ih i (j + 1) (o ++ [rd b j]) hi (by omega) (by omega) (by simp only [List.length_append, List.length_singleton]; omega)
            simpa using this
          · simp only [c2, if_false, hol, if_true, w64s (show (i : Int) < 9223372036854775807 by omega), w64s (show (j : Int) < 9223372036854775807 by omega)]
            rw [mg_eq (by omega)]
            have := ih (i + 1) (j + 1) (o ++ [rd a i]) (by omega) (by omega) (by omega) (by simp only [List.length_append, List.length_singleton]; omega)
            simpa using this
      · have hjj : (j : Int) = (b.length : Int) := by omega
        simp only [hjj, if_true]
        refine Ev.succ ?_
        simp only [depotref01_merged.j2, if_true, h0i, h1', hol, w64s (show (i : Int) < 9223372036854775807 by omega)]
        rw [drop_rd h1, List.drop_of_length_le (show b.length ≤ j by omega), mg_nil']
        have := ih (i + 1) j (o ++ [rd a i]) (by omega) hj (by omega) (by simp only [List.length_append, List.length_singleton]; omega)
        rw [List.drop_of_length_le (show b.length ≤ j by omega), mg_nil', hjj] at this
        simpa using this
    · have h1' : ¬ (i : Int) < (a.length : Int) := by omega
      have hii : (i : Int) = (a.length : Int) := by omega
      simp only [h1', if_false]
      by_cases h2 : j < b.length
      · have h2' : (j : Int) < (b.length : Int) := by omega
        have hjj : ¬ (j : Int) = (b.length : Int) := by omega
        have hol : o.length < 17592186044416 := by omega
        simp only [decide_eq_true h2']
        refine Ev.succ ?_
        simp only [depotref01_merged.j1, if_true, hjj, if_false, h1']
        refine Ev.succ ?_
        simp only [depotref01_merged.j2, Bool.false_eq_true, if_false, hii, if_true, h0j, h2', hol, w64s (show (j : Int) < 9223372036854775807 by omega)]
        rw [drop_rd h2, List.drop_of_length_le (show a.length ≤ i by omega), mg_nil]
        have := ih i (j + 1) (o ++ [rd b j]) hi (by omega) (by omega) (by simp only [List.length_append, List.length_singleton]; omega)
        rw [List.drop_of_length_le (show a.length ≤ i by omega), mg_nil, hii] at this
        simpa using this
      · have h2' : ¬ ((j : Int) < (b.length : Int)) := by omega
        simp only [decide_eq_false h2']
        refine Ev.succ ?_
        simp only [depotref01_merged.j1, Bool.false_eq_true, if_false]
        rw [List.drop_of_length_le (show a.length ≤ i by omega), List.drop_of_length_le (show b.length ≤ j by omega), mg_nil, List.append_nil]
        exact Ev.now _
theorem depotref01_merged_ev (a b : List Int) (hn : a.length + b.length ≤ 17592186044416) : Ev (fun k => depotref01_merged.f k a b) (mg a b) := by
  have := depotref01_merged_l0 a b hn _ 0 0 [] (by omega) (by omega) (Nat.le_refl _) (by simp only [List.length_nil]; omega)
  simpa [depotref01_merged.f] using this
theorem depotref01_Tidy_ev (n : Nat) : ∀ l : List Int, l.length ≤ n → l.length ≤ 17592186044416 → Ev (fun k => depotref01_Tidy.f k l) (tidyOf l) := by
  induction n with
  | zero =>
    intro l h hn
    refine Ev.succ ?_
    have : l = [] := List.eq_nil_of_length_eq_zero (by omega)
    subst this
    simp only [depotref01_Tidy.f, List.length_nil]
    exact Ev.now _
  | succ n ih =>
    intro l h hn
    refine Ev.succ ?_
    match l, h, hn with
    | [], _, _ =>
      simp only [depotref01_Tidy.f, List.length_nil]
      exact Ev.now _
    | [x], _, _ =>
      have e1 : (([x] : List Int).length : Int) = 1 := rfl
      have r0 : rd [x] 0 = x := rfl
      simp only [depotref01_Tidy.f, e1, r0, show ¬ (1 : Int) = 0 by decide, if_false, if_true, show (0 : Int) < 1 by decide, depotref01_Formed_eq, tidyOf_one, Option.bind_some]
      by_cases hf : formed x = true
      · simp only [hf, if_true]; exact Ev.now _
      · simp only [hf, if_false]; exact Ev.now _
    | x :: y :: l, h, hn =>
      simp only [depotref01_Tidy.f]
      generalize hL : x :: y :: l = L at h hn ⊢
      have hL' : 2 ≤ L.length := by rw [← hL]; simp
      have h1 : ¬ (L.length : Int) = 0 := by omega
      have h2 : ¬ (L.length : Int) = 1 := by omega
      have e1 : wrap64 ((L.length : Int) / 2) = ((L.length / 2 : Nat) : Int) := by rw [w64 (by omega) (by omega)]; omega
      have h3 : (0 : Int) ≤ ((L.length / 2 : Nat) : Int) := by omega
      have h4 : ((L.length / 2 : Nat) : Int) ≤ (L.length : Int) := by omega
      simp only [h1, h2, if_false, e1, h3, h4, if_true, Int.toNat_natCast]
      refine Ev.bind (ih (L.take (L.length / 2)) (by simp only [List.length_take]; omega) (by simp only [List.length_take]; omega)) (Ev.bind (ih (L.drop (L.length / 2)) (by simp only [List.length_drop]; omega) (by simp only [List.length_drop]; omega)) ?_)
      have t1 := tidyOf_length (L.take (L.length / 2))
      have t2 := tidyOf_length (L.drop (L.length / 2))
      simp only [List.length_take, List.length_drop] at t1 t2
      refine Ev.bind (depotref01_merged_ev _ _ (by omega)) ?_
      rw [← tidyOf_append, List.take_append_drop]
      exact Ev.now _
theorem depotref01_Tidy_evl (l : List Int) (hn : l.length ≤ 17592186044416) : Ev (fun k => depotref01_Tidy.f k l) (tidyOf l) := depotref01_Tidy_ev l.length l (Nat.le_refl _) hn
theorem depotref01_Without_l0 (l : List Int) (x : Int) (hn : l.length ≤ 17592186044416) (d : Nat) : ∀ (i : Nat) (o : List Int), i + d = l.length → o.length ≤ i → Ev (fun k => depotref01_Without.l0 k x l o (i : Int)) (o ++ (l.drop i).filter fun y => !(y == x)) := by
  induction d with
  | zero =>
    intro i o hi ho
    refine Ev.succ ?_
    simp only [depotref01_Without.l0]
    have h1 : ¬ ((i : Int) < (l.length : Int)) := by omega
    simp only [h1, if_false]
    rw [List.drop_of_length_le (by omega), List.filter_nil, List.append_nil]
    exact Ev.now _
  | succ d ih =>
    intro i o hi ho
    refine Ev.succ ?_
    simp only [depotref01_Without.l0]
    have h1 : (i : Int) < (l.length : Int) := by omega
    have h0 : (0 : Int) ≤ (i : Int) := by omega
    have h2 : o.length < 17592186044416 := by omega
    simp only [h1, h0, if_true, h2, w64s (show (i : Int) < 9223372036854775807 by omega)]
    rw [drop_rd (show i < l.length by omega)]
    by_cases hf : rd l i = x
    · have e : (!(rd l i == x)) = false := by simp [hf]
      rw [List.filter_cons, e]
      simp only [hf, if_true, Bool.false_eq_true, if_false]
      exact ih (i + 1) o (by omega) (by omega)
    · have e : (!(rd l i == x)) = true := by simp [hf]
      rw [List.filter_cons, e]
      simp only [hf, if_true, if_false]
      have := ih (i + 1) (o ++ [rd l i]) (by omega) (by simp only [List.length_append, List.length_singleton]; omega)
      simpa using this
theorem depotref01_Without_ev (l : List Int) (x : Int) (hn : l.length ≤ 17592186044416) : Ev (fun k => depotref01_Without.f k l x) ((tidyOf l).filter fun y => !(y == x)) := by
  unfold depotref01_Without.f
  have := tidyOf_length l
  refine Ev.bind (depotref01_Tidy_evl l hn) ?_
  simpa using depotref01_Without_l0 (tidyOf l) x (by omega) _ 0 [] (Nat.zero_add _) (Nat.zero_le _)
theorem depotref01_Join_ev (l m : List Int) (h1 : l.length ≤ 17592186044416) (h2 : m.length ≤ 17592186044416) : Ev (fun k => depotref01_Join.f k l m) (tidyOf (l ++ m)) := by
  unfold depotref01_Join.f
  have t1 := formed_count (tidyOf l) (rising_tidyOf l) (fun _ h => tidyOf_formed h)
  have t2 := formed_count (tidyOf m) (rising_tidyOf m) (fun _ h => tidyOf_formed h)
  refine Ev.bind (depotref01_Tidy_evl l h1) (Ev.bind (depotref01_Tidy_evl m h2) (Ev.bind (depotref01_merged_ev _ _ (by omega)) ?_))
  rw [← tidyOf_append]
  exact Ev.now _
theorem pivOf_contains {a b : List Int} {v : Int} (h0 : 1 ≤ v) (h1 : v ≤ 1048576) : (pivOf (tidyOf a) (tidyOf b)).contains v = (has a v && has b (-v)) := by
  have hf : formed v = true := formed_iff.2 ⟨by omega, by omega, by omega⟩
  have hf2 : formed (-v) = true := by rw [formed_neg]; exact hf
  rw [Bool.eq_iff_iff, List.contains_iff_mem]
  unfold pivOf isPiv has
  rw [List.mem_filter, mem_tidyOf, hf, hf2, decide_eq_true (show 0 ≤ v by omega), Bool.true_and, Bool.true_and, Bool.true_and, Bool.and_eq_true, List.contains_iff_mem, List.contains_iff_mem, List.contains_iff_mem, mem_tidyOf]
  exact ⟨fun h => ⟨h.1.1, h.2.1⟩, fun h => ⟨⟨h.1, by simp [hf]⟩, h.2, by simp [hf2]⟩⟩
theorem depotref01_Resolve_ev (a b : List Int) (v : Int) (ha : a.length ≤ 17592186044416) (hb : b.length ≤ 17592186044416) : Ev (fun k => depotref01_Resolve.f k a b v) (resOf a b v) := by
  have no : (sound a && sound b && decide (1 ≤ v ∧ v ≤ 1048576)) = false → Ev (fun k => depotref01_Resolve.j0 k a b v true) (resOf a b v) := by
    intro h
    have e : resOf a b v = ([], 1) := by unfold resOf; rw [h]; rfl
    rw [e]
    refine Ev.succ ?_
    simp only [depotref01_Resolve.j0, if_true]
    exact Ev.now _
  unfold depotref01_Resolve.f
  refine Ev.bind (depotref01_Sound_ev a ha) ?_
  cases h1 : sound a with
  | false =>
    simp only [Bool.false_eq_true, if_false]
    exact no (by rw [h1]; rfl)
  | true =>
    simp only [if_true]
    refine Ev.bind (depotref01_Sound_ev b hb) ?_
    cases h2 : sound b with
    | false =>
      simp only [Bool.false_eq_true, if_false]
      exact no (by rw [h2, Bool.and_false]; rfl)
    | true =>
      simp only [if_true]
      by_cases c1 : v < 1
      · simp only [c1, if_true]
        exact no (by rw [decide_eq_false (show ¬ (1 ≤ v ∧ v ≤ 1048576) by omega), Bool.and_false])
      · simp only [c1, if_false]
        by_cases c2 : v > 1048576
        · rw [decide_eq_true c2]
          exact no (by rw [decide_eq_false (show ¬ (1 ≤ v ∧ v ≤ 1048576) by omega), Bool.and_false])
        · rw [decide_eq_false c2]
          have hneg : wrap64 (-v) = -v := by unfold wrap64; omega
          have e : resOf a b v = if (has a v && has b (-v)) = true then (onOf a b v, 0) else ([], 10) := by
            unfold resOf
            rw [h1, h2, decide_eq_true (show (1 ≤ v ∧ v ≤ 1048576) by omega), pivOf_contains (by omega) (by omega)]
            rfl
          have no2 : (has a v && has b (-v)) = false → Ev (fun k => depotref01_Resolve.j1 k a b v true) (resOf a b v) := by
            intro h
            rw [e, h]
            refine Ev.succ ?_
            simp only [depotref01_Resolve.j1, if_true]
            exact Ev.now _
          refine Ev.succ ?_
          simp only [depotref01_Resolve.j0, Bool.false_eq_true, if_false, hneg]
          refine Ev.bind (depotref01_Has_ev a v ha) ?_
          cases g1 : has a v with
          | false =>
            simp only [Bool.false_eq_true, if_false]
            exact no2 (by rw [g1]; rfl)
          | true =>
            simp only [if_true]
            refine Ev.bind (depotref01_Has_ev b (-v) hb) ?_
            cases g2 : has b (-v) with
            | false => exact no2 (by rw [g1, g2]; rfl)
            | true =>
              rw [e, g1, g2]
              refine Ev.succ ?_
              simp only [depotref01_Resolve.j1, Bool.not_true, Bool.false_eq_true, if_false, hneg, Bool.and_self, if_true]
              have z1 := lessOf_length a v
              have z2 := lessOf_length b (-v)
              refine Ev.bind (depotref01_Without_ev a v ha) (Ev.bind (depotref01_Without_ev b (-v) hb) (Ev.bind (depotref01_Join_ev (lessOf a v) (lessOf b (-v)) (by omega) (by omega)) ?_))
              exact Ev.now _
end Go.Proofs.Ytamefocngapkpaa.PLitsMeets
/-! text YtamefocngapkpaaVarMath -/
namespace Go.Proofs.YtamefocngapkpaaMath
set_option linter.unusedVariables false
theorem varOf_formed {l : Int} (h : formed l = true) : 1 ≤ varOf l ∧ varOf l ≤ 1048576 ∧ (varOf l = l ∨ varOf l = -l) := by
  have hb := formed_iff.1 h
  unfold varOf
  rw [if_pos h]
  split <;> omega
theorem varOf_none {l : Int} (h : formed l = false) : varOf l = 0 := by
  unfold varOf
  rw [h]; rfl
end Go.Proofs.YtamefocngapkpaaMath
