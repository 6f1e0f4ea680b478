/- What depotref01.Resolvents tells is what lits.Resolvents gives: variable by variable, both ways. -/
import Derived.Test.YtamefocngapkpaaClLitsMeetsi
import Derived.Test.YtamefocngapkpaaClLitsMeetsj
/-! text YtamefocngapkpaaMeetsMath -/
namespace Go.Proofs.YtamefocngapkpaaMath
open Go.RowKit Go.Proofs.YtamefocngapkpaaW.PrintWords
set_option linter.unusedVariables false
set_option linter.unusedSimpArgs false
/-- the weaving, first by first -/
def wv (x y : List Int) : List Int → List Int → List (Int × List Int)
  | [], B => B.map (bk1 x y)
  | v :: F, B => (B.takeWhile (fun b => decide (b < v))).map (bk1 x y) ++ (v, onOf x y v) :: wv x y F (B.dropWhile (fun b => decide (b < v)))
theorem wv_fold (x y F : List Int) : ∀ s, (F.foldl (wst x y) s).1 ++ (F.foldl (wst x y) s).2.map (bk1 x y) = s.1 ++ wv x y F s.2 := by
  induction F with
  | nil => intro s; rfl
  | cons v F ih =>
    intro s
    rw [List.foldl_cons, ih]
    simp only [wst, wv, List.append_assoc, List.singleton_append]
theorem weave_wv (x y : List Int) : weave x y = wv x y (pivOf x y) (pivOf y x) := by
  have := wv_fold x y (pivOf x y) ([], pivOf y x)
  simpa [weave, wrun] using this
/-- at one variable -/
def at2 (x y : List Int) (p q : Int → Bool) (v : Int) : List (Int × List Int) := (if p v = true then [(v, onOf x y v)] else []) ++ (if q v = true then [(v, onOf y x v)] else [])
theorem wv_big (x y : List Int) (q : Int → Bool) (F : List Int) (u : Int) (B : List Int) (h : ∀ v ∈ F, u < v) : wv x y F (u :: B) = (u, onOf y x u) :: wv x y F B := by
  cases F with
  | nil => rfl
  | cons v F =>
    have h1 : decide (u < v) = true := decide_eq_true (h v List.mem_cons_self)
    simp only [wv, List.takeWhile_cons, List.dropWhile_cons, h1, if_true, List.map_cons, List.cons_append, bk1]
theorem wv_none (x y : List Int) (F : List Int) (v : Int) (B : List Int) (h : ∀ b ∈ B, ¬ b < v) : wv x y (v :: F) B = (v, onOf x y v) :: wv x y F B := by
  have h1 : B.takeWhile (fun b => decide (b < v)) = [] := by
    cases B with
    | nil => rfl
    | cons b r => simp [h b List.mem_cons_self]
  have h2 : B.dropWhile (fun b => decide (b < v)) = B := by
    cases B with
    | nil => rfl
    | cons b r => simp [h b List.mem_cons_self]
  simp only [wv, h1, h2, List.map_nil, List.nil_append]
theorem wv_filter (x y : List Int) (p q : Int → Bool) : ∀ V : List Int, V.Pairwise (· < ·) → wv x y (V.filter p) (V.filter q) = V.flatMap (at2 x y p q)
  | [], _ => rfl
  | u :: V, hV => by
    have hc := List.pairwise_cons.1 hV
    have ih := wv_filter x y p q V hc.2
    have hF : ∀ v ∈ V.filter p, u < v := fun v hv => hc.1 v (List.mem_filter.1 hv).1
    have hB : ∀ v ∈ V.filter q, ¬ v < u := fun v hv => by have := hc.1 v (List.mem_filter.1 hv).1; omega
    rw [List.flatMap_cons, ← ih]
    unfold at2
    cases hp : p u <;> cases hq : q u
    · simp [List.filter_cons, hp, hq]
    · simp only [List.filter_cons, hp, hq, if_true, if_false, Bool.false_eq_true]
      rw [wv_big x y q _ u _ hF]
      rfl
    · simp only [List.filter_cons, hp, hq, if_true, if_false, Bool.false_eq_true]
      rw [wv_none x y _ u _ hB]
      rfl
    · simp only [List.filter_cons, hp, hq, if_true]
      rw [wv_none x y _ u _ (fun b hb => by rcases List.mem_cons.1 hb with rfl | hb; exact Int.lt_irrefl _; exact hB b hb), wv_big x y q _ u _ hF]
      rfl
theorem lt_ext : ∀ {s t : List Int}, s.Pairwise (· < ·) → t.Pairwise (· < ·) → (∀ x, x ∈ s ↔ x ∈ t) → s = t
  | [], [], _, _, _ => rfl
  | [], y :: t, _, _, h => absurd ((h y).2 List.mem_cons_self) (by simp)
  | x :: s, [], _, _, h => absurd ((h x).1 List.mem_cons_self) (by simp)
  | x :: s, y :: t, hs, ht, h => by
    have hs' := List.pairwise_cons.1 hs
    have ht' := List.pairwise_cons.1 ht
    have e : x = y := by
      rcases List.mem_cons.1 ((h x).1 List.mem_cons_self) with e | hx
      · exact e
      · rcases List.mem_cons.1 ((h y).2 List.mem_cons_self) with e | hy
        · exact e.symm
        · have h1 := hs'.1 y hy
          have h2 := ht'.1 x hx
          omega
    subst e
    congr 1
    refine lt_ext hs'.2 ht'.2 fun z => ?_
    constructor
    · intro hz
      rcases List.mem_cons.1 ((h z).1 (List.mem_cons_of_mem _ hz)) with rfl | hz'
      · have := hs'.1 z hz
        omega
      · exact hz'
    · intro hz
      rcases List.mem_cons.1 ((h z).2 (List.mem_cons_of_mem _ hz)) with rfl | hz'
      · have := ht'.1 z hz
        omega
      · exact hz'
/-- the variables of a rising list, one by one, behind last -/
def vs : Int → List Int → List Int
  | _, [] => []
  | last, l :: t => if varOf l = last then vs last t else varOf l :: vs (varOf l) t
/-- what the document tells behind last -/
def rv (a b : List Int) : Int → List Int → List (Int × List Int)
  | _, [] => []
  | last, l :: t => if varOf l = last then rv a b last t else (if (resOf a b (varOf l)).2 = 0 then [(varOf l, (resOf a b (varOf l)).1)] else []) ++ (if (resOf b a (varOf l)).2 = 0 then [(varOf l, (resOf b a (varOf l)).1)] else []) ++ rv a b (varOf l) t
def onP (x y : List Int) (v : Int) : Bool := x.contains v && y.contains (-v)
theorem res_at {a b : List Int} {v : Int} (ha : sound a = true) (hb : sound b = true) (h1 : 1 ≤ v) (h2 : v ≤ 1048576) : resOf a b v = if onP (tidyOf a) (tidyOf b) v = true then (onOf a b v, 0) else ([], 10) := by
  have e : (pivOf (tidyOf a) (tidyOf b)).contains v = onP (tidyOf a) (tidyOf b) v := by
    unfold pivOf onP isPiv
    rw [Bool.eq_iff_iff, List.contains_iff_mem, List.mem_filter, Bool.and_eq_true, Bool.and_eq_true, List.contains_iff_mem, List.contains_iff_mem]
    simp
    omega
  unfold resOf
  rw [ha, hb, decide_eq_true (show (1 ≤ v ∧ v ≤ 1048576) by omega), e]
  rfl
theorem tidy2 (a : List Int) : tidyOf (tidyOf a) = tidyOf a := tidyOf_eq (rising_tidyOf a) fun x => ⟨fun h => ⟨h, tidyOf_formed h⟩, fun h => h.1⟩
theorem on2 (a b : List Int) (v : Int) : onOf (tidyOf a) (tidyOf b) v = onOf a b v := by
  unfold onOf lessOf
  rw [tidy2, tidy2]
theorem rv_vs {a b : List Int} (ha : sound a = true) (hb : sound b = true) : ∀ (t : List Int) (last : Int), (∀ l ∈ t, formed l = true) → rv a b last t = (vs last t).flatMap (at2 (tidyOf a) (tidyOf b) (onP (tidyOf a) (tidyOf b)) (onP (tidyOf b) (tidyOf a)))
  | [], _, _ => rfl
  | l :: t, last, hf => by
    have hl := varOf_formed (hf l List.mem_cons_self)
    have ih := fun last => rv_vs ha hb t last (fun l h => hf l (List.mem_cons_of_mem _ h))
    simp only [rv, vs]
    by_cases h : varOf l = last
    · rw [if_pos h, if_pos h]; exact ih last
    · rw [if_neg h, if_neg h, List.flatMap_cons, ← ih, res_at ha hb hl.1 hl.2.1, res_at hb ha hl.1 hl.2.1]
      unfold at2
      rw [on2, on2]
      cases onP (tidyOf a) (tidyOf b) (varOf l) <;> cases onP (tidyOf b) (tidyOf a) (varOf l) <;> simp
theorem vs_spec : ∀ (t : List Int) (last : Int), Rising t → (∀ l ∈ t, formed l = true) → (∀ l ∈ t, last ≤ varOf l) → (vs last t).Pairwise (· < ·) ∧ ∀ v, v ∈ vs last t ↔ last ≠ v ∧ ∃ l ∈ t, varOf l = v
  | [], _, _, _, _ => by simp [vs]
  | l :: t, last, hr, hf, hl => by
    have hr' := List.pairwise_cons.1 hr
    have hf' : ∀ l ∈ t, formed l = true := fun l h => hf l (List.mem_cons_of_mem _ h)
    have hle : ∀ m ∈ t, varOf l ≤ varOf m := fun m hm => by
      have h1 := hr'.1 m hm
      have h2 := idx_formed (hf l List.mem_cons_self)
      have h3 := idx_formed (hf' m hm)
      have h4 := varOf_formed (hf l List.mem_cons_self)
      have h5 := varOf_formed (hf' m hm)
      omega
    simp only [vs]
    by_cases h : varOf l = last
    · rw [if_pos h]
      obtain ⟨h1, h2⟩ := vs_spec t last hr'.2 hf' (fun m hm => hl m (List.mem_cons_of_mem _ hm))
      refine ⟨h1, fun v => (h2 v).trans ?_⟩
      constructor
      · rintro ⟨h3, m, hm, h4⟩
        exact ⟨h3, m, List.mem_cons_of_mem _ hm, h4⟩
      · rintro ⟨h3, m, hm, h4⟩
        rcases List.mem_cons.1 hm with rfl | hm
        · exact absurd (h.symm.trans h4) h3
        · exact ⟨h3, m, hm, h4⟩
    · rw [if_neg h]
      obtain ⟨h1, h2⟩ := vs_spec t (varOf l) hr'.2 hf' hle
      have hl0 := hl l List.mem_cons_self
      refine ⟨List.pairwise_cons.2 ⟨fun v hv => ?_, h1⟩, fun v => ?_⟩
      · obtain ⟨h3, m, hm, h4⟩ := (h2 v).1 hv
        have := hle m hm
        omega
      · rw [List.mem_cons, h2]
        constructor
        · rintro (rfl | ⟨h3, m, hm, h4⟩)
          · exact ⟨fun e => h e.symm, l, List.mem_cons_self, rfl⟩
          · have := hle m hm
            exact ⟨by omega, m, List.mem_cons_of_mem _ hm, h4⟩
        · rintro ⟨h3, m, hm, h4⟩
          rcases List.mem_cons.1 hm with rfl | hm
          · exact .inl h4.symm
          · by_cases e : varOf l = v
            · exact .inl e.symm
            · exact .inr ⟨e, m, hm, h4⟩
theorem pivOf_vs {a : List Int} {y : List Int} {V : List Int} (hV : V.Pairwise (· < ·)) (h : ∀ v, v ∈ tidyOf a → 0 ≤ v → onP (tidyOf a) y v = true → v ∈ V) (hp : ∀ v ∈ V, 1 ≤ v) : pivOf (tidyOf a) y = V.filter (onP (tidyOf a) y) := by
  refine lt_ext ?_ (hV.filter _) fun v => ?_
  · unfold pivOf
    refine List.Pairwise.imp_of_mem ?_ ((rising_tidyOf a).filter _)
    intro u v hu hv huv
    rw [List.mem_filter] at hu hv
    have h1 := idx_formed (tidyOf_formed hu.1)
    have h2 := idx_formed (tidyOf_formed hv.1)
    have h3 : 0 ≤ u := by have := hu.2; unfold isPiv at this; simp at this; exact this.1
    have h4 : 0 ≤ v := by have := hv.2; unfold isPiv at this; simp at this; exact this.1
    omega
  · unfold pivOf
    rw [List.mem_filter, List.mem_filter]
    unfold isPiv
    constructor
    · rintro ⟨h1, h2⟩
      rw [Bool.and_eq_true, decide_eq_true_eq] at h2
      have h3 : onP (tidyOf a) y v = true := by unfold onP; rw [Bool.and_eq_true, List.contains_iff_mem]; exact ⟨h1, h2.2⟩
      exact ⟨h v h1 h2.1 h3, h3⟩
    · rintro ⟨h1, h2⟩
      unfold onP at h2
      rw [Bool.and_eq_true, List.contains_iff_mem] at h2
      have := hp v h1
      exact ⟨h2.1, by rw [Bool.and_eq_true, decide_eq_true_eq]; exact ⟨by omega, h2.2⟩⟩
/-- the document's list is the weaving -/
theorem rv_weave {a b : List Int} (ha : sound a = true) (hb : sound b = true) : rv a b 0 (tidyOf a) = weave (tidyOf a) (tidyOf b) := by
  have hf : ∀ l ∈ tidyOf a, formed l = true := fun l h => tidyOf_formed h
  obtain ⟨h1, h2⟩ := vs_spec (tidyOf a) 0 (rising_tidyOf a) hf (fun l h => by have := varOf_formed (hf l h); omega)
  have hp : ∀ v ∈ vs 0 (tidyOf a), 1 ≤ v := fun v hv => by
    obtain ⟨_, l, hl, rfl⟩ := (h2 v).1 hv
    exact (varOf_formed (hf l hl)).1
  have hpos : ∀ v, formed v = true → 0 ≤ v → varOf v = v := fun v hv h0 => by
    have := varOf_formed hv
    have := formed_iff.1 hv
    omega
  have hneg : ∀ v, formed v = true → 0 ≤ v → varOf (-v) = v := fun v hv h0 => by
    have h3 := varOf_formed (l := -v) (by rw [formed_neg]; exact hv)
    have := formed_iff.1 hv
    omega
  have ea := pivOf_vs (a := a) (y := tidyOf b) h1 (fun v hv h0 hp => (h2 v).2 ⟨fun e => (formed_iff.1 (hf v hv)).1 e.symm, v, hv, hpos v (hf v hv) h0⟩) hp
  have eb := pivOf_vs (a := b) (y := tidyOf a) h1 (fun v hv h0 hp => (h2 v).2 ⟨fun e => (formed_iff.1 (tidyOf_formed hv)).1 e.symm, -v, by
    unfold onP at hp
    rw [Bool.and_eq_true, List.contains_iff_mem, List.contains_iff_mem] at hp
    exact hp.2, hneg v (tidyOf_formed hv) h0⟩) hp
  rw [rv_vs ha hb _ _ hf, weave_wv, ea, eb, wv_filter _ _ _ _ _ h1]
end Go.Proofs.YtamefocngapkpaaMath
/-! text YtamefocngapkpaaMeetsBase -/
namespace Go.Proofs.Ytamefocngapkpaa.PLitsMeets
open Go.RowKit Go.Proofs.YtamefocngapkpaaW.PrintWords Go.Proofs.YtamefocngapkpaaW.PrintLast Go.Proofs.YtamefocngapkpaaMath
set_option linter.unusedVariables false
set_option linter.unusedSimpArgs false
def mkP (p : Int × List Int) : S46 := ⟨p.1, p.2⟩
def wantOf (a b : List Int) : List (Int × List Int) := if (sound a && sound b) = true then weave (tidyOf a) (tidyOf b) else []
theorem depotref01_Resolvents_l0 (a b t : List Int) (ha : a.length ≤ 17592186044416) (hb : b.length ≤ 17592186044416) (hf : ∀ l ∈ t, formed l = true) (ht : t.length ≤ 2097152) (d : Nat) : ∀ (i : Nat) (last : Int) (o : List S46), i + d = t.length → o.length + 2 * d ≤ 4194304 →
    Ev (fun k => depotref01_Resolvents.l0 k a b o t last (i : Int)) (o ++ (rv a b last (t.drop i)).map mkP) := by
  induction d with
  | zero =>
    intro i last o hi ho
    refine Ev.succ ?_
    simp only [depotref01_Resolvents.l0]
    have h1 : ¬ ((i : Int) < (t.length : Int)) := by omega
    simp only [h1, if_false]
    rw [List.drop_of_length_le (by omega)]
    simp only [rv, List.map_nil, List.append_nil]
    exact Ev.now _
  | succ d ih =>
    intro i last o hi ho
    refine Ev.succ ?_
    have h1 : (i : Int) < (t.length : Int) := by omega
    have h0 : (0 : Int) ≤ (i : Int) := by omega
    simp only [depotref01_Resolvents.l0, depotref01_Var_eq, Option.bind_some]
    simp only [h1, h0, if_true, w64s (show (i : Int) < 9223372036854775807 by omega)]
    rw [drop_rd (show i < t.length by omega)]
    simp only [rv]
    by_cases hv : varOf (rd t (i : Int)) = last
    · simp only [hv, if_true]
      exact ih (i + 1) last o (by omega) (by omega)
    · simp only [hv, if_false]
      refine Ev.bind (depotref01_Resolve_ev a b _ ha hb) ?_
      have ho1 : o.length < 4398046511104 := by omega
      by_cases e1 : (resOf a b (varOf (rd t (i : Int)))).2 = 0
      · simp only [e1, if_true, ho1]
        refine Ev.bind (depotref01_Resolve_ev b a _ hb ha) ?_
        by_cases e2 : (resOf b a (varOf (rd t (i : Int)))).2 = 0
        · have ho2 : (o ++ [mkP (varOf (rd t (i : Int)), (resOf a b (varOf (rd t (i : Int)))).1)]).length < 4398046511104 := by simp; omega
          unfold mkP at ho2
          simp only [e2, if_true, ho2]
          have := ih (i + 1) (varOf (rd t (i : Int))) (o ++ [mkP (varOf (rd t (i : Int)), (resOf a b (varOf (rd t (i : Int)))).1)] ++ [mkP (varOf (rd t (i : Int)), (resOf b a (varOf (rd t (i : Int)))).1)]) (by omega) (by simp; omega)
          simpa [mkP] using this
        · simp only [e2, if_false]
          have := ih (i + 1) (varOf (rd t (i : Int))) (o ++ [mkP (varOf (rd t (i : Int)), (resOf a b (varOf (rd t (i : Int)))).1)]) (by omega) (by simp; omega)
          simpa [mkP] using this
      · simp only [e1, if_false]
        refine Ev.bind (depotref01_Resolve_ev b a _ hb ha) ?_
        by_cases e2 : (resOf b a (varOf (rd t (i : Int)))).2 = 0
        · simp only [e2, if_true, ho1]
          have := ih (i + 1) (varOf (rd t (i : Int))) (o ++ [mkP (varOf (rd t (i : Int)), (resOf b a (varOf (rd t (i : Int)))).1)]) (by omega) (by simp; omega)
          simpa [mkP] using this
        · simp only [e2, if_false]
          have := ih (i + 1) (varOf (rd t (i : Int))) o (by omega) (by omega)
          simpa [mkP] using this
theorem depotref01_Resolvents_ev (a b : List Int) (ha : a.length ≤ 17592186044416) (hb : b.length ≤ 17592186044416) : Ev (fun k => depotref01_Resolvents.f k a b) ((wantOf a b).map mkP) := by
  have no : (sound a && sound b) = false → Ev (fun k => depotref01_Resolvents.j0 k a b [] true) ((wantOf a b).map mkP) := by
    intro h
    have e : wantOf a b = [] := by unfold wantOf; rw [h]; rfl
    rw [e]
    refine Ev.succ ?_
    simp only [depotref01_Resolvents.j0, if_true]
    exact Ev.now _
  unfold depotref01_Resolvents.f
  refine Ev.bind (depotref01_Sound_ev a ha) ?_
  cases h1 : sound a with
  | false =>
    simp only [Bool.false_eq_true, if_false]
    exact no (by rw [h1]; rfl)
  | true =>
    simp only [if_true]
    refine Ev.bind (depotref01_Sound_ev b hb) ?_
    cases h2 : sound b with
    | false => exact no (by rw [h2, Bool.and_false])
    | true =>
      refine Ev.succ ?_
      simp only [depotref01_Resolvents.j0, Bool.not_true, Bool.false_eq_true, if_false]
      refine Ev.bind (depotref01_Tidy_evl a ha) ?_
      have hl := formed_count (tidyOf a) (rising_tidyOf _) (fun _ h => tidyOf_formed h)
      have := depotref01_Resolvents_l0 a b (tidyOf a) ha hb (fun _ h => tidyOf_formed h) hl (tidyOf a).length 0 0 [] (by omega) (by simp; omega)
      have e : wantOf a b = rv a b 0 (tidyOf a) := by unfold wantOf; rw [h1, h2, rv_weave h1 h2]; rfl
      rw [e]
      simpa using this
end Go.Proofs.Ytamefocngapkpaa.PLitsMeets
namespace Go.Proofs.YtamefocngapkpaaHand
open Go.RowKit Go.Proofs.YtamefocngapkpaaW.PrintWords Go.Proofs.YtamefocngapkpaaW.PrintLast Go.Proofs.YtamefocngapkpaaMath Go.Proofs.Ytamefocngapkpaa.PLitsMeets
set_option linter.unusedVariables false
set_option linter.unusedSimpArgs false
theorem mcopied_calls (A : Option Addr) (c : Nat) (l : List Int) (w : World) (hr : Kd.C (Kd.int .i64) w A l.length l) (hc : l.length ≤ c) (hn : l.length < 17592186044416) :
    Calls Try.prog 24 #[.slice A l.length c] w fun e w' => ∃ v : Value, e = .returned v ∧ Kd.R (Kd.int .i64) 3 w' w.heap.size (fun _ => True) v l ∧ Below w.heap.size w w' :=
  depotlaw01_copied.calls A c l l w hr hc (depotlaw01_copied_eq hn)
theorem mequal_calls (A B : Option Addr) (c d : Nat) (l m : List Int) (w : World) (hr : Kd.C (Kd.int .i64) w A l.length l) (hc : l.length ≤ c) (hs : Kd.C (Kd.int .i64) w B m.length m) (hd : m.length ≤ d) (hn : l.length ≤ 17592186044416) :
    Calls Try.prog 27 #[.slice A l.length c, .slice B m.length d] w fun e w' => e = .returned (.bool (l == m)) ∧ Drawn0 w w' := by
  obtain ⟨k, h⟩ := (depotref01_Equal_ev l m hn).rounds
  exact depotref01_Equal.calls k A c l B d m _ w hr hc hs hd h
/-- the document's list, in new memory: what is told of it stands as long as the blocks from lo to hi do -/
def Want (lo hi : Nat) (A : Option Addr) (L : List S46) (W : World) : Prop := Kd.F k46 W (fun k => lo ≤ k ∧ k < hi) A L.length L ∧ hi ≤ W.heap.size
theorem Want.step {lo hi : Nat} {A : Option Addr} {L : List S46} {W W1 : World} (h : Want lo hi A L W) (hm : ∀ k, lo ≤ k → k < hi → W1.heap[k]? = W.heap[k]?) (hz : W.heap.size ≤ W1.heap.size) : Want lo hi A L W1 := ⟨Kd.F_step h.1 fun k hk _ => hm k hk.1 hk.2, Nat.le_trans h.2 hz⟩
theorem Want.keep {lo hi : Nat} {A : Option Addr} {L : List S46} {W W1 : World} (h : Want lo hi A L W) (k : Below W.heap.size W W1) : Want lo hi A L W1 := h.step (fun j _ hj => k.block j (Nat.lt_of_lt_of_le hj h.2)) k.size
theorem want_calls (A B : Option Addr) (c d : Nat) (a b : List Int) (w : World) (hr : Kd.C (Kd.int .i64) w A a.length a) (hc : a.length ≤ c) (hs : Kd.C (Kd.int .i64) w B b.length b) (hd : b.length ≤ d) (ha : a.length ≤ 17592186044416) (hb : b.length ≤ 17592186044416) :
    Calls Try.prog 47 #[.slice A a.length c, .slice B b.length d] w fun e w' => ∃ (Aw : Option Addr) (cw : Nat), e = .returned (.slice Aw ((wantOf a b).map mkP).length cw) ∧ ((wantOf a b).map mkP).length ≤ cw ∧ Want w.heap.size w'.heap.size Aw ((wantOf a b).map mkP) w' ∧ Below w.heap.size w w' := by
  obtain ⟨k, h⟩ := (depotref01_Resolvents_ev a b ha hb).rounds
  refine (depotref01_Resolvents.calls k A c a B d b _ w hr hc hs hd h).mono ?_
  rintro e w' ⟨v, rfl, hS, hB⟩
  obtain ⟨Aw, cw, rfl⟩ := Kd.R_slice (Kd.S_R hS)
  have h2 := Kd.S_F (Kd.S_mono (Kd.S_bound hS) (ok' := fun k => w.heap.size ≤ k ∧ k < w'.heap.size) fun k hk => ⟨hk.2.1, hk.2.2.1⟩)
  exact ⟨Aw, cw, rfl, (Kd.R_reads' (Kd.S_R hS)).2.1, ⟨h2, Nat.le_refl _⟩, hB⟩
/-- one pair of it -/
theorem Want.at_ {lo hi : Nat} {A : Option Addr} {L : List (Int × List Int)} {W : World} (h : Want lo hi A (L.map mkP) W) {i : Nat} (hi' : i < L.length) : ∃ ad A1 c1, A = some ad ∧ W.cell? (ad.add (i * 2)) = some (.int .i64 (L[i]).1) ∧ W.cell? ⟨(ad.add (i * 2)).block, (ad.add (i * 2)).off + 1, none⟩ = some (.slice A1 (L[i]).2.length c1) ∧ (L[i]).2.length ≤ c1 ∧ (Kd.int .i64).C W A1 (L[i]).2.length (L[i]).2 := by
  obtain ⟨ad, A1, c1, e, h1, h2, h3, h4⟩ := at_T46 (Kd.F_now h.1) (i : Int) (by omega) (by simp; omega)
  have e2 : rd_T46 (L.map mkP) (i : Int) = mkP L[i] := by
    unfold rd_T46
    rw [getD_nat (by simpa using hi')]
    simp
  rw [e2] at h1 h2 h3 h4
  rw [Int.toNat_natCast] at h1 h2
  exact ⟨ad, A1, c1, e, h1, h2, h3, h4⟩
end Go.Proofs.YtamefocngapkpaaHand
