/- What the law CnfModels' own functions answer. (Over the kit's print of CnfModels.) -/
import Derived.Test.YtggnnnddnppcpaaClCnfModelsm
import Derived.OrdersIn
import Derived.OrdersHeld
import Derived.RangeFuncCalls
/-! text YtggnnnddnppcpaaModelsBase -/
namespace Go.Proofs.YtggnnnddnppcpaaHand
open Go.RowKit Go.Proofs.YtggnnnddnppcpaaW.PrintWords Go.Proofs.YtggnnnddnppcpaaW.PrintLast Go.Proofs.YtggnnnddnppcpaaMath Go.Proofs.YtggnnnddnppcpaaOwn Go.Proofs.Ytggnnnddnppcpaa.PCnfModels
set_option linter.unusedVariables false
set_option linter.unusedSimpArgs false
def wantM (v : Int) (cs : List (List Int)) : List (List Bool) := if (isFormula v cs && decide (v ≤ 16)) = true then modelsIn v.toNat cs else []
theorem wantM_len (v : Int) (cs : List (List Int)) : (wantM v cs).length ≤ 65536 ∧ ∀ a ∈ wantM v cs, a.length ≤ 16 := by
  unfold wantM
  split
  · rename_i h
    rw [Bool.and_eq_true, decide_eq_true_eq] at h
    have h0 := isFormula_bd h.1
    have h2 : 2 ^ v.toNat ≤ 65536 := Nat.pow_le_pow_right (n := 2) (by omega) (show v.toNat ≤ 16 by omega)
    exact ⟨Nat.le_trans (modelsTo_length v.toNat cs (2 ^ v.toNat)) h2, fun a ha => by have := modelsTo_mem ha; omega⟩
  · simp
theorem refModels_calls (v : Int) (A0 : Option Addr) (c0 : Nat) (cs : List (List Int)) (w : World) (hr0 : Kd.C (Kd.slice 3 (Kd.int .i64)) w A0 cs.length cs) (hc0 : cs.length ≤ c0) (hn : cs.length ≤ 17592186044416) (hs : ∀ c ∈ cs, c.length ≤ 17592186044416) :
    Calls Try.prog 35 #[.agg #[.int .i64 v, .slice A0 cs.length c0]] w fun e w' => ∃ (Aw : Option Addr) (cw : Nat), e = .returned (.slice Aw (wantM v cs).length cw) ∧ (wantM v cs).length ≤ cw ∧ Kd.F (Kd.slice 4 Kd.bool) w' (fun k => w.heap.size ≤ k ∧ k < w'.heap.size) Aw (wantM v cs).length (wantM v cs) ∧ Below w.heap.size w w' := by
  obtain ⟨k, h⟩ := (depotref02_Models_ev v cs hn hs).rounds
  refine (depotref02_Models.calls k v A0 c0 cs _ w hr0 hc0 h).mono ?_
  rintro e w' ⟨u, rfl, hS, hB⟩
  obtain ⟨Aw, cw, rfl⟩ := Kd.R_slice (Kd.S_R hS)
  have h2 := Kd.S_F (Kd.S_mono (Kd.S_bound hS) (ok' := fun k => w.heap.size ≤ k ∧ k < w'.heap.size) fun k hk => ⟨hk.2.1, hk.2.2.1⟩)
  exact ⟨Aw, cw, rfl, (Kd.R_reads' (Kd.S_R hS)).2.1, h2, hB⟩
theorem copyFormula_calls (v : Int) (A0 : Option Addr) (c0 : Nat) (cs : List (List Int)) (w : World) (hr0 : Kd.C (Kd.slice 3 (Kd.int .i64)) w A0 cs.length cs) (hc0 : cs.length ≤ c0) (hn : cs.length ≤ 5864062014805) (hs : ∀ c ∈ cs, c.length < 17592186044416) :
    Calls Try.prog 36 #[.agg #[.int .i64 v, .slice A0 cs.length c0]] w fun e w' => ∃ u : Value, e = .returned (.agg #[.int .i64 v, u]) ∧ Kd.S (Kd.slice 3 (Kd.int .i64)) 43 w' w.heap.size (fun _ => True) u cs ∧ Below w.heap.size w w' := by
  obtain ⟨k, h⟩ := (depotref00_CopyFormula_ev v cs hn hs).rounds
  exact depotref00_CopyFormula.calls k v A0 c0 cs v cs w hr0 hc0 h
theorem sameBools_calls (A B : Option Addr) (c d : Nat) (l m : List Bool) (w : World) (hr : Kd.C Kd.bool w A l.length l) (hc : l.length ≤ c) (hs : Kd.C Kd.bool w B m.length m) (hd : m.length ≤ d) (hn : l.length ≤ 140737488355328) :
    Calls Try.prog 38 #[.slice A l.length c, .slice B m.length d] w fun e w' => e = .returned (.bool (l == m)) ∧ Drawn0 w w' := by
  obtain ⟨k, h⟩ := (depotref00_SameBools_ev l m hn).rounds
  exact depotref00_SameBools.calls k A c l B d m _ w hr hc hs hd h
/-- one model of the document's list -/
theorem rowF_at {W : World} {ok : Nat → Prop} {A : Option Addr} {n : Nat} {L : List (List Bool)} (h : Kd.F (Kd.slice 4 Kd.bool) W ok A n L) {i : Nat} (hi : i < L.length) : ∃ ad A0 c0, A = some ad ∧ W.cell? (ad.add i) = some (.slice A0 (L[i]).length c0) ∧ (L[i]).length ≤ c0 ∧ Kd.bool.C W A0 (L[i]).length (L[i]) := by
  obtain ⟨ad, c1, e, _, hK, hc0⟩ := Kd.C_get (Kd.F_now h) ([] : List Bool) (i : Int) (by omega) (by rw [← Kd.F_len h]; omega)
  subst e
  have hc : ∀ j u, c1[j]? = some u → W.cell? (ad.add ((i : Int).toNat * 1 + j)) = some u := hc0
  obtain ⟨A0, c0, rfl, l0, g0⟩ := hK
  have hq := hc 0 _ rfl
  have e2 : L.getD ((i : Int).toNat) [] = L[i] := getD_nat hi
  rw [e2] at hq l0 g0
  rw [Int.toNat_natCast, Nat.mul_one, Nat.add_zero] at hq
  exact ⟨ad, A0, c0, rfl, hq, l0, g0⟩
/-- rows of rows of numbers in blocks from lo to hi: told by their sizes alone -/
structure Shape (lo hi ga n : Nat) (ls : List Nat) (W : World) : Prop where
  hlo : lo ≤ ga ∧ ga < hi
  hn : n = ls.length
  row : ∃ cur : Array Value, W.heap[ga]? = some (.cells cur 43 (0, 0)) ∧ n ≤ cur.size ∧ ∀ (i l : Nat), ls[i]? = some l → ∃ (A : Option Addr) (c : Nat), cur[i]? = some (Value.slice A l c) ∧ (0 < l → ∃ (g : Nat) (cs : Array Value), A = some ⟨g, 0, none⟩ ∧ lo ≤ g ∧ g < hi ∧ g ≠ ga ∧ W.heap[g]? = some (.cells cs 3 (0, 0)) ∧ ∀ j : Nat, j < l → ∃ x : Int, cs[j]? = some (Value.int .i64 x))
theorem Shape.step {lo hi ga n : Nat} {ls : List Nat} {W W1 : World} (h : Shape lo hi ga n ls W) (hm : ∀ k, lo ≤ k → k < hi → W1.heap[k]? = W.heap[k]?) : Shape lo hi ga n ls W1 := by
  obtain ⟨cur, h1, h2, h3⟩ := h.row
  refine ⟨h.hlo, h.hn, cur, (hm ga h.hlo.1 h.hlo.2).trans h1, h2, fun i l hi => ?_⟩
  obtain ⟨A, c, h4, h5⟩ := h3 i l hi
  refine ⟨A, c, h4, fun hp => ?_⟩
  obtain ⟨g, cs, e, h6, h7, h8, h9, h10⟩ := h5 hp
  exact ⟨g, cs, e, h6, h7, h8, (hm g h6 h7).trans h9, h10⟩
/-- a number is written -/
theorem Shape.put {lo hi ga n g : Nat} {ls : List Nat} {W : World} (h : Shape lo hi ga n ls W) (hg : g ≠ ga) (hlt : ∃ cs, W.heap[g]? = some (.cells cs 3 (0, 0))) (j : Nat) (x : Int) : Shape lo hi ga n ls (W.setCell ⟨g, j, none⟩ (.int .i64 x)) := by
  obtain ⟨cur, h1, h2, h3⟩ := h.row
  have far : ∀ k, k ≠ g → (W.setCell ⟨g, j, none⟩ (.int .i64 x)).heap[k]? = W.heap[k]? := fun k hk => Below.heap_setCell W ⟨g, j, none⟩ _ k hk
  refine ⟨h.hlo, h.hn, cur, (far ga (fun e => hg e.symm)).trans h1, h2, fun i l hi => ?_⟩
  obtain ⟨A, c, h4, h5⟩ := h3 i l hi
  refine ⟨A, c, h4, fun hp => ?_⟩
  obtain ⟨g', cs, e, h6, h7, h8, h9, h10⟩ := h5 hp
  by_cases hgg : g' = g
  · subst hgg
    refine ⟨g', cs.setIfInBounds j (.int .i64 x), e, h6, h7, h8, blk_set h9 j _, fun k hk => ?_⟩
    obtain ⟨y, hy⟩ := h10 k hk
    by_cases hjk : j = k
    · subst hjk
      have hlt := (Array.getElem?_eq_some_iff.1 hy).1
      exact ⟨x, by rw [Array.getElem?_setIfInBounds_self_of_lt hlt]⟩
    · exact ⟨y, by rw [Array.getElem?_setIfInBounds_ne hjk]; exact hy⟩
  · exact ⟨g', cs, e, h6, h7, h8, (far g' hgg).trans h9, h10⟩
/-- a row is dropped -/
theorem Shape.drop {lo hi ga n i : Nat} {ls : List Nat} {W : World} (h : Shape lo hi ga n ls W) (hi' : i < n) : Shape lo hi ga n (ls.set i 0) (W.setCell ⟨ga, i, none⟩ (.slice none 0 0)) := by
  obtain ⟨cur, h1, h2, h3⟩ := h.row
  have far : ∀ k, k ≠ ga → (W.setCell ⟨ga, i, none⟩ (.slice none 0 0)).heap[k]? = W.heap[k]? := fun k hk => Below.heap_setCell W ⟨ga, i, none⟩ _ k hk
  refine ⟨h.hlo, by rw [List.length_set]; exact h.hn, cur.setIfInBounds i (.slice none 0 0), blk_set h1 i _, by simpa using h2, fun k l hk => ?_⟩
  by_cases hik : i = k
  · subst hik
    have hil : i < ls.length := by have := h.hn; omega
    rw [List.getElem?_set_self hil] at hk
    injection hk with hk
    subst hk
    exact ⟨none, 0, Array.getElem?_setIfInBounds_self_of_lt (by omega), fun hp => absurd hp (Nat.lt_irrefl 0)⟩
  · rw [List.getElem?_set_ne hik] at hk
    obtain ⟨A, c, h4, h5⟩ := h3 k l hk
    refine ⟨A, c, by rw [Array.getElem?_setIfInBounds_ne hik]; exact h4, fun hp => ?_⟩
    obtain ⟨g', cs, e, h6, h7, h8, h9, h10⟩ := h5 hp
    exact ⟨g', cs, e, h6, h7, h8, (far g' h8).trans h9, h10⟩
theorem shape_of {lo hi n c : Nat} {A : Option Addr} {W : World} {cs : List (List Int)} {base : Nat} {ok : Nat → Prop} (h : Kd.R (Kd.slice 3 (Kd.int .i64)) 43 W base ok (.slice A n c) cs) (hp : 0 < cs.length) (hok : ∀ k, ok k → base ≤ k → k < W.heap.size → lo ≤ k ∧ k < hi) : ∃ ga, A = some ⟨ga, 0, none⟩ ∧ n = cs.length ∧ Shape lo hi ga n (cs.map List.length) W := by
  obtain ⟨h0, inner, ho, hr⟩ := h
  have hlb := own_base ho
  have hlt := own_lt ho
  have ho2 := ho.2
  rcases ho2 with ⟨_, h1⟩ | ⟨ga, cap, cur, e, hga, hh, hnc, hcm, hcs, ht⟩
  · omega
  injection e with eA en ec
  subst eA
  subst en
  subst ec
  refine ⟨ga, rfl, rfl, hok ga (h0 ga rfl) hga (blk_lt hh), by simp, cur, hh, ?_, fun i l hi => ?_⟩
  · have hsz : (Kd.slice 3 (Kd.int .i64)).sz = 1 := rfl
    rw [hsz] at hcs
    omega
  · rw [List.getElem?_map] at hi
    obtain ⟨x, hx, rfl⟩ := Option.map_eq_some_iff.1 hi
    have hM := hr.2 i x hx
    obtain ⟨v, hv, hRv⟩ := hM
    obtain ⟨A2, c2, rfl⟩ := Kd.R_slice hRv
    have hil : i < cs.length := (List.getElem?_eq_some_iff.1 hx).1
    have hin : inner[i]? = some (.slice A2 x.length c2) := by
      have h2 : (inner.drop (i * 1)).take 1 = [.slice A2 x.length c2] := hv
      rw [Nat.mul_one] at h2
      have h3 : ((inner.drop i).take 1)[0]? = some (.slice A2 x.length c2) := by rw [h2]; rfl
      rw [List.getElem?_take] at h3
      simpa using h3
    refine ⟨A2, c2, ?_, fun hp2 => ?_⟩
    · have hsz : (Kd.slice 3 (Kd.int .i64)).sz = 1 := rfl
      rw [hsz] at ht
      have h8 : i < cs.length * 1 := by omega
      have h7 : (cur.toList.take (cs.length * 1))[i]? = inner[i]? := by rw [ht]
      rw [List.getElem?_take, if_pos h8] at h7
      rw [← Array.getElem?_toList, h7]
      exact hin
    · have how := Kd.own_of_R hRv
      rcases how.2 with ⟨_, h3⟩ | ⟨g, cap2, cur2, e2, hg2, hh2, hnc2, hcm2, hcs2, ht2⟩
      · omega
      · injection e2 with e3 _ e4
        subst e3
        subst e4
        have hokg := hRv.1 g rfl
        obtain ⟨hl1, hl2⟩ := hok g hokg.1 hg2 (blk_lt hh2)
        refine ⟨g, cur2, rfl, hl1, hl2, fun e => hokg.2 (by rw [e]; rfl), hh2, fun j hj => ?_⟩
        have h7 : (cur2.toList.take (x.length * 1))[j]? = (encs (Value.int .i64) x)[j]? := by rw [ht2]
        rw [List.getElem?_take] at h7
        have h8 : j < x.length * 1 := by omega
        rw [if_pos h8] at h7
        refine ⟨x[j], ?_⟩
        rw [← Array.getElem?_toList, h7]
        simp [encs, List.getElem?_eq_getElem hj]
end Go.Proofs.YtggnnnddnppcpaaHand
/-! text YtggnnnddnppcpaaRegionD -/
namespace Go.Proofs.YtggnnnddnppcpaaOwn
open Go
set_option linter.unusedVariables false
section
variable {F : Fence} {n : Nat} {P : Program} {ops : Array Oper} {Q : Exit → Act → World → Prop} {md : Region.Mode} {S : World → Prop}
/-- no operation is a defer statement -/
def noDefer (ops : Array Oper) : Bool := ops.all fun o => match o.op with | .defer _ => false | _ => true
theorem noDefer_spec (h : noDefer ops = true) {j : Nat} {o : Oper} (ho : ops[j]? = some o) : ∀ c, o.op ≠ .defer c := by
  intro c hc
  obtain ⟨hj, rfl⟩ := Array.getElem?_eq_some_iff.1 ho
  have := Array.all_eq_true.1 h j hj
  rw [hc] at this
  cases this
def wpAnyS (F : Fence) (n : Nat) (P : Program) (md : Region.Mode) (ops : Array Oper) (Q : Exit → Act → World → Prop) (S : World → Prop) : Nat → Array Bool → Act → World → Prop
  | 0, listed, a, w => Region.ready md ops listed = [] ∧ Q .normal a w
  | fuel + 1, listed, a, w =>
    (Region.ready md ops listed = [] → Q .normal a w) ∧
    ∀ i ∈ Region.ready md ops listed, wpOpIn F n P ops Q i (fun a' w' => S w' ∧ wpAnyS F n P md ops Q S fuel (listed.setIfInBounds i true) a' w') a w
theorem wpAnyIn_of_S : ∀ (fuel : Nat) (listed : Array Bool) (a : Act) (w : World), wpAnyS F n P md ops Q S fuel listed a w → wpAnyIn F n P md ops Q fuel listed a w
  | 0, _, _, _, h => h
  | fuel + 1, _, _, _, h => ⟨h.1, fun i hi => wpOpIn_mono (fun a' w' h' => wpAnyIn_of_S fuel _ a' w' h'.2) (h.2 i hi)⟩
theorem YieldsIf.wpOpS {i : Nat} {o : Oper} {v : Value} {a : Act} (hF : ∀ f, F.fn f) (hi : ops[i]? = some o) (hd : ∀ c, o.op ≠ .defer c) (hy : YieldsIf P ops S o v a)
    {K : Act → World → Prop} {w : World} (hS : S w) (h : K (a.put o.dst v) w) : wpOpIn F n P ops Q i K a w := by
  unfold Go.wpOpIn
  simp only [hi]
  rcases hy with ⟨hw, hv⟩ | ⟨hw, rfl⟩
  · simp only [hw, if_true, Oper.wpIn, Oper.semAt_eq F.round a.eval o hd, hv w hS, Oper.uponIn]; exact ⟨fun f _ => hF f, h⟩
  · simp only [hw, Bool.false_eq_true, if_false]; exact ⟨fun f _ => hF f, h⟩
theorem wpOpS_put {j : Nat} {oi oj : Oper} {v : Value} (hF : ∀ f, F.fn f) (hd : ∀ c, oj.op ≠ .defer c) (hj : ops[j]? = some oj) (hap : oi.apart ops oj = true)
    (hsi : ∀ cs b, oi.op ≠ .select cs b) (hsj : ∀ cs b, oj.op ≠ .select cs b)
    (hQ : ∀ c a w, Q (.panic c) (a.put oi.dst v) w → Q (.panic c) a w) {K : Act → World → Prop} {a : Act} {w : World}
    (hy : YieldsIf P ops S oi v a) (h : wpOpIn F n P ops Q j K (a.put oi.dst v) w) :
    wpOpIn F n P ops Q j (fun a' w' => YieldsIf P ops S oi v a' ∧ K (a'.put oi.dst v) w') a w := by
  obtain ⟨h1, h2, h3⟩ := Oper.apart_spec hap
  have keep : ∀ (a : Act), YieldsIf P ops S oi v a → ∀ u, YieldsIf P ops S oi v (a.put oj.dst u) := fun a hy u =>
    hy.of_same (execOp_put oi hsi a oj.dst u h3) (wanted_put oi a oj.dst u h3)
  have keepD : ∀ d, YieldsIf P ops S oi v { a with defers := d :: a.defers } := fun d => hy.of_same rfl rfl
  unfold wpOpIn at *
  simp only [hj] at *
  rw [wanted_put oj a oi.dst v h1] at h
  split
  · rename_i hw
    simp only [hw, if_true] at h
    unfold Oper.wpIn at *
    refine ⟨fun f _ => hF f, ?_⟩
    have h := h.2
    rw [Oper.semAt_eq F.round _ oj hd, execOp_put oj hsj a oi.dst v h1] at h
    rw [Oper.semAt_eq F.round _ oj hd]
    generalize (execOp a.eval oj).run P w = r at *
    cases r with
    | ok x w' =>
      cases x <;> simp only [Oper.uponIn] at h ⊢
      case value u => exact ⟨keep a hy u, by rw [← Act.put_comm a v u h2]; exact h⟩
      case skip => exact ⟨keep a hy _, by rw [← Act.put_comm a v undef h2]; exact h⟩
      case defer d =>
        refine ⟨keep _ (keepD d) _, ?_⟩
        rw [← Act.put_comm _ v undef h2, ← Act.put_defers]
        exact h
      case enter f args =>
        refine ⟨h.1, CallsIn.mono h.2 fun e w'' he => ?_⟩
        cases e with
        | returned u => exact ⟨keep a hy u, by rw [← Act.put_comm a v u h2]; exact he⟩
        | panicked c => exact hQ _ _ _ he
        | outgrown => exact he
      case row row args => exact ⟨h.1, RowsIn.mono h.2 fun u w'' he => ⟨keep a hy u, by rw [← Act.put_comm a v u h2]; exact he⟩⟩
      case round l f tmps assign body =>
        refine ⟨h.1, RoundIn.mono h.2 fun e w'' he => ?_⟩
        cases e with
        | returned u => exact ⟨keep a hy u, by rw [← Act.put_comm a v u h2]; exact he⟩
        | panicked c => exact hQ _ _ _ he
        | outgrown => exact he
    | halt x w' =>
      cases x <;> simp only [Oper.uponIn] at h ⊢
      case panic u => exact hQ _ _ _ h
  · rename_i hw
    simp only [hw] at h
    exact ⟨fun f _ => hF f, keep a hy _, by rw [← Act.put_comm a v undef h2]; exact h.2⟩
theorem wpAnyS_first {i : Nat} {oi : Oper} {v : Value} (hF : ∀ f, F.fn f) (hnd : noDefer ops = true) (hi : ops[i]? = some oi) (hsel : ∀ (j : Nat) (o : Oper) cs b, ops[j]? = some o → o.op ≠ .select cs b)
    (hQ : ∀ c a w, Q (.panic c) (a.put oi.dst v) w → Q (.panic c) a w) :
    ∀ (fuel : Nat) (listed : Array Bool) (a : Act) (w : World),
      (∀ j oj, ops[j]? = some oj → j ≠ i → listed.getD j true = false → (∀ e ∈ oj.after, Region.binds md e = true → e.on ≠ i) → oi.apart ops oj = true) →
      i ∈ Region.ready md ops listed → YieldsIf P ops S oi v a → S w →
      wpAnyS F n P md ops Q S fuel (listed.setIfInBounds i true) (a.put oi.dst v) w → wpAnyS F n P md ops Q S (fuel + 1) listed a w := by
  intro fuel
  induction fuel with
  | zero =>
    intro listed a w _ hr hy hS H
    refine ⟨fun h => (by rw [h] at hr; cases hr), fun j hj => ?_⟩
    by_cases hji : j = i
    · subst hji; exact YieldsIf.wpOpS hF hi (noDefer_spec hnd hi) hy hS ⟨hS, H⟩
    · have := ready_mono hj hji
      rw [H.1] at this
      cases this
  | succ fuel ih =>
    intro listed a w hfree hr hy hS H
    refine ⟨fun h => (by rw [h] at hr; cases hr), fun j hj => ?_⟩
    by_cases hji : j = i
    · subst hji; exact YieldsIf.wpOpS hF hi (noDefer_spec hnd hi) hy hS ⟨hS, H⟩
    · have h1 := H.2 j (ready_mono hj hji)
      obtain ⟨hjun, oj, hoj, hall⟩ := mem_ready.1 hj
      have hnot : ∀ e ∈ oj.after, Region.binds md e = true → e.on ≠ i := fun e he hb heq => by
        have h1 := hall e he hb
        have h0 := (mem_ready.1 hr).1
        rw [heq] at h1
        rcases Nat.lt_or_ge i listed.size with h' | h'
        · simp [h'] at h0 h1; rw [h0] at h1; cases h1
        · simp [Array.getElem?_eq_none h'] at h1
      have h2 := wpOpS_put hF (noDefer_spec hnd hoj) hoj (hfree j oj hoj hji hjun hnot) (fun cs b => hsel i oi cs b hi) (fun cs b => hsel j oj cs b hoj) hQ hy h1
      have hfree' : ∀ k ok, ops[k]? = some ok → k ≠ i → (listed.setIfInBounds j true).getD k true = false →
          (∀ e ∈ ok.after, Region.binds md e = true → e.on ≠ i) → oi.apart ops ok = true := fun k ok hk hki hun hno => by
        refine hfree k ok hk hki ?_ hno
        by_cases hjk : j = k
        · subst hjk; exact hjun
        · rw [getD_set_ne true hjk] at hun; exact hun
      refine wpOpIn_mono (fun a' w' h3 => ⟨h3.2.1, ih (listed.setIfInBounds j true) a' w' hfree' (ready_mono hr (Ne.symm hji)) h3.1 h3.2.1 ?_⟩) h2
      rw [Array.setIfInBounds_comm _ _ hji]
      exact h3.2.2
theorem wpAnyS_take {i : Nat} {oi : Oper} {v : Value} {fuel : Nat} {listed : Array Bool} {a : Act} {w : World} (hF : ∀ f, F.fn f) (hnd : noDefer ops = true) (hi : ops[i]? = some oi)
    (hs : Region.noSelect ops = true) (hf : Region.free md ops listed i = true) (hr : (Region.ready md ops listed).contains i = true)
    (hQ : ∀ c a w, Q (.panic c) (a.put oi.dst v) w → Q (.panic c) a w) (hw : Region.wanted oi (yielded ops a.tmps) = true) (hy : ∀ w, S w → (execOp a.eval oi).run P w = .ok (.value v) w) (hS : S w)
    (h : wpAnyS F n P md ops Q S fuel (listed.setIfInBounds i true) (a.put oi.dst v) w) : wpAnyS F n P md ops Q S (fuel + 1) listed a w :=
  wpAnyS_first hF hnd hi (Region.noSelect_spec hs) hQ fuel listed a w (Region.free_spec hi hf) (by simpa using hr) (.inl ⟨hw, hy⟩) hS h
/-- one operation alone may come up -/
theorem wpAnyS_one {i : Nat} {o : Oper} {fuel : Nat} {listed : Array Bool} {a : Act} {w : World} (hr : Region.ready md ops listed = [i]) (ho : ops[i]? = some o) (hw : Region.wanted o (yielded ops a.tmps) = true)
    (h : ∀ K' : Act → World → Prop, (∀ a w, S w → wpAnyS F n P md ops Q S fuel (listed.setIfInBounds i true) a w → K' a w) → Oper.wpIn F n P o a w K' Q) : wpAnyS F n P md ops Q S (fuel + 1) listed a w := by
  refine ⟨fun h0 => (by rw [hr] at h0; cases h0), fun j hj => ?_⟩
  rw [hr, List.mem_singleton] at hj
  subst hj
  refine wpOpIn_step ho fun K' hK => ?_
  rw [if_pos hw]
  exact h K' (fun a w h1 h2 => hK a w ⟨h1, h2⟩)
/-- two operations may come up -/
theorem wpAnyS_two {i j : Nat} {oi oj : Oper} {fuel : Nat} {listed : Array Bool} {a : Act} {w : World} (hr : Region.ready md ops listed = [i, j]) (hi : ops[i]? = some oi) (hj : ops[j]? = some oj) (wi : Region.wanted oi (yielded ops a.tmps) = true) (wj : Region.wanted oj (yielded ops a.tmps) = true)
    (h1 : ∀ K' : Act → World → Prop, (∀ a w, S w → wpAnyS F n P md ops Q S fuel (listed.setIfInBounds i true) a w → K' a w) → Oper.wpIn F n P oi a w K' Q)
    (h2 : ∀ K' : Act → World → Prop, (∀ a w, S w → wpAnyS F n P md ops Q S fuel (listed.setIfInBounds j true) a w → K' a w) → Oper.wpIn F n P oj a w K' Q) : wpAnyS F n P md ops Q S (fuel + 1) listed a w := by
  refine ⟨fun h0 => (by rw [hr] at h0; cases h0), fun k hk => ?_⟩
  rw [hr, List.mem_cons, List.mem_singleton] at hk
  rcases hk with rfl | rfl
  · refine wpOpIn_step hi fun K' hK => ?_
    rw [if_pos wi]
    exact h1 K' (fun a w h1 h2 => hK a w ⟨h1, h2⟩)
  · refine wpOpIn_step hj fun K' hK => ?_
    rw [if_pos wj]
    exact h2 K' (fun a w h1 h2 => hK a w ⟨h1, h2⟩)
theorem wpAnyS_done {listed : Array Bool} {a : Act} {w : World} (hr : Region.ready md ops listed = []) (h : Q .normal a w) :
    ∀ fuel, wpAnyS F n P md ops Q S fuel listed a w
  | 0 => ⟨hr, h⟩
  | _ + 1 => ⟨fun _ => h, by rw [hr]; simp⟩
theorem wpIn_region_S {id : Nat} {a : Act} {w : World} (hm : P.follows .mixedOrders = true)
    (h : wpAnyS F n P .any ops Q S ops.size (Array.replicate ops.size false) a w.drew) : (Code.region id ops true).wpIn F n P Q a w :=
  wpIn_region_any hm (wpAnyIn_of_S _ _ _ _ h)
/-- Q, but False at a panic -/
def noPan (Q : Exit → Act → World → Prop) : Exit → Act → World → Prop
  | .panic _, _, _ => False
  | e, a, w => Q e a w
theorem wpIn_region_N {id : Nat} {a : Act} {w : World} (hm : P.follows .mixedOrders = true)
    (h : wpAnyS F n P .any ops (noPan Q) S ops.size (Array.replicate ops.size false) a w.drew) : (Code.region id ops true).wpIn F n P Q a w :=
  wpIn_mono (wpIn_region_S hm h) fun e a w h => by cases e <;> first | exact h | exact (h : False).elim
theorem wpAnyS_doneN {listed : Array Bool} {a : Act} {w : World} (hr : Region.ready md ops listed = []) (h : Q .normal a w) (fuel : Nat) : wpAnyS F n P md ops (noPan Q) S fuel listed a w := wpAnyS_done (Q := noPan Q) hr (show noPan Q .normal a w from h) fuel
end
end Go.Proofs.YtggnnnddnppcpaaOwn
/-! text YtggnnnddnppcpaaRegionT -/
namespace Go.Proofs.YtggnnnddnppcpaaOwn
open Go
set_option linter.unusedVariables false
section
variable {F : Fence} {n : Nat} {P : Program} {ops : Array Oper} {Q : Exit → Act → World → Prop} {md : Region.Mode} {S : World → Prop} {z : Nat}
def wpAnyT (F : Fence) (n : Nat) (P : Program) (md : Region.Mode) (ops : Array Oper) (Q : Exit → Act → World → Prop) (z : Nat) (S : World → Prop) : Nat → Array Bool → Act → World → Prop
  | 0, listed, a, w => Region.ready md ops listed = [] ∧ Q .normal a w
  | fuel + 1, listed, a, w =>
    (Region.ready md ops listed = [] → Q .normal a w) ∧
    ∀ i ∈ Region.ready md ops listed, wpOpIn F n P ops Q i (fun a' w' => (i = z ∨ S w') ∧ wpAnyT F n P md ops Q z S fuel (listed.setIfInBounds i true) a' w') a w
theorem wpAnyIn_of_T : ∀ (fuel : Nat) (listed : Array Bool) (a : Act) (w : World), wpAnyT F n P md ops Q z S fuel listed a w → wpAnyIn F n P md ops Q fuel listed a w
  | 0, _, _, _, h => h
  | fuel + 1, _, _, _, h => ⟨h.1, fun i hi => wpOpIn_mono (fun a' w' h' => wpAnyIn_of_T fuel _ a' w' h'.2) (h.2 i hi)⟩
/-- operation z waits for i -/
def waits (md : Region.Mode) (ops : Array Oper) (z i : Nat) : Bool := match ops[z]? with | some oz => oz.after.any (fun e => Region.binds md e && e.on == i) | none => true
theorem waits_spec {z i : Nat} (h : waits md ops z i = true) {oz : Oper} (ho : ops[z]? = some oz) : ∃ e ∈ oz.after, Region.binds md e = true ∧ e.on = i := by
  unfold waits at h
  rw [ho] at h
  simp only [Array.any_eq_true] at h
  obtain ⟨k, hk, hh⟩ := h
  rw [Bool.and_eq_true, beq_iff_eq] at hh
  exact ⟨oz.after[k], Array.getElem_mem hk, hh⟩
theorem wpAnyT_first {i : Nat} {oi : Oper} {v : Value} (hF : ∀ f, F.fn f) (hwz : waits md ops z i = true) (hnd : noDefer ops = true) (hi : ops[i]? = some oi) (hsel : ∀ (j : Nat) (o : Oper) cs b, ops[j]? = some o → o.op ≠ .select cs b)
    (hQ : ∀ c a w, Q (.panic c) (a.put oi.dst v) w → Q (.panic c) a w) :
    ∀ (fuel : Nat) (listed : Array Bool) (a : Act) (w : World),
      (∀ j oj, ops[j]? = some oj → j ≠ i → listed.getD j true = false → (∀ e ∈ oj.after, Region.binds md e = true → e.on ≠ i) → oi.apart ops oj = true) →
      i ∈ Region.ready md ops listed → YieldsIf P ops S oi v a → S w →
      wpAnyT F n P md ops Q z S fuel (listed.setIfInBounds i true) (a.put oi.dst v) w → wpAnyT F n P md ops Q z S (fuel + 1) listed a w := by
  intro fuel
  induction fuel with
  | zero =>
    intro listed a w _ hr hy hS H
    refine ⟨fun h => (by rw [h] at hr; cases hr), fun j hj => ?_⟩
    by_cases hji : j = i
    · subst hji; exact YieldsIf.wpOpS hF hi (noDefer_spec hnd hi) hy hS ⟨.inr hS, H⟩
    · have := ready_mono hj hji
      rw [H.1] at this
      cases this
  | succ fuel ih =>
    intro listed a w hfree hr hy hS H
    refine ⟨fun h => (by rw [h] at hr; cases hr), fun j hj => ?_⟩
    by_cases hji : j = i
    · subst hji; exact YieldsIf.wpOpS hF hi (noDefer_spec hnd hi) hy hS ⟨.inr hS, H⟩
    · have h1 := H.2 j (ready_mono hj hji)
      obtain ⟨hjun, oj, hoj, hall⟩ := mem_ready.1 hj
      have hnot : ∀ e ∈ oj.after, Region.binds md e = true → e.on ≠ i := fun e he hb heq => by
        have h1 := hall e he hb
        have h0 := (mem_ready.1 hr).1
        rw [heq] at h1
        rcases Nat.lt_or_ge i listed.size with h' | h'
        · simp [h'] at h0 h1; rw [h0] at h1; cases h1
        · simp [Array.getElem?_eq_none h'] at h1
      have h2 := wpOpS_put hF (noDefer_spec hnd hoj) hoj (hfree j oj hoj hji hjun hnot) (fun cs b => hsel i oi cs b hi) (fun cs b => hsel j oj cs b hoj) hQ hy h1
      have hfree' : ∀ k ok, ops[k]? = some ok → k ≠ i → (listed.setIfInBounds j true).getD k true = false →
          (∀ e ∈ ok.after, Region.binds md e = true → e.on ≠ i) → oi.apart ops ok = true := fun k ok hk hki hun hno => by
        refine hfree k ok hk hki ?_ hno
        by_cases hjk : j = k
        · subst hjk; exact hjun
        · rw [getD_set_ne true hjk] at hun; exact hun
      have hjz : j ≠ z := fun e => by
        subst e
        obtain ⟨ed, h4, h5, h6⟩ := waits_spec hwz hoj
        exact hnot ed h4 h5 h6
      refine wpOpIn_mono (fun a' w' h3 => ⟨h3.2.1, ih (listed.setIfInBounds j true) a' w' hfree' (ready_mono hr (Ne.symm hji)) h3.1 (h3.2.1.resolve_left hjz) ?_⟩) h2
      rw [Array.setIfInBounds_comm _ _ hji]
      exact h3.2.2
theorem wpAnyT_take {i : Nat} {oi : Oper} {v : Value} {fuel : Nat} {listed : Array Bool} {a : Act} {w : World} (hF : ∀ f, F.fn f) (hwz : waits md ops z i = true) (hnd : noDefer ops = true) (hi : ops[i]? = some oi)
    (hs : Region.noSelect ops = true) (hf : Region.free md ops listed i = true) (hr : (Region.ready md ops listed).contains i = true)
    (hQ : ∀ c a w, Q (.panic c) (a.put oi.dst v) w → Q (.panic c) a w) (hw : Region.wanted oi (yielded ops a.tmps) = true) (hy : ∀ w, S w → (execOp a.eval oi).run P w = .ok (.value v) w) (hS : S w)
    (h : wpAnyT F n P md ops Q z S fuel (listed.setIfInBounds i true) (a.put oi.dst v) w) : wpAnyT F n P md ops Q z S (fuel + 1) listed a w :=
  wpAnyT_first hF hwz hnd hi (Region.noSelect_spec hs) hQ fuel listed a w (Region.free_spec hi hf) (by simpa using hr) (.inl ⟨hw, hy⟩) hS h
/-- one operation alone may come up -/
theorem wpAnyT_one {i : Nat} {o : Oper} {fuel : Nat} {listed : Array Bool} {a : Act} {w : World} (hr : Region.ready md ops listed = [i]) (ho : ops[i]? = some o) (hw : Region.wanted o (yielded ops a.tmps) = true)
    (h : ∀ K' : Act → World → Prop, (∀ a w, (i = z ∨ S w) → wpAnyT F n P md ops Q z S fuel (listed.setIfInBounds i true) a w → K' a w) → Oper.wpIn F n P o a w K' Q) : wpAnyT F n P md ops Q z S (fuel + 1) listed a w := by
  refine ⟨fun h0 => (by rw [hr] at h0; cases h0), fun j hj => ?_⟩
  rw [hr, List.mem_singleton] at hj
  subst hj
  refine wpOpIn_step ho fun K' hK => ?_
  rw [if_pos hw]
  exact h K' (fun a w h1 h2 => hK a w ⟨h1, h2⟩)
/-- two operations may come up -/
theorem wpAnyT_two {i j : Nat} {oi oj : Oper} {fuel : Nat} {listed : Array Bool} {a : Act} {w : World} (hr : Region.ready md ops listed = [i, j]) (hi : ops[i]? = some oi) (hj : ops[j]? = some oj) (wi : Region.wanted oi (yielded ops a.tmps) = true) (wj : Region.wanted oj (yielded ops a.tmps) = true)
    (h1 : ∀ K' : Act → World → Prop, (∀ a w, (i = z ∨ S w) → wpAnyT F n P md ops Q z S fuel (listed.setIfInBounds i true) a w → K' a w) → Oper.wpIn F n P oi a w K' Q)
    (h2 : ∀ K' : Act → World → Prop, (∀ a w, (j = z ∨ S w) → wpAnyT F n P md ops Q z S fuel (listed.setIfInBounds j true) a w → K' a w) → Oper.wpIn F n P oj a w K' Q) : wpAnyT F n P md ops Q z S (fuel + 1) listed a w := by
  refine ⟨fun h0 => (by rw [hr] at h0; cases h0), fun k hk => ?_⟩
  rw [hr, List.mem_cons, List.mem_singleton] at hk
  rcases hk with rfl | rfl
  · refine wpOpIn_step hi fun K' hK => ?_
    rw [if_pos wi]
    exact h1 K' (fun a w h1 h2 => hK a w ⟨h1, h2⟩)
  · refine wpOpIn_step hj fun K' hK => ?_
    rw [if_pos wj]
    exact h2 K' (fun a w h1 h2 => hK a w ⟨h1, h2⟩)
theorem wpAnyT_done {listed : Array Bool} {a : Act} {w : World} (hr : Region.ready md ops listed = []) (h : Q .normal a w) :
    ∀ fuel, wpAnyT F n P md ops Q z S fuel listed a w
  | 0 => ⟨hr, h⟩
  | _ + 1 => ⟨fun _ => h, by rw [hr]; simp⟩
theorem wpIn_region_T0 {id : Nat} {a : Act} {w : World} (hm : P.follows .mixedOrders = true)
    (h : wpAnyT F n P .any ops Q z S ops.size (Array.replicate ops.size false) a w.drew) : (Code.region id ops true).wpIn F n P Q a w :=
  wpIn_region_any hm (wpAnyIn_of_T _ _ _ _ h)
theorem wpIn_region_T {id : Nat} {a : Act} {w : World} (hm : P.follows .mixedOrders = true)
    (h : wpAnyT F n P .any ops (noPan Q) z S ops.size (Array.replicate ops.size false) a w.drew) : (Code.region id ops true).wpIn F n P Q a w :=
  wpIn_mono (wpIn_region_T0 hm h) fun e a w h => by cases e <;> first | exact h | exact (h : False).elim
theorem wpAnyT_doneN {listed : Array Bool} {a : Act} {w : World} (hr : Region.ready md ops listed = []) (h : Q .normal a w) (fuel : Nat) : wpAnyT F n P md ops (noPan Q) z S fuel listed a w := wpAnyT_done (Q := noPan Q) hr (show noPan Q .normal a w from h) fuel
end
end Go.Proofs.YtggnnnddnppcpaaOwn
