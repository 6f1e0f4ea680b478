/- tpl/RegionT's law in the plain walk: a region that draws its order, where behind operation z (the last store) the kept facts S need not hold. (The steps are those of the kit's laws of Derived/OrdersHeld.lean.) -/
import Derived.Test.YtggnnnddnppcpaaDoorClCnfKeepsTidyUptoCardo
import Derived.Test.YtggnnnddnppcpaaDoorClCnfKeepsTidyUptoCardn
import Derived.Deep.Cut
import Derived.Tactics
import Derived.Test.YtggnnnddnppcpaaDoorClCnfKeepsTidyUptoCardb
/-! text YtggnnnddnppcpaaDoorRegionP -/
namespace Go.Proofs.YtggnnnddnppcpaaDoorOwn
open Go
set_option linter.unusedVariables false
section
variable {P : Program} {ops : Array Oper} {Q : Exit → Act → World → Prop} {md : Region.Mode} {S : World → Prop} {z : Nat}
def wpAnyP (P : Program) (md : Region.Mode) (ops : Array Oper) (Q : Exit → Act → World → Prop) (z : Nat) (S : World → Prop) : Nat → Array Bool → Act → World → Prop
  | 0, listed, a, w => Region.ready md ops listed = [] ∧ Q .normal a w
  | fuel + 1, listed, a, w =>
    (Region.ready md ops listed = [] → Q .normal a w) ∧
    ∀ i ∈ Region.ready md ops listed, wpOp P ops Q i (fun a' w' => (i = z ∨ S w') ∧ wpAnyP P md ops Q z S fuel (listed.setIfInBounds i true) a' w') a w
theorem wpAny_of_P : ∀ (fuel : Nat) (listed : Array Bool) (a : Act) (w : World), wpAnyP P md ops Q z S fuel listed a w → wpAny P md ops Q fuel listed a w
  | 0, _, _, _, h => h
  | fuel + 1, _, _, _, h => ⟨h.1, fun i hi => wpOp_mono (fun a' w' h' => wpAny_of_P fuel _ a' w' h'.2) (h.2 i hi)⟩
theorem wpAnyP_first {i : Nat} {oi : Oper} {v : Value} (hwz : waits md ops z i = true) (hi : ops[i]? = some oi) (hsel : ∀ (j : Nat) (o : Oper) cs b, ops[j]? = some o → o.op ≠ .select cs b)
    (hQ : ∀ c a w, Q (.panic c) (a.put oi.dst v) w → Q (.panic c) a w) :
    ∀ (fuel : Nat) (listed : Array Bool) (a : Act) (w : World),
      (∀ j oj, ops[j]? = some oj → j ≠ i → listed.getD j true = false → (∀ e ∈ oj.after, Region.binds md e = true → e.on ≠ i) → oi.apart ops oj = true) →
      i ∈ Region.ready md ops listed → YieldsIf P ops S oi v a → S w →
      wpAnyP P md ops Q z S fuel (listed.setIfInBounds i true) (a.put oi.dst v) w → wpAnyP P md ops Q z S (fuel + 1) listed a w := by
  intro fuel
  induction fuel with
  | zero =>
    intro listed a w _ hr hy hS H
    refine ⟨fun h => (by rw [h] at hr; cases hr), fun j hj => ?_⟩
    by_cases hji : j = i
    · subst hji; exact hy.wpOp hi hS ⟨.inr hS, H⟩
    · have := ready_mono hj hji
      rw [H.1] at this
      cases this
  | succ fuel ih =>
    intro listed a w hfree hr hy hS H
    refine ⟨fun h => (by rw [h] at hr; cases hr), fun j hj => ?_⟩
    by_cases hji : j = i
    · subst hji; exact hy.wpOp hi hS ⟨.inr hS, H⟩
    · have h1 := H.2 j (ready_mono hj hji)
      obtain ⟨hjun, oj, hoj, hall⟩ := mem_ready.1 hj
      have hnot : ∀ e ∈ oj.after, Region.binds md e = true → e.on ≠ i := fun e he hb heq => by
        have h1 := hall e he hb
        have h0 := (mem_ready.1 hr).1
        rw [heq] at h1
        rcases Nat.lt_or_ge i listed.size with h' | h'
        · simp [h'] at h0 h1; rw [h0] at h1; cases h1
        · simp [Array.getElem?_eq_none h'] at h1
      have h2 := wpOp_putIf hoj (hfree j oj hoj hji hjun hnot) (fun cs b => hsel i oi cs b hi) (fun cs b => hsel j oj cs b hoj) hQ hy h1
      have hfree' : ∀ k ok, ops[k]? = some ok → k ≠ i → (listed.setIfInBounds j true).getD k true = false →
          (∀ e ∈ ok.after, Region.binds md e = true → e.on ≠ i) → oi.apart ops ok = true := fun k ok hk hki hun hno => by
        refine hfree k ok hk hki ?_ hno
        by_cases hjk : j = k
        · subst hjk; exact hjun
        · rw [getD_set_ne true hjk] at hun; exact hun
      have hjz : j ≠ z := fun e => by
        subst e
        obtain ⟨ed, h4, h5, h6⟩ := waits_spec hwz hoj
        exact hnot ed h4 h5 h6
      refine wpOp_mono (fun a' w' h3 => ⟨h3.2.1, ih (listed.setIfInBounds j true) a' w' hfree' (ready_mono hr (Ne.symm hji)) h3.1 (h3.2.1.resolve_left hjz) ?_⟩) h2
      rw [Array.setIfInBounds_comm _ _ hji]
      exact h3.2.2
theorem wpAnyP_take {i : Nat} {oi : Oper} {v : Value} {fuel : Nat} {listed : Array Bool} {a : Act} {w : World} (hwz : waits md ops z i = true) (hi : ops[i]? = some oi)
    (hs : Region.noSelect ops = true) (hf : Region.free md ops listed i = true) (hr : (Region.ready md ops listed).contains i = true)
    (hQ : ∀ c a w, Q (.panic c) (a.put oi.dst v) w → Q (.panic c) a w) (hw : Region.wanted oi (yielded ops a.tmps) = true) (hy : ∀ w, S w → (execOp a.eval oi).run P w = .ok (.value v) w) (hS : S w)
    (h : wpAnyP P md ops Q z S fuel (listed.setIfInBounds i true) (a.put oi.dst v) w) : wpAnyP P md ops Q z S (fuel + 1) listed a w :=
  wpAnyP_first hwz hi (Region.noSelect_spec hs) hQ fuel listed a w (Region.free_spec hi hf) (by simpa using hr) (.inl ⟨hw, hy⟩) hS h
/-- one operation alone may come up -/
theorem wpAnyP_one {i : Nat} {o : Oper} {fuel : Nat} {listed : Array Bool} {a : Act} {w : World} (hr : Region.ready md ops listed = [i]) (ho : ops[i]? = some o) (hw : Region.wanted o (yielded ops a.tmps) = true)
    (h : ∀ K' : Act → World → Prop, (∀ a w, (i = z ∨ S w) → wpAnyP P md ops Q z S fuel (listed.setIfInBounds i true) a w → K' a w) → Oper.wp P o a w K' Q) : wpAnyP P md ops Q z S (fuel + 1) listed a w := by
  refine ⟨fun h0 => (by rw [hr] at h0; cases h0), fun j hj => ?_⟩
  rw [hr, List.mem_singleton] at hj
  subst hj
  refine wpOp_step ho fun K' hK => ?_
  rw [if_pos hw]
  exact h K' (fun a w h1 h2 => hK a w ⟨h1, h2⟩)
theorem wpAnyP_done {listed : Array Bool} {a : Act} {w : World} (hr : Region.ready md ops listed = []) (h : Q .normal a w) :
    ∀ fuel, wpAnyP P md ops Q z S fuel listed a w
  | 0 => ⟨hr, h⟩
  | _ + 1 => ⟨fun _ => h, by rw [hr]; simp⟩
theorem wp_region_P {id : Nat} {a : Act} {w : World} (hm : P.follows .mixedOrders = true)
    (h : wpAnyP P .any ops Q z S ops.size (Array.replicate ops.size false) a w.drew) : (Code.region id ops true).wp P Q a w :=
  wp_region_any hm (wpAny_of_P _ _ _ _ h)
end
end Go.Proofs.YtggnnnddnppcpaaDoorOwn
/-! text YtggnnnddnppcpaaDoorLentRows -/
namespace Go.Proofs.YtggnnnddnppcpaaDoorHand
open Go.RowKit Go.Proofs.YtggnnnddnppcpaaDoorW.PrintWords Go.Proofs.YtggnnnddnppcpaaDoorW.PrintLast Go.Proofs.YtggnnnddnppcpaaDoorMath Go.Proofs.YtggnnnddnppcpaaDoorOwn
open Go.Proofs.YtggnnnddnppcpaaDoor.PCnfKeepsTidy
set_option linter.unusedVariables false
set_option linter.unusedSimpArgs false
theorem infoLR : (Tryd.prog.info? 40).map (fun i => (i.zero, i.size, i.bytes)) = some (some (.slice none 0 0), 1, 24) := by kernel_rfl
/-- an append whose run is known -/
theorem wp_append_run {P : Program} {o : Oper} {a : Act} {w w' : World} {K : Act → World → Prop} {Q : Exit → Act → World → Prop} (s x : Operand) (t : TypeId) (hop : o.op = Op.call { callee := Callee.builtin Builtin.append, args := #[s, x], argTypes := #[t, t] })
    {v vx v' : Value} (hs : a.eval s = v) (hx : a.eval x = vx) (hrun : (Builtin.append_ #[t, t] o.type #[v, vx]).run P w = .ok v' w') (h : K (a.put o.dst v') w') : Oper.wp P o a w K Q := by
  unfold Oper.wp
  simp [execOp, hop, resolve, invoke, builtin, hs, hx, hrun, Result.andThen, Oper.upon]
  exact h
/-- a walk stops ahead of such a goal -/
structure HoldD (p : Prop) : Prop where
  out : p
theorem lentD_calls (A : Option Addr) (c : Nat) (l : List Int) (w : World) (hr : Kd.C (Kd.int .i64) w A l.length l) (hc : l.length ≤ c) (hn : l.length ≤ 1099511627776) :
    Calls Tryd.prog 25 #[.slice A l.length c] w fun e w' => ∃ (v : Value), e = .returned v ∧ Kd.R (Kd.int .i64) 3 w' w.heap.size (fun _ => True) v (lentOf l) ∧ Below w.heap.size w w' := by
  obtain ⟨k, hk⟩ := (depotkit_Lent_ev l (by omega)).rounds
  exact depotkit_Lent.calls k A c l _ w hr hc hk
/-- an element of a list of lists that is read -/
theorem elem_at {w : World} {A : Option Addr} {n : Nat} {l : List (List Int)} (h : Kd.C (Kd.slice 3 (Kd.int .i64)) w A n l) {k : Nat} {p : List Int} (hk : l[k]? = some p) : ∃ ad A' c', A = some ad ∧ w.cell? (ad.add k) = some (.slice A' p.length c') ∧ p.length ≤ c' ∧ Kd.C (Kd.int .i64) w A' p.length p := by
  have hl := (List.getElem?_eq_some_iff.1 hk).1
  obtain ⟨ad, e, hc⟩ := h.2.2 (by have := h.1; omega)
  obtain ⟨cs, _, ⟨A', c', rfl, h1, h2⟩, hcell⟩ := hc k p hk
  have h3 := hcell 0 _ rfl
  rw [show k * (Kd.slice 3 (Kd.int .i64)).sz + 0 = k from by show k * 1 + 0 = k; omega] at h3
  exact ⟨ad, A', c', e, h3, h1, h2⟩
theorem _root_.Go.Proofs.YtggnnnddnppcpaaDoorOwn.Sep.dropD {w W : World} {X : Nat → Prop} {l : List Asr} (h : Sep w X l W) (k : Nat) : Sep w X (l.drop k) W := by
  obtain ⟨f, hf⟩ := h.tags
  refine ⟨h.hB, fun b => f b - k, fun i A hi => ?_⟩
  rw [List.getElem?_drop] at hi
  exact Asr.mono (hf _ A hi) fun b h1 _ => ⟨by have := h1.1; show f b - k = i; omega, h1.2⟩
set_option maxHeartbeats 8000000 in
set_option maxRecDepth 100000 in
theorem lentRows_calls (A : Option Addr) (c : Nat) (l : List (List Int)) (w : World) (hr : Kd.C (Kd.slice 3 (Kd.int .i64)) w A l.length l) (hc : l.length ≤ c) (hn : l.length ≤ 1099511627776) (hs : ∀ x ∈ l, x.length ≤ 1099511627776) :
    Calls Tryd.prog 8 #[.slice A l.length c] w fun e w' => ∃ (Aw Ar : Option Addr) (cw cr : Nat) (T M : List LRow), e = .returned (.agg #[.slice Aw l.length cw, .slice Aw (T ++ M).length cw, .slice Ar T.length cr]) ∧
      T.map LRow.nums = l ∧ T.map LRow.row = l.map lentOf ∧ M.map LRow.nums = rowMarks ∧
      Sep w (fun _ => False) [headA (.slice Aw (T ++ M).length cw) ((T ++ M).map LRow.shown), headA (.slice Ar T.length cr) (T.map LRow.all), dataA (T ++ M)] w' := by
  have HR := Aside0.mk hr
  have HC := Aside0.mk hc
  have HB := Aside0.mk (And.intro hn hs)
  have HX : Aside0 (∀ (W : World) b, (fun _ : Nat => False) b → b < W.heap.size) := ⟨fun _ _ h => h.elim⟩
  clear hr hc hn hs
  have hN := (((((Sep.start (Below.refl w.heap.size w) (fun _ => False)).new (HX.out _) (.cells #[.slice none 0 0, .slice none 0 0, .slice none 0 0] 30 (0, 0))).new (HX.out _) (.cells #[.slice none 0 0, .slice none 0 0, .slice none 0 0] 30 (0, 0))).push (A := headA (.slice none 0 0) []) (Below.refl _ _) (HX.out _) (Kd.R_nil _ _ _ _ _)).push (A := headA (.slice none 0 0) []) (Below.refl _ _) (HX.out _) (Kd.R_nil _ _ _ _ _)).push (A := dataA []) (Below.refl _ _) (HX.out _) (data_nil _ _)
  rw [World.size_alloc] at hN
  go_enter Tryd.func8, Tryd.ntmps8
  go_wp2
  obtain ⟨B3, h3⟩ : ∃ q, q = w.heap.size + 1 := ⟨_, rfl⟩
  rw [← h3] at hN ⊢
  obtain ⟨B2, h2⟩ : ∃ q, q = w.heap.size := ⟨_, rfl⟩
  rw [← h2]
  replace hN : Sep w (fun _ => False) [.blk B2 (.cells #[.slice none 0 0, .slice none 0 0, .slice none 0 0] 30 (0, 0)), .blk B3 (.cells #[.slice none 0 0, .slice none 0 0, .slice none 0 0] 30 (0, 0)), headA (.slice none 0 0) [], headA (.slice none 0 0) [], dataA []] ((w.alloc (.cells #[.slice none 0 0, .slice none 0 0, .slice none 0 0] 30)).alloc (.cells #[.slice none 0 0, .slice none 0 0, .slice none 0 0] 30)) := by rw [h2]; exact hN
  have HN := Aside0.mk hN
  clear hN h2 h3
  go_loopw [4, 5] (fun v4 _ wr => ∃ (k : Nat) (x : Int) (vw vr : Value) (T : List LRow), v4 = .int .i64 x ∧ Aside0 (x = k ∧ k ≤ l.length) ∧ Aside0 (T.length = k ∧ T.map LRow.nums = l.take k ∧ T.map LRow.row = (l.take k).map lentOf) ∧ Aside0 (Sep w (fun _ => False) [.blk B2 (.cells #[.slice none 0 0, .slice none 0 0, .slice none 0 0] 30 (0, 0)), .blk B3 (.cells #[.slice none 0 0, vw, vr] 30 (0, 0)), headA vw (T.map LRow.shown), headA vr (T.map LRow.all), dataA T] wr)) (fun i _ _ => l.length - (intOf i).toNat)
  case atStart => exact ⟨0, 0, _, _, [], rfl, ⟨rfl, Nat.zero_le _⟩, ⟨rfl, rfl, rfl⟩, HN⟩
  case round =>
    clear HN
    obtain ⟨k, x, vw, vr, T, rfl, HK, HT, HQ⟩ := hrel
    obtain ⟨hxk, hk⟩ := HK.out
    have hq := HQ.out
    obtain ⟨A5, c5, rfl⟩ := Kd.R_slice (hq.get 2 rfl)
    obtain ⟨A6, c6, rfl⟩ := Kd.R_slice (hq.get 3 rfl)
    obtain ⟨n5, hn5⟩ : ∃ q, q = (T.map LRow.shown).length := ⟨_, rfl⟩
    obtain ⟨n6, hn6⟩ : ∃ q, q = (T.map LRow.all).length := ⟨_, rfl⟩
    rw [← hn5, ← hn6] at hq
    replace HQ := Aside0.mk hq
    have HN56 : Aside0 (n5 = T.length ∧ n6 = T.length) := ⟨by rw [hn5, hn6, List.length_map, List.length_map]; exact ⟨rfl, rfl⟩⟩
    clear hq hn5 hn6
    by_cases hlt : k < l.length
    · have q3 : decide (x < (l.length : Int)) = true := decide_eq_true (by omega)
      have p2 : ((0 : Int) ≤ x) = True := eq_true (by omega)
      have q2 : (x < (l.length : Int)) = True := eq_true (by omega)
      have HX2 : Aside0 (wrap64 (x + 1) = ((k + 1 : Nat) : Int) ∧ k + 1 ≤ l.length) := by
        have := HB.out.1
        exact ⟨by rw [w64 (by omega) (by omega)]; omega, by omega⟩
      have hm : (intOf (.int .i64 (wrap64 (x + 1)))).toNat = k + 1 := by rw [HX2.out.1]; simp [intOf]
      have hm0 : (intOf (.int .i64 x)).toNat = k := by rw [hxk]; simp [intOf]
      have HMS : Aside0 (l.length - (intOf (.int .i64 (wrap64 (x + 1)))).toNat < l.length - (intOf (.int .i64 x)).toNat) := ⟨by rw [hm, hm0]; omega⟩
      obtain ⟨p, hp⟩ : ∃ p, l[k]? = some p := ⟨_, List.getElem?_eq_getElem hlt⟩
      obtain ⟨ad, Ap, cp, eA, hcw, hcp, hCp⟩ := elem_at HR.out hp
      subst eA
      have hk' : ad.add k = ad.add x.toNat := by rw [hxk]; rfl
      rw [hk'] at hcw
      have HCW := Aside0.mk hcw
      have hcell := pw_cell_below HQ.out.hB hcw
      have HP := Aside0.mk hp
      have HPN : Aside0 (p.length ≤ 1099511627776) := ⟨HB.out.2 p (List.mem_of_getElem? hp)⟩
      have HLC := Aside0.mk (lentD_calls Ap cp p wr (Kd.C_below hCp HQ.out.hB) hcp HPN.out)
      clear hm hm0 hk hlt hp hk' hxk hCp hcp hcw
      go_wp2_with (go_at_call 25; refine HoldD.out ?_)
      refine ⟨?_⟩
      refine HLC.out.mono ?_
      rintro e w1 ⟨v0, rfl, hR0, hb⟩
      obtain ⟨As, cs, rfl⟩ := Kd.R_slice hR0
      have hrl := (Kd.R_reads' hR0).2.1
      have hq1 := HQ.out.push hb (HX.out _) (row_of hR0)
      obtain ⟨nl, hnl⟩ : ∃ q, q = (lentOf p).length := ⟨_, rfl⟩
      rw [← hnl] at hrl hq1 ⊢
      have HRL := Aside0.mk hrl
      have HNL := Aside0.mk hnl
      replace hq1 : Sep w (fun _ => False) [.blk B2 (.cells #[.slice none 0 0, .slice none 0 0, .slice none 0 0] 30 (0, 0)), .blk B3 (.cells #[.slice none 0 0, (.slice A5 n5 c5), (.slice A6 n6 c6)] 30 (0, 0)), headA (.slice A5 n5 c5) (T.map LRow.shown), headA (.slice A6 n6 c6) (T.map LRow.all), dataA T, .row (Kd.int .i64) 3 (.slice As nl cs) (lentOf p)] w1 := hq1
      have HQ1 := Aside0.mk hq1
      clear hcell
      have f2 : w1.cell? ⟨B3, 2, none⟩ = some (.slice A6 n6 c6) := hq1.cell 1 2 rfl
      have HPH := Aside0.mk (hq1.pushH 3 rfl (As, nl, cs) (HX.out _) (P := Tryd.prog) (t := 22) (ty := 22) Tryd.underlying22 infoLR (by have h1 := HT.out.1; have h2 := HK.out.2; have h3 := HB.out.1; rw [List.length_map]; omega))
      clear hR0 hb hrl hnl hq1 HQ
      go_wp2_with ((with_reducible refine gate_builtin (b := .append) (xs := #[.tmp 19, .tmp 21]) rfl ?_); at_builtin; refine HoldD.out ?_)
      refine ⟨?_⟩
      obtain ⟨v1, w2, hrun, hsep, _⟩ := HPH.out
      obtain ⟨A7, c7, rfl⟩ := Kd.R_slice (hsep.get 3 rfl)
      obtain ⟨n7, hn7⟩ : ∃ q, q = (T.map LRow.all ++ [(As, nl, cs)]).length := ⟨_, rfl⟩
      rw [← hn7] at hsep hrun
      have HN7 := Aside0.mk hn7
      clear hn7
      refine wpList_append_run rfl (.tmp 19) (.tmp 21) 22 rfl rfl rfl hrun ?_
      have q1 : w2.cell? ⟨B3, 2, none⟩ = some (.slice A6 n6 c6) := hsep.cell 1 2 rfl
      have y1 := hsep.frozen 1 2 rfl
      have hput := hsep.put (HX.out _) 1 2 rfl (.slice A7 n7 c7) rfl
      replace hput : Sep w (fun _ => False) [.blk B2 (.cells #[.slice none 0 0, .slice none 0 0, .slice none 0 0] 30 (0, 0)), .blk B3 (.cells #[.slice none 0 0, (.slice A5 n5 c5), (.slice A7 n7 c7)] 30 (0, 0)), headA (.slice A5 n5 c5) (T.map LRow.shown), headA (.slice A7 n7 c7) (T.map LRow.all ++ [(As, nl, cs)]), dataA T, .row (Kd.int .i64) 3 (.slice As nl cs) (lentOf p)] (w2.setCell ⟨B3, 2, none⟩ (.slice A7 n7 c7)) := hput
      have HQ3 := Aside0.mk hput
      have hcell := pw_cell_below hput.hB HCW.out
      have f1 : (w2.setCell ⟨B3, 2, none⟩ (.slice A7 n7 c7)).cell? ⟨B3, 1, none⟩ = some (.slice A5 n5 c5) := hput.cell 1 1 rfl
      have hcap : ((p.length : Nat) : Int) ≤ (cs : Int) := by
        have h1 := HRL.out
        have h2 := HNL.out
        rw [lentOf_length] at h2
        omega
      clear hrun hsep f2 HPH HQ1 hput
      go_upto_region 7 with fail
      have hmx : Tryd.prog.follows .mixedOrders = true := by kernel_rfl
      generalize w2.setCell ⟨B3, 2, none⟩ (.slice A7 n7 c7) = w3 at f1 hcell HQ3 ⊢
      have hS0 : w3.drew.cell? ⟨B3, 1, none⟩ = some (.slice A5 n5 c5) ∧ w3.drew.cell? (ad.add x.toNat) = some (.slice Ap p.length cp) := ⟨f1, hcell⟩
      refine wp_region_P (z := 12) (S := fun W' => W'.cell? ⟨B3, 1, none⟩ = some (.slice A5 n5 c5) ∧ W'.cell? (ad.add x.toNat) = some (.slice Ap p.length cp)) hmx ?_
      refine wpAnyP_take (i := 0) (v := .pointer (some ⟨B3, 1, none⟩)) (by kernel_rfl) rfl (by kernel_rfl) (by kernel_rfl) (by kernel_rfl) (fun _ _ _ h => h) (by rfl) (fun W' hS => by obtain ⟨s1, s2⟩ := hS; go_simp) hS0 ?_
      refine wpAnyP_take (i := 1) (v := .slice A5 n5 c5) (by kernel_rfl) rfl (by kernel_rfl) (by kernel_rfl) (by kernel_rfl) (fun _ _ _ h => h) (by rfl) (fun W' hS => by obtain ⟨s1, s2⟩ := hS; go_simp) hS0 ?_
      refine wpAnyP_take (i := 2) (v := .slice As nl cs) (by kernel_rfl) rfl (by kernel_rfl) (by kernel_rfl) (by kernel_rfl) (fun _ _ _ h => h) (by rfl) (fun W' hS => by obtain ⟨s1, s2⟩ := hS; go_simp) hS0 ?_
      refine wpAnyP_take (i := 3) (v := .slice (some ad) l.length c) (by kernel_rfl) rfl (by kernel_rfl) (by kernel_rfl) (by kernel_rfl) (fun _ _ _ h => h) (by rfl) (fun W' hS => by obtain ⟨s1, s2⟩ := hS; go_simp) hS0 ?_
      refine wpAnyP_take (i := 4) (v := .int .i64 x) (by kernel_rfl) rfl (by kernel_rfl) (by kernel_rfl) (by kernel_rfl) (fun _ _ _ h => h) (by rfl) (fun W' hS => by obtain ⟨s1, s2⟩ := hS; go_simp) hS0 ?_
      refine wpAnyP_take (i := 5) (v := .pointer (some (ad.add x.toNat))) (by kernel_rfl) rfl (by kernel_rfl) (by kernel_rfl) (by kernel_rfl) (fun _ _ _ h => h) (by rfl) (fun W' hS => by obtain ⟨s1, s2⟩ := hS; go_simp) hS0 ?_
      refine wpAnyP_take (i := 6) (v := .slice Ap p.length cp) (by kernel_rfl) rfl (by kernel_rfl) (by kernel_rfl) (by kernel_rfl) (fun _ _ _ h => h) (by rfl) (fun W' hS => by obtain ⟨s1, s2⟩ := hS; go_simp) hS0 ?_
      refine wpAnyP_take (i := 7) (v := .int .i64 p.length) (by kernel_rfl) rfl (by kernel_rfl) (by kernel_rfl) (by kernel_rfl) (fun _ _ _ h => h) (by rfl) (fun W' hS => by obtain ⟨s1, s2⟩ := hS; go_simp) hS0 ?_
      refine wpAnyP_take (i := 8) (v := .slice As p.length cs) (by kernel_rfl) rfl (by kernel_rfl) (by kernel_rfl) (by kernel_rfl) (fun _ _ _ h => h) (by rfl) (fun W' hS => by obtain ⟨s1, s2⟩ := hS; go_simp) hS0 ?_
      clear hcell f1
      refine wpAnyP_one (i := 9) (by kernel_rfl) rfl (by rfl) (fun K' hK => ?_)
      go_simp
      refine hK _ _ (.inr ⟨(World.cell?_alloc_lt _ _ _ (World.block_lt_of_cell? _ _ hS0.1)).trans hS0.1, (World.cell?_alloc_lt _ _ _ (World.block_lt_of_cell? _ _ hS0.2)).trans hS0.2⟩) ?_
      clear hK
      refine wpAnyP_one (i := 10) (by kernel_rfl) rfl (by rfl) (fun K' hK => ?_)
      have HA := (HQ3.out.keep (below_drew (Below.refl _ _))).pushH 2 rfl (As, p.length, cs) (HX.out _) (P := Tryd.prog) (t := 22) (ty := 22) Tryd.underlying22 infoLR (by have h1 := HT.out.1; have h2 := HK.out.2; have h3 := HB.out.1; rw [List.length_map]; omega)
      obtain ⟨v2, w4, hrun, hsep, hg⟩ := HA
      obtain ⟨A8, c8, rfl⟩ := Kd.R_slice (hsep.get 2 rfl)
      obtain ⟨n8, hn8⟩ : ∃ q, q = (T.map LRow.shown ++ [(As, p.length, cs)]).length := ⟨_, rfl⟩
      rw [← hn8] at hsep hrun
      have HN8 := Aside0.mk hn8
      clear hn8
      refine wp_append_run (.tmp 25) (.tmp 33) 22 rfl rfl rfl hrun ?_
      have HQ4 : Aside0 (Sep w (fun _ => False) [.blk B2 (.cells #[.slice none 0 0, .slice none 0 0, .slice none 0 0] 30 (0, 0)), .blk B3 (.cells #[.slice none 0 0, (.slice A5 n5 c5), (.slice A7 n7 c7)] 30 (0, 0)), headA (.slice A8 n8 c8) (T.map LRow.shown ++ [(As, p.length, cs)]), headA (.slice A7 n7 c7) (T.map LRow.all ++ [(As, nl, cs)]), dataA T, .row (Kd.int .i64) 3 (.slice As nl cs) (lentOf p)] w4) := ⟨hsep⟩
      have hS4 : w4.cell? ⟨B3, 1, none⟩ = some (.slice A5 n5 c5) ∧ w4.cell? (ad.add x.toNat) = some (.slice Ap p.length cp) := ⟨hsep.cell 1 1 rfl, pw_cell_below hsep.hB HCW.out⟩
      have y1 := hsep.frozen 1 1 rfl
      refine hK _ _ (.inr hS4) ?_
      clear hK hrun hsep hg hS0
      refine wpAnyP_one (i := 11) (by kernel_rfl) rfl (by rfl) (fun K' hK => ?_)
      go_simp
      refine hK _ _ (.inr hS4) ?_
      clear hK
      refine wpAnyP_one (i := 12) (by kernel_rfl) rfl (by rfl) (fun K' hK => ?_)
      have q1 := hS4.1
      go_simp
      refine hK _ _ (.inl rfl) ?_
      clear hK
      refine wpAnyP_done (by kernel_rfl) ?_ _
      clear hS4 q1 y1 hcap
      go_wp2
      go_roundw
      case measure => exact HMS.out
      case rel =>
        have h1 := HQ4.out.put (HX.out _) 1 1 rfl (.slice A8 n8 c8) rfl
        have hll : (lentOf p).length = p.length + 64 := lentOf_length p
        have h2 := (h1.gather 4 5 (by decide) ⟨As, cs, lentOf p, p.length⟩ rfl (by show some _ = some _; rw [HNL.out]) (show p.length ≤ (lentOf p).length by omega)).takeD 5
        have e1 : l.take (k + 1) = l.take k ++ [p] := by rw [List.take_add_one, HP.out]; rfl
        refine ⟨k + 1, _, .slice A8 n8 c8, .slice A7 n7 c7, T ++ [⟨As, cs, lentOf p, p.length⟩], rfl, HX2, ⟨?_, ?_, ?_⟩, ⟨?_⟩⟩
        · rw [List.length_append, HT.out.1]; rfl
        · rw [List.map_append, HT.out.2.1, e1]
          show _ ++ [(lentOf p).take p.length] = _
          rw [show (lentOf p).take p.length = p from List.take_left]
        · rw [List.map_append, HT.out.2.2, e1, List.map_append]; rfl
        · rw [List.map_append, List.map_append]
          have e2 : (T.map LRow.all ++ [(As, nl, cs)]) = T.map LRow.all ++ List.map LRow.all [⟨As, cs, lentOf p, p.length⟩] := by rw [HNL.out]; rfl
          rw [← e2]
          exact h2
    · have HT2 : Aside0 (T.length = l.length ∧ T.map LRow.nums = l ∧ T.map LRow.row = l.map lentOf) := ⟨by
        obtain ⟨t1, t2, t3⟩ := HT.out
        have e : k = l.length := by omega
        rw [e, List.take_length] at t2 t3
        exact ⟨t1.trans e, t2, t3⟩⟩
      have q3 : decide (x < (l.length : Int)) = false := decide_eq_false (by omega)
      have HN5 : Aside0 (n5 = l.length ∧ n6 = l.length) := ⟨by rw [HN56.out.1, HN56.out.2, HT2.out.1]; exact ⟨rfl, rfl⟩⟩
      have HZ : Aside0 (Sep w (fun _ => False) [.blk B2 (.cells #[.slice none 0 0, .slice none 0 0, .slice none 0 0] 30 (0, 0)), .blk B3 (.cells #[.slice none 0 0, .slice A5 n5 c5, .slice A6 n6 c6] 30 (0, 0)), headA (.slice A5 n5 c5) ((T ++ []).map LRow.shown), headA (.slice A6 n6 c6) (T.map LRow.all), dataA (T ++ [])] wr) := ⟨by rw [List.append_nil]; exact HQ.out⟩
      clear hk hlt hxk HK HT HN56 HQ
      go_wp2
      go_loopw [6] (fun v6 wr => ∃ (j : Nat) (y : Int) (A5 : Option Addr) (n5 c5 : Nat) (M : List LRow), v6 = .int .i64 y ∧ Aside0 (y = j ∧ j ≤ 64) ∧ Aside0 (M.map LRow.nums = rowMarks.take j ∧ n5 = l.length + j ∧ M.length = j) ∧ Aside0 (Sep w (fun _ => False) [.blk B2 (.cells #[.slice none 0 0, .slice none 0 0, .slice none 0 0] 30 (0, 0)), .blk B3 (.cells #[.slice none 0 0, .slice A5 n5 c5, .slice A6 n6 c6] 30 (0, 0)), headA (.slice A5 n5 c5) ((T ++ M).map LRow.shown), headA (.slice A6 n6 c6) (T.map LRow.all), dataA (T ++ M)] wr)) (fun i _ => 64 - (intOf i).toNat)
      case atStart => exact ⟨0, 0, _, _, _, [], rfl, ⟨rfl, by omega⟩, ⟨rfl, HN5.out.1, rfl⟩, HZ⟩
      case round =>
        clear HZ
        obtain ⟨j, y, A5, n5, c5, M, rfl, HK, HT, HQ⟩ := hrel
        obtain ⟨hxk, hk⟩ := HK.out
        by_cases hlt : j < 64
        · have q3 : decide (y < 64) = true := decide_eq_true (by omega)
          have HX2 : Aside0 (wrap64 (y + 1) = ((j + 1 : Nat) : Int) ∧ j + 1 ≤ 64) := ⟨by rw [w64 (by omega) (by omega)]; omega, by omega⟩
          have hm : (intOf (.int .i64 (wrap64 (y + 1)))).toNat = j + 1 := by rw [HX2.out.1]; simp [intOf]
          have hm0 : (intOf (.int .i64 y)).toNat = j := by rw [hxk]; simp [intOf]
          have HMS : Aside0 (64 - (intOf (.int .i64 (wrap64 (y + 1)))).toNat < 64 - (intOf (.int .i64 y)).toNat) := ⟨by rw [hm, hm0]; omega⟩
          have f1 : wr.cell? ⟨B3, 1, none⟩ = some (.slice A5 n5 c5) := HQ.out.cell 1 1 rfl
          have HXK := Aside0.mk hxk
          clear hm hm0 hk hlt hxk
          go_upto_region 11 with fail
          have hmx : Tryd.prog.follows .mixedOrders = true := by kernel_rfl
          have hS0 : wr.drew.cell? ⟨B3, 1, none⟩ = some (.slice A5 n5 c5) := f1
          refine wp_region_P (z := 8) (S := fun W' => W'.cell? ⟨B3, 1, none⟩ = some (.slice A5 n5 c5)) hmx ?_
          refine wpAnyP_take (i := 0) (v := .pointer (some ⟨B3, 1, none⟩)) (by kernel_rfl) rfl (by kernel_rfl) (by kernel_rfl) (by kernel_rfl) (fun _ _ _ h => h) (by rfl) (fun W' hS => by go_simp) hS0 ?_
          refine wpAnyP_take (i := 1) (v := .slice A5 n5 c5) (by kernel_rfl) rfl (by kernel_rfl) (by kernel_rfl) (by kernel_rfl) (fun _ _ _ h => h) (by rfl) (fun W' hS => by go_simp) hS0 ?_
          refine wpAnyP_take (i := 2) (v := .int .i64 y) (by kernel_rfl) rfl (by kernel_rfl) (by kernel_rfl) (by kernel_rfl) (fun _ _ _ h => h) (by rfl) (fun W' hS => by go_simp) hS0 ?_
          clear f1
          refine wpAnyP_one (i := 3) (by kernel_rfl) rfl (by rfl) (fun K' hK => ?_)
          go_simp
          refine (mark_still 1 y _).mono ?_
          rintro e w' ⟨rfl, rfl⟩
          refine hK _ _ (.inr hS0) ?_
          clear hK
          refine wpAnyP_one (i := 4) (by kernel_rfl) rfl (by rfl) (fun K' hK => ?_)
          go_simp
          have hS4 : (wr.drew.alloc (.cells #[.int .i64 (mk 1 y)] 3)).cell? ⟨B3, 1, none⟩ = some (.slice A5 n5 c5) := (World.cell?_alloc_lt _ _ _ (World.block_lt_of_cell? _ _ hS0)).trans hS0
          refine hK _ _ (.inr hS4) ?_
          clear hK
          have HR4 := (HQ.out.keep (below_drew (Below.refl _ _))).push (below_alloc (Below.refl _ _) (.cells #[.int .i64 (mk 1 y)] 3 (0, 0))) (HX.out _) (A := .row (Kd.int .i64) 3 (.slice (some ⟨wr.drew.heap.size, 0, none⟩) 1 1) [mk 1 y]) (row_of (ok := fun _ => True) (Kd.R_of_own (own_lit wr.drew wr.drew.heap.size 3 .i64 [mk 1 y] (Nat.le_refl _) (show 1 ≤ 9223372036854775807 by decide)) fun _ _ => trivial))
          have HP := HR4.pushH 2 rfl (some ⟨wr.drew.heap.size, 0, none⟩, 1, 1) (HX.out _) (P := Tryd.prog) (t := 22) (ty := 22) Tryd.underlying22 infoLR (by
            have h1 := HT.out.2.1
            have h2 := HK.out.2
            have h3 := HB.out.1
            have h4 := (Kd.R_reads' (HQ.out.get 2 rfl)).1
            omega)
          rw [show (wr.drew.alloc (.cells #[.int .i64 (mk 1 y)] 3 (0, 0))).heap.size = wr.heap.size + 1 from by simp] at HP
          have HP := Aside0.mk HP
          clear HR4
          refine wpAnyP_one (i := 5) (by kernel_rfl) rfl (by rfl) (fun K' hK => ?_)
          go_simp
          refine hK _ _ (.inr ((World.cell?_alloc_lt _ _ _ (World.block_lt_of_cell? _ _ hS4)).trans hS4)) ?_
          clear hK
          refine wpAnyP_one (i := 6) (by kernel_rfl) rfl (by rfl) (fun K' hK => ?_)
          obtain ⟨v2, w4, hrun, hsep, hg⟩ := HP.out
          obtain ⟨A8, c8, rfl⟩ := Kd.R_slice (hsep.get 2 rfl)
          obtain ⟨n8, hn8⟩ : ∃ q, q = ((T ++ M).map LRow.shown ++ [(some (⟨wr.drew.heap.size, 0, none⟩ : Addr), 1, 1)]).length := ⟨_, rfl⟩
          rw [← hn8] at hsep hrun
          have HN8 := Aside0.mk hn8
          clear hn8
          refine wp_append_run (.tmp 41) (.tmp 45) 22 rfl rfl rfl hrun ?_
          have HQ4 : Aside0 (Sep w (fun _ => False) [.blk B2 (.cells #[.slice none 0 0, .slice none 0 0, .slice none 0 0] 30 (0, 0)), .blk B3 (.cells #[.slice none 0 0, .slice A5 n5 c5, .slice A6 n6 c6] 30 (0, 0)), headA (.slice A8 n8 c8) ((T ++ M).map LRow.shown ++ [(some (⟨wr.drew.heap.size, 0, none⟩ : Addr), 1, 1)]), headA (.slice A6 n6 c6) (T.map LRow.all), dataA (T ++ M), .row (Kd.int .i64) 3 (.slice (some ⟨wr.drew.heap.size, 0, none⟩) 1 1) [mk 1 y]] w4) := ⟨hsep⟩
          have hS5 : w4.cell? ⟨B3, 1, none⟩ = some (.slice A5 n5 c5) := hsep.cell 1 1 rfl
          have y1 := hsep.frozen 1 1 rfl
          refine hK _ _ (.inr hS5) ?_
          clear hK hrun hsep hg hS0 hS4 HP
          refine wpAnyP_one (i := 7) (by kernel_rfl) rfl (by rfl) (fun K' hK => ?_)
          go_simp
          refine hK _ _ (.inr hS5) ?_
          clear hK
          refine wpAnyP_one (i := 8) (by kernel_rfl) rfl (by rfl) (fun K' hK => ?_)
          go_simp
          refine hK _ _ (.inl rfl) ?_
          clear hK
          refine wpAnyP_done (by kernel_rfl) ?_ _
          clear hS5 y1
          go_wp2
          go_roundw
          case measure => exact HMS.out
          case rel =>
            have h1 := HQ4.out.put (HX.out _) 1 1 rfl (.slice A8 n8 c8) rfl
            have h2 := (h1.gather 4 5 (by decide) ⟨some ⟨wr.drew.heap.size, 0, none⟩, 1, [mk 1 y], 1⟩ rfl rfl (Nat.le_refl _)).takeD 5
            have hj := HX2.out.2
            refine ⟨j + 1, _, A8, n8, c8, M ++ [⟨some ⟨wr.drew.heap.size, 0, none⟩, 1, [mk 1 y], 1⟩], rfl, HX2, ⟨?_, ?_, ?_⟩, ⟨?_⟩⟩
            · rw [List.map_append, HT.out.1, List.take_add_one]
              have e : rowMarks[j]? = some [mk 1 y] := by
                rw [HXK.out]
                simp only [rowMarks, List.getElem?_map, List.getElem?_range (show j < 64 by omega)]
                rfl
              rw [e]
              rfl
            · have h4 := (Kd.R_reads' (HQ.out.get 2 rfl)).1
              have h5 := HT.out.2.1
              rw [HN8.out, List.length_append, ← h4, h5]
              rfl
            · rw [List.length_append, HT.out.2.2]; rfl
            · rw [← List.append_assoc, List.map_append]
              exact h2
        · have q3 : decide (y < 64) = false := decide_eq_false (by omega)
          obtain rfl : j = 64 := by omega
          have hcap : (l.length : Int) ≤ (c5 : Int) := by
            have h1 := (Kd.R_reads' (HQ.out.get 2 rfl)).2.1
            have h2 := HT.out.2.1
            omega
          have f1 : wr.cell? ⟨B3, 1, none⟩ = some (.slice A5 n5 c5) := HQ.out.cell 1 1 rfl
          have f2 : wr.cell? ⟨B3, 2, none⟩ = some (.slice A6 n6 c6) := HQ.out.cell 1 2 rfl
          have f0 : wr.cell? ⟨B3, 0, none⟩ = some (.slice none 0 0) := HQ.out.cell 1 0 rfl
          have y0 : wr.frozen? ⟨B3, 0, none⟩ = false := HQ.out.frozen 1 0 rfl
          have y1 : wr.frozen? ⟨B2, 0, none⟩ = false := HQ.out.frozen 0 0 rfl
          have y2 : wr.frozen? ⟨B2, 1, none⟩ = false := HQ.out.frozen 0 1 rfl
          have y3 : wr.frozen? ⟨B2, 2, none⟩ = false := HQ.out.frozen 0 2 rfl
          have g0 : wr.cell? ⟨B2, 0, none⟩ = some (.slice none 0 0) := HQ.out.cell 0 0 rfl
          have g1 : wr.cell? ⟨B2, 1, none⟩ = some (.slice none 0 0) := HQ.out.cell 0 1 rfl
          have g2 : wr.cell? ⟨B2, 2, none⟩ = some (.slice none 0 0) := HQ.out.cell 0 2 rfl
          have hne : B2 ≠ B3 := HQ.out.ne 0 1 (by decide) rfl rfl blk_blk blk_blk
          have HH := Aside0.mk (And.intro hxk hk)
          clear hk hlt hxk
          go_wp2_with fail
          have hp := (((HQ.out.put (HX.out _) 1 0 rfl (.slice A5 l.length c5) rfl).put (HX.out _) 0 0 rfl (.slice A5 l.length c5) rfl).put (HX.out _) 0 1 rfl (.slice A5 n5 c5) rfl).put (HX.out _) 0 2 rfl (.slice A6 n6 c6) rfl
          have HP : Aside0 (Sep w (fun _ => False) [.blk B2 (.cells #[.slice A5 l.length c5, .slice A5 n5 c5, .slice A6 n6 c6] 30 (0, 0)), .blk B3 (.cells #[.slice A5 l.length c5, .slice A5 n5 c5, .slice A6 n6 c6] 30 (0, 0)), headA (.slice A5 n5 c5) ((T ++ M).map LRow.shown), headA (.slice A6 n6 c6) (T.map LRow.all), dataA (T ++ M)] ((((wr.setCell ⟨B3, 0, none⟩ (.slice A5 l.length c5)).setCell ⟨B2, 0, none⟩ (.slice A5 l.length c5)).setCell ⟨B2, 1, none⟩ (.slice A5 n5 c5)).setCell ⟨B2, 2, none⟩ (.slice A6 n6 c6))) := ⟨hp⟩
          clear hp f0 f1 f2 y0 y1 y2 y3 g0 g1 g2
          generalize (((wr.setCell ⟨B3, 0, none⟩ (.slice A5 l.length c5)).setCell ⟨B2, 0, none⟩ (.slice A5 l.length c5)).setCell ⟨B2, 1, none⟩ (.slice A5 n5 c5)).setCell ⟨B2, 2, none⟩ (.slice A6 n6 c6) = W9 at HP ⊢
          have r0 : W9.cell? ⟨B2, 0, none⟩ = some (.slice A5 l.length c5) := HP.out.cell 0 0 rfl
          have r1 : W9.cell? ⟨B2, 1, none⟩ = some (.slice A5 n5 c5) := HP.out.cell 0 1 rfl
          have r2 : W9.cell? ⟨B2, 2, none⟩ = some (.slice A6 n6 c6) := HP.out.cell 0 2 rfl
          refine bodyPost_ret (v := .agg #[.slice A5 l.length c5, .slice A5 n5 c5, .slice A6 n6 c6]) (by simp [results, Tryd.results8, go_sem, r0, r1, r2]) rfl ?_
          have e5 := (Kd.R_reads' (HP.out.get 2 rfl)).1
          have e6 := (Kd.R_reads' (HP.out.get 3 rfl)).1
          rw [List.length_map] at e5 e6
          have hsep := HP.out.dropD 2
          rw [e5, e6] at hsep ⊢
          refine ⟨A5, A6, c5, c6, T, M, rfl, HT2.out.2.1, HT2.out.2.2, ?_, hsep⟩
          rw [HT.out.1]
          rfl
end Go.Proofs.YtggnnnddnppcpaaDoorHand
/-! text YtggnnnddnppcpaaDoorStoreOp -/
namespace Go.Proofs.YtggnnnddnppcpaaDoorOwn
open Go Go.RowKit Go.Proofs.YtggnnnddnppcpaaDoorW.PrintWords
set_option linter.unusedSimpArgs false
section
variable {w : World} {B : Nat} {x0 y0 z0 : Value}
end
end Go.Proofs.YtggnnnddnppcpaaDoorOwn
/-! text YtggnnnddnppcpaaDoorSepFill -/
namespace Go.Proofs.YtggnnnddnppcpaaDoorOwn
open Go Go.RowKit Go.Proofs.YtggnnnddnppcpaaDoorW.PrintWords
set_option linter.unusedVariables false
set_option linter.unusedSimpArgs false
section
variable {w W W1 : World} {X : Nat → Prop} {l : List Asr} {A A' B C : Asr}
/-- a free place is filled -/
theorem Sep.fill (h : Sep w X l W) (i : Nat) (hi : l[i]? = some .emp) (hb : Below W.heap.size W W1) (hX : ∀ b, X b → b < W.heap.size) (hA : A.P W1 (fun b => W.heap.size ≤ b)) : Sep w X (l.set i A) W1 :=
  h.upd i hi (M := fun _ => False) (Grow.of_below hb) hX (fun _ _ _ h => h.elim) fun ok _ hnew => Asr.mono hA fun b hb _ => hnew b hb
/-- one that is two is told as two -/
theorem Sep.cut (h : Sep w X l W) (i : Nat) (hi : l[i]? = some (A.sep B)) : Sep w X (l.set i A ++ [B]) W := by
  classical
  obtain ⟨f, hf⟩ := h.tags
  obtain ⟨g, h1, h2⟩ := hf i _ hi
  have hil := (List.getElem?_eq_some_iff.1 hi).1
  refine ⟨h.hB, fun b => if f b = i then (if g b then i else l.length) else f b, fun q D hq => ?_⟩
  rcases Nat.lt_or_ge q l.length with hl | hl
  · rw [List.getElem?_append_left (by rw [List.length_set]; exact hl)] at hq
    by_cases hqi : q = i
    · subst hqi
      rw [List.getElem?_set_self hil] at hq
      obtain rfl := Option.some.inj hq
      refine Asr.mono h1 fun b h3 _ => ⟨?_, h3.1.2⟩
      show (if f b = q then (if g b then q else l.length) else f b) = q
      rw [if_pos h3.1.1, if_pos h3.2]
    · rw [List.getElem?_set_ne (fun e => hqi e.symm)] at hq
      refine Asr.mono (hf q D hq) fun b h3 _ => ⟨?_, h3.2⟩
      show (if f b = i then (if g b then i else l.length) else f b) = q
      rw [if_neg (fun e => hqi (h3.1.symm.trans e)), h3.1]
  · rw [List.getElem?_append_right (by rw [List.length_set]; exact hl), List.length_set] at hq
    have h4 : q - l.length = 0 := by
      have := (List.getElem?_eq_some_iff.1 hq).1
      simp at this
      omega
    rw [h4] at hq
    have hD : B = D := by simpa using hq
    subst hD
    refine Asr.mono h2 fun b h3 _ => ⟨?_, h3.1.2⟩
    show (if f b = i then (if g b then i else l.length) else f b) = q
    rw [if_pos h3.1.1, if_neg h3.2]
    omega
end
section
variable {P : Program} {ops : Array Oper} {Q : Exit → Act → World → Prop} {md : Region.Mode} {S : World → Prop}
end
end Go.Proofs.YtggnnnddnppcpaaDoorOwn
/-! text YtggnnnddnppcpaaDoorLentUse -/
namespace Go.Proofs.YtggnnnddnppcpaaDoorOwn
open Go Go.RowKit Go.Proofs.YtggnnnddnppcpaaDoorW.PrintWords Go.Proofs.YtggnnnddnppcpaaDoorHand
set_option linter.unusedVariables false
set_option linter.unusedSimpArgs false
def hdA : Value → Option Addr | .slice A _ _ => A | _ => none
def hdC : Value → Nat | .slice _ _ c => c | _ => 0
def mkRow (q : Value × List Int) : LRow := ⟨hdA q.1, hdC q.1, q.2, q.2.length⟩
theorem S_lrows {W : World} {base : Nat} {ok : Nat → Prop} {v : Value} {xs : List (List Int)} (h : Kd.S (Kd.slice 3 (Kd.int .i64)) 40 W base ok v xs) :
    ∃ U : List LRow, U.map LRow.row = xs ∧ (∀ t ∈ U, t.k = t.row.length) ∧ ((headA v (U.map LRow.shown)).sep (dataA U)).P W ok := by
  obtain ⟨f, h0, inner, ho, hr⟩ := h
  rw [List.length_zipIdx] at ho
  have hsz : (Kd.tag f (Kd.slice 3 (Kd.int .i64))).sz = 1 := rfl
  rw [hsz] at ho hr
  have hil : inner.length = xs.length := by have := ho.1; omega
  have hrow : ∀ (i : Nat) x, xs[i]? = some x → ∃ A c, inner[i]? = some (.slice A x.length c) ∧ Kd.R (Kd.int .i64) 3 W 0 (fun b => (ok b ∧ some b ≠ v.ownBlock) ∧ f b = i) (.slice A x.length c) x := fun i x hx => by
    obtain ⟨u', hu', hR⟩ := hr.2 i (x, i) (Kd.zip_at hx)
    have hlt := (List.getElem?_eq_some_iff.1 hx).1
    obtain ⟨A, c, rfl⟩ := Kd.R_slice hR
    refine ⟨A, c, ?_, Kd.R_lower (Kd.R_mono hR fun b hb => hb) (Nat.zero_le _)⟩
    have h3 : ((inner.drop (i * 1)).take 1)[0]? = some (Value.slice A x.length c) := by rw [hu']; rfl
    rw [Nat.mul_one, List.getElem?_take, if_pos (by omega), List.getElem?_drop, Nat.add_zero] at h3
    exact h3
  have hU : ∀ (i : Nat) t, ((inner.zip xs).map mkRow)[i]? = some t → ∃ x A c, xs[i]? = some x ∧ inner[i]? = some (.slice A x.length c) ∧ t = ⟨A, c, x, x.length⟩ := fun i t ht => by
    rw [List.getElem?_map] at ht
    obtain ⟨q, hq, rfl⟩ := Option.map_eq_some_iff.1 ht
    rw [List.getElem?_zip_eq_some] at hq
    obtain ⟨A, c, h1, _⟩ := hrow i q.2 hq.2
    refine ⟨q.2, A, c, hq.2, h1, ?_⟩
    have h4 := hq.1
    rw [h1] at h4
    injection h4 with h4
    unfold mkRow
    rw [← h4]
    rfl
  refine ⟨(inner.zip xs).map mkRow, ?_, fun t ht => ?_, fun b => v.ownBlock = some b, ?_, f, fun i t ht => ?_⟩
  · rw [List.map_map]
    exact List.map_snd_zip (by omega)
  · obtain ⟨q, _, rfl⟩ := List.mem_map.1 ht
    rfl
  · have hl : (((inner.zip xs).map mkRow).map LRow.shown).length = xs.length := by rw [List.length_map, List.length_map, List.length_zip]; omega
    refine ⟨fun b hb => ⟨h0 b hb, hb⟩, inner, by rw [hl]; exact own_weaken ho (Nat.zero_le _), ⟨by rw [hl]; show inner.length = xs.length * 1; omega, fun i p hp => ?_⟩⟩
    rw [List.getElem?_map] at hp
    obtain ⟨t, ht, rfl⟩ := Option.map_eq_some_iff.1 hp
    obtain ⟨x, A, c, hx, hi, rfl⟩ := hU i t ht
    show (inner.drop (i * 1)).take 1 = [.slice A x.length c]
    have hlt := (List.getElem?_eq_some_iff.1 hi).1
    rw [Nat.mul_one, List.drop_eq_getElem_cons hlt, List.take_succ_cons, List.take_zero, (List.getElem?_eq_some_iff.1 hi).2]
  · obtain ⟨x, A, c, hx, hi, rfl⟩ := hU i t ht
    obtain ⟨A', c', h1, h2⟩ := hrow i x hx
    rw [hi] at h1
    injection h1 with h1
    injection h1 with e1 _ e3
    subst e1 e3
    exact ⟨Kd.R_mono h2 fun b hb => ⟨⟨hb.1.1, fun e => hb.1.2 e.symm⟩, hb.2⟩, Nat.le_refl _⟩
section
variable {w W : World} {X : Nat → Prop} {l : List Asr}
/-- what a list of the heads that are shown shows -/
theorem shown_C (h : Sep w X l W) (iw id : Nat) {A : Option Addr} {n c : Nat} {U : List LRow} (hw : l[iw]? = some (headA (.slice A n c) (U.map LRow.shown))) (hd : l[id]? = some (dataA U)) :
    n = U.length ∧ n ≤ c ∧ Kd.C (Kd.slice 3 (Kd.int .i64)) W A U.length (U.map LRow.nums) := heads_C (h.get iw hw) (h.get id hd) (fun i t ht => ⟨i, ht⟩) fun t ht => ⟨t.k, rfl, ht, rfl⟩
theorem all_C (h : Sep w X l W) (ir id : Nat) {A : Option Addr} {n c : Nat} {T M : List LRow} (hw : l[ir]? = some (headA (.slice A n c) (T.map LRow.all))) (hd : l[id]? = some (dataA (T ++ M))) :
    n = T.length ∧ n ≤ c ∧ Kd.C (Kd.slice 3 (Kd.int .i64)) W A T.length (T.map LRow.row) := heads_C (h.get ir hw) (h.get id hd) (fun i t ht => ⟨i, by rw [List.getElem?_append_left (List.getElem?_eq_some_iff.1 ht).1]; exact ht⟩) fun t ht => ⟨t.row.length, rfl, Nat.le_refl _, by rw [List.take_length]⟩
theorem data_k (h : Sep w X l W) (id : Nat) {U : List LRow} (hd : l[id]? = some (dataA U)) : ∀ t ∈ U, t.k ≤ t.row.length := fun t ht => by
  obtain ⟨i, hi⟩ := List.getElem?_of_mem ht
  exact (data_get (h.get id hd) i hi).2.1
end
theorem turnAt_shown (k : Nat) (U : List LRow) : (turnAt k 0 U).map LRow.shown = U.map LRow.shown := by
  refine List.ext_getElem? fun m => ?_
  rw [List.getElem?_map, List.getElem?_map]
  cases h : U[m]? with
  | none => rw [turnAt_none h]
  | some t =>
    rw [turnAt_at h]
    by_cases h1 : m < k
    · rw [if_pos h1]; rfl
    · rw [if_neg h1]
      by_cases h2 : m = k
      · rw [if_pos h2, upto_zero]
      · rw [if_neg h2]
theorem upto_nums {t : LRow} (h : t.k ≤ t.row.length) : (upto t.k t).nums = t.nums.map negw := by
  show ((t.row.take t.k).map negw ++ t.row.drop t.k).take t.k = (t.row.take t.k).map negw
  exact List.take_left' (by rw [List.length_map, List.length_take]; omega)
theorem turnAt_nums {T M : List LRow} (h : ∀ t ∈ T ++ M, t.k ≤ t.row.length) : ((turnAt T.length 0 (T ++ M)).map LRow.nums).take T.length = (T.map LRow.nums).map (List.map negw) := by
  refine List.ext_getElem? fun m => ?_
  rw [List.getElem?_take, List.getElem?_map, List.getElem?_map, List.getElem?_map]
  by_cases hm : m < T.length
  · have h1 : (T ++ M)[m]? = some T[m] := by rw [List.getElem?_append_left hm, List.getElem?_eq_getElem hm]
    rw [if_pos hm, turnAt_at h1, if_pos hm, List.getElem?_eq_getElem hm]
    simp only [Option.map_some]
    rw [upto_nums (h _ (List.mem_append_left _ (List.getElem_mem hm)))]
  · rw [if_neg hm, List.getElem?_eq_none (by omega)]
    rfl
theorem likeD_turn (T M : List LRow) (n : Nat) : LikeD T (turnAt n 0 (T ++ M)) := fun i t ht => by
  have h1 : (T ++ M)[i]? = some t := by rw [List.getElem?_append_left (List.getElem?_eq_some_iff.1 ht).1]; exact ht
  refine ⟨_, turnAt_at h1, ?_⟩
  by_cases h2 : i < n
  · rw [if_pos h2]; exact ⟨rfl, rfl, upto_row_length _ _⟩
  · rw [if_neg h2]
    by_cases h3 : i = n
    · rw [if_pos h3]; exact ⟨rfl, rfl, upto_row_length _ _⟩
    · rw [if_neg h3]; exact ⟨rfl, rfl, rfl⟩
end Go.Proofs.YtggnnnddnppcpaaDoorOwn
namespace Go.Proofs.YtggnnnddnppcpaaDoorHand
open Go.RowKit Go.Proofs.YtggnnnddnppcpaaDoorW.PrintWords Go.Proofs.YtggnnnddnppcpaaDoorW.PrintLast Go.Proofs.YtggnnnddnppcpaaDoorMath Go.Proofs.YtggnnnddnppcpaaDoorOwn
open Go.Proofs.YtggnnnddnppcpaaDoor.PCnfKeepsTidy
set_option linter.unusedVariables false
set_option linter.unusedSimpArgs false

/-- a walk stops ahead of such a goal -/
structure HoldU (p : Prop) : Prop where
  out : p

set_option maxHeartbeats 8000000 in
set_option maxRecDepth 100000 in
theorem turned_calls (v : Int) (A : Option Addr) (c : Nat) (l : List (List Int)) (w : World) (hr : Kd.C (Kd.slice 3 (Kd.int .i64)) w A l.length l) (hc : l.length ≤ c) (hn : l.length ≤ 1099511627776) (hs : ∀ x ∈ l, x.length ≤ 1099511627776) :
    Calls Tryd.prog 10 #[.agg #[.int .i64 v, .slice A l.length c]] w fun e w' => ∃ (A' : Option Addr) (c' : Nat), e = .returned (.agg #[.int .i64 v, .slice A' l.length c']) ∧
      (Asr.foot fun W => Kd.C (Kd.slice 3 (Kd.int .i64)) W A' l.length (l.map (List.map negw))).P w' (fun b => w.heap.size ≤ b) ∧ l.length ≤ c' ∧ Below w.heap.size w w' := by
  have HR := Aside0.mk hr
  have HC := Aside0.mk hc
  have HB := Aside0.mk (And.intro hn hs)
  have HX : Aside0 (∀ (W : World) b, (fun _ : Nat => False) b → b < W.heap.size) := ⟨fun _ _ h => h.elim⟩
  clear hr hc hn hs
  have hN := ((Sep.start (Below.refl w.heap.size w) (fun _ => False)).new (HX.out _) (.cells #[.int .i64 v, .slice A l.length c] 24 (0, 0))).new (HX.out _) (.cells #[.int .i64 0, .slice none 0 0] 24 (0, 0))
  rw [World.size_alloc] at hN
  have HN := Aside0.mk hN
  clear hN
  go_enter Tryd.func10, Tryd.ntmps10
  go_wp2_with (go_at_call 31; refine HoldU.out ?_)
  refine ⟨?_⟩
  obtain ⟨k, hk⟩ := (depotref00_CopyFormula_ev v l (by have := HB.out.1; omega) (fun x hx => by have := HB.out.2 x hx; omega)).rounds
  refine (depotref00_CopyFormula.calls k v A c l _ _ _ (Kd.C_below HR.out HN.out.hB) HC.out hk).mono ?_
  rintro e w1 ⟨u, rfl, hS, hb⟩
  obtain ⟨A1, c1, rfl⟩ := Kd.S_slice hS
  obtain ⟨U, hU, hUk, hP⟩ := S_lrows (rows_of hS)
  have hUl : U.length = l.length := by rw [← hU, List.length_map]
  have h2 := ((HN.out.push hb (HX.out _) hP).cut 2 rfl).new (HX.out _) (.cells #[.int .i64 v, .slice A1 l.length c1] 24 (0, 0))
  have HQ : Aside0 (Sep w (fun _ => False) [.blk w.heap.size (.cells #[.int .i64 v, .slice A l.length c] 24 (0, 0)), .blk (w.heap.size + 1) (.cells #[.int .i64 0, .slice none 0 0] 24 (0, 0)), headA (.slice A1 l.length c1) (U.map LRow.shown), dataA U, .blk w1.heap.size (.cells #[.int .i64 v, .slice A1 l.length c1] 24 (0, 0))] (w1.alloc (.cells #[.int .i64 v, .slice A1 l.length c1] 24 (0, 0)))) := ⟨h2⟩
  have HT := Aside0.mk (turn_calls HQ.out (HX.out _) 2 3 (by decide) rfl rfl l.length (by omega) ⟨HB.out.1, fun t ht => by
    rw [hUk t ht]
    exact HB.out.2 t.row (by rw [← hU]; exact List.mem_map_of_mem ht)⟩)
  have HU := Aside0.mk (And.intro hU (And.intro hUk hUl))
  obtain ⟨Bg, hBg⟩ : ∃ q, q = w1.heap.size := ⟨_, rfl⟩
  obtain ⟨Bf, hBf⟩ : ∃ q, q = w.heap.size + 1 := ⟨_, rfl⟩
  clear hS hP h2 hb hk HN hU hUk hUl
  go_wp2_with (go_at_call 12; refine HoldU.out ?_)
  refine ⟨?_⟩
  refine HT.out.mono ?_
  rintro e w2 ⟨rfl, hsep⟩
  rw [← hBg, ← hBf] at hsep ⊢
  have HS : Aside0 (Sep w (fun _ => False) [.blk w.heap.size (.cells #[.int .i64 v, .slice A l.length c] 24 (0, 0)), .blk Bf (.cells #[.int .i64 0, .slice none 0 0] 24 (0, 0)), headA (.slice A1 l.length c1) (U.map LRow.shown), dataA (turnAt l.length 0 U), .blk Bg (.cells #[.int .i64 v, .slice A1 l.length c1] 24 (0, 0))] w2) := ⟨hsep⟩
  have f1 : w2.cell? ⟨Bg, 0, none⟩ = some (.int .i64 v) := hsep.cell 4 0 rfl
  have f2 : w2.cell? ⟨Bg, 1, none⟩ = some (.slice A1 l.length c1) := hsep.cell 4 1 rfl
  have f3 : w2.cell? ⟨Bf, 0, none⟩ = some (.int .i64 0) := hsep.cell 1 0 rfl
  have f4 : w2.cell? ⟨Bf, 1, none⟩ = some (.slice none 0 0) := hsep.cell 1 1 rfl
  have f5 : w2.frozen? ⟨Bf, 0, none⟩ = false := hsep.frozen 1 0 rfl
  have f6 : w2.frozen? ⟨Bf, 1, none⟩ = false := hsep.frozen 1 1 rfl
  clear hsep hBg hBf HT HQ
  go_wp2_with fail
  have hp := (HS.out.put (HX.out _) 1 0 rfl (.int .i64 v) rfl).put (HX.out _) 1 1 rfl (.slice A1 l.length c1) rfl
  have hT : Sep w (fun _ => False) [.blk w.heap.size (.cells #[.int .i64 v, .slice A l.length c] 24 (0, 0)), .blk Bf (.cells #[.int .i64 v, .slice A1 l.length c1] 24 (0, 0)), headA (.slice A1 l.length c1) ((turnAt l.length 0 U).map LRow.shown), dataA (turnAt l.length 0 U), .blk Bg (.cells #[.int .i64 v, .slice A1 l.length c1] 24 (0, 0))] ((w2.setCell ⟨Bf, 0, none⟩ (.int .i64 v)).setCell ⟨Bf, 1, none⟩ (.slice A1 l.length c1)) := by
    rw [turnAt_shown]
    exact hp
  have HT := Aside0.mk hT
  clear hp hT HS f1 f2 f3 f4 f5 f6
  generalize (w2.setCell ⟨Bf, 0, none⟩ (.int .i64 v)).setCell ⟨Bf, 1, none⟩ (.slice A1 l.length c1) = W3 at HT ⊢
  have r1 : W3.cell? ⟨Bf, 0, none⟩ = some (.int .i64 v) := HT.out.cell 1 0 rfl
  have r2 : W3.cell? ⟨Bf, 1, none⟩ = some (.slice A1 l.length c1) := HT.out.cell 1 1 rfl
  refine bodyPost_ret (v := .agg #[.int .i64 v, .slice A1 l.length c1]) (by simp [results, Tryd.results10, go_sem, r1, r2]) rfl ?_
  obtain ⟨e1, e2, e3⟩ := shown_C HT.out 2 3 rfl rfl
  have hl := HU.out.2.2
  have e4 : (turnAt l.length 0 U).map LRow.nums = l.map (List.map negw) := by
    have h1 := turnAt_nums (T := U) (M := []) (fun t ht => by rw [HU.out.2.1 t (by simpa using ht)]; exact Nat.le_refl _)
    rw [List.append_nil, hl, List.take_of_length_le (by rw [List.length_map, turnAt_length, hl]; exact Nat.le_refl _)] at h1
    rw [h1]
    have h2 : U.map LRow.nums = U.map LRow.row := List.map_congr_left fun t ht => by show t.row.take t.k = t.row; rw [HU.out.2.1 t ht, List.take_length]
    rw [h2, HU.out.1]
  refine ⟨A1, c1, rfl, fun W1 hz hk => ?_, e2, HT.out.hB⟩
  have g1 := (headA (.slice A1 l.length c1) ((turnAt l.length 0 U).map LRow.shown)).step (ok' := fun _ => True) (HT.out.get 2 rfl) hz fun k h1 h2 => ⟨hk k h1.1 h2, trivial⟩
  have g2 := (dataA (turnAt l.length 0 U)).step (ok' := fun _ => True) (HT.out.get 3 rfl) hz fun k h1 h2 => ⟨hk k h1.1 h2, trivial⟩
  have e5 := (heads_C (nm := LRow.nums) g1 g2 (fun i t ht => ⟨i, ht⟩) fun t ht => ⟨t.k, rfl, ht, rfl⟩).2.2
  rw [turnAt_length, HU.out.2.2, e4] at e5
  exact e5
end Go.Proofs.YtggnnnddnppcpaaDoorHand
