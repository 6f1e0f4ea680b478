/- depotkit.LentRows: lists that are lent, with rows beside them. -/
import Derived.Test.YtggnnnddnppcpaaClCnfKeepsModelsf
import Derived.Test.YtggnnnddnppcpaaClCnfKeepsModelsg
import Derived.Deep.Cut
import Derived.Tactics
import Derived.Test.YtggnnnddnppcpaaClCnfKeepsModelsb
/-! text YtggnnnddnppcpaaLentRows -/
namespace Go.Proofs.YtggnnnddnppcpaaHand
open Go.RowKit Go.Proofs.YtggnnnddnppcpaaW.PrintWords Go.Proofs.YtggnnnddnppcpaaW.PrintLast Go.Proofs.YtggnnnddnppcpaaMath Go.Proofs.YtggnnnddnppcpaaOwn Go.Proofs.Ytggnnnddnppcpaa.PCnfKeepsJoin
set_option linter.unusedVariables false
set_option linter.unusedSimpArgs false
theorem infoLR : (Try.prog.info? 43).map (fun i => (i.zero, i.size, i.bytes)) = some (some (.slice none 0 0), 1, 24) := by kernel_rfl
/-- an append whose run is known -/
theorem wp_append_run {P : Program} {o : Oper} {a : Act} {w w' : World} {K : Act → World → Prop} {Q : Exit → Act → World → Prop} (s x : Operand) (t : TypeId) (hop : o.op = Op.call { callee := Callee.builtin Builtin.append, args := #[s, x], argTypes := #[t, t] })
    {v vx v' : Value} (hs : a.eval s = v) (hx : a.eval x = vx) (hrun : (Builtin.append_ #[t, t] o.type #[v, vx]).run P w = .ok v' w') (h : K (a.put o.dst v') w') : Oper.wp P o a w K Q := by
  unfold Oper.wp
  simp [execOp, hop, resolve, invoke, builtin, hs, hx, hrun, Result.andThen, Oper.upon]
  exact h
/-- a walk stops ahead of such a goal -/
structure HoldD (p : Prop) : Prop where
  out : p
theorem lentD_calls (A : Option Addr) (c : Nat) (l : List Int) (w : World) (hr : Kd.C (Kd.int .i64) w A l.length l) (hc : l.length ≤ c) (hn : l.length ≤ 1099511627776) :
    Calls Try.prog 46 #[.slice A l.length c] w fun e w' => ∃ (v : Value), e = .returned v ∧ Kd.R (Kd.int .i64) 3 w' w.heap.size (fun _ => True) v (lentOf l) ∧ Below w.heap.size w w' := by
  obtain ⟨k, hk⟩ := (depotkit_Lent_ev l (by omega)).rounds
  exact depotkit_Lent.calls k A c l _ w hr hc hk
/-- an element of a list of lists that is read -/
theorem elem_at {w : World} {A : Option Addr} {n : Nat} {l : List (List Int)} (h : Kd.C (Kd.slice 3 (Kd.int .i64)) w A n l) {k : Nat} {p : List Int} (hk : l[k]? = some p) : ∃ ad A' c', A = some ad ∧ w.cell? (ad.add k) = some (.slice A' p.length c') ∧ p.length ≤ c' ∧ Kd.C (Kd.int .i64) w A' p.length p := by
  have hl := (List.getElem?_eq_some_iff.1 hk).1
  obtain ⟨ad, e, hc⟩ := h.2.2 (by have := h.1; omega)
  obtain ⟨cs, _, ⟨A', c', rfl, h1, h2⟩, hcell⟩ := hc k p hk
  have h3 := hcell 0 _ rfl
  rw [show k * (Kd.slice 3 (Kd.int .i64)).sz + 0 = k from by show k * 1 + 0 = k; omega] at h3
  exact ⟨ad, A', c', e, h3, h1, h2⟩
theorem _root_.Go.Proofs.YtggnnnddnppcpaaOwn.Sep.dropD {w W : World} {X : Nat → Prop} {l : List Asr} (h : Sep w X l W) (k : Nat) : Sep w X (l.drop k) W := by
  obtain ⟨f, hf⟩ := h.tags
  refine ⟨h.hB, fun b => f b - k, fun i A hi => ?_⟩
  rw [List.getElem?_drop] at hi
  exact Asr.mono (hf _ A hi) fun b h1 _ => ⟨by have := h1.1; show f b - k = i; omega, h1.2⟩
set_option maxHeartbeats 8000000 in
set_option maxRecDepth 100000 in
theorem lentRows_calls (A : Option Addr) (c : Nat) (l : List (List Int)) (w : World) (hr : Kd.C (Kd.slice 3 (Kd.int .i64)) w A l.length l) (hc : l.length ≤ c) (hn : l.length ≤ 1099511627776) (hs : ∀ x ∈ l, x.length ≤ 1099511627776) :
    Calls Try.prog 24 #[.slice A l.length c] w fun e w' => ∃ (Aw Ar : Option Addr) (cw cr : Nat) (T M : List LRow), e = .returned (.agg #[.slice Aw l.length cw, .slice Aw (T ++ M).length cw, .slice Ar T.length cr]) ∧
      T.map LRow.nums = l ∧ T.map LRow.row = l.map lentOf ∧ M.map LRow.nums = rowMarks ∧
      Sep w (fun _ => False) [headA (.slice Aw (T ++ M).length cw) ((T ++ M).map LRow.shown), headA (.slice Ar T.length cr) (T.map LRow.all), dataA (T ++ M)] w' := by
  have HR := Aside0.mk hr
  have HC := Aside0.mk hc
  have HB := Aside0.mk (And.intro hn hs)
  have HX : Aside0 (∀ (W : World) b, (fun _ : Nat => False) b → b < W.heap.size) := ⟨fun _ _ h => h.elim⟩
  clear hr hc hn hs
  have hN := (((((Sep.start (Below.refl w.heap.size w) (fun _ => False)).new (HX.out _) (.cells #[.slice none 0 0, .slice none 0 0, .slice none 0 0] 33 (0, 0))).new (HX.out _) (.cells #[.slice none 0 0, .slice none 0 0, .slice none 0 0] 33 (0, 0))).push (A := headA (.slice none 0 0) []) (Below.refl _ _) (HX.out _) (Kd.R_nil _ _ _ _ _)).push (A := headA (.slice none 0 0) []) (Below.refl _ _) (HX.out _) (Kd.R_nil _ _ _ _ _)).push (A := dataA []) (Below.refl _ _) (HX.out _) (data_nil _ _)
  rw [World.size_alloc] at hN
  go_enter Try.func24, Try.ntmps24
  go_wp2
  obtain ⟨B3, h3⟩ : ∃ q, q = w.heap.size + 1 := ⟨_, rfl⟩
  rw [← h3] at hN ⊢
  obtain ⟨B2, h2⟩ : ∃ q, q = w.heap.size := ⟨_, rfl⟩
  rw [← h2]
  replace hN : Sep w (fun _ => False) [.blk B2 (.cells #[.slice none 0 0, .slice none 0 0, .slice none 0 0] 33 (0, 0)), .blk B3 (.cells #[.slice none 0 0, .slice none 0 0, .slice none 0 0] 33 (0, 0)), headA (.slice none 0 0) [], headA (.slice none 0 0) [], dataA []] ((w.alloc (.cells #[.slice none 0 0, .slice none 0 0, .slice none 0 0] 33)).alloc (.cells #[.slice none 0 0, .slice none 0 0, .slice none 0 0] 33)) := by rw [h2]; exact hN
  have HN := Aside0.mk hN
  clear hN h2 h3
  go_loopw [4, 5] (fun v4 _ wr => ∃ (k : Nat) (x : Int) (vw vr : Value) (T : List LRow), v4 = .int .i64 x ∧ Aside0 (x = k ∧ k ≤ l.length) ∧ Aside0 (T.length = k ∧ T.map LRow.nums = l.take k ∧ T.map LRow.row = (l.take k).map lentOf) ∧ Aside0 (Sep w (fun _ => False) [.blk B2 (.cells #[.slice none 0 0, .slice none 0 0, .slice none 0 0] 33 (0, 0)), .blk B3 (.cells #[.slice none 0 0, vw, vr] 33 (0, 0)), headA vw (T.map LRow.shown), headA vr (T.map LRow.all), dataA T] wr)) (fun i _ _ => l.length - (intOf i).toNat)
  case atStart => exact ⟨0, 0, _, _, [], rfl, ⟨rfl, Nat.zero_le _⟩, ⟨rfl, rfl, rfl⟩, HN⟩
  case round =>
    clear HN
    obtain ⟨k, x, vw, vr, T, rfl, HK, HT, HQ⟩ := hrel
    obtain ⟨hxk, hk⟩ := HK.out
    have hq := HQ.out
    obtain ⟨A5, c5, rfl⟩ := Kd.R_slice (hq.get 2 rfl)
    obtain ⟨A6, c6, rfl⟩ := Kd.R_slice (hq.get 3 rfl)
    obtain ⟨n5, hn5⟩ : ∃ q, q = (T.map LRow.shown).length := ⟨_, rfl⟩
    obtain ⟨n6, hn6⟩ : ∃ q, q = (T.map LRow.all).length := ⟨_, rfl⟩
    rw [← hn5, ← hn6] at hq
    replace HQ := Aside0.mk hq
    have HN56 : Aside0 (n5 = T.length ∧ n6 = T.length) := ⟨by rw [hn5, hn6, List.length_map, List.length_map]; exact ⟨rfl, rfl⟩⟩
    clear hq hn5 hn6
    by_cases hlt : k < l.length
    · have q3 : decide (x < (l.length : Int)) = true := decide_eq_true (by omega)
      have p2 : ((0 : Int) ≤ x) = True := eq_true (by omega)
      have q2 : (x < (l.length : Int)) = True := eq_true (by omega)
      have HX2 : Aside0 (wrap64 (x + 1) = ((k + 1 : Nat) : Int) ∧ k + 1 ≤ l.length) := by
        have := HB.out.1
        exact ⟨by rw [w64 (by omega) (by omega)]; omega, by omega⟩
      have hm : (intOf (.int .i64 (wrap64 (x + 1)))).toNat = k + 1 := by rw [HX2.out.1]; simp [intOf]
      have hm0 : (intOf (.int .i64 x)).toNat = k := by rw [hxk]; simp [intOf]
      have HMS : Aside0 (l.length - (intOf (.int .i64 (wrap64 (x + 1)))).toNat < l.length - (intOf (.int .i64 x)).toNat) := ⟨by rw [hm, hm0]; omega⟩
      obtain ⟨p, hp⟩ : ∃ p, l[k]? = some p := ⟨_, List.getElem?_eq_getElem hlt⟩
      obtain ⟨ad, Ap, cp, eA, hcw, hcp, hCp⟩ := elem_at HR.out hp
      subst eA
      have hk' : ad.add k = ad.add x.toNat := by rw [hxk]; rfl
      rw [hk'] at hcw
      have HCW := Aside0.mk hcw
      have hcell := pw_cell_below HQ.out.hB hcw
      have HP := Aside0.mk hp
      have HPN : Aside0 (p.length ≤ 1099511627776) := ⟨HB.out.2 p (List.mem_of_getElem? hp)⟩
      have HLC := Aside0.mk (lentD_calls Ap cp p wr (Kd.C_below hCp HQ.out.hB) hcp HPN.out)
      clear hm hm0 hk hlt hp hk' hxk hCp hcp hcw
      go_wp2_with (go_at_call 46; refine HoldD.out ?_)
      refine ⟨?_⟩
      refine HLC.out.mono ?_
      rintro e w1 ⟨v0, rfl, hR0, hb⟩
      obtain ⟨As, cs, rfl⟩ := Kd.R_slice hR0
      have hrl := (Kd.R_reads' hR0).2.1
      have hq1 := HQ.out.push hb (HX.out _) (row_of hR0)
      obtain ⟨nl, hnl⟩ : ∃ q, q = (lentOf p).length := ⟨_, rfl⟩
      rw [← hnl] at hrl hq1 ⊢
      have HRL := Aside0.mk hrl
      have HNL := Aside0.mk hnl
      replace hq1 : Sep w (fun _ => False) [.blk B2 (.cells #[.slice none 0 0, .slice none 0 0, .slice none 0 0] 33 (0, 0)), .blk B3 (.cells #[.slice none 0 0, (.slice A5 n5 c5), (.slice A6 n6 c6)] 33 (0, 0)), headA (.slice A5 n5 c5) (T.map LRow.shown), headA (.slice A6 n6 c6) (T.map LRow.all), dataA T, .row (Kd.int .i64) 3 (.slice As nl cs) (lentOf p)] w1 := hq1
      have HQ1 := Aside0.mk hq1
      clear hcell
      have f2 : w1.cell? ⟨B3, 2, none⟩ = some (.slice A6 n6 c6) := hq1.cell 1 2 rfl
      have HPH := Aside0.mk (hq1.pushH 3 rfl (As, nl, cs) (HX.out _) (P := Try.prog) (t := 22) (ty := 22) Try.underlying22 infoLR (by have h1 := HT.out.1; have h2 := HK.out.2; have h3 := HB.out.1; rw [List.length_map]; omega))
      clear hR0 hb hrl hnl hq1 HQ
      go_wp2_with ((with_reducible refine gate_builtin (b := .append) (xs := #[.tmp 19, .tmp 21]) rfl ?_); at_builtin; refine HoldD.out ?_)
      refine ⟨?_⟩
      obtain ⟨v1, w2, hrun, hsep, _⟩ := HPH.out
      obtain ⟨A7, c7, rfl⟩ := Kd.R_slice (hsep.get 3 rfl)
      obtain ⟨n7, hn7⟩ : ∃ q, q = (T.map LRow.all ++ [(As, nl, cs)]).length := ⟨_, rfl⟩
      rw [← hn7] at hsep hrun
      have HN7 := Aside0.mk hn7
      clear hn7
      refine wpList_append_run rfl (.tmp 19) (.tmp 21) 22 rfl rfl rfl hrun ?_
      have q1 : w2.cell? ⟨B3, 2, none⟩ = some (.slice A6 n6 c6) := hsep.cell 1 2 rfl
      have y1 := hsep.frozen 1 2 rfl
      have hput := hsep.put (HX.out _) 1 2 rfl (.slice A7 n7 c7) rfl
      replace hput : Sep w (fun _ => False) [.blk B2 (.cells #[.slice none 0 0, .slice none 0 0, .slice none 0 0] 33 (0, 0)), .blk B3 (.cells #[.slice none 0 0, (.slice A5 n5 c5), (.slice A7 n7 c7)] 33 (0, 0)), headA (.slice A5 n5 c5) (T.map LRow.shown), headA (.slice A7 n7 c7) (T.map LRow.all ++ [(As, nl, cs)]), dataA T, .row (Kd.int .i64) 3 (.slice As nl cs) (lentOf p)] (w2.setCell ⟨B3, 2, none⟩ (.slice A7 n7 c7)) := hput
      have HQ3 := Aside0.mk hput
      have hcell := pw_cell_below hput.hB HCW.out
      have f1 : (w2.setCell ⟨B3, 2, none⟩ (.slice A7 n7 c7)).cell? ⟨B3, 1, none⟩ = some (.slice A5 n5 c5) := hput.cell 1 1 rfl
      have hcap : ((p.length : Nat) : Int) ≤ (cs : Int) := by
        have h1 := HRL.out
        have h2 := HNL.out
        rw [lentOf_length] at h2
        omega
      clear hrun hsep f2 HPH HQ1 hput
      go_upto_region 7 with fail
      have hmx : Try.prog.follows .mixedOrders = true := by kernel_rfl
      generalize w2.setCell ⟨B3, 2, none⟩ (.slice A7 n7 c7) = w3 at f1 hcell HQ3 ⊢
      have hS0 : w3.drew.cell? ⟨B3, 1, none⟩ = some (.slice A5 n5 c5) ∧ w3.drew.cell? (ad.add x.toNat) = some (.slice Ap p.length cp) := ⟨f1, hcell⟩
      refine wp_region_P (z := 12) (S := fun W' => W'.cell? ⟨B3, 1, none⟩ = some (.slice A5 n5 c5) ∧ W'.cell? (ad.add x.toNat) = some (.slice Ap p.length cp)) hmx ?_
      refine wpAnyP_take (i := 0) (v := .pointer (some ⟨B3, 1, none⟩)) (by kernel_rfl) rfl (by kernel_rfl) (by kernel_rfl) (by kernel_rfl) (fun _ _ _ h => h) (by rfl) (fun W' hS => by obtain ⟨s1, s2⟩ := hS; go_simp) hS0 ?_
      refine wpAnyP_take (i := 1) (v := .slice A5 n5 c5) (by kernel_rfl) rfl (by kernel_rfl) (by kernel_rfl) (by kernel_rfl) (fun _ _ _ h => h) (by rfl) (fun W' hS => by obtain ⟨s1, s2⟩ := hS; go_simp) hS0 ?_
      refine wpAnyP_take (i := 2) (v := .slice As nl cs) (by kernel_rfl) rfl (by kernel_rfl) (by kernel_rfl) (by kernel_rfl) (fun _ _ _ h => h) (by rfl) (fun W' hS => by obtain ⟨s1, s2⟩ := hS; go_simp) hS0 ?_
      refine wpAnyP_take (i := 3) (v := .slice (some ad) l.length c) (by kernel_rfl) rfl (by kernel_rfl) (by kernel_rfl) (by kernel_rfl) (fun _ _ _ h => h) (by rfl) (fun W' hS => by obtain ⟨s1, s2⟩ := hS; go_simp) hS0 ?_
      refine wpAnyP_take (i := 4) (v := .int .i64 x) (by kernel_rfl) rfl (by kernel_rfl) (by kernel_rfl) (by kernel_rfl) (fun _ _ _ h => h) (by rfl) (fun W' hS => by obtain ⟨s1, s2⟩ := hS; go_simp) hS0 ?_
      refine wpAnyP_take (i := 5) (v := .pointer (some (ad.add x.toNat))) (by kernel_rfl) rfl (by kernel_rfl) (by kernel_rfl) (by kernel_rfl) (fun _ _ _ h => h) (by rfl) (fun W' hS => by obtain ⟨s1, s2⟩ := hS; go_simp) hS0 ?_
      refine wpAnyP_take (i := 6) (v := .slice Ap p.length cp) (by kernel_rfl) rfl (by kernel_rfl) (by kernel_rfl) (by kernel_rfl) (fun _ _ _ h => h) (by rfl) (fun W' hS => by obtain ⟨s1, s2⟩ := hS; go_simp) hS0 ?_
      refine wpAnyP_take (i := 7) (v := .int .i64 p.length) (by kernel_rfl) rfl (by kernel_rfl) (by kernel_rfl) (by kernel_rfl) (fun _ _ _ h => h) (by rfl) (fun W' hS => by obtain ⟨s1, s2⟩ := hS; go_simp) hS0 ?_
      refine wpAnyP_take (i := 8) (v := .slice As p.length cs) (by kernel_rfl) rfl (by kernel_rfl) (by kernel_rfl) (by kernel_rfl) (fun _ _ _ h => h) (by rfl) (fun W' hS => by obtain ⟨s1, s2⟩ := hS; go_simp) hS0 ?_
      clear hcell f1
      refine wpAnyP_one (i := 9) (by kernel_rfl) rfl (by rfl) (fun K' hK => ?_)
      go_simp
      refine hK _ _ (.inr ⟨(World.cell?_alloc_lt _ _ _ (World.block_lt_of_cell? _ _ hS0.1)).trans hS0.1, (World.cell?_alloc_lt _ _ _ (World.block_lt_of_cell? _ _ hS0.2)).trans hS0.2⟩) ?_
      clear hK
      refine wpAnyP_one (i := 10) (by kernel_rfl) rfl (by rfl) (fun K' hK => ?_)
      have HA := (HQ3.out.keep (below_drew (Below.refl _ _))).pushH 2 rfl (As, p.length, cs) (HX.out _) (P := Try.prog) (t := 22) (ty := 22) Try.underlying22 infoLR (by have h1 := HT.out.1; have h2 := HK.out.2; have h3 := HB.out.1; rw [List.length_map]; omega)
      obtain ⟨v2, w4, hrun, hsep, hg⟩ := HA
      obtain ⟨A8, c8, rfl⟩ := Kd.R_slice (hsep.get 2 rfl)
      obtain ⟨n8, hn8⟩ : ∃ q, q = (T.map LRow.shown ++ [(As, p.length, cs)]).length := ⟨_, rfl⟩
      rw [← hn8] at hsep hrun
      have HN8 := Aside0.mk hn8
      clear hn8
      refine wp_append_run (.tmp 25) (.tmp 33) 22 rfl rfl rfl hrun ?_
      have HQ4 : Aside0 (Sep w (fun _ => False) [.blk B2 (.cells #[.slice none 0 0, .slice none 0 0, .slice none 0 0] 33 (0, 0)), .blk B3 (.cells #[.slice none 0 0, (.slice A5 n5 c5), (.slice A7 n7 c7)] 33 (0, 0)), headA (.slice A8 n8 c8) (T.map LRow.shown ++ [(As, p.length, cs)]), headA (.slice A7 n7 c7) (T.map LRow.all ++ [(As, nl, cs)]), dataA T, .row (Kd.int .i64) 3 (.slice As nl cs) (lentOf p)] w4) := ⟨hsep⟩
      have hS4 : w4.cell? ⟨B3, 1, none⟩ = some (.slice A5 n5 c5) ∧ w4.cell? (ad.add x.toNat) = some (.slice Ap p.length cp) := ⟨hsep.cell 1 1 rfl, pw_cell_below hsep.hB HCW.out⟩
      have y1 := hsep.frozen 1 1 rfl
      refine hK _ _ (.inr hS4) ?_
      clear hK hrun hsep hg hS0
      refine wpAnyP_one (i := 11) (by kernel_rfl) rfl (by rfl) (fun K' hK => ?_)
      go_simp
      refine hK _ _ (.inr hS4) ?_
      clear hK
      refine wpAnyP_one (i := 12) (by kernel_rfl) rfl (by rfl) (fun K' hK => ?_)
      have q1 := hS4.1
      go_simp
      refine hK _ _ (.inl rfl) ?_
      clear hK
      refine wpAnyP_done (by kernel_rfl) ?_ _
      clear hS4 q1 y1 hcap
      go_wp2
      go_roundw
      case measure => exact HMS.out
      case rel =>
        have h1 := HQ4.out.put (HX.out _) 1 1 rfl (.slice A8 n8 c8) rfl
        have hll : (lentOf p).length = p.length + 64 := lentOf_length p
        have h2 := (h1.gather 4 5 (by decide) ⟨As, cs, lentOf p, p.length⟩ rfl (by show some _ = some _; rw [HNL.out]) (show p.length ≤ (lentOf p).length by omega)).takeD 5
        have e1 : l.take (k + 1) = l.take k ++ [p] := by rw [List.take_add_one, HP.out]; rfl
        refine ⟨k + 1, _, .slice A8 n8 c8, .slice A7 n7 c7, T ++ [⟨As, cs, lentOf p, p.length⟩], rfl, HX2, ⟨?_, ?_, ?_⟩, ⟨?_⟩⟩
        · rw [List.length_append, HT.out.1]; rfl
        · rw [List.map_append, HT.out.2.1, e1]
          show _ ++ [(lentOf p).take p.length] = _
          rw [show (lentOf p).take p.length = p from List.take_left]
        · rw [List.map_append, HT.out.2.2, e1, List.map_append]; rfl
        · rw [List.map_append, List.map_append]
          have e2 : (T.map LRow.all ++ [(As, nl, cs)]) = T.map LRow.all ++ List.map LRow.all [⟨As, cs, lentOf p, p.length⟩] := by rw [HNL.out]; rfl
          rw [← e2]
          exact h2
    · have HT2 : Aside0 (T.length = l.length ∧ T.map LRow.nums = l ∧ T.map LRow.row = l.map lentOf) := ⟨by
        obtain ⟨t1, t2, t3⟩ := HT.out
        have e : k = l.length := by omega
        rw [e, List.take_length] at t2 t3
        exact ⟨t1.trans e, t2, t3⟩⟩
      have q3 : decide (x < (l.length : Int)) = false := decide_eq_false (by omega)
      have HN5 : Aside0 (n5 = l.length ∧ n6 = l.length) := ⟨by rw [HN56.out.1, HN56.out.2, HT2.out.1]; exact ⟨rfl, rfl⟩⟩
      have HZ : Aside0 (Sep w (fun _ => False) [.blk B2 (.cells #[.slice none 0 0, .slice none 0 0, .slice none 0 0] 33 (0, 0)), .blk B3 (.cells #[.slice none 0 0, .slice A5 n5 c5, .slice A6 n6 c6] 33 (0, 0)), headA (.slice A5 n5 c5) ((T ++ []).map LRow.shown), headA (.slice A6 n6 c6) (T.map LRow.all), dataA (T ++ [])] wr) := ⟨by rw [List.append_nil]; exact HQ.out⟩
      clear hk hlt hxk HK HT HN56 HQ
      go_wp2
      go_loopw [6] (fun v6 wr => ∃ (j : Nat) (y : Int) (A5 : Option Addr) (n5 c5 : Nat) (M : List LRow), v6 = .int .i64 y ∧ Aside0 (y = j ∧ j ≤ 64) ∧ Aside0 (M.map LRow.nums = rowMarks.take j ∧ n5 = l.length + j ∧ M.length = j) ∧ Aside0 (Sep w (fun _ => False) [.blk B2 (.cells #[.slice none 0 0, .slice none 0 0, .slice none 0 0] 33 (0, 0)), .blk B3 (.cells #[.slice none 0 0, .slice A5 n5 c5, .slice A6 n6 c6] 33 (0, 0)), headA (.slice A5 n5 c5) ((T ++ M).map LRow.shown), headA (.slice A6 n6 c6) (T.map LRow.all), dataA (T ++ M)] wr)) (fun i _ => 64 - (intOf i).toNat)
      case atStart => exact ⟨0, 0, _, _, _, [], rfl, ⟨rfl, by omega⟩, ⟨rfl, HN5.out.1, rfl⟩, HZ⟩
      case round =>
        clear HZ
        obtain ⟨j, y, A5, n5, c5, M, rfl, HK, HT, HQ⟩ := hrel
        obtain ⟨hxk, hk⟩ := HK.out
        by_cases hlt : j < 64
        · have q3 : decide (y < 64) = true := decide_eq_true (by omega)
          have HX2 : Aside0 (wrap64 (y + 1) = ((j + 1 : Nat) : Int) ∧ j + 1 ≤ 64) := ⟨by rw [w64 (by omega) (by omega)]; omega, by omega⟩
          have hm : (intOf (.int .i64 (wrap64 (y + 1)))).toNat = j + 1 := by rw [HX2.out.1]; simp [intOf]
          have hm0 : (intOf (.int .i64 y)).toNat = j := by rw [hxk]; simp [intOf]
          have HMS : Aside0 (64 - (intOf (.int .i64 (wrap64 (y + 1)))).toNat < 64 - (intOf (.int .i64 y)).toNat) := ⟨by rw [hm, hm0]; omega⟩
          have f1 : wr.cell? ⟨B3, 1, none⟩ = some (.slice A5 n5 c5) := HQ.out.cell 1 1 rfl
          have HXK := Aside0.mk hxk
          clear hm hm0 hk hlt hxk
          go_upto_region 11 with fail
          have hmx : Try.prog.follows .mixedOrders = true := by kernel_rfl
          have hS0 : wr.drew.cell? ⟨B3, 1, none⟩ = some (.slice A5 n5 c5) := f1
          refine wp_region_P (z := 8) (S := fun W' => W'.cell? ⟨B3, 1, none⟩ = some (.slice A5 n5 c5)) hmx ?_
          refine wpAnyP_take (i := 0) (v := .pointer (some ⟨B3, 1, none⟩)) (by kernel_rfl) rfl (by kernel_rfl) (by kernel_rfl) (by kernel_rfl) (fun _ _ _ h => h) (by rfl) (fun W' hS => by go_simp) hS0 ?_
          refine wpAnyP_take (i := 1) (v := .slice A5 n5 c5) (by kernel_rfl) rfl (by kernel_rfl) (by kernel_rfl) (by kernel_rfl) (fun _ _ _ h => h) (by rfl) (fun W' hS => by go_simp) hS0 ?_
          refine wpAnyP_take (i := 2) (v := .int .i64 y) (by kernel_rfl) rfl (by kernel_rfl) (by kernel_rfl) (by kernel_rfl) (fun _ _ _ h => h) (by rfl) (fun W' hS => by go_simp) hS0 ?_
          clear f1
          refine wpAnyP_one (i := 3) (by kernel_rfl) rfl (by rfl) (fun K' hK => ?_)
          go_simp
          refine (mark_still 1 y _).mono ?_
          rintro e w' ⟨rfl, rfl⟩
          refine hK _ _ (.inr hS0) ?_
          clear hK
          refine wpAnyP_one (i := 4) (by kernel_rfl) rfl (by rfl) (fun K' hK => ?_)
          go_simp
          have hS4 : (wr.drew.alloc (.cells #[.int .i64 (mk 1 y)] 3)).cell? ⟨B3, 1, none⟩ = some (.slice A5 n5 c5) := (World.cell?_alloc_lt _ _ _ (World.block_lt_of_cell? _ _ hS0)).trans hS0
          refine hK _ _ (.inr hS4) ?_
          clear hK
          have HR4 := (HQ.out.keep (below_drew (Below.refl _ _))).push (below_alloc (Below.refl _ _) (.cells #[.int .i64 (mk 1 y)] 3 (0, 0))) (HX.out _) (A := .row (Kd.int .i64) 3 (.slice (some ⟨wr.drew.heap.size, 0, none⟩) 1 1) [mk 1 y]) (row_of (ok := fun _ => True) (Kd.R_of_own (own_lit wr.drew wr.drew.heap.size 3 .i64 [mk 1 y] (Nat.le_refl _) (show 1 ≤ 9223372036854775807 by decide)) fun _ _ => trivial))
          have HP := HR4.pushH 2 rfl (some ⟨wr.drew.heap.size, 0, none⟩, 1, 1) (HX.out _) (P := Try.prog) (t := 22) (ty := 22) Try.underlying22 infoLR (by
            have h1 := HT.out.2.1
            have h2 := HK.out.2
            have h3 := HB.out.1
            have h4 := (Kd.R_reads' (HQ.out.get 2 rfl)).1
            omega)
          rw [show (wr.drew.alloc (.cells #[.int .i64 (mk 1 y)] 3 (0, 0))).heap.size = wr.heap.size + 1 from by simp] at HP
          have HP := Aside0.mk HP
          clear HR4
          refine wpAnyP_one (i := 5) (by kernel_rfl) rfl (by rfl) (fun K' hK => ?_)
          go_simp
          refine hK _ _ (.inr ((World.cell?_alloc_lt _ _ _ (World.block_lt_of_cell? _ _ hS4)).trans hS4)) ?_
          clear hK
          refine wpAnyP_one (i := 6) (by kernel_rfl) rfl (by rfl) (fun K' hK => ?_)
          obtain ⟨v2, w4, hrun, hsep, hg⟩ := HP.out
          obtain ⟨A8, c8, rfl⟩ := Kd.R_slice (hsep.get 2 rfl)
          obtain ⟨n8, hn8⟩ : ∃ q, q = ((T ++ M).map LRow.shown ++ [(some (⟨wr.drew.heap.size, 0, none⟩ : Addr), 1, 1)]).length := ⟨_, rfl⟩
          rw [← hn8] at hsep hrun
          have HN8 := Aside0.mk hn8
          clear hn8
          refine wp_append_run (.tmp 41) (.tmp 45) 22 rfl rfl rfl hrun ?_
          have HQ4 : Aside0 (Sep w (fun _ => False) [.blk B2 (.cells #[.slice none 0 0, .slice none 0 0, .slice none 0 0] 33 (0, 0)), .blk B3 (.cells #[.slice none 0 0, .slice A5 n5 c5, .slice A6 n6 c6] 33 (0, 0)), headA (.slice A8 n8 c8) ((T ++ M).map LRow.shown ++ [(some (⟨wr.drew.heap.size, 0, none⟩ : Addr), 1, 1)]), headA (.slice A6 n6 c6) (T.map LRow.all), dataA (T ++ M), .row (Kd.int .i64) 3 (.slice (some ⟨wr.drew.heap.size, 0, none⟩) 1 1) [mk 1 y]] w4) := ⟨hsep⟩
          have hS5 : w4.cell? ⟨B3, 1, none⟩ = some (.slice A5 n5 c5) := hsep.cell 1 1 rfl
          have y1 := hsep.frozen 1 1 rfl
          refine hK _ _ (.inr hS5) ?_
          clear hK hrun hsep hg hS0 hS4 HP
          refine wpAnyP_one (i := 7) (by kernel_rfl) rfl (by rfl) (fun K' hK => ?_)
          go_simp
          refine hK _ _ (.inr hS5) ?_
          clear hK
          refine wpAnyP_one (i := 8) (by kernel_rfl) rfl (by rfl) (fun K' hK => ?_)
          go_simp
          refine hK _ _ (.inl rfl) ?_
          clear hK
          refine wpAnyP_done (by kernel_rfl) ?_ _
          clear hS5 y1
          go_wp2
          go_roundw
          case measure => exact HMS.out
          case rel =>
            have h1 := HQ4.out.put (HX.out _) 1 1 rfl (.slice A8 n8 c8) rfl
            have h2 := (h1.gather 4 5 (by decide) ⟨some ⟨wr.drew.heap.size, 0, none⟩, 1, [mk 1 y], 1⟩ rfl rfl (Nat.le_refl _)).takeD 5
            have hj := HX2.out.2
            refine ⟨j + 1, _, A8, n8, c8, M ++ [⟨some ⟨wr.drew.heap.size, 0, none⟩, 1, [mk 1 y], 1⟩], rfl, HX2, ⟨?_, ?_, ?_⟩, ⟨?_⟩⟩
            · rw [List.map_append, HT.out.1, List.take_add_one]
              have e : rowMarks[j]? = some [mk 1 y] := by
                rw [HXK.out]
                simp only [rowMarks, List.getElem?_map, List.getElem?_range (show j < 64 by omega)]
                rfl
              rw [e]
              rfl
            · have h4 := (Kd.R_reads' (HQ.out.get 2 rfl)).1
              have h5 := HT.out.2.1
              rw [HN8.out, List.length_append, ← h4, h5]
              rfl
            · rw [List.length_append, HT.out.2.2]; rfl
            · rw [← List.append_assoc, List.map_append]
              exact h2
        · have q3 : decide (y < 64) = false := decide_eq_false (by omega)
          obtain rfl : j = 64 := by omega
          have hcap : (l.length : Int) ≤ (c5 : Int) := by
            have h1 := (Kd.R_reads' (HQ.out.get 2 rfl)).2.1
            have h2 := HT.out.2.1
            omega
          have f1 : wr.cell? ⟨B3, 1, none⟩ = some (.slice A5 n5 c5) := HQ.out.cell 1 1 rfl
          have f2 : wr.cell? ⟨B3, 2, none⟩ = some (.slice A6 n6 c6) := HQ.out.cell 1 2 rfl
          have f0 : wr.cell? ⟨B3, 0, none⟩ = some (.slice none 0 0) := HQ.out.cell 1 0 rfl
          have y0 : wr.frozen? ⟨B3, 0, none⟩ = false := HQ.out.frozen 1 0 rfl
          have y1 : wr.frozen? ⟨B2, 0, none⟩ = false := HQ.out.frozen 0 0 rfl
          have y2 : wr.frozen? ⟨B2, 1, none⟩ = false := HQ.out.frozen 0 1 rfl
          have y3 : wr.frozen? ⟨B2, 2, none⟩ = false := HQ.out.frozen 0 2 rfl
          have g0 : wr.cell? ⟨B2, 0, none⟩ = some (.slice none 0 0) := HQ.out.cell 0 0 rfl
          have g1 : wr.cell? ⟨B2, 1, none⟩ = some (.slice none 0 0) := HQ.out.cell 0 1 rfl
          have g2 : wr.cell? ⟨B2, 2, none⟩ = some (.slice none 0 0) := HQ.out.cell 0 2 rfl
          have hne : B2 ≠ B3 := HQ.out.ne 0 1 (by decide) rfl rfl blk_blk blk_blk
          have HH := Aside0.mk (And.intro hxk hk)
          clear hk hlt hxk
          go_wp2_with fail
          have hp := (((HQ.out.put (HX.out _) 1 0 rfl (.slice A5 l.length c5) rfl).put (HX.out _) 0 0 rfl (.slice A5 l.length c5) rfl).put (HX.out _) 0 1 rfl (.slice A5 n5 c5) rfl).put (HX.out _) 0 2 rfl (.slice A6 n6 c6) rfl
          have HP : Aside0 (Sep w (fun _ => False) [.blk B2 (.cells #[.slice A5 l.length c5, .slice A5 n5 c5, .slice A6 n6 c6] 33 (0, 0)), .blk B3 (.cells #[.slice A5 l.length c5, .slice A5 n5 c5, .slice A6 n6 c6] 33 (0, 0)), headA (.slice A5 n5 c5) ((T ++ M).map LRow.shown), headA (.slice A6 n6 c6) (T.map LRow.all), dataA (T ++ M)] ((((wr.setCell ⟨B3, 0, none⟩ (.slice A5 l.length c5)).setCell ⟨B2, 0, none⟩ (.slice A5 l.length c5)).setCell ⟨B2, 1, none⟩ (.slice A5 n5 c5)).setCell ⟨B2, 2, none⟩ (.slice A6 n6 c6))) := ⟨hp⟩
          clear hp f0 f1 f2 y0 y1 y2 y3 g0 g1 g2
          generalize (((wr.setCell ⟨B3, 0, none⟩ (.slice A5 l.length c5)).setCell ⟨B2, 0, none⟩ (.slice A5 l.length c5)).setCell ⟨B2, 1, none⟩ (.slice A5 n5 c5)).setCell ⟨B2, 2, none⟩ (.slice A6 n6 c6) = W9 at HP ⊢
          have r0 : W9.cell? ⟨B2, 0, none⟩ = some (.slice A5 l.length c5) := HP.out.cell 0 0 rfl
          have r1 : W9.cell? ⟨B2, 1, none⟩ = some (.slice A5 n5 c5) := HP.out.cell 0 1 rfl
          have r2 : W9.cell? ⟨B2, 2, none⟩ = some (.slice A6 n6 c6) := HP.out.cell 0 2 rfl
          refine bodyPost_ret (v := .agg #[.slice A5 l.length c5, .slice A5 n5 c5, .slice A6 n6 c6]) (by simp [results, Try.results24, go_sem, r0, r1, r2]) rfl ?_
          have e5 := (Kd.R_reads' (HP.out.get 2 rfl)).1
          have e6 := (Kd.R_reads' (HP.out.get 3 rfl)).1
          rw [List.length_map] at e5 e6
          have hsep := HP.out.dropD 2
          rw [e5, e6] at hsep ⊢
          refine ⟨A5, A6, c5, c6, T, M, rfl, HT2.out.2.1, HT2.out.2.2, ?_, hsep⟩
          rw [HT.out.1]
          rfl
end Go.Proofs.YtggnnnddnppcpaaHand
/-! text YtggnnnddnppcpaaStoreOp -/
namespace Go.Proofs.YtggnnnddnppcpaaOwn
open Go Go.RowKit Go.Proofs.YtggnnnddnppcpaaW.PrintWords
set_option linter.unusedSimpArgs false
theorem wp_store_run {P : Program} {o : Oper} {a : Act} {w W' : World} {K : Act → World → Prop} {Q : Exit → Act → World → Prop} {t : TypeId} (p v : Operand) {pv vv : Value} (hop : o.op = Op.store t p v) (hg : o.dst = none)
    (hp : a.eval p = pv) (hv : a.eval v = vv) (hrun : (Instr.storeAt t pv vv).run P w = .ok () W') (h : K a W') : Oper.wp P o a w K Q := by
  unfold Oper.wp
  simp [execOp, hop, hg, hp, hv, hrun, Result.andThen, Oper.upon]
  exact h
section
variable {w : World} {B : Nat} {x0 y0 z0 : Value}
theorem storeRows {A0 A1 A2 : Option Addr} {n0 n1 n2 c0 c1 c2 : Nat} (k0 : w.cell? ⟨B, 0, none⟩ = some x0) (k1 : w.cell? ⟨B, 1, none⟩ = some y0) (k2 : w.cell? ⟨B, 2, none⟩ = some z0)
    (f0 : w.frozen? ⟨B, 0, none⟩ = false) (f1 : w.frozen? ⟨B, 1, none⟩ = false) (f2 : w.frozen? ⟨B, 2, none⟩ = false) :
    (Instr.storeAt 33 (.pointer (some ⟨B, 0, none⟩)) (.agg #[.slice A0 n0 c0, .slice A1 n1 c1, .slice A2 n2 c2])).run Try.prog w = .ok () (((w.setCell ⟨B, 0, none⟩ (.slice A0 n0 c0)).setCell ⟨B, 1, none⟩ (.slice A1 n1 c1)).setCell ⟨B, 2, none⟩ (.slice A2 n2 c2)) := by
  go_simp
end
end Go.Proofs.YtggnnnddnppcpaaOwn
/-! text YtggnnnddnppcpaaSepFill -/
namespace Go.Proofs.YtggnnnddnppcpaaOwn
open Go Go.RowKit Go.Proofs.YtggnnnddnppcpaaW.PrintWords
set_option linter.unusedVariables false
set_option linter.unusedSimpArgs false
section
variable {w W W1 : World} {X : Nat → Prop} {l : List Asr} {A A' B C : Asr}
/-- a free place is filled -/
theorem Sep.fill (h : Sep w X l W) (i : Nat) (hi : l[i]? = some .emp) (hb : Below W.heap.size W W1) (hX : ∀ b, X b → b < W.heap.size) (hA : A.P W1 (fun b => W.heap.size ≤ b)) : Sep w X (l.set i A) W1 :=
  h.upd i hi (M := fun _ => False) (Grow.of_below hb) hX (fun _ _ _ h => h.elim) fun ok _ hnew => Asr.mono hA fun b hb _ => hnew b hb
/-- a new block in a free place -/
theorem Sep.fillNew (h : Sep w X l W) (hX : ∀ b, X b → b < W.heap.size) (i : Nat) (hi : l[i]? = some .emp) (o : Obj) : Sep w X (l.set i (.blk W.heap.size o)) (W.alloc o) :=
  h.fill i hi (below_alloc (Below.refl _ _) o) hX ⟨Nat.le_refl _, World.alloc_heap_new W o⟩
/-- three free places are filled -/
theorem Sep.fill3 (h : Sep w X l W) (h2 : Sep W (fun _ => False) [A, B, C] W1) (i j k : Nat) (hX : ∀ b, X b → b < W.heap.size) (hij : i ≠ j) (hik : i ≠ k) (hjk : j ≠ k) : Sep w X (((l.set i A).set j B).set k C) W1 := by
  obtain ⟨f, hf⟩ := h.tags
  obtain ⟨f2, hf2⟩ := h2.tags
  have hw := h.hB.size
  have hold : ∀ (q : Nat) D, l[q]? = some D → q ≠ i → q ≠ j → q ≠ k → D.P W1 (fun b => (if b < W.heap.size then f b else if f2 b = 0 then i else if f2 b = 1 then j else k) = q ∧ w.heap.size ≤ b ∧ ¬ X b) := fun q D hq _ _ _ =>
    D.step (hf q D hq) h2.hB.size fun b h3 h4 => ⟨h2.hB.block b h4, (if_pos h4).trans h3.1, h3.2⟩
  have hnew : ∀ (q m : Nat) D, [A, B, C][m]? = some D → (∀ b, f2 b = m → (if f2 b = 0 then i else if f2 b = 1 then j else k) = q) → D.P W1 (fun b => (if b < W.heap.size then f b else if f2 b = 0 then i else if f2 b = 1 then j else k) = q ∧ w.heap.size ≤ b ∧ ¬ X b) := fun q m D hm hq =>
    Asr.mono (hf2 m D hm) fun b h3 _ => by
      have h4 : ¬ b < W.heap.size := Nat.not_lt.2 h3.2.1
      refine ⟨(if_neg h4).trans (hq b h3.1), Nat.le_trans hw h3.2.1, fun hx => ?_⟩
      have := hX b hx
      omega
  refine ⟨h.hB.trans (h2.hB.mono hw), fun b => if b < W.heap.size then f b else if f2 b = 0 then i else if f2 b = 1 then j else k, fun q D hq => ?_⟩
  · by_cases hk : q = k
    · subst hk
      have e : C = D := by
        rw [List.getElem?_set_self] at hq
        · exact Option.some.inj hq
        · rcases Nat.lt_or_ge q (((l.set i A).set j B)).length with h5 | h5
          · exact h5
          · rw [List.getElem?_eq_none (by rw [List.length_set]; exact h5)] at hq; cases hq
      subst e
      exact hnew q 2 _ rfl fun b h3 => by simp [h3]
    · rw [List.getElem?_set_ne (fun e => hk e.symm)] at hq
      by_cases hj : q = j
      · subst hj
        have e : B = D := by
          rw [List.getElem?_set_self] at hq
          · exact Option.some.inj hq
          · rcases Nat.lt_or_ge q ((l.set i A)).length with h5 | h5
            · exact h5
            · rw [List.getElem?_eq_none (by rw [List.length_set]; exact h5)] at hq; cases hq
        subst e
        exact hnew q 1 _ rfl fun b h3 => by simp [h3]
      · rw [List.getElem?_set_ne (fun e => hj e.symm)] at hq
        by_cases hi : q = i
        · subst hi
          have e : A = D := by
            rw [List.getElem?_set_self] at hq
            · exact Option.some.inj hq
            · rcases Nat.lt_or_ge q l.length with h5 | h5
              · exact h5
              · rw [List.getElem?_eq_none (by rw [List.length_set]; exact h5)] at hq; cases hq
          subst e
          exact hnew q 0 _ rfl fun b h3 => by simp [h3]
        · rw [List.getElem?_set_ne (fun e => hi e.symm)] at hq
          exact hold q D hq hi hj hk
/-- one that is two is told as two -/
theorem Sep.cut (h : Sep w X l W) (i : Nat) (hi : l[i]? = some (A.sep B)) : Sep w X (l.set i A ++ [B]) W := by
  classical
  obtain ⟨f, hf⟩ := h.tags
  obtain ⟨g, h1, h2⟩ := hf i _ hi
  have hil := (List.getElem?_eq_some_iff.1 hi).1
  refine ⟨h.hB, fun b => if f b = i then (if g b then i else l.length) else f b, fun q D hq => ?_⟩
  rcases Nat.lt_or_ge q l.length with hl | hl
  · rw [List.getElem?_append_left (by rw [List.length_set]; exact hl)] at hq
    by_cases hqi : q = i
    · subst hqi
      rw [List.getElem?_set_self hil] at hq
      obtain rfl := Option.some.inj hq
      refine Asr.mono h1 fun b h3 _ => ⟨?_, h3.1.2⟩
      show (if f b = q then (if g b then q else l.length) else f b) = q
      rw [if_pos h3.1.1, if_pos h3.2]
    · rw [List.getElem?_set_ne (fun e => hqi e.symm)] at hq
      refine Asr.mono (hf q D hq) fun b h3 _ => ⟨?_, h3.2⟩
      show (if f b = i then (if g b then i else l.length) else f b) = q
      rw [if_neg (fun e => hqi (h3.1.symm.trans e)), h3.1]
  · rw [List.getElem?_append_right (by rw [List.length_set]; exact hl), List.length_set] at hq
    have h4 : q - l.length = 0 := by
      have := (List.getElem?_eq_some_iff.1 hq).1
      simp at this
      omega
    rw [h4] at hq
    have hD : B = D := by simpa using hq
    subst hD
    refine Asr.mono h2 fun b h3 _ => ⟨?_, h3.1.2⟩
    show (if f b = i then (if g b then i else l.length) else f b) = q
    rw [if_pos h3.1.1, if_neg h3.2]
    omega
end
section
variable {P : Program} {ops : Array Oper} {Q : Exit → Act → World → Prop} {md : Region.Mode} {S : World → Prop}
/-- one of two operations comes up -/
theorem wpAnyH_two {i j : Nat} {oi oj : Oper} {fuel : Nat} {listed : Array Bool} {a : Act} {w : World} (hr : Region.ready md ops listed = [i, j]) (ho : ops[i]? = some oi) (hp : ops[j]? = some oj) (hwi : Region.wanted oi (yielded ops a.tmps) = true) (hwj : Region.wanted oj (yielded ops a.tmps) = true)
    (h : ∀ K' : Act → World → Prop, (∀ a w, S w → wpAnyH P md ops Q S fuel (listed.setIfInBounds i true) a w → K' a w) → Oper.wp P oi a w K' Q)
    (h2 : ∀ K' : Act → World → Prop, (∀ a w, S w → wpAnyH P md ops Q S fuel (listed.setIfInBounds j true) a w → K' a w) → Oper.wp P oj a w K' Q) : wpAnyH P md ops Q S (fuel + 1) listed a w := by
  refine ⟨fun h0 => (by rw [hr] at h0; cases h0), fun m hm => ?_⟩
  rw [hr] at hm
  simp only [List.mem_cons, List.not_mem_nil, or_false] at hm
  rcases hm with rfl | rfl
  · refine wpOp_step ho fun K' hK => ?_
    rw [if_pos hwi]
    exact h K' (fun a w h1 h2 => hK a w ⟨h1, h2⟩)
  · refine wpOp_step hp fun K' hK => ?_
    rw [if_pos hwj]
    exact h2 K' (fun a w h1 h2 => hK a w ⟨h1, h2⟩)
/-- a quiet operation taken first, its frame to be written out -/
theorem wpAnyH_takeA {i : Nat} {oi : Oper} {v : Value} (d : Nat) {fuel : Nat} {listed : Array Bool} {a : Act} {w : World} (hi : ops[i]? = some oi) (hd : oi.dst = some d)
    (hs : Region.noSelect ops = true) (hf : Region.free md ops listed i = true) (hr : (Region.ready md ops listed).contains i = true)
    (hQ : ∀ c a w, Q (.panic c) (a.put oi.dst v) w → Q (.panic c) a w) (hy : YieldsIf P ops S oi v a) (hS : S w)
    (h : ∀ a' : Act, ({ tmps := a.tmps.setIfInBounds d v, defers := a.defers } : Act) = a' → wpAnyH P md ops Q S fuel (listed.setIfInBounds i true) a' w) : wpAnyH P md ops Q S (fuel + 1) listed a w :=
  wpAnyH_take hi hs hf hr hQ hy hS (h _ (by rw [hd]; rfl))
theorem wp_region_H {id : Nat} {a : Act} {w : World} (hm : P.follows .mixedOrders = true)
    (h : wpAnyH P .any ops Q S ops.size (Array.replicate ops.size false) a w.drew) : (Code.region id ops true).wp P Q a w := wp_region_held hm h
end
end Go.Proofs.YtggnnnddnppcpaaOwn
/-! text YtggnnnddnppcpaaLentUse -/
namespace Go.Proofs.YtggnnnddnppcpaaOwn
open Go Go.RowKit Go.Proofs.YtggnnnddnppcpaaW.PrintWords Go.Proofs.YtggnnnddnppcpaaHand
set_option linter.unusedVariables false
set_option linter.unusedSimpArgs false
section
variable {w W : World} {X : Nat → Prop} {l : List Asr}
/-- what a list of the heads that are shown shows -/
theorem shown_C (h : Sep w X l W) (iw id : Nat) {A : Option Addr} {n c : Nat} {U : List LRow} (hw : l[iw]? = some (headA (.slice A n c) (U.map LRow.shown))) (hd : l[id]? = some (dataA U)) :
    n = U.length ∧ n ≤ c ∧ Kd.C (Kd.slice 3 (Kd.int .i64)) W A U.length (U.map LRow.nums) := heads_C (h.get iw hw) (h.get id hd) (fun i t ht => ⟨i, ht⟩) fun t ht => ⟨t.k, rfl, ht, rfl⟩
theorem all_C (h : Sep w X l W) (ir id : Nat) {A : Option Addr} {n c : Nat} {T M : List LRow} (hw : l[ir]? = some (headA (.slice A n c) (T.map LRow.all))) (hd : l[id]? = some (dataA (T ++ M))) :
    n = T.length ∧ n ≤ c ∧ Kd.C (Kd.slice 3 (Kd.int .i64)) W A T.length (T.map LRow.row) := heads_C (h.get ir hw) (h.get id hd) (fun i t ht => ⟨i, by rw [List.getElem?_append_left (List.getElem?_eq_some_iff.1 ht).1]; exact ht⟩) fun t ht => ⟨t.row.length, rfl, Nat.le_refl _, by rw [List.take_length]⟩
end
theorem likeD_left (T M : List LRow) : LikeD T (T ++ M) := fun i t ht => ⟨t, by rw [List.getElem?_append_left (List.getElem?_eq_some_iff.1 ht).1]; exact ht, rfl, rfl, rfl⟩
end Go.Proofs.YtggnnnddnppcpaaOwn
namespace Go.Proofs.YtggnnnddnppcpaaHand
open Go.RowKit Go.Proofs.YtggnnnddnppcpaaW.PrintWords Go.Proofs.YtggnnnddnppcpaaW.PrintLast Go.Proofs.YtggnnnddnppcpaaMath Go.Proofs.YtggnnnddnppcpaaOwn Go.Proofs.Ytggnnnddnppcpaa.PCnfKeepsJoin
set_option linter.unusedVariables false
set_option linter.unusedSimpArgs false

/-- a walk stops ahead of such a goal -/
structure HoldU (p : Prop) : Prop where
  out : p

end Go.Proofs.YtggnnnddnppcpaaHand
/-! text YtggnnnddnppcpaaApartRel -/
namespace Go.Proofs.YtggnnnddnppcpaaOwn
open Go Go.RowKit Go.Proofs.YtggnnnddnppcpaaW.PrintWords
set_option linter.unusedVariables false
/-- n places, each as G says of row k -/
def AllG (G : Nat → Nat → Value → Prop) (k n : Nat) (xs : List Value) : Prop := xs.length = n ∧ ∀ j, j < n → ∃ u, xs[j]? = some u ∧ G k j u
section
variable (G : Nat → Nat → Value → Prop) (rows : List (Value × Nat))
def G1 (D : List (Value × List Value)) (k i : Nat) : Prop := ∀ (k' : Nat) p d, rows[k']? = some p → D[k']? = some d → d.1 = p.1 ∧ d.2.length = p.2 ∧ ∀ j, j < p.2 → (k' < k ∨ k' = k ∧ j < i) → ∃ u, d.2[j]? = some u ∧ G k' j u
def G2 (D : List (Value × List Value)) (k x : Nat) : Prop := ∀ (k' : Nat) p d, rows[k']? = some p → D[k']? = some d → (k' < k → AllG G k' (p.2 + 64) d.2) ∧ (k' = k → AllG G k' (p.2 + x) d.2) ∧ (k < k' → AllG G k' p.2 d.2)
def G4 (D : List (Value × List Value)) : Prop := ∀ (k' : Nat) p d, rows[k']? = some p → D[k']? = some d → d.2.length = p.2 + 64 ∧ ∀ j, j < p.2 → ∃ u, d.2[j]? = some u ∧ G k' j u
variable {G rows} {G' : Nat → Nat → Value → Prop} {D : List (Value × List Value)} {k i n : Nat} {p : Value × Nat} {xs : List Value} {u : Value}
theorem AllG.mono (h : AllG G k n xs) (hG : ∀ k j u, G k j u → G' k j u) : AllG G' k n xs := ⟨h.1, fun j hj => by
  obtain ⟨u, h1, h2⟩ := h.2 j hj
  exact ⟨u, h1, hG _ _ _ h2⟩⟩
theorem AllG.append (h : AllG G k n xs) (hu : G k n u) : AllG G k (n + 1) (xs ++ [u]) := ⟨by rw [List.length_append, h.1]; rfl, fun j hj => by
  rcases Nat.lt_or_ge j n with h1 | h1
  · obtain ⟨v, h2, h3⟩ := h.2 j h1
    exact ⟨v, by rw [List.getElem?_append_left (by rw [h.1]; exact h1)]; exact h2, h3⟩
  · obtain rfl : j = n := by omega
    exact ⟨u, by rw [List.getElem?_append_right (by rw [h.1]; exact Nat.le_refl _), h.1, Nat.sub_self]; rfl, hu⟩⟩
theorem AllG.take (h : AllG G k n xs) {m : Nat} (hm : m ≤ n) : AllG G k m (xs.take m) := ⟨by rw [List.length_take, h.1]; omega, fun j hj => by
  obtain ⟨u, h1, h2⟩ := h.2 j (by omega)
  exact ⟨u, by rw [List.getElem?_take, if_pos hj]; exact h1, h2⟩⟩
theorem G1.mono (h : G1 G rows D k i) (hG : ∀ k j u, G k j u → G' k j u) : G1 G' rows D k i := fun k' p d hp hd => by
  obtain ⟨h1, h2, h3⟩ := h k' p d hp hd
  refine ⟨h1, h2, fun j hj hjj => ?_⟩
  obtain ⟨u, h4, h5⟩ := h3 j hj hjj
  exact ⟨u, h4, hG _ _ _ h5⟩
theorem G2.mono (h : G2 G rows D k i) (hG : ∀ k j u, G k j u → G' k j u) : G2 G' rows D k i := fun k' p d hp hd => by
  obtain ⟨h1, h2, h3⟩ := h k' p d hp hd
  exact ⟨fun h => (h1 h).mono hG, fun h => (h2 h).mono hG, fun h => (h3 h).mono hG⟩
theorem G1.start (hD : ∀ (k' : Nat) p d, rows[k']? = some p → D[k']? = some d → d.1 = p.1 ∧ d.2.length = p.2) : G1 G rows D 0 0 := fun k' p d hp hd => ⟨(hD k' p d hp hd).1, (hD k' p d hp hd).2, fun j _ hj => by omega⟩
theorem G1.mark {v : Value} (h : G1 G rows D k i) (hp : rows[k]? = some p) (hd : D[k]? = some (v, xs)) (hi : i < p.2) (hu : G k i u) : G1 G rows (D.set k (v, xs.set i u)) k (i + 1) := by
  intro k' p' d' hp' hd'
  rw [List.getElem?_set] at hd'
  by_cases hk : k = k'
  · subst hk
    rw [hp] at hp'
    injection hp' with hp'
    subst hp'
    rw [if_pos rfl, if_pos (List.getElem?_eq_some_iff.1 hd).1] at hd'
    injection hd' with hd'
    subst hd'
    obtain ⟨h1, h2, h3⟩ := h k p _ hp hd
    refine ⟨h1, by simpa using h2, fun j hj hjj => ?_⟩
    show ∃ u', (xs.set i u)[j]? = some u' ∧ G k j u'
    rw [List.getElem?_set]
    split
    · rename_i hij
      subst hij
      have : i < xs.length := by have := h2; simp only at this; omega
      exact ⟨u, by simp [this], hu⟩
    · exact h3 j hj (by omega)
  · rw [if_neg hk] at hd'
    obtain ⟨h1, h2, h3⟩ := h k' p' d' hp' hd'
    exact ⟨h1, h2, fun j hj hjj => h3 j hj (by omega)⟩
theorem G1.next (h : G1 G rows D k p.2) (hp : rows[k]? = some p) : G1 G rows D (k + 1) 0 := fun k' p' d' hp' hd' => by
  obtain ⟨h1, h2, h3⟩ := h k' p' d' hp' hd'
  refine ⟨h1, h2, fun j hj hjj => h3 j hj ?_⟩
  by_cases hk : k' = k
  · subst hk
    rw [hp] at hp'
    injection hp' with hp'
    subst hp'
    omega
  · omega
theorem G1.done (h : G1 G rows D rows.length 0) : G2 G rows D 0 0 := fun k' p d hp hd => by
  obtain ⟨h1, h2, h3⟩ := h k' p d hp hd
  have hk := (List.getElem?_eq_some_iff.1 hp).1
  have h4 : AllG G k' p.2 d.2 := ⟨h2, fun j hj => h3 j hj (by omega)⟩
  exact ⟨fun hlt => by omega, fun _ => h4, fun _ => h4⟩
theorem G2.set {d d' : Value × List Value} {x : Nat} (h : G2 G rows D k i) (hp : rows[k]? = some p) (hd : D[k]? = some d) (hd' : AllG G k (p.2 + x) d'.2) : G2 G rows (D.set k d') k x := by
  intro k' p' d2 hp' hd2
  rw [List.getElem?_set] at hd2
  by_cases hk : k = k'
  · subst hk
    rw [hp] at hp'
    injection hp' with hp'
    subst hp'
    rw [if_pos rfl, if_pos (List.getElem?_eq_some_iff.1 hd).1] at hd2
    injection hd2 with hd2
    subst hd2
    exact ⟨fun h => by omega, fun _ => hd', fun h => by omega⟩
  · rw [if_neg hk] at hd2
    obtain ⟨h1, h2, h3⟩ := h k' p' d2 hp' hd2
    exact ⟨h1, fun e => absurd e.symm hk, h3⟩
theorem G2.next (h : G2 G rows D k 64) : G2 G rows D (k + 1) 0 := fun k' p' d' hp' hd' => by
  obtain ⟨h1, h2, h3⟩ := h k' p' d' hp' hd'
  refine ⟨fun hk => ?_, fun hk => h3 (by omega), fun hk => h3 (by omega)⟩
  by_cases hk2 : k' = k
  · exact h2 hk2
  · exact h1 (by omega)
theorem G2.row {d : Value × List Value} (h : G2 G rows D k i) (hp : rows[k]? = some p) (hd : D[k]? = some d) : AllG G k (p.2 + i) d.2 := (h k p d hp hd).2.1 rfl
theorem G2.full {d : Value × List Value} (h : G2 G rows D rows.length 0) (hp : rows[k]? = some p) (hd : D[k]? = some d) : AllG G k (p.2 + 64) d.2 := (h k p d hp hd).1 (List.getElem?_eq_some_iff.1 hp).1
theorem G2.four (h : G2 G rows D rows.length 0) : G4 G rows D := fun k p d hp hd => by
  have := h.full hp hd
  exact ⟨this.1, fun j hj => this.2 j (by omega)⟩
theorem G4.set {d d' : Value × List Value} {ms : List Value} (h : G4 G rows D) (hp : rows[k]? = some p) (hd : D[k]? = some d) (hm : ms.length = 64) (hd' : d'.2 = d.2.take p.2 ++ ms) : G4 G rows (D.set k d') := by
  intro k' p' d2 hp' hd2
  rw [List.getElem?_set] at hd2
  by_cases hk : k = k'
  · subst hk
    rw [hp] at hp'
    injection hp' with hp'
    subst hp'
    rw [if_pos rfl, if_pos (List.getElem?_eq_some_iff.1 hd).1] at hd2
    injection hd2 with hd2
    subst hd2
    obtain ⟨h1, h2⟩ := h k p d hp hd
    have hl : (d.2.take p.2).length = p.2 := by rw [List.length_take]; omega
    rw [hd']
    refine ⟨by rw [List.length_append, hl, hm], fun j hj => ?_⟩
    obtain ⟨u, h3, h4⟩ := h2 j hj
    exact ⟨u, by rw [List.getElem?_append_left (by rw [hl]; exact hj), List.getElem?_take, if_pos hj]; exact h3, h4⟩
  · rw [if_neg hk] at hd2
    exact h k' p' d2 hp' hd2
end
/-- the list of rows lies in no row -/
theorem AQ.out_ne {e e' : TypeId} {w W : World} {rows : List (Value × Nat)} {D : List (Value × List Value)} {gv : Value} {H : List Value} {mv : Value} {ms : List Value} {Z : List (Nat × Obj)} {k : Nat} {p : Value × Nat} {d : Value × List Value} {ad : Addr} {b : Nat}
    (h : AQ e e' w rows (some ad) D gv H mv ms Z W) (hp : rows[k]? = some p) (hd : D[k]? = some d) (hb : d.1.ownBlock = some b) : b ≠ ad.block := by
  obtain ⟨f, h⟩ := h
  obtain ⟨ad', h1, h2, _⟩ := h.out k p hp
  injection h1 with h1
  subst h1
  have h3 := (h.row k p d hp hd).now.2 b hb
  have hk := (List.getElem?_eq_some_iff.1 hp).1
  rintro rfl
  omega
end Go.Proofs.YtggnnnddnppcpaaOwn
