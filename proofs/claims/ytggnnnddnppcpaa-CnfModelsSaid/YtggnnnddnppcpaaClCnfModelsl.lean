/- The contract of cnf.Models' iterator, told with blocks of its own: what it hands over is a new row, none of the iterator's. -/
import Derived.Test.YtggnnnddnppcpaaClCnfModelsk
import Derived.Test.YtggnnnddnppcpaaClCnfModelse
import Derived.Test.YtggnnnddnppcpaaClCnfModelsf
/-! text YtggnnnddnppcpaaCnfModelsOwn -/
namespace Go.Proofs.YtggnnnddnppcpaaHand
open Go.RowKit Go.Shelf Go.Proofs.YtggnnnddnppcpaaW.PrintWords Go.Proofs.YtggnnnddnppcpaaW.PrintLast Go.Proofs.YtggnnnddnppcpaaMath Go.Proofs.YtggnnnddnppcpaaCells Go.Proofs.YtggnnnddnppcpaaOwn
set_option linter.unusedVariables false
set_option linter.unusedSimpArgs false
attribute [local go_sem] Oper.semAt_some
abbrev OwnBools (W : World) (base : Nat) (v : Value) (xs : List Bool) : Prop := W.ownsRow base 4 1 v xs.length (xs.map Value.bool)
theorem Src.keptD {v : Nat} {cs : List (List Int)} {Bg base0 : Nat} {ok M : Nat → Prop} {A : Option Addr} {cap : Nat} {W W1 : World} (h : Src v cs Bg base0 ok A cap W) (k : KeptD M W W1) (h1 : M Bg) (h2 : ∀ k, ok k → M k) : Src v cs Bg base0 ok A cap W1 :=
  ⟨k.2 _ _ h1 h.hg, Kd.S_mono (Kd.S_move (Kd.S_bound h.hc) (fun j hj => by obtain ⟨ho, _, hlt, q, _, cells, hc⟩ := hj; rw [hc]; exact k.2 _ _ (h2 j ho) hc)) (fun _ hk => hk.1)⟩
set_option maxRecDepth 100000 in
set_option maxHeartbeats 4000000 in
theorem models2_own_in (n : Nat) (hn : 1 ≤ n) (l v : Nat) (cs : List (List Int)) (Bg base0 : Nat) (ok : Nat → Prop) (A : Option Addr) (cap : Nat) (hv : v ≤ 16) (hf : isFormula (v : Int) cs = true) (hcn : cs.length ≤ 17592186044416) (hcs : ∀ c ∈ cs, c.length ≤ 17592186044416)
    (J Jx : List (Value × List Bool) → World → Prop) (W : World) (hJ : AbidesM W.heap.size J) (hSrc : Src v cs Bg base0 ok A cap W)
    (hY : ∀ pre x A0 W1, J pre A0 → J pre W1 → Below A0.heap.size A0 W1 → W.heap.size < A0.heap.size → x.2.length = v → OwnBools W1 A0.heap.size x.1 x.2 → pre.length < 65536 → YieldAt Fence.wide (n - 1) Try.prog l #[x.1] W1 fun e W' =>
      (e = .returned (.bool true) ∧ J (pre ++ [x]) W' ∧ KeptD (fun k => k = W.heap.size ∨ k = Bg ∨ ok k) W1 W') ∨ (e = .returned (.bool false) ∧ Jx (pre ++ [x]) W'))
    (h0 : J [] W) :
    CallsIn Fence.wide n Try.prog 72 #[.func (.yield l) #[] #[], .pointer (some ⟨Bg, 0, none⟩)] W fun e W' => (∃ u, e = .returned u) ∧
      ((∃ xs, xs.map (·.2) = modelsIn v cs ∧ J xs W') ∨ (∃ pre, pre.map (·.2) <+: modelsIn v cs ∧ Jx pre W')) := by
  refine callsIn_of_wp Try.func72 rfl trivial ?_ rfl
  simp only [Try.ntmps72, List.size_toArray, List.length_cons, List.length_nil, Nat.reduceAdd, Nat.reduceSub, Array.replicate_succ, Array.replicate_zero, List.push_toArray, List.append_toArray, List.nil_append, List.cons_append]
  gi_wp2
  have hpow : 2 ^ v ≤ 65536 := Nat.pow_le_pow_right (n := 2) (by omega) hv
  have hpos : 0 < 2 ^ v := Nat.pow_pos (by omega)
  gi_loopw [4] (fun v4 wr => ∃ (k : Nat) (pre : List (Value × List Bool)), v4 = .bool (decide (k < 2 ^ v)) ∧ k ≤ 2 ^ v ∧ wr.heap[W.heap.size]? = some (.cells (bits (counted v k ++ List.replicate (16 - v) false)) 84 (0, 0)) ∧ pre.map (·.2) = modelsTo v cs k ∧ J pre wr ∧ Src v cs Bg base0 ok A cap wr)
    (fun v4 wr => match v4 with | .bool true => 2 ^ v - numAt wr W.heap.size v | _ => 0)
  case atStart =>
    refine ⟨0, [], by simp [hpos], Nat.zero_le _, ?_, by simp [modelsTo], hJ _ _ _ none h0 (World.grownBy_alloc W _ none) (fun r e => by cases e), hSrc.keep ((Below.refl _ _).alloc (Nat.le_refl _) _)⟩
    have e : bits (counted v 0 ++ List.replicate (16 - v) false) = (List.replicate 16 (Value.bool false)).toArray := by
      rw [counted_zero, List.replicate_append_replicate, show v + (16 - v) = 16 by omega]
      unfold bits
      rw [List.map_replicate]
    rw [e]
    exact blk_new _ _
  case round =>
    obtain ⟨k, pre, rfl, hk, hb, hpre, hJs, hsrc⟩ := hrel
    by_cases hlt : k < 2 ^ v
    · have hd : decide (k < 2 ^ v) = true := decide_eq_true hlt
      have hl16 : (counted v k ++ List.replicate (16 - v) false).length = 16 := by rw [List.length_append, counted_length, List.length_replicate]; omega
      have htk : (counted v k ++ List.replicate (16 - v) false).take v = counted v k := by rw [List.take_append_of_le_length (by rw [counted_length]; omega), List.take_of_length_le (by rw [counted_length]; omega)]
      have hC := bits_C hb (v := v) (by omega) (by omega)
      rw [htk] at hC
      have g0 := (blk_cell hsrc.hg 0).trans rfl
      have g1 := (blk_cell hsrc.hg 1).trans rfl
      have hv1 : (0 : Int) ≤ (v : Int) := by omega
      have hv2 : (v : Int) ≤ 16 := by omega
      rw [hd]
      have hmx : Try.prog.follows .mixedOrders = true := by kernel_rfl
      have HALL := fun W' h0 h1 => allIn_calls (v : Int) A (some ⟨W.heap.size, 0, none⟩) cap 16 cs (counted v k) W' h0 (Kd.S_reads' hsrc.hc).2.1 h1 (by rw [counted_length]; omega) (by rw [counted_length]) (fun c hc => by unfold isFormula at hf; rw [Bool.and_eq_true, List.all_eq_true] at hf; exact hf.2 c hc) hcn hcs
      rw [counted_length] at HALL hC
      have HA := Aside0.mk HALL
      have HCB := Aside0.mk hC
      have HSRC := Aside0.mk hsrc
      clear HALL hC
      gi_wp2
      gi_region_with_o (refine ⟨trivial, ?_⟩; (with_reducible refine (callsIn_wide.2 (HA.out _ ?hc0 ?hc1)).mono ?_); (case hc0 => first | exact (Kd.S_reads' HSRC.out.hc).2.2 | exact Kd.C_drew (Kd.S_reads' HSRC.out.hc).2.2 | exact Kd.C_drewN (Kd.S_reads' HSRC.out.hc).2.2 _); (case hc1 => first | exact HCB.out | exact Kd.C_drew HCB.out | exact Kd.C_drewN HCB.out _); rintro e w5 ⟨rfl, hb5⟩)
      all_goals
        have hb5' : Below wr.heap.size wr w5 := by first | exact hb5 | exact below_step (below_drew (Below.refl _ _)) hb5 | exact below_step (below_drew (below_drew (Below.refl _ _))) hb5
        clear hb5
        have hJ5 := hJ _ _ _ none hJs (grown_of_below hb5' none) (fun r e => by cases e)
        have hb5 := blk_below hb hb5'
        have hsrc5 := hsrc.keep hb5'
        have HNA : Aside0 (numAt wr W.heap.size v = k) := ⟨by rw [numAt_bits hb, htk, num_counted v k hlt]⟩
        clear g0 g1 hJs hb hsrc HSRC HCB HA hb5'
        have g0 := (blk_cell hsrc5.hg 0).trans rfl
        have g1 := (blk_cell hsrc5.hg 1).trans rfl
        have hnx := next_counted v k (List.replicate (16 - v) false) hlt
        have hmt := modelsTo_succ v cs k
        cases hall : allIn cs (counted v k) with
        | false =>
          rw [hall] at hmt
          simp only [Bool.false_eq_true, if_false, List.append_nil] at hmt
          gi_wp2
          refine ⟨trivial, ?_⟩
          (with_reducible refine (callsIn_wide.2 (next_calls W.heap.size v _ w5 hl16 hv hb5)).mono ?_)
          rintro e w6 ⟨rfl, hb6, hg6⟩
          rw [hnx] at hb6 ⊢
          have hJ6 := hJ _ _ _ (some W.heap.size) hJ5 hg6 (fun r e => by cases e; rfl)
          gi_wp2
          go_roundw
          case rel => exact ⟨k + 1, pre, rfl, hlt, hb6, by rw [hpre, hmt], hJ6, hsrc5.grown hg6 hb5⟩
          case measure => exact down hlt HNA.out hb6
        | true =>
          rw [hall] at hmt
          simp only [if_true] at hmt
          obtain ⟨b0, b1, b2, b3, b4, b5, b6, b7, b8, b9, b10, b11, b12, b13, b14, b15, hm16⟩ := sixteen _ hl16
          have HM16 := Aside0.mk hm16
          rw [hm16] at hb5
          have hb5' : w5.heap[W.heap.size]? = some (.cells #[.bool b0, .bool b1, .bool b2, .bool b3, .bool b4, .bool b5, .bool b6, .bool b7, .bool b8, .bool b9, .bool b10, .bool b11, .bool b12, .bool b13, .bool b14, .bool b15] 84 (0, 0)) := hb5
          have q0 := (blk_cell hb5' 0).trans rfl
          have q1 := (blk_cell hb5' 1).trans rfl
          have q2 := (blk_cell hb5' 2).trans rfl
          have q3 := (blk_cell hb5' 3).trans rfl
          have q4 := (blk_cell hb5' 4).trans rfl
          have q5 := (blk_cell hb5' 5).trans rfl
          have q6 := (blk_cell hb5' 6).trans rfl
          have q7 := (blk_cell hb5' 7).trans rfl
          have q8 := (blk_cell hb5' 8).trans rfl
          have q9 := (blk_cell hb5' 9).trans rfl
          have q10 := (blk_cell hb5' 10).trans rfl
          have q11 := (blk_cell hb5' 11).trans rfl
          have q12 := (blk_cell hb5' 12).trans rfl
          have q13 := (blk_cell hb5' 13).trans rfl
          have q14 := (blk_cell hb5' 14).trans rfl
          have q15 := (blk_cell hb5' 15).trans rfl
          have hsrc6 := hsrc5.keep (below_alloc (Below.refl _ _) (.cells #[.bool b0, .bool b1, .bool b2, .bool b3, .bool b4, .bool b5, .bool b6, .bool b7, .bool b8, .bool b9, .bool b10, .bool b11, .bool b12, .bool b13, .bool b14, .bool b15] 84 (0, 0)))
          have g06 := (blk_cell hsrc6.hg 0).trans rfl
          have HJ6 := Aside0.mk (hJ _ _ _ none hJ5 (World.grownBy_alloc w5 (.cells #[.bool b0, .bool b1, .bool b2, .bool b3, .bool b4, .bool b5, .bool b6, .bool b7, .bool b8, .bool b9, .bool b10, .bool b11, .bool b12, .bool b13, .bool b14, .bool b15] 84 (0, 0)) none) (fun r e => by cases e))
          have HB6 := Aside0.mk (blk_alloc hb5 (.cells #[.bool b0, .bool b1, .bool b2, .bool b3, .bool b4, .bool b5, .bool b6, .bool b7, .bool b8, .bool b9, .bool b10, .bool b11, .bool b12, .bool b13, .bool b14, .bool b15] 84 (0, 0)))
          have hnew : ((w5.alloc (.cells #[.bool b0, .bool b1, .bool b2, .bool b3, .bool b4, .bool b5, .bool b6, .bool b7, .bool b8, .bool b9, .bool b10, .bool b11, .bool b12, .bool b13, .bool b14, .bool b15] 84 (0, 0)))).heap[w5.heap.size]? = some (.cells (bits [b0, b1, b2, b3, b4, b5, b6, b7, b8, b9, b10, b11, b12, b13, b14, b15]) 84 (0, 0)) := blk_new _ _
          rw [← hm16] at hnew
          have HNW : Aside0 (∀ j u, ((counted v k).map Value.bool)[j]? = some u → ((w5.alloc (.cells #[.bool b0, .bool b1, .bool b2, .bool b3, .bool b4, .bool b5, .bool b6, .bool b7, .bool b8, .bool b9, .bool b10, .bool b11, .bool b12, .bool b13, .bool b14, .bool b15] 84 (0, 0)))).cell? ((⟨w5.heap.size, 0, none⟩ : Addr).add j) = some u) := ⟨fun j u hu => by
            have hj : j < v := by
              have := (List.getElem?_eq_some_iff.1 hu).1
              simpa [counted_length] using this
            have e : (⟨w5.heap.size, 0, none⟩ : Addr).add j = ⟨w5.heap.size, j, none⟩ := by simp [Addr.add]; try omega
            rw [e]
            refine (blk_cell hnew j).trans ?_
            rw [← hu]
            unfold bits
            rw [List.getElem?_toArray, List.map_append, List.getElem?_append_left (by simp [counted_length]; exact hj)]⟩
          have HSRC6 := Aside0.mk hsrc6
          have HSZ := Aside0.mk (blk_lt HB6.out)
          have HL : Aside0 (pre.length < 65536) := ⟨by have h1 := congrArg List.length hpre; have h2 := modelsTo_length v cs k; rw [List.length_map] at h1; omega⟩
          clear hm16 hnew hsrc6 hJ5
          obtain ⟨i0, hi, hz0, hz1, hz2⟩ := info_parts infoB
          have HV : Aside0 (v ≤ 16) := ⟨hv⟩
          gi_wp2_with (gi_at_builtin; (refine wpListIn_append_own _ rfl _ _ 41 rfl (w5.heap.size + 1) 4 i0 (.bool false) 1 1 Try.underlying41 hi hz0 hz1 hz2 rfl (by decide) (.slice none 0 0) 0 [] rfl (World.ownsRow_nil _ _ _ _) ⟨w5.heap.size, 0, none⟩ v 16 ((counted v k).map Value.bool) rfl (by simp [counted_length]) HNW.out (fun u hu => by obtain ⟨b, _, rfl⟩ := List.mem_map.1 hu; rfl) (by have := HV.out; unfold maxLen; omega) (by have := HV.out; omega) (by simp) ?_; intro v7 w7 hown hgrow _; have HJ7 := Aside0.mk (hJ _ _ _ none HJ6.out hgrow (fun r e => by cases e)); have HB7 := Aside0.mk (blk_grown HB6.out hgrow (by simp [Value.ownBlock])); have HSRC7 := Aside0.mk (HSRC6.out.keep (below_grown_none hgrow)); obtain ⟨fn, tmps, assign, body, hy, hR⟩ := hY pre (v7, counted v k) _ w7 HJ6.out HJ7.out (below_grown_none hgrow) HSZ.out (counted_length v k) (by simpa [OwnBools, counted_length, World.size_alloc] using hown) HL.out))
          refine hR.mono ?_
          rintro e w8 (⟨rfl, hJ8, hk8⟩ | ⟨rfl, hJx8⟩)
          · have hb8 := hk8.2 _ _ (.inl rfl) HB7.out
            have hsrc8 := HSRC7.out.keptD hk8 (.inr (.inl rfl)) (fun _ h => .inr (.inr h))
            have g08 := (blk_cell hsrc8.hg 0).trans rfl
            rw [← HM16.out] at hb8
            clear g06 hy hR hown hgrow q0 q1 q2 q3 q4 q5 q6 q7 q8 q9 q10 q11 q12 q13 q14 q15
            gi_wp2
            refine ⟨trivial, ?_⟩
            (with_reducible refine (callsIn_wide.2 (next_calls W.heap.size v _ w8 hl16 hv hb8)).mono ?_)
            rintro e w9 ⟨rfl, hb9, hg9⟩
            rw [hnx] at hb9 ⊢
            have hJ9 := hJ _ _ _ (some W.heap.size) hJ8 hg9 (fun r e => by cases e; rfl)
            gi_wp2
            go_roundw
            case rel => exact ⟨k + 1, pre ++ [(v7, counted v k)], rfl, hlt, hb9, by rw [List.map_append, hpre, hmt]; rfl, hJ9, hsrc8.grown hg9 hb8⟩
            case measure => exact down hlt HNA.out hb9
          · gi_wp2
            refine bodyPost_ret (results_none rfl _ _ _) rfl ?_
            refine ⟨⟨_, rfl⟩, .inr ⟨pre ++ [(v7, counted v k)], ?_, hJx8⟩⟩
            have e : (pre ++ [(v7, counted v k)]).map (·.2) = modelsTo v cs (k + 1) := by rw [List.map_append, hpre, hmt]; rfl
            rw [e]
            exact modelsTo_prefix v cs hlt
    · have hd : decide (k < 2 ^ v) = false := decide_eq_false hlt
      obtain rfl : k = 2 ^ v := by omega
      rw [hd]
      gi_wp2
      go_end0
      exact ⟨⟨_, rfl⟩, .inl ⟨pre, hpre, hJs⟩⟩

/-- what is handed out: so many truths in a new row, none of the iterator's blocks -/
def HandB (v : Nat) (A : World) (M : Nat → Prop) (p : Value × List Bool) (W : World) : Prop := p.2.length = v ∧ OwnBools W A.heap.size p.1 p.2 ∧ ∀ k, p.1.ownBlock = some k → ¬ M k
theorem HandB.move {v : Nat} (A : World) (M M' : Nat → Prop) (p : Value × List Bool) (W W' : World) (h : HandB v A M p W) (hM : ∀ k, M' k → M k ∨ k < A.heap.size) (hW : ∀ k cs t z, A.heap.size ≤ k → W.heap[k]? = some (.cells cs t z) → W'.heap[k]? = some (.cells cs t z)) : HandB v A M' p W' := by
  obtain ⟨h0, h1, h2⟩ := h
  have hb : ∀ k, p.1.ownBlock = some k → A.heap.size ≤ k ∧ W'.heap[k]? = W.heap[k]? := fun k hk => by
    rcases h1.2 with ⟨e, _⟩ | ⟨g, cap, cur, e, hg, hc, _⟩
    · rw [e] at hk; simp [Value.ownBlock] at hk
    · rw [e] at hk
      simp [Value.ownBlock] at hk
      subst hk
      exact ⟨hg, (hW g _ _ _ hg hc).trans hc.symm⟩
  refine ⟨h0, own_move h1 fun k hk => (hb k hk).2, fun k hk h4 => ?_⟩
  rcases hM k h4 with h5 | h5
  · exact h2 k hk h5
  · have := (hb k hk).1
    omega
theorem models_own (n : Nat) (hn : 1 ≤ n) (v : Nat) (cs : List (List Int)) (Bg base0 : Nat) (ok : Nat → Prop) (A : Option Addr) (cap : Nat) (hv : v ≤ 16) (hf : isFormula (v : Int) cs = true) (hcn : cs.length ≤ 17592186044416) (hcs : ∀ c ∈ cs, c.length ≤ 17592186044416)
    (w : World) (hSrc : Src v cs Bg base0 ok A cap w) :
    SeqD Fence.wide n Try.prog 72 #[.pointer (some ⟨Bg, 0, none⟩)] (fun x : Value × List Bool => #[x.1]) (HandB v) (fun k => k = Bg ∨ ok k) (fun xs => xs.map (·.2) = modelsIn v cs) (fun pre => pre.map (·.2) <+: modelsIn v cs) 65536 w := by
  intro l J Jx W hW hJ hJx hY h0
  refine (models2_own_in n hn l v cs Bg base0 ok A cap hv hf hcn hcs
    (fun s V => ∃ M, J M s V ∧ (∀ k, M k → W.heap.size ≤ k ∧ k < V.heap.size) ∧ (M W.heap.size ∨ V.heap.size ≤ W.heap.size))
    (fun s V => ∃ M, Jx M s V) W ?_ (hSrc.keep hW) ?_ ⟨_, h0, fun _ h => h.elim, .inr (Nat.le_refl _)⟩).mono ?_
  · rintro s V V' row ⟨M, h1, h2, h3⟩ hg hr
    have hgr : Grow M V V' := ⟨hg.os, hg.tape, hg.output, hg.size, fun k hk hn => hg.block k hk (fun e => by
      have e2 := hr k e.symm
      subst e2
      rcases h3 with h3 | h3
      · exact hn h3
      · omega)⟩
    refine ⟨fun k => M k ∨ (k = W.heap.size ∧ W.heap.size < V'.heap.size ∧ V.heap.size ≤ W.heap.size), hJ _ _ _ _ _ h1 hgr (fun k hk => ?_), fun k hk => ?_, ?_⟩
    · rcases hk with hk | ⟨rfl, h4, h5⟩
      · exact .inl hk
      · exact .inr ⟨h5, h4⟩
    · rcases hk with hk | ⟨rfl, h4, h5⟩
      · have := h2 k hk
        have := hg.size
        exact ⟨by omega, by omega⟩
      · exact ⟨Nat.le_refl _, h4⟩
    · rcases h3 with h3 | h3
      · exact .inl (.inl h3)
      · rcases Nat.lt_or_ge W.heap.size V'.heap.size with h4 | h4
        · exact .inl (.inr ⟨rfl, h4, h3⟩)
        · exact .inr h4
  · rintro pre x A0 W1 ⟨M, h1, h2, h3⟩ _ hb hlt hl ho hN
    have hMW : M W.heap.size := h3.resolve_right (by omega)
    refine YieldAt.mono (hY M M pre x A0 W1 h1 (Grow.of_below hb) (More.refl _ _ _) (fun _ h => h) ⟨hl, ho, fun k hk hM => by have := own_base ho k hk; have := h2 k hM; omega⟩ hN) ?_
    rintro e W' (⟨rfl, hj, hk⟩ | ⟨rfl, hj, hk⟩)
    · refine .inl ⟨rfl, ⟨M, hj, fun k hM => ⟨(h2 k hM).1, ?_⟩, .inl hMW⟩, hk.mono ?_⟩
      · have := (h2 k hM).2
        have := hb.size
        have := hk.1
        omega
      · rintro k (rfl | h)
        · exact .inl hMW
        · exact .inr h
    · exact .inr ⟨rfl, M, hj⟩
  · rintro e W' ⟨h1, (⟨xs, h2, M, h3, _⟩ | ⟨pre, h2, M, h3⟩)⟩
    · exact ⟨h1, M, .inl ⟨xs, h2, h3⟩⟩
    · exact ⟨h1, M, .inr ⟨pre, h2, h3⟩⟩
/-- an iterator over nothing -/
theorem nothing_own (n v : Nat) (Rd : Nat → Prop) (w : World) :
    SeqD Fence.wide n Try.prog 71 #[] (fun x : Value × List Bool => #[x.1]) (HandB v) Rd (fun xs => xs.map (·.2) = []) (fun pre => False) 65536 w := by
  intro l J Jx W hW hJ hJx hY h0
  refine callsIn_wide.2 ((callsIn_wide (n := 6)).1 ?_)
  refine callsIn_of_wp Try.func71 rfl trivial ?_ rfl
  simp only [Try.ntmps71, List.size_toArray, List.length_cons, List.length_nil, Nat.reduceAdd, Nat.reduceSub, Array.replicate_succ, Array.replicate_zero, List.push_toArray, List.append_toArray, List.nil_append, List.cons_append]
  have H := Aside0.mk h0
  clear h0 hY hJ hJx
  gi_wp2
  go_end0
  exact ⟨⟨_, rfl⟩, _, .inl ⟨[], rfl, H.out⟩⟩
end Go.Proofs.YtggnnnddnppcpaaHand
/-! text YtggnnnddnppcpaaModelsMod -/

