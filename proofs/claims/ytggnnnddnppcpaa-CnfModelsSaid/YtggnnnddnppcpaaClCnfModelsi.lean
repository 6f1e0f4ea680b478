/- The iterator that cnf.Models answers: its contract. -/
import Derived.Test.YtggnnnddnppcpaaClCnfModelsf
import Derived.Test.YtggnnnddnppcpaaClCnfModelsh
import Derived.RangeFuncNested
import Derived.RangeFuncBound
import Derived.RangeFuncCalls
import Derived.RangeFuncLeaves
import Derived.Shelf.Abstract
import Derived.Shelf.RegionOpen
import Derived.OwnWalkIn
import Derived.TacticsInMore
import Derived.LoopNIn
import Derived.LoopIn
import Derived.Test.YtggnnnddnppcpaaClCnfModelsg
import Derived.BigQuiet
import Derived.Deep.LoopGhost
/-! text YtggnnnddnppcpaaCnfModels2 -/
namespace Go.Proofs.YtggnnnddnppcpaaHand
open Go.RowKit Go.Shelf Go.Proofs.YtggnnnddnppcpaaW.PrintWords Go.Proofs.YtggnnnddnppcpaaW.PrintLast Go.Proofs.YtggnnnddnppcpaaMath Go.Proofs.YtggnnnddnppcpaaCells
set_option linter.unusedVariables false
set_option linter.unusedSimpArgs false
attribute [local go_sem] Oper.semAt_some

/-- what a round keeps: the blocks of cells that are not the caller's variables -/
def KeepC (S : Nat → Prop) (W W' : World) : Prop := W.heap.size ≤ W'.heap.size ∧ ∀ k cells t z, W.heap[k]? = some (.cells cells t z) → ¬ S k → W'.heap[k]? = some (.cells cells t z)
theorem KeepC.trans {S : Nat → Prop} {A B C : World} (h : KeepC S A B) (k : KeepC S B C) : KeepC S A C := ⟨Nat.le_trans h.1 k.1, fun i cells t z hi hs => k.2 i cells t z (h.2 i cells t z hi hs) hs⟩
theorem KeepC.put {S : Nat → Prop} (W : World) (l : Nat) (o o' : Obj) (h : W.heap[l]? = some o) (hc : o.isCells = false) : KeepC S W (W.putObj l o') := by
  have hg := grownBy_putObj' W l o'
  refine ⟨hg.size, fun k cells t z hk _ => (hg.block k (Array.getElem?_eq_some_iff.1 hk).1 (fun e => ?_)).trans hk⟩
  cases e
  rw [h] at hk
  cases hk
  cases hc

/-- what is handed out: so many truths in a new row -/
def Handed (v : Nat) (x : Value × List Bool) (W : World) : Prop := x.2.length = v ∧ ∃ base, Kd.R Kd.bool 4 W base (fun _ => True) x.1 x.2

/-- what the iterator reads: its formula's variable, the clauses -/
structure Src (v : Nat) (cs : List (List Int)) (Bg base0 : Nat) (ok : Nat → Prop) (A : Option Addr) (cap : Nat) (W : World) : Prop where
  hg : W.heap[Bg]? = some (.cells #[.int .i64 (v : Int), .slice A cs.length cap] 24 (0, 0))
  hc : Kd.S (Kd.slice 3 (Kd.int .i64)) 43 W base0 ok (.slice A cs.length cap) cs

theorem Src.keep {v : Nat} {cs : List (List Int)} {Bg base0 : Nat} {ok : Nat → Prop} {A : Option Addr} {cap : Nat} {W W1 : World} (h : Src v cs Bg base0 ok A cap W) (k : Below W.heap.size W W1) : Src v cs Bg base0 ok A cap W1 := ⟨blk_below h.hg k, Kd.S_below h.hc k⟩
theorem Src.grown {v : Nat} {cs : List (List Int)} {Bg base0 b : Nat} {ok : Nat → Prop} {A : Option Addr} {cap : Nat} {W W1 : World} {m : Array Value} (h : Src v cs Bg base0 ok A cap W) (hg : W.grownBy W1 (some b)) (hb : W.heap[b]? = some (.cells m 84 (0, 0))) : Src v cs Bg base0 ok A cap W1 :=
  ⟨blk_grown h.hg hg (fun e => by have := blk_ne h.hg hb (by decide); simp at e; omega), Kd.S_mono (Kd.S_grown (Kd.S_types h.hc hb (by decide)) hg (fun k hk => by have := hk.2; simp; exact this)) (fun _ hk => hk.1)⟩
theorem Src.kept {v : Nat} {cs : List (List Int)} {Bg base0 : Nat} {ok Sv : Nat → Prop} {A : Option Addr} {cap : Nat} {W W1 : World} (h : Src v cs Bg base0 ok A cap W) (k : KeepC Sv W W1) (h1 : ¬ Sv Bg) (h2 : ∀ k, ok k → ¬ Sv k) : Src v cs Bg base0 ok A cap W1 :=
  ⟨k.2 _ _ _ _ h.hg h1, Kd.S_mono (Kd.S_move (Kd.S_bound h.hc) (fun j hj => by obtain ⟨ho, _, _, q, _, cells, hc⟩ := hj; rw [hc]; exact k.2 _ _ _ _ hc (h2 j ho))) (fun _ hk => hk.1)⟩
theorem bits_C {W : World} {b v t : Nat} {m : List Bool} (h : W.heap[b]? = some (.cells (bits m) t (0, 0))) (hv : v ≤ m.length) (hm : m.length ≤ 16) : Kd.C Kd.bool W (some ⟨b, 0, none⟩) (m.take v).length (m.take v) := by
  refine Kd.C_of_reads (d := false) ⟨rfl, by rw [List.length_take]; omega, fun hn => ⟨⟨b, 0, none⟩, rfl, fun j hj => ?_⟩⟩
  rw [List.length_take] at hj
  have hc : W.cell? ⟨b, j, none⟩ = (bits m)[j]? := blk_cell h j
  have e : (⟨b, 0, none⟩ : Addr).add j = ⟨b, j, none⟩ := by simp [Addr.add]; try omega
  rw [e, hc]
  have hj2 : j < m.length := by omega
  simp [bits, List.getD_eq_getElem?_getD, List.getElem?_take, List.getElem?_eq_getElem hj2, show j < v by omega]
/-- the number that the first places of a block hold -/
def numAt (W : World) (b v : Nat) : Nat := match W.heap[b]? with
  | some (.cells cs _ _) => numOf ((cs.toList.take v).map fun u => match u with | .bool x => x | _ => false)
  | _ => 0
theorem numAt_bits {W : World} {b v t : Nat} {m : List Bool} (h : W.heap[b]? = some (.cells (bits m) t (0, 0))) : numAt W b v = numOf (m.take v) := by
  unfold numAt
  rw [h]
  simp only [bits, ← List.map_take, List.map_map]
  congr 1
  conv => rhs; rw [← List.map_id (m.take v)]
  exact List.map_congr_left (fun x _ => rfl)

theorem sixteen (m : List Bool) (h : m.length = 16) : ∃ b0 b1 b2 b3 b4 b5 b6 b7 b8 b9 b10 b11 b12 b13 b14 b15, m = [b0, b1, b2, b3, b4, b5, b6, b7, b8, b9, b10, b11, b12, b13, b14, b15] := by
  match m, h with
  | [b0, b1, b2, b3, b4, b5, b6, b7, b8, b9, b10, b11, b12, b13, b14, b15], _ => exact ⟨b0, b1, b2, b3, b4, b5, b6, b7, b8, b9, b10, b11, b12, b13, b14, b15, rfl⟩
theorem down {wr w6 : World} {b v k t : Nat} {r : List Bool} (hlt : k < 2 ^ v) (h : numAt wr b v = k) (h6 : w6.heap[b]? = some (.cells (bits (counted v (k + 1) ++ r)) t (0, 0))) :
    (match (Value.bool (decide (k + 1 < 2 ^ v))) with | .bool true => 2 ^ v - numAt w6 b v | _ => 0) < (match (Value.bool true) with | .bool true => 2 ^ v - numAt wr b v | _ => 0) := by
  rw [h]
  by_cases hd : k + 1 < 2 ^ v
  · have e : numAt w6 b v = k + 1 := by rw [numAt_bits h6, List.take_append_of_le_length (by rw [counted_length]; omega), List.take_of_length_le (by rw [counted_length]; omega), num_counted v (k + 1) hd]
    rw [decide_eq_true hd, e]
    show 2 ^ v - (k + 1) < 2 ^ v - k
    omega
  · rw [decide_eq_false hd]
    show 0 < 2 ^ v - k
    omega

theorem infoB : (Try.prog.info? 4).map (fun i => (i.zero, i.size, i.bytes)) = some (some (.bool false), 1, 1) := by kernel_rfl
theorem own_Rb {W : World} {base : Nat} {v : Value} {xs : List Bool} (h : W.ownsRow base 4 1 v xs.length (xs.map Value.bool)) : Kd.R Kd.bool 4 W base (fun _ => True) v xs := by
  have hl : xs.length * 1 = xs.length := Nat.mul_one _
  refine ⟨fun _ _ => trivial, ⟨xs.map Value.bool, h, ?_⟩⟩
  refine ⟨by simp [Kd.bool, Kd.scalar], ?_⟩
  intro j p hj
  have hlt : j < xs.length := by
    rcases Nat.lt_or_ge j xs.length with h | h
    · exact h
    · rw [List.getElem?_eq_none h] at hj
      cases hj
  have e : xs[j] = p := by
    rw [List.getElem?_eq_getElem hlt] at hj
    exact Option.some.inj hj
  show ((xs.map Value.bool).drop (j * 1)).take 1 = [Value.bool p]
  rw [Nat.mul_one, ← List.map_drop, ← List.map_take]
  rw [List.drop_eq_getElem_cons hlt, e]
  rfl

set_option maxRecDepth 100000 in
set_option maxHeartbeats 4000000 in
theorem models2_in (n : Nat) (hn : 1 ≤ n) (l v : Nat) (cs : List (List Int)) (Bg base0 : Nat) (ok : Nat → Prop) (A : Option Addr) (cap : Nat) (Sv : Nat → Prop) (hv : v ≤ 16) (hf : isFormula (v : Int) cs = true) (hcn : cs.length ≤ 17592186044416) (hcs : ∀ c ∈ cs, c.length ≤ 17592186044416)
    (J Jx : List (Value × List Bool) → World → Prop) (W : World) (hJ : AbidesM W.heap.size J) (hSrc : Src v cs Bg base0 ok A cap W) (hSok : ∀ k, ok k → ¬ Sv k) (hSg : ¬ Sv Bg) (hSW : ∀ k, Sv k → k < W.heap.size)
    (hY : ∀ pre x W1, J pre W1 → Handed v x W1 → pre.length < 65536 → YieldAt Fence.wide (n - 1) Try.prog l #[x.1] W1 fun e W' =>
      (e = .returned (.bool true) ∧ J (pre ++ [x]) W' ∧ KeepC Sv W1 W') ∨ (e = .returned (.bool false) ∧ Jx (pre ++ [x]) W'))
    (h0 : J [] W) :
    CallsIn Fence.wide n Try.prog 72 #[.func (.yield l) #[] #[], .pointer (some ⟨Bg, 0, none⟩)] W fun e W' => (∃ u, e = .returned u) ∧
      ((∃ xs, xs.map (·.2) = modelsIn v cs ∧ J xs W') ∨ (∃ pre, pre.map (·.2) <+: modelsIn v cs ∧ Jx pre W')) := by
  refine callsIn_of_wp Try.func72 rfl trivial ?_ rfl
  simp only [Try.ntmps72, List.size_toArray, List.length_cons, List.length_nil, Nat.reduceAdd, Nat.reduceSub, Array.replicate_succ, Array.replicate_zero, List.push_toArray, List.append_toArray, List.nil_append, List.cons_append]
  gi_wp2
  have hpow : 2 ^ v ≤ 65536 := Nat.pow_le_pow_right (n := 2) (by omega) hv
  have hpos : 0 < 2 ^ v := Nat.pow_pos (by omega)
  gi_loopw [4] (fun v4 wr => ∃ (k : Nat) (pre : List (Value × List Bool)), v4 = .bool (decide (k < 2 ^ v)) ∧ k ≤ 2 ^ v ∧ wr.heap[W.heap.size]? = some (.cells (bits (counted v k ++ List.replicate (16 - v) false)) 84 (0, 0)) ∧ pre.map (·.2) = modelsTo v cs k ∧ J pre wr ∧ Src v cs Bg base0 ok A cap wr)
    (fun v4 wr => match v4 with | .bool true => 2 ^ v - numAt wr W.heap.size v | _ => 0)
  case atStart =>
    refine ⟨0, [], by simp [hpos], Nat.zero_le _, ?_, by simp [modelsTo], hJ _ _ _ none h0 (World.grownBy_alloc W _ none) (fun r e => by cases e), hSrc.keep ((Below.refl _ _).alloc (Nat.le_refl _) _)⟩
    have e : bits (counted v 0 ++ List.replicate (16 - v) false) = (List.replicate 16 (Value.bool false)).toArray := by
      rw [counted_zero, List.replicate_append_replicate, show v + (16 - v) = 16 by omega]
      unfold bits
      rw [List.map_replicate]
    rw [e]
    exact blk_new _ _
  case round =>
    obtain ⟨k, pre, rfl, hk, hb, hpre, hJs, hsrc⟩ := hrel
    by_cases hlt : k < 2 ^ v
    · have hd : decide (k < 2 ^ v) = true := decide_eq_true hlt
      have hl16 : (counted v k ++ List.replicate (16 - v) false).length = 16 := by rw [List.length_append, counted_length, List.length_replicate]; omega
      have htk : (counted v k ++ List.replicate (16 - v) false).take v = counted v k := by rw [List.take_append_of_le_length (by rw [counted_length]; omega), List.take_of_length_le (by rw [counted_length]; omega)]
      have hC := bits_C hb (v := v) (by omega) (by omega)
      rw [htk] at hC
      have g0 := (blk_cell hsrc.hg 0).trans rfl
      have g1 := (blk_cell hsrc.hg 1).trans rfl
      have hv1 : (0 : Int) ≤ (v : Int) := by omega
      have hv2 : (v : Int) ≤ 16 := by omega
      rw [hd]
      have hmx : Try.prog.follows .mixedOrders = true := by kernel_rfl
      have HALL := fun W' h0 h1 => allIn_calls (v : Int) A (some ⟨W.heap.size, 0, none⟩) cap 16 cs (counted v k) W' h0 (Kd.S_reads' hsrc.hc).2.1 h1 (by rw [counted_length]; omega) (by rw [counted_length]) (fun c hc => by unfold isFormula at hf; rw [Bool.and_eq_true, List.all_eq_true] at hf; exact hf.2 c hc) hcn hcs
      rw [counted_length] at HALL hC
      have HA := Aside0.mk HALL
      have HCB := Aside0.mk hC
      have HSRC := Aside0.mk hsrc
      clear HALL hC
      gi_wp2
      gi_region_with_o (refine ⟨trivial, ?_⟩; (with_reducible refine (callsIn_wide.2 (HA.out _ ?hc0 ?hc1)).mono ?_); (case hc0 => first | exact (Kd.S_reads' HSRC.out.hc).2.2 | exact Kd.C_drew (Kd.S_reads' HSRC.out.hc).2.2 | exact Kd.C_drewN (Kd.S_reads' HSRC.out.hc).2.2 _); (case hc1 => first | exact HCB.out | exact Kd.C_drew HCB.out | exact Kd.C_drewN HCB.out _); rintro e w5 ⟨rfl, hb5⟩)
      all_goals
        have hb5' : Below wr.heap.size wr w5 := by first | exact hb5 | exact below_step (below_drew (Below.refl _ _)) hb5 | exact below_step (below_drew (below_drew (Below.refl _ _))) hb5
        clear hb5
        have hJ5 := hJ _ _ _ none hJs (grown_of_below hb5' none) (fun r e => by cases e)
        have hb5 := blk_below hb hb5'
        have hsrc5 := hsrc.keep hb5'
        have HNA : Aside0 (numAt wr W.heap.size v = k) := ⟨by rw [numAt_bits hb, htk, num_counted v k hlt]⟩
        clear g0 g1 hJs hb hsrc HSRC HCB HA hb5'
        have g0 := (blk_cell hsrc5.hg 0).trans rfl
        have g1 := (blk_cell hsrc5.hg 1).trans rfl
        have hnx := next_counted v k (List.replicate (16 - v) false) hlt
        have hmt := modelsTo_succ v cs k
        cases hall : allIn cs (counted v k) with
        | false =>
          rw [hall] at hmt
          simp only [Bool.false_eq_true, if_false, List.append_nil] at hmt
          gi_wp2
          refine ⟨trivial, ?_⟩
          (with_reducible refine (callsIn_wide.2 (next_calls W.heap.size v _ w5 hl16 hv hb5)).mono ?_)
          rintro e w6 ⟨rfl, hb6, hg6⟩
          rw [hnx] at hb6 ⊢
          have hJ6 := hJ _ _ _ (some W.heap.size) hJ5 hg6 (fun r e => by cases e; rfl)
          gi_wp2
          go_roundw
          case rel => exact ⟨k + 1, pre, rfl, hlt, hb6, by rw [hpre, hmt], hJ6, hsrc5.grown hg6 hb5⟩
          case measure => exact down hlt HNA.out hb6
        | true =>
          rw [hall] at hmt
          simp only [if_true] at hmt
          obtain ⟨b0, b1, b2, b3, b4, b5, b6, b7, b8, b9, b10, b11, b12, b13, b14, b15, hm16⟩ := sixteen _ hl16
          have HM16 := Aside0.mk hm16
          rw [hm16] at hb5
          have hb5' : w5.heap[W.heap.size]? = some (.cells #[.bool b0, .bool b1, .bool b2, .bool b3, .bool b4, .bool b5, .bool b6, .bool b7, .bool b8, .bool b9, .bool b10, .bool b11, .bool b12, .bool b13, .bool b14, .bool b15] 84 (0, 0)) := hb5
          have q0 := (blk_cell hb5' 0).trans rfl
          have q1 := (blk_cell hb5' 1).trans rfl
          have q2 := (blk_cell hb5' 2).trans rfl
          have q3 := (blk_cell hb5' 3).trans rfl
          have q4 := (blk_cell hb5' 4).trans rfl
          have q5 := (blk_cell hb5' 5).trans rfl
          have q6 := (blk_cell hb5' 6).trans rfl
          have q7 := (blk_cell hb5' 7).trans rfl
          have q8 := (blk_cell hb5' 8).trans rfl
          have q9 := (blk_cell hb5' 9).trans rfl
          have q10 := (blk_cell hb5' 10).trans rfl
          have q11 := (blk_cell hb5' 11).trans rfl
          have q12 := (blk_cell hb5' 12).trans rfl
          have q13 := (blk_cell hb5' 13).trans rfl
          have q14 := (blk_cell hb5' 14).trans rfl
          have q15 := (blk_cell hb5' 15).trans rfl
          have hsrc6 := hsrc5.keep (below_alloc (Below.refl _ _) (.cells #[.bool b0, .bool b1, .bool b2, .bool b3, .bool b4, .bool b5, .bool b6, .bool b7, .bool b8, .bool b9, .bool b10, .bool b11, .bool b12, .bool b13, .bool b14, .bool b15] 84 (0, 0)))
          have g06 := (blk_cell hsrc6.hg 0).trans rfl
          have HJ6 := Aside0.mk (hJ _ _ _ none hJ5 (World.grownBy_alloc w5 (.cells #[.bool b0, .bool b1, .bool b2, .bool b3, .bool b4, .bool b5, .bool b6, .bool b7, .bool b8, .bool b9, .bool b10, .bool b11, .bool b12, .bool b13, .bool b14, .bool b15] 84 (0, 0)) none) (fun r e => by cases e))
          have HB6 := Aside0.mk (blk_alloc hb5 (.cells #[.bool b0, .bool b1, .bool b2, .bool b3, .bool b4, .bool b5, .bool b6, .bool b7, .bool b8, .bool b9, .bool b10, .bool b11, .bool b12, .bool b13, .bool b14, .bool b15] 84 (0, 0)))
          have hnew : ((w5.alloc (.cells #[.bool b0, .bool b1, .bool b2, .bool b3, .bool b4, .bool b5, .bool b6, .bool b7, .bool b8, .bool b9, .bool b10, .bool b11, .bool b12, .bool b13, .bool b14, .bool b15] 84 (0, 0)))).heap[w5.heap.size]? = some (.cells (bits [b0, b1, b2, b3, b4, b5, b6, b7, b8, b9, b10, b11, b12, b13, b14, b15]) 84 (0, 0)) := blk_new _ _
          rw [← hm16] at hnew
          have HNW : Aside0 (∀ j u, ((counted v k).map Value.bool)[j]? = some u → ((w5.alloc (.cells #[.bool b0, .bool b1, .bool b2, .bool b3, .bool b4, .bool b5, .bool b6, .bool b7, .bool b8, .bool b9, .bool b10, .bool b11, .bool b12, .bool b13, .bool b14, .bool b15] 84 (0, 0)))).cell? ((⟨w5.heap.size, 0, none⟩ : Addr).add j) = some u) := ⟨fun j u hu => by
            have hj : j < v := by
              have := (List.getElem?_eq_some_iff.1 hu).1
              simpa [counted_length] using this
            have e : (⟨w5.heap.size, 0, none⟩ : Addr).add j = ⟨w5.heap.size, j, none⟩ := by simp [Addr.add]; try omega
            rw [e]
            refine (blk_cell hnew j).trans ?_
            rw [← hu]
            unfold bits
            rw [List.getElem?_toArray, List.map_append, List.getElem?_append_left (by simp [counted_length]; exact hj)]⟩
          have HSRC6 := Aside0.mk hsrc6
          have HL : Aside0 (pre.length < 65536) := ⟨by have h1 := congrArg List.length hpre; have h2 := modelsTo_length v cs k; rw [List.length_map] at h1; omega⟩
          clear hm16 hnew hsrc6 hJ5
          obtain ⟨i0, hi, hz0, hz1, hz2⟩ := info_parts infoB
          have HV : Aside0 (v ≤ 16) := ⟨hv⟩
          gi_wp2_with (gi_at_builtin; (refine wpListIn_append_own _ rfl _ _ 41 rfl (w5.heap.size + 1) 4 i0 (.bool false) 1 1 Try.underlying41 hi hz0 hz1 hz2 rfl (by decide) (.slice none 0 0) 0 [] rfl (World.ownsRow_nil _ _ _ _) ⟨w5.heap.size, 0, none⟩ v 16 ((counted v k).map Value.bool) rfl (by simp [counted_length]) HNW.out (fun u hu => by obtain ⟨b, _, rfl⟩ := List.mem_map.1 hu; rfl) (by have := HV.out; unfold maxLen; omega) (by have := HV.out; omega) (by simp) ?_; intro v7 w7 hown hgrow _; have HJ7 := Aside0.mk (hJ _ _ _ none HJ6.out hgrow (fun r e => by cases e)); have HB7 := Aside0.mk (blk_grown HB6.out hgrow (by simp [Value.ownBlock])); have HSRC7 := Aside0.mk (HSRC6.out.keep (below_grown_none hgrow)); obtain ⟨fn, tmps, assign, body, hy, hR⟩ := hY pre (v7, counted v k) w7 HJ7.out ⟨counted_length v k, _, own_Rb (by simpa [counted_length] using hown)⟩ HL.out))
          refine hR.mono ?_
          rintro e w8 (⟨rfl, hJ8, hk8⟩ | ⟨rfl, hJx8⟩)
          · have hb8 := hk8.2 _ _ _ _ HB7.out (fun h => by have := hSW _ h; omega)
            have hsrc8 := HSRC7.out.kept hk8 hSg hSok
            have g08 := (blk_cell hsrc8.hg 0).trans rfl
            rw [← HM16.out] at hb8
            clear g06 hy hR hown hgrow q0 q1 q2 q3 q4 q5 q6 q7 q8 q9 q10 q11 q12 q13 q14 q15
            gi_wp2
            refine ⟨trivial, ?_⟩
            (with_reducible refine (callsIn_wide.2 (next_calls W.heap.size v _ w8 hl16 hv hb8)).mono ?_)
            rintro e w9 ⟨rfl, hb9, hg9⟩
            rw [hnx] at hb9 ⊢
            have hJ9 := hJ _ _ _ (some W.heap.size) hJ8 hg9 (fun r e => by cases e; rfl)
            gi_wp2
            go_roundw
            case rel => exact ⟨k + 1, pre ++ [(v7, counted v k)], rfl, hlt, hb9, by rw [List.map_append, hpre, hmt]; rfl, hJ9, hsrc8.grown hg9 hb8⟩
            case measure => exact down hlt HNA.out hb9
          · gi_wp2
            refine bodyPost_ret (results_none rfl _ _ _) rfl ?_
            refine ⟨⟨_, rfl⟩, .inr ⟨pre ++ [(v7, counted v k)], ?_, hJx8⟩⟩
            have e : (pre ++ [(v7, counted v k)]).map (·.2) = modelsTo v cs (k + 1) := by rw [List.map_append, hpre, hmt]; rfl
            rw [e]
            exact modelsTo_prefix v cs hlt
    · have hd : decide (k < 2 ^ v) = false := decide_eq_false hlt
      obtain rfl : k = 2 ^ v := by omega
      rw [hd]
      gi_wp2
      go_end0
      exact ⟨⟨_, rfl⟩, .inl ⟨pre, hpre, hJs⟩⟩
end Go.Proofs.YtggnnnddnppcpaaHand
/-! text YtggnnnddnppcpaaLitsTaut -/
namespace Go.Proofs.YtggnnnddnppcpaaMath
open Go.RowKit Go.Proofs.YtggnnnddnppcpaaW.PrintWords
def tautL : Nat → List Int → Int → Option Bool
  | 0, _, _ => none
  | k + 1, t, x => if x < (t.length : Int) then (if 0 ≤ x then (if 0 ≤ (wrap64 (x - 1)) then (if (wrap64 (x - 1)) < (t.length : Int) then (if (rd t x) = (wrap64 (-(rd t (wrap64 (x - 1))))) then (some true) else (tautL k t (wrap64 (x + 1)))) else (none)) else (none)) else (none)) else (some false)
theorem tautL_ev (t : List Int) (hf : ∀ x ∈ t, formed x = true) (hn : t.length ≤ 17592186044416) (d : Nat) : ∀ i : Nat, 0 < i → i + d = t.length → Ev (fun k => tautL k t (i : Int)) (tautIn (t.drop (i - 1))) := by
  induction d with
  | zero =>
    intro i h0 hi
    refine Ev.succ ?_
    simp only [tautL]
    have h1 : ¬ ((i : Int) < (t.length : Int)) := by omega
    simp only [h1, if_false]
    rw [drop_rd (show i - 1 < t.length by omega), List.drop_of_length_le (by omega)]
    exact Ev.now _
  | succ d ih =>
    intro i h0 hi
    refine Ev.succ ?_
    simp only [tautL]
    have h1 : (i : Int) < (t.length : Int) := by omega
    have h2 : (0 : Int) ≤ (i : Int) := by omega
    have h3 : (0 : Int) ≤ ((i - 1 : Nat) : Int) := by omega
    have h4 : ((i - 1 : Nat) : Int) < (t.length : Int) := by omega
    have hb := formed_bd (hf _ (rd_mem (show i - 1 < t.length by omega)))
    have e1 : wrap64 (-(rd t ((i - 1 : Nat) : Int))) = -(rd t ((i - 1 : Nat) : Int)) := by unfold wrap64; omega
    simp only [h1, h2, if_true, w64p h0 (show (i : Int) < 9223372036854775807 by omega), h3, h4, e1, w64s (show (i : Int) < 9223372036854775807 by omega)]
    rw [drop_rd (show i - 1 < t.length by omega), show i - 1 + 1 = i by omega, drop_rd (show i < t.length by omega)]
    have := ih (i + 1) (by omega) (by omega)
    rw [show i + 1 - 1 = i by omega, drop_rd (show i < t.length by omega)] at this
    by_cases c : rd t (i : Int) = -(rd t ((i - 1 : Nat) : Int))
    · have : (rd t (i : Int) == -(rd t ((i - 1 : Nat) : Int))) = true := by simpa using c
      simp only [c, if_true, tautIn, beq_self_eq_true, Bool.true_or]
      exact Ev.now _
    · have e : (rd t (i : Int) == -(rd t ((i - 1 : Nat) : Int))) = false := by simpa using c
      simp only [c, if_false, tautIn, e, Bool.false_or]
      exact this
theorem tautL_all (l : List Int) (hn : l.length ≤ 17592186044416) : Ev (fun k => tautL k (tidyOf l) 1) (tautIn (tidyOf l)) := by
  have ht := tidyOf_length l
  by_cases h : (tidyOf l).length = 0
  · rw [List.eq_nil_of_length_eq_zero h]
    refine Ev.succ ?_
    simp only [tautL]
    exact Ev.now _
  · have := tautL_ev (tidyOf l) (fun _ h => tidyOf_formed h) (by omega) ((tidyOf l).length - 1) 1 (by omega) (by omega)
    simpa using this
end Go.Proofs.YtggnnnddnppcpaaMath
namespace Go.Proofs.YtggnnnddnppcpaaHand
open Go.RowKit Go.Proofs.YtggnnnddnppcpaaW.PrintWords Go.Proofs.YtggnnnddnppcpaaW.PrintLast Go.Proofs.YtggnnnddnppcpaaMath
set_option linter.unusedVariables false
set_option linter.unusedSimpArgs false

set_option maxHeartbeats 4000000 in
set_option maxRecDepth 100000 in
theorem taut_calls (A0 : Option Addr) (c0 : Nat) (l0 : List Int) (w : World) (hr0 : Kd.C (Kd.int .i64) w A0 l0.length l0) (hc0 : l0.length ≤ c0) (hn : l0.length ≤ 17592186044416) :
    Calls Try.prog 74 #[.slice A0 l0.length c0] w fun e w' => e = .returned (.bool (tautIn (tidyOf l0))) ∧ Below w.heap.size w w' := by
  obtain ⟨k, H⟩ := (tautL_all l0 hn).rounds
  obtain ⟨r, hr⟩ : ∃ r, r = tautIn (tidyOf l0) := ⟨_, rfl⟩
  rw [← hr] at H ⊢
  have T0 := Aside0.mk fun w (h : Kd.C (Kd.int .i64) w A0 l0.length l0) => tidy_calls A0 c0 l0 w h hc0 hn
  have HR0 := Aside0.mk hr0
  have HB := Aside0.mk (Below.refl w.heap.size w)
  have H' := Aside0.mk H
  clear H hr hr0 hc0 hn
  go_enter Try.func74, Try.ntmps74
  go_wp2_with (go_at_call 80; (with_reducible refine (T0.out _ HR0.out).mono ?_); rintro e w3 ⟨v170, rfl, ho0, hb⟩; have HO171 := Aside0.mk ho0; clear HB; have HB := Aside0.mk hb; clear hb ho0)
  go_loopg [4] k (fun kq v4 w' => ∃ (x4_1 : Int), v4 = .int .i64 x4_1 ∧ Aside0 (tautL kq (tidyOf l0) x4_1 = some r) ∧ Aside0 (kq ≤ k) ∧ Aside0 (Kd.R (Kd.int .i64) 3 w' w.heap.size (fun _ => True) v170 (tidyOf l0)) ∧ Aside0 (Below w.heap.size w w'))
  case atStart => exact ⟨(1), (by first | rfl | (simp; done) | (simp [*]; done)), H', ⟨Nat.le_refl _⟩, ⟨by (with_reducible repeat (first | apply Kd.R_alloc | apply Kd.R_drewN | apply Kd.R_drew)); exact HO171.out⟩, ⟨by repeat (first | (with_reducible first | exact HB.out | apply below_alloc | apply pw_below_drewN | apply below_drew1) | exact HB.out)⟩⟩
  case round =>
    clear H'
    try clear p2
    obtain ⟨x4_1, rfl, HA, HK1, HO_3, HB⟩ := hrel
    cases gk with
    | zero => exact absurd HA.out (by simp [tautL])
    | succ k1 =>
      have H := HA.out
      clear HA
      simp only [tautL] at H
      by_cases c4 : x4_1 < ((tidyOf l0).length : Int)
      · rw [if_pos c4] at H
        have c4b0 : decide (x4_1 < ((tidyOf l0).length : Int)) = true := decide_eq_true c4
        clear c4
        by_cases c5 : 0 ≤ x4_1
        · rw [if_pos c5] at H
          have c5b0 : decide (0 ≤ x4_1) = true := decide_eq_true c5
          clear c5
          obtain ⟨ji6, hji6⟩ : ∃ j_ : Int, (wrap64 (x4_1 - 1)) = j_ := ⟨_, rfl⟩
          replace H : (if 0 ≤ (ji6) then (if (ji6) < ((tidyOf l0).length : Int) then (if (rd (tidyOf l0) x4_1) = (wrap64 (-(rd (tidyOf l0) (ji6)))) then (some true) else (tautL k1 (tidyOf l0) (wrap64 (x4_1 + 1)))) else (none)) else (none)) = some r := by first | (rw [hji6] at H; exact H) | (simp only [hji6] at H ⊢; exact H)
          have hji6w : (IntKind.i64.wrap (x4_1 - 1)) = ji6 := (i64_w _).trans hji6
          by_cases c7 : 0 ≤ (ji6)
          · rw [if_pos c7] at H
            have c7b0 : decide (0 ≤ (ji6)) = true := decide_eq_true c7
            clear c7
            by_cases c8 : (ji6) < ((tidyOf l0).length : Int)
            · rw [if_pos c8] at H
              have c8b0 : decide ((ji6) < ((tidyOf l0).length : Int)) = true := decide_eq_true c8
              clear c8
              by_cases c9 : (rd (tidyOf l0) x4_1) = (wrap64 (-(rd (tidyOf l0) (ji6))))
              · rw [if_pos c9] at H
                have c9b0 : ((rd (tidyOf l0) x4_1) == (wrap64 (-(rd (tidyOf l0) (ji6))))) = true := beq_iff_eq.mpr c9
                have c9b1 : ((rd (tidyOf l0) x4_1) != (wrap64 (-(rd (tidyOf l0) (ji6))))) = false := bne_eq_false_iff_eq.mpr c9
                clear c9
                obtain rfl := Option.some.inj H
                obtain ⟨Ao10, co10, eo10⟩ := Kd.R_slice HO_3.out
                subst eo10
                have p172 : 0 ≤ (x4_1 : Int) := of_decide_eq_true (by first | (with_reducible assumption) | assumption)
                have q172 : x4_1 < ((tidyOf l0).length : Int) := of_decide_eq_true (by first | (with_reducible assumption) | assumption)
                obtain ⟨ad172, e172, hx172_0⟩ := Kd.at_int (Kd.R_reads' HO_3.out).2.2 x4_1 p172 q172
                cases e172
                replace p172 := eq_true p172
                replace q172 := eq_true q172
                have p173 : 0 ≤ ((ji6) : Int) := of_decide_eq_true (by first | (with_reducible assumption) | assumption)
                have q173 : (ji6) < ((tidyOf l0).length : Int) := of_decide_eq_true (by first | (with_reducible assumption) | assumption)
                obtain ⟨ad173, e173, hx173_0⟩ := Kd.at_int (Kd.R_reads' HO_3.out).2.2 (ji6) p173 q173
                obtain rfl : ad172 = ad173 := (by injection e173)
                replace p173 := eq_true p173
                replace q173 := eq_true q173
                go_wp2
                repeat (go_quiet (fail); try go_wp2)
                go_ret
                exact ⟨by first | rfl | (simp [errW_none, errW_some] <;> rfl) | (simp only [← hji6]; first | rfl | (simp [errW_none, errW_some] <;> rfl)) | (simp [*, errW_none, errW_some] <;> rfl), by repeat (first | (with_reducible first | exact HB.out | apply below_alloc | apply pw_below_drewN | apply below_drew1) | exact HB.out)⟩
              · rw [if_neg c9] at H
                have c9b0 : ((rd (tidyOf l0) x4_1) == (wrap64 (-(rd (tidyOf l0) (ji6))))) = false := beq_eq_false_iff_ne.mpr c9
                have c9b1 : ((rd (tidyOf l0) x4_1) != (wrap64 (-(rd (tidyOf l0) (ji6))))) = true := bne_iff_ne.mpr c9
                have H' := Aside0.mk H
                clear H
                obtain ⟨Ao11, co11, eo11⟩ := Kd.R_slice HO_3.out
                subst eo11
                have p172 : 0 ≤ (x4_1 : Int) := of_decide_eq_true (by first | (with_reducible assumption) | assumption)
                have q172 : x4_1 < ((tidyOf l0).length : Int) := of_decide_eq_true (by first | (with_reducible assumption) | assumption)
                obtain ⟨ad172, e172, hx172_0⟩ := Kd.at_int (Kd.R_reads' HO_3.out).2.2 x4_1 p172 q172
                cases e172
                replace p172 := eq_true p172
                replace q172 := eq_true q172
                have p173 : 0 ≤ ((ji6) : Int) := of_decide_eq_true (by first | (with_reducible assumption) | assumption)
                have q173 : (ji6) < ((tidyOf l0).length : Int) := of_decide_eq_true (by first | (with_reducible assumption) | assumption)
                obtain ⟨ad173, e173, hx173_0⟩ := Kd.at_int (Kd.R_reads' HO_3.out).2.2 (ji6) p173 q173
                obtain rfl : ad172 = ad173 := (by injection e173)
                replace p173 := eq_true p173
                replace q173 := eq_true q173
                go_wp2
                repeat (go_quiet (fail); try go_wp2)
                go_roundg k1
                case measure => have := HK1.out; omega
                case rel => exact ⟨(wrap64 (x4_1 + 1)), (by first | rfl | (simp; done) | (simp [*]; done)), H', ⟨by have := HK1.out; omega⟩, ⟨by (with_reducible repeat (first | apply Kd.R_alloc | apply Kd.R_drewN | apply Kd.R_drew)); exact HO_3.out⟩, ⟨by repeat (first | (with_reducible first | exact HB.out | apply below_alloc | apply pw_below_drewN | apply below_drew1) | exact HB.out)⟩⟩
            · rw [if_neg c8] at H
              exact absurd H (by simp)
          · rw [if_neg c7] at H
            exact absurd H (by simp)
        · rw [if_neg c5] at H
          exact absurd H (by simp)
      · rw [if_neg c4] at H
        have c4b0 : decide (x4_1 < ((tidyOf l0).length : Int)) = false := decide_eq_false c4
        clear c4
        obtain rfl := Option.some.inj H
        obtain ⟨Ao12, co12, eo12⟩ := Kd.R_slice HO_3.out
        subst eo12
        go_wp2
        repeat (go_quiet (fail); try go_wp2)
        go_ret
        exact ⟨by first | rfl | (simp [errW_none, errW_some] <;> rfl) | (simp [*, errW_none, errW_some] <;> rfl), by repeat (first | (with_reducible first | exact HB.out | apply below_alloc | apply pw_below_drewN | apply below_drew1) | exact HB.out)⟩

end Go.Proofs.YtggnnnddnppcpaaHand
