/- The iterator that cnf.Models answers: its contract. -/
import Derived.Test.YtggnnnddnppcpaaClCnfKeepsModelsj
import Derived.Test.YtggnnnddnppcpaaClCnfKeepsModelsc
import Derived.Test.YtggnnnddnppcpaaClCnfKeepsModelsq
import Derived.RangeFuncNested
import Derived.RangeFuncBound
import Derived.RangeFuncCalls
import Derived.RangeFuncLeaves
import Derived.Shelf.Abstract
import Derived.Shelf.RegionOpen
import Derived.OwnWalkIn
import Derived.TacticsInMore
import Derived.LoopNIn
import Derived.LoopIn
import Derived.Deep.RegionHeld3
import Derived.Test.YtggnnnddnppcpaaClCnfKeepsModelsa
/-! text YtggnnnddnppcpaaCnfModels2 -/
namespace Go.Proofs.YtggnnnddnppcpaaHand
open Go.RowKit Go.Shelf Go.Proofs.YtggnnnddnppcpaaW.PrintWords Go.Proofs.YtggnnnddnppcpaaW.PrintLast Go.Proofs.YtggnnnddnppcpaaMath Go.Proofs.YtggnnnddnppcpaaCells
set_option linter.unusedVariables false
set_option linter.unusedSimpArgs false
attribute [local go_sem] Oper.semAt_some

/-- what a round keeps: the blocks of cells that are not the caller's variables -/
def KeepC (S : Nat → Prop) (W W' : World) : Prop := W.heap.size ≤ W'.heap.size ∧ ∀ k cells t z, W.heap[k]? = some (.cells cells t z) → ¬ S k → W'.heap[k]? = some (.cells cells t z)
theorem KeepC.trans {S : Nat → Prop} {A B C : World} (h : KeepC S A B) (k : KeepC S B C) : KeepC S A C := ⟨Nat.le_trans h.1 k.1, fun i cells t z hi hs => k.2 i cells t z (h.2 i cells t z hi hs) hs⟩
theorem KeepC.put {S : Nat → Prop} (W : World) (l : Nat) (o o' : Obj) (h : W.heap[l]? = some o) (hc : o.isCells = false) : KeepC S W (W.putObj l o') := by
  have hg := grownBy_putObj' W l o'
  refine ⟨hg.size, fun k cells t z hk _ => (hg.block k (Array.getElem?_eq_some_iff.1 hk).1 (fun e => ?_)).trans hk⟩
  cases e
  rw [h] at hk
  cases hk
  cases hc

/-- what is handed out: so many truths in a new row -/
def Handed (v : Nat) (x : Value × List Bool) (W : World) : Prop := x.2.length = v ∧ ∃ base, Kd.R Kd.bool 4 W base (fun _ => True) x.1 x.2

/-- what the iterator reads: its formula's variable, the clauses -/
structure Src (v : Nat) (cs : List (List Int)) (Bg base0 : Nat) (ok : Nat → Prop) (A : Option Addr) (cap : Nat) (W : World) : Prop where
  hg : W.heap[Bg]? = some (.cells #[.int .i64 (v : Int), .slice A cs.length cap] 24 (0, 0))
  hc : Kd.S (Kd.slice 3 (Kd.int .i64)) 43 W base0 ok (.slice A cs.length cap) cs

theorem Src.keep {v : Nat} {cs : List (List Int)} {Bg base0 : Nat} {ok : Nat → Prop} {A : Option Addr} {cap : Nat} {W W1 : World} (h : Src v cs Bg base0 ok A cap W) (k : Below W.heap.size W W1) : Src v cs Bg base0 ok A cap W1 := ⟨blk_below h.hg k, Kd.S_below h.hc k⟩
theorem Src.grown {v : Nat} {cs : List (List Int)} {Bg base0 b : Nat} {ok : Nat → Prop} {A : Option Addr} {cap : Nat} {W W1 : World} {m : Array Value} (h : Src v cs Bg base0 ok A cap W) (hg : W.grownBy W1 (some b)) (hb : W.heap[b]? = some (.cells m 84 (0, 0))) : Src v cs Bg base0 ok A cap W1 :=
  ⟨blk_grown h.hg hg (fun e => by have := blk_ne h.hg hb (by decide); simp at e; omega), Kd.S_mono (Kd.S_grown (Kd.S_types h.hc hb (by decide)) hg (fun k hk => by have := hk.2; simp; exact this)) (fun _ hk => hk.1)⟩
theorem Src.kept {v : Nat} {cs : List (List Int)} {Bg base0 : Nat} {ok Sv : Nat → Prop} {A : Option Addr} {cap : Nat} {W W1 : World} (h : Src v cs Bg base0 ok A cap W) (k : KeepC Sv W W1) (h1 : ¬ Sv Bg) (h2 : ∀ k, ok k → ¬ Sv k) : Src v cs Bg base0 ok A cap W1 :=
  ⟨k.2 _ _ _ _ h.hg h1, Kd.S_mono (Kd.S_move (Kd.S_bound h.hc) (fun j hj => by obtain ⟨ho, _, _, q, _, cells, hc⟩ := hj; rw [hc]; exact k.2 _ _ _ _ hc (h2 j ho))) (fun _ hk => hk.1)⟩
theorem bits_C {W : World} {b v t : Nat} {m : List Bool} (h : W.heap[b]? = some (.cells (bits m) t (0, 0))) (hv : v ≤ m.length) (hm : m.length ≤ 16) : Kd.C Kd.bool W (some ⟨b, 0, none⟩) (m.take v).length (m.take v) := by
  refine Kd.C_of_reads (d := false) ⟨rfl, by rw [List.length_take]; omega, fun hn => ⟨⟨b, 0, none⟩, rfl, fun j hj => ?_⟩⟩
  rw [List.length_take] at hj
  have hc : W.cell? ⟨b, j, none⟩ = (bits m)[j]? := blk_cell h j
  have e : (⟨b, 0, none⟩ : Addr).add j = ⟨b, j, none⟩ := by simp [Addr.add]; try omega
  rw [e, hc]
  have hj2 : j < m.length := by omega
  simp [bits, List.getD_eq_getElem?_getD, List.getElem?_take, List.getElem?_eq_getElem hj2, show j < v by omega]
/-- the number that the first places of a block hold -/
def numAt (W : World) (b v : Nat) : Nat := match W.heap[b]? with
  | some (.cells cs _ _) => numOf ((cs.toList.take v).map fun u => match u with | .bool x => x | _ => false)
  | _ => 0
theorem numAt_bits {W : World} {b v t : Nat} {m : List Bool} (h : W.heap[b]? = some (.cells (bits m) t (0, 0))) : numAt W b v = numOf (m.take v) := by
  unfold numAt
  rw [h]
  simp only [bits, ← List.map_take, List.map_map]
  congr 1
  conv => rhs; rw [← List.map_id (m.take v)]
  exact List.map_congr_left (fun x _ => rfl)

theorem sixteen (m : List Bool) (h : m.length = 16) : ∃ b0 b1 b2 b3 b4 b5 b6 b7 b8 b9 b10 b11 b12 b13 b14 b15, m = [b0, b1, b2, b3, b4, b5, b6, b7, b8, b9, b10, b11, b12, b13, b14, b15] := by
  match m, h with
  | [b0, b1, b2, b3, b4, b5, b6, b7, b8, b9, b10, b11, b12, b13, b14, b15], _ => exact ⟨b0, b1, b2, b3, b4, b5, b6, b7, b8, b9, b10, b11, b12, b13, b14, b15, rfl⟩
theorem down {wr w6 : World} {b v k t : Nat} {r : List Bool} (hlt : k < 2 ^ v) (h : numAt wr b v = k) (h6 : w6.heap[b]? = some (.cells (bits (counted v (k + 1) ++ r)) t (0, 0))) :
    (match (Value.bool (decide (k + 1 < 2 ^ v))) with | .bool true => 2 ^ v - numAt w6 b v | _ => 0) < (match (Value.bool true) with | .bool true => 2 ^ v - numAt wr b v | _ => 0) := by
  rw [h]
  by_cases hd : k + 1 < 2 ^ v
  · have e : numAt w6 b v = k + 1 := by rw [numAt_bits h6, List.take_append_of_le_length (by rw [counted_length]; omega), List.take_of_length_le (by rw [counted_length]; omega), num_counted v (k + 1) hd]
    rw [decide_eq_true hd, e]
    show 2 ^ v - (k + 1) < 2 ^ v - k
    omega
  · rw [decide_eq_false hd]
    show 0 < 2 ^ v - k
    omega

theorem infoB : (Try.prog.info? 4).map (fun i => (i.zero, i.size, i.bytes)) = some (some (.bool false), 1, 1) := by kernel_rfl
theorem own_Rb {W : World} {base : Nat} {v : Value} {xs : List Bool} (h : W.ownsRow base 4 1 v xs.length (xs.map Value.bool)) : Kd.R Kd.bool 4 W base (fun _ => True) v xs := by
  have hl : xs.length * 1 = xs.length := Nat.mul_one _
  refine ⟨fun _ _ => trivial, ⟨xs.map Value.bool, h, ?_⟩⟩
  refine ⟨by simp [Kd.bool, Kd.scalar], ?_⟩
  intro j p hj
  have hlt : j < xs.length := by
    rcases Nat.lt_or_ge j xs.length with h | h
    · exact h
    · rw [List.getElem?_eq_none h] at hj
      cases hj
  have e : xs[j] = p := by
    rw [List.getElem?_eq_getElem hlt] at hj
    exact Option.some.inj hj
  show ((xs.map Value.bool).drop (j * 1)).take 1 = [Value.bool p]
  rw [Nat.mul_one, ← List.map_drop, ← List.map_take]
  rw [List.drop_eq_getElem_cons hlt, e]
  rfl

set_option maxRecDepth 100000 in
set_option maxHeartbeats 4000000 in
theorem models2_in (n : Nat) (hn : 1 ≤ n) (l v : Nat) (cs : List (List Int)) (Bg base0 : Nat) (ok : Nat → Prop) (A : Option Addr) (cap : Nat) (Sv : Nat → Prop) (hv : v ≤ 16) (hf : isFormula (v : Int) cs = true) (hcn : cs.length ≤ 17592186044416) (hcs : ∀ c ∈ cs, c.length ≤ 17592186044416)
    (J Jx : List (Value × List Bool) → World → Prop) (W : World) (hJ : AbidesM W.heap.size J) (hSrc : Src v cs Bg base0 ok A cap W) (hSok : ∀ k, ok k → ¬ Sv k) (hSg : ¬ Sv Bg) (hSW : ∀ k, Sv k → k < W.heap.size)
    (hY : ∀ pre x W1, J pre W1 → Handed v x W1 → pre.length < 65536 → YieldAt Fence.wide (n - 1) Try.prog l #[x.1] W1 fun e W' =>
      (e = .returned (.bool true) ∧ J (pre ++ [x]) W' ∧ KeepC Sv W1 W') ∨ (e = .returned (.bool false) ∧ Jx (pre ++ [x]) W'))
    (h0 : J [] W) :
    CallsIn Fence.wide n Try.prog 72 #[.func (.yield l) #[] #[], .pointer (some ⟨Bg, 0, none⟩)] W fun e W' => (∃ u, e = .returned u) ∧
      ((∃ xs, xs.map (·.2) = modelsIn v cs ∧ J xs W') ∨ (∃ pre, pre.map (·.2) <+: modelsIn v cs ∧ Jx pre W')) := by
  refine callsIn_of_wp Try.func72 rfl trivial ?_ rfl
  simp only [Try.ntmps72, List.size_toArray, List.length_cons, List.length_nil, Nat.reduceAdd, Nat.reduceSub, Array.replicate_succ, Array.replicate_zero, List.push_toArray, List.append_toArray, List.nil_append, List.cons_append]
  gi_wp2
  have hpow : 2 ^ v ≤ 65536 := Nat.pow_le_pow_right (n := 2) (by omega) hv
  have hpos : 0 < 2 ^ v := Nat.pow_pos (by omega)
  gi_loopw [4] (fun v4 wr => ∃ (k : Nat) (pre : List (Value × List Bool)), v4 = .bool (decide (k < 2 ^ v)) ∧ k ≤ 2 ^ v ∧ wr.heap[W.heap.size]? = some (.cells (bits (counted v k ++ List.replicate (16 - v) false)) 84 (0, 0)) ∧ pre.map (·.2) = modelsTo v cs k ∧ J pre wr ∧ Src v cs Bg base0 ok A cap wr)
    (fun v4 wr => match v4 with | .bool true => 2 ^ v - numAt wr W.heap.size v | _ => 0)
  case atStart =>
    refine ⟨0, [], by simp [hpos], Nat.zero_le _, ?_, by simp [modelsTo], hJ _ _ _ none h0 (World.grownBy_alloc W _ none) (fun r e => by cases e), hSrc.keep ((Below.refl _ _).alloc (Nat.le_refl _) _)⟩
    have e : bits (counted v 0 ++ List.replicate (16 - v) false) = (List.replicate 16 (Value.bool false)).toArray := by
      rw [counted_zero, List.replicate_append_replicate, show v + (16 - v) = 16 by omega]
      unfold bits
      rw [List.map_replicate]
    rw [e]
    exact blk_new _ _
  case round =>
    obtain ⟨k, pre, rfl, hk, hb, hpre, hJs, hsrc⟩ := hrel
    by_cases hlt : k < 2 ^ v
    · have hd : decide (k < 2 ^ v) = true := decide_eq_true hlt
      have hl16 : (counted v k ++ List.replicate (16 - v) false).length = 16 := by rw [List.length_append, counted_length, List.length_replicate]; omega
      have htk : (counted v k ++ List.replicate (16 - v) false).take v = counted v k := by rw [List.take_append_of_le_length (by rw [counted_length]; omega), List.take_of_length_le (by rw [counted_length]; omega)]
      have hC := bits_C hb (v := v) (by omega) (by omega)
      rw [htk] at hC
      have g0 := (blk_cell hsrc.hg 0).trans rfl
      have g1 := (blk_cell hsrc.hg 1).trans rfl
      have hv1 : (0 : Int) ≤ (v : Int) := by omega
      have hv2 : (v : Int) ≤ 16 := by omega
      rw [hd]
      have hmx : Try.prog.follows .mixedOrders = true := by kernel_rfl
      have HALL := fun W' h0 h1 => allIn_calls (v : Int) A (some ⟨W.heap.size, 0, none⟩) cap 16 cs (counted v k) W' h0 (Kd.S_reads' hsrc.hc).2.1 h1 (by rw [counted_length]; omega) (by rw [counted_length]) (fun c hc => by unfold isFormula at hf; rw [Bool.and_eq_true, List.all_eq_true] at hf; exact hf.2 c hc) hcn hcs
      rw [counted_length] at HALL hC
      have HA := Aside0.mk HALL
      have HCB := Aside0.mk hC
      have HSRC := Aside0.mk hsrc
      clear HALL hC
      gi_wp2
      gi_region_with_o (refine ⟨trivial, ?_⟩; (with_reducible refine (callsIn_wide.2 (HA.out _ ?hc0 ?hc1)).mono ?_); (case hc0 => first | exact (Kd.S_reads' HSRC.out.hc).2.2 | exact Kd.C_drew (Kd.S_reads' HSRC.out.hc).2.2 | exact Kd.C_drewN (Kd.S_reads' HSRC.out.hc).2.2 _); (case hc1 => first | exact HCB.out | exact Kd.C_drew HCB.out | exact Kd.C_drewN HCB.out _); rintro e w5 ⟨rfl, hb5⟩)
      all_goals
        have hb5' : Below wr.heap.size wr w5 := by first | exact hb5 | exact below_step (below_drew (Below.refl _ _)) hb5 | exact below_step (below_drew (below_drew (Below.refl _ _))) hb5
        clear hb5
        have hJ5 := hJ _ _ _ none hJs (grown_of_below hb5' none) (fun r e => by cases e)
        have hb5 := blk_below hb hb5'
        have hsrc5 := hsrc.keep hb5'
        have HNA : Aside0 (numAt wr W.heap.size v = k) := ⟨by rw [numAt_bits hb, htk, num_counted v k hlt]⟩
        clear g0 g1 hJs hb hsrc HSRC HCB HA hb5'
        have g0 := (blk_cell hsrc5.hg 0).trans rfl
        have g1 := (blk_cell hsrc5.hg 1).trans rfl
        have hnx := next_counted v k (List.replicate (16 - v) false) hlt
        have hmt := modelsTo_succ v cs k
        cases hall : allIn cs (counted v k) with
        | false =>
          rw [hall] at hmt
          simp only [Bool.false_eq_true, if_false, List.append_nil] at hmt
          gi_wp2
          refine ⟨trivial, ?_⟩
          (with_reducible refine (callsIn_wide.2 (next_calls W.heap.size v _ w5 hl16 hv hb5)).mono ?_)
          rintro e w6 ⟨rfl, hb6, hg6⟩
          rw [hnx] at hb6 ⊢
          have hJ6 := hJ _ _ _ (some W.heap.size) hJ5 hg6 (fun r e => by cases e; rfl)
          gi_wp2
          go_roundw
          case rel => exact ⟨k + 1, pre, rfl, hlt, hb6, by rw [hpre, hmt], hJ6, hsrc5.grown hg6 hb5⟩
          case measure => exact down hlt HNA.out hb6
        | true =>
          rw [hall] at hmt
          simp only [if_true] at hmt
          obtain ⟨b0, b1, b2, b3, b4, b5, b6, b7, b8, b9, b10, b11, b12, b13, b14, b15, hm16⟩ := sixteen _ hl16
          have HM16 := Aside0.mk hm16
          rw [hm16] at hb5
          have hb5' : w5.heap[W.heap.size]? = some (.cells #[.bool b0, .bool b1, .bool b2, .bool b3, .bool b4, .bool b5, .bool b6, .bool b7, .bool b8, .bool b9, .bool b10, .bool b11, .bool b12, .bool b13, .bool b14, .bool b15] 84 (0, 0)) := hb5
          have q0 := (blk_cell hb5' 0).trans rfl
          have q1 := (blk_cell hb5' 1).trans rfl
          have q2 := (blk_cell hb5' 2).trans rfl
          have q3 := (blk_cell hb5' 3).trans rfl
          have q4 := (blk_cell hb5' 4).trans rfl
          have q5 := (blk_cell hb5' 5).trans rfl
          have q6 := (blk_cell hb5' 6).trans rfl
          have q7 := (blk_cell hb5' 7).trans rfl
          have q8 := (blk_cell hb5' 8).trans rfl
          have q9 := (blk_cell hb5' 9).trans rfl
          have q10 := (blk_cell hb5' 10).trans rfl
          have q11 := (blk_cell hb5' 11).trans rfl
          have q12 := (blk_cell hb5' 12).trans rfl
          have q13 := (blk_cell hb5' 13).trans rfl
          have q14 := (blk_cell hb5' 14).trans rfl
          have q15 := (blk_cell hb5' 15).trans rfl
          have hsrc6 := hsrc5.keep (below_alloc (Below.refl _ _) (.cells #[.bool b0, .bool b1, .bool b2, .bool b3, .bool b4, .bool b5, .bool b6, .bool b7, .bool b8, .bool b9, .bool b10, .bool b11, .bool b12, .bool b13, .bool b14, .bool b15] 84 (0, 0)))
          have g06 := (blk_cell hsrc6.hg 0).trans rfl
          have HJ6 := Aside0.mk (hJ _ _ _ none hJ5 (World.grownBy_alloc w5 (.cells #[.bool b0, .bool b1, .bool b2, .bool b3, .bool b4, .bool b5, .bool b6, .bool b7, .bool b8, .bool b9, .bool b10, .bool b11, .bool b12, .bool b13, .bool b14, .bool b15] 84 (0, 0)) none) (fun r e => by cases e))
          have HB6 := Aside0.mk (blk_alloc hb5 (.cells #[.bool b0, .bool b1, .bool b2, .bool b3, .bool b4, .bool b5, .bool b6, .bool b7, .bool b8, .bool b9, .bool b10, .bool b11, .bool b12, .bool b13, .bool b14, .bool b15] 84 (0, 0)))
          have hnew : ((w5.alloc (.cells #[.bool b0, .bool b1, .bool b2, .bool b3, .bool b4, .bool b5, .bool b6, .bool b7, .bool b8, .bool b9, .bool b10, .bool b11, .bool b12, .bool b13, .bool b14, .bool b15] 84 (0, 0)))).heap[w5.heap.size]? = some (.cells (bits [b0, b1, b2, b3, b4, b5, b6, b7, b8, b9, b10, b11, b12, b13, b14, b15]) 84 (0, 0)) := blk_new _ _
          rw [← hm16] at hnew
          have HNW : Aside0 (∀ j u, ((counted v k).map Value.bool)[j]? = some u → ((w5.alloc (.cells #[.bool b0, .bool b1, .bool b2, .bool b3, .bool b4, .bool b5, .bool b6, .bool b7, .bool b8, .bool b9, .bool b10, .bool b11, .bool b12, .bool b13, .bool b14, .bool b15] 84 (0, 0)))).cell? ((⟨w5.heap.size, 0, none⟩ : Addr).add j) = some u) := ⟨fun j u hu => by
            have hj : j < v := by
              have := (List.getElem?_eq_some_iff.1 hu).1
              simpa [counted_length] using this
            have e : (⟨w5.heap.size, 0, none⟩ : Addr).add j = ⟨w5.heap.size, j, none⟩ := by simp [Addr.add]; try omega
            rw [e]
            refine (blk_cell hnew j).trans ?_
            rw [← hu]
            unfold bits
            rw [List.getElem?_toArray, List.map_append, List.getElem?_append_left (by simp [counted_length]; exact hj)]⟩
          have HSRC6 := Aside0.mk hsrc6
          have HL : Aside0 (pre.length < 65536) := ⟨by have h1 := congrArg List.length hpre; have h2 := modelsTo_length v cs k; rw [List.length_map] at h1; omega⟩
          clear hm16 hnew hsrc6 hJ5
          obtain ⟨i0, hi, hz0, hz1, hz2⟩ := info_parts infoB
          have HV : Aside0 (v ≤ 16) := ⟨hv⟩
          gi_wp2_with (gi_at_builtin; (refine wpListIn_append_own _ rfl _ _ 41 rfl (w5.heap.size + 1) 4 i0 (.bool false) 1 1 Try.underlying41 hi hz0 hz1 hz2 rfl (by decide) (.slice none 0 0) 0 [] rfl (World.ownsRow_nil _ _ _ _) ⟨w5.heap.size, 0, none⟩ v 16 ((counted v k).map Value.bool) rfl (by simp [counted_length]) HNW.out (fun u hu => by obtain ⟨b, _, rfl⟩ := List.mem_map.1 hu; rfl) (by have := HV.out; unfold maxLen; omega) (by have := HV.out; omega) (by simp) ?_; intro v7 w7 hown hgrow _; have HJ7 := Aside0.mk (hJ _ _ _ none HJ6.out hgrow (fun r e => by cases e)); have HB7 := Aside0.mk (blk_grown HB6.out hgrow (by simp [Value.ownBlock])); have HSRC7 := Aside0.mk (HSRC6.out.keep (below_grown_none hgrow)); obtain ⟨fn, tmps, assign, body, hy, hR⟩ := hY pre (v7, counted v k) w7 HJ7.out ⟨counted_length v k, _, own_Rb (by simpa [counted_length] using hown)⟩ HL.out))
          refine hR.mono ?_
          rintro e w8 (⟨rfl, hJ8, hk8⟩ | ⟨rfl, hJx8⟩)
          · have hb8 := hk8.2 _ _ _ _ HB7.out (fun h => by have := hSW _ h; omega)
            have hsrc8 := HSRC7.out.kept hk8 hSg hSok
            have g08 := (blk_cell hsrc8.hg 0).trans rfl
            rw [← HM16.out] at hb8
            clear g06 hy hR hown hgrow q0 q1 q2 q3 q4 q5 q6 q7 q8 q9 q10 q11 q12 q13 q14 q15
            gi_wp2
            refine ⟨trivial, ?_⟩
            (with_reducible refine (callsIn_wide.2 (next_calls W.heap.size v _ w8 hl16 hv hb8)).mono ?_)
            rintro e w9 ⟨rfl, hb9, hg9⟩
            rw [hnx] at hb9 ⊢
            have hJ9 := hJ _ _ _ (some W.heap.size) hJ8 hg9 (fun r e => by cases e; rfl)
            gi_wp2
            go_roundw
            case rel => exact ⟨k + 1, pre ++ [(v7, counted v k)], rfl, hlt, hb9, by rw [List.map_append, hpre, hmt]; rfl, hJ9, hsrc8.grown hg9 hb8⟩
            case measure => exact down hlt HNA.out hb9
          · gi_wp2
            refine bodyPost_ret (results_none rfl _ _ _) rfl ?_
            refine ⟨⟨_, rfl⟩, .inr ⟨pre ++ [(v7, counted v k)], ?_, hJx8⟩⟩
            have e : (pre ++ [(v7, counted v k)]).map (·.2) = modelsTo v cs (k + 1) := by rw [List.map_append, hpre, hmt]; rfl
            rw [e]
            exact modelsTo_prefix v cs hlt
    · have hd : decide (k < 2 ^ v) = false := decide_eq_false hlt
      obtain rfl : k = 2 ^ v := by omega
      rw [hd]
      gi_wp2
      go_end0
      exact ⟨⟨_, rfl⟩, .inl ⟨pre, hpre, hJs⟩⟩
end Go.Proofs.YtggnnnddnppcpaaHand
/-! text YtggnnnddnppcpaaCnfModels -/
namespace Go.Proofs.YtggnnnddnppcpaaHand
open Go.RowKit Go.Shelf Go.Proofs.YtggnnnddnppcpaaW.PrintWords Go.Proofs.YtggnnnddnppcpaaW.PrintLast Go.Proofs.YtggnnnddnppcpaaMath Go.Proofs.YtggnnnddnppcpaaCells
set_option linter.unusedVariables false
set_option linter.unusedSimpArgs false

theorem models_stops (n : Nat) (hn : 1 ≤ n) (v : Nat) (cs : List (List Int)) (Bg base0 : Nat) (ok : Nat → Prop) (A : Option Addr) (cap : Nat) (Sv : Nat → Prop) (hv : v ≤ 16) (hf : isFormula (v : Int) cs = true) (hcn : cs.length ≤ 17592186044416) (hcs : ∀ c ∈ cs, c.length ≤ 17592186044416)
    (w : World) (hSrc : Src v cs Bg base0 ok A cap w) (hSok : ∀ k, ok k → ¬ Sv k) (hSg : ¬ Sv Bg) (hSW : ∀ k, Sv k → k < w.heap.size) :
    SeqStopsM Fence.wide n Try.prog 72 #[.pointer (some ⟨Bg, 0, none⟩)] (fun x : Value × List Bool => #[x.1]) (Handed v) (KeepC Sv) (fun xs => xs.map (·.2) = modelsIn v cs) (fun pre => pre.map (·.2) <+: modelsIn v cs) 65536 w := fun l J Jx W hW hJ hJx hY h0 =>
  models2_in n hn l v cs Bg base0 ok A cap Sv hv hf hcn hcs J Jx W hJ (hSrc.keep hW) hSok hSg (fun k hk => Nat.lt_of_lt_of_le (hSW k hk) hW.size) hY h0

set_option maxHeartbeats 8000000 in
set_option maxRecDepth 100000 in
theorem models_bad (v1 : Int) (A1 : Option Addr) (c1 : Nat) (l1 : List (List Int)) (w : World) (hr1 : Kd.C (Kd.slice 3 (Kd.int .i64)) w A1 l1.length l1) (hc1 : l1.length ≤ c1) (hn : l1.length ≤ 17592186044416) (hs : ∀ c ∈ l1, c.length ≤ 17592186044416) (hbad : (isFormula v1 l1 && decide (v1 ≤ 16)) = false) :
    Calls Try.prog 37 #[.agg #[.int .i64 v1, .slice A1 l1.length c1]] w fun e w' => e = .returned (.func (.func 71) #[] #[]) ∧ Below w.heap.size w w' := by
  have HR1 := Aside0.mk hr1
  have F1 := fun W h => isFormula_calls v1 A1 c1 l1 W h hc1 hn hs
  cases hf1 : isFormula v1 l1 with
  | false =>
    rw [hf1] at F1
    have HF1 := Aside0.mk F1
    clear F1 hr1 hc1 hn hs hf1 hbad
    go_enter Try.func37, Try.ntmps37
    go_wp2_with fail
    have B0 : Below w.heap.size w (w.alloc (.cells #[.int .i64 v1, .slice A1 l1.length c1] 24 (0, 0))) := below_alloc (Below.refl _ _) _
    generalize hW0 : w.alloc (.cells #[.int .i64 v1, .slice A1 l1.length c1] 24 (0, 0)) = W0 at B0 ⊢
    clear hW0
    (with_reducible refine (HF1.out _ (Kd.C_below HR1.out B0)).mono ?_)
    rintro e W1 ⟨rfl, hb⟩
    have B1 := Aside0.mk (below_step B0 hb)
    clear B0 hb
    go_wp2_with fail
    go_ret
    exact ⟨rfl, B1.out⟩
  | true =>
    rw [hf1, Bool.true_and] at hbad
    rw [hf1] at F1
    have HF1 := Aside0.mk F1
    have hgt : decide (v1 > 16) = true := decide_eq_true (by have := of_decide_eq_false hbad; omega)
    have hgt2 : decide (16 < v1) = true := hgt
    clear F1 hr1 hc1 hn hs hf1 hbad
    go_enter Try.func37, Try.ntmps37
    go_wp2_with fail
    have B0 : Below w.heap.size w (w.alloc (.cells #[.int .i64 v1, .slice A1 l1.length c1] 24 (0, 0))) := below_alloc (Below.refl _ _) _
    have k0 := blk_new w (.cells #[.int .i64 v1, .slice A1 l1.length c1] 24 (0, 0))
    generalize hW0 : w.alloc (.cells #[.int .i64 v1, .slice A1 l1.length c1] 24 (0, 0)) = W0 at B0 k0 ⊢
    clear hW0
    (with_reducible refine (HF1.out _ (Kd.C_below HR1.out B0)).mono ?_)
    rintro e W1 ⟨rfl, hb⟩
    have B1 := Aside0.mk (below_step B0 hb)
    have k1 := (blk_cell (blk_below k0 hb) 0).trans rfl
    clear B0 hb k0
    go_wp2_with fail
    go_ret
    exact ⟨rfl, B1.out⟩

theorem src_of {v1 : Int} {l1 : List (List Int)} {Bg base b0 : Nat} {A : Option Addr} {cap : Nat} {W : World} (hv0 : 0 ≤ v1) (hg : W.heap[Bg]? = some (.cells #[.int .i64 v1, .slice A l1.length cap] 24 (0, 0))) (hS : Kd.S (Kd.slice 3 (Kd.int .i64)) 43 W base (fun _ => True) (.slice A l1.length cap) l1) (hb : b0 ≤ base) :
    Src v1.toNat l1 Bg b0 (fun k => b0 ≤ k ∧ k < W.heap.size) A cap W := by
  refine ⟨?_, Kd.S_mono (Kd.S_bound (Kd.S_lower hS hb)) (fun k hk => ⟨hk.2.1, hk.2.2.1⟩)⟩
  rw [Int.toNat_of_nonneg hv0]
  exact hg

set_option maxHeartbeats 8000000 in
set_option maxRecDepth 100000 in
theorem models_good (v1 : Int) (A1 : Option Addr) (c1 : Nat) (l1 : List (List Int)) (w : World) (hr1 : Kd.C (Kd.slice 3 (Kd.int .i64)) w A1 l1.length l1) (hc1 : l1.length ≤ c1) (hn : l1.length ≤ 5864062014805) (hs : ∀ c ∈ l1, c.length ≤ 17592186044416) (hf1 : isFormula v1 l1 = true) (hv : v1 ≤ 16) :
    Calls Try.prog 37 #[.agg #[.int .i64 v1, .slice A1 l1.length c1]] w fun e w' => ∃ (Bg : Nat) (A : Option Addr) (cap : Nat), e = .returned (.func (.func 72) #[] #[.pointer (some ⟨Bg, 0, none⟩)]) ∧ Src v1.toNat l1 Bg w.heap.size (fun k => w.heap.size ≤ k ∧ k < w'.heap.size) A cap w' ∧ w.heap.size ≤ Bg ∧ Bg < w'.heap.size ∧ Below w.heap.size w w' := by
  have HR1 := Aside0.mk hr1
  have F1 := fun W h => isFormula_calls v1 A1 c1 l1 W h hc1 (by omega) hs
  rw [hf1] at F1
  have HF1 := Aside0.mk F1
  have HC1 := Aside0.mk hc1
  have HN := Aside0.mk hn
  have HS := Aside0.mk hs
  have hgt : decide (v1 > 16) = false := decide_eq_false (by omega)
  have HV0 : Aside0 (0 ≤ v1) := ⟨by unfold isFormula at hf1; rw [Bool.and_eq_true, decide_eq_true_eq] at hf1; exact hf1.1.1⟩
  have hgt2 : decide (16 < v1) = false := hgt
  clear F1 hr1 hc1 hn hs hf1
  go_enter Try.func37, Try.ntmps37
  go_wp2_with fail
  have B0 : Below w.heap.size w (w.alloc (.cells #[.int .i64 v1, .slice A1 l1.length c1] 24 (0, 0))) := below_alloc (Below.refl _ _) _
  have k0 := blk_new w (.cells #[.int .i64 v1, .slice A1 l1.length c1] 24 (0, 0))
  generalize hW0 : w.alloc (.cells #[.int .i64 v1, .slice A1 l1.length c1] 24 (0, 0)) = W0 at B0 k0 ⊢
  clear hW0
  (with_reducible refine (HF1.out _ (Kd.C_below HR1.out B0)).mono ?_)
  rintro e W1 ⟨rfl, hb⟩
  have B1 := Aside0.mk (below_step B0 hb)
  have BK1 := Aside0.mk (blk_below k0 hb)
  clear B0 hb k0
  have f0 := (blk_cell BK1.out 0).trans rfl
  have f1 := (blk_cell BK1.out 1).trans rfl
  go_wp2_with fail
  have hkeep : ∀ W : World, W.heap[w.heap.size]? = some (.cells #[.int .i64 v1, .slice A1 l1.length c1] 24 (0, 0)) → W.cell? ⟨w.heap.size, 0, none⟩ = some (.int .i64 v1) ∧ W.cell? ⟨w.heap.size, 1, none⟩ = some (.slice A1 l1.length c1) := fun W h => ⟨(blk_cell h 0).trans rfl, (blk_cell h 1).trans rfl⟩
  have HK := Aside0.mk hkeep
  have HNE : Aside0 (w.heap.size ≠ W1.heap.size) := ⟨Nat.ne_of_lt (blk_lt BK1.out)⟩
  clear hkeep
  go_region_held3 (fun w' => w'.cell? ⟨w.heap.size, 0, none⟩ = some (.int .i64 v1) ∧ w'.cell? ⟨w.heap.size, 1, none⟩ = some (.slice A1 l1.length c1))
    (first | exact HK.out _ BK3.out | exact HK.out _ (blk_far (blk_far BK3.out HNE.out _) HNE.out _) | exact HK.out _ (blk_far BK3.out HNE.out _) | exact HK.out _ (blk_alloc BK3.out _) | exact HK.out _ BK1.out | exact HK.out _ (blk_drew BK1.out) | exact HK.out _ (blk_alloc (blk_drew BK1.out) _) | exact HK.out _ (blk_drew (blk_alloc BK1.out _)) | exact HK.out _ (blk_alloc BK1.out _))
    (first
    | (go_at_call 59; (with_reducible refine (laid_calls A1 c1 [] l1 (.slice none 0 0) (W1.alloc (.cells #[.int .i64 0, .slice none 0 0] 24 (0, 0))).drew (W1.alloc (.cells #[.int .i64 0, .slice none 0 0] 24 (0, 0))).drew (Kd.C_below HR1.out (below_drew (below_alloc B1.out _))) HC1.out (Below.refl _ _) (Kd.S_nil _ _ _ _ _) (by have := HN.out; simp; omega) HS.out).mono ?_); rintro e w3 ⟨v3, rfl, hs3, hb3⟩; have BK3 := Aside0.mk (blk_below (blk_drew (blk_alloc BK1.out _)) hb3); have bkg : w3.heap[W1.heap.size]? = some (.cells #[.int .i64 0, .slice none 0 0] 24 (0, 0)) := blk_below (blk_drew (blk_new W1 (.cells #[.int .i64 0, .slice none 0 0] 24 (0, 0)))) hb3; have kg0 := (blk_cell bkg 0).trans rfl; have kg1 := (blk_cell bkg 1).trans rfl; have yg0 := blk_frozen bkg 0; have yg1 := blk_frozen bkg 1; have BKG := Aside0.mk bkg; clear bkg; obtain ⟨Ao3, co3, eo3⟩ := Kd.S_slice hs3; subst eo3; have HS3 := Aside0.mk hs3; have HB3 := Aside0.mk hb3; clear hs3 hb3)
    | (go_at_call 59; (with_reducible refine (laid_calls A1 c1 [] l1 (.slice none 0 0) W1.drew W1.drew (Kd.C_below HR1.out (below_drew B1.out)) HC1.out (Below.refl _ _) (Kd.S_nil _ _ _ _ _) (by have := HN.out; simp; omega) HS.out).mono ?_); rintro e w3 ⟨v3, rfl, hs3, hb3⟩; have BK3 := Aside0.mk (blk_below (blk_drew BK1.out) hb3); obtain ⟨Ao3, co3, eo3⟩ := Kd.S_slice hs3; subst eo3; have HS3 := Aside0.mk hs3; have HB3 := Aside0.mk hb3; clear hs3 hb3))
  all_goals
    have hs3 := HS3.out
    rw [List.nil_append] at hs3
    go_wp2
    go_ret
    first
    | (refine ⟨w3.heap.size, Ao3, co3, rfl, src_of HV0.out (blk_new _ _) (Kd.S_alloc hs3 _) B1.out.size, ?_, by simp, below_alloc (below_step (below_drew B1.out) HB3.out) _⟩
       exact Nat.le_trans B1.out.size HB3.out.size)
    | (have b2 := blk_put BKG.out 0 (.int .i64 v1) rfl
       refine ⟨W1.heap.size, Ao3, co3, rfl, src_of HV0.out (blk_put b2 1 (.slice Ao3 l1.length co3) rfl) (Kd.S_set (Kd.S_set hs3 BKG.out (by decide) 0 _) b2 (by decide) 1 _) (Nat.le_trans B1.out.size (by simp)), B1.out.size, ?_, ?_⟩
       · exact blk_lt (blk_put b2 1 (.slice Ao3 l1.length co3) rfl)
       · exact ((below_step (below_drew (below_alloc B1.out _)) HB3.out).setCell (p := ⟨W1.heap.size, 0, none⟩) B1.out.size _).setCell (p := ⟨W1.heap.size, 1, none⟩) B1.out.size _)
end Go.Proofs.YtggnnnddnppcpaaHand
/-! text YtggnnnddnppcpaaCnfModelsOwn -/
namespace Go.Proofs.YtggnnnddnppcpaaHand
open Go.RowKit Go.Shelf Go.Proofs.YtggnnnddnppcpaaW.PrintWords Go.Proofs.YtggnnnddnppcpaaW.PrintLast Go.Proofs.YtggnnnddnppcpaaMath Go.Proofs.YtggnnnddnppcpaaCells Go.Proofs.YtggnnnddnppcpaaOwn
set_option linter.unusedVariables false
set_option linter.unusedSimpArgs false
attribute [local go_sem] Oper.semAt_some
abbrev OwnBools (W : World) (base : Nat) (v : Value) (xs : List Bool) : Prop := W.ownsRow base 4 1 v xs.length (xs.map Value.bool)
theorem Src.keptD {v : Nat} {cs : List (List Int)} {Bg base0 : Nat} {ok M : Nat → Prop} {A : Option Addr} {cap : Nat} {W W1 : World} (h : Src v cs Bg base0 ok A cap W) (k : KeptD M W W1) (h1 : M Bg) (h2 : ∀ k, ok k → M k) : Src v cs Bg base0 ok A cap W1 :=
  ⟨k.2 _ _ h1 h.hg, Kd.S_mono (Kd.S_move (Kd.S_bound h.hc) (fun j hj => by obtain ⟨ho, _, hlt, q, _, cells, hc⟩ := hj; rw [hc]; exact k.2 _ _ (h2 j ho) hc)) (fun _ hk => hk.1)⟩
set_option maxRecDepth 100000 in
set_option maxHeartbeats 4000000 in
theorem models2_own_in (n : Nat) (hn : 1 ≤ n) (l v : Nat) (cs : List (List Int)) (Bg base0 : Nat) (ok : Nat → Prop) (A : Option Addr) (cap : Nat) (hv : v ≤ 16) (hf : isFormula (v : Int) cs = true) (hcn : cs.length ≤ 17592186044416) (hcs : ∀ c ∈ cs, c.length ≤ 17592186044416)
    (J Jx : List (Value × List Bool) → World → Prop) (W : World) (hJ : AbidesM W.heap.size J) (hSrc : Src v cs Bg base0 ok A cap W)
    (hY : ∀ pre x A0 W1, J pre A0 → J pre W1 → Below A0.heap.size A0 W1 → W.heap.size < A0.heap.size → x.2.length = v → OwnBools W1 A0.heap.size x.1 x.2 → pre.length < 65536 → YieldAt Fence.wide (n - 1) Try.prog l #[x.1] W1 fun e W' =>
      (e = .returned (.bool true) ∧ J (pre ++ [x]) W' ∧ KeptD (fun k => k = W.heap.size ∨ k = Bg ∨ ok k) W1 W') ∨ (e = .returned (.bool false) ∧ Jx (pre ++ [x]) W'))
    (h0 : J [] W) :
    CallsIn Fence.wide n Try.prog 72 #[.func (.yield l) #[] #[], .pointer (some ⟨Bg, 0, none⟩)] W fun e W' => (∃ u, e = .returned u) ∧
      ((∃ xs, xs.map (·.2) = modelsIn v cs ∧ J xs W') ∨ (∃ pre, pre.map (·.2) <+: modelsIn v cs ∧ Jx pre W')) := by
  refine callsIn_of_wp Try.func72 rfl trivial ?_ rfl
  simp only [Try.ntmps72, List.size_toArray, List.length_cons, List.length_nil, Nat.reduceAdd, Nat.reduceSub, Array.replicate_succ, Array.replicate_zero, List.push_toArray, List.append_toArray, List.nil_append, List.cons_append]
  gi_wp2
  have hpow : 2 ^ v ≤ 65536 := Nat.pow_le_pow_right (n := 2) (by omega) hv
  have hpos : 0 < 2 ^ v := Nat.pow_pos (by omega)
  gi_loopw [4] (fun v4 wr => ∃ (k : Nat) (pre : List (Value × List Bool)), v4 = .bool (decide (k < 2 ^ v)) ∧ k ≤ 2 ^ v ∧ wr.heap[W.heap.size]? = some (.cells (bits (counted v k ++ List.replicate (16 - v) false)) 84 (0, 0)) ∧ pre.map (·.2) = modelsTo v cs k ∧ J pre wr ∧ Src v cs Bg base0 ok A cap wr)
    (fun v4 wr => match v4 with | .bool true => 2 ^ v - numAt wr W.heap.size v | _ => 0)
  case atStart =>
    refine ⟨0, [], by simp [hpos], Nat.zero_le _, ?_, by simp [modelsTo], hJ _ _ _ none h0 (World.grownBy_alloc W _ none) (fun r e => by cases e), hSrc.keep ((Below.refl _ _).alloc (Nat.le_refl _) _)⟩
    have e : bits (counted v 0 ++ List.replicate (16 - v) false) = (List.replicate 16 (Value.bool false)).toArray := by
      rw [counted_zero, List.replicate_append_replicate, show v + (16 - v) = 16 by omega]
      unfold bits
      rw [List.map_replicate]
    rw [e]
    exact blk_new _ _
  case round =>
    obtain ⟨k, pre, rfl, hk, hb, hpre, hJs, hsrc⟩ := hrel
    by_cases hlt : k < 2 ^ v
    · have hd : decide (k < 2 ^ v) = true := decide_eq_true hlt
      have hl16 : (counted v k ++ List.replicate (16 - v) false).length = 16 := by rw [List.length_append, counted_length, List.length_replicate]; omega
      have htk : (counted v k ++ List.replicate (16 - v) false).take v = counted v k := by rw [List.take_append_of_le_length (by rw [counted_length]; omega), List.take_of_length_le (by rw [counted_length]; omega)]
      have hC := bits_C hb (v := v) (by omega) (by omega)
      rw [htk] at hC
      have g0 := (blk_cell hsrc.hg 0).trans rfl
      have g1 := (blk_cell hsrc.hg 1).trans rfl
      have hv1 : (0 : Int) ≤ (v : Int) := by omega
      have hv2 : (v : Int) ≤ 16 := by omega
      rw [hd]
      have hmx : Try.prog.follows .mixedOrders = true := by kernel_rfl
      have HALL := fun W' h0 h1 => allIn_calls (v : Int) A (some ⟨W.heap.size, 0, none⟩) cap 16 cs (counted v k) W' h0 (Kd.S_reads' hsrc.hc).2.1 h1 (by rw [counted_length]; omega) (by rw [counted_length]) (fun c hc => by unfold isFormula at hf; rw [Bool.and_eq_true, List.all_eq_true] at hf; exact hf.2 c hc) hcn hcs
      rw [counted_length] at HALL hC
      have HA := Aside0.mk HALL
      have HCB := Aside0.mk hC
      have HSRC := Aside0.mk hsrc
      clear HALL hC
      gi_wp2
      gi_region_with_o (refine ⟨trivial, ?_⟩; (with_reducible refine (callsIn_wide.2 (HA.out _ ?hc0 ?hc1)).mono ?_); (case hc0 => first | exact (Kd.S_reads' HSRC.out.hc).2.2 | exact Kd.C_drew (Kd.S_reads' HSRC.out.hc).2.2 | exact Kd.C_drewN (Kd.S_reads' HSRC.out.hc).2.2 _); (case hc1 => first | exact HCB.out | exact Kd.C_drew HCB.out | exact Kd.C_drewN HCB.out _); rintro e w5 ⟨rfl, hb5⟩)
      all_goals
        have hb5' : Below wr.heap.size wr w5 := by first | exact hb5 | exact below_step (below_drew (Below.refl _ _)) hb5 | exact below_step (below_drew (below_drew (Below.refl _ _))) hb5
        clear hb5
        have hJ5 := hJ _ _ _ none hJs (grown_of_below hb5' none) (fun r e => by cases e)
        have hb5 := blk_below hb hb5'
        have hsrc5 := hsrc.keep hb5'
        have HNA : Aside0 (numAt wr W.heap.size v = k) := ⟨by rw [numAt_bits hb, htk, num_counted v k hlt]⟩
        clear g0 g1 hJs hb hsrc HSRC HCB HA hb5'
        have g0 := (blk_cell hsrc5.hg 0).trans rfl
        have g1 := (blk_cell hsrc5.hg 1).trans rfl
        have hnx := next_counted v k (List.replicate (16 - v) false) hlt
        have hmt := modelsTo_succ v cs k
        cases hall : allIn cs (counted v k) with
        | false =>
          rw [hall] at hmt
          simp only [Bool.false_eq_true, if_false, List.append_nil] at hmt
          gi_wp2
          refine ⟨trivial, ?_⟩
          (with_reducible refine (callsIn_wide.2 (next_calls W.heap.size v _ w5 hl16 hv hb5)).mono ?_)
          rintro e w6 ⟨rfl, hb6, hg6⟩
          rw [hnx] at hb6 ⊢
          have hJ6 := hJ _ _ _ (some W.heap.size) hJ5 hg6 (fun r e => by cases e; rfl)
          gi_wp2
          go_roundw
          case rel => exact ⟨k + 1, pre, rfl, hlt, hb6, by rw [hpre, hmt], hJ6, hsrc5.grown hg6 hb5⟩
          case measure => exact down hlt HNA.out hb6
        | true =>
          rw [hall] at hmt
          simp only [if_true] at hmt
          obtain ⟨b0, b1, b2, b3, b4, b5, b6, b7, b8, b9, b10, b11, b12, b13, b14, b15, hm16⟩ := sixteen _ hl16
          have HM16 := Aside0.mk hm16
          rw [hm16] at hb5
          have hb5' : w5.heap[W.heap.size]? = some (.cells #[.bool b0, .bool b1, .bool b2, .bool b3, .bool b4, .bool b5, .bool b6, .bool b7, .bool b8, .bool b9, .bool b10, .bool b11, .bool b12, .bool b13, .bool b14, .bool b15] 84 (0, 0)) := hb5
          have q0 := (blk_cell hb5' 0).trans rfl
          have q1 := (blk_cell hb5' 1).trans rfl
          have q2 := (blk_cell hb5' 2).trans rfl
          have q3 := (blk_cell hb5' 3).trans rfl
          have q4 := (blk_cell hb5' 4).trans rfl
          have q5 := (blk_cell hb5' 5).trans rfl
          have q6 := (blk_cell hb5' 6).trans rfl
          have q7 := (blk_cell hb5' 7).trans rfl
          have q8 := (blk_cell hb5' 8).trans rfl
          have q9 := (blk_cell hb5' 9).trans rfl
          have q10 := (blk_cell hb5' 10).trans rfl
          have q11 := (blk_cell hb5' 11).trans rfl
          have q12 := (blk_cell hb5' 12).trans rfl
          have q13 := (blk_cell hb5' 13).trans rfl
          have q14 := (blk_cell hb5' 14).trans rfl
          have q15 := (blk_cell hb5' 15).trans rfl
          have hsrc6 := hsrc5.keep (below_alloc (Below.refl _ _) (.cells #[.bool b0, .bool b1, .bool b2, .bool b3, .bool b4, .bool b5, .bool b6, .bool b7, .bool b8, .bool b9, .bool b10, .bool b11, .bool b12, .bool b13, .bool b14, .bool b15] 84 (0, 0)))
          have g06 := (blk_cell hsrc6.hg 0).trans rfl
          have HJ6 := Aside0.mk (hJ _ _ _ none hJ5 (World.grownBy_alloc w5 (.cells #[.bool b0, .bool b1, .bool b2, .bool b3, .bool b4, .bool b5, .bool b6, .bool b7, .bool b8, .bool b9, .bool b10, .bool b11, .bool b12, .bool b13, .bool b14, .bool b15] 84 (0, 0)) none) (fun r e => by cases e))
          have HB6 := Aside0.mk (blk_alloc hb5 (.cells #[.bool b0, .bool b1, .bool b2, .bool b3, .bool b4, .bool b5, .bool b6, .bool b7, .bool b8, .bool b9, .bool b10, .bool b11, .bool b12, .bool b13, .bool b14, .bool b15] 84 (0, 0)))
          have hnew : ((w5.alloc (.cells #[.bool b0, .bool b1, .bool b2, .bool b3, .bool b4, .bool b5, .bool b6, .bool b7, .bool b8, .bool b9, .bool b10, .bool b11, .bool b12, .bool b13, .bool b14, .bool b15] 84 (0, 0)))).heap[w5.heap.size]? = some (.cells (bits [b0, b1, b2, b3, b4, b5, b6, b7, b8, b9, b10, b11, b12, b13, b14, b15]) 84 (0, 0)) := blk_new _ _
          rw [← hm16] at hnew
          have HNW : Aside0 (∀ j u, ((counted v k).map Value.bool)[j]? = some u → ((w5.alloc (.cells #[.bool b0, .bool b1, .bool b2, .bool b3, .bool b4, .bool b5, .bool b6, .bool b7, .bool b8, .bool b9, .bool b10, .bool b11, .bool b12, .bool b13, .bool b14, .bool b15] 84 (0, 0)))).cell? ((⟨w5.heap.size, 0, none⟩ : Addr).add j) = some u) := ⟨fun j u hu => by
            have hj : j < v := by
              have := (List.getElem?_eq_some_iff.1 hu).1
              simpa [counted_length] using this
            have e : (⟨w5.heap.size, 0, none⟩ : Addr).add j = ⟨w5.heap.size, j, none⟩ := by simp [Addr.add]; try omega
            rw [e]
            refine (blk_cell hnew j).trans ?_
            rw [← hu]
            unfold bits
            rw [List.getElem?_toArray, List.map_append, List.getElem?_append_left (by simp [counted_length]; exact hj)]⟩
          have HSRC6 := Aside0.mk hsrc6
          have HSZ := Aside0.mk (blk_lt HB6.out)
          have HL : Aside0 (pre.length < 65536) := ⟨by have h1 := congrArg List.length hpre; have h2 := modelsTo_length v cs k; rw [List.length_map] at h1; omega⟩
          clear hm16 hnew hsrc6 hJ5
          obtain ⟨i0, hi, hz0, hz1, hz2⟩ := info_parts infoB
          have HV : Aside0 (v ≤ 16) := ⟨hv⟩
          gi_wp2_with (gi_at_builtin; (refine wpListIn_append_own _ rfl _ _ 41 rfl (w5.heap.size + 1) 4 i0 (.bool false) 1 1 Try.underlying41 hi hz0 hz1 hz2 rfl (by decide) (.slice none 0 0) 0 [] rfl (World.ownsRow_nil _ _ _ _) ⟨w5.heap.size, 0, none⟩ v 16 ((counted v k).map Value.bool) rfl (by simp [counted_length]) HNW.out (fun u hu => by obtain ⟨b, _, rfl⟩ := List.mem_map.1 hu; rfl) (by have := HV.out; unfold maxLen; omega) (by have := HV.out; omega) (by simp) ?_; intro v7 w7 hown hgrow _; have HJ7 := Aside0.mk (hJ _ _ _ none HJ6.out hgrow (fun r e => by cases e)); have HB7 := Aside0.mk (blk_grown HB6.out hgrow (by simp [Value.ownBlock])); have HSRC7 := Aside0.mk (HSRC6.out.keep (below_grown_none hgrow)); obtain ⟨fn, tmps, assign, body, hy, hR⟩ := hY pre (v7, counted v k) _ w7 HJ6.out HJ7.out (below_grown_none hgrow) HSZ.out (counted_length v k) (by simpa [OwnBools, counted_length, World.size_alloc] using hown) HL.out))
          refine hR.mono ?_
          rintro e w8 (⟨rfl, hJ8, hk8⟩ | ⟨rfl, hJx8⟩)
          · have hb8 := hk8.2 _ _ (.inl rfl) HB7.out
            have hsrc8 := HSRC7.out.keptD hk8 (.inr (.inl rfl)) (fun _ h => .inr (.inr h))
            have g08 := (blk_cell hsrc8.hg 0).trans rfl
            rw [← HM16.out] at hb8
            clear g06 hy hR hown hgrow q0 q1 q2 q3 q4 q5 q6 q7 q8 q9 q10 q11 q12 q13 q14 q15
            gi_wp2
            refine ⟨trivial, ?_⟩
            (with_reducible refine (callsIn_wide.2 (next_calls W.heap.size v _ w8 hl16 hv hb8)).mono ?_)
            rintro e w9 ⟨rfl, hb9, hg9⟩
            rw [hnx] at hb9 ⊢
            have hJ9 := hJ _ _ _ (some W.heap.size) hJ8 hg9 (fun r e => by cases e; rfl)
            gi_wp2
            go_roundw
            case rel => exact ⟨k + 1, pre ++ [(v7, counted v k)], rfl, hlt, hb9, by rw [List.map_append, hpre, hmt]; rfl, hJ9, hsrc8.grown hg9 hb8⟩
            case measure => exact down hlt HNA.out hb9
          · gi_wp2
            refine bodyPost_ret (results_none rfl _ _ _) rfl ?_
            refine ⟨⟨_, rfl⟩, .inr ⟨pre ++ [(v7, counted v k)], ?_, hJx8⟩⟩
            have e : (pre ++ [(v7, counted v k)]).map (·.2) = modelsTo v cs (k + 1) := by rw [List.map_append, hpre, hmt]; rfl
            rw [e]
            exact modelsTo_prefix v cs hlt
    · have hd : decide (k < 2 ^ v) = false := decide_eq_false hlt
      obtain rfl : k = 2 ^ v := by omega
      rw [hd]
      gi_wp2
      go_end0
      exact ⟨⟨_, rfl⟩, .inl ⟨pre, hpre, hJs⟩⟩

/-- what is handed out: so many truths in a new row, none of the iterator's blocks -/
def HandB (v : Nat) (A : World) (M : Nat → Prop) (p : Value × List Bool) (W : World) : Prop := p.2.length = v ∧ OwnBools W A.heap.size p.1 p.2 ∧ ∀ k, p.1.ownBlock = some k → ¬ M k
theorem HandB.move {v : Nat} (A : World) (M M' : Nat → Prop) (p : Value × List Bool) (W W' : World) (h : HandB v A M p W) (hM : ∀ k, M' k → M k ∨ k < A.heap.size) (hW : ∀ k cs t z, A.heap.size ≤ k → W.heap[k]? = some (.cells cs t z) → W'.heap[k]? = some (.cells cs t z)) : HandB v A M' p W' := by
  obtain ⟨h0, h1, h2⟩ := h
  have hb : ∀ k, p.1.ownBlock = some k → A.heap.size ≤ k ∧ W'.heap[k]? = W.heap[k]? := fun k hk => by
    rcases h1.2 with ⟨e, _⟩ | ⟨g, cap, cur, e, hg, hc, _⟩
    · rw [e] at hk; simp [Value.ownBlock] at hk
    · rw [e] at hk
      simp [Value.ownBlock] at hk
      subst hk
      exact ⟨hg, (hW g _ _ _ hg hc).trans hc.symm⟩
  refine ⟨h0, own_move h1 fun k hk => (hb k hk).2, fun k hk h4 => ?_⟩
  rcases hM k h4 with h5 | h5
  · exact h2 k hk h5
  · have := (hb k hk).1
    omega
theorem models_own (n : Nat) (hn : 1 ≤ n) (v : Nat) (cs : List (List Int)) (Bg base0 : Nat) (ok : Nat → Prop) (A : Option Addr) (cap : Nat) (hv : v ≤ 16) (hf : isFormula (v : Int) cs = true) (hcn : cs.length ≤ 17592186044416) (hcs : ∀ c ∈ cs, c.length ≤ 17592186044416)
    (w : World) (hSrc : Src v cs Bg base0 ok A cap w) :
    SeqD Fence.wide n Try.prog 72 #[.pointer (some ⟨Bg, 0, none⟩)] (fun x : Value × List Bool => #[x.1]) (HandB v) (fun k => k = Bg ∨ ok k) (fun xs => xs.map (·.2) = modelsIn v cs) (fun pre => pre.map (·.2) <+: modelsIn v cs) 65536 w := by
  intro l J Jx W hW hJ hJx hY h0
  refine (models2_own_in n hn l v cs Bg base0 ok A cap hv hf hcn hcs
    (fun s V => ∃ M, J M s V ∧ (∀ k, M k → W.heap.size ≤ k ∧ k < V.heap.size) ∧ (M W.heap.size ∨ V.heap.size ≤ W.heap.size))
    (fun s V => ∃ M, Jx M s V) W ?_ (hSrc.keep hW) ?_ ⟨_, h0, fun _ h => h.elim, .inr (Nat.le_refl _)⟩).mono ?_
  · rintro s V V' row ⟨M, h1, h2, h3⟩ hg hr
    have hgr : Grow M V V' := ⟨hg.os, hg.tape, hg.output, hg.size, fun k hk hn => hg.block k hk (fun e => by
      have e2 := hr k e.symm
      subst e2
      rcases h3 with h3 | h3
      · exact hn h3
      · omega)⟩
    refine ⟨fun k => M k ∨ (k = W.heap.size ∧ W.heap.size < V'.heap.size ∧ V.heap.size ≤ W.heap.size), hJ _ _ _ _ _ h1 hgr (fun k hk => ?_), fun k hk => ?_, ?_⟩
    · rcases hk with hk | ⟨rfl, h4, h5⟩
      · exact .inl hk
      · exact .inr ⟨h5, h4⟩
    · rcases hk with hk | ⟨rfl, h4, h5⟩
      · have := h2 k hk
        have := hg.size
        exact ⟨by omega, by omega⟩
      · exact ⟨Nat.le_refl _, h4⟩
    · rcases h3 with h3 | h3
      · exact .inl (.inl h3)
      · rcases Nat.lt_or_ge W.heap.size V'.heap.size with h4 | h4
        · exact .inl (.inr ⟨rfl, h4, h3⟩)
        · exact .inr h4
  · rintro pre x A0 W1 ⟨M, h1, h2, h3⟩ _ hb hlt hl ho hN
    have hMW : M W.heap.size := h3.resolve_right (by omega)
    refine YieldAt.mono (hY M M pre x A0 W1 h1 (Grow.of_below hb) (More.refl _ _ _) (fun _ h => h) ⟨hl, ho, fun k hk hM => by have := own_base ho k hk; have := h2 k hM; omega⟩ hN) ?_
    rintro e W' (⟨rfl, hj, hk⟩ | ⟨rfl, hj, hk⟩)
    · refine .inl ⟨rfl, ⟨M, hj, fun k hM => ⟨(h2 k hM).1, ?_⟩, .inl hMW⟩, hk.mono ?_⟩
      · have := (h2 k hM).2
        have := hb.size
        have := hk.1
        omega
      · rintro k (rfl | h)
        · exact .inl hMW
        · exact .inr h
    · exact .inr ⟨rfl, M, hj⟩
  · rintro e W' ⟨h1, (⟨xs, h2, M, h3, _⟩ | ⟨pre, h2, M, h3⟩)⟩
    · exact ⟨h1, M, .inl ⟨xs, h2, h3⟩⟩
    · exact ⟨h1, M, .inr ⟨pre, h2, h3⟩⟩
/-- an iterator over nothing -/
theorem nothing_own (n v : Nat) (Rd : Nat → Prop) (w : World) :
    SeqD Fence.wide n Try.prog 71 #[] (fun x : Value × List Bool => #[x.1]) (HandB v) Rd (fun xs => xs.map (·.2) = []) (fun pre => False) 65536 w := by
  intro l J Jx W hW hJ hJx hY h0
  refine callsIn_wide.2 ((callsIn_wide (n := 6)).1 ?_)
  refine callsIn_of_wp Try.func71 rfl trivial ?_ rfl
  simp only [Try.ntmps71, List.size_toArray, List.length_cons, List.length_nil, Nat.reduceAdd, Nat.reduceSub, Array.replicate_succ, Array.replicate_zero, List.push_toArray, List.append_toArray, List.nil_append, List.cons_append]
  have H := Aside0.mk h0
  clear h0 hY hJ hJx
  gi_wp2
  go_end0
  exact ⟨⟨_, rfl⟩, _, .inl ⟨[], rfl, H.out⟩⟩
end Go.Proofs.YtggnnnddnppcpaaHand
/-! text YtggnnnddnppcpaaCnfCountOf -/
namespace Go.Proofs.YtggnnnddnppcpaaMath
def countOf (v : Int) (cs : List (List Int)) : Int × Int := if isFormula v cs = true then (if 16 < v then (0, 4) else ((modelsIn v.toNat cs).length, 0)) else (0, 1)
end Go.Proofs.YtggnnnddnppcpaaMath
namespace Go.Proofs.YtggnnnddnppcpaaHand
open Go.RowKit Go.Shelf Go.Proofs.YtggnnnddnppcpaaW.PrintWords Go.Proofs.YtggnnnddnppcpaaW.PrintLast Go.Proofs.YtggnnnddnppcpaaMath Go.Proofs.YtggnnnddnppcpaaCells
set_option linter.unusedVariables false
set_option linter.unusedSimpArgs false
attribute [local go_sem] Oper.semAt_some

theorem KeepC.set {S : Nat → Prop} (W : World) {b : Nat} (hb : S b) (i : Nat) (u : Value) : KeepC S W (W.setCell ⟨b, i, none⟩ u) :=
  ⟨((Below.refl 0 W).setCell (p := ⟨b, i, none⟩) (Nat.zero_le _) u).size, fun k cells t z hk hs => (Below.heap_setCell W ⟨b, i, none⟩ u k (fun e => hs (by rw [e]; exact hb))).trans hk⟩
theorem Handed.put {v : Nat} (x : Value × List Bool) (W : World) (l : Nat) (o o' : Obj) (h : W.heap[l]? = some o) (hc : o.isCells = false) (hx : Handed v x W) : Handed v x (W.putObj l o') := by
  obtain ⟨h1, base, h2⟩ := hx
  refine ⟨h1, base, Kd.R_mono (Kd.R_move (Kd.R_bound h2) (fun k hk => ?_)) (fun _ _ => trivial)⟩
  obtain ⟨_, _, _, q, _, cells, hcells⟩ := hk
  exact World.putObj_heap_other (fun e => by subst e; rw [h] at hcells; cases hcells; cases hc)

set_option maxHeartbeats 8000000 in
set_option maxRecDepth 100000 in
theorem count_good (v1 : Int) (A1 : Option Addr) (c1 : Nat) (l1 : List (List Int)) (w : World) (hr1 : Kd.C (Kd.slice 3 (Kd.int .i64)) w A1 l1.length l1) (hc1 : l1.length ≤ c1) (hn : l1.length ≤ 5864062014805) (hs : ∀ c ∈ l1, c.length ≤ 17592186044416) (hf1 : isFormula v1 l1 = true) (hv : v1 ≤ 16) :
    Calls Try.prog 40 #[.agg #[.int .i64 v1, .slice A1 l1.length c1]] w fun e w' => e = .returned (.tuple #[.int .i64 (modelsIn v1.toNat l1).length, .int .i64 0]) ∧ Below w.heap.size w w' := by
  have HR1 := Aside0.mk hr1
  have F1 := fun W h => isFormula_calls v1 A1 c1 l1 W h hc1 (by omega) hs
  rw [hf1] at F1
  have HF1 := Aside0.mk F1
  have M := fun W h => models_good v1 A1 c1 l1 W h hc1 hn hs hf1 hv
  have HM := Aside0.mk M
  have HFF := Aside0.mk hf1
  have HV := Aside0.mk hv
  have HV16 : Aside0 (v1.toNat ≤ 16) := ⟨by omega⟩
  have HN := Aside0.mk hn
  have HS := Aside0.mk hs
  have hgt : decide (v1 > 16) = false := decide_eq_false (by omega)
  have hgt2 : decide (16 < v1) = false := hgt
  clear F1 M hr1 hc1 hn hs hf1
  refine (callsIn_wide (n := 6)).1 ?_
  refine callsIn_of_wp_marks Try.func40 rfl trivial ?_ rfl
  simp only [Try.ntmps40, List.size_toArray, List.length_cons, List.length_nil, Nat.reduceAdd, Nat.reduceSub, Array.replicate_succ, Array.replicate_zero, List.push_toArray, List.append_toArray, List.nil_append, List.cons_append]
  gi_wp2
  have B0 : Below w.heap.size w (w.alloc (.cells #[.int .i64 v1, .slice A1 l1.length c1] 24 (0, 0))) := below_alloc (Below.refl _ _) _
  have k0 := blk_new w (.cells #[.int .i64 v1, .slice A1 l1.length c1] 24 (0, 0))
  generalize hW0 : w.alloc (.cells #[.int .i64 v1, .slice A1 l1.length c1] 24 (0, 0)) = W0 at B0 k0 ⊢
  clear hW0
  refine ⟨trivial, ?_⟩
  (with_reducible refine (callsIn_wide.2 (HF1.out _ (Kd.C_below HR1.out B0))).mono ?_)
  rintro e W1 ⟨rfl, hb⟩
  have hw1 : w.heap.size ≤ W1.heap.size := Nat.le_trans B0.size hb.size
  have B1 := below_alloc (below_step B0 hb) (.cells #[.int .i64 0] 3 (0, 0))
  have f0 := (blk_cell (blk_below k0 hb) 0).trans rfl
  have k1 := blk_alloc (blk_below k0 hb) (.cells #[.int .i64 0] 3 (0, 0))
  have g0 := (blk_cell k1 0).trans rfl
  have g1 := (blk_cell k1 1).trans rfl
  have n1 := blk_new W1 (.cells #[.int .i64 0] 3 (0, 0))
  clear hb k0 B0
  gi_wp2
  refine ⟨trivial, ?_⟩
  (with_reducible refine (callsIn_wide.2 (HM.out _ (Kd.C_below HR1.out B1))).mono ?_)
  rintro e W2 ⟨Bg, A, cap, rfl, hsrc, hBg, hBg2, hb2⟩
  have n2 := blk_below n1 hb2
  have B2 := below_step B1 hb2
  have hN : W1.heap.size < W2.heap.size := blk_lt n2
  clear f0 g0 g1 k1 n1 B1 hb2
  gi_wp2
  have HV0 : Aside0 (((v1.toNat : Nat) : Int) = v1) := ⟨by have h := HFF.out; unfold isFormula at h; rw [Bool.and_eq_true, decide_eq_true_eq] at h; omega⟩
  refine wpIn_range_cells rfl (by decide) (gf := 72) (lb := #[.pointer (some ⟨Bg, 0, none⟩)]) rfl trivial (enters_of Try.func72 (by kernel_rfl) rfl)
    (models_stops _ (by decide) v1.toNat l1 Bg _ _ A cap (fun k => k = W1.heap.size) HV16.out (by rw [HV0.out]; exact HFF.out) (by have := HN.out; omega) HS.out W2 hsrc (fun k hk e => by have e' : k = W1.heap.size := e; have := hk.1; simp at this; omega) (fun e => by have e' : Bg = W1.heap.size := e; simp at hBg; omega) (fun k e => by have e' : k = W1.heap.size := e; omega))
    KeepC.trans (fun W l o o' _ h hc => KeepC.put W l o o' h hc) Handed.put (Below.refl _ _) (fun _ => rfl)
    (fun pre W => W.heap[W1.heap.size]? = some (.cells #[.int .i64 pre.length] 3 (0, 0)) ∧ Below w.heap.size w W) (fun _ _ _ => False)
    (fun s A B row hs hg hr => ⟨blk_grown hs.1 hg (fun e => by have h1 := (hr _ e.symm).1; exact absurd h1 (Nat.not_le_of_lt hN)), hs.2.grown hg hs.2.size (fun k e => Nat.le_trans B2.size (hr _ e).1)⟩)
    (fun _ _ _ _ _ hs _ _ => hs) ⟨n2, B2⟩
    (fun x => { tmps := #[.agg #[.int .i64 v1, .slice A1 l1.length c1], .pointer (some ⟨w.heap.size, 0, none⟩), .int .i64 0, .int .i64 0, .pointer (some ⟨W1.heap.size, 0, none⟩), .agg #[.int .i64 v1, .slice A1 l1.length c1], .bool true, .bool false, .pointer (some ⟨w.heap.size, 0, none⟩), .int .i64 v1, .bool false, .agg #[.int .i64 v1, .slice A1 l1.length c1], .func (.func 72) #[] #[.pointer (some ⟨Bg, 0, none⟩)], x.1, undef, undef, undef], defers := [] }) ?assign ?body ?done ?stop
  case assign =>
    intro l x W K hK
    gi_wp2
    first | exact hK | simpa using hK
  case body =>
    rintro l pre x W ⟨hc, hB⟩ _ hlen
    have c0 := (blk_cell hc 0).trans rfl
    have y0 := blk_frozen hc 0
    have hwr : wrap64 ((pre.length : Int) + 1) = ((pre ++ [x]).length : Int) := by rw [w64 (by omega) (by omega)]; simp
    gi_wp2
    refine ⟨(KeepsOthers.setCell _ _ _).from _, KeepC.set (S := fun k => k = W1.heap.size) W (b := W1.heap.size) rfl 0 _, blk_put hc 0 _ ?_, hB.setCell (p := ⟨W1.heap.size, 0, none⟩) hw1 _⟩
    first | rw [hwr]; rfl | (simp; done)
  case done =>
    rintro D xs W hD hxs ⟨hc, hB⟩ hK
    have c0 := (blk_cell hc 0).trans rfl
    gi_wp2
    refine ⟨by simp, .inl ⟨_, _, rfl, run_takeDeferred hK, ?_⟩⟩
    have hl : xs.length = (modelsIn v1.toNat l1).length := by rw [← hxs, List.length_map]
    refine ⟨.tuple #[.int .i64 (xs.length : Int), .int .i64 0], by simp [results, Try.results40, go_sem], by rw [hl], ?_⟩
    exact hB.trans (belowK_b (w := w) (Nat.le_refl _) W D _ _ (Nat.le_trans B2.size hD) hK rfl rfl)
  case stop =>
    rintro D c pre W _ _ h _
    exact h.elim

set_option maxHeartbeats 8000000 in
set_option maxRecDepth 100000 in
theorem count_bad (v1 : Int) (A1 : Option Addr) (c1 : Nat) (l1 : List (List Int)) (w : World) (hr1 : Kd.C (Kd.slice 3 (Kd.int .i64)) w A1 l1.length l1) (hc1 : l1.length ≤ c1) (hn : l1.length ≤ 5864062014805) (hs : ∀ c ∈ l1, c.length ≤ 17592186044416) (hf1 : isFormula v1 l1 = false) :
    Calls Try.prog 40 #[.agg #[.int .i64 v1, .slice A1 l1.length c1]] w fun e w' => e = .returned (.tuple #[.int .i64 0, .int .i64 1]) ∧ Below w.heap.size w w' := by
  have HR1 := Aside0.mk hr1
  have F1 := fun W h => isFormula_calls v1 A1 c1 l1 W h hc1 (by omega) hs
  rw [hf1] at F1
  have HF1 := Aside0.mk F1
  clear F1 hr1 hc1 hn hs hf1
  go_enter Try.func40, Try.ntmps40
  go_wp2_with fail
  have B0 : Below w.heap.size w (w.alloc (.cells #[.int .i64 v1, .slice A1 l1.length c1] 24 (0, 0))) := below_alloc (Below.refl _ _) _
  generalize hW0 : w.alloc (.cells #[.int .i64 v1, .slice A1 l1.length c1] 24 (0, 0)) = W0 at B0 ⊢
  clear hW0
  (with_reducible refine (HF1.out _ (Kd.C_below HR1.out B0)).mono ?_)
  rintro e W1 ⟨rfl, hb⟩
  have B1 := Aside0.mk (below_step B0 hb)
  clear B0 hb
  go_wp2_with fail
  go_ret2
  exact ⟨rfl, B1.out⟩

set_option maxHeartbeats 8000000 in
set_option maxRecDepth 100000 in
theorem count_room (v1 : Int) (A1 : Option Addr) (c1 : Nat) (l1 : List (List Int)) (w : World) (hr1 : Kd.C (Kd.slice 3 (Kd.int .i64)) w A1 l1.length l1) (hc1 : l1.length ≤ c1) (hn : l1.length ≤ 5864062014805) (hs : ∀ c ∈ l1, c.length ≤ 17592186044416) (hf1 : isFormula v1 l1 = true) (hv : 16 < v1) :
    Calls Try.prog 40 #[.agg #[.int .i64 v1, .slice A1 l1.length c1]] w fun e w' => e = .returned (.tuple #[.int .i64 0, .int .i64 4]) ∧ Below w.heap.size w w' := by
  have HR1 := Aside0.mk hr1
  have F1 := fun W h => isFormula_calls v1 A1 c1 l1 W h hc1 (by omega) hs
  rw [hf1] at F1
  have HF1 := Aside0.mk F1
  have hgt : decide (v1 > 16) = true := decide_eq_true hv
  have hgt2 : decide (16 < v1) = true := hgt
  clear F1 hr1 hc1 hn hs hf1
  go_enter Try.func40, Try.ntmps40
  go_wp2_with fail
  have B0 : Below w.heap.size w (w.alloc (.cells #[.int .i64 v1, .slice A1 l1.length c1] 24 (0, 0))) := below_alloc (Below.refl _ _) _
  have k0 := blk_new w (.cells #[.int .i64 v1, .slice A1 l1.length c1] 24 (0, 0))
  generalize hW0 : w.alloc (.cells #[.int .i64 v1, .slice A1 l1.length c1] 24 (0, 0)) = W0 at B0 k0 ⊢
  clear hW0
  (with_reducible refine (HF1.out _ (Kd.C_below HR1.out B0)).mono ?_)
  rintro e W1 ⟨rfl, hb⟩
  have B1 := Aside0.mk (below_step B0 hb)
  have k1 := (blk_cell (blk_below k0 hb) 0).trans rfl
  clear B0 hb k0
  go_wp2_with fail
  go_ret2
  exact ⟨rfl, B1.out⟩

theorem count_calls (v1 : Int) (A1 : Option Addr) (c1 : Nat) (l1 : List (List Int)) (w : World) (hr1 : Kd.C (Kd.slice 3 (Kd.int .i64)) w A1 l1.length l1) (hc1 : l1.length ≤ c1) (hn : l1.length ≤ 5864062014805) (hs : ∀ c ∈ l1, c.length ≤ 17592186044416) :
    Calls Try.prog 40 #[.agg #[.int .i64 v1, .slice A1 l1.length c1]] w fun e w' => e = .returned (.tuple #[.int .i64 (countOf v1 l1).1, .int .i64 (countOf v1 l1).2]) ∧ Below w.heap.size w w' := by
  unfold countOf
  by_cases hf : isFormula v1 l1 = true
  · rw [if_pos hf]
    by_cases hv : 16 < v1
    · rw [if_pos hv]
      exact count_room v1 A1 c1 l1 w hr1 hc1 hn hs hf hv
    · rw [if_neg hv]
      exact count_good v1 A1 c1 l1 w hr1 hc1 hn hs hf (by omega)
  · rw [if_neg hf]
    exact count_bad v1 A1 c1 l1 w hr1 hc1 hn hs (by simpa using hf)
end Go.Proofs.YtggnnnddnppcpaaHand
/-! text YtggnnnddnppcpaaCnfEntailsOf -/
namespace Go.Proofs.YtggnnnddnppcpaaMath
def entailsOf (v : Int) (cs : List (List Int)) (c : List Int) : Bool × Int := if (isFormula v cs && within c v) = true then (if 16 < v then (false, 4) else ((modelsIn v.toNat cs).all (holdsIn c), 0)) else (false, 1)
end Go.Proofs.YtggnnnddnppcpaaMath
namespace Go.Proofs.YtggnnnddnppcpaaHand
open Go.RowKit Go.Shelf Go.Proofs.YtggnnnddnppcpaaW.PrintWords Go.Proofs.YtggnnnddnppcpaaW.PrintLast Go.Proofs.YtggnnnddnppcpaaMath Go.Proofs.YtggnnnddnppcpaaCells
set_option linter.unusedVariables false
set_option linter.unusedSimpArgs false
attribute [local go_sem] Oper.semAt_some

/-- four variables in new blocks: a formula, a clause, the two results -/
structure EF (w : World) (a0 a1 cl r e : Value) (W : World) : Prop where
  hB : Below w.heap.size w W
  hz : w.heap.size + 4 ≤ W.heap.size
  b0 : W.heap[w.heap.size]? = some (.cells #[a0, a1] 24 (0, 0))
  b1 : W.heap[w.heap.size + 1]? = some (.cells #[cl] 43 (0, 0))
  b2 : W.heap[w.heap.size + 1 + 1]? = some (.cells #[r] 4 (0, 0))
  b3 : W.heap[w.heap.size + 1 + 1 + 1]? = some (.cells #[e] 28 (0, 0))
theorem ef (w : World) (a0 a1 cl r e : Value) : EF w a0 a1 cl r e ((((w.alloc (.cells #[a0, a1] 24 (0, 0))).alloc (.cells #[cl] 43 (0, 0))).alloc (.cells #[r] 4 (0, 0))).alloc (.cells #[e] 28 (0, 0))) := by
  refine ⟨by repeat (first | exact Below.refl _ _ | apply below_alloc), by simp, blk_alloc (blk_alloc (blk_alloc (blk_new _ _) _) _) _, ?_, ?_, ?_⟩
  · have := blk_new (w.alloc (.cells #[a0, a1] 24 (0, 0))) (.cells #[cl] 43 (0, 0))
    exact blk_alloc (blk_alloc (by simpa using this) _) _
  · have := blk_new ((w.alloc (.cells #[a0, a1] 24 (0, 0))).alloc (.cells #[cl] 43 (0, 0))) (.cells #[r] 4 (0, 0))
    exact blk_alloc (by simpa using this) _
  · have := blk_new (((w.alloc (.cells #[a0, a1] 24 (0, 0))).alloc (.cells #[cl] 43 (0, 0))).alloc (.cells #[r] 4 (0, 0))) (.cells #[e] 28 (0, 0))
    simpa using this
theorem EF.keep {w : World} {a0 a1 cl r e : Value} {W W1 : World} (h : EF w a0 a1 cl r e W) (k : Below W.heap.size W W1) : EF w a0 a1 cl r e W1 :=
  ⟨below_step h.hB k, Nat.le_trans h.hz k.size, blk_below h.b0 k, blk_below h.b1 k, blk_below h.b2 k, blk_below h.b3 k⟩
theorem EF.grown {w : World} {a0 a1 cl r e : Value} {W W1 : World} {row : Option Nat} (h : EF w a0 a1 cl r e W) (hg : W.grownBy W1 row) (hne : ∀ k, row = some k → w.heap.size + 4 ≤ k) : EF w a0 a1 cl r e W1 :=
  ⟨h.hB.grown hg h.hB.size (fun k hk => by have := hne k hk; omega), Nat.le_trans h.hz hg.size, blk_grown h.b0 hg (fun e => by have := hne _ e.symm; omega), blk_grown h.b1 hg (fun e => by have := hne _ e.symm; omega), blk_grown h.b2 hg (fun e => by have := hne _ e.symm; omega), blk_grown h.b3 hg (fun e => by have := hne _ e.symm; omega)⟩
theorem EF.set {w : World} {a0 a1 cl r e : Value} {W : World} (h : EF w a0 a1 cl r e W) (r' e' : Value) : EF w a0 a1 cl r' e' ((W.setCell ⟨w.heap.size + 1 + 1, 0, none⟩ r').setCell ⟨w.heap.size + 1 + 1 + 1, 0, none⟩ e') := by
  refine ⟨(h.hB.setCell (p := ⟨w.heap.size + 1 + 1, 0, none⟩) (show w.heap.size ≤ w.heap.size + 1 + 1 by omega) _).setCell (p := ⟨w.heap.size + 1 + 1 + 1, 0, none⟩) (show w.heap.size ≤ w.heap.size + 1 + 1 + 1 by omega) _, ?_, blk_far (blk_far h.b0 (show w.heap.size ≠ w.heap.size + 1 + 1 by omega) _) (show w.heap.size ≠ w.heap.size + 1 + 1 + 1 by omega) _, blk_far (blk_far h.b1 (show w.heap.size + 1 ≠ w.heap.size + 1 + 1 by omega) _) (show w.heap.size + 1 ≠ w.heap.size + 1 + 1 + 1 by omega) _, blk_far (blk_put h.b2 0 r' rfl) (show w.heap.size + 1 + 1 ≠ w.heap.size + 1 + 1 + 1 by omega) _, blk_put (blk_far h.b3 (show w.heap.size + 1 + 1 + 1 ≠ w.heap.size + 1 + 1 by omega) _) 0 e' rfl⟩
  exact Nat.le_trans h.hz (Nat.le_trans ((Below.refl 0 W).setCell (p := ⟨w.heap.size + 1 + 1, 0, none⟩) (Nat.zero_le _) r').size ((Below.refl 0 (W.setCell ⟨w.heap.size + 1 + 1, 0, none⟩ r')).setCell (p := ⟨w.heap.size + 1 + 1 + 1, 0, none⟩) (Nat.zero_le _) e').size)
end Go.Proofs.YtggnnnddnppcpaaHand
