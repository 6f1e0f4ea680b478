/- One text of the claim of CnfKeepsJoin: its functions as plain Lean functions, each with the proof that the code comes to these answers. Laid by standin.py out of the print of the seat; what the print does not take is proved by hand. -/
import Derived.Test.YtggnnnddnppcpaaClCnfKeepsUnderb
import Derived.Test.YtggnnnddnppcpaaClCnfKeepsUnderc
import Derived.Test.YtggnnnddnppcpaaClCnfKeepsUnderd
import Derived.Test.YtggnnnddnppcpaaClCnfKeepsUndere
import Derived.Test.YtggnnnddnppcpaaClCnfKeepsUnderf
import Derived.Test.YtggnnnddnppcpaaClCnfKeepsUnderg
import Derived.Test.YtggnnnddnppcpaaRows
import Derived.Test.YtggnnnddnppcpaaClCnfKeepsUnderp0
import Derived.Deep.Slices
import Derived.SizedLaws
import Derived.ChangeSame
import Derived.ProofKit
import Derived.OpenShut
/-! text YtggnnnddnppcpaaGCnfKeepsJoinx6 -/
namespace Go.Proofs.Ytggnnnddnppcpaa.PCnfKeepsJoin
open Go.RowKit Go.Proofs.YtggnnnddnppcpaaW.PrintWords Go.Proofs.YtggnnnddnppcpaaW.PrintLast Go.Proofs.YtggnnnddnppcpaaW.PrintMore
attribute [local go_sem] max2_int min2_int max_two min_two max_three min_three max_four min_four   -- for this text's walks alone
set_option linter.unusedVariables false
set_option linter.unusedSimpArgs false

/-! ### depotkit_Over: function 55 -/
def depotkit_Over.l0 : Nat → List Int → Int → Option (List Int)
  | 0, _, _ => none
  | k + 1, x0, x2 => if x2 < (x0.length : Int) then (if 0 ≤ x2 then (depotkit_Over.l0 k (x0.set (x2 : Int).toNat (wrap64 (1 - (Int.tmod x2 3)))) (wrap64 (x2 + 1))) else (none)) else (some x0)
def depotkit_Over.f (k : Nat) (l0 : List Int) : Option (List Int) := depotkit_Over.l0 k l0 0
set_option maxHeartbeats 8000000 in
set_option maxRecDepth 100000 in
theorem depotkit_Over.calls (k : Nat) (P0_ : Nat → Prop) (u9000_ : Value) (l0 : List Int) (r : List Int) (w0 w : World) (hB : Below w0.heap.size w0 w) (ho0 : Kd.R (Kd.int .i64) 3 w w0.heap.size P0_ u9000_ l0) (h : depotkit_Over.f k l0 = some r) :
    Calls Try.prog 55 #[u9000_] w fun e w' => e = .returned (.tuple #[]) ∧ Kd.R (Kd.int .i64) 3 w' w0.heap.size (fun k_ => (P0_ k_ ∨ w.heap.size ≤ k_)) u9000_ r ∧ Below w0.heap.size w0 w' ∧ Kept w w' (fun k_ => P0_ k_) := by
  have HO0 := Aside0.mk (show Kd.R (Kd.int .i64) 3 w w0.heap.size (fun k_ => (P0_ k_ ∨ w.heap.size ≤ k_)) u9000_ l0 from Kd.R_mono ho0 (fun k_ hk => (.inl hk)))
  have HK := Aside0.mk (Kept.refl w (fun k_ => P0_ k_))
  have HW0 := Aside0.mk hB.size
  have HB := Aside0.mk hB
  clear hB
  have H : (depotkit_Over.l0 k l0 0) = some r := h
  clear h
  have H' := Aside0.mk H
  clear H
  go_enter Try.func55, Try.ntmps55
  go_wp2
  go_loopg [2] k (fun kq v2 w' => ∃ (x0_1 : List Int) (x2_1 : Int), v2 = .int .i64 x2_1 ∧ Aside0 (depotkit_Over.l0 kq x0_1 x2_1 = some r) ∧ Aside0 (kq ≤ k) ∧ Aside0 (Kd.R (Kd.int .i64) 3 w' w0.heap.size (fun k_ => (P0_ k_ ∨ w.heap.size ≤ k_)) u9000_ x0_1) ∧ Aside0 (Kept w w' (fun k_ => P0_ k_)) ∧ Aside0 (Below w0.heap.size w0 w'))
  case atStart => exact ⟨(l0), (0), (by first | rfl | (simp; done) | (simp [*]; done)), H', ⟨Nat.le_refl _⟩, ⟨by (with_reducible repeat (first | apply Kd.R_alloc | apply Kd.R_drewN | apply Kd.R_drew)); exact HO0.out⟩, ⟨by repeat (first | (with_reducible first | exact HK.out | apply Kept.alloc | apply Kept.drewN | apply Kept.drew) | exact HK.out)⟩, ⟨by repeat (first | (with_reducible first | exact HB.out | apply below_alloc | apply pw_below_drewN | apply below_drew1) | exact HB.out)⟩⟩
  case round =>
    clear H'
    obtain ⟨x0_1, x2_1, rfl, HA, HK1, HO_0, HK, HB⟩ := hrel
    cases gk with
    | zero => exact absurd HA.out (by simp [depotkit_Over.l0])
    | succ k1 =>
      have H := HA.out
      clear HA
      simp only [depotkit_Over.l0] at H
      by_cases c2 : x2_1 < (x0_1.length : Int)
      · rw [if_pos c2] at H
        have c2b0 : decide (x2_1 < (x0_1.length : Int)) = true := decide_eq_true c2
        clear c2
        by_cases c3 : 0 ≤ x2_1
        · rw [if_pos c3] at H
          have c3b0 : decide (0 ≤ x2_1) = true := decide_eq_true c3
          clear c3
          obtain ⟨y242, hy242⟩ : ∃ y_ : List Int, y_ = (x0_1.set (x2_1 : Int).toNat (wrap64 (1 - (Int.tmod x2_1 3)))) := ⟨_, rfl⟩
          replace H : (depotkit_Over.l0 k1 y242 (wrap64 (x2_1 + 1))) = some r := by first | (rw [hy242]; with_reducible exact H) | (have H2_ := (Option.bind_some _ _).symm.trans H; rw [hy242]; with_reducible exact H2_) | (have H2_ := (Option.bind_some _ _).symm.trans H; with_reducible exact H2_) | with_reducible exact H | (rw [hy242]; exact H) | exact H
          have Ny242 := Aside0.mk hy242
          clear hy242
          have H' := Aside0.mk H
          clear H
          obtain ⟨Ao5, co5, eo5⟩ := Kd.R_slice HO_0.out
          subst eo5
          have p4 : 0 ≤ (x2_1 : Int) := of_decide_eq_true (by first | (with_reducible assumption) | assumption)
          have q4 : (x2_1 : Int) < ((x0_1.length : Int) : Int) := of_decide_eq_true (by first | (with_reducible assumption) | assumption)
          obtain ⟨go4, co4, eo4, gb4, gl4, cl4, HG4⟩ := Kd.R_form HO_0.out (by omega)
          (first | cases eo4 | (injection eo4 with ea_ en_ ec_; (first | subst ea_ | (injection ea_ with ea_; subst ea_)); subst ec_; clear en_))
          have GB4 := Aside0.mk gb4
          have GG4 := Aside0.mk HG4
          clear gb4 gl4 HG4
          have HMgo4 := Aside0.mk (show (P0_ go4 ∨ w.heap.size ≤ go4) from (HO_0.out.1 _ rfl))
          obtain ⟨hx4_0, hf4_0⟩ := Kd.R_celln 0 HO_0.out (x2_1 : Int) p4 q4
          replace p4 := eq_true p4
          replace q4 := eq_true q4
          have HP6 := Kd.R_putg HO_0.out (x2_1 : Int) (wrap64 (1 - (Int.tmod x2_1 3)))
          go_wp2_with (first | ((with_reducible refine gate_store (t := 3) (p := 14) rfl ?_); refine store_event (t := 3) (p := 14) (v := ?vo_w7) (w1 := (wr.setCell ⟨go4, (x2_1 : Int).toNat, none⟩ (.int .i64 (wrap64 (1 - (Int.tmod x2_1 3)))))) ?hg ?ho ?hn ?hr ?_; (case ho => rfl); (case hg => rfl); (case hn => rfl); (case hr => first | (go_simp; done) | (go_simp; rfl)); intro w7 hw; have hg : wr.grownBy w7 (some go4) := (by rw [hw]; exact HP6.2); have hp_ : Kd.R (Kd.int .i64) 3 w7 w0.heap.size (fun k_ => (P0_ k_ ∨ w.heap.size ≤ k_)) (.slice (some ⟨go4, 0, none⟩) x0_1.length co5) y242 := (by rw [hw, Ny242.out]; exact HP6.1); clear HP6; have n0_ := Aside0.mk (hp_); have n1_ := Aside0.mk ((by rw [hw]; exact below_set (HB.out) GB4.out : Below w0.heap.size w0 w7)); have n2_ := Aside0.mk (Kept.of_grown (S := (fun k_ => P0_ k_)) hg (by repeat (first | (with_reducible first | exact HK.out | apply Kept.alloc | apply Kept.drewN | apply Kept.drew) | exact HK.out)) (fun k_ e_ => (HO_0.out.1 k_ e_))); clear HO_0; clear HB; clear HK; have HO_0 := n0_; have HB := n1_; have HK := n2_; clear n0_ n1_ n2_; clear hg hw hp_))
          go_roundg k1
          case measure => have := HK1.out; omega
          case rel => exact ⟨(y242), (wrap64 (x2_1 + 1)), (by first | rfl | (simp; done) | (simp [*]; done)), H', ⟨by have := HK1.out; omega⟩, ⟨by (with_reducible repeat (first | apply Kd.R_alloc | apply Kd.R_drewN | apply Kd.R_drew)); exact HO_0.out⟩, ⟨by repeat (first | (with_reducible first | exact HK.out | apply Kept.alloc | apply Kept.drewN | apply Kept.drew) | exact HK.out)⟩, ⟨by repeat (first | (with_reducible first | exact HB.out | apply below_alloc | apply pw_below_drewN | apply below_drew1) | exact HB.out)⟩⟩
        · rw [if_neg c3] at H
          exact absurd H (by simp)
      · rw [if_neg c2] at H
        have c2b0 : decide (x2_1 < (x0_1.length : Int)) = false := decide_eq_false c2
        clear c2
        obtain rfl := Option.some.inj H
        obtain ⟨Ao8, co8, eo8⟩ := Kd.R_slice HO_0.out
        subst eo8
        go_wp2
        first | go_end0 | ((try simp only [Exit.inBlock, Exit.then]); refine bodyPost_ret (results_none rfl _ _ _) rfl ?_)
        exact ⟨by first | rfl | (simp [errW_none, errW_some] <;> rfl) | (simp [*, errW_none, errW_some] <;> rfl), by (with_reducible repeat (first | apply Kd.R_alloc | apply Kd.R_drewN | apply Kd.R_drew)); exact HO_0.out, by repeat (first | (with_reducible first | exact HB.out | apply below_alloc | apply pw_below_drewN | apply below_drew1) | exact HB.out), by repeat (first | (with_reducible first | exact HK.out | apply Kept.alloc | apply Kept.drewN | apply Kept.drew) | exact HK.out)⟩

-- NOT PRINTED: function 28 (depotkit_OverRows)

-- NOT PRINTED: function 51 (depotkit_ApartInts)

-- NOT PRINTED: function 84 (depotkit_ApartRows)

-- NOT PRINTED: function 63 (depotkit_ApartClauses)

-- NOT PRINTED: function 29 (depotkit_ApartFormulas)

-- NOT PRINTED: function 5 (depotlaw02_CnfKeepsJoin)

end Go.Proofs.Ytggnnnddnppcpaa.PCnfKeepsJoin
/-! text YtggnnnddnppcpaaKjMod -/

/-! text YtggnnnddnppcpaaOpens -/
namespace Go.Proofs.YtggnnnddnppcpaaOpens
open Go.RowKit Go.ChangeShapes Go.WideShapes Go.Proofs.YtggnnnddnppcpaaW.PrintWords Go.Proofs.Ytggnnnddnppcpaa
set_option linter.unusedVariables false

structure Opens {α : Type} (P : Program) (T : TypeId) (d : Kd α) (OK : α → Prop) (m : α → Nat) : Prop where
  size : P.cellsOf T = d.sz
  opens : ∀ {H : Type} {enc : TypeId × Value → H} {W : World} {fuel : Nat} {cs : List Value} {x : DataW H} {ps : List MemPlace},
    DataW.trod enc P W 0 (fun _ => true) true fuel T cs = some (x, ps) → (∀ n ∈ DataW.weights P T x, n ≤ reachBytes) → ∃ a, d.K W a cs ∧ OK a ∧ m a ≤ Rows.uptoBulk x

theorem opens_int {P : Program} {T : TypeId} {k : IntKind} (hu : P.underlying T = some (.int k)) (hs : P.cellsOf T = 1) : Opens P T (Kd.int k) (fun x => (Lit.int k x).wf = true) (fun _ => 1) where
  size := hs
  opens := by
    intro H enc W fuel cs x ps h _
    obtain ⟨n, rfl, hx, hw⟩ := DataW.trod_int hu h
    injection hx with hx _
    subst hx
    exact ⟨n, rfl, hw, by simp [Rows.uptoBulk]⟩

def sumOf {α : Type} (m : α → Nat) : List α → Nat
  | [] => 0
  | x :: r => m x + sumOf m r

theorem opens_rows {α H : Type} {P : Program} {e : TypeId} {d : Kd α} {OK : α → Prop} {m : α → Nat} (he : Opens P e d OK m) {enc : TypeId × Value → H} {W : World} {n : Nat} {a : Addr} :
    ∀ (l : List (DataW H)) (o : Nat), (∀ i x, l[i]? = some x → ∃ cs' ps, W.cells? 0 (a.add ((o + i) * P.cellsOf e)) (P.cellsOf e) = some cs' ∧ DataW.trod enc P W 0 (fun _ => true) true n e cs' = some (x, ps)) →
    (∀ q ∈ DataW.weightsAll P e l, q ≤ reachBytes) →
    ∃ xs : List α, xs.length = l.length ∧ (∀ x ∈ xs, OK x) ∧ sumOf m xs ≤ Rows.uptoBulkAll l ∧
      ∀ j p, xs[j]? = some p → ∃ c, c.length = d.sz ∧ d.K W p c ∧ W.cells? 0 (a.add ((o + j) * P.cellsOf e)) (P.cellsOf e) = some c
  | [], o, _, _ => ⟨[], rfl, by simp, by simp [sumOf], by simp⟩
  | x :: l, o, hx, hw => by
    obtain ⟨cs', ps, h1, h2⟩ := hx 0 x rfl
    obtain ⟨p, hK, hok, hm⟩ := he.opens h2 (fun q hq => hw q (by simp only [DataW.weightsAll, List.mem_append]; exact .inl hq))
    obtain ⟨xs, e1, e2, e3, e4⟩ := opens_rows he l (o + 1) (fun i y hy => by
      have := hx (i + 1) y (by simpa using hy)
      rwa [show o + (i + 1) = o + 1 + i by omega] at this) (fun q hq => hw q (by simp only [DataW.weightsAll, List.mem_append]; exact .inr hq))
    refine ⟨p :: xs, by simp [e1], ?_, ?_, ?_⟩
    · intro y hy
      rcases List.mem_cons.1 hy with rfl | hy
      · exact hok
      · exact e2 y hy
    · simp only [sumOf, Rows.uptoBulkAll]
      omega
    · intro j q hj
      cases j with
      | zero =>
        simp at hj
        subst hj
        exact ⟨cs', d.K_len hK, hK, h1⟩
      | succ j =>
        obtain ⟨c, c1, c2, c3⟩ := e4 j q (by simpa using hj)
        exact ⟨c, c1, c2, by rwa [show o + (j + 1) = o + 1 + j by omega]⟩

theorem opens_slice {α : Type} {P : Program} {T e : TypeId} {d : Kd α} {OK : α → Prop} {m : α → Nat} {B : Nat} (he : Opens P e d OK m) (hu : P.underlying T = some (.slice e)) (hs : P.cellsOf T = 1) (hB : P.bytesOf e = B) :
    Opens P T (Kd.slice e d) (fun xs => xs.length * B ≤ 140737488351232 ∧ ∀ x ∈ xs, OK x) (fun xs => sumOf m xs + 1) where
  size := hs
  opens := by
    intro H enc W fuel cs x ps h hw
    rcases DataW.trod_slice hu h with ⟨rfl, hx⟩ | ⟨a, len, cap, elems, rest, n, _, rfl, hx, hb, hl, hm, hlen, hel, hsp, _⟩
    · injection hx with hx _
      subst hx
      refine ⟨[], ⟨none, 0, rfl, Nat.le_refl _, rfl, by simp, fun hp => absurd hp (by simp)⟩, ⟨by simp, by simp⟩, ?_⟩
      simp [sumOf, Rows.uptoBulk]
    · injection hx with hx _
      subst hx
      have hw1 : (elems.length + rest.length) * B ≤ reachBytes := by
        have := hw ((elems.length + rest.length) * B) (by simp [DataW.weights, hu, hB])
        exact this
      obtain ⟨xs, e1, e2, e3, e4⟩ := opens_rows he (enc := enc) (W := W) (n := n) (a := a) (elems.map (·.1)) 0 (by
        intro i y hy
        rw [List.getElem?_map] at hy
        obtain ⟨z, hz, rfl⟩ := Option.map_eq_some_iff.1 hy
        have hi : i < len := by
          rcases Nat.lt_or_ge i elems.length with h | h
          · omega
          · rw [List.getElem?_eq_none h] at hz; cases hz
        have hq := hel i hi
        rw [hz] at hq
        obtain ⟨cs', h1, h2⟩ := Option.bind_eq_some_iff.1 hq
        exact ⟨cs', z.2, by rwa [Nat.zero_add], h2⟩) (fun q hq => hw q (by
          simp only [DataW.weights, hu, List.mem_cons, List.mem_append]
          exact .inr (.inl hq)))
      have e1' : xs.length = len := by rw [e1, List.length_map, hlen]
      have hmx : len ≤ 9223372036854775807 := by simp only [maxLen] at hm; omega
      refine ⟨xs, ⟨some a, cap, by rw [e1'], by omega, ⟨rfl, by omega, fun _ => ⟨a, rfl, ?_⟩⟩⟩, ⟨?_, e2⟩, ?_⟩
      · intro j p hj
        obtain ⟨c, c1, c2, c3⟩ := e4 j p hj
        rw [Nat.zero_add] at c3
        refine ⟨c, c1, c2, fun i u hu' => ?_⟩
        obtain ⟨_, hlen2, hcell⟩ := World.cells?_some c3
        have hi : i < c.length := by
          rcases Nat.lt_or_ge i c.length with h | h
          · exact h
          · rw [List.getElem?_eq_none h] at hu'; cases hu'
        have hq := hcell i (by omega)
        rw [hu'] at hq
        rw [← hq, he.size]
        congr 1
        unfold Addr.add
        by_cases g1 : j * d.sz = 0 <;> by_cases g2 : i = 0 <;> simp [g1, g2, Nat.add_assoc]
      · have : reachBytes = 140737488351232 := rfl
        have h3 : xs.length * B ≤ (elems.length + rest.length) * B := Nat.mul_le_mul_right _ (by omega)
        omega
      · simp only [Rows.uptoBulk]
        omega

/-- Some fields of a struct, from an offset on. -/
structure OpensF {α : Type} (P : Program) (fs : List Field) (off : Nat) (d : Kd α) (OK : α → Prop) (m : α → Nat) : Prop where
  opens : ∀ {H : Type} {enc : TypeId × Value → H} {W : World} {n : Nat} {cs : List Value} {xs : List (DataW H × List MemPlace)}, xs.length = fs.length →
    (∀ (i : Nat) (f : Field), fs[i]? = some f → DataW.trod enc P W 0 (fun _ => true) true n f.type ((cs.drop f.offset).take (P.cellsOf f.type)) = xs[i]?) →
    (∀ q ∈ DataW.weightsEach P (fs.map (·.type)) (xs.map (·.1)), q ≤ reachBytes) → ∃ a, d.K W a ((cs.drop off).take d.sz) ∧ OK a ∧ m a ≤ Rows.uptoBulkAll (xs.map (·.1))

theorem opensF_last {α : Type} {P : Program} {f : Field} {off : Nat} {d : Kd α} {OK : α → Prop} {m : α → Nat} (he : Opens P f.type d OK m) (ho : f.offset = off) : OpensF P [f] off d OK m where
  opens := by
    intro H enc W n cs xs hl h hw
    match xs, hl with
    | [x], _ =>
      have h0 := h 0 f rfl
      rw [he.size, ho] at h0
      obtain ⟨a, h1, h2, h3⟩ := he.opens (x := x.1) (ps := x.2) h0 (fun q hq => hw q (by simpa [DataW.weightsEach] using hq))
      exact ⟨a, h1, h2, by simpa [Rows.uptoBulkAll] using h3⟩

theorem opensF_cons {α β : Type} {P : Program} {f : Field} {fs : List Field} {off : Nat} {d : Kd α} {d1 : Kd β} {OK : α → Prop} {OK1 : β → Prop} {m : α → Nat} {m1 : β → Nat}
    (he : Opens P f.type d OK m) (ho : f.offset = off) (hr : OpensF P fs (off + d.sz) d1 OK1 m1) : OpensF P (f :: fs) off (Kd.pair d d1) (fun p => OK p.1 ∧ OK1 p.2) (fun p => m p.1 + m1 p.2) where
  opens := by
    intro H enc W n cs xs hl h hw
    match xs, hl with
    | x :: xs, hl =>
      have h0 := h 0 f rfl
      rw [he.size, ho] at h0
      obtain ⟨a, h1, h2, h3⟩ := he.opens (x := x.1) (ps := x.2) h0 (fun q hq => hw q (by
        simp only [List.map_cons, DataW.weightsEach, List.mem_append]; exact .inl hq))
      obtain ⟨b, g1, g2, g3⟩ := hr.opens (xs := xs) (by simpa using hl) (fun i f' hf => by simpa using h (i + 1) f' (by simpa using hf)) (fun q hq => hw q (by
        simp only [List.map_cons, DataW.weightsEach, List.mem_append]; exact .inr hq))
      refine ⟨(a, b), ⟨_, _, ?_, h1, g1⟩, ⟨h2, g2⟩, by simp only [List.map_cons, Rows.uptoBulkAll]; omega⟩
      show (cs.drop off).take (d.sz + d1.sz) = _
      rw [List.take_add, List.drop_drop]

theorem opens_struct {α : Type} {P : Program} {T : TypeId} {fs : Array Field} {d : Kd α} {OK : α → Prop} {m : α → Nat} (hf : OpensF P fs.toList 0 d OK m) (hu : P.underlying T = some (.struct fs)) (hs : P.cellsOf T = d.sz) :
    Opens P T d OK (fun a => m a + 1) where
  size := hs
  opens := by
    intro H enc W fuel cs x ps h hw
    obtain ⟨xs, n, _, hx, hl, hlen, hq⟩ := DataW.trod_struct hu h
    injection hx with hx _
    subst hx
    obtain ⟨a, h1, h2, h3⟩ := hf.opens (xs := xs) (cs := cs) (by simpa using hlen) (fun i f hi => hq i f (by simpa using hi)) (fun q hq => hw q (by
      simp only [DataW.weights, hu]; exact hq))
    refine ⟨a, ?_, h2, by simp only [Rows.uptoBulk]; omega⟩
    rwa [List.drop_zero, List.take_of_length_le (by omega)] at h1

/-- A slice, as an argument's value. -/
theorem slice_arg {α H : Type} {P : Program} {T e : TypeId} {d : Kd α} {OK : List α → Prop} {m : List α → Nat} (he : Opens P T (Kd.slice e d) OK m) {enc : TypeId × Value → H} {W : World} {a : Option Addr} {len cap : Nat} {x : DataW H} {ps : List MemPlace}
    (h : DataW.Trod enc P W 0 (fun _ => true) true T (.slice a len cap) x ps) (hw : ∀ n ∈ DataW.weights P T x, n ≤ reachBytes) :
    ∃ xs, len = xs.length ∧ d.C W a xs.length xs ∧ xs.length ≤ cap ∧ OK xs ∧ m xs ≤ Rows.uptoBulk x := by
  obtain ⟨fuel, hf⟩ := h
  obtain ⟨xs, ⟨A, c, hcs, hc, hC⟩, h2, h3⟩ := he.opens hf hw
  simp [Value.cells] at hcs
  obtain ⟨rfl, rfl, rfl⟩ := hcs
  exact ⟨xs, rfl, hC, hc, h2, h3⟩

/-- A struct, as an argument's value. -/
theorem struct_arg {α H : Type} {P : Program} {T : TypeId} {d : Kd α} {OK : α → Prop} {m : α → Nat} (he : Opens P T d OK m) {enc : TypeId × Value → H} {W : World} {cs : Array Value} {x : DataW H} {ps : List MemPlace}
    (h : DataW.Trod enc P W 0 (fun _ => true) true T (.agg cs) x ps) (hw : ∀ n ∈ DataW.weights P T x, n ≤ reachBytes) :
    ∃ a, d.K W a cs.toList ∧ OK a ∧ m a ≤ Rows.uptoBulk x := by
  obtain ⟨fuel, hf⟩ := h
  exact he.opens (by simpa [Value.cells] using hf) hw

/-- What the row's reach says of one argument. -/
theorem reach_of {H : Type} {P : Program} {ts : List TypeId} {ds : List (DataW H)} (hsz : (DataW.weightsEach P ts ds).all (· ≤ reachBytes) = true) {j : Nat} {t : TypeId} {d : DataW H} (ht : ts[j]? = some t) (hd : ds[j]? = some d) : ∀ n ∈ DataW.weights P t d, n ≤ reachBytes := by
  intro n hn
  simpa using List.all_eq_true.1 hsz n (DataW.weights_mem_each ht hd n hn)

/-- What the second form's bound says of one argument. -/
theorem bulk_of {H : Type} {ds : List (DataW H)} (hk : Rows.uptoSmall H ds = true) : Rows.uptoBulkAll ds ≤ 1048576 := of_decide_eq_true hk

end Go.Proofs.YtggnnnddnppcpaaOpens
/-! text YtggnnnddnppcpaaKjLib -/
namespace Go.Proofs.Ytggnnnddnppcpaa.PCnfKeepsJoin
open Go.RowKit Go.Proofs.YtggnnnddnppcpaaW.PrintWords Go.Proofs.YtggnnnddnppcpaaW.PrintLast Go.Proofs.YtggnnnddnppcpaaMath
set_option linter.unusedVariables false
set_option linter.unusedSimpArgs false
theorem depotref01_Formed_eq (l : Int) : depotref01_Formed.f l = some (formed l) := by
  unfold depotref01_Formed.f formed
  by_cases h1 : l ≥ 1
  · by_cases h2 : l ≤ 1048576
    · rw [if_pos h1, if_pos h2]; congr 1; symm; simp; omega
    · rw [if_pos h1, if_neg h2, if_pos (by omega)]; congr 1; rw [Bool.eq_iff_iff]; simp; omega
  · by_cases h2 : l ≥ -1048576
    · rw [if_neg h1, if_pos h2]; congr 1; rw [Bool.eq_iff_iff]; simp; omega
    · rw [if_neg h1, if_neg h2]; congr 1; symm; simp; omega
theorem depotref01_Sound_l0 (l : List Int) (hn : l.length ≤ 17592186044416) (d : Nat) : ∀ i : Nat, i + d = l.length → Ev (fun k => depotref01_Sound.l0 k l (i : Int)) (sound (l.drop i)) := by
  induction d with
  | zero =>
    intro i hi
    refine Ev.succ ?_
    simp only [depotref01_Sound.l0]
    have h1 : ¬ ((i : Int) < (l.length : Int)) := by omega
    simp only [h1, if_false]
    rw [List.drop_of_length_le (by omega)]
    exact Ev.now _
  | succ d ih =>
    intro i hi
    refine Ev.succ ?_
    simp only [depotref01_Sound.l0, depotref01_Formed_eq, Option.bind_some]
    have h1 : (i : Int) < (l.length : Int) := by omega
    have h0 : (0 : Int) ≤ (i : Int) := by omega
    simp only [h1, h0, if_true]
    rw [drop_rd (show i < l.length by omega)]
    by_cases hf : formed (rd l i) = true
    · simp only [hf, if_true, w64s (show (i : Int) < 9223372036854775807 by omega), sound, List.all_cons, Bool.true_and]
      exact ih (i + 1) (by omega)
    · simp only [Bool.not_eq_true] at hf
      simp only [hf, Bool.false_eq_true, if_false, sound, List.all_cons, Bool.false_and]
      exact Ev.now _
theorem depotref01_Sound_ev (l : List Int) (hn : l.length ≤ 17592186044416) : Ev (fun k => depotref01_Sound.f k l) (sound l) := depotref01_Sound_l0 l hn l.length 0 (by omega)
theorem depotref02_within_l0 (l : List Int) (v : Int) (hn : l.length ≤ 17592186044416) (hs : sound l = true) (d : Nat) : ∀ i : Nat, i + d = l.length → Ev (fun k => depotref02_within.l0 k l v (i : Int)) ((l.drop i).all fun l => decide (l ≤ v ∧ -l ≤ v)) := by
  induction d with
  | zero =>
    intro i hi
    refine Ev.succ ?_
    simp only [depotref02_within.l0]
    have h1 : ¬ ((i : Int) < (l.length : Int)) := by omega
    simp only [h1, if_false]
    rw [List.drop_of_length_le (by omega)]
    exact Ev.now _
  | succ d ih =>
    intro i hi
    refine Ev.succ ?_
    simp only [depotref02_within.l0]
    have h1 : (i : Int) < (l.length : Int) := by omega
    have h0 : (0 : Int) ≤ (i : Int) := by omega
    simp only [h1, h0, if_true]
    rw [drop_rd (show i < l.length by omega)]
    have hf : formed (rd l i) = true := sound_mem hs (rd_mem (by omega))
    have hb := formed_bd hf
    rw [w64 (x := -(rd l i)) (by omega) (by omega)]
    by_cases hc : rd l i ≤ v ∧ - rd l i ≤ v
    · have h2 : ¬ rd l i > v := by omega
      have h3 : ¬ -(rd l i) > v := by omega
      simp only [h2, h3, if_false, w64s (show (i : Int) < 9223372036854775807 by omega), List.all_cons, decide_eq_true hc, Bool.true_and]
      exact ih (i + 1) (by omega)
    · simp only [List.all_cons, decide_eq_false hc, Bool.false_and]
      by_cases h2 : rd l i > v
      · simp only [h2, if_true]
        exact Ev.now _
      · have h3 : -(rd l i) > v := by omega
        simp only [h2, h3, if_true, if_false]
        exact Ev.now _
theorem depotref02_within_ev (l : List Int) (v : Int) (hn : l.length ≤ 17592186044416) : Ev (fun k => depotref02_within.f k l v) (within l v) := by
  unfold depotref02_within.f within
  refine Ev.bind (depotref01_Sound_ev l hn) ?_
  by_cases hs : sound l = true
  · simp only [hs, if_true, Bool.true_and]
    exact depotref02_within_l0 l v hn hs l.length 0 (by omega)
  · simp only [Bool.not_eq_true] at hs
    simp only [hs, Bool.false_eq_true, if_false, Bool.false_and]
    exact Ev.now _
theorem depotref02_Formed_l0 (v : Int) (cs : List (List Int)) (hn : cs.length ≤ 17592186044416) (hc : ∀ c ∈ cs, c.length ≤ 17592186044416) (d : Nat) : ∀ i : Nat, i + d = cs.length → Ev (fun k => depotref02_Formed.l0 k (i : Int) v cs) ((cs.drop i).all fun c => within c v) := by
  induction d with
  | zero =>
    intro i hi
    refine Ev.succ ?_
    simp only [depotref02_Formed.l0]
    have h1 : ¬ ((i : Int) < (cs.length : Int)) := by omega
    simp only [h1, if_false]
    rw [List.drop_of_length_le (by omega)]
    exact Ev.now _
  | succ d ih =>
    intro i hi
    refine Ev.succ ?_
    simp only [depotref02_Formed.l0, rd_L1]
    have h1 : (i : Int) < (cs.length : Int) := by omega
    have h0 : (0 : Int) ≤ (i : Int) := by omega
    simp only [h1, h0, if_true]
    rw [drop_getD (z := ([] : List Int)) (show i < cs.length by omega), List.all_cons]
    have hm : (cs.getD ((i : Int).toNat) ([] : List Int)).length ≤ 17592186044416 := by
      rw [getD_nat (show i < cs.length by omega)]
      exact hc _ (List.getElem_mem _)
    refine Ev.bind (depotref02_within_ev _ v hm) ?_
    by_cases hf : within (cs.getD ((i : Int).toNat) ([] : List Int)) v = true
    · simp only [hf, if_true, w64s (show (i : Int) < 9223372036854775807 by omega), Bool.true_and]
      exact ih (i + 1) (by omega)
    · simp only [Bool.not_eq_true] at hf
      simp only [hf, Bool.false_eq_true, if_false, Bool.false_and]
      exact Ev.now _
theorem depotref02_Formed_ev (v : Int) (cs : List (List Int)) (hn : cs.length ≤ 17592186044416) (hc : ∀ c ∈ cs, c.length ≤ 17592186044416) : Ev (fun k => depotref02_Formed.f k v cs) (isFormula v cs) := by
  have hj : ∀ b, Ev (fun k => depotref02_Formed.j0 k b v cs) (!b && cs.all fun c => within c v) := by
    intro b
    refine Ev.succ ?_
    simp only [depotref02_Formed.j0]
    cases b with
    | true => exact Ev.now _
    | false => exact depotref02_Formed_l0 v cs hn hc cs.length 0 (by omega)
  unfold depotref02_Formed.f isFormula
  by_cases h0 : v < 0
  · simp only [h0, if_true]
    have := hj true
    rw [decide_eq_false (by omega)]
    simpa using this
  · simp only [h0, if_false]
    have := hj (decide (v > 1048576))
    rw [show (!decide (v > 1048576)) = decide (0 ≤ v ∧ v ≤ 1048576) by rw [Bool.eq_iff_iff]; simp; omega] at this
    exact this
theorem depotref00_SameInts_l0 (a b : List Int) (hn : a.length ≤ 17592186044416) (hl : a.length = b.length) (d : Nat) : ∀ i : Nat, i + d = a.length → Ev (fun k => depotref00_SameInts.l0 k a b (i : Int)) (a.drop i == b.drop i) := by
  induction d with
  | zero =>
    intro i hi
    refine Ev.succ ?_
    simp only [depotref00_SameInts.l0]
    have h1 : ¬ ((i : Int) < (a.length : Int)) := by omega
    simp only [h1, if_false]
    rw [List.drop_of_length_le (by omega), List.drop_of_length_le (by omega)]
    exact Ev.now _
  | succ d ih =>
    intro i hi
    refine Ev.succ ?_
    simp only [depotref00_SameInts.l0]
    have h1 : (i : Int) < (a.length : Int) := by omega
    have h2 : (i : Int) < (b.length : Int) := by omega
    have h0 : (0 : Int) ≤ (i : Int) := by omega
    simp only [h1, h2, h0, if_true]
    rw [drop_rd (show i < a.length by omega), drop_rd (show i < b.length by omega), List.cons_beq_cons]
    by_cases hx : rd a i = rd b i
    · simp only [hx, if_true, beq_self_eq_true, Bool.true_and, w64s (show (i : Int) < 9223372036854775807 by omega)]
      exact ih (i + 1) (by omega)
    · have hx2 : (rd a i == rd b i) = false := by simpa using hx
      simp only [hx, if_false, hx2, Bool.false_and]
      exact Ev.now _
theorem depotref00_SameInts_ev (a b : List Int) (hn : a.length ≤ 17592186044416) : Ev (fun k => depotref00_SameInts.f k a b) (a == b) := by
  unfold depotref00_SameInts.f
  by_cases hl : (a.length : Int) = (b.length : Int)
  · simp only [hl, if_true]
    exact depotref00_SameInts_l0 a b hn (by omega) a.length 0 (by omega)
  · simp only [hl, if_false]
    have : (a == b) = false := by
      rw [beq_eq_false_iff_ne]
      rintro rfl
      exact hl rfl
    rw [this]
    exact Ev.now _
theorem depotref00_CopyInts_l0 (l : List Int) (hn : l.length < 17592186044416) (d : Nat) : ∀ i : Nat, i + d = l.length → Ev (fun k => depotref00_CopyInts.l0 k l (l.take i) (i : Int)) l := by
  induction d with
  | zero =>
    intro i hi
    refine Ev.succ ?_
    have h1 : ¬ ((i : Int) < (l.length : Int)) := by omega
    simp only [depotref00_CopyInts.l0, h1, if_false]
    rw [List.take_of_length_le (by omega)]
    exact Ev.now _
  | succ d ih =>
    intro i hi
    refine Ev.succ ?_
    have h1 : (i : Int) < (l.length : Int) := by omega
    have h0 : (0 : Int) ≤ (i : Int) := by omega
    have h2 : (l.take i).length < 17592186044416 := by rw [List.length_take]; omega
    simp only [depotref00_CopyInts.l0, h1, h0, h2, if_true, w64s (show (i : Int) < 9223372036854775807 by omega)]
    rw [← take_rd (show i < l.length by omega)]
    exact ih (i + 1) (by omega)
theorem depotref00_CopyInts_ev (l : List Int) (hn : l.length < 17592186044416) : Ev (fun k => depotref00_CopyInts.f k l) l := depotref00_CopyInts_l0 l hn l.length 0 (by omega)
theorem drop_L1 {l : List (List Int)} {i : Nat} (h : i < l.length) : l.drop i = rd_L1 l (i : Int) :: l.drop (i + 1) := drop_getD (z := ([] : List Int)) h
theorem rd_L1_mem {l : List (List Int)} {i : Nat} (h : i < l.length) : rd_L1 l (i : Int) ∈ l := by
  have := getD_nat (z := ([] : List Int)) h
  show l.getD ((i : Int).toNat) ([] : List Int) ∈ l
  rw [this]; exact List.getElem_mem h
theorem take_L1 {l : List (List Int)} {i : Nat} (h : i < l.length) : l.take (i + 1) = l.take i ++ [rd_L1 l (i : Int)] := take_getD (z := ([] : List Int)) h
theorem depotref00_CopyClauses_l0 (l : List (List Int)) (hn : l.length ≤ 5864062014805) (hs : ∀ x ∈ l, x.length < 17592186044416) (d : Nat) : ∀ i : Nat, i + d = l.length → Ev (fun k => depotref00_CopyClauses.l0 k l (l.take i) (i : Int)) l := by
  induction d with
  | zero =>
    intro i hi
    refine Ev.succ ?_
    have h1 : ¬ ((i : Int) < (l.length : Int)) := by omega
    simp only [depotref00_CopyClauses.l0, h1, if_false]
    rw [List.take_of_length_le (by omega)]
    exact Ev.now _
  | succ d ih =>
    intro i hi
    refine Ev.succ ?_
    have h1 : (i : Int) < (l.length : Int) := by omega
    have h0 : (0 : Int) ≤ (i : Int) := by omega
    have h2 : (l.take i).length < 5864062014805 := by rw [List.length_take]; omega
    simp only [depotref00_CopyClauses.l0, h1, h0, if_true]
    refine Ev.bind (depotref00_CopyInts_ev _ (hs _ (rd_L1_mem (show i < l.length by omega)))) ?_
    simp only [h2, if_true, w64s (show (i : Int) < 9223372036854775807 by omega)]
    rw [← take_L1 (show i < l.length by omega)]
    exact ih (i + 1) (by omega)
theorem depotref00_CopyClauses_ev (l : List (List Int)) (hn : l.length ≤ 5864062014805) (hs : ∀ x ∈ l, x.length < 17592186044416) : Ev (fun k => depotref00_CopyClauses.f k l) l := depotref00_CopyClauses_l0 l hn hs l.length 0 (by omega)
theorem depotref00_CopyFormula_ev (v : Int) (l : List (List Int)) (hn : l.length ≤ 5864062014805) (hs : ∀ x ∈ l, x.length < 17592186044416) : Ev (fun k => depotref00_CopyFormula.f k v l) (v, l) := by
  unfold depotref00_CopyFormula.f
  exact Ev.bind (depotref00_CopyClauses_ev l hn hs) (Ev.now _)
theorem depotref00_SameClauses_l0 (a b : List (List Int)) (hn : a.length ≤ 17592186044416) (hs : ∀ x ∈ a, x.length ≤ 17592186044416) (he : a.length = b.length) (d : Nat) : ∀ i : Nat, i + d = a.length → Ev (fun k => depotref00_SameClauses.l0 k a b (i : Int)) (a.drop i == b.drop i) := by
  induction d with
  | zero =>
    intro i hi
    refine Ev.succ ?_
    have h1 : ¬ ((i : Int) < (a.length : Int)) := by omega
    simp only [depotref00_SameClauses.l0, h1, if_false]
    rw [List.drop_of_length_le (by omega), List.drop_of_length_le (by omega)]
    exact Ev.now _
  | succ d ih =>
    intro i hi
    refine Ev.succ ?_
    have h1 : (i : Int) < (a.length : Int) := by omega
    have h2 : (i : Int) < (b.length : Int) := by omega
    have h0 : (0 : Int) ≤ (i : Int) := by omega
    simp only [depotref00_SameClauses.l0, h1, h2, h0, if_true]
    have hl := hs _ (rd_L1_mem (show i < a.length by omega))
    rw [drop_L1 (show i < a.length by omega), drop_L1 (show i < b.length by omega)]
    refine Ev.bind (depotref00_SameInts_ev _ _ hl) ?_
    rw [List.cons_beq_cons]
    by_cases hf : (rd_L1 a i == rd_L1 b i) = true
    · simp only [hf, if_true, w64s (show (i : Int) < 9223372036854775807 by omega), Bool.true_and]
      exact ih (i + 1) (by omega)
    · simp only [Bool.not_eq_true] at hf
      simp only [hf, Bool.false_eq_true, if_false, Bool.false_and]
      exact Ev.now _
theorem depotref00_SameClauses_ev (a b : List (List Int)) (hn : a.length ≤ 17592186044416) (hs : ∀ x ∈ a, x.length ≤ 17592186044416) : Ev (fun k => depotref00_SameClauses.f k a b) (a == b) := by
  unfold depotref00_SameClauses.f
  by_cases he : a.length = b.length
  · have : (a.length : Int) = (b.length : Int) := by omega
    simp only [this, if_true]
    exact depotref00_SameClauses_l0 a b hn hs he a.length 0 (by omega)
  · have : ¬ (a.length : Int) = (b.length : Int) := by omega
    simp only [this, if_false]
    have e : (a == b) = false := by
      simp only [beq_eq_false_iff_ne, ne_eq]
      rintro rfl; exact he rfl
    rw [e]
    exact Ev.now _
theorem depotref00_SameFormula_ev (v w : Int) (a b : List (List Int)) (hn : a.length ≤ 17592186044416) (hs : ∀ x ∈ a, x.length ≤ 17592186044416) : Ev (fun k => depotref00_SameFormula.f k v a w b) (decide (v = w) && a == b) := by
  unfold depotref00_SameFormula.f
  by_cases h : v = w
  · simp only [h, if_true, decide_true, Bool.true_and]
    exact Ev.bind (depotref00_SameClauses_ev a b hn hs) (Ev.now _)
  · simp only [h, if_false, decide_false, Bool.false_and]
    exact Ev.now _
def markOf (a b : Int) : Int := wrap64 (wrap64 (1000003 * wrap64 (a + 7)) + b)
def lentMarks : List Int := (List.range 64).map fun i : Nat => markOf 0 i
def lentOf (l : List Int) : List Int := l ++ lentMarks
theorem lentMarks_length : lentMarks.length = 64 := by simp [lentMarks]
theorem lentMarks_drop {j : Nat} (hj : j < 64) : lentMarks.drop j = markOf 0 j :: lentMarks.drop (j + 1) := by
  rw [List.drop_eq_getElem_cons (by rw [lentMarks_length]; exact hj)]
  simp [lentMarks]
theorem lentOf_length (l : List Int) : (lentOf l).length = l.length + 64 := by rw [lentOf, List.length_append, lentMarks_length]
theorem depotkit_Lent_l1 (d : Nat) : ∀ (j : Nat) (x : List Int), j + d = 64 → x.length + d < 17592186044416 → Ev (fun k => depotkit_Lent.l1 k x (j : Int)) (x ++ lentMarks.drop j) := by
  induction d with
  | zero =>
    intro j x hj hx
    refine Ev.succ ?_
    simp only [depotkit_Lent.l1]
    have h1 : ¬ ((j : Int) < 64) := by omega
    simp only [h1, if_false]
    rw [List.drop_of_length_le (by rw [lentMarks_length]; omega), List.append_nil]
    exact Ev.now _
  | succ d ih =>
    intro j x hj hx
    refine Ev.succ ?_
    simp only [depotkit_Lent.l1, depotkit_mark.f, Option.bind_some]
    have h1 : (j : Int) < 64 := by omega
    have h2 : x.length < 17592186044416 := by omega
    simp only [h1, h2, if_true, w64s (show (j : Int) < 9223372036854775807 by omega)]
    have := ih (j + 1) (x ++ [markOf 0 j]) (by omega) (by simp; omega)
    rw [lentMarks_drop (by omega)]
    rw [List.append_assoc] at this
    exact this
theorem depotkit_Lent_l0 (l : List Int) (hn : l.length + 64 < 17592186044416) (d : Nat) : ∀ (i : Nat) (x : List Int), i + d = l.length → x.length = i → Ev (fun k => depotkit_Lent.l0 k l x (i : Int)) (x ++ l.drop i ++ lentMarks) := by
  induction d with
  | zero =>
    intro i x hi hx
    refine Ev.succ ?_
    simp only [depotkit_Lent.l0]
    have h1 : ¬ ((i : Int) < (l.length : Int)) := by omega
    simp only [h1, if_false]
    rw [List.drop_of_length_le (by omega), List.append_nil]
    have := depotkit_Lent_l1 64 0 x (by omega) (by omega)
    rwa [List.drop_zero] at this
  | succ d ih =>
    intro i x hi hx
    refine Ev.succ ?_
    simp only [depotkit_Lent.l0]
    have h1 : (i : Int) < (l.length : Int) := by omega
    have h0 : (0 : Int) ≤ (i : Int) := by omega
    have h2 : x.length < 17592186044416 := by omega
    simp only [h1, h0, h2, if_true, w64s (show (i : Int) < 9223372036854775807 by omega)]
    rw [drop_rd (show i < l.length by omega)]
    have := ih (i + 1) (x ++ [rd l (i : Int)]) (by omega) (by simp [hx])
    rw [show x ++ [rd l (i : Int)] ++ l.drop (i + 1) ++ lentMarks = x ++ rd l (i : Int) :: l.drop (i + 1) ++ lentMarks by simp] at this
    exact this
theorem depotkit_Lent_ev (l : List Int) (hn : l.length + 64 < 17592186044416) : Ev (fun k => depotkit_Lent.f k l) (lentOf l) := by
  have := depotkit_Lent_l0 l hn l.length 0 [] (by omega) rfl
  simpa [depotkit_Lent.f, lentOf] using this
theorem depotkit_Kept_l1 (l : List Int) (hn : l.length + 64 < 17592186044416) (d : Nat) : ∀ j : Nat, j + d = 64 → Ev (fun k => depotkit_Kept.l1 k (lentOf l) l (j : Int)) true := by
  induction d with
  | zero =>
    intro j hj
    refine Ev.succ ?_
    simp only [depotkit_Kept.l1]
    have h1 : ¬ ((j : Int) < 64) := by omega
    simp only [h1, if_false]
    exact Ev.now _
  | succ d ih =>
    intro j hj
    refine Ev.succ ?_
    simp only [depotkit_Kept.l1, depotkit_mark.f, Option.bind_some]
    have h1 : (j : Int) < 64 := by omega
    have e1 : wrap64 ((l.length : Int) + (j : Int)) = ((l.length + j : Nat) : Int) := by rw [w64 (by omega) (by omega)]; omega
    have h2 : (0 : Int) ≤ ((l.length + j : Nat) : Int) := by omega
    have h3 : ((l.length + j : Nat) : Int) < ((lentOf l).length : Int) := by rw [lentOf_length]; omega
    have e2 : rd (lentOf l) ((l.length + j : Nat) : Int) = markOf 0 j := by
      rw [rd_nat (by rw [lentOf_length]; omega)]
      simp [lentOf, lentMarks]
    have e3 : wrap64 (wrap64 (1000003 * wrap64 (0 + 7)) + (j : Int)) = markOf 0 j := rfl
    simp only [h1, e1, h2, h3, e2, e3, if_true, w64s (show (j : Int) < 9223372036854775807 by omega)]
    exact ih (j + 1) (by omega)
theorem depotkit_Kept_l0 (l : List Int) (hn : l.length + 64 < 17592186044416) (d : Nat) : ∀ i : Nat, i + d = l.length → Ev (fun k => depotkit_Kept.l0 k (lentOf l) l (i : Int)) true := by
  induction d with
  | zero =>
    intro i hi
    refine Ev.succ ?_
    simp only [depotkit_Kept.l0]
    have h1 : ¬ ((i : Int) < (l.length : Int)) := by omega
    simp only [h1, if_false]
    exact depotkit_Kept_l1 l hn 64 0 (by omega)
  | succ d ih =>
    intro i hi
    refine Ev.succ ?_
    simp only [depotkit_Kept.l0]
    have h1 : (i : Int) < (l.length : Int) := by omega
    have h0 : (0 : Int) ≤ (i : Int) := by omega
    have h3 : (i : Int) < ((lentOf l).length : Int) := by rw [lentOf_length]; omega
    have e2 : rd (lentOf l) (i : Int) = rd l (i : Int) := by
      rw [rd_nat (by rw [lentOf_length]; omega), rd_nat (show i < l.length by omega)]
      simp only [lentOf]
      rw [List.getElem_append_left (by omega)]
    simp only [h1, h0, h3, e2, if_true, w64s (show (i : Int) < 9223372036854775807 by omega)]
    exact ih (i + 1) (by omega)
theorem depotkit_Kept_ev (l : List Int) (hn : l.length + 64 < 17592186044416) : Ev (fun k => depotkit_Kept.f k (lentOf l) l) true := by
  have h1 : ((lentOf l).length : Int) = wrap64 ((l.length : Int) + 64) := by rw [w64 (by omega) (by omega), lentOf_length]; omega
  unfold depotkit_Kept.f
  simp only [h1, if_true]
  exact depotkit_Kept_l0 l hn l.length 0 (by omega)
theorem depotkit_Over_l0 (n : Nat) (hn : n < 17592186044416) (d : Nat) : ∀ (i : Nat) (x : List Int), x.length = n → i + d = n → ∃ r : List Int, r.length = n ∧ Ev (fun k => depotkit_Over.l0 k x (i : Int)) r := by
  induction d with
  | zero =>
    intro i x hx hi
    refine ⟨x, hx, Ev.succ ?_⟩
    simp only [depotkit_Over.l0]
    have h1 : ¬ ((i : Int) < (x.length : Int)) := by omega
    simp only [h1, if_false]
    exact Ev.now _
  | succ d ih =>
    intro i x hx hi
    obtain ⟨r, hr, h⟩ := ih (i + 1) (x.set i (wrap64 (1 - Int.tmod (i : Int) 3))) (by simpa using hx) (by omega)
    refine ⟨r, hr, Ev.succ ?_⟩
    simp only [depotkit_Over.l0]
    have h1 : (i : Int) < (x.length : Int) := by omega
    have h0 : (0 : Int) ≤ (i : Int) := by omega
    simp only [h1, h0, if_true, w64s (show (i : Int) < 9223372036854775807 by omega), Int.toNat_natCast]
    exact h
theorem depotkit_Over_ev (l : List Int) (hn : l.length < 17592186044416) : ∃ r : List Int, r.length = l.length ∧ Ev (fun k => depotkit_Over.f k l) r := by
  obtain ⟨r, h1, h2⟩ := depotkit_Over_l0 l.length hn l.length 0 l rfl (by omega)
  exact ⟨r, h1, h2⟩
end Go.Proofs.Ytggnnnddnppcpaa.PCnfKeepsJoin
/-! text YtggnnnddnppcpaaKjRows -/
namespace Go.Proofs.Ytggnnnddnppcpaa.PCnfKeepsJoin
open Go.RowKit Go.Proofs.YtggnnnddnppcpaaW.PrintWords Go.Proofs.YtggnnnddnppcpaaW.PrintLast Go.Proofs.YtggnnnddnppcpaaMath
set_option linter.unusedVariables false
set_option linter.unusedSimpArgs false
def rowMarks : List (List Int) := (List.range 64).map fun i : Nat => [markOf 1 i]
theorem rowMarks_length : rowMarks.length = 64 := by simp [rowMarks]
theorem rd_L1_nat {l : List (List Int)} {i : Nat} (h : i < l.length) : rd_L1 l (i : Int) = l[i] := by
  simp [rd_L1, List.getD_eq_getElem?_getD, h]
theorem rd_one (q : Int) : rd [q] 0 = q := by simp [rd]
theorem mark_row (j : Nat) : depotkit_mark.f 1 (j : Int) = some (markOf 1 j) := by unfold depotkit_mark.f markOf; rfl
theorem rowMarks_get (l : List (List Int)) (j : Nat) (hj : j < 64) (h : l.length + j < (l ++ rowMarks).length) : (l ++ rowMarks)[l.length + j] = [markOf 1 j] := by
  rw [List.getElem_append_right (by omega)]
  simp only [rowMarks, List.getElem_map, List.getElem_range]
  congr 2
  omega
theorem depotkit_KeptRows_l2 (l M : List (List Int)) (R : List (List Int)) (hn : l.length + 64 < 17592186044416) (hM : (l ++ M).length = l.length + 64) (hM2 : ∀ j : Nat, j < 64 → rd_L1 (l ++ M) ((l.length + j : Nat) : Int) = [markOf 1 j]) (d : Nat) : ∀ j : Nat, j + d = 64 → Ev (fun k => depotkit_KeptRows.l2 k l (j : Int) l (l ++ M) R) true := by
  generalize l ++ M = S at hM hM2 ⊢
  induction d with
  | zero =>
    intro j hj
    refine Ev.succ ?_
    simp only [depotkit_KeptRows.l2]
    have h1 : ¬ ((j : Int) < 64) := by omega
    simp only [h1, if_false]
    exact Ev.now _
  | succ d ih =>
    intro j hj
    refine Ev.succ ?_
    have em := mark_row j
    simp only [depotkit_KeptRows.l2]
    have h1 : (j : Int) < 64 := by omega
    have e1 : wrap64 ((l.length : Int) + (j : Int)) = ((l.length + j : Nat) : Int) := by rw [w64 (by omega) (by omega)]; omega
    have h2 : (0 : Int) ≤ ((l.length + j : Nat) : Int) := by omega
    have h3 : ((l.length + j : Nat) : Int) < (S.length : Int) := by omega
    have e2 := hM2 j (by omega)
    have e6 := rd_one (markOf 1 (j : Int))
    have e4 : (([markOf 1 (j : Int)] : List Int).length : Int) = 1 := by simp
    have e5 : (0 : Int) < 1 := by omega
    generalize markOf 1 (j : Int) = q at em e2 e4 e6
    simp only [h1, e1, h2, h3, e2, e4, e5, if_true, w64s (show (j : Int) < 9223372036854775807 by omega)]
    have hev : Ev (fun _ => depotkit_mark.f 1 (j : Int)) q := by rw [em]; exact Ev.now _
    refine Ev.bind hev ?_
    rw [e6]
    have ih2 := ih (j + 1) (by omega)
    generalize depotkit_KeptRows.l2 = f2 at ih2 ⊢
    simp only [if_true]
    exact ih2
theorem depotkit_KeptRows_l1 (l : List (List Int)) (M R : List (List Int)) (x : List Int) (i : Nat) (hi : i < l.length) (hx : x = l[i]) (hn : x.length < 17592186044416) (r : Bool) (hrest : Ev (fun k => depotkit_KeptRows.l0 k l (wrap64 ((i : Int) + 1)) l M R) r) (d : Nat) :
    ∀ j : Nat, j + d = x.length → Ev (fun k => depotkit_KeptRows.l1 k l (i : Int) x (j : Int) l M R) r := by
  have e0 : rd_L1 l (i : Int) = x := by rw [rd_L1_nat hi, hx]
  induction d with
  | zero =>
    intro j hj
    refine Ev.succ ?_
    simp only [depotkit_KeptRows.l1]
    have h1 : ¬ ((j : Int) < (x.length : Int)) := by omega
    simp only [h1, if_false]
    exact hrest
  | succ d ih =>
    intro j hj
    refine Ev.succ ?_
    simp only [depotkit_KeptRows.l1]
    have h1 : (j : Int) < (x.length : Int) := by omega
    have h0 : (0 : Int) ≤ (j : Int) := by omega
    have h2 : (0 : Int) ≤ (i : Int) := by omega
    have h3 : (i : Int) < (l.length : Int) := by omega
    simp only [h1, h0, h2, h3, e0, if_true, w64s (show (j : Int) < 9223372036854775807 by omega)]
    exact ih (j + 1) (by omega)
theorem depotkit_KeptRows_l0 (l : List (List Int)) (hn : l.length + 64 < 17592186044416) (hs : ∀ x ∈ l, x.length + 64 < 17592186044416) (d : Nat) : ∀ i : Nat, i + d = l.length → Ev (fun k => depotkit_KeptRows.l0 k l (i : Int) l (l ++ rowMarks) (l.map lentOf)) true := by
  induction d with
  | zero =>
    intro i hi
    refine Ev.succ ?_
    simp only [depotkit_KeptRows.l0]
    have h1 : ¬ ((i : Int) < (l.length : Int)) := by omega
    simp only [h1, if_false]
    exact depotkit_KeptRows_l2 l rowMarks _ hn (by rw [List.length_append, rowMarks_length]) (fun j hj => by rw [rd_L1_nat (by rw [List.length_append, rowMarks_length]; omega)]; exact rowMarks_get l j hj _) 64 0 (by omega)
  | succ d ih =>
    intro i hi
    refine Ev.succ ?_
    simp only [depotkit_KeptRows.l0]
    have hlt : i < l.length := by omega
    have hl : (l ++ rowMarks).length = l.length + 64 := by rw [List.length_append, rowMarks_length]
    have h1 : (i : Int) < (l.length : Int) := by omega
    have h0 : (0 : Int) ≤ (i : Int) := by omega
    have h3 : (i : Int) < ((l ++ rowMarks).length : Int) := by rw [hl]; omega
    have h4 : (i : Int) < ((l.map lentOf).length : Int) := by rw [List.length_map]; omega
    have e1 : rd_L1 (l ++ rowMarks) (i : Int) = l[i] := by rw [rd_L1_nat (by rw [hl]; omega), List.getElem_append_left hlt]
    have e2 : rd_L1 l (i : Int) = l[i] := rd_L1_nat hlt
    have e3 : rd_L1 (l.map lentOf) (i : Int) = lentOf l[i] := by rw [rd_L1_nat (by rw [List.length_map]; omega), List.getElem_map]
    simp only [h1, h0, h3, h4, e1, e2, e3, if_true]
    refine Ev.bind (depotkit_Kept_ev _ (hs _ (List.getElem_mem hlt))) ?_
    refine Ev.succ ?_
    simp only [depotkit_KeptRows.j2, Bool.not_true, if_false]
    have hs1 := hs _ (List.getElem_mem hlt)
    refine depotkit_KeptRows_l1 l _ _ l[i] i hlt rfl (by omega) true ?_ l[i].length 0 (by omega)
    rw [w64s (show (i : Int) < 9223372036854775807 by omega)]
    exact ih (i + 1) (by omega)
theorem depotkit_KeptRows_ev (l : List (List Int)) (hn : l.length + 64 < 17592186044416) (hs : ∀ x ∈ l, x.length + 64 < 17592186044416) : Ev (fun k => depotkit_KeptRows.f k l (l ++ rowMarks) (l.map lentOf) l) true := by
  have h1 : ((l ++ rowMarks).length : Int) = wrap64 ((l.length : Int) + 64) := by rw [w64 (by omega) (by omega), List.length_append, rowMarks_length]; omega
  have h2 : (((l.map lentOf).length : Int) != (l.length : Int)) = false := by simp
  unfold depotkit_KeptRows.f
  simp only [h1, h2, if_true]
  refine Ev.succ ?_
  simp only [depotkit_KeptRows.j0, if_false]
  exact depotkit_KeptRows_l0 l hn hs l.length 0 (by omega)
end Go.Proofs.Ytggnnnddnppcpaa.PCnfKeepsJoin
