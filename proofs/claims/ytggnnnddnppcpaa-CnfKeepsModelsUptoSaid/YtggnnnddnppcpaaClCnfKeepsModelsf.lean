/- One text of the claim of CnfKeepsJoin: its functions as plain Lean functions, each with the proof that the code comes to these answers. Laid by standin.py out of the print of the seat; what the print does not take is proved by hand. -/
import Derived.Test.YtggnnnddnppcpaaClCnfKeepsModelsc
import Derived.Test.YtggnnnddnppcpaaClCnfKeepsModelsd
import Derived.Test.YtggnnnddnppcpaaClCnfKeepsModelse
import Derived.Test.YtggnnnddnppcpaaRows
import Derived.Test.YtggnnnddnppcpaaClCnfKeepsModelsp0
import Derived.Deep.Slices
import Derived.SizedLaws
import Derived.ChangeSame
import Derived.ProofKit
import Derived.OpenShut
import Derived.StillTailTactics
import Derived.Deep.RegionHeld3
import Derived.Test.YtggnnnddnppcpaaClCnfKeepsModelsa
/-! text YtggnnnddnppcpaaGCnfKeepsJoinx6 -/
namespace Go.Proofs.Ytggnnnddnppcpaa.PCnfKeepsJoin
open Go.RowKit Go.Proofs.YtggnnnddnppcpaaW.PrintWords Go.Proofs.YtggnnnddnppcpaaW.PrintLast Go.Proofs.YtggnnnddnppcpaaW.PrintMore
attribute [local go_sem] max2_int min2_int max_two min_two max_three min_three max_four min_four   -- for this text's walks alone
set_option linter.unusedVariables false
set_option linter.unusedSimpArgs false

/-! ### depotkit_Over: function 55 -/
def depotkit_Over.l0 : Nat → List Int → Int → Option (List Int)
  | 0, _, _ => none
  | k + 1, x0, x2 => if x2 < (x0.length : Int) then (if 0 ≤ x2 then (depotkit_Over.l0 k (x0.set (x2 : Int).toNat (wrap64 (1 - (Int.tmod x2 3)))) (wrap64 (x2 + 1))) else (none)) else (some x0)
def depotkit_Over.f (k : Nat) (l0 : List Int) : Option (List Int) := depotkit_Over.l0 k l0 0
set_option maxHeartbeats 8000000 in
set_option maxRecDepth 100000 in
theorem depotkit_Over.calls (k : Nat) (P0_ : Nat → Prop) (u9000_ : Value) (l0 : List Int) (r : List Int) (w0 w : World) (hB : Below w0.heap.size w0 w) (ho0 : Kd.R (Kd.int .i64) 3 w w0.heap.size P0_ u9000_ l0) (h : depotkit_Over.f k l0 = some r) :
    Calls Try.prog 55 #[u9000_] w fun e w' => e = .returned (.tuple #[]) ∧ Kd.R (Kd.int .i64) 3 w' w0.heap.size (fun k_ => (P0_ k_ ∨ w.heap.size ≤ k_)) u9000_ r ∧ Below w0.heap.size w0 w' ∧ Kept w w' (fun k_ => P0_ k_) := by
  have HO0 := Aside0.mk (show Kd.R (Kd.int .i64) 3 w w0.heap.size (fun k_ => (P0_ k_ ∨ w.heap.size ≤ k_)) u9000_ l0 from Kd.R_mono ho0 (fun k_ hk => (.inl hk)))
  have HK := Aside0.mk (Kept.refl w (fun k_ => P0_ k_))
  have HW0 := Aside0.mk hB.size
  have HB := Aside0.mk hB
  clear hB
  have H : (depotkit_Over.l0 k l0 0) = some r := h
  clear h
  have H' := Aside0.mk H
  clear H
  go_enter Try.func55, Try.ntmps55
  go_wp2
  go_loopg [2] k (fun kq v2 w' => ∃ (x0_1 : List Int) (x2_1 : Int), v2 = .int .i64 x2_1 ∧ Aside0 (depotkit_Over.l0 kq x0_1 x2_1 = some r) ∧ Aside0 (kq ≤ k) ∧ Aside0 (Kd.R (Kd.int .i64) 3 w' w0.heap.size (fun k_ => (P0_ k_ ∨ w.heap.size ≤ k_)) u9000_ x0_1) ∧ Aside0 (Kept w w' (fun k_ => P0_ k_)) ∧ Aside0 (Below w0.heap.size w0 w'))
  case atStart => exact ⟨(l0), (0), (by first | rfl | (simp; done) | (simp [*]; done)), H', ⟨Nat.le_refl _⟩, ⟨by (with_reducible repeat (first | apply Kd.R_alloc | apply Kd.R_drewN | apply Kd.R_drew)); exact HO0.out⟩, ⟨by repeat (first | (with_reducible first | exact HK.out | apply Kept.alloc | apply Kept.drewN | apply Kept.drew) | exact HK.out)⟩, ⟨by repeat (first | (with_reducible first | exact HB.out | apply below_alloc | apply pw_below_drewN | apply below_drew1) | exact HB.out)⟩⟩
  case round =>
    clear H'
    obtain ⟨x0_1, x2_1, rfl, HA, HK1, HO_0, HK, HB⟩ := hrel
    cases gk with
    | zero => exact absurd HA.out (by simp [depotkit_Over.l0])
    | succ k1 =>
      have H := HA.out
      clear HA
      simp only [depotkit_Over.l0] at H
      by_cases c2 : x2_1 < (x0_1.length : Int)
      · rw [if_pos c2] at H
        have c2b0 : decide (x2_1 < (x0_1.length : Int)) = true := decide_eq_true c2
        clear c2
        by_cases c3 : 0 ≤ x2_1
        · rw [if_pos c3] at H
          have c3b0 : decide (0 ≤ x2_1) = true := decide_eq_true c3
          clear c3
          obtain ⟨y242, hy242⟩ : ∃ y_ : List Int, y_ = (x0_1.set (x2_1 : Int).toNat (wrap64 (1 - (Int.tmod x2_1 3)))) := ⟨_, rfl⟩
          replace H : (depotkit_Over.l0 k1 y242 (wrap64 (x2_1 + 1))) = some r := by first | (rw [hy242]; with_reducible exact H) | (have H2_ := (Option.bind_some _ _).symm.trans H; rw [hy242]; with_reducible exact H2_) | (have H2_ := (Option.bind_some _ _).symm.trans H; with_reducible exact H2_) | with_reducible exact H | (rw [hy242]; exact H) | exact H
          have Ny242 := Aside0.mk hy242
          clear hy242
          have H' := Aside0.mk H
          clear H
          obtain ⟨Ao5, co5, eo5⟩ := Kd.R_slice HO_0.out
          subst eo5
          have p4 : 0 ≤ (x2_1 : Int) := of_decide_eq_true (by first | (with_reducible assumption) | assumption)
          have q4 : (x2_1 : Int) < ((x0_1.length : Int) : Int) := of_decide_eq_true (by first | (with_reducible assumption) | assumption)
          obtain ⟨go4, co4, eo4, gb4, gl4, cl4, HG4⟩ := Kd.R_form HO_0.out (by omega)
          (first | cases eo4 | (injection eo4 with ea_ en_ ec_; (first | subst ea_ | (injection ea_ with ea_; subst ea_)); subst ec_; clear en_))
          have GB4 := Aside0.mk gb4
          have GG4 := Aside0.mk HG4
          clear gb4 gl4 HG4
          have HMgo4 := Aside0.mk (show (P0_ go4 ∨ w.heap.size ≤ go4) from (HO_0.out.1 _ rfl))
          obtain ⟨hx4_0, hf4_0⟩ := Kd.R_celln 0 HO_0.out (x2_1 : Int) p4 q4
          replace p4 := eq_true p4
          replace q4 := eq_true q4
          have HP6 := Kd.R_putg HO_0.out (x2_1 : Int) (wrap64 (1 - (Int.tmod x2_1 3)))
          go_wp2_with (first | ((with_reducible refine gate_store (t := 3) (p := 14) rfl ?_); refine store_event (t := 3) (p := 14) (v := ?vo_w7) (w1 := (wr.setCell ⟨go4, (x2_1 : Int).toNat, none⟩ (.int .i64 (wrap64 (1 - (Int.tmod x2_1 3)))))) ?hg ?ho ?hn ?hr ?_; (case ho => rfl); (case hg => rfl); (case hn => rfl); (case hr => first | (go_simp; done) | (go_simp; rfl)); intro w7 hw; have hg : wr.grownBy w7 (some go4) := (by rw [hw]; exact HP6.2); have hp_ : Kd.R (Kd.int .i64) 3 w7 w0.heap.size (fun k_ => (P0_ k_ ∨ w.heap.size ≤ k_)) (.slice (some ⟨go4, 0, none⟩) x0_1.length co5) y242 := (by rw [hw, Ny242.out]; exact HP6.1); clear HP6; have n0_ := Aside0.mk (hp_); have n1_ := Aside0.mk ((by rw [hw]; exact below_set (HB.out) GB4.out : Below w0.heap.size w0 w7)); have n2_ := Aside0.mk (Kept.of_grown (S := (fun k_ => P0_ k_)) hg (by repeat (first | (with_reducible first | exact HK.out | apply Kept.alloc | apply Kept.drewN | apply Kept.drew) | exact HK.out)) (fun k_ e_ => (HO_0.out.1 k_ e_))); clear HO_0; clear HB; clear HK; have HO_0 := n0_; have HB := n1_; have HK := n2_; clear n0_ n1_ n2_; clear hg hw hp_))
          go_roundg k1
          case measure => have := HK1.out; omega
          case rel => exact ⟨(y242), (wrap64 (x2_1 + 1)), (by first | rfl | (simp; done) | (simp [*]; done)), H', ⟨by have := HK1.out; omega⟩, ⟨by (with_reducible repeat (first | apply Kd.R_alloc | apply Kd.R_drewN | apply Kd.R_drew)); exact HO_0.out⟩, ⟨by repeat (first | (with_reducible first | exact HK.out | apply Kept.alloc | apply Kept.drewN | apply Kept.drew) | exact HK.out)⟩, ⟨by repeat (first | (with_reducible first | exact HB.out | apply below_alloc | apply pw_below_drewN | apply below_drew1) | exact HB.out)⟩⟩
        · rw [if_neg c3] at H
          exact absurd H (by simp)
      · rw [if_neg c2] at H
        have c2b0 : decide (x2_1 < (x0_1.length : Int)) = false := decide_eq_false c2
        clear c2
        obtain rfl := Option.some.inj H
        obtain ⟨Ao8, co8, eo8⟩ := Kd.R_slice HO_0.out
        subst eo8
        go_wp2
        first | go_end0 | ((try simp only [Exit.inBlock, Exit.then]); refine bodyPost_ret (results_none rfl _ _ _) rfl ?_)
        exact ⟨by first | rfl | (simp [errW_none, errW_some] <;> rfl) | (simp [*, errW_none, errW_some] <;> rfl), by (with_reducible repeat (first | apply Kd.R_alloc | apply Kd.R_drewN | apply Kd.R_drew)); exact HO_0.out, by repeat (first | (with_reducible first | exact HB.out | apply below_alloc | apply pw_below_drewN | apply below_drew1) | exact HB.out), by repeat (first | (with_reducible first | exact HK.out | apply Kept.alloc | apply Kept.drewN | apply Kept.drew) | exact HK.out)⟩

-- NOT PRINTED: function 28 (depotkit_OverRows)

-- NOT PRINTED: function 51 (depotkit_ApartInts)

-- NOT PRINTED: function 84 (depotkit_ApartRows)

-- NOT PRINTED: function 63 (depotkit_ApartClauses)

-- NOT PRINTED: function 29 (depotkit_ApartFormulas)

-- NOT PRINTED: function 5 (depotlaw02_CnfKeepsJoin)

end Go.Proofs.Ytggnnnddnppcpaa.PCnfKeepsJoin
/-! text YtggnnnddnppcpaaKjMod -/

/-! text YtggnnnddnppcpaaOpens -/
namespace Go.Proofs.YtggnnnddnppcpaaOpens
open Go.RowKit Go.ChangeShapes Go.WideShapes Go.Proofs.YtggnnnddnppcpaaW.PrintWords Go.Proofs.Ytggnnnddnppcpaa
set_option linter.unusedVariables false

structure Opens {α : Type} (P : Program) (T : TypeId) (d : Kd α) (OK : α → Prop) (m : α → Nat) : Prop where
  size : P.cellsOf T = d.sz
  opens : ∀ {H : Type} {enc : TypeId × Value → H} {W : World} {fuel : Nat} {cs : List Value} {x : DataW H} {ps : List MemPlace},
    DataW.trod enc P W 0 (fun _ => true) true fuel T cs = some (x, ps) → (∀ n ∈ DataW.weights P T x, n ≤ reachBytes) → ∃ a, d.K W a cs ∧ OK a ∧ m a ≤ Rows.uptoBulk x

theorem opens_int {P : Program} {T : TypeId} {k : IntKind} (hu : P.underlying T = some (.int k)) (hs : P.cellsOf T = 1) : Opens P T (Kd.int k) (fun x => (Lit.int k x).wf = true) (fun _ => 1) where
  size := hs
  opens := by
    intro H enc W fuel cs x ps h _
    obtain ⟨n, rfl, hx, hw⟩ := DataW.trod_int hu h
    injection hx with hx _
    subst hx
    exact ⟨n, rfl, hw, by simp [Rows.uptoBulk]⟩

theorem opens_bool {P : Program} {T : TypeId} (hu : P.underlying T = some .bool) (hs : P.cellsOf T = 1) : Opens P T Kd.bool (fun _ => True) (fun _ => 1) where
  size := hs
  opens := by
    intro H enc W fuel cs x ps h _
    obtain ⟨n, rfl, hx⟩ := DataW.trod_bool hu h
    injection hx with hx _
    subst hx
    exact ⟨n, rfl, trivial, by simp [Rows.uptoBulk]⟩

def sumOf {α : Type} (m : α → Nat) : List α → Nat
  | [] => 0
  | x :: r => m x + sumOf m r

theorem opens_rows {α H : Type} {P : Program} {e : TypeId} {d : Kd α} {OK : α → Prop} {m : α → Nat} (he : Opens P e d OK m) {enc : TypeId × Value → H} {W : World} {n : Nat} {a : Addr} :
    ∀ (l : List (DataW H)) (o : Nat), (∀ i x, l[i]? = some x → ∃ cs' ps, W.cells? 0 (a.add ((o + i) * P.cellsOf e)) (P.cellsOf e) = some cs' ∧ DataW.trod enc P W 0 (fun _ => true) true n e cs' = some (x, ps)) →
    (∀ q ∈ DataW.weightsAll P e l, q ≤ reachBytes) →
    ∃ xs : List α, xs.length = l.length ∧ (∀ x ∈ xs, OK x) ∧ sumOf m xs ≤ Rows.uptoBulkAll l ∧
      ∀ j p, xs[j]? = some p → ∃ c, c.length = d.sz ∧ d.K W p c ∧ W.cells? 0 (a.add ((o + j) * P.cellsOf e)) (P.cellsOf e) = some c
  | [], o, _, _ => ⟨[], rfl, by simp, by simp [sumOf], by simp⟩
  | x :: l, o, hx, hw => by
    obtain ⟨cs', ps, h1, h2⟩ := hx 0 x rfl
    obtain ⟨p, hK, hok, hm⟩ := he.opens h2 (fun q hq => hw q (by simp only [DataW.weightsAll, List.mem_append]; exact .inl hq))
    obtain ⟨xs, e1, e2, e3, e4⟩ := opens_rows he l (o + 1) (fun i y hy => by
      have := hx (i + 1) y (by simpa using hy)
      rwa [show o + (i + 1) = o + 1 + i by omega] at this) (fun q hq => hw q (by simp only [DataW.weightsAll, List.mem_append]; exact .inr hq))
    refine ⟨p :: xs, by simp [e1], ?_, ?_, ?_⟩
    · intro y hy
      rcases List.mem_cons.1 hy with rfl | hy
      · exact hok
      · exact e2 y hy
    · simp only [sumOf, Rows.uptoBulkAll]
      omega
    · intro j q hj
      cases j with
      | zero =>
        simp at hj
        subst hj
        exact ⟨cs', d.K_len hK, hK, h1⟩
      | succ j =>
        obtain ⟨c, c1, c2, c3⟩ := e4 j q (by simpa using hj)
        exact ⟨c, c1, c2, by rwa [show o + (j + 1) = o + 1 + j by omega]⟩

theorem opens_slice {α : Type} {P : Program} {T e : TypeId} {d : Kd α} {OK : α → Prop} {m : α → Nat} {B : Nat} (he : Opens P e d OK m) (hu : P.underlying T = some (.slice e)) (hs : P.cellsOf T = 1) (hB : P.bytesOf e = B) :
    Opens P T (Kd.slice e d) (fun xs => xs.length * B ≤ 140737488351232 ∧ ∀ x ∈ xs, OK x) (fun xs => sumOf m xs + 1) where
  size := hs
  opens := by
    intro H enc W fuel cs x ps h hw
    rcases DataW.trod_slice hu h with ⟨rfl, hx⟩ | ⟨a, len, cap, elems, rest, n, _, rfl, hx, hb, hl, hm, hlen, hel, hsp, _⟩
    · injection hx with hx _
      subst hx
      refine ⟨[], ⟨none, 0, rfl, Nat.le_refl _, rfl, by simp, fun hp => absurd hp (by simp)⟩, ⟨by simp, by simp⟩, ?_⟩
      simp [sumOf, Rows.uptoBulk]
    · injection hx with hx _
      subst hx
      have hw1 : (elems.length + rest.length) * B ≤ reachBytes := by
        have := hw ((elems.length + rest.length) * B) (by simp [DataW.weights, hu, hB])
        exact this
      obtain ⟨xs, e1, e2, e3, e4⟩ := opens_rows he (enc := enc) (W := W) (n := n) (a := a) (elems.map (·.1)) 0 (by
        intro i y hy
        rw [List.getElem?_map] at hy
        obtain ⟨z, hz, rfl⟩ := Option.map_eq_some_iff.1 hy
        have hi : i < len := by
          rcases Nat.lt_or_ge i elems.length with h | h
          · omega
          · rw [List.getElem?_eq_none h] at hz; cases hz
        have hq := hel i hi
        rw [hz] at hq
        obtain ⟨cs', h1, h2⟩ := Option.bind_eq_some_iff.1 hq
        exact ⟨cs', z.2, by rwa [Nat.zero_add], h2⟩) (fun q hq => hw q (by
          simp only [DataW.weights, hu, List.mem_cons, List.mem_append]
          exact .inr (.inl hq)))
      have e1' : xs.length = len := by rw [e1, List.length_map, hlen]
      have hmx : len ≤ 9223372036854775807 := by simp only [maxLen] at hm; omega
      refine ⟨xs, ⟨some a, cap, by rw [e1'], by omega, ⟨rfl, by omega, fun _ => ⟨a, rfl, ?_⟩⟩⟩, ⟨?_, e2⟩, ?_⟩
      · intro j p hj
        obtain ⟨c, c1, c2, c3⟩ := e4 j p hj
        rw [Nat.zero_add] at c3
        refine ⟨c, c1, c2, fun i u hu' => ?_⟩
        obtain ⟨_, hlen2, hcell⟩ := World.cells?_some c3
        have hi : i < c.length := by
          rcases Nat.lt_or_ge i c.length with h | h
          · exact h
          · rw [List.getElem?_eq_none h] at hu'; cases hu'
        have hq := hcell i (by omega)
        rw [hu'] at hq
        rw [← hq, he.size]
        congr 1
        unfold Addr.add
        by_cases g1 : j * d.sz = 0 <;> by_cases g2 : i = 0 <;> simp [g1, g2, Nat.add_assoc]
      · have : reachBytes = 140737488351232 := rfl
        have h3 : xs.length * B ≤ (elems.length + rest.length) * B := Nat.mul_le_mul_right _ (by omega)
        omega
      · simp only [Rows.uptoBulk]
        omega

/-- Some fields of a struct, from an offset on. -/
structure OpensF {α : Type} (P : Program) (fs : List Field) (off : Nat) (d : Kd α) (OK : α → Prop) (m : α → Nat) : Prop where
  opens : ∀ {H : Type} {enc : TypeId × Value → H} {W : World} {n : Nat} {cs : List Value} {xs : List (DataW H × List MemPlace)}, xs.length = fs.length →
    (∀ (i : Nat) (f : Field), fs[i]? = some f → DataW.trod enc P W 0 (fun _ => true) true n f.type ((cs.drop f.offset).take (P.cellsOf f.type)) = xs[i]?) →
    (∀ q ∈ DataW.weightsEach P (fs.map (·.type)) (xs.map (·.1)), q ≤ reachBytes) → ∃ a, d.K W a ((cs.drop off).take d.sz) ∧ OK a ∧ m a ≤ Rows.uptoBulkAll (xs.map (·.1))

theorem opensF_last {α : Type} {P : Program} {f : Field} {off : Nat} {d : Kd α} {OK : α → Prop} {m : α → Nat} (he : Opens P f.type d OK m) (ho : f.offset = off) : OpensF P [f] off d OK m where
  opens := by
    intro H enc W n cs xs hl h hw
    match xs, hl with
    | [x], _ =>
      have h0 := h 0 f rfl
      rw [he.size, ho] at h0
      obtain ⟨a, h1, h2, h3⟩ := he.opens (x := x.1) (ps := x.2) h0 (fun q hq => hw q (by simpa [DataW.weightsEach] using hq))
      exact ⟨a, h1, h2, by simpa [Rows.uptoBulkAll] using h3⟩

theorem opensF_cons {α β : Type} {P : Program} {f : Field} {fs : List Field} {off : Nat} {d : Kd α} {d1 : Kd β} {OK : α → Prop} {OK1 : β → Prop} {m : α → Nat} {m1 : β → Nat}
    (he : Opens P f.type d OK m) (ho : f.offset = off) (hr : OpensF P fs (off + d.sz) d1 OK1 m1) : OpensF P (f :: fs) off (Kd.pair d d1) (fun p => OK p.1 ∧ OK1 p.2) (fun p => m p.1 + m1 p.2) where
  opens := by
    intro H enc W n cs xs hl h hw
    match xs, hl with
    | x :: xs, hl =>
      have h0 := h 0 f rfl
      rw [he.size, ho] at h0
      obtain ⟨a, h1, h2, h3⟩ := he.opens (x := x.1) (ps := x.2) h0 (fun q hq => hw q (by
        simp only [List.map_cons, DataW.weightsEach, List.mem_append]; exact .inl hq))
      obtain ⟨b, g1, g2, g3⟩ := hr.opens (xs := xs) (by simpa using hl) (fun i f' hf => by simpa using h (i + 1) f' (by simpa using hf)) (fun q hq => hw q (by
        simp only [List.map_cons, DataW.weightsEach, List.mem_append]; exact .inr hq))
      refine ⟨(a, b), ⟨_, _, ?_, h1, g1⟩, ⟨h2, g2⟩, by simp only [List.map_cons, Rows.uptoBulkAll]; omega⟩
      show (cs.drop off).take (d.sz + d1.sz) = _
      rw [List.take_add, List.drop_drop]

theorem opens_struct {α : Type} {P : Program} {T : TypeId} {fs : Array Field} {d : Kd α} {OK : α → Prop} {m : α → Nat} (hf : OpensF P fs.toList 0 d OK m) (hu : P.underlying T = some (.struct fs)) (hs : P.cellsOf T = d.sz) :
    Opens P T d OK (fun a => m a + 1) where
  size := hs
  opens := by
    intro H enc W fuel cs x ps h hw
    obtain ⟨xs, n, _, hx, hl, hlen, hq⟩ := DataW.trod_struct hu h
    injection hx with hx _
    subst hx
    obtain ⟨a, h1, h2, h3⟩ := hf.opens (xs := xs) (cs := cs) (by simpa using hlen) (fun i f hi => hq i f (by simpa using hi)) (fun q hq => hw q (by
      simp only [DataW.weights, hu]; exact hq))
    refine ⟨a, ?_, h2, by simp only [Rows.uptoBulk]; omega⟩
    rwa [List.drop_zero, List.take_of_length_le (by omega)] at h1

/-- A struct, as an argument's value. -/
theorem struct_arg {α H : Type} {P : Program} {T : TypeId} {d : Kd α} {OK : α → Prop} {m : α → Nat} (he : Opens P T d OK m) {enc : TypeId × Value → H} {W : World} {cs : Array Value} {x : DataW H} {ps : List MemPlace}
    (h : DataW.Trod enc P W 0 (fun _ => true) true T (.agg cs) x ps) (hw : ∀ n ∈ DataW.weights P T x, n ≤ reachBytes) :
    ∃ a, d.K W a cs.toList ∧ OK a ∧ m a ≤ Rows.uptoBulk x := by
  obtain ⟨fuel, hf⟩ := h
  exact he.opens (by simpa [Value.cells] using hf) hw

/-- What the row's reach says of one argument. -/
theorem reach_of {H : Type} {P : Program} {ts : List TypeId} {ds : List (DataW H)} (hsz : (DataW.weightsEach P ts ds).all (· ≤ reachBytes) = true) {j : Nat} {t : TypeId} {d : DataW H} (ht : ts[j]? = some t) (hd : ds[j]? = some d) : ∀ n ∈ DataW.weights P t d, n ≤ reachBytes := by
  intro n hn
  simpa using List.all_eq_true.1 hsz n (DataW.weights_mem_each ht hd n hn)

/-- What the second form's bound says of one argument. -/
theorem bulk_of {H : Type} {ds : List (DataW H)} (hk : Rows.uptoSmall H ds = true) : Rows.uptoBulkAll ds ≤ 1048576 := of_decide_eq_true hk

end Go.Proofs.YtggnnnddnppcpaaOpens
/-! text YtggnnnddnppcpaaKjLib -/
namespace Go.Proofs.Ytggnnnddnppcpaa.PCnfKeepsJoin
open Go.RowKit Go.Proofs.YtggnnnddnppcpaaW.PrintWords Go.Proofs.YtggnnnddnppcpaaW.PrintLast Go.Proofs.YtggnnnddnppcpaaMath
set_option linter.unusedVariables false
set_option linter.unusedSimpArgs false
def markOf (a b : Int) : Int := wrap64 (wrap64 (1000003 * wrap64 (a + 7)) + b)
def lentMarks : List Int := (List.range 64).map fun i : Nat => markOf 0 i
def lentOf (l : List Int) : List Int := l ++ lentMarks
theorem lentMarks_length : lentMarks.length = 64 := by simp [lentMarks]
theorem lentMarks_drop {j : Nat} (hj : j < 64) : lentMarks.drop j = markOf 0 j :: lentMarks.drop (j + 1) := by
  rw [List.drop_eq_getElem_cons (by rw [lentMarks_length]; exact hj)]
  simp [lentMarks]
theorem lentOf_length (l : List Int) : (lentOf l).length = l.length + 64 := by rw [lentOf, List.length_append, lentMarks_length]
theorem depotkit_Lent_l1 (d : Nat) : ∀ (j : Nat) (x : List Int), j + d = 64 → x.length + d < 17592186044416 → Ev (fun k => depotkit_Lent.l1 k x (j : Int)) (x ++ lentMarks.drop j) := by
  induction d with
  | zero =>
    intro j x hj hx
    refine Ev.succ ?_
    simp only [depotkit_Lent.l1]
    have h1 : ¬ ((j : Int) < 64) := by omega
    simp only [h1, if_false]
    rw [List.drop_of_length_le (by rw [lentMarks_length]; omega), List.append_nil]
    exact Ev.now _
  | succ d ih =>
    intro j x hj hx
    refine Ev.succ ?_
    simp only [depotkit_Lent.l1, depotkit_mark.f, Option.bind_some]
    have h1 : (j : Int) < 64 := by omega
    have h2 : x.length < 17592186044416 := by omega
    simp only [h1, h2, if_true, w64s (show (j : Int) < 9223372036854775807 by omega)]
    have := ih (j + 1) (x ++ [markOf 0 j]) (by omega) (by simp; omega)
    rw [lentMarks_drop (by omega)]
    rw [List.append_assoc] at this
    exact this
theorem depotkit_Lent_l0 (l : List Int) (hn : l.length + 64 < 17592186044416) (d : Nat) : ∀ (i : Nat) (x : List Int), i + d = l.length → x.length = i → Ev (fun k => depotkit_Lent.l0 k l x (i : Int)) (x ++ l.drop i ++ lentMarks) := by
  induction d with
  | zero =>
    intro i x hi hx
    refine Ev.succ ?_
    simp only [depotkit_Lent.l0]
    have h1 : ¬ ((i : Int) < (l.length : Int)) := by omega
    simp only [h1, if_false]
    rw [List.drop_of_length_le (by omega), List.append_nil]
    have := depotkit_Lent_l1 64 0 x (by omega) (by omega)
    rwa [List.drop_zero] at this
  | succ d ih =>
    intro i x hi hx
    refine Ev.succ ?_
    simp only [depotkit_Lent.l0]
    have h1 : (i : Int) < (l.length : Int) := by omega
    have h0 : (0 : Int) ≤ (i : Int) := by omega
    have h2 : x.length < 17592186044416 := by omega
    simp only [h1, h0, h2, if_true, w64s (show (i : Int) < 9223372036854775807 by omega)]
    rw [drop_rd (show i < l.length by omega)]
    have := ih (i + 1) (x ++ [rd l (i : Int)]) (by omega) (by simp [hx])
    rw [show x ++ [rd l (i : Int)] ++ l.drop (i + 1) ++ lentMarks = x ++ rd l (i : Int) :: l.drop (i + 1) ++ lentMarks by simp] at this
    exact this
theorem depotkit_Lent_ev (l : List Int) (hn : l.length + 64 < 17592186044416) : Ev (fun k => depotkit_Lent.f k l) (lentOf l) := by
  have := depotkit_Lent_l0 l hn l.length 0 [] (by omega) rfl
  simpa [depotkit_Lent.f, lentOf] using this
theorem depotkit_Kept_l1 (l : List Int) (hn : l.length + 64 < 17592186044416) (d : Nat) : ∀ j : Nat, j + d = 64 → Ev (fun k => depotkit_Kept.l1 k (lentOf l) l (j : Int)) true := by
  induction d with
  | zero =>
    intro j hj
    refine Ev.succ ?_
    simp only [depotkit_Kept.l1]
    have h1 : ¬ ((j : Int) < 64) := by omega
    simp only [h1, if_false]
    exact Ev.now _
  | succ d ih =>
    intro j hj
    refine Ev.succ ?_
    simp only [depotkit_Kept.l1, depotkit_mark.f, Option.bind_some]
    have h1 : (j : Int) < 64 := by omega
    have e1 : wrap64 ((l.length : Int) + (j : Int)) = ((l.length + j : Nat) : Int) := by rw [w64 (by omega) (by omega)]; omega
    have h2 : (0 : Int) ≤ ((l.length + j : Nat) : Int) := by omega
    have h3 : ((l.length + j : Nat) : Int) < ((lentOf l).length : Int) := by rw [lentOf_length]; omega
    have e2 : rd (lentOf l) ((l.length + j : Nat) : Int) = markOf 0 j := by
      rw [rd_nat (by rw [lentOf_length]; omega)]
      simp [lentOf, lentMarks]
    have e3 : wrap64 (wrap64 (1000003 * wrap64 (0 + 7)) + (j : Int)) = markOf 0 j := rfl
    simp only [h1, e1, h2, h3, e2, e3, if_true, w64s (show (j : Int) < 9223372036854775807 by omega)]
    exact ih (j + 1) (by omega)
theorem depotkit_Kept_l0 (l : List Int) (hn : l.length + 64 < 17592186044416) (d : Nat) : ∀ i : Nat, i + d = l.length → Ev (fun k => depotkit_Kept.l0 k (lentOf l) l (i : Int)) true := by
  induction d with
  | zero =>
    intro i hi
    refine Ev.succ ?_
    simp only [depotkit_Kept.l0]
    have h1 : ¬ ((i : Int) < (l.length : Int)) := by omega
    simp only [h1, if_false]
    exact depotkit_Kept_l1 l hn 64 0 (by omega)
  | succ d ih =>
    intro i hi
    refine Ev.succ ?_
    simp only [depotkit_Kept.l0]
    have h1 : (i : Int) < (l.length : Int) := by omega
    have h0 : (0 : Int) ≤ (i : Int) := by omega
    have h3 : (i : Int) < ((lentOf l).length : Int) := by rw [lentOf_length]; omega
    have e2 : rd (lentOf l) (i : Int) = rd l (i : Int) := by
      rw [rd_nat (by rw [lentOf_length]; omega), rd_nat (show i < l.length by omega)]
      simp only [lentOf]
      rw [List.getElem_append_left (by omega)]
    simp only [h1, h0, h3, e2, if_true, w64s (show (i : Int) < 9223372036854775807 by omega)]
    exact ih (i + 1) (by omega)
theorem depotkit_Kept_ev (l : List Int) (hn : l.length + 64 < 17592186044416) : Ev (fun k => depotkit_Kept.f k (lentOf l) l) true := by
  have h1 : ((lentOf l).length : Int) = wrap64 ((l.length : Int) + 64) := by rw [w64 (by omega) (by omega), lentOf_length]; omega
  unfold depotkit_Kept.f
  simp only [h1, if_true]
  exact depotkit_Kept_l0 l hn l.length 0 (by omega)
theorem depotkit_Over_l0 (n : Nat) (hn : n < 17592186044416) (d : Nat) : ∀ (i : Nat) (x : List Int), x.length = n → i + d = n → ∃ r : List Int, r.length = n ∧ Ev (fun k => depotkit_Over.l0 k x (i : Int)) r := by
  induction d with
  | zero =>
    intro i x hx hi
    refine ⟨x, hx, Ev.succ ?_⟩
    simp only [depotkit_Over.l0]
    have h1 : ¬ ((i : Int) < (x.length : Int)) := by omega
    simp only [h1, if_false]
    exact Ev.now _
  | succ d ih =>
    intro i x hx hi
    obtain ⟨r, hr, h⟩ := ih (i + 1) (x.set i (wrap64 (1 - Int.tmod (i : Int) 3))) (by simpa using hx) (by omega)
    refine ⟨r, hr, Ev.succ ?_⟩
    simp only [depotkit_Over.l0]
    have h1 : (i : Int) < (x.length : Int) := by omega
    have h0 : (0 : Int) ≤ (i : Int) := by omega
    simp only [h1, h0, if_true, w64s (show (i : Int) < 9223372036854775807 by omega), Int.toNat_natCast]
    exact h
theorem depotkit_Over_ev (l : List Int) (hn : l.length < 17592186044416) : ∃ r : List Int, r.length = l.length ∧ Ev (fun k => depotkit_Over.f k l) r := by
  obtain ⟨r, h1, h2⟩ := depotkit_Over_l0 l.length hn l.length 0 l rfl (by omega)
  exact ⟨r, h1, h2⟩
end Go.Proofs.Ytggnnnddnppcpaa.PCnfKeepsJoin
/-! text YtggnnnddnppcpaaKjRows -/
namespace Go.Proofs.Ytggnnnddnppcpaa.PCnfKeepsJoin
open Go.RowKit Go.Proofs.YtggnnnddnppcpaaW.PrintWords Go.Proofs.YtggnnnddnppcpaaW.PrintLast Go.Proofs.YtggnnnddnppcpaaMath
set_option linter.unusedVariables false
set_option linter.unusedSimpArgs false
def rowMarks : List (List Int) := (List.range 64).map fun i : Nat => [markOf 1 i]
theorem rowMarks_length : rowMarks.length = 64 := by simp [rowMarks]
theorem rd_L1_nat {l : List (List Int)} {i : Nat} (h : i < l.length) : rd_L1 l (i : Int) = l[i] := by
  simp [rd_L1, List.getD_eq_getElem?_getD, h]
theorem rd_one (q : Int) : rd [q] 0 = q := by simp [rd]
theorem mark_row (j : Nat) : depotkit_mark.f 1 (j : Int) = some (markOf 1 j) := by unfold depotkit_mark.f markOf; rfl
theorem rowMarks_get (l : List (List Int)) (j : Nat) (hj : j < 64) (h : l.length + j < (l ++ rowMarks).length) : (l ++ rowMarks)[l.length + j] = [markOf 1 j] := by
  rw [List.getElem_append_right (by omega)]
  simp only [rowMarks, List.getElem_map, List.getElem_range]
  congr 2
  omega
theorem depotkit_KeptRows_l2 (l M : List (List Int)) (R : List (List Int)) (hn : l.length + 64 < 17592186044416) (hM : (l ++ M).length = l.length + 64) (hM2 : ∀ j : Nat, j < 64 → rd_L1 (l ++ M) ((l.length + j : Nat) : Int) = [markOf 1 j]) (d : Nat) : ∀ j : Nat, j + d = 64 → Ev (fun k => depotkit_KeptRows.l2 k l (j : Int) l (l ++ M) R) true := by
  generalize l ++ M = S at hM hM2 ⊢
  induction d with
  | zero =>
    intro j hj
    refine Ev.succ ?_
    simp only [depotkit_KeptRows.l2]
    have h1 : ¬ ((j : Int) < 64) := by omega
    simp only [h1, if_false]
    exact Ev.now _
  | succ d ih =>
    intro j hj
    refine Ev.succ ?_
    have em := mark_row j
    simp only [depotkit_KeptRows.l2]
    have h1 : (j : Int) < 64 := by omega
    have e1 : wrap64 ((l.length : Int) + (j : Int)) = ((l.length + j : Nat) : Int) := by rw [w64 (by omega) (by omega)]; omega
    have h2 : (0 : Int) ≤ ((l.length + j : Nat) : Int) := by omega
    have h3 : ((l.length + j : Nat) : Int) < (S.length : Int) := by omega
    have e2 := hM2 j (by omega)
    have e6 := rd_one (markOf 1 (j : Int))
    have e4 : (([markOf 1 (j : Int)] : List Int).length : Int) = 1 := by simp
    have e5 : (0 : Int) < 1 := by omega
    generalize markOf 1 (j : Int) = q at em e2 e4 e6
    simp only [h1, e1, h2, h3, e2, e4, e5, if_true, w64s (show (j : Int) < 9223372036854775807 by omega)]
    have hev : Ev (fun _ => depotkit_mark.f 1 (j : Int)) q := by rw [em]; exact Ev.now _
    refine Ev.bind hev ?_
    rw [e6]
    have ih2 := ih (j + 1) (by omega)
    generalize depotkit_KeptRows.l2 = f2 at ih2 ⊢
    simp only [if_true]
    exact ih2
theorem depotkit_KeptRows_l1 (l : List (List Int)) (M R : List (List Int)) (x : List Int) (i : Nat) (hi : i < l.length) (hx : x = l[i]) (hn : x.length < 17592186044416) (r : Bool) (hrest : Ev (fun k => depotkit_KeptRows.l0 k l (wrap64 ((i : Int) + 1)) l M R) r) (d : Nat) :
    ∀ j : Nat, j + d = x.length → Ev (fun k => depotkit_KeptRows.l1 k l (i : Int) x (j : Int) l M R) r := by
  have e0 : rd_L1 l (i : Int) = x := by rw [rd_L1_nat hi, hx]
  induction d with
  | zero =>
    intro j hj
    refine Ev.succ ?_
    simp only [depotkit_KeptRows.l1]
    have h1 : ¬ ((j : Int) < (x.length : Int)) := by omega
    simp only [h1, if_false]
    exact hrest
  | succ d ih =>
    intro j hj
    refine Ev.succ ?_
    simp only [depotkit_KeptRows.l1]
    have h1 : (j : Int) < (x.length : Int) := by omega
    have h0 : (0 : Int) ≤ (j : Int) := by omega
    have h2 : (0 : Int) ≤ (i : Int) := by omega
    have h3 : (i : Int) < (l.length : Int) := by omega
    simp only [h1, h0, h2, h3, e0, if_true, w64s (show (j : Int) < 9223372036854775807 by omega)]
    exact ih (j + 1) (by omega)
theorem depotkit_KeptRows_l0 (l : List (List Int)) (hn : l.length + 64 < 17592186044416) (hs : ∀ x ∈ l, x.length + 64 < 17592186044416) (d : Nat) : ∀ i : Nat, i + d = l.length → Ev (fun k => depotkit_KeptRows.l0 k l (i : Int) l (l ++ rowMarks) (l.map lentOf)) true := by
  induction d with
  | zero =>
    intro i hi
    refine Ev.succ ?_
    simp only [depotkit_KeptRows.l0]
    have h1 : ¬ ((i : Int) < (l.length : Int)) := by omega
    simp only [h1, if_false]
    exact depotkit_KeptRows_l2 l rowMarks _ hn (by rw [List.length_append, rowMarks_length]) (fun j hj => by rw [rd_L1_nat (by rw [List.length_append, rowMarks_length]; omega)]; exact rowMarks_get l j hj _) 64 0 (by omega)
  | succ d ih =>
    intro i hi
    refine Ev.succ ?_
    simp only [depotkit_KeptRows.l0]
    have hlt : i < l.length := by omega
    have hl : (l ++ rowMarks).length = l.length + 64 := by rw [List.length_append, rowMarks_length]
    have h1 : (i : Int) < (l.length : Int) := by omega
    have h0 : (0 : Int) ≤ (i : Int) := by omega
    have h3 : (i : Int) < ((l ++ rowMarks).length : Int) := by rw [hl]; omega
    have h4 : (i : Int) < ((l.map lentOf).length : Int) := by rw [List.length_map]; omega
    have e1 : rd_L1 (l ++ rowMarks) (i : Int) = l[i] := by rw [rd_L1_nat (by rw [hl]; omega), List.getElem_append_left hlt]
    have e2 : rd_L1 l (i : Int) = l[i] := rd_L1_nat hlt
    have e3 : rd_L1 (l.map lentOf) (i : Int) = lentOf l[i] := by rw [rd_L1_nat (by rw [List.length_map]; omega), List.getElem_map]
    simp only [h1, h0, h3, h4, e1, e2, e3, if_true]
    refine Ev.bind (depotkit_Kept_ev _ (hs _ (List.getElem_mem hlt))) ?_
    refine Ev.succ ?_
    simp only [depotkit_KeptRows.j2, Bool.not_true, if_false]
    have hs1 := hs _ (List.getElem_mem hlt)
    refine depotkit_KeptRows_l1 l _ _ l[i] i hlt rfl (by omega) true ?_ l[i].length 0 (by omega)
    rw [w64s (show (i : Int) < 9223372036854775807 by omega)]
    exact ih (i + 1) (by omega)
theorem depotkit_KeptRows_ev (l : List (List Int)) (hn : l.length + 64 < 17592186044416) (hs : ∀ x ∈ l, x.length + 64 < 17592186044416) : Ev (fun k => depotkit_KeptRows.f k l (l ++ rowMarks) (l.map lentOf) l) true := by
  have h1 : ((l ++ rowMarks).length : Int) = wrap64 ((l.length : Int) + 64) := by rw [w64 (by omega) (by omega), List.length_append, rowMarks_length]; omega
  have h2 : (((l.map lentOf).length : Int) != (l.length : Int)) = false := by simp
  unfold depotkit_KeptRows.f
  simp only [h1, h2, if_true]
  refine Ev.succ ?_
  simp only [depotkit_KeptRows.j0, if_false]
  exact depotkit_KeptRows_l0 l hn hs l.length 0 (by omega)
end Go.Proofs.Ytggnnnddnppcpaa.PCnfKeepsJoin
/-! text YtggnnnddnppcpaaTurn -/
namespace Go.Proofs.YtggnnnddnppcpaaHand
open Go.RowKit Go.Proofs.YtggnnnddnppcpaaW.PrintWords Go.Proofs.YtggnnnddnppcpaaW.PrintLast Go.Proofs.YtggnnnddnppcpaaMath Go.Proofs.YtggnnnddnppcpaaOwn
set_option linter.unusedVariables false
set_option linter.unusedSimpArgs false
/-- a number turned -/
def negw (x : Int) : Int := wrap64 (-x)
/-- the first i numbers turned -/
def upto (i : Nat) (t : LRow) : LRow := { t with row := (t.row.take i).map negw ++ t.row.drop i }
/-- a head that stands in a list of heads -/
theorem head_at {W : World} {ok : Nat → Prop} {A : Option Addr} {n c : Nat} {hs : List Hd3} (h : (headA (.slice A n c) hs).P W ok) {q : Nat} {u : Hd3} (hq : hs[q]? = some u) : ∃ g, A = some ⟨g, 0, none⟩ ∧ W.cell? ⟨g, q, none⟩ = some (encH u) := by
  have hl := (List.getElem?_eq_some_iff.1 hq).1
  have hR0 : Kd.R headK 43 W 0 ok (.slice A n c) hs := h
  obtain ⟨g, cap, e, _, _, _⟩ := Kd.R_form hR0 (by omega)
  injection e with e1 e2 e3
  subst e1 e2 e3
  have hc := Kd.R_cell (enc := encH) (h1 := fun _ => rfl) (none, 0, 0) hR0 (q : Int) (by omega) (by omega)
  rw [Int.toNat_natCast] at hc
  have hrd : rdOf ((none, 0, 0) : Hd3) hs (q : Int) = u := by simp [rdOf, hq]
  exact ⟨g, rfl, by rw [← hrd]; exact hc.1⟩

end Go.Proofs.YtggnnnddnppcpaaHand
/-! text YtggnnnddnppcpaaOverRows -/
namespace Go.Proofs.YtggnnnddnppcpaaHand
open Go.RowKit Go.Proofs.YtggnnnddnppcpaaW.PrintWords Go.Proofs.YtggnnnddnppcpaaW.PrintLast Go.Proofs.YtggnnnddnppcpaaMath Go.Proofs.YtggnnnddnppcpaaOwn Go.Proofs.Ytggnnnddnppcpaa.PCnfKeepsJoin
set_option linter.unusedVariables false
set_option linter.unusedSimpArgs false
theorem own_raiseD {w : World} {base : Nat} {e : TypeId} {size n : Nat} {v : Value} {xs : List Value} (h : w.ownsRow 0 e size v n xs) (hb : ∀ k, v.ownBlock = some k → base ≤ k) : w.ownsRow base e size v n xs := by
  obtain ⟨h1, h2⟩ := h
  refine ⟨h1, ?_⟩
  rcases h2 with h2 | ⟨g, cap, cur, rfl, hg, hh, r⟩
  · exact .inl h2
  · exact .inr ⟨g, cap, cur, rfl, hb g (by simp [Value.ownBlock]), hh, r⟩
theorem R_raiseD {w : World} {base : Nat} {e : Nat} {v : Value} {xs : List Int} {ok : Nat → Prop} (h : Kd.R (Kd.int .i64) e w 0 ok v xs) (hb : ∀ k, ok k → base ≤ k) : Kd.R (Kd.int .i64) e w base ok v xs := by
  obtain ⟨h0, inner, ho, hr⟩ := h
  exact ⟨h0, inner, own_raiseD ho fun k hk => hb k (h0 k hk), hr⟩
/-- one of the rows is written over -/
theorem overRow_calls {w0 w : World} {X : Nat → Prop} {l : List Asr} (h : Sep w0 X l w) (hX : ∀ b, X b → b < w.heap.size) (j : Nat) {D : List LRow} (hj : l[j]? = some (dataA D)) (i : Nat) (t : LRow) (hi : D[i]? = some t) (hn : t.row.length < 17592186044416) :
    Calls Try.prog 55 #[.slice t.A t.row.length t.c] w fun e w' => e = .returned (.tuple #[]) ∧ ∃ r : List Int, r.length = t.row.length ∧ Sep w0 X (l.set j (dataA (D.set i { t with row := r }))) w' ∧ w.heap.size ≤ w'.heap.size := by
  obtain ⟨r, hr, hev⟩ := depotkit_Over_ev t.row hn
  obtain ⟨k, hk⟩ := hev.rounds
  obtain ⟨f0, h0⟩ := h.get j hj
  have hR := Kd.R_tight rfl (R_raiseD (base := w0.heap.size) (h0 i t hi).1 (fun k hk => hk.1.1))
  refine (depotkit_Over.calls k (fun k => some k = (Value.slice t.A t.row.length t.c).ownBlock) _ t.row r w0 w h.hB hR hk).mono ?_
  rintro e w' ⟨rfl, hR', hB', hK⟩
  refine ⟨rfl, r, hr, h.upd j hj (M := fun k => some k = (Value.slice t.A t.row.length t.c).ownBlock) ⟨hB'.os.trans h.hB.os.symm, hB'.tape.trans h.hB.tape.symm, hB'.output.trans h.hB.output.symm, hK.1, fun k h1 h2 => hK.2 k h1 h2⟩ hX (fun ok hA b hb _ => ?_) fun ok hA hnew => ?_, hK.1⟩
  · obtain ⟨f, hf⟩ := hA
    exact ((hf i t hi).1.1 b hb.symm).1
  · obtain ⟨f, hf⟩ := hA
    refine ⟨f, fun i' u hu => ?_⟩
    have hil := (List.getElem?_eq_some_iff.1 hi).1
    by_cases hii : i' = i
    · subst hii
      rw [List.getElem?_set_self hil] at hu
      obtain rfl := Option.some.inj hu
      have h3 := Kd.R_tight rfl hR'
      show Kd.R (Kd.int .i64) 3 w' 0 _ (.slice t.A r.length t.c) r ∧ t.k ≤ r.length
      rw [hr]
      exact ⟨Kd.R_mono (Kd.R_lower h3 (Nat.zero_le _)) fun k hk => (hf i' t hi).1.1 k hk.symm, (hf i' t hi).2⟩
    · rw [List.getElem?_set_ne (fun e => hii e.symm)] at hu
      refine ⟨Kd.R_step (hf i' u hu).1 (fun k hk hlt => hK.2 k hlt fun e => hii ?_), (hf i' u hu).2⟩
      exact hk.2.symm.trans ((hf i t hi).1.1 k e.symm).2
theorem _root_.Go.Proofs.YtggnnnddnppcpaaOwn.Sep.takeD {w W : World} {X : Nat → Prop} {l : List Asr} (h : Sep w X l W) (k : Nat) : Sep w X (l.take k) W := by
  obtain ⟨f, hf⟩ := h.tags
  refine ⟨h.hB, f, fun i A hi => hf i A ?_⟩
  rw [List.getElem?_take] at hi
  split at hi
  · exact hi
  · simp at hi
/-- rows that lie as they lay, whatever numbers they hold -/
def LikeD (T D : List LRow) : Prop := ∀ (i : Nat) t, T[i]? = some t → ∃ u, D[i]? = some u ∧ u.A = t.A ∧ u.c = t.c ∧ u.row.length = t.row.length
theorem LikeD.set {T D : List LRow} (h : LikeD T D) {i : Nat} {u : LRow} (hu : D[i]? = some u) {r : List Int} (hr : r.length = u.row.length) : LikeD T (D.set i { u with row := r }) := by
  intro m t ht
  by_cases hm : m = i
  · subst hm
    obtain ⟨u', h1, h2, h3, h4⟩ := h m t ht
    rw [hu] at h1
    obtain rfl := Option.some.inj h1
    exact ⟨_, List.getElem?_set_self (List.getElem?_eq_some_iff.1 hu).1, h2, h3, hr.trans h4⟩
  · rw [List.getElem?_set_ne (fun e => hm e.symm)]
    exact h m t ht

set_option maxHeartbeats 8000000 in
set_option maxRecDepth 100000 in
theorem overRows_calls {w0 w : World} {X : Nat → Prop} {l : List Asr} {Aw Ar : Option Addr} {nw cw nr cr : Nat} {hs : List Hd3} {T D : List LRow} (h : Sep w0 X l w) (hX : ∀ b, X b → b < w.heap.size) (iw ir id : Nat) (e1 : id ≠ ir) (e2 : id ≠ iw) (e3 : iw ≠ ir)
    (hw : l[iw]? = some (headA (.slice Aw nw cw) hs)) (hr : l[ir]? = some (headA (.slice Ar nr cr) (T.map LRow.all))) (hd : l[id]? = some (dataA D)) (hT : LikeD T D) (Ai : Option Addr) (ni ci : Nat) (hs1 : hs.length ≤ 1099511627776) (hs2 : T.length ≤ 1099511627776) (hs3 : ∀ t ∈ T, t.row.length < 17592186044416) :
    Calls Try.prog 28 #[.agg #[.slice Ai ni ci, .slice Aw nw cw, .slice Ar nr cr]] w fun e w' => e = .returned (.tuple #[]) ∧ Sep w0 X (((l.set id .emp).set iw .emp).set ir .emp) w' := by
  have hnr := (Kd.R_reads' (h.get ir hr)).1
  have hnw := (Kd.R_reads' (h.get iw hw)).1
  rw [List.length_map] at hnr
  subst hnr hnw
  obtain ⟨B, hB⟩ : ∃ B, B = w.heap.size := ⟨_, rfl⟩
  have hN := h.new hX (.cells #[.slice Ai ni ci, .slice Aw hs.length cw, .slice Ar T.length cr] 33 (0, 0))
  rw [← hB] at hN
  generalize hl2 : l ++ [Asr.blk B (.cells #[.slice Ai ni ci, .slice Aw hs.length cw, .slice Ar T.length cr] 33 (0, 0))] = l2 at hN
  have lt1 := (List.getElem?_eq_some_iff.1 hr).1
  have lt2 := (List.getElem?_eq_some_iff.1 hw).1
  have lt3 := (List.getElem?_eq_some_iff.1 hd).1
  have gr : l2[ir]? = some (headA (.slice Ar T.length cr) (T.map LRow.all)) := by rw [← hl2, List.getElem?_append_left lt1]; exact hr
  have gw : l2[iw]? = some (headA (.slice Aw hs.length cw) hs) := by rw [← hl2, List.getElem?_append_left lt2]; exact hw
  have gd : l2[id]? = some (dataA D) := by rw [← hl2, List.getElem?_append_left lt3]; exact hd
  have gb : l2[l.length]? = some (.blk B (.cells #[.slice Ai ni ci, .slice Aw hs.length cw, .slice Ar T.length cr] 33 (0, 0))) := by rw [← hl2, List.getElem?_append_right (Nat.le_refl _), Nat.sub_self]; rfl
  have HE : Aside0 ((((l2.set id .emp).set iw .emp).set ir .emp).take l.length = ((l.set id .emp).set iw .emp).set ir .emp) := ⟨by
    rw [← hl2, List.set_append_left _ _ lt3, List.set_append_left _ _ (by simpa using lt2), List.set_append_left _ _ (by simpa using lt1), List.take_left' (by simp)]⟩
  have HI : Aside0 (∀ A, (l2.set id A)[ir]? = some (headA (.slice Ar T.length cr) (T.map LRow.all)) ∧ (l2.set id A)[iw]? = some (headA (.slice Aw hs.length cw) hs) ∧ (l2.set id A)[id]? = some A ∧ (l2.set id A)[l.length]? = some (.blk B (.cells #[.slice Ai ni ci, .slice Aw hs.length cw, .slice Ar T.length cr] 33 (0, 0)))) := ⟨fun A => by
    refine ⟨?_, ?_, ?_, ?_⟩
    · rw [List.getElem?_set_ne e1]; exact gr
    · rw [List.getElem?_set_ne e2]; exact gw
    · exact List.getElem?_set_self (by rw [← hl2, List.length_append]; omega)
    · rw [List.getElem?_set_ne (by omega)]; exact gb⟩
  have HI2 : Aside0 (∀ A A', ((l2.set id A).set iw A')[iw]? = some A' ∧ ((l2.set id A).set iw A')[l.length]? = some (.blk B (.cells #[.slice Ai ni ci, .slice Aw hs.length cw, .slice Ar T.length cr] 33 (0, 0)))) := ⟨fun A A' => by
    refine ⟨?_, ?_⟩
    · exact List.getElem?_set_self (by rw [List.length_set, ← hl2, List.length_append]; omega)
    · rw [List.getElem?_set_ne (by omega)]; exact (HI.out A).2.2.2⟩
  have HI3 : Aside0 (∀ A A', ((l2.set id A).set iw A')[id]? = some A ∧ ((((l2.set id A).set iw A').set id .emp)) = ((l2.set id .emp).set iw A') ∧ ((l2.set id Asr.emp).set iw A')[ir]? = some (headA (.slice Ar T.length cr) (T.map LRow.all)) ∧ ((l2.set id Asr.emp).set iw A').set iw .emp = (l2.set id .emp).set iw .emp) := ⟨fun A A' => by
    refine ⟨?_, ?_, ?_, ?_⟩
    · rw [List.getElem?_set_ne e2.symm]; exact (HI.out A).2.2.1
    · rw [List.set_comm _ _ e2.symm, List.set_set]
    · rw [List.getElem?_set_ne e3]; exact (HI.out _).1
    · rw [List.set_set]⟩
  have HX : Aside0 (∀ W : World, w.heap.size ≤ W.heap.size → ∀ b, X b → b < W.heap.size) := ⟨fun W hW b hb => Nat.lt_of_lt_of_le (hX b hb) hW⟩
  have HT := Aside0.mk hT
  have HB := Aside0.mk (And.intro hs1 (And.intro hs2 hs3))
  have HN : Aside0 (Sep w0 X (l2.set id (dataA D)) (w.alloc (.cells #[.slice Ai ni ci, .slice Aw hs.length cw, .slice Ar T.length cr] 33 (0, 0))) ∧ w.heap.size ≤ (w.alloc (.cells #[.slice Ai ni ci, .slice Aw hs.length cw, .slice Ar T.length cr] 33 (0, 0))).heap.size) := ⟨hN.as id gd fun ok hp => hp, by simp⟩
  clear h hX hw hr hd hT hN hs1 hs2 hs3 hl2 lt1 lt2 lt3 gr gw gd gb
  go_enter Try.func28, Try.ntmps28
  go_wp2
  rw [← hB]
  have HBB := Aside0.mk hB
  clear hB
  go_loopw [2] (fun v2 wr => ∃ (k : Nat) (x : Int) (D : List LRow), v2 = .int .i64 x ∧ Aside0 (x = k ∧ k ≤ T.length) ∧ Aside0 (LikeD T D) ∧ Aside0 (Sep w0 X (l2.set id (dataA D)) wr ∧ w.heap.size ≤ wr.heap.size)) (fun i _ => T.length - (intOf i).toNat)
  case atStart => exact ⟨0, 0, D, rfl, ⟨rfl, Nat.zero_le _⟩, HT, HN⟩
  case round =>
    clear HT HN
    obtain ⟨k, x, D, rfl, HK, HT, HQ⟩ := hrel
    obtain ⟨hxk, hk⟩ := HK.out
    have fb1 := (HQ.out.1.cell l.length 1 (HI.out _).2.2.2).trans rfl
    have fb2 := (HQ.out.1.cell l.length 2 (HI.out _).2.2.2).trans rfl
    by_cases hlt : k < T.length
    · have q3 : decide (x < (T.length : Int)) = true := decide_eq_true (by omega)
      have p2 : ((0 : Int) ≤ x) = True := eq_true (by omega)
      have q2 : (x < (T.length : Int)) = True := eq_true (by omega)
      have HX2 : Aside0 (wrap64 (x + 1) = ((k + 1 : Nat) : Int) ∧ k + 1 ≤ T.length) := by
        have := HB.out.2.1
        exact ⟨by rw [w64 (by omega) (by omega)]; omega, by omega⟩
      have hm : (intOf (.int .i64 (wrap64 (x + 1)))).toNat = k + 1 := by rw [HX2.out.1]; simp [intOf]
      have hm0 : (intOf (.int .i64 x)).toNat = k := by rw [hxk]; simp [intOf]
      have HMS : Aside0 (T.length - (intOf (.int .i64 (wrap64 (x + 1)))).toNat < T.length - (intOf (.int .i64 x)).toNat) := ⟨by rw [hm, hm0]; omega⟩
      obtain ⟨t, ht⟩ : ∃ t, T[k]? = some t := ⟨_, List.getElem?_eq_getElem hlt⟩
      obtain ⟨u, hu, u1, u2, u3⟩ := HT.out k t ht
      obtain ⟨g, hA, hc⟩ := head_at (HQ.out.1.get ir (HI.out _).1) (q := k) (u := t.all) (by rw [List.getElem?_map, ht]; rfl)
      obtain ⟨ad, had⟩ : ∃ ad, ad = (⟨g, 0, none⟩ : Addr) := ⟨_, rfl⟩
      rw [← had] at hA
      subst hA
      have hk' : (⟨g, k, none⟩ : Addr) = ad.add x.toNat := by rw [had, hxk, Int.toNat_natCast, add_at, Nat.zero_add]
      rw [hk'] at hc
      replace hc : wr.cell? (ad.add x.toNat) = some (.slice u.A u.row.length u.c) := by rw [u1, u2, u3]; exact hc
      have HC := Aside0.mk (overRow_calls HQ.out.1 (HX.out _ HQ.out.2) id (HI.out _).2.2.1 k u hu (by rw [u3]; exact HB.out.2.2 t (List.mem_of_getElem? ht)))
      have HU := Aside0.mk hu
      clear hm hm0 hk hlt ht had hk' hxk u1 u2 u3 hu
      go_wp2_with (go_at_call 55; (with_reducible refine HC.out.mono ?_); rintro e w' ⟨rfl, r, hr, hsep, hsz⟩; have HR := Aside0.mk (And.intro hr (And.intro hsep hsz)); clear hr hsep hsz)
      go_roundw
      case measure => exact HMS.out
      case rel =>
        refine ⟨k + 1, _, _, rfl, HX2, ⟨HT.out.set HU.out HR.out.1⟩, ⟨?_, Nat.le_trans HQ.out.2 HR.out.2.2⟩⟩
        have h5 := HR.out.2.1
        rw [List.set_set] at h5
        exact h5
    · obtain rfl : k = T.length := by omega
      have q3 : decide (x < (T.length : Int)) = false := decide_eq_false (by omega)
      have HN : Aside0 (Sep w0 X ((l2.set id .emp).set iw (headA (.slice Aw hs.length cw) hs)) wr ∧ w.heap.size ≤ wr.heap.size) := ⟨by
        have h1 := (HQ.out.1.drop id (HI.out _).2.2.1).as iw (A' := headA (.slice Aw hs.length cw) hs) (by rw [List.set_set]; exact (HI.out _).2.1) fun ok hp => hp
        rw [List.set_set] at h1
        exact ⟨h1, HQ.out.2⟩⟩
      clear hk hlt hxk HK HQ HT fb1
      go_wp2
      clear fb2
      go_loopw [3] (fun v3 wr => ∃ (k : Nat) (x : Int) (hs' : List Hd3), v3 = .int .i64 x ∧ Aside0 (x = k ∧ k ≤ hs.length) ∧ Aside0 (hs'.length = hs.length) ∧ Aside0 (Sep w0 X ((l2.set id .emp).set iw (headA (.slice Aw hs.length cw) hs')) wr ∧ w.heap.size ≤ wr.heap.size)) (fun i _ => hs.length - (intOf i).toNat)
      case atStart => exact ⟨0, 0, hs, rfl, ⟨rfl, Nat.zero_le _⟩, ⟨rfl⟩, HN⟩
      case round =>
        clear HN
        obtain ⟨k, x, hs', rfl, HK, HL, HQ⟩ := hrel
        obtain ⟨hxk, hk⟩ := HK.out
        have fb1 := (HQ.out.1.cell l.length 1 (HI2.out _ _).2).trans rfl
        by_cases hlt : k < hs.length
        · have q3 : decide (x < (hs.length : Int)) = true := decide_eq_true (by omega)
          have p2 : ((0 : Int) ≤ x) = True := eq_true (by omega)
          have q2 : (x < (hs.length : Int)) = True := eq_true (by omega)
          have HX2 : Aside0 (wrap64 (x + 1) = ((k + 1 : Nat) : Int) ∧ k + 1 ≤ hs.length) := by
            have := HB.out.1
            exact ⟨by rw [w64 (by omega) (by omega)]; omega, by omega⟩
          have hm : (intOf (.int .i64 (wrap64 (x + 1)))).toNat = k + 1 := by rw [HX2.out.1]; simp [intOf]
          have hm0 : (intOf (.int .i64 x)).toNat = k := by rw [hxk]; simp [intOf]
          have HMS : Aside0 (hs.length - (intOf (.int .i64 (wrap64 (x + 1)))).toNat < hs.length - (intOf (.int .i64 x)).toNat) := ⟨by rw [hm, hm0]; omega⟩
          have hAl := HQ.out.1.keep (below_alloc (Below.refl _ _) (.cells #[.int .i64 1, .int .i64 (-1), .int .i64 2] 3 (0, 0)))
          obtain ⟨g, hA, hle, hc, hf, hput⟩ := hAl.putHead (fun b hb => by have h1 := HX.out wr HQ.out.2 b hb; simp; omega) iw (HI2.out _ _).1 k (by rw [HL.out]; omega)
          replace hput := hput (some ⟨wr.heap.size, 0, none⟩, 3, 3)
          rw [List.set_set] at hput
          obtain ⟨ad, had⟩ : ∃ ad, ad = (⟨g, 0, none⟩ : Addr) := ⟨_, rfl⟩
          rw [← had] at hA
          subst hA
          have hk' : (⟨g, k, none⟩ : Addr) = ad.add x.toNat := by rw [had, hxk, Int.toNat_natCast, add_at, Nat.zero_add]
          rw [hk'] at hc hf hput
          have HP := Aside0.mk hput
          clear hm hm0 hk hlt had hk' hxk hput hAl hle
          go_wp2
          go_roundw
          case measure => exact HMS.out
          case rel => exact ⟨k + 1, _, _, rfl, HX2, ⟨by rw [List.length_set]; exact HL.out⟩, ⟨HP.out, Nat.le_trans HQ.out.2 (by simp)⟩⟩
        · obtain rfl : k = hs.length := by omega
          have q3 : decide (x < (hs.length : Int)) = false := decide_eq_false (by omega)
          clear hk hlt hxk HK
          go_wp2
          go_end0
          refine ⟨rfl, ?_⟩
          have h1 := ((HQ.out.1.drop iw (HI2.out _ _).1).drop ir (by rw [List.set_set, List.getElem?_set_ne e3]; exact (HI.out _).1)).takeD l.length
          rw [List.set_set, HE.out] at h1
          exact h1
end Go.Proofs.YtggnnnddnppcpaaHand
/-! text YtggnnnddnppcpaaApartMath -/
namespace Go.Proofs.YtggnnnddnppcpaaOwn
open Go Go.RowKit Go.Proofs.YtggnnnddnppcpaaW.PrintWords
set_option linter.unusedVariables false
def marks (E : Nat → Value) (n : Nat) : List Value := (List.range n).map E
theorem marks_len (E : Nat → Value) (n : Nat) : (marks E n).length = n := by simp [marks]
theorem marks_succ (E : Nat → Value) (n : Nat) : marks E (n + 1) = marks E n ++ [E n] := by simp [marks, List.range_succ]
theorem marks_at (E : Nat → Value) {n i : Nat} (h : i < n) : (marks E n)[i]? = some (E i) := by simp [marks, h]
theorem marks_take (E : Nat → Value) {n m : Nat} (h : m ≤ n) : (marks E n).take m = marks E m := by
  apply List.ext_getElem?
  intro i
  rw [List.getElem?_take]
  split
  · rename_i h1
    rw [marks_at E h1, marks_at E (by omega)]
  · rw [List.getElem?_eq_none (by rw [marks_len]; omega)]
theorem eq_marks {E : Nat → Value} {xs : List Value} {n : Nat} (hl : xs.length = n) (h : ∀ j, j < n → xs[j]? = some (E j)) : xs = marks E n := by
  apply List.ext_getElem?
  intro i
  by_cases hi : i < n
  · rw [h i hi, marks_at E hi]
  · rw [List.getElem?_eq_none (by omega), List.getElem?_eq_none (by rw [marks_len]; omega)]
section
variable (E : Nat → Nat → Value) (rows : List (Value × Nat))
/-- marked: all rows before k, of row k the first i places -/
def M1 (D : List (Value × List Value)) (k i : Nat) : Prop := ∀ (k' : Nat) p d, rows[k']? = some p → D[k']? = some d → d.1 = p.1 ∧ d.2.length = p.2 ∧ ∀ j, j < p.2 → (k' < k ∨ k' = k ∧ j < i) → d.2[j]? = some (E k' j)
/-- grown: all rows before k, row k by x -/
def M2 (D : List (Value × List Value)) (k x : Nat) : Prop := ∀ (k' : Nat) p d, rows[k']? = some p → D[k']? = some d → (k' < k → d.2 = marks (E k') (p.2 + 64)) ∧ (k' = k → d.2 = marks (E k') (p.2 + x)) ∧ (k < k' → d.2 = marks (E k') p.2)
/-- their list, as far as k -/
def HD (D : List (Value × List Value)) (H : List Value) (k : Nat) : Prop := H.length = k ∧ ∀ (k' : Nat) d, k' < k → D[k']? = some d → H[k']? = some d.1
/-- in front, as marked -/
def M4 (D : List (Value × List Value)) : Prop := ∀ (k' : Nat) p d, rows[k']? = some p → D[k']? = some d → d.2.length = p.2 + 64 ∧ d.2.take p.2 = marks (E k') p.2
variable {E rows} {D : List (Value × List Value)} {H : List Value} {k i : Nat} {p : Value × Nat}
theorem M1.start (hD : ∀ (k' : Nat) p d, rows[k']? = some p → D[k']? = some d → d.1 = p.1 ∧ d.2.length = p.2) : M1 E rows D 0 0 := fun k' p d hp hd => ⟨(hD k' p d hp hd).1, (hD k' p d hp hd).2, fun j _ hj => by omega⟩
theorem M1.mark {v : Value} {xs : List Value} (h : M1 E rows D k i) (hp : rows[k]? = some p) (hd : D[k]? = some (v, xs)) (hi : i < p.2) : M1 E rows (D.set k (v, xs.set i (E k i))) k (i + 1) := by
  intro k' p' d' hp' hd'
  rw [List.getElem?_set] at hd'
  by_cases hk : k = k'
  · subst hk
    rw [hp] at hp'
    injection hp' with hp'
    subst hp'
    rw [if_pos rfl, if_pos (List.getElem?_eq_some_iff.1 hd).1] at hd'
    injection hd' with hd'
    subst hd'
    obtain ⟨h1, h2, h3⟩ := h k p _ hp hd
    refine ⟨h1, by simpa using h2, fun j hj hjj => ?_⟩
    rw [List.getElem?_set]
    split
    · rename_i hij
      subst hij
      have : i < xs.length := by have := h2; simp only at this; omega
      simp [this]
    · exact h3 j hj (by omega)
  · rw [if_neg hk] at hd'
    obtain ⟨h1, h2, h3⟩ := h k' p' d' hp' hd'
    exact ⟨h1, h2, fun j hj hjj => h3 j hj (by omega)⟩
theorem M1.next (h : M1 E rows D k p.2) (hp : rows[k]? = some p) : M1 E rows D (k + 1) 0 := fun k' p' d' hp' hd' => by
  obtain ⟨h1, h2, h3⟩ := h k' p' d' hp' hd'
  refine ⟨h1, h2, fun j hj hjj => h3 j hj ?_⟩
  by_cases hk : k' = k
  · subst hk
    rw [hp] at hp'
    injection hp' with hp'
    subst hp'
    omega
  · omega
theorem M1.done (h : M1 E rows D rows.length 0) : M2 E rows D 0 0 := fun k' p d hp hd => by
  obtain ⟨h1, h2, h3⟩ := h k' p d hp hd
  have hk := (List.getElem?_eq_some_iff.1 hp).1
  have h4 : d.2 = marks (E k') p.2 := eq_marks h2 fun j hj => h3 j hj (by omega)
  exact ⟨fun hlt => by omega, fun _ => h4, fun _ => h4⟩
theorem M2.set {d d' : Value × List Value} {x : Nat} (h : M2 E rows D k i) (hp : rows[k]? = some p) (hd : D[k]? = some d) (hd' : d'.2 = marks (E k) (p.2 + x)) : M2 E rows (D.set k d') k x := by
  intro k' p' d2 hp' hd2
  rw [List.getElem?_set] at hd2
  by_cases hk : k = k'
  · subst hk
    rw [hp] at hp'
    injection hp' with hp'
    subst hp'
    rw [if_pos rfl, if_pos (List.getElem?_eq_some_iff.1 hd).1] at hd2
    injection hd2 with hd2
    subst hd2
    exact ⟨fun h => by omega, fun _ => hd', fun h => by omega⟩
  · rw [if_neg hk] at hd2
    obtain ⟨h1, h2, h3⟩ := h k' p' d2 hp' hd2
    exact ⟨h1, fun e => absurd e.symm hk, h3⟩
theorem M2.next (h : M2 E rows D k 64) : M2 E rows D (k + 1) 0 := fun k' p' d' hp' hd' => by
  obtain ⟨h1, h2, h3⟩ := h k' p' d' hp' hd'
  refine ⟨fun hk => ?_, fun hk => h3 (by omega), fun hk => h3 (by omega)⟩
  by_cases hk2 : k' = k
  · exact h2 hk2
  · exact h1 (by omega)
theorem M2.row {d : Value × List Value} (h : M2 E rows D k i) (hp : rows[k]? = some p) (hd : D[k]? = some d) : d.2 = marks (E k) (p.2 + i) := (h k p d hp hd).2.1 rfl
theorem M2.full {d : Value × List Value} (h : M2 E rows D rows.length 0) (hp : rows[k]? = some p) (hd : D[k]? = some d) : d.2 = marks (E k) (p.2 + 64) := (h k p d hp hd).1 (List.getElem?_eq_some_iff.1 hp).1
theorem M2.four (h : M2 E rows D rows.length 0) : M4 E rows D := fun k p d hp hd => by
  have := h.full hp hd
  rw [this]
  exact ⟨marks_len _ _, marks_take _ (by omega)⟩
theorem HD.start : HD D [] 0 := ⟨rfl, fun k' d h => by omega⟩
theorem HD.set {d : Value × List Value} (h : HD D H k) : HD (D.set k d) H k := ⟨h.1, fun k' d' hk hd' => by
  rw [List.getElem?_set, if_neg (by omega)] at hd'
  exact h.2 k' d' hk hd'⟩
theorem HD.push {d : Value × List Value} (h : HD D H k) (hd : D[k]? = some d) : HD D (H ++ [d.1]) (k + 1) := by
  refine ⟨by simp [h.1], fun k' d' hk hd' => ?_⟩
  by_cases hk2 : k' = k
  · subst hk2
    rw [hd] at hd'
    injection hd' with hd'
    subst hd'
    rw [List.getElem?_append_right (by rw [h.1]; exact Nat.le_refl _), h.1, Nat.sub_self]; rfl
  · rw [List.getElem?_append_left (by rw [h.1]; omega)]
    exact h.2 k' d' (by omega) hd'
theorem HD.put {n : Nat} {d : Value × List Value} (h : HD D H n) (hk : k < n) : HD (D.set k d) (H.set k d.1) n := by
  refine ⟨by simpa using h.1, fun k' d' hk' hd' => ?_⟩
  rw [List.getElem?_set] at hd' ⊢
  by_cases hk2 : k = k'
  · subst hk2
    rw [if_pos rfl] at hd' ⊢
    split at hd'
    · injection hd' with hd'
      subst hd'
      rw [if_pos (by rw [h.1]; exact hk)]
    · cases hd'
  · rw [if_neg hk2] at hd' ⊢
    exact h.2 k' d' hk' hd'
theorem M4.set {d d' : Value × List Value} {ms : List Value} (h : M4 E rows D) (hp : rows[k]? = some p) (hd : D[k]? = some d) (hm : ms.length = 64) (hd' : d'.2 = d.2.take p.2 ++ ms) : M4 E rows (D.set k d') := by
  intro k' p' d2 hp' hd2
  rw [List.getElem?_set] at hd2
  by_cases hk : k = k'
  · subst hk
    rw [hp] at hp'
    injection hp' with hp'
    subst hp'
    rw [if_pos rfl, if_pos (List.getElem?_eq_some_iff.1 hd).1] at hd2
    injection hd2 with hd2
    subst hd2
    obtain ⟨h1, h2⟩ := h k p d hp hd
    rw [hd', h2]
    refine ⟨by rw [List.length_append, marks_len, hm], ?_⟩
    rw [List.take_append_of_le_length (by rw [marks_len]; exact Nat.le_refl _), List.take_of_length_le (by rw [marks_len]; exact Nat.le_refl _)]
  · rw [if_neg hk] at hd2
    exact h k' p' d2 hp' hd2
end
end Go.Proofs.YtggnnnddnppcpaaOwn
