/- What lits.Taut answers. -/
import Derived.Test.YtggnnnddnppcpaaDoorClCnfMeansUptoCardg
import Derived.Test.YtggnnnddnppcpaaDoorClCnfMeansUptoCardf
import Derived.BigQuiet
import Derived.Deep.LoopGhost
import Derived.Maps.OwnSet
import Derived.Maps.OwnIn
import Derived.WalkKit
import Derived.Below
import Derived.Deep.Draws
import Derived.Test.YtggnnnddnppcpaaDoorClCnfMeansUptoCarde
/-! text YtggnnnddnppcpaaDoorLitsTaut -/
namespace Go.Proofs.YtggnnnddnppcpaaDoorMath
open Go.RowKit Go.Proofs.YtggnnnddnppcpaaDoorW.PrintWords
def tautL : Nat → List Int → Int → Option Bool
  | 0, _, _ => none
  | k + 1, t, x => if x < (t.length : Int) then (if 0 ≤ x then (if 0 ≤ (wrap64 (x - 1)) then (if (wrap64 (x - 1)) < (t.length : Int) then (if (rd t x) = (wrap64 (-(rd t (wrap64 (x - 1))))) then (some true) else (tautL k t (wrap64 (x + 1)))) else (none)) else (none)) else (none)) else (some false)
theorem tautL_ev (t : List Int) (hf : ∀ x ∈ t, formed x = true) (hn : t.length ≤ 17592186044416) (d : Nat) : ∀ i : Nat, 0 < i → i + d = t.length → Ev (fun k => tautL k t (i : Int)) (tautIn (t.drop (i - 1))) := by
  induction d with
  | zero =>
    intro i h0 hi
    refine Ev.succ ?_
    simp only [tautL]
    have h1 : ¬ ((i : Int) < (t.length : Int)) := by omega
    simp only [h1, if_false]
    rw [drop_rd (show i - 1 < t.length by omega), List.drop_of_length_le (by omega)]
    exact Ev.now _
  | succ d ih =>
    intro i h0 hi
    refine Ev.succ ?_
    simp only [tautL]
    have h1 : (i : Int) < (t.length : Int) := by omega
    have h2 : (0 : Int) ≤ (i : Int) := by omega
    have h3 : (0 : Int) ≤ ((i - 1 : Nat) : Int) := by omega
    have h4 : ((i - 1 : Nat) : Int) < (t.length : Int) := by omega
    have hb := formed_bd (hf _ (rd_mem (show i - 1 < t.length by omega)))
    have e1 : wrap64 (-(rd t ((i - 1 : Nat) : Int))) = -(rd t ((i - 1 : Nat) : Int)) := by unfold wrap64; omega
    simp only [h1, h2, if_true, w64p h0 (show (i : Int) < 9223372036854775807 by omega), h3, h4, e1, w64s (show (i : Int) < 9223372036854775807 by omega)]
    rw [drop_rd (show i - 1 < t.length by omega), show i - 1 + 1 = i by omega, drop_rd (show i < t.length by omega)]
    have := ih (i + 1) (by omega) (by omega)
    rw [show i + 1 - 1 = i by omega, drop_rd (show i < t.length by omega)] at this
    by_cases c : rd t (i : Int) = -(rd t ((i - 1 : Nat) : Int))
    · have : (rd t (i : Int) == -(rd t ((i - 1 : Nat) : Int))) = true := by simpa using c
      simp only [c, if_true, tautIn, beq_self_eq_true, Bool.true_or]
      exact Ev.now _
    · have e : (rd t (i : Int) == -(rd t ((i - 1 : Nat) : Int))) = false := by simpa using c
      simp only [c, if_false, tautIn, e, Bool.false_or]
      exact this
theorem tautL_all (l : List Int) (hn : l.length ≤ 17592186044416) : Ev (fun k => tautL k (tidyOf l) 1) (tautIn (tidyOf l)) := by
  have ht := tidyOf_length l
  by_cases h : (tidyOf l).length = 0
  · rw [List.eq_nil_of_length_eq_zero h]
    refine Ev.succ ?_
    simp only [tautL]
    exact Ev.now _
  · have := tautL_ev (tidyOf l) (fun _ h => tidyOf_formed h) (by omega) ((tidyOf l).length - 1) 1 (by omega) (by omega)
    simpa using this
end Go.Proofs.YtggnnnddnppcpaaDoorMath
namespace Go.Proofs.YtggnnnddnppcpaaDoorHand
open Go.RowKit Go.Proofs.YtggnnnddnppcpaaDoorW.PrintWords Go.Proofs.YtggnnnddnppcpaaDoorW.PrintLast Go.Proofs.YtggnnnddnppcpaaDoorMath
set_option linter.unusedVariables false
set_option linter.unusedSimpArgs false

set_option maxHeartbeats 4000000 in
set_option maxRecDepth 100000 in
theorem taut_calls (A0 : Option Addr) (c0 : Nat) (l0 : List Int) (w : World) (hr0 : Kd.C (Kd.int .i64) w A0 l0.length l0) (hc0 : l0.length ≤ c0) (hn : l0.length ≤ 17592186044416) :
    Calls Tryd.prog 24 #[.slice A0 l0.length c0] w fun e w' => e = .returned (.bool (tautIn (tidyOf l0))) ∧ Below w.heap.size w w' := by
  obtain ⟨k, H⟩ := (tautL_all l0 hn).rounds
  obtain ⟨r, hr⟩ : ∃ r, r = tautIn (tidyOf l0) := ⟨_, rfl⟩
  rw [← hr] at H ⊢
  have T0 := Aside0.mk fun w (h : Kd.C (Kd.int .i64) w A0 l0.length l0) => tidy_calls A0 c0 l0 w h hc0 hn
  have HR0 := Aside0.mk hr0
  have HB := Aside0.mk (Below.refl w.heap.size w)
  have H' := Aside0.mk H
  clear H hr hr0 hc0 hn
  go_enter Tryd.func24, Tryd.ntmps24
  go_wp2_with (go_at_call 22; (with_reducible refine (T0.out _ HR0.out).mono ?_); rintro e w3 ⟨v170, rfl, ho0, hb⟩; have HO171 := Aside0.mk ho0; clear HB; have HB := Aside0.mk hb; clear hb ho0)
  go_loopg [4] k (fun kq v4 w' => ∃ (x4_1 : Int), v4 = .int .i64 x4_1 ∧ Aside0 (tautL kq (tidyOf l0) x4_1 = some r) ∧ Aside0 (kq ≤ k) ∧ Aside0 (Kd.R (Kd.int .i64) 3 w' w.heap.size (fun _ => True) v170 (tidyOf l0)) ∧ Aside0 (Below w.heap.size w w'))
  case atStart => exact ⟨(1), (by first | rfl | (simp; done) | (simp [*]; done)), H', ⟨Nat.le_refl _⟩, ⟨by (with_reducible repeat (first | apply Kd.R_alloc | apply Kd.R_drewN | apply Kd.R_drew)); exact HO171.out⟩, ⟨by repeat (first | (with_reducible first | exact HB.out | apply below_alloc | apply pw_below_drewN | apply below_drew1) | exact HB.out)⟩⟩
  case round =>
    clear H'
    try clear p2
    obtain ⟨x4_1, rfl, HA, HK1, HO_3, HB⟩ := hrel
    cases gk with
    | zero => exact absurd HA.out (by simp [tautL])
    | succ k1 =>
      have H := HA.out
      clear HA
      simp only [tautL] at H
      by_cases c4 : x4_1 < ((tidyOf l0).length : Int)
      · rw [if_pos c4] at H
        have c4b0 : decide (x4_1 < ((tidyOf l0).length : Int)) = true := decide_eq_true c4
        clear c4
        by_cases c5 : 0 ≤ x4_1
        · rw [if_pos c5] at H
          have c5b0 : decide (0 ≤ x4_1) = true := decide_eq_true c5
          clear c5
          obtain ⟨ji6, hji6⟩ : ∃ j_ : Int, (wrap64 (x4_1 - 1)) = j_ := ⟨_, rfl⟩
          replace H : (if 0 ≤ (ji6) then (if (ji6) < ((tidyOf l0).length : Int) then (if (rd (tidyOf l0) x4_1) = (wrap64 (-(rd (tidyOf l0) (ji6)))) then (some true) else (tautL k1 (tidyOf l0) (wrap64 (x4_1 + 1)))) else (none)) else (none)) = some r := by first | (rw [hji6] at H; exact H) | (simp only [hji6] at H ⊢; exact H)
          have hji6w : (IntKind.i64.wrap (x4_1 - 1)) = ji6 := (i64_w _).trans hji6
          by_cases c7 : 0 ≤ (ji6)
          · rw [if_pos c7] at H
            have c7b0 : decide (0 ≤ (ji6)) = true := decide_eq_true c7
            clear c7
            by_cases c8 : (ji6) < ((tidyOf l0).length : Int)
            · rw [if_pos c8] at H
              have c8b0 : decide ((ji6) < ((tidyOf l0).length : Int)) = true := decide_eq_true c8
              clear c8
              by_cases c9 : (rd (tidyOf l0) x4_1) = (wrap64 (-(rd (tidyOf l0) (ji6))))
              · rw [if_pos c9] at H
                have c9b0 : ((rd (tidyOf l0) x4_1) == (wrap64 (-(rd (tidyOf l0) (ji6))))) = true := beq_iff_eq.mpr c9
                have c9b1 : ((rd (tidyOf l0) x4_1) != (wrap64 (-(rd (tidyOf l0) (ji6))))) = false := bne_eq_false_iff_eq.mpr c9
                clear c9
                obtain rfl := Option.some.inj H
                obtain ⟨Ao10, co10, eo10⟩ := Kd.R_slice HO_3.out
                subst eo10
                have p172 : 0 ≤ (x4_1 : Int) := of_decide_eq_true (by first | (with_reducible assumption) | assumption)
                have q172 : x4_1 < ((tidyOf l0).length : Int) := of_decide_eq_true (by first | (with_reducible assumption) | assumption)
                obtain ⟨ad172, e172, hx172_0⟩ := Kd.at_int (Kd.R_reads' HO_3.out).2.2 x4_1 p172 q172
                cases e172
                replace p172 := eq_true p172
                replace q172 := eq_true q172
                have p173 : 0 ≤ ((ji6) : Int) := of_decide_eq_true (by first | (with_reducible assumption) | assumption)
                have q173 : (ji6) < ((tidyOf l0).length : Int) := of_decide_eq_true (by first | (with_reducible assumption) | assumption)
                obtain ⟨ad173, e173, hx173_0⟩ := Kd.at_int (Kd.R_reads' HO_3.out).2.2 (ji6) p173 q173
                obtain rfl : ad172 = ad173 := (by injection e173)
                replace p173 := eq_true p173
                replace q173 := eq_true q173
                go_wp2
                repeat (go_quiet (fail); try go_wp2)
                go_ret
                exact ⟨by first | rfl | (simp [errW_none, errW_some] <;> rfl) | (simp only [← hji6]; first | rfl | (simp [errW_none, errW_some] <;> rfl)) | (simp [*, errW_none, errW_some] <;> rfl), by repeat (first | (with_reducible first | exact HB.out | apply below_alloc | apply pw_below_drewN | apply below_drew1) | exact HB.out)⟩
              · rw [if_neg c9] at H
                have c9b0 : ((rd (tidyOf l0) x4_1) == (wrap64 (-(rd (tidyOf l0) (ji6))))) = false := beq_eq_false_iff_ne.mpr c9
                have c9b1 : ((rd (tidyOf l0) x4_1) != (wrap64 (-(rd (tidyOf l0) (ji6))))) = true := bne_iff_ne.mpr c9
                have H' := Aside0.mk H
                clear H
                obtain ⟨Ao11, co11, eo11⟩ := Kd.R_slice HO_3.out
                subst eo11
                have p172 : 0 ≤ (x4_1 : Int) := of_decide_eq_true (by first | (with_reducible assumption) | assumption)
                have q172 : x4_1 < ((tidyOf l0).length : Int) := of_decide_eq_true (by first | (with_reducible assumption) | assumption)
                obtain ⟨ad172, e172, hx172_0⟩ := Kd.at_int (Kd.R_reads' HO_3.out).2.2 x4_1 p172 q172
                cases e172
                replace p172 := eq_true p172
                replace q172 := eq_true q172
                have p173 : 0 ≤ ((ji6) : Int) := of_decide_eq_true (by first | (with_reducible assumption) | assumption)
                have q173 : (ji6) < ((tidyOf l0).length : Int) := of_decide_eq_true (by first | (with_reducible assumption) | assumption)
                obtain ⟨ad173, e173, hx173_0⟩ := Kd.at_int (Kd.R_reads' HO_3.out).2.2 (ji6) p173 q173
                obtain rfl : ad172 = ad173 := (by injection e173)
                replace p173 := eq_true p173
                replace q173 := eq_true q173
                go_wp2
                repeat (go_quiet (fail); try go_wp2)
                go_roundg k1
                case measure => have := HK1.out; omega
                case rel => exact ⟨(wrap64 (x4_1 + 1)), (by first | rfl | (simp; done) | (simp [*]; done)), H', ⟨by have := HK1.out; omega⟩, ⟨by (with_reducible repeat (first | apply Kd.R_alloc | apply Kd.R_drewN | apply Kd.R_drew)); exact HO_3.out⟩, ⟨by repeat (first | (with_reducible first | exact HB.out | apply below_alloc | apply pw_below_drewN | apply below_drew1) | exact HB.out)⟩⟩
            · rw [if_neg c8] at H
              exact absurd H (by simp)
          · rw [if_neg c7] at H
            exact absurd H (by simp)
        · rw [if_neg c5] at H
          exact absurd H (by simp)
      · rw [if_neg c4] at H
        have c4b0 : decide (x4_1 < ((tidyOf l0).length : Int)) = false := decide_eq_false c4
        clear c4
        obtain rfl := Option.some.inj H
        obtain ⟨Ao12, co12, eo12⟩ := Kd.R_slice HO_3.out
        subst eo12
        go_wp2
        repeat (go_quiet (fail); try go_wp2)
        go_ret
        exact ⟨by first | rfl | (simp [errW_none, errW_some] <;> rfl) | (simp [*, errW_none, errW_some] <;> rfl), by repeat (first | (with_reducible first | exact HB.out | apply below_alloc | apply pw_below_drewN | apply below_drew1) | exact HB.out)⟩

end Go.Proofs.YtggnnnddnppcpaaDoorHand
/-! text YtggnnnddnppcpaaDoorIntMap -/
namespace Go.Proofs.YtggnnnddnppcpaaDoorMaps
open Go Go.Maps Go.RowKit
set_option linter.unusedVariables false
set_option linter.unusedSimpArgs false

/-- kinds of keys -/
structure Keys (κ : Type) where
  kl : κ → Lit
  inj : ∀ {a b}, kl a = kl b → a = b
  isKey : ∀ a, WideAt.IsKeyLit (kl a)
def intKeys : Keys Int where
  kl := Lit.int .i64
  inj := fun h => by injection h
  isKey := fun a => by simp [WideAt.IsKeyLit]
def strKeys : Keys (List UInt8) where
  kl := Lit.string
  inj := fun h => by injection h
  isKey := fun a => by simp [WideAt.IsKeyLit]
/-- kinds of elements -/
structure Elem (α : Type) where
  enc : α → Value
  el : α → DataW Unit
  R : Value → Option (DataW Unit × List MemPlace)
  ok : α → Prop
  inv : ∀ {v z}, R v = some z → ∃ a, v = enc a ∧ z.1 = el a
  reads : ∀ {a}, ok a → R (enc a) = some (el a, [])
  inj : ∀ {a b}, el a = el b → a = b
def intElem (P : Program) (e : TypeId) (he : P.underlying e = some (.int .i64)) : Elem Int where
  enc := Value.int .i64
  el := fun c => .lit (.int .i64 c)
  R := plainElem P e
  ok := fun c => (Lit.int .i64 c).wf = true
  inv := fun h => by
    obtain ⟨a, rfl, rfl, _⟩ := plainElem_int_inv he h
    exact ⟨a, rfl, rfl⟩
  reads := fun h => plainElem_int he h
  inj := fun h => by injection h with h; injection h
noncomputable def markR (v : Value) : Option (DataW Unit × List MemPlace) := by classical exact if v = .agg #[.bool true] then some (.lit (.bool true), []) else if v = .agg #[.bool false] then some (.lit (.bool false), []) else none
noncomputable def markElem : Elem Bool where
  enc := fun b => .agg #[.bool b]
  el := fun b => .lit (.bool b)
  R := markR
  ok := fun _ => True
  inv := fun {v z} h => by
    unfold markR at h
    split at h
    · rename_i hv
      cases h
      exact ⟨true, hv, rfl⟩
    · split at h
      · rename_i hv
        cases h
        exact ⟨false, hv, rfl⟩
      · cases h
  reads := fun {a} _ => by cases a <;> simp [markR]
  inj := fun h => by injection h with h; injection h

variable {κ α : Type}
/-- Block B of W is a map that holds at each key what f says: at most n, just c of them. -/
def IM (P : Program) (k : TypeId) (Ky : Keys κ) (E : Elem α) (W : World) (B n : Nat) (f : κ → Option α) (c : Nat) : Prop :=
  ∃ D, W.ownsMap P k E.R B n D ∧ Maps.size D = c ∧ ∀ x, Maps.has D (Ky.kl x) = (f x).isSome ∧ ∀ z, D.atKey (Ky.kl x) z = ((f x).map E.el).getD z

noncomputable def upd (f : κ → Option α) (x : κ) (v : α) : κ → Option α := by classical exact fun y => if y = x then some v else f y
noncomputable def del (f : κ → Option α) (x : κ) : κ → Option α := by classical exact fun y => if y = x then none else f y
theorem upd_same (f : κ → Option α) (x : κ) (v : α) : upd f x v x = some v := by simp [upd]
theorem upd_other (f : κ → Option α) {x y : κ} (v : α) (h : y ≠ x) : upd f x v y = f y := by simp [upd, h]
theorem del_same (f : κ → Option α) (x : κ) : del f x x = none := by simp [del]
theorem del_other (f : κ → Option α) {x y : κ} (h : y ≠ x) : del f x y = f y := by simp [del, h]

section
variable {P : Program} {k : TypeId} {Ky : Keys κ} {E : Elem α} {W : World} {B n c : Nat} {f : κ → Option α}
theorem IM.made (W : World) : IM P k Ky E (W.alloc (.map #[] 0)) W.heap.size 0 (fun _ => none) 0 :=
  ⟨_, World.ownsMap_made W P k E.R, rfl, fun x => ⟨rfl, fun z => rfl⟩⟩
theorem IM.lt (h : IM P k Ky E W B n f c) : B < W.heap.size := by
  obtain ⟨D, h, _⟩ := h
  exact h.lt
theorem IM.kept {W' : World} {row : Option Nat} (h : IM P k Ky E W B n f c) (hg : W.grownBy W' row) (hne : some B ≠ row) : IM P k Ky E W' B n f c := by
  obtain ⟨D, h, r⟩ := h
  exact ⟨D, h.kept hg hne, r⟩
theorem IM.block {W' : World} (h : IM P k Ky E W B n f c) (hb : W'.heap[B]? = W.heap[B]?) : IM P k Ky E W' B n f c := by
  obtain ⟨D, ⟨es, clock, h1, h2⟩, r⟩ := h
  exact ⟨D, ⟨es, clock, hb.trans h1, h2⟩, r⟩
theorem IM.below {W' : World} (h : IM P k Ky E W B n f c) (hb : Below W.heap.size W W') : IM P k Ky E W' B n f c := h.block (hb.block B h.lt)
theorem IM.alloc (h : IM P k Ky E W B n f c) (o : Obj) : IM P k Ky E (W.alloc o) B n f c := by
  obtain ⟨D, h, r⟩ := h
  exact ⟨D, h.alloc o, r⟩
theorem IM.drewN (h : IM P k Ky E W B n f c) (m : Nat) : IM P k Ky E (W.drewN m) B n f c := h
theorem IM.drew (h : IM P k Ky E W B n f c) : IM P k Ky E W.drew B n f c := h
theorem IM.setCell (h : IM P k Ky E W B n f c) {a : Addr} (ha : B ≠ a.block) (u : Value) : IM P k Ky E (W.setCell a u) B n f c := by
  obtain ⟨D, h, r⟩ := h
  exact ⟨D, h.setCell ha u, r⟩
theorem IM.mono (h : IM P k Ky E W B n f c) {n' : Nat} (hn : n ≤ n') : IM P k Ky E W B n' f c := by
  obtain ⟨D, h, r⟩ := h
  exact ⟨D, h.mono hn, r⟩
theorem IM.congr (h : IM P k Ky E W B n f c) {g : κ → Option α} (hg : ∀ x, g x = f x) : IM P k Ky E W B n g c := by
  obtain rfl : g = f := funext hg
  exact h
theorem IM.size_le (h : IM P k Ky E W B n f c) : c ≤ n := by
  obtain ⟨D, h, rfl, _⟩ := h
  exact h.size_le
theorem put_reads {D : DataW Unit} (hD : Maps.Tidy D) (hr : ∀ x, Maps.has D (Ky.kl x) = (f x).isSome ∧ ∀ z, D.atKey (Ky.kl x) z = ((f x).map E.el).getD z) (x : κ) (v : α) :
    Maps.size (D.put (Ky.kl x) (E.el v)) = (if (f x).isSome = true then Maps.size D else Maps.size D + 1) ∧ ∀ y, Maps.has (D.put (Ky.kl x) (E.el v)) (Ky.kl y) = (upd f x v y).isSome ∧ ∀ z, (D.put (Ky.kl x) (E.el v)).atKey (Ky.kl y) z = ((upd f x v y).map E.el).getD z := by
  refine ⟨by rw [Maps.size_put hD, (hr x).1], fun y => ?_⟩
  by_cases hy : y = x
  · subst hy
    rw [upd_same]
    exact ⟨Maps.has_put_same hD.isMap (Ky.isKey _) _, fun z => Maps.atKey_put_same hD.isMap (Ky.isKey _) _ z⟩
  · rw [upd_other f v hy]
    have hne : Ky.kl y ≠ Ky.kl x := fun h => hy (Ky.inj h)
    exact ⟨(Maps.has_put_other hne _).trans (hr y).1, fun z => (Maps.atKey_put_other hne _ z).trans ((hr y).2 z)⟩
theorem del_reads {D : DataW Unit} (hD : Maps.Tidy D) (hr : ∀ x, Maps.has D (Ky.kl x) = (f x).isSome ∧ ∀ z, D.atKey (Ky.kl x) z = ((f x).map E.el).getD z) (x : κ) :
    Maps.size (D.del (Ky.kl x)) = (if (f x).isSome = true then Maps.size D - 1 else Maps.size D) ∧ ∀ y, Maps.has (D.del (Ky.kl x)) (Ky.kl y) = (del f x y).isSome ∧ ∀ z, (D.del (Ky.kl x)).atKey (Ky.kl y) z = ((del f x y).map E.el).getD z := by
  refine ⟨?_, fun y => ?_⟩
  · have h := Maps.size_del (k := Ky.kl x) hD
    rw [(hr x).1] at h
    split <;> simp_all <;> omega
  by_cases hy : y = x
  · subst hy
    rw [del_same]
    exact ⟨Maps.has_del_same, fun z => Maps.atKey_del_same z⟩
  · rw [del_other f hy]
    have hne : Ky.kl y ≠ Ky.kl x := fun h => hy (Ky.inj h)
    exact ⟨(Maps.has_del_other hne).trans (hr y).1, fun z => (Maps.atKey_del_other hne z).trans ((hr y).2 z)⟩
theorem IM.look (h : IM P k Ky E W B n f c) {t e : TypeId} (K : Keyed P k) (ht : P.underlying t = some (.map k e)) {z : α} (hz : (zeroValue e).run P W = .ok (E.enc z) W) (hzk : E.ok z) {xv : Value} {x : κ} (hkey : keyOf P k xv = some (Ky.kl x)) :
    (Instr.lookup t (.map (some B)) xv false).run P W = .ok (E.enc ((f x).getD z)) W := by
  obtain ⟨D, h, _, hr⟩ := h
  obtain ⟨v, ps, hrun, hv⟩ := h.lookup K ht hz (E.reads hzk) hkey
  obtain ⟨a, rfl, ha⟩ := E.inv hv
  rw [(hr x).2] at ha
  have : a = (f x).getD z := by
    cases hf : f x with
    | none => rw [hf] at ha; exact (E.inj ha).symm
    | some b => rw [hf] at ha; exact (E.inj ha).symm
  rw [hrun, this]
theorem IM.look_ok (h : IM P k Ky E W B n f c) {t e : TypeId} (K : Keyed P k) (ht : P.underlying t = some (.map k e)) {z : α} (hz : (zeroValue e).run P W = .ok (E.enc z) W) (hzk : E.ok z) {xv : Value} {x : κ} (hkey : keyOf P k xv = some (Ky.kl x)) :
    (Instr.lookup t (.map (some B)) xv true).run P W = .ok (.tuple #[E.enc ((f x).getD z), .bool (f x).isSome]) W := by
  obtain ⟨D, h, _, hr⟩ := h
  obtain ⟨v, ps, hrun, hv⟩ := h.look_ok K ht hz (E.reads hzk) hkey
  obtain ⟨a, rfl, ha⟩ := E.inv hv
  rw [(hr x).2] at ha
  have : a = (f x).getD z := by
    cases hf : f x with
    | none => rw [hf] at ha; exact (E.inj ha).symm
    | some b => rw [hf] at ha; exact (E.inj ha).symm
  rw [hrun, this, (hr x).1]
theorem IM.store (h : IM P k Ky E W B n f c) {t e : TypeId} (K : Keyed P k) (ht : P.underlying t = some (.map k e)) (hn : n < maxLen) {xv : Value} {x : κ} {v : α} (hkey : keyOf P k xv = some (Ky.kl x)) (hv : E.ok v) :
    ∃ w', (Instr.mapUpdate t (.map (some B)) xv (E.enc v)).run P W = .ok () w' ∧ IM P k Ky E w' B (n + 1) (upd f x v) (if (f x).isSome = true then c else c + 1) ∧ W.grownBy w' (some B) := by
  obtain ⟨D, h, rfl, hr⟩ := h
  obtain ⟨w', hrun, h1, h2⟩ := h.update K ht hn hkey (E.reads hv)
  obtain ⟨p1, p2⟩ := put_reads (h.tidy K) hr x v
  exact ⟨w', hrun, ⟨_, h1, p1, p2⟩, h2⟩
theorem IM.drop (h : IM P k Ky E W B n f c) {t e : TypeId} (K : Keyed P k) (ht : P.underlying t = some (.map k e)) {xv : Value} {x : κ} (hkey : keyOf P k xv = some (Ky.kl x)) (ty : TypeId) :
    ∃ w', (Builtin.delete_ #[t, k] ty #[.map (some B), xv]).run P W = .ok (.tuple #[]) w' ∧ IM P k Ky E w' B n (del f x) (if (f x).isSome = true then c - 1 else c) ∧ W.grownBy w' (some B) := by
  obtain ⟨D, h, rfl, hr⟩ := h
  obtain ⟨w', hrun, h1, h2⟩ := h.drop K ht hkey ty
  obtain ⟨p1, p2⟩ := del_reads (h.tidy K) hr x
  exact ⟨w', hrun, ⟨_, h1, p1, p2⟩, h2.grown⟩
theorem IM.len (h : IM P k Ky E W B n f c) {t e : TypeId} (ht : P.underlying t = some (.map k e)) (ty : TypeId) : (Builtin.len_ #[t] ty #[.map (some B)]).run P W = .ok (.int .i64 c) W := by
  obtain ⟨D, h, rfl, _⟩ := h
  exact h.len ht ty
end

/-! at the operation, for the walk -/
section
variable {P : Program} (w : World) {ops : Array Oper} {rest : List Oper} {o : Oper} {a : Act} {Q : Exit → Act → World → Prop} {k e : TypeId} {Ky : Keys κ} {E : Elem α} {B n c : Nat} {f : κ → Option α}
theorem im_look (hg : o.guard = none) (m x : Operand) (t : TypeId) (hop : o.op = Op.lookup t m x false) (K : Keyed P k) (ht : P.underlying t = some (.map k e)) {z : α} (hz : (zeroValue e).run P w = .ok (E.enc z) w) (hzk : E.ok z)
    (hm : a.eval m = .map (some B)) (h : IM P k Ky E w B n f c) (xv : Value) (key : κ) (hx : a.eval x = xv) (hkey : keyOf P k xv = some (Ky.kl key))
    (hK : wpList P ops Q rest (a.put o.dst (E.enc ((f key).getD z))) w) : wpList P ops Q (o :: rest) a w := by
  refine wpList_plain hg fun K' hK' => ?_
  have hrun := h.look K ht hz hzk hkey
  unfold Oper.wp
  simp [execOp, hop, hm, hx, hrun, Result.andThen]
  exact hK' _ _ hK
theorem im_look_int (he : P.underlying e = some (.int .i64)) (hg : o.guard = none) (m x : Operand) (t : TypeId) (hop : o.op = Op.lookup t m x false) (K : Keyed P k) (ht : P.underlying t = some (.map k e)) (hz : (zeroValue e).run P w = .ok (.int .i64 0) w)
    (hm : a.eval m = .map (some B)) {f : κ → Option Int} (h : IM P k Ky (intElem P e he) w B n f c) (xv : Value) (key : κ) (hx : a.eval x = xv) (hkey : keyOf P k xv = some (Ky.kl key))
    (hK : wpList P ops Q rest (a.put o.dst (.int .i64 ((f key).getD 0))) w) : wpList P ops Q (o :: rest) a w :=
  im_look w hg m x t hop K ht (z := (0 : Int)) hz (show (Lit.int .i64 0).wf = true by decide) hm h xv key hx hkey hK
theorem im_look_mark (hg : o.guard = none) (m x : Operand) (t : TypeId) (hop : o.op = Op.lookup t m x false) (K : Keyed P k) (ht : P.underlying t = some (.map k e)) (hz : (zeroValue e).run P w = .ok (.agg #[.bool false]) w)
    (hm : a.eval m = .map (some B)) {f : κ → Option Bool} (h : IM P k Ky markElem w B n f c) (xv : Value) (key : κ) (hx : a.eval x = xv) (hkey : keyOf P k xv = some (Ky.kl key))
    (hK : wpList P ops Q rest (a.put o.dst (.agg #[.bool ((f key).getD false)])) w) : wpList P ops Q (o :: rest) a w :=
  im_look w hg m x t hop K ht (z := false) hz trivial hm h xv key hx hkey hK
theorem im_ok (hg : o.guard = none) (m x : Operand) (t : TypeId) (hop : o.op = Op.lookup t m x true) (K : Keyed P k) (ht : P.underlying t = some (.map k e)) {z : α} (hz : (zeroValue e).run P w = .ok (E.enc z) w) (hzk : E.ok z)
    (hm : a.eval m = .map (some B)) (h : IM P k Ky E w B n f c) (xv : Value) (key : κ) (hx : a.eval x = xv) (hkey : keyOf P k xv = some (Ky.kl key))
    (hK : wpList P ops Q rest (a.put o.dst (.tuple #[E.enc ((f key).getD z), .bool (f key).isSome])) w) : wpList P ops Q (o :: rest) a w := by
  refine wpList_plain hg fun K' hK' => ?_
  have hrun := h.look_ok K ht hz hzk hkey
  unfold Oper.wp
  simp [execOp, hop, hm, hx, hrun, Result.andThen]
  exact hK' _ _ hK
theorem im_ok_int (he : P.underlying e = some (.int .i64)) (hg : o.guard = none) (m x : Operand) (t : TypeId) (hop : o.op = Op.lookup t m x true) (K : Keyed P k) (ht : P.underlying t = some (.map k e)) (hz : (zeroValue e).run P w = .ok (.int .i64 0) w)
    (hm : a.eval m = .map (some B)) {f : κ → Option Int} (h : IM P k Ky (intElem P e he) w B n f c) (xv : Value) (key : κ) (hx : a.eval x = xv) (hkey : keyOf P k xv = some (Ky.kl key))
    (hK : wpList P ops Q rest (a.put o.dst (.tuple #[.int .i64 ((f key).getD 0), .bool (f key).isSome])) w) : wpList P ops Q (o :: rest) a w :=
  im_ok w hg m x t hop K ht (z := (0 : Int)) hz (show (Lit.int .i64 0).wf = true by decide) hm h xv key hx hkey hK
theorem im_ok_mark (hg : o.guard = none) (m x : Operand) (t : TypeId) (hop : o.op = Op.lookup t m x true) (K : Keyed P k) (ht : P.underlying t = some (.map k e)) (hz : (zeroValue e).run P w = .ok (.agg #[.bool false]) w)
    (hm : a.eval m = .map (some B)) {f : κ → Option Bool} (h : IM P k Ky markElem w B n f c) (xv : Value) (key : κ) (hx : a.eval x = xv) (hkey : keyOf P k xv = some (Ky.kl key))
    (hK : wpList P ops Q rest (a.put o.dst (.tuple #[.agg #[.bool ((f key).getD false)], .bool (f key).isSome])) w) : wpList P ops Q (o :: rest) a w :=
  im_ok w hg m x t hop K ht (z := false) hz trivial hm h xv key hx hkey hK
theorem im_store (hg : o.guard = none) (m x v : Operand) (t : TypeId) (hop : o.op = Op.mapUpdate t m x v) (K : Keyed P k) (ht : P.underlying t = some (.map k e)) (hm : a.eval m = .map (some B)) (h : IM P k Ky E w B n f c) (hn : n < maxLen)
    (xv vv : Value) (key : κ) (val : α) (hx : a.eval x = xv) (hv : a.eval v = vv) (hkey : keyOf P k xv = some (Ky.kl key)) (hval : vv = E.enc val) (hok : E.ok val)
    (hK : ∀ w', IM P k Ky E w' B (n + 1) (upd f key val) (if (f key).isSome = true then c else c + 1) → w.grownBy w' (some B) → wpList P ops Q rest (a.put o.dst undef) w') : wpList P ops Q (o :: rest) a w := by
  refine wpList_plain hg fun K' hK' => ?_
  subst hval
  obtain ⟨w', hrun, r1, r2⟩ := h.store K ht hn hkey hok
  unfold Oper.wp
  simp [execOp, hop, hm, hx, hv, hrun, Result.andThen]
  exact hK' _ _ (hK w' r1 r2)
theorem im_store_int (he : P.underlying e = some (.int .i64)) (hg : o.guard = none) (m x v : Operand) (t : TypeId) (hop : o.op = Op.mapUpdate t m x v) (K : Keyed P k) (ht : P.underlying t = some (.map k e)) (hm : a.eval m = .map (some B)) {f : κ → Option Int} (h : IM P k Ky (intElem P e he) w B n f c) (hn : n < maxLen)
    (xv : Value) (key : κ) (val : Int) (hx : a.eval x = xv) (hv : a.eval v = .int .i64 val) (hkey : keyOf P k xv = some (Ky.kl key)) (hok : (Lit.int .i64 val).wf = true)
    (hK : ∀ w', IM P k Ky (intElem P e he) w' B (n + 1) (upd f key val) (if (f key).isSome = true then c else c + 1) → w.grownBy w' (some B) → wpList P ops Q rest (a.put o.dst undef) w') : wpList P ops Q (o :: rest) a w :=
  im_store w hg m x v t hop K ht hm h hn xv (.int .i64 val) key val hx hv hkey rfl hok hK
theorem im_store_mark (hg : o.guard = none) (m x v : Operand) (t : TypeId) (hop : o.op = Op.mapUpdate t m x v) (K : Keyed P k) (ht : P.underlying t = some (.map k e)) (hm : a.eval m = .map (some B)) {f : κ → Option Bool} (h : IM P k Ky markElem w B n f c) (hn : n < maxLen)
    (xv : Value) (key : κ) (val : Bool) (hx : a.eval x = xv) (hv : a.eval v = .agg #[.bool val]) (hkey : keyOf P k xv = some (Ky.kl key))
    (hK : ∀ w', IM P k Ky markElem w' B (n + 1) (upd f key val) (if (f key).isSome = true then c else c + 1) → w.grownBy w' (some B) → wpList P ops Q rest (a.put o.dst undef) w') : wpList P ops Q (o :: rest) a w :=
  im_store w hg m x v t hop K ht hm h hn xv (.agg #[.bool val]) key val hx hv hkey rfl trivial hK
theorem im_delete (hg : o.guard = none) (m x : Operand) (t : TypeId) (hop : o.op = Op.call { callee := Callee.builtin Builtin.delete, args := #[m, x], argTypes := #[t, k] }) (K : Keyed P k) (ht : P.underlying t = some (.map k e)) (hm : a.eval m = .map (some B)) (h : IM P k Ky E w B n f c)
    (xv : Value) (key : κ) (hx : a.eval x = xv) (hkey : keyOf P k xv = some (Ky.kl key))
    (hK : ∀ w', IM P k Ky E w' B n (del f key) (if (f key).isSome = true then c - 1 else c) → w.grownBy w' (some B) → wpList P ops Q rest (a.put o.dst (.tuple #[])) w') : wpList P ops Q (o :: rest) a w := by
  refine wpList_plain hg fun K' hK' => ?_
  obtain ⟨w', hrun, r1, r2⟩ := h.drop K ht hkey o.type
  unfold Oper.wp
  simp [execOp, hop, resolve, invoke, builtin, hm, hx, hrun, Result.andThen]
  exact hK' _ _ (hK w' r1 r2)
theorem im_len (hg : o.guard = none) (m : Operand) (t : TypeId) (hop : o.op = Op.call { callee := Callee.builtin Builtin.len, args := #[m], argTypes := #[t] }) (ht : P.underlying t = some (.map k e)) (hm : a.eval m = .map (some B)) (h : IM P k Ky E w B n f c)
    (hK : wpList P ops Q rest (a.put o.dst (.int .i64 c)) w) : wpList P ops Q (o :: rest) a w := by
  refine wpList_plain hg fun K' hK' => ?_
  have hrun := h.len ht o.type
  unfold Oper.wp
  simp [execOp, hop, resolve, invoke, builtin, hm, hrun, Result.andThen]
  exact hK' _ _ hK
end
end Go.Proofs.YtggnnnddnppcpaaDoorMaps
/-! text YtggnnnddnppcpaaDoorMapI -/
namespace Go.Proofs.YtggnnnddnppcpaaDoorHand
open Go.RowKit Go.Proofs.YtggnnnddnppcpaaDoorW.PrintWords Go.Proofs.YtggnnnddnppcpaaDoorW.PrintLast Go.Proofs.YtggnnnddnppcpaaDoorMaps Go.Maps
set_option linter.unusedVariables false
set_option linter.unusedSimpArgs false
theorem mapK : Keyed Tryd.prog 3 := int_keyed Tryd.underlying3
theorem zeroI (w : World) : (zeroValue 3).run Tryd.prog w = .ok (.int .i64 0) w := by kernel_rfl
abbrev IMI (W : World) (B n : Nat) (f : Int → Option Int) (c : Nat) : Prop := IM Tryd.prog 3 intKeys (intElem Tryd.prog 3 Tryd.underlying3) W B n f c
theorem hkeyI {x : Int} (h : -9223372036854775808 ≤ x ∧ x ≤ 9223372036854775807) : keyOf Tryd.prog 3 (.int .i64 x) = some (intKeys.kl x) := keyOf_int_mk Tryd.underlying3 (WalkArith.wf_i64 h)
theorem im_look_run {W : World} {B n c : Nat} {f : Int → Option Int} (h : IMI W B n f c) (v : Int) (hv : -9223372036854775808 ≤ v ∧ v ≤ 9223372036854775807) : (Instr.lookup 62 (.map (some B)) (.int .i64 v) false).run Tryd.prog W = .ok (.int .i64 ((f v).getD 0)) W :=
  h.look mapK Tryd.underlying62 (z := (0 : Int)) (zeroI _) (show (Lit.int .i64 0).wf = true by decide) (hkeyI hv)
end Go.Proofs.YtggnnnddnppcpaaDoorHand
/-! text YtggnnnddnppcpaaDoorCnfLeftOf -/
namespace Go.Proofs.YtggnnnddnppcpaaDoorMath
/-- what is left of a clause, where a map tells of literals 1 (true), -1 (false); false: it is true -/
def leftIn (f : Int → Option Int) (c : List Int) : List Int × Bool := if c.any (fun l => decide ((f l).getD 0 = 1)) = true then ([], false) else (c.filter (fun l => decide ((f l).getD 0 = 0)), true)
end Go.Proofs.YtggnnnddnppcpaaDoorMath
namespace Go.Proofs.YtggnnnddnppcpaaDoorHand
open Go.RowKit Go.Proofs.YtggnnnddnppcpaaDoorW.PrintWords Go.Proofs.YtggnnnddnppcpaaDoorW.PrintLast Go.Proofs.YtggnnnddnppcpaaDoorMath Go.Proofs.YtggnnnddnppcpaaDoorMaps Go.Maps
set_option linter.unusedVariables false
set_option linter.unusedSimpArgs false

set_option maxHeartbeats 4000000 in
set_option maxRecDepth 100000 in
theorem leftOf_calls (A0 : Option Addr) (c0 : Nat) (l0 : List Int) (B n cnt : Nat) (f : Int → Option Int) (w : World) (hr0 : Kd.C (Kd.int .i64) w A0 l0.length l0) (hn : l0.length ≤ 17592186044416) (hb : ∀ y ∈ l0, -9223372036854775808 ≤ y ∧ y ≤ 9223372036854775807) (hm : IMI w B n f cnt) :
    Calls Tryd.prog 40 #[.slice A0 l0.length c0, .map (some B)] w fun e w' => ∃ v : Value, e = .returned (.tuple #[v, .bool (leftIn f l0).2]) ∧ OwnInts w' w.heap.size v (leftIn f l0).1 ∧ Below w.heap.size w w' := by
  have HR0 := Aside0.mk hr0
  have HN := Aside0.mk hn
  have HBD := Aside0.mk hb
  have HM := Aside0.mk hm
  clear hn hr0 hb hm
  go_enter Tryd.func40, Tryd.ntmps40
  go_wp2
  go_loopw [6, 8, 11] (fun v6 _ v11 wr => ∃ (k : Nat) (x : Int), v11 = .int .i64 x ∧ Aside0 (x = k ∧ k ≤ l0.length) ∧ Aside0 (∀ y ∈ l0.take k, (f y).getD 0 ≠ 1) ∧ Aside0 (OwnInts wr w.heap.size v6 ((l0.take k).filter (fun l => decide ((f l).getD 0 = 0)))) ∧ Aside0 (Below w.heap.size w wr)) (fun _ _ i _ => l0.length - (intOf i).toNat)
  case atStart => exact ⟨0, 0, rfl, ⟨rfl, Nat.zero_le _⟩, ⟨by simp⟩, ⟨World.ownsRow_nil _ _ _ _⟩, ⟨Below.refl _ _⟩⟩
  case round =>
    obtain ⟨k, x, rfl, HX, HF, HO, HB⟩ := hrel
    obtain ⟨hxk, hk⟩ := HX.out
    by_cases hlt : k < l0.length
    · have p1 : 0 ≤ x := by omega
      have q1 : x < (l0.length : Int) := by omega
      obtain ⟨ad, e1, hcell⟩ := Kd.at_int (Kd.C_below HR0.out HB.out) x p1 q1
      subst e1
      have p2 := eq_true p1
      have q2 := eq_true q1
      have q3 : decide (x < (l0.length : Int)) = true := decide_eq_true q1
      have HX2 : Aside0 (wrap64 (x + 1) = ((k + 1 : Nat) : Int) ∧ k + 1 ≤ l0.length) := by
        have := HN.out
        exact ⟨by rw [w64 (by omega) (by omega)]; omega, by omega⟩
      have hm : (intOf (.int .i64 (wrap64 (x + 1)))).toNat = k + 1 := by rw [HX2.out.1]; simp [intOf]
      have hm0 : (intOf (.int .i64 x)).toNat = k := by rw [hxk]; simp [intOf]
      have HMS : Aside0 (l0.length - (intOf (.int .i64 (wrap64 (x + 1)))).toNat < l0.length - (intOf (.int .i64 x)).toNat) := ⟨by rw [hm, hm0]; omega⟩
      have hrd : rd l0 x = rd l0 (k : Int) := by rw [hxk]
      rw [hrd] at hcell
      have HT1 : Aside0 (l0.take (k + 1) = l0.take k ++ [rd l0 (k : Int)]) := ⟨take_rd hlt⟩
      have hin : rd l0 (k : Int) ∈ l0 := rd_mem hlt
      have hyb := HBD.out _ hin
      obtain ⟨y, hy⟩ : ∃ y, y = rd l0 (k : Int) := ⟨_, rfl⟩
      rw [← hy] at hcell hyb hin
      have HL : Aside0 (((l0.take k).filter (fun l => decide ((f l).getD 0 = 0))).length + 1 ≤ 17592186044416) := by
        have h1 := List.length_filter_le (fun l => decide ((f l).getD 0 = 0)) (l0.take k)
        rw [List.length_take] at h1
        have := HN.out
        exact ⟨by omega⟩
      have L : (Instr.lookup 62 (.map (some B)) (.int .i64 y) false).run Tryd.prog wr = .ok (.int .i64 ((f y).getD 0)) wr :=
        im_look_run (IM.below HM.out HB.out) y hyb
      have HY := Aside0.mk hy
      have HIN := Aside0.mk hin
      by_cases z1 : (f y).getD 0 = 1
      · have HU : Aside0 (leftIn f l0 = ([], false)) := ⟨by unfold leftIn; rw [if_pos (List.any_eq_true.2 ⟨y, hin, by simpa using z1⟩)]⟩
        rw [z1] at L
        clear z1 hm hm0 hxk hk hlt p1 q1 hrd hy HX hyb hin
        go_wp2
        go_ret2
        rw [HU.out]
        exact ⟨_, rfl, World.ownsRow_nil _ _ _ _, by first | exact HB.out | exact pw_below_drewN HB.out _⟩
      · have HZ1 := Aside0.mk z1
        by_cases z0 : (f y).getD 0 = 0
        · rw [z0] at L
          have HTF : Aside0 ((l0.take (k + 1)).filter (fun l => decide ((f l).getD 0 = 0)) = (l0.take k).filter (fun l => decide ((f l).getD 0 = 0)) ++ [y]) := ⟨by rw [HT1.out, ← HY.out, List.filter_append]; simp [z0]⟩
          clear z1 z0 hm hm0 hxk hk hlt p1 q1 hrd hy HX hyb hin
          obtain ⟨ys, hys⟩ : ∃ ys, ys = (l0.take k).filter (fun l => decide ((f l).getD 0 = 0)) := ⟨_, rfl⟩
          rw [← hys] at HO HTF HL
          clear hys
          go_wp2_with ((with_reducible refine gate_builtin (b := .append) (xs := #[.tmp 22, .tmp 24]) rfl ?_); at_builtin; refine print_append_num (w0 := w) w.heap.size rfl (.tmp 22) (.tmp 24) 40 3 .i64 8 rfl Tryd.underlying40 infoI (by decide) _ ys y rfl rfl ?aO ?aB ?aS ?aL ?_; (case aO => exact HO.out); (case aB => first | exact HB.out | exact pw_below_drewN HB.out _); (case aS => exact HB.out.size); (case aL => have := HL.out; omega); intro v1 w1 ho hb hg hat; have HO1 := Aside0.mk ho; have HB1 := Aside0.mk hb; clear ho hb hg hat)
          go_roundw
          case measure => exact HMS.out
          case rel =>
            refine ⟨k + 1, _, rfl, HX2, ⟨?_⟩, ⟨by rw [HTF.out]; exact HO1.out⟩, ⟨HB1.out⟩⟩
            intro z hz
            rw [HT1.out, ← HY.out, List.mem_append, List.mem_singleton] at hz
            rcases hz with hz | rfl
            · exact HF.out z hz
            · exact HZ1.out
        · have HTF : Aside0 ((l0.take (k + 1)).filter (fun l => decide ((f l).getD 0 = 0)) = (l0.take k).filter (fun l => decide ((f l).getD 0 = 0))) := ⟨by rw [HT1.out, ← HY.out, List.filter_append]; simp [z0]⟩
          have e1 : ((f y).getD 0 == 1) = false := beq_eq_false_iff_ne.mpr z1
          have e0 : ((f y).getD 0 == 0) = false := beq_eq_false_iff_ne.mpr z0
          generalize hgz : (f y).getD 0 = z at L e1 e0
          clear z1 z0 hm hm0 hxk hk hlt p1 q1 hrd hy HX hyb hin hgz
          go_wp2
          go_roundw
          case measure => exact HMS.out
          case rel =>
            refine ⟨k + 1, _, rfl, HX2, ⟨?_⟩, ⟨by rw [HTF.out]; exact HO.out⟩, ⟨by first | exact HB.out | exact pw_below_drewN HB.out _⟩⟩
            intro z' hz
            rw [HT1.out, ← HY.out, List.mem_append, List.mem_singleton] at hz
            rcases hz with hz | rfl
            · exact HF.out z' hz
            · exact HZ1.out
    · obtain rfl : k = l0.length := by omega
      have q3 : decide (x < (l0.length : Int)) = false := decide_eq_false (by omega)
      have ho := HO.out
      rw [List.take_length] at ho
      have HU : Aside0 (leftIn f l0 = (l0.filter (fun l => decide ((f l).getD 0 = 0)), true)) := by
        have h := HF.out
        rw [List.take_length] at h
        refine ⟨?_⟩
        unfold leftIn
        rw [if_neg (by rw [List.any_eq_true]; rintro ⟨y, hy, h2⟩; exact h y hy (by simpa using h2))]
      have HO2 := Aside0.mk ho
      clear HO hxk hk hlt HX HF ho
      go_wp2
      go_ret2
      rw [HU.out]
      exact ⟨_, rfl, HO2.out, HB.out⟩
end Go.Proofs.YtggnnnddnppcpaaDoorHand
