/- One text of the claim of CnfKeepsUnder: its functions as plain Lean functions, each with the proof that the code comes to these answers. Laid by standin.py out of the print of the seat; what the print does not take is proved by hand. -/
import Derived.Test.YtggnnnddnppcpaaClCnfKeepsModelsi
import Derived.Test.YtggnnnddnppcpaaClCnfKeepsModelsc
import Derived.BigQuiet
import Derived.Deep.LoopGhost
import Derived.Maps.OwnSet
import Derived.Maps.OwnIn
import Derived.WalkKit
import Derived.Below
import Derived.Deep.Draws
import Derived.Test.YtggnnnddnppcpaaClCnfKeepsModelsf
import Derived.BigRegion
import Derived.Test.YtggnnnddnppcpaaProg
import Derived.Deep.AppendLies
import Derived.Maps.AppendAt
import Derived.OwnWalk
import Derived.Laws.BytesArg
import Derived.Laws.MakeOwn
import Derived.Laws.OwnMore
import Derived.Deep.OwnRows
import Derived.Tactics
import Derived.Lib.ConvBytes
import Derived.Laws.Slices
import Derived.KernelRfl
import Derived.RowKit3
import Derived.Deep.QuietTactic
import Derived.WideLaws
import Derived.Deep.DeepCutAuto
import Derived.Deep.CutBlock
import Derived.Deep.RegionHeld3
import Derived.Laws.Rows
import Derived.Lib.AppendStr
import Derived.ArgAppend
import Derived.Laws.IdiomCopy
import Derived.OrdersHeld
import Derived.Laws.BitsLemmas
import Derived.RowKit
import Derived.Test.YtggnnnddnppcpaaClCnfKeepsModelsp0
import Derived.Test.YtggnnnddnppcpaaClCnfKeepsModelsp1
import Derived.Test.YtggnnnddnppcpaaClCnfKeepsModelsp7
import Derived.Test.YtggnnnddnppcpaaClCnfKeepsModelsp8
import Derived.Test.YtggnnnddnppcpaaClCnfKeepsModelsp9
import Derived.Test.YtggnnnddnppcpaaClCnfKeepsModelsp2
import Derived.Test.YtggnnnddnppcpaaClCnfKeepsModelsp3
import Derived.Test.YtggnnnddnppcpaaClCnfKeepsModelsp10
import Derived.Test.YtggnnnddnppcpaaClCnfKeepsModelsp4
import Derived.Test.YtggnnnddnppcpaaClCnfKeepsModelsp5
import Derived.Test.YtggnnnddnppcpaaClCnfKeepsModelsp6
import Derived.Test.YtggnnnddnppcpaaClCnfKeepsModelsp11
import Derived.Test.YtggnnnddnppcpaaClCnfKeepsModelsp12
import Derived.Test.YtggnnnddnppcpaaClCnfKeepsModelsp13
import Derived.Test.YtggnnnddnppcpaaClCnfKeepsModelsp14
import Derived.Test.YtggnnnddnppcpaaClCnfKeepsModelsp15
import Derived.Test.YtggnnnddnppcpaaClCnfKeepsModelsp16
import Derived.Test.YtggnnnddnppcpaaClCnfKeepsModelsp17
import Derived.Test.YtggnnnddnppcpaaClCnfKeepsModelsp18
import Derived.Test.YtggnnnddnppcpaaClCnfKeepsModelsp19
import Derived.Test.YtggnnnddnppcpaaClCnfKeepsModelsp20
/-! text YtggnnnddnppcpaaGCnfKeepsUnderx1 -/
namespace Go.Proofs.Ytggnnnddnppcpaa.PCnfKeepsUnder
open Go.RowKit Go.Proofs.YtggnnnddnppcpaaW.PrintWords Go.Proofs.YtggnnnddnppcpaaW.PrintLast Go.Proofs.YtggnnnddnppcpaaW.PrintMore
attribute [local go_sem] max2_int min2_int max_two min_two max_three min_three max_four min_four   -- for this text's walks alone
set_option linter.unusedVariables false
set_option linter.unusedSimpArgs false

end Go.Proofs.Ytggnnnddnppcpaa.PCnfKeepsUnder
/-! text YtggnnnddnppcpaaGCnfKeepsUnderx2 -/
namespace Go.Proofs.Ytggnnnddnppcpaa.PCnfKeepsUnder
open Go.RowKit Go.Proofs.YtggnnnddnppcpaaW.PrintWords Go.Proofs.YtggnnnddnppcpaaW.PrintLast Go.Proofs.YtggnnnddnppcpaaW.PrintMore
attribute [local go_sem] max2_int min2_int max_two min_two max_three min_three max_four min_four   -- for this text's walks alone
set_option linter.unusedVariables false
set_option linter.unusedSimpArgs false

end Go.Proofs.Ytggnnnddnppcpaa.PCnfKeepsUnder
/-! text YtggnnnddnppcpaaGCnfKeepsUnderx3 -/
namespace Go.Proofs.Ytggnnnddnppcpaa.PCnfKeepsUnder
open Go.RowKit Go.Proofs.YtggnnnddnppcpaaW.PrintWords Go.Proofs.YtggnnnddnppcpaaW.PrintLast Go.Proofs.YtggnnnddnppcpaaW.PrintMore
attribute [local go_sem] max2_int min2_int max_two min_two max_three min_three max_four min_four   -- for this text's walks alone
set_option linter.unusedVariables false
set_option linter.unusedSimpArgs false

end Go.Proofs.Ytggnnnddnppcpaa.PCnfKeepsUnder
/-! text YtggnnnddnppcpaaGCnfKeepsUnderx4 -/
namespace Go.Proofs.Ytggnnnddnppcpaa.PCnfKeepsUnder
open Go.RowKit Go.Proofs.YtggnnnddnppcpaaW.PrintWords Go.Proofs.YtggnnnddnppcpaaW.PrintLast Go.Proofs.YtggnnnddnppcpaaW.PrintMore
attribute [local go_sem] max2_int min2_int max_two min_two max_three min_three max_four min_four   -- for this text's walks alone
set_option linter.unusedVariables false
set_option linter.unusedSimpArgs false

/-! ### depotref01_Formed: function 94 -/
/-! ### depotref01_Sound: function 83 -/
/-! ### depotref02_within: function 58 -/
/-! ### depotref02_Formed: function 19 -/
/-! ### depotref01_Index: function 102 -/
end Go.Proofs.Ytggnnnddnppcpaa.PCnfKeepsUnder
/-! text YtggnnnddnppcpaaGCnfKeepsUnderx5 -/
namespace Go.Proofs.Ytggnnnddnppcpaa.PCnfKeepsUnder
open Go.RowKit Go.Proofs.YtggnnnddnppcpaaW.PrintWords Go.Proofs.YtggnnnddnppcpaaW.PrintLast Go.Proofs.YtggnnnddnppcpaaW.PrintMore
attribute [local go_sem] max2_int min2_int max_two min_two max_three min_three max_four min_four   -- for this text's walks alone
set_option linter.unusedVariables false
set_option linter.unusedSimpArgs false

/-! ### depotref01_merged: function 95 -/
/-! ### depotref01_Tidy: function 85 -/
/-! ### depotref01_Taut: function 76 -/
/-! ### depotref00_HasInt: function 77 -/
end Go.Proofs.Ytggnnnddnppcpaa.PCnfKeepsUnder
/-! text YtggnnnddnppcpaaTidyPure -/
set_option linter.unusedVariables false
set_option linter.unusedSimpArgs false
namespace Go.Proofs.YtggnnnddnppcpaaMath
open Go.RowKit Go.Proofs.YtggnnnddnppcpaaW.PrintWords

end Go.Proofs.YtggnnnddnppcpaaMath
/-! text YtggnnnddnppcpaaLitsTaut -/
namespace Go.Proofs.YtggnnnddnppcpaaMath
open Go.RowKit Go.Proofs.YtggnnnddnppcpaaW.PrintWords
end Go.Proofs.YtggnnnddnppcpaaMath
namespace Go.Proofs.YtggnnnddnppcpaaHand
open Go.RowKit Go.Proofs.YtggnnnddnppcpaaW.PrintWords Go.Proofs.YtggnnnddnppcpaaW.PrintLast Go.Proofs.YtggnnnddnppcpaaMath
set_option linter.unusedVariables false
set_option linter.unusedSimpArgs false

end Go.Proofs.YtggnnnddnppcpaaHand
/-! text YtggnnnddnppcpaaIntMap -/
namespace Go.Proofs.YtggnnnddnppcpaaMaps
open Go Go.Maps Go.RowKit
set_option linter.unusedVariables false
set_option linter.unusedSimpArgs false

/-- kinds of keys -/
structure Keys (κ : Type) where
  kl : κ → Lit
  inj : ∀ {a b}, kl a = kl b → a = b
  isKey : ∀ a, WideAt.IsKeyLit (kl a)
def intKeys : Keys Int where
  kl := Lit.int .i64
  inj := fun h => by injection h
  isKey := fun a => by simp [WideAt.IsKeyLit]
/-- kinds of elements -/
structure Elem (α : Type) where
  enc : α → Value
  el : α → DataW Unit
  R : Value → Option (DataW Unit × List MemPlace)
  ok : α → Prop
  inv : ∀ {v z}, R v = some z → ∃ a, v = enc a ∧ z.1 = el a
  reads : ∀ {a}, ok a → R (enc a) = some (el a, [])
  inj : ∀ {a b}, el a = el b → a = b
def intElem (P : Program) (e : TypeId) (he : P.underlying e = some (.int .i64)) : Elem Int where
  enc := Value.int .i64
  el := fun c => .lit (.int .i64 c)
  R := plainElem P e
  ok := fun c => (Lit.int .i64 c).wf = true
  inv := fun h => by
    obtain ⟨a, rfl, rfl, _⟩ := plainElem_int_inv he h
    exact ⟨a, rfl, rfl⟩
  reads := fun h => plainElem_int he h
  inj := fun h => by injection h with h; injection h
noncomputable def markR (v : Value) : Option (DataW Unit × List MemPlace) := by classical exact if v = .agg #[.bool true] then some (.lit (.bool true), []) else if v = .agg #[.bool false] then some (.lit (.bool false), []) else none
noncomputable def markElem : Elem Bool where
  enc := fun b => .agg #[.bool b]
  el := fun b => .lit (.bool b)
  R := markR
  ok := fun _ => True
  inv := fun {v z} h => by
    unfold markR at h
    split at h
    · rename_i hv
      cases h
      exact ⟨true, hv, rfl⟩
    · split at h
      · rename_i hv
        cases h
        exact ⟨false, hv, rfl⟩
      · cases h
  reads := fun {a} _ => by cases a <;> simp [markR]
  inj := fun h => by injection h with h; injection h

variable {κ α : Type}
/-- Block B of W is a map that holds at each key what f says: at most n, just c of them. -/
def IM (P : Program) (k : TypeId) (Ky : Keys κ) (E : Elem α) (W : World) (B n : Nat) (f : κ → Option α) (c : Nat) : Prop :=
  ∃ D, W.ownsMap P k E.R B n D ∧ Maps.size D = c ∧ ∀ x, Maps.has D (Ky.kl x) = (f x).isSome ∧ ∀ z, D.atKey (Ky.kl x) z = ((f x).map E.el).getD z

noncomputable def upd (f : κ → Option α) (x : κ) (v : α) : κ → Option α := by classical exact fun y => if y = x then some v else f y
noncomputable def del (f : κ → Option α) (x : κ) : κ → Option α := by classical exact fun y => if y = x then none else f y
theorem upd_same (f : κ → Option α) (x : κ) (v : α) : upd f x v x = some v := by simp [upd]
theorem upd_other (f : κ → Option α) {x y : κ} (v : α) (h : y ≠ x) : upd f x v y = f y := by simp [upd, h]
theorem del_same (f : κ → Option α) (x : κ) : del f x x = none := by simp [del]
theorem del_other (f : κ → Option α) {x y : κ} (h : y ≠ x) : del f x y = f y := by simp [del, h]

section
variable {P : Program} {k : TypeId} {Ky : Keys κ} {E : Elem α} {W : World} {B n c : Nat} {f : κ → Option α}
theorem IM.made (W : World) : IM P k Ky E (W.alloc (.map #[] 0)) W.heap.size 0 (fun _ => none) 0 :=
  ⟨_, World.ownsMap_made W P k E.R, rfl, fun x => ⟨rfl, fun z => rfl⟩⟩
theorem IM.lt (h : IM P k Ky E W B n f c) : B < W.heap.size := by
  obtain ⟨D, h, _⟩ := h
  exact h.lt
theorem IM.kept {W' : World} {row : Option Nat} (h : IM P k Ky E W B n f c) (hg : W.grownBy W' row) (hne : some B ≠ row) : IM P k Ky E W' B n f c := by
  obtain ⟨D, h, r⟩ := h
  exact ⟨D, h.kept hg hne, r⟩
theorem IM.block {W' : World} (h : IM P k Ky E W B n f c) (hb : W'.heap[B]? = W.heap[B]?) : IM P k Ky E W' B n f c := by
  obtain ⟨D, ⟨es, clock, h1, h2⟩, r⟩ := h
  exact ⟨D, ⟨es, clock, hb.trans h1, h2⟩, r⟩
theorem IM.below {W' : World} (h : IM P k Ky E W B n f c) (hb : Below W.heap.size W W') : IM P k Ky E W' B n f c := h.block (hb.block B h.lt)
theorem IM.alloc (h : IM P k Ky E W B n f c) (o : Obj) : IM P k Ky E (W.alloc o) B n f c := by
  obtain ⟨D, h, r⟩ := h
  exact ⟨D, h.alloc o, r⟩
theorem IM.drewN (h : IM P k Ky E W B n f c) (m : Nat) : IM P k Ky E (W.drewN m) B n f c := h
theorem IM.drew (h : IM P k Ky E W B n f c) : IM P k Ky E W.drew B n f c := h
theorem IM.setCell (h : IM P k Ky E W B n f c) {a : Addr} (ha : B ≠ a.block) (u : Value) : IM P k Ky E (W.setCell a u) B n f c := by
  obtain ⟨D, h, r⟩ := h
  exact ⟨D, h.setCell ha u, r⟩
theorem IM.mono (h : IM P k Ky E W B n f c) {n' : Nat} (hn : n ≤ n') : IM P k Ky E W B n' f c := by
  obtain ⟨D, h, r⟩ := h
  exact ⟨D, h.mono hn, r⟩
theorem IM.congr (h : IM P k Ky E W B n f c) {g : κ → Option α} (hg : ∀ x, g x = f x) : IM P k Ky E W B n g c := by
  obtain rfl : g = f := funext hg
  exact h
theorem put_reads {D : DataW Unit} (hD : Maps.Tidy D) (hr : ∀ x, Maps.has D (Ky.kl x) = (f x).isSome ∧ ∀ z, D.atKey (Ky.kl x) z = ((f x).map E.el).getD z) (x : κ) (v : α) :
    Maps.size (D.put (Ky.kl x) (E.el v)) = (if (f x).isSome = true then Maps.size D else Maps.size D + 1) ∧ ∀ y, Maps.has (D.put (Ky.kl x) (E.el v)) (Ky.kl y) = (upd f x v y).isSome ∧ ∀ z, (D.put (Ky.kl x) (E.el v)).atKey (Ky.kl y) z = ((upd f x v y).map E.el).getD z := by
  refine ⟨by rw [Maps.size_put hD, (hr x).1], fun y => ?_⟩
  by_cases hy : y = x
  · subst hy
    rw [upd_same]
    exact ⟨Maps.has_put_same hD.isMap (Ky.isKey _) _, fun z => Maps.atKey_put_same hD.isMap (Ky.isKey _) _ z⟩
  · rw [upd_other f v hy]
    have hne : Ky.kl y ≠ Ky.kl x := fun h => hy (Ky.inj h)
    exact ⟨(Maps.has_put_other hne _).trans (hr y).1, fun z => (Maps.atKey_put_other hne _ z).trans ((hr y).2 z)⟩
theorem del_reads {D : DataW Unit} (hD : Maps.Tidy D) (hr : ∀ x, Maps.has D (Ky.kl x) = (f x).isSome ∧ ∀ z, D.atKey (Ky.kl x) z = ((f x).map E.el).getD z) (x : κ) :
    Maps.size (D.del (Ky.kl x)) = (if (f x).isSome = true then Maps.size D - 1 else Maps.size D) ∧ ∀ y, Maps.has (D.del (Ky.kl x)) (Ky.kl y) = (del f x y).isSome ∧ ∀ z, (D.del (Ky.kl x)).atKey (Ky.kl y) z = ((del f x y).map E.el).getD z := by
  refine ⟨?_, fun y => ?_⟩
  · have h := Maps.size_del (k := Ky.kl x) hD
    rw [(hr x).1] at h
    split <;> simp_all <;> omega
  by_cases hy : y = x
  · subst hy
    rw [del_same]
    exact ⟨Maps.has_del_same, fun z => Maps.atKey_del_same z⟩
  · rw [del_other f hy]
    have hne : Ky.kl y ≠ Ky.kl x := fun h => hy (Ky.inj h)
    exact ⟨(Maps.has_del_other hne).trans (hr y).1, fun z => (Maps.atKey_del_other hne z).trans ((hr y).2 z)⟩
theorem IM.look (h : IM P k Ky E W B n f c) {t e : TypeId} (K : Keyed P k) (ht : P.underlying t = some (.map k e)) {z : α} (hz : (zeroValue e).run P W = .ok (E.enc z) W) (hzk : E.ok z) {xv : Value} {x : κ} (hkey : keyOf P k xv = some (Ky.kl x)) :
    (Instr.lookup t (.map (some B)) xv false).run P W = .ok (E.enc ((f x).getD z)) W := by
  obtain ⟨D, h, _, hr⟩ := h
  obtain ⟨v, ps, hrun, hv⟩ := h.lookup K ht hz (E.reads hzk) hkey
  obtain ⟨a, rfl, ha⟩ := E.inv hv
  rw [(hr x).2] at ha
  have : a = (f x).getD z := by
    cases hf : f x with
    | none => rw [hf] at ha; exact (E.inj ha).symm
    | some b => rw [hf] at ha; exact (E.inj ha).symm
  rw [hrun, this]
theorem IM.store (h : IM P k Ky E W B n f c) {t e : TypeId} (K : Keyed P k) (ht : P.underlying t = some (.map k e)) (hn : n < maxLen) {xv : Value} {x : κ} {v : α} (hkey : keyOf P k xv = some (Ky.kl x)) (hv : E.ok v) :
    ∃ w', (Instr.mapUpdate t (.map (some B)) xv (E.enc v)).run P W = .ok () w' ∧ IM P k Ky E w' B (n + 1) (upd f x v) (if (f x).isSome = true then c else c + 1) ∧ W.grownBy w' (some B) := by
  obtain ⟨D, h, rfl, hr⟩ := h
  obtain ⟨w', hrun, h1, h2⟩ := h.update K ht hn hkey (E.reads hv)
  obtain ⟨p1, p2⟩ := put_reads (h.tidy K) hr x v
  exact ⟨w', hrun, ⟨_, h1, p1, p2⟩, h2⟩
theorem IM.drop (h : IM P k Ky E W B n f c) {t e : TypeId} (K : Keyed P k) (ht : P.underlying t = some (.map k e)) {xv : Value} {x : κ} (hkey : keyOf P k xv = some (Ky.kl x)) (ty : TypeId) :
    ∃ w', (Builtin.delete_ #[t, k] ty #[.map (some B), xv]).run P W = .ok (.tuple #[]) w' ∧ IM P k Ky E w' B n (del f x) (if (f x).isSome = true then c - 1 else c) ∧ W.grownBy w' (some B) := by
  obtain ⟨D, h, rfl, hr⟩ := h
  obtain ⟨w', hrun, h1, h2⟩ := h.drop K ht hkey ty
  obtain ⟨p1, p2⟩ := del_reads (h.tidy K) hr x
  exact ⟨w', hrun, ⟨_, h1, p1, p2⟩, h2.grown⟩
theorem IM.len (h : IM P k Ky E W B n f c) {t e : TypeId} (ht : P.underlying t = some (.map k e)) (ty : TypeId) : (Builtin.len_ #[t] ty #[.map (some B)]).run P W = .ok (.int .i64 c) W := by
  obtain ⟨D, h, rfl, _⟩ := h
  exact h.len ht ty
end

/-! at the operation, for the walk -/
section
variable {P : Program} (w : World) {ops : Array Oper} {rest : List Oper} {o : Oper} {a : Act} {Q : Exit → Act → World → Prop} {k e : TypeId} {Ky : Keys κ} {E : Elem α} {B n c : Nat} {f : κ → Option α}
end
end Go.Proofs.YtggnnnddnppcpaaMaps
/-! text YtggnnnddnppcpaaMapI -/
namespace Go.Proofs.YtggnnnddnppcpaaHand
open Go.RowKit Go.Proofs.YtggnnnddnppcpaaW.PrintWords Go.Proofs.YtggnnnddnppcpaaW.PrintLast Go.Proofs.YtggnnnddnppcpaaMaps Go.Maps
set_option linter.unusedVariables false
set_option linter.unusedSimpArgs false
abbrev IMI (W : World) (B n : Nat) (f : Int → Option Int) (c : Nat) : Prop := IM Try.prog 3 intKeys (intElem Try.prog 3 Try.underlying3) W B n f c
end Go.Proofs.YtggnnnddnppcpaaHand
/-! text YtggnnnddnppcpaaCnfLeftOf -/
namespace Go.Proofs.YtggnnnddnppcpaaMath
end Go.Proofs.YtggnnnddnppcpaaMath
namespace Go.Proofs.YtggnnnddnppcpaaHand
open Go.RowKit Go.Proofs.YtggnnnddnppcpaaW.PrintWords Go.Proofs.YtggnnnddnppcpaaW.PrintLast Go.Proofs.YtggnnnddnppcpaaMath Go.Proofs.YtggnnnddnppcpaaMaps Go.Maps
set_option linter.unusedVariables false
set_option linter.unusedSimpArgs false

end Go.Proofs.YtggnnnddnppcpaaHand
/-! text YtggnnnddnppcpaaCnfUnder -/
namespace Go.Proofs.YtggnnnddnppcpaaMath
open Go.Proofs.YtggnnnddnppcpaaMaps
end Go.Proofs.YtggnnnddnppcpaaMath
namespace Go.Proofs.YtggnnnddnppcpaaHand
open Go.RowKit Go.Proofs.YtggnnnddnppcpaaW.PrintWords Go.Proofs.YtggnnnddnppcpaaW.PrintLast Go.Proofs.YtggnnnddnppcpaaMath Go.Proofs.YtggnnnddnppcpaaMaps Go.Maps
set_option linter.unusedVariables false
set_option linter.unusedSimpArgs false

/-- two variables of a formula in new blocks -/
structure UF (w : World) (a0 a1 z0 z1 : Value) (W : World) : Prop where
  hB : Below w.heap.size w W
  hz : w.heap.size + 2 ≤ W.heap.size
  b0 : W.heap[w.heap.size]? = some (.cells #[a0, a1] 24 (0, 0))
  b1 : W.heap[w.heap.size + 1]? = some (.cells #[z0, z1] 24 (0, 0))
theorem UF.keep {w : World} {a0 a1 z0 z1 : Value} {W W1 : World} (h : UF w a0 a1 z0 z1 W) (k : Below W.heap.size W W1) : UF w a0 a1 z0 z1 W1 :=
  ⟨below_step h.hB k, Nat.le_trans h.hz k.size, blk_below h.b0 k, blk_below h.b1 k⟩
theorem UF.grown {w : World} {a0 a1 z0 z1 : Value} {W W1 : World} {row : Option Nat} (h : UF w a0 a1 z0 z1 W) (hg : W.grownBy W1 row) (hne : ∀ k, row = some k → w.heap.size + 2 ≤ k) : UF w a0 a1 z0 z1 W1 :=
  ⟨h.hB.grown hg h.hB.size (fun k hk => by have := hne k hk; omega), Nat.le_trans h.hz hg.size, blk_grown h.b0 hg (fun e => by have := hne _ e.symm; omega), blk_grown h.b1 hg (fun e => by have := hne _ e.symm; omega)⟩
theorem UF.setCell {w : World} {a0 a1 z0 z1 : Value} {W : World} (h : UF w a0 a1 z0 z1 W) {p : Addr} (hp : w.heap.size + 2 ≤ p.block) (u : Value) : UF w a0 a1 z0 z1 (W.setCell p u) :=
  ⟨h.hB.setCell (p := p) (by omega) u, Nat.le_trans h.hz ((Below.refl 0 W).setCell (p := p) (Nat.zero_le _) u).size, blk_far h.b0 (by omega) u, blk_far h.b1 (by omega) u⟩
theorem UF.f0 {w : World} {a0 a1 z0 z1 : Value} {W : World} (h : UF w a0 a1 z0 z1 W) : W.cell? ⟨w.heap.size, 0, none⟩ = some a0 := (blk_cell h.b0 0).trans rfl
theorem UF.f1 {w : World} {a0 a1 z0 z1 : Value} {W : World} (h : UF w a0 a1 z0 z1 W) : W.cell? ⟨w.heap.size, 1, none⟩ = some a1 := (blk_cell h.b0 1).trans rfl
theorem UF.g0 {w : World} {a0 a1 z0 z1 : Value} {W : World} (h : UF w a0 a1 z0 z1 W) : W.cell? ⟨w.heap.size + 1, 0, none⟩ = some z0 := (blk_cell h.b1 0).trans rfl
theorem UF.g1 {w : World} {a0 a1 z0 z1 : Value} {W : World} (h : UF w a0 a1 z0 z1 W) : W.cell? ⟨w.heap.size + 1, 1, none⟩ = some z1 := (blk_cell h.b1 1).trans rfl
theorem UF.y0 {w : World} {a0 a1 z0 z1 : Value} {W : World} (h : UF w a0 a1 z0 z1 W) : W.frozen? ⟨w.heap.size + 1, 0, none⟩ = false := blk_frozen h.b1 0
theorem UF.y1 {w : World} {a0 a1 z0 z1 : Value} {W : World} (h : UF w a0 a1 z0 z1 W) : W.frozen? ⟨w.heap.size + 1, 1, none⟩ = false := blk_frozen h.b1 1

end Go.Proofs.YtggnnnddnppcpaaHand
/-! text YtggnnnddnppcpaaCnfUnderGood -/
namespace Go.Proofs.YtggnnnddnppcpaaHand
open Go.RowKit Go.Proofs.YtggnnnddnppcpaaW.PrintWords Go.Proofs.YtggnnnddnppcpaaW.PrintLast Go.Proofs.YtggnnnddnppcpaaMath Go.Proofs.YtggnnnddnppcpaaMaps Go.Maps
set_option linter.unusedVariables false
set_option linter.unusedSimpArgs false

end Go.Proofs.YtggnnnddnppcpaaHand
/-! text YtggnnnddnppcpaaGCnfKeepsUnderx6 -/
namespace Go.Proofs.Ytggnnnddnppcpaa.PCnfKeepsUnder
open Go.RowKit Go.Proofs.YtggnnnddnppcpaaW.PrintWords Go.Proofs.YtggnnnddnppcpaaW.PrintLast Go.Proofs.YtggnnnddnppcpaaW.PrintMore
attribute [local go_sem] max2_int min2_int max_two min_two max_three min_three max_four min_four   -- for this text's walks alone
set_option linter.unusedVariables false
set_option linter.unusedSimpArgs false

/-! ### cnf_Under: function 53 -/
end Go.Proofs.Ytggnnnddnppcpaa.PCnfKeepsUnder
/-! text YtggnnnddnppcpaaGCnfKeepsUnderx7 -/
namespace Go.Proofs.Ytggnnnddnppcpaa.PCnfKeepsUnder
open Go.RowKit Go.Proofs.YtggnnnddnppcpaaW.PrintWords Go.Proofs.YtggnnnddnppcpaaW.PrintLast Go.Proofs.YtggnnnddnppcpaaW.PrintMore
attribute [local go_sem] max2_int min2_int max_two min_two max_three min_three max_four min_four   -- for this text's walks alone
set_option linter.unusedVariables false
set_option linter.unusedSimpArgs false

/-! ### depotref02_Under: function 54 -/
-- NOT PRINTED: function 14 (depotlaw02_CnfKeepsUnder)

end Go.Proofs.Ytggnnnddnppcpaa.PCnfKeepsUnder
/-! text YtggnnnddnppcpaaKuMod -/

/-! text YtggnnnddnppcpaaKuLib -/
namespace Go.Proofs.Ytggnnnddnppcpaa.PCnfKeepsUnder
open Go.RowKit Go.Proofs.YtggnnnddnppcpaaW.PrintWords Go.Proofs.YtggnnnddnppcpaaW.PrintLast Go.Proofs.YtggnnnddnppcpaaMath
set_option linter.unusedVariables false
set_option linter.unusedSimpArgs false
end Go.Proofs.Ytggnnnddnppcpaa.PCnfKeepsUnder
/-! text YtggnnnddnppcpaaKuBase -/
namespace Go.Proofs.YtggnnnddnppcpaaHand
open Go.RowKit Go.Proofs.YtggnnnddnppcpaaW.PrintWords Go.Proofs.YtggnnnddnppcpaaW.PrintLast Go.Proofs.YtggnnnddnppcpaaMath Go.Proofs.YtggnnnddnppcpaaOwn
set_option linter.unusedVariables false
set_option linter.unusedSimpArgs false
open Go.Proofs.Ytggnnnddnppcpaa.PCnfKeepsJoin
theorem lent_take' (l : List Int) : (lentOf l).take l.length = l := List.take_left
/-- a list that is lent -/
theorem lent1_n (A : Option Addr) (c : Nat) (l : List Int) (w : World) (hr : Kd.C (Kd.int .i64) w A l.length l) (hc : l.length ≤ c) (hn : l.length ≤ 1099511627776) :
    Calls Try.prog 46 #[.slice A l.length c] w fun e w' => ∃ (A' : Option Addr) (n c' : Nat), e = .returned (.slice A' n c') ∧ (l.length : Int) ≤ (c' : Int) ∧ (Asr.row (Kd.int .i64) 3 (.slice A' n c') (lentOf l)).P w' (fun b => w.heap.size ≤ b) ∧ Below w.heap.size w w' := by
  refine (lentD_calls A c l w hr hc hn).mono ?_
  rintro e w' ⟨v, rfl, hR, hB⟩
  obtain ⟨A', c', rfl⟩ := Kd.R_slice hR
  have h1 := (Kd.R_reads' hR).2.1
  rw [lentOf_length] at h1
  exact ⟨A', _, c', rfl, by omega, row_of hR, hB⟩
theorem part_C {w W : World} {X : Nat → Prop} {L : List Asr} {A : Option Addr} {n c : Nat} {l : List Int} (h : Sep w X L W) (i : Nat) (hi : L[i]? = some (.row (Kd.int .i64) 3 (.slice A n c) (lentOf l))) : Kd.C (Kd.int .i64) W A l.length l ∧ l.length ≤ c := by
  have h2 := Kd.R_reads' (h.get i hi)
  have h3 := Kd.C_take h2.2.2 (m := l.length) (by rw [lentOf_length]; omega)
  rw [lent_take'] at h3
  refine ⟨h3, ?_⟩
  have h4 := h2.1
  rw [lentOf_length] at h4
  have := h2.2.1
  omega
theorem kept1_n {w W : World} {X : Nat → Prop} {L : List Asr} {A B : Option Addr} {n c d : Nat} {l : List Int} (h : Sep w X L W) (i : Nat) (hi : L[i]? = some (.row (Kd.int .i64) 3 (.slice A n c) (lentOf l))) (hs : Kd.C (Kd.int .i64) W B l.length l) (hd : l.length ≤ d) (hn : l.length ≤ 1099511627776) :
    Calls Try.prog 48 #[.slice A n c, .slice B l.length d] W fun e w' => e = .returned (.bool true) ∧ Below W.heap.size W w' := by
  obtain ⟨h1, h2, h3⟩ := Kd.R_reads' (h.get i hi)
  obtain ⟨k, hk⟩ := (depotkit_Kept_ev l (by omega)).rounds
  subst h1
  refine (depotkit_Kept.calls k A c (lentOf l) B d l _ W h3 h2 hs hd hk).mono ?_
  rintro e w' ⟨rfl, hd⟩
  exact ⟨rfl, hd.below⟩
end Go.Proofs.YtggnnnddnppcpaaHand
/-! text YtggnnnddnppcpaaCnfNext -/
namespace Go.Proofs.YtggnnnddnppcpaaMath
/-- so many places counted on; false: that was the last -/
def nextIn : Nat → List Bool → List Bool × Bool
  | 0, m => (m, false)
  | _ + 1, [] => ([], false)
  | _ + 1, false :: m => (true :: m, true)
  | n + 1, true :: m => (false :: (nextIn n m).1, (nextIn n m).2)
end Go.Proofs.YtggnnnddnppcpaaMath
namespace Go.Proofs.YtggnnnddnppcpaaHand
open Go.RowKit Go.Proofs.YtggnnnddnppcpaaW.PrintWords Go.Proofs.YtggnnnddnppcpaaW.PrintLast Go.Proofs.YtggnnnddnppcpaaMath
set_option linter.unusedVariables false
set_option linter.unusedSimpArgs false
/-- sixteen truths in a block -/
def bits (m : List Bool) : Array Value := (m.map Value.bool).toArray

theorem bits_put (i : Nat) (c : Bool) (r : List Bool) : (bits (List.replicate i false ++ c :: r)).setIfInBounds i (.bool !c) = bits (List.replicate i false ++ (!c) :: r) := by
  unfold bits
  simp [List.set_append_right]
theorem grown_set {w wr : World} {b : Nat} (h : w.grownBy wr (some b)) (i : Nat) (u : Value) : w.grownBy (wr.setCell ⟨b, i, none⟩ u).drew (some b) := by
  have h1 := (Below.refl b wr).setCell (p := ⟨b, i, none⟩) (Nat.le_refl _) u
  refine ⟨h1.os.trans h.os, h1.tape.trans h.tape, h1.output.trans h.output, Nat.le_trans h.size h1.size, fun k hk hne => ?_⟩
  have hkb : k ≠ b := fun e => hne (by rw [e])
  exact (Below.heap_setCell wr ⟨b, i, none⟩ u k hkb).trans (h.block k hk hne)

set_option maxHeartbeats 4000000 in
set_option maxRecDepth 100000 in
theorem next_calls (b v : Nat) (m : List Bool) (w : World) (hl : m.length = 16) (hv : v ≤ 16) (hb : w.heap[b]? = some (.cells (bits m) 84 (0, 0))) :
    Calls Try.prog 73 #[.pointer (some ⟨b, 0, none⟩), .int .i64 (v : Int)] w fun e w' => e = .returned (.bool (nextIn v m).2) ∧ w'.heap[b]? = some (.cells (bits (nextIn v m).1) 84 (0, 0)) ∧ w.grownBy w' (some b) := by
  go_enter Try.func73, Try.ntmps73
  go_wp2
  go_loopw [5, 7] (fun _ v7 wr => ∃ (i : Nat) (x : Int) (r : List Bool), v7 = .int .i64 x ∧ Aside0 (x = i ∧ i ≤ v ∧ r.length + i = 16 ∧ (nextIn v m) = (List.replicate i false ++ (nextIn (v - i) r).1, (nextIn (v - i) r).2)) ∧ Aside0 (wr.heap[b]? = some (.cells (bits (List.replicate i false ++ r)) 84 (0, 0))) ∧ Aside0 (w.grownBy wr (some b))) (fun _ i _ => v - (intOf i).toNat)
  case atStart => exact ⟨0, 0, m, rfl, ⟨rfl, Nat.zero_le _, by omega, by simp⟩, ⟨by simpa using hb⟩, ⟨rfl, rfl, rfl, Nat.le_refl _, fun _ _ _ => rfl⟩⟩
  case round =>
    obtain ⟨i, x, r, rfl, HX, HB, HG⟩ := hrel
    obtain ⟨hxi, hi, hr, hn⟩ := HX.out
    by_cases hlt : i < v
    · have p1 : 0 ≤ x := by omega
      have q1 : x < 16 := by omega
      have p2 := eq_true p1
      have q2 := eq_true q1
      have q3 : decide (x < (v : Int)) = true := decide_eq_true (by omega)
      cases r with
      | nil => simp at hr; omega
      | cons c r =>
        have hcell : wr.cell? ⟨b, i, none⟩ = some (.bool c) := by
          refine (blk_cell HB.out i).trans ?_
          simp [bits, List.getElem?_append_right]
        have hfz : wr.frozen? ⟨b, i, none⟩ = false := blk_frozen HB.out _
        have p3 : (0 : Int) ≤ (i : Int) := by omega
        have q4 : (i : Int) < 16 := by omega
        subst hxi
        go_wp2
        go_region
        have HB2 := Aside0.mk (blk_drew (blk_put HB.out i (.bool !c) (bits_put i c r)))
        have HG2 : Aside0 (w.grownBy (wr.setCell ⟨b, i, none⟩ (.bool !c)).drew (some b)) := ⟨grown_set HG.out i _⟩
        have hi2 : i < (List.replicate i false ++ (!c) :: r).length := by simp
        have hcell2 : ((wr.setCell ⟨b, i, none⟩ (.bool !c)).drew).cell? ⟨b, i, none⟩ = some (.bool !c) := by
          refine (blk_cell HB2.out i).trans ?_
          simp [bits, List.getElem?_append_right]
        have HR : Aside0 (r.length + (i + 1) = 16 ∧ i + 1 ≤ v) := ⟨by simp at hr; omega, by omega⟩
        have hvi : v - i = (v - (i + 1)) + 1 := by omega
        rw [hvi] at hn
        generalize (wr.setCell ⟨b, i, none⟩ (.bool !c)).drew = W2 at HB2 HG2 hcell2 ⊢
        have HX2 : Aside0 (wrap64 ((i : Int) + 1) = ((i + 1 : Nat) : Int)) := ⟨by rw [w64 (by omega) (by omega)]; omega⟩
        have hm : (intOf (.int .i64 (wrap64 ((i : Int) + 1)))).toNat = i + 1 := by rw [HX2.out]; simp [intOf]
        have hm0 : (intOf (.int .i64 (i : Int))).toNat = i := by simp [intOf]
        have HMS : Aside0 (v - (intOf (.int .i64 (wrap64 ((i : Int) + 1)))).toNat < v - (intOf (.int .i64 (i : Int))).toNat) := ⟨by rw [hm, hm0]; omega⟩
        cases c with
        | false =>
          have HN : Aside0 (nextIn v m = (List.replicate i false ++ true :: r, true)) := ⟨hn⟩
          clear hn hr HX HB HG hm hm0
          simp only [Bool.not_false] at hcell2 HB2
          go_wp2
          go_ret
          rw [HN.out]
          exact ⟨rfl, HB2.out, HG2.out⟩
        | true =>
          have HN : Aside0 (nextIn v m = (List.replicate (i + 1) false ++ (nextIn (v - (i + 1)) r).1, (nextIn (v - (i + 1)) r).2)) := ⟨by rw [hn, List.replicate_succ']; simp [nextIn]⟩
          have HB3 : Aside0 (W2.heap[b]? = some (.cells (bits (List.replicate (i + 1) false ++ r)) 84 (0, 0))) := by
            have := HB2.out
            rw [List.replicate_succ']
            exact ⟨by simpa using this⟩
          clear hn hr HX HB HG hm hm0
          simp only [Bool.not_true] at hcell2
          go_wp2
          go_roundw
          case measure => first | exact HMS.out | (have := HR.out; simp [intOf]; omega)
          case rel => exact ⟨i + 1, _, r, rfl, ⟨by first | exact HX2.out | omega, HR.out.2, HR.out.1, HN.out⟩, HB3, HG2⟩
    · obtain rfl : i = v := by omega
      have q3 : decide (x < (i : Int)) = false := decide_eq_false (by omega)
      have HN : Aside0 (nextIn i m = (List.replicate i false ++ r, false)) := ⟨by rw [hn, Nat.sub_self]; rfl⟩
      clear hxi hi hr hn hlt HX
      go_wp2
      go_ret
      rw [HN.out]
      exact ⟨rfl, HB.out, HG.out⟩
end Go.Proofs.YtggnnnddnppcpaaHand
/-! text YtggnnnddnppcpaaCnfCount -/
namespace Go.Proofs.YtggnnnddnppcpaaMath
open Go.Proofs.YtggnnnddnppcpaaW.PrintWords
/-- the list of so many truths with that number -/
def counted : Nat → Nat → List Bool
  | 0, _ => []
  | v + 1, n => (n % 2 == 1) :: counted v (n / 2)
theorem counted_length (v n : Nat) : (counted v n).length = v := by
  induction v generalizing n with
  | zero => rfl
  | succ v ih => simp [counted, ih]
theorem counted_zero (v : Nat) : counted v 0 = List.replicate v false := by
  induction v with
  | zero => rfl
  | succ v ih => simp [counted, ih, List.replicate_succ]
theorem next_counted (v n : Nat) (r : List Bool) (hn : n < 2 ^ v) : nextIn v (counted v n ++ r) = (counted v (n + 1) ++ r, decide (n + 1 < 2 ^ v)) := by
  induction v generalizing n with
  | zero =>
    have : n = 0 := by simpa using hn
    subst this
    simp [nextIn, counted]
  | succ v ih =>
    have h2 : 2 ^ (v + 1) = 2 * 2 ^ v := by rw [Nat.pow_succ]; omega
    rcases Nat.mod_two_eq_zero_or_one n with h | h
    · have e1 : (n % 2 == 1) = false := by simp [h]
      have e2 : ((n + 1) % 2 == 1) = true := by simp; omega
      have e3 : (n + 1) / 2 = n / 2 := by omega
      have e4 : n + 1 < 2 ^ (v + 1) := by omega
      simp only [counted, e1, e2, e3, List.cons_append, nextIn, decide_eq_true e4]
    · have e1 : (n % 2 == 1) = true := by simp [h]
      have e2 : ((n + 1) % 2 == 1) = false := by simp; omega
      have e3 : (n + 1) / 2 = n / 2 + 1 := by omega
      have e4 : n / 2 < 2 ^ v := by omega
      have e5 : decide (n / 2 + 1 < 2 ^ v) = decide (n + 1 < 2 ^ (v + 1)) := by
        rw [Bool.eq_iff_iff, decide_eq_true_eq, decide_eq_true_eq]
        omega
      simp only [counted, e1, e2, e3, List.cons_append, nextIn, ih (n / 2) e4, e5]
/-- a list of truths as a number -/
def numOf : List Bool → Nat
  | [] => 0
  | b :: m => (if b = true then 1 else 0) + 2 * numOf m
theorem num_counted (v n : Nat) (hn : n < 2 ^ v) : numOf (counted v n) = n := by
  induction v generalizing n with
  | zero =>
    have : n = 0 := by simpa using hn
    subst this
    rfl
  | succ v ih =>
    have h2 : 2 ^ (v + 1) = 2 * 2 ^ v := by rw [Nat.pow_succ]; omega
    have := ih (n / 2) (by omega)
    rcases Nat.mod_two_eq_zero_or_one n with h | h
    · simp only [counted, numOf, this, h]
      simp
      omega
    · simp only [counted, numOf, this, h]
      simp
      omega
/-- the models among the first so many -/
def modelsTo (v : Nat) (cs : List (List Int)) (k : Nat) : List (List Bool) := ((List.range k).map (counted v)).filter (allIn cs)
def modelsIn (v : Nat) (cs : List (List Int)) : List (List Bool) := modelsTo v cs (2 ^ v)
theorem modelsTo_succ (v : Nat) (cs : List (List Int)) (k : Nat) : modelsTo v cs (k + 1) = modelsTo v cs k ++ (if allIn cs (counted v k) = true then [counted v k] else []) := by
  unfold modelsTo
  rw [List.range_succ, List.map_append, List.filter_append]
  congr 1
  cases h : allIn cs (counted v k) <;> simp [h]
theorem modelsTo_prefix (v : Nat) (cs : List (List Int)) {k n : Nat} (h : k ≤ n) : modelsTo v cs k <+: modelsTo v cs n := by
  induction n with
  | zero =>
    obtain rfl : k = 0 := by omega
    exact List.prefix_refl _
  | succ n ih =>
    rcases Nat.lt_or_ge n k with h1 | h1
    · obtain rfl : k = n + 1 := by omega
      exact List.prefix_refl _
    · rw [modelsTo_succ]
      exact (ih h1).trans (List.prefix_append _ _)
theorem modelsTo_length (v : Nat) (cs : List (List Int)) (k : Nat) : (modelsTo v cs k).length ≤ k := by
  unfold modelsTo
  refine Nat.le_trans (List.length_filter_le _ _) ?_
  simp
theorem modelsTo_mem {v : Nat} {cs : List (List Int)} {k : Nat} {m : List Bool} (h : m ∈ modelsTo v cs k) : m.length = v := by
  unfold modelsTo at h
  rw [List.mem_filter, List.mem_map] at h
  obtain ⟨⟨j, _, rfl⟩, _⟩ := h
  exact counted_length v j
end Go.Proofs.YtggnnnddnppcpaaMath
/-! text YtggnnnddnppcpaaGCnfKeepsModelsx0 -/
namespace Go.Proofs.Ytggnnnddnppcpaa.PCnfKeepsModels
open Go.RowKit Go.Proofs.YtggnnnddnppcpaaW.PrintWords Go.Proofs.YtggnnnddnppcpaaW.PrintLast Go.Proofs.YtggnnnddnppcpaaW.PrintMore
attribute [local go_sem] max2_int min2_int max_two min_two max_three min_three max_four min_four   -- for this text's walks alone
set_option linter.unusedVariables false
set_option linter.unusedSimpArgs false



def errW : Option Int → Value
  | none => .nilIface
  | some c => .iface 0 (.int .i64 c)
theorem errW_none : errW none = .nilIface := rfl
theorem errW_some (c : Int) : errW (some c) = .iface 0 (.int .i64 c) := rfl

theorem info3 : (Try.prog.info? 3).map (fun i => (i.zero, i.size, i.bytes)) = some (some (.int .i64 0), 1, 8) := by kernel_rfl
theorem info4 : (Try.prog.info? 4).map (fun i => (i.zero, i.size, i.bytes)) = some (some (.bool false), 1, 1) := by kernel_rfl
theorem info41 : (Try.prog.info? 41).map (fun i => (i.zero, i.size, i.bytes)) = some (some (.slice none 0 0), 1, 24) := by kernel_rfl
-- the values' own types
def rd_L1 (xs : List (List Int)) (i : Int) : (List Int) := xs.getD i.toNat ([] : List Int)
theorem at_L1 {w : World} {A : Option Addr} {n : Nat} {xs : List (List Int)} (h : Kd.C (Kd.slice 3 (Kd.int .i64)) w A n xs) (i : Int) (h0 : 0 ≤ i) (h1 : i < n) : ∃ ad A0 c0, A = some ad ∧ w.cell? (ad.add i.toNat) = some (.slice A0 (rd_L1 xs i).length c0) ∧ (rd_L1 xs i).length ≤ c0 ∧ (Kd.int .i64).C w A0 (rd_L1 xs i).length (rd_L1 xs i) := by
  obtain ⟨ad, c, e, _, hK, hc0⟩ := Kd.C_get h ([] : List Int) i h0 h1
  have hc : ∀ j u, c[j]? = some u → w.cell? (ad.add (i.toNat * 1 + j)) = some u := hc0
  obtain ⟨A0, c0, rfl, l0, g0⟩ := hK
  exact ⟨ad, A0, c0, e, by have hq := hc 0 _ rfl; rwa [Nat.mul_one, Nat.add_zero] at hq, l0, g0⟩

end Go.Proofs.Ytggnnnddnppcpaa.PCnfKeepsModels
