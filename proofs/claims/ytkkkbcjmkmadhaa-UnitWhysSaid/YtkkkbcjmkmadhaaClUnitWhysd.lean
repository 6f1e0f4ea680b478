/- Maps of the call's own as functions: what a block holds, key by key; each operation's law in these words. -/
import Derived.Maps.OwnSet
import Derived.Maps.OwnIn
import Derived.WalkKit
import Derived.Below
import Derived.Deep.Draws
import Derived.Test.YtkkkbcjmkmadhaaClUnitWhysb
import Derived.Test.YtkkkbcjmkmadhaaClUnitWhysa
import Derived.Test.YtkkkbcjmkmadhaaClUnitWhysc
/-! text YtkkkbcjmkmadhaaIntMap -/
namespace Go.Proofs.YtkkkbcjmkmadhaaMaps
open Go Go.Maps Go.RowKit
set_option linter.unusedVariables false
set_option linter.unusedSimpArgs false

/-- kinds of keys -/
structure Keys (κ : Type) where
  kl : κ → Lit
  inj : ∀ {a b}, kl a = kl b → a = b
  isKey : ∀ a, WideAt.IsKeyLit (kl a)
def intKeys : Keys Int where
  kl := Lit.int .i64
  inj := fun h => by injection h
  isKey := fun a => by simp [WideAt.IsKeyLit]
def strKeys : Keys (List UInt8) where
  kl := Lit.string
  inj := fun h => by injection h
  isKey := fun a => by simp [WideAt.IsKeyLit]
/-- kinds of elements -/
structure Elem (α : Type) where
  enc : α → Value
  el : α → DataW Unit
  R : Value → Option (DataW Unit × List MemPlace)
  ok : α → Prop
  inv : ∀ {v z}, R v = some z → ∃ a, v = enc a ∧ z.1 = el a
  reads : ∀ {a}, ok a → R (enc a) = some (el a, [])
  inj : ∀ {a b}, el a = el b → a = b
def intElem (P : Program) (e : TypeId) (he : P.underlying e = some (.int .i64)) : Elem Int where
  enc := Value.int .i64
  el := fun c => .lit (.int .i64 c)
  R := plainElem P e
  ok := fun c => (Lit.int .i64 c).wf = true
  inv := fun h => by
    obtain ⟨a, rfl, rfl, _⟩ := plainElem_int_inv he h
    exact ⟨a, rfl, rfl⟩
  reads := fun h => plainElem_int he h
  inj := fun h => by injection h with h; injection h
noncomputable def markR (v : Value) : Option (DataW Unit × List MemPlace) := by classical exact if v = .agg #[.bool true] then some (.lit (.bool true), []) else if v = .agg #[.bool false] then some (.lit (.bool false), []) else none
noncomputable def markElem : Elem Bool where
  enc := fun b => .agg #[.bool b]
  el := fun b => .lit (.bool b)
  R := markR
  ok := fun _ => True
  inv := fun {v z} h => by
    unfold markR at h
    split at h
    · rename_i hv
      cases h
      exact ⟨true, hv, rfl⟩
    · split at h
      · rename_i hv
        cases h
        exact ⟨false, hv, rfl⟩
      · cases h
  reads := fun {a} _ => by cases a <;> simp [markR]
  inj := fun h => by injection h with h; injection h

variable {κ α : Type}
/-- Block B of W is a map that holds at each key what f says: at most n, just c of them. -/
def IM (P : Program) (k : TypeId) (Ky : Keys κ) (E : Elem α) (W : World) (B n : Nat) (f : κ → Option α) (c : Nat) : Prop :=
  ∃ D, W.ownsMap P k E.R B n D ∧ Maps.size D = c ∧ ∀ x, Maps.has D (Ky.kl x) = (f x).isSome ∧ ∀ z, D.atKey (Ky.kl x) z = ((f x).map E.el).getD z

noncomputable def upd (f : κ → Option α) (x : κ) (v : α) : κ → Option α := by classical exact fun y => if y = x then some v else f y
noncomputable def del (f : κ → Option α) (x : κ) : κ → Option α := by classical exact fun y => if y = x then none else f y
theorem upd_same (f : κ → Option α) (x : κ) (v : α) : upd f x v x = some v := by simp [upd]
theorem upd_other (f : κ → Option α) {x y : κ} (v : α) (h : y ≠ x) : upd f x v y = f y := by simp [upd, h]
theorem del_same (f : κ → Option α) (x : κ) : del f x x = none := by simp [del]
theorem del_other (f : κ → Option α) {x y : κ} (h : y ≠ x) : del f x y = f y := by simp [del, h]

section
variable {P : Program} {k : TypeId} {Ky : Keys κ} {E : Elem α} {W : World} {B n c : Nat} {f : κ → Option α}
theorem IM.made (W : World) : IM P k Ky E (W.alloc (.map #[] 0)) W.heap.size 0 (fun _ => none) 0 :=
  ⟨_, World.ownsMap_made W P k E.R, rfl, fun x => ⟨rfl, fun z => rfl⟩⟩
theorem IM.lt (h : IM P k Ky E W B n f c) : B < W.heap.size := by
  obtain ⟨D, h, _⟩ := h
  exact h.lt
theorem IM.kept {W' : World} {row : Option Nat} (h : IM P k Ky E W B n f c) (hg : W.grownBy W' row) (hne : some B ≠ row) : IM P k Ky E W' B n f c := by
  obtain ⟨D, h, r⟩ := h
  exact ⟨D, h.kept hg hne, r⟩
theorem IM.block {W' : World} (h : IM P k Ky E W B n f c) (hb : W'.heap[B]? = W.heap[B]?) : IM P k Ky E W' B n f c := by
  obtain ⟨D, ⟨es, clock, h1, h2⟩, r⟩ := h
  exact ⟨D, ⟨es, clock, hb.trans h1, h2⟩, r⟩
theorem IM.below {W' : World} (h : IM P k Ky E W B n f c) (hb : Below W.heap.size W W') : IM P k Ky E W' B n f c := h.block (hb.block B h.lt)
theorem IM.alloc (h : IM P k Ky E W B n f c) (o : Obj) : IM P k Ky E (W.alloc o) B n f c := by
  obtain ⟨D, h, r⟩ := h
  exact ⟨D, h.alloc o, r⟩
theorem IM.drewN (h : IM P k Ky E W B n f c) (m : Nat) : IM P k Ky E (W.drewN m) B n f c := h
theorem IM.drew (h : IM P k Ky E W B n f c) : IM P k Ky E W.drew B n f c := h
theorem IM.setCell (h : IM P k Ky E W B n f c) {a : Addr} (ha : B ≠ a.block) (u : Value) : IM P k Ky E (W.setCell a u) B n f c := by
  obtain ⟨D, h, r⟩ := h
  exact ⟨D, h.setCell ha u, r⟩
theorem IM.mono (h : IM P k Ky E W B n f c) {n' : Nat} (hn : n ≤ n') : IM P k Ky E W B n' f c := by
  obtain ⟨D, h, r⟩ := h
  exact ⟨D, h.mono hn, r⟩
theorem IM.congr (h : IM P k Ky E W B n f c) {g : κ → Option α} (hg : ∀ x, g x = f x) : IM P k Ky E W B n g c := by
  obtain rfl : g = f := funext hg
  exact h
theorem IM.size_le (h : IM P k Ky E W B n f c) : c ≤ n := by
  obtain ⟨D, h, rfl, _⟩ := h
  exact h.size_le
theorem put_reads {D : DataW Unit} (hD : Maps.Tidy D) (hr : ∀ x, Maps.has D (Ky.kl x) = (f x).isSome ∧ ∀ z, D.atKey (Ky.kl x) z = ((f x).map E.el).getD z) (x : κ) (v : α) :
    Maps.size (D.put (Ky.kl x) (E.el v)) = (if (f x).isSome = true then Maps.size D else Maps.size D + 1) ∧ ∀ y, Maps.has (D.put (Ky.kl x) (E.el v)) (Ky.kl y) = (upd f x v y).isSome ∧ ∀ z, (D.put (Ky.kl x) (E.el v)).atKey (Ky.kl y) z = ((upd f x v y).map E.el).getD z := by
  refine ⟨by rw [Maps.size_put hD, (hr x).1], fun y => ?_⟩
  by_cases hy : y = x
  · subst hy
    rw [upd_same]
    exact ⟨Maps.has_put_same hD.isMap (Ky.isKey _) _, fun z => Maps.atKey_put_same hD.isMap (Ky.isKey _) _ z⟩
  · rw [upd_other f v hy]
    have hne : Ky.kl y ≠ Ky.kl x := fun h => hy (Ky.inj h)
    exact ⟨(Maps.has_put_other hne _).trans (hr y).1, fun z => (Maps.atKey_put_other hne _ z).trans ((hr y).2 z)⟩
theorem del_reads {D : DataW Unit} (hD : Maps.Tidy D) (hr : ∀ x, Maps.has D (Ky.kl x) = (f x).isSome ∧ ∀ z, D.atKey (Ky.kl x) z = ((f x).map E.el).getD z) (x : κ) :
    Maps.size (D.del (Ky.kl x)) = (if (f x).isSome = true then Maps.size D - 1 else Maps.size D) ∧ ∀ y, Maps.has (D.del (Ky.kl x)) (Ky.kl y) = (del f x y).isSome ∧ ∀ z, (D.del (Ky.kl x)).atKey (Ky.kl y) z = ((del f x y).map E.el).getD z := by
  refine ⟨?_, fun y => ?_⟩
  · have h := Maps.size_del (k := Ky.kl x) hD
    rw [(hr x).1] at h
    split <;> simp_all <;> omega
  by_cases hy : y = x
  · subst hy
    rw [del_same]
    exact ⟨Maps.has_del_same, fun z => Maps.atKey_del_same z⟩
  · rw [del_other f hy]
    have hne : Ky.kl y ≠ Ky.kl x := fun h => hy (Ky.inj h)
    exact ⟨(Maps.has_del_other hne).trans (hr y).1, fun z => (Maps.atKey_del_other hne z).trans ((hr y).2 z)⟩
theorem IM.look (h : IM P k Ky E W B n f c) {t e : TypeId} (K : Keyed P k) (ht : P.underlying t = some (.map k e)) {z : α} (hz : (zeroValue e).run P W = .ok (E.enc z) W) (hzk : E.ok z) {xv : Value} {x : κ} (hkey : keyOf P k xv = some (Ky.kl x)) :
    (Instr.lookup t (.map (some B)) xv false).run P W = .ok (E.enc ((f x).getD z)) W := by
  obtain ⟨D, h, _, hr⟩ := h
  obtain ⟨v, ps, hrun, hv⟩ := h.lookup K ht hz (E.reads hzk) hkey
  obtain ⟨a, rfl, ha⟩ := E.inv hv
  rw [(hr x).2] at ha
  have : a = (f x).getD z := by
    cases hf : f x with
    | none => rw [hf] at ha; exact (E.inj ha).symm
    | some b => rw [hf] at ha; exact (E.inj ha).symm
  rw [hrun, this]
theorem IM.look_ok (h : IM P k Ky E W B n f c) {t e : TypeId} (K : Keyed P k) (ht : P.underlying t = some (.map k e)) {z : α} (hz : (zeroValue e).run P W = .ok (E.enc z) W) (hzk : E.ok z) {xv : Value} {x : κ} (hkey : keyOf P k xv = some (Ky.kl x)) :
    (Instr.lookup t (.map (some B)) xv true).run P W = .ok (.tuple #[E.enc ((f x).getD z), .bool (f x).isSome]) W := by
  obtain ⟨D, h, _, hr⟩ := h
  obtain ⟨v, ps, hrun, hv⟩ := h.look_ok K ht hz (E.reads hzk) hkey
  obtain ⟨a, rfl, ha⟩ := E.inv hv
  rw [(hr x).2] at ha
  have : a = (f x).getD z := by
    cases hf : f x with
    | none => rw [hf] at ha; exact (E.inj ha).symm
    | some b => rw [hf] at ha; exact (E.inj ha).symm
  rw [hrun, this, (hr x).1]
theorem IM.store (h : IM P k Ky E W B n f c) {t e : TypeId} (K : Keyed P k) (ht : P.underlying t = some (.map k e)) (hn : n < maxLen) {xv : Value} {x : κ} {v : α} (hkey : keyOf P k xv = some (Ky.kl x)) (hv : E.ok v) :
    ∃ w', (Instr.mapUpdate t (.map (some B)) xv (E.enc v)).run P W = .ok () w' ∧ IM P k Ky E w' B (n + 1) (upd f x v) (if (f x).isSome = true then c else c + 1) ∧ W.grownBy w' (some B) := by
  obtain ⟨D, h, rfl, hr⟩ := h
  obtain ⟨w', hrun, h1, h2⟩ := h.update K ht hn hkey (E.reads hv)
  obtain ⟨p1, p2⟩ := put_reads (h.tidy K) hr x v
  exact ⟨w', hrun, ⟨_, h1, p1, p2⟩, h2⟩
theorem IM.drop (h : IM P k Ky E W B n f c) {t e : TypeId} (K : Keyed P k) (ht : P.underlying t = some (.map k e)) {xv : Value} {x : κ} (hkey : keyOf P k xv = some (Ky.kl x)) (ty : TypeId) :
    ∃ w', (Builtin.delete_ #[t, k] ty #[.map (some B), xv]).run P W = .ok (.tuple #[]) w' ∧ IM P k Ky E w' B n (del f x) (if (f x).isSome = true then c - 1 else c) ∧ W.grownBy w' (some B) := by
  obtain ⟨D, h, rfl, hr⟩ := h
  obtain ⟨w', hrun, h1, h2⟩ := h.drop K ht hkey ty
  obtain ⟨p1, p2⟩ := del_reads (h.tidy K) hr x
  exact ⟨w', hrun, ⟨_, h1, p1, p2⟩, h2.grown⟩
theorem IM.len (h : IM P k Ky E W B n f c) {t e : TypeId} (ht : P.underlying t = some (.map k e)) (ty : TypeId) : (Builtin.len_ #[t] ty #[.map (some B)]).run P W = .ok (.int .i64 c) W := by
  obtain ⟨D, h, rfl, _⟩ := h
  exact h.len ht ty
end

/-! at the operation, for the walk -/
section
variable {P : Program} (w : World) {ops : Array Oper} {rest : List Oper} {o : Oper} {a : Act} {Q : Exit → Act → World → Prop} {k e : TypeId} {Ky : Keys κ} {E : Elem α} {B n c : Nat} {f : κ → Option α}
theorem im_look (hg : o.guard = none) (m x : Operand) (t : TypeId) (hop : o.op = Op.lookup t m x false) (K : Keyed P k) (ht : P.underlying t = some (.map k e)) {z : α} (hz : (zeroValue e).run P w = .ok (E.enc z) w) (hzk : E.ok z)
    (hm : a.eval m = .map (some B)) (h : IM P k Ky E w B n f c) (xv : Value) (key : κ) (hx : a.eval x = xv) (hkey : keyOf P k xv = some (Ky.kl key))
    (hK : wpList P ops Q rest (a.put o.dst (E.enc ((f key).getD z))) w) : wpList P ops Q (o :: rest) a w := by
  refine wpList_plain hg fun K' hK' => ?_
  have hrun := h.look K ht hz hzk hkey
  unfold Oper.wp
  simp [execOp, hop, hm, hx, hrun, Result.andThen]
  exact hK' _ _ hK
theorem im_look_int (he : P.underlying e = some (.int .i64)) (hg : o.guard = none) (m x : Operand) (t : TypeId) (hop : o.op = Op.lookup t m x false) (K : Keyed P k) (ht : P.underlying t = some (.map k e)) (hz : (zeroValue e).run P w = .ok (.int .i64 0) w)
    (hm : a.eval m = .map (some B)) {f : κ → Option Int} (h : IM P k Ky (intElem P e he) w B n f c) (xv : Value) (key : κ) (hx : a.eval x = xv) (hkey : keyOf P k xv = some (Ky.kl key))
    (hK : wpList P ops Q rest (a.put o.dst (.int .i64 ((f key).getD 0))) w) : wpList P ops Q (o :: rest) a w :=
  im_look w hg m x t hop K ht (z := (0 : Int)) hz (show (Lit.int .i64 0).wf = true by decide) hm h xv key hx hkey hK
theorem im_look_mark (hg : o.guard = none) (m x : Operand) (t : TypeId) (hop : o.op = Op.lookup t m x false) (K : Keyed P k) (ht : P.underlying t = some (.map k e)) (hz : (zeroValue e).run P w = .ok (.agg #[.bool false]) w)
    (hm : a.eval m = .map (some B)) {f : κ → Option Bool} (h : IM P k Ky markElem w B n f c) (xv : Value) (key : κ) (hx : a.eval x = xv) (hkey : keyOf P k xv = some (Ky.kl key))
    (hK : wpList P ops Q rest (a.put o.dst (.agg #[.bool ((f key).getD false)])) w) : wpList P ops Q (o :: rest) a w :=
  im_look w hg m x t hop K ht (z := false) hz trivial hm h xv key hx hkey hK
theorem im_ok (hg : o.guard = none) (m x : Operand) (t : TypeId) (hop : o.op = Op.lookup t m x true) (K : Keyed P k) (ht : P.underlying t = some (.map k e)) {z : α} (hz : (zeroValue e).run P w = .ok (E.enc z) w) (hzk : E.ok z)
    (hm : a.eval m = .map (some B)) (h : IM P k Ky E w B n f c) (xv : Value) (key : κ) (hx : a.eval x = xv) (hkey : keyOf P k xv = some (Ky.kl key))
    (hK : wpList P ops Q rest (a.put o.dst (.tuple #[E.enc ((f key).getD z), .bool (f key).isSome])) w) : wpList P ops Q (o :: rest) a w := by
  refine wpList_plain hg fun K' hK' => ?_
  have hrun := h.look_ok K ht hz hzk hkey
  unfold Oper.wp
  simp [execOp, hop, hm, hx, hrun, Result.andThen]
  exact hK' _ _ hK
theorem im_ok_int (he : P.underlying e = some (.int .i64)) (hg : o.guard = none) (m x : Operand) (t : TypeId) (hop : o.op = Op.lookup t m x true) (K : Keyed P k) (ht : P.underlying t = some (.map k e)) (hz : (zeroValue e).run P w = .ok (.int .i64 0) w)
    (hm : a.eval m = .map (some B)) {f : κ → Option Int} (h : IM P k Ky (intElem P e he) w B n f c) (xv : Value) (key : κ) (hx : a.eval x = xv) (hkey : keyOf P k xv = some (Ky.kl key))
    (hK : wpList P ops Q rest (a.put o.dst (.tuple #[.int .i64 ((f key).getD 0), .bool (f key).isSome])) w) : wpList P ops Q (o :: rest) a w :=
  im_ok w hg m x t hop K ht (z := (0 : Int)) hz (show (Lit.int .i64 0).wf = true by decide) hm h xv key hx hkey hK
theorem im_ok_mark (hg : o.guard = none) (m x : Operand) (t : TypeId) (hop : o.op = Op.lookup t m x true) (K : Keyed P k) (ht : P.underlying t = some (.map k e)) (hz : (zeroValue e).run P w = .ok (.agg #[.bool false]) w)
    (hm : a.eval m = .map (some B)) {f : κ → Option Bool} (h : IM P k Ky markElem w B n f c) (xv : Value) (key : κ) (hx : a.eval x = xv) (hkey : keyOf P k xv = some (Ky.kl key))
    (hK : wpList P ops Q rest (a.put o.dst (.tuple #[.agg #[.bool ((f key).getD false)], .bool (f key).isSome])) w) : wpList P ops Q (o :: rest) a w :=
  im_ok w hg m x t hop K ht (z := false) hz trivial hm h xv key hx hkey hK
theorem im_store (hg : o.guard = none) (m x v : Operand) (t : TypeId) (hop : o.op = Op.mapUpdate t m x v) (K : Keyed P k) (ht : P.underlying t = some (.map k e)) (hm : a.eval m = .map (some B)) (h : IM P k Ky E w B n f c) (hn : n < maxLen)
    (xv vv : Value) (key : κ) (val : α) (hx : a.eval x = xv) (hv : a.eval v = vv) (hkey : keyOf P k xv = some (Ky.kl key)) (hval : vv = E.enc val) (hok : E.ok val)
    (hK : ∀ w', IM P k Ky E w' B (n + 1) (upd f key val) (if (f key).isSome = true then c else c + 1) → w.grownBy w' (some B) → wpList P ops Q rest (a.put o.dst undef) w') : wpList P ops Q (o :: rest) a w := by
  refine wpList_plain hg fun K' hK' => ?_
  subst hval
  obtain ⟨w', hrun, r1, r2⟩ := h.store K ht hn hkey hok
  unfold Oper.wp
  simp [execOp, hop, hm, hx, hv, hrun, Result.andThen]
  exact hK' _ _ (hK w' r1 r2)
theorem im_store_int (he : P.underlying e = some (.int .i64)) (hg : o.guard = none) (m x v : Operand) (t : TypeId) (hop : o.op = Op.mapUpdate t m x v) (K : Keyed P k) (ht : P.underlying t = some (.map k e)) (hm : a.eval m = .map (some B)) {f : κ → Option Int} (h : IM P k Ky (intElem P e he) w B n f c) (hn : n < maxLen)
    (xv : Value) (key : κ) (val : Int) (hx : a.eval x = xv) (hv : a.eval v = .int .i64 val) (hkey : keyOf P k xv = some (Ky.kl key)) (hok : (Lit.int .i64 val).wf = true)
    (hK : ∀ w', IM P k Ky (intElem P e he) w' B (n + 1) (upd f key val) (if (f key).isSome = true then c else c + 1) → w.grownBy w' (some B) → wpList P ops Q rest (a.put o.dst undef) w') : wpList P ops Q (o :: rest) a w :=
  im_store w hg m x v t hop K ht hm h hn xv (.int .i64 val) key val hx hv hkey rfl hok hK
theorem im_store_mark (hg : o.guard = none) (m x v : Operand) (t : TypeId) (hop : o.op = Op.mapUpdate t m x v) (K : Keyed P k) (ht : P.underlying t = some (.map k e)) (hm : a.eval m = .map (some B)) {f : κ → Option Bool} (h : IM P k Ky markElem w B n f c) (hn : n < maxLen)
    (xv : Value) (key : κ) (val : Bool) (hx : a.eval x = xv) (hv : a.eval v = .agg #[.bool val]) (hkey : keyOf P k xv = some (Ky.kl key))
    (hK : ∀ w', IM P k Ky markElem w' B (n + 1) (upd f key val) (if (f key).isSome = true then c else c + 1) → w.grownBy w' (some B) → wpList P ops Q rest (a.put o.dst undef) w') : wpList P ops Q (o :: rest) a w :=
  im_store w hg m x v t hop K ht hm h hn xv (.agg #[.bool val]) key val hx hv hkey rfl trivial hK
theorem im_delete (hg : o.guard = none) (m x : Operand) (t : TypeId) (hop : o.op = Op.call { callee := Callee.builtin Builtin.delete, args := #[m, x], argTypes := #[t, k] }) (K : Keyed P k) (ht : P.underlying t = some (.map k e)) (hm : a.eval m = .map (some B)) (h : IM P k Ky E w B n f c)
    (xv : Value) (key : κ) (hx : a.eval x = xv) (hkey : keyOf P k xv = some (Ky.kl key))
    (hK : ∀ w', IM P k Ky E w' B n (del f key) (if (f key).isSome = true then c - 1 else c) → w.grownBy w' (some B) → wpList P ops Q rest (a.put o.dst (.tuple #[])) w') : wpList P ops Q (o :: rest) a w := by
  refine wpList_plain hg fun K' hK' => ?_
  obtain ⟨w', hrun, r1, r2⟩ := h.drop K ht hkey o.type
  unfold Oper.wp
  simp [execOp, hop, resolve, invoke, builtin, hm, hx, hrun, Result.andThen]
  exact hK' _ _ (hK w' r1 r2)
theorem im_len (hg : o.guard = none) (m : Operand) (t : TypeId) (hop : o.op = Op.call { callee := Callee.builtin Builtin.len, args := #[m], argTypes := #[t] }) (ht : P.underlying t = some (.map k e)) (hm : a.eval m = .map (some B)) (h : IM P k Ky E w B n f c)
    (hK : wpList P ops Q rest (a.put o.dst (.int .i64 c)) w) : wpList P ops Q (o :: rest) a w := by
  refine wpList_plain hg fun K' hK' => ?_
  have hrun := h.len ht o.type
  unfold Oper.wp
  simp [execOp, hop, resolve, invoke, builtin, hm, hrun, Result.andThen]
  exact hK' _ _ hK
end
end Go.Proofs.YtkkkbcjmkmadhaaMaps
/-! text YtkkkbcjmkmadhaaMapI -/
namespace Go.Proofs.YtkkkbcjmkmadhaaHand
open Go.RowKit Go.Proofs.YtkkkbcjmkmadhaaW.PrintWords Go.Proofs.YtkkkbcjmkmadhaaW.PrintLast Go.Proofs.YtkkkbcjmkmadhaaMaps Go.Maps
set_option linter.unusedVariables false
set_option linter.unusedSimpArgs false
theorem mapK : Keyed Try.prog 3 := int_keyed Try.underlying3
theorem zeroI (w : World) : (zeroValue 3).run Try.prog w = .ok (.int .i64 0) w := by kernel_rfl
abbrev IMI (W : World) (B n : Nat) (f : Int → Option Int) (c : Nat) : Prop := IM Try.prog 3 intKeys (intElem Try.prog 3 Try.underlying3) W B n f c
theorem hkeyI {x : Int} (h : -9223372036854775808 ≤ x ∧ x ≤ 9223372036854775807) : keyOf Try.prog 3 (.int .i64 x) = some (intKeys.kl x) := keyOf_int_mk Try.underlying3 (WalkArith.wf_i64 h)
theorem im_look_run {W : World} {B n c : Nat} {f : Int → Option Int} (h : IMI W B n f c) (v : Int) (hv : -9223372036854775808 ≤ v ∧ v ≤ 9223372036854775807) : (Instr.lookup 124 (.map (some B)) (.int .i64 v) false).run Try.prog W = .ok (.int .i64 ((f v).getD 0)) W :=
  h.look mapK Try.underlying124 (z := (0 : Int)) (zeroI _) (show (Lit.int .i64 0).wf = true by decide) (hkeyI hv)
end Go.Proofs.YtkkkbcjmkmadhaaHand
/-! text YtkkkbcjmkmadhaaUnitMath -/
namespace Go.Proofs.YtkkkbcjmkmadhaaMath
set_option linter.unusedVariables false
set_option linter.unusedSimpArgs false
/-- how a clause stands where the literals K are true: 0: open, 1: true, 2: false, 3: unit, and on which literal -/
def standGo (K : List Int) : List Int → Int → Int × Int
  | [], o => if o = 0 then (2, 0) else (3, o)
  | x :: r, o => if x ∈ K then (1, 0) else if -x ∈ K then standGo K r o else if o ≠ 0 ∧ o ≠ x then (0, 0) else standGo K r x
def firstGo (K : List Int) : List (List Int) → Int → Int × Int × Int
  | [], _ => (-1, 0, 0)
  | c :: r, i => if (standGo K c 0).1 = 2 ∨ (standGo K c 0).1 = 3 then (i, (standGo K c 0).1, (standGo K c 0).2) else firstGo K r (i + 1)
def whyGo (cs : List (List Int)) : Nat → List Int → List (Int × Int) → Option (List (Int × Int) × Int)
  | 0, _, _ => none
  | n + 1, K, acc => if (firstGo K cs 0).2.1 = 2 then some (acc, (firstGo K cs 0).1) else if (firstGo K cs 0).2.1 = 3 then whyGo cs n ((firstGo K cs 0).2.2 :: K) (acc ++ [((firstGo K cs 0).2.2, (firstGo K cs 0).1)]) else some (acc, -1)
theorem standGo_kind (K : List Int) (c : List Int) : ∀ o, (standGo K c o).1 = 0 ∨ (standGo K c o).1 = 1 ∨ (standGo K c o).1 = 2 ∨ (standGo K c o).1 = 3 := by
  induction c with
  | nil => intro o; simp only [standGo]; split <;> simp
  | cons x r ih =>
    intro o
    simp only [standGo]
    split
    · simp
    · split
      · exact ih o
      · split
        · simp
        · exact ih x
theorem standGo_unit (K : List Int) (c : List Int) : ∀ o l, standGo K c o = (3, l) → l ≠ 0 ∧ (l = o ∨ (l ∈ c ∧ l ∉ K ∧ -l ∉ K)) := by
  induction c with
  | nil =>
    intro o l h
    simp only [standGo] at h
    split at h
    · simp at h
    · rename_i h0
      injection h with _ h
      exact ⟨by rw [← h]; exact h0, .inl h.symm⟩
  | cons x r ih =>
    intro o l h
    simp only [standGo] at h
    split at h
    · simp at h
    · split at h
      · obtain ⟨h1, h2⟩ := ih o l h
        exact ⟨h1, h2.imp id fun h => ⟨List.mem_cons_of_mem _ h.1, h.2⟩⟩
      · split at h
        · simp at h
        · rename_i h1 h2 h3
          obtain ⟨h4, h5⟩ := ih x l h
          refine ⟨h4, .inr ?_⟩
          rcases h5 with rfl | h5
          · exact ⟨List.mem_cons_self, h1, h2⟩
          · exact ⟨List.mem_cons_of_mem _ h5.1, h5.2⟩
theorem firstGo_kind (K : List Int) (cs : List (List Int)) : ∀ i, (firstGo K cs i).2.1 = 0 ∨ (firstGo K cs i).2.1 = 2 ∨ (firstGo K cs i).2.1 = 3 := by
  induction cs with
  | nil => intro i; simp [firstGo]
  | cons c r ih =>
    intro i
    simp only [firstGo]
    split
    · rename_i h; exact .inr h
    · exact ih (i + 1)
theorem firstGo_at (K : List Int) (cs : List (List Int)) : ∀ i, (firstGo K cs i).2.1 ≠ 0 → i ≤ (firstGo K cs i).1 ∧ (firstGo K cs i).1 < i + cs.length := by
  induction cs with
  | nil => intro i h; simp [firstGo] at h
  | cons c r ih =>
    intro i h
    simp only [firstGo] at h ⊢
    split at h
    · rename_i h1
      rw [if_pos h1]
      simp only [List.length_cons]
      omega
    · rename_i h1
      rw [if_neg h1]
      have := ih (i + 1) h
      simp only [List.length_cons]
      omega
theorem firstGo_unit (K : List Int) (cs : List (List Int)) : ∀ i, (firstGo K cs i).2.1 = 3 → ∃ c ∈ cs, (firstGo K cs i).2.2 ∈ c ∧ (firstGo K cs i).2.2 ∉ K ∧ -(firstGo K cs i).2.2 ∉ K := by
  induction cs with
  | nil => intro i h; simp [firstGo] at h
  | cons c r ih =>
    intro i h
    simp only [firstGo] at h ⊢
    split at h
    · rename_i h1
      rw [if_pos h1]
      have h2 : standGo K c 0 = (3, (standGo K c 0).2) := Prod.ext h rfl
      obtain ⟨h3, h4⟩ := standGo_unit K c 0 _ h2
      rcases h4 with h4 | h4
      · exact absurd h4 h3
      · exact ⟨c, List.mem_cons_self, h4⟩
    · rename_i h1
      rw [if_neg h1]
      obtain ⟨c', h2, h3⟩ := ih (i + 1) h
      exact ⟨c', List.mem_cons_of_mem _ h2, h3⟩
/-- how many variables are not known -/
def freeOf (K : List Int) : Nat → Nat
  | 0 => 0
  | v + 1 => (if ((v + 1 : Nat) : Int) ∈ K ∨ -((v + 1 : Nat) : Int) ∈ K then 0 else 1) + freeOf K v
theorem freeOf_le (K : List Int) (v : Nat) : freeOf K v ≤ v := by
  induction v with
  | zero => exact Nat.le_refl _
  | succ v ih => simp only [freeOf]; split <;> omega
theorem freeOf_mono (K : List Int) (l : Int) (v : Nat) : freeOf (l :: K) v ≤ freeOf K v := by
  induction v with
  | zero => exact Nat.le_refl _
  | succ v ih =>
    simp only [freeOf, List.mem_cons]
    by_cases h : ((v + 1 : Nat) : Int) ∈ K ∨ -((v + 1 : Nat) : Int) ∈ K
    · have h2 : (((v + 1 : Nat) : Int) = l ∨ ((v + 1 : Nat) : Int) ∈ K) ∨ -((v + 1 : Nat) : Int) = l ∨ -((v + 1 : Nat) : Int) ∈ K := h.elim (fun h => .inl (.inr h)) fun h => .inr (.inr h)
      rw [if_pos h, if_pos h2]; omega
    · rw [if_neg h]; split <;> omega
theorem freeOf_lt (K : List Int) (l : Int) (v : Nat) (h0 : l ≠ 0) (hv : l.natAbs ≤ v) (h1 : l ∉ K) (h2 : -l ∉ K) : freeOf (l :: K) v < freeOf K v := by
  induction v with
  | zero => omega
  | succ v ih =>
    simp only [freeOf]
    by_cases hl : l.natAbs = v + 1
    · have h3 : ¬ (((v + 1 : Nat) : Int) ∈ K ∨ -((v + 1 : Nat) : Int) ∈ K) := by
        have : l = ((v + 1 : Nat) : Int) ∨ l = -((v + 1 : Nat) : Int) := by omega
        rcases this with h | h
        · rw [← h]; exact fun h4 => h4.elim h1 h2
        · have e : ((v + 1 : Nat) : Int) = -l := by omega
          rw [e, Int.neg_neg]; exact fun h4 => h4.elim h2 h1
      have h4 : ((v + 1 : Nat) : Int) ∈ l :: K ∨ -((v + 1 : Nat) : Int) ∈ l :: K := by
        simp only [List.mem_cons]
        omega
      rw [if_neg h3, if_pos h4]
      have := freeOf_mono K l v
      omega
    · have := ih (by omega)
      have h5 : (((v + 1 : Nat) : Int) ∈ l :: K ∨ -((v + 1 : Nat) : Int) ∈ l :: K) ↔ (((v + 1 : Nat) : Int) ∈ K ∨ -((v + 1 : Nat) : Int) ∈ K) := by
        simp only [List.mem_cons]
        have e1 : ¬ ((v + 1 : Nat) : Int) = l := by omega
        have e2 : ¬ -((v + 1 : Nat) : Int) = l := by omega
        simp only [e1, e2, false_or]
      simp only [h5]
      omega
theorem whyGo_some (cs : List (List Int)) (v : Nat) (hc : ∀ c ∈ cs, ∀ l ∈ c, l ≠ 0 ∧ l.natAbs ≤ v) : ∀ n K acc, freeOf K v < n → ∃ r, whyGo cs n K acc = some r := by
  intro n
  induction n with
  | zero => intro K acc h; omega
  | succ n ih =>
    intro K acc h
    simp only [whyGo]
    split
    · exact ⟨_, rfl⟩
    · split
      · rename_i h1 h2
        obtain ⟨c, h3, h4, h5, h6⟩ := firstGo_unit K cs 0 h2
        obtain ⟨h7, h8⟩ := hc c h3 _ h4
        have := freeOf_lt K _ v h7 h8 h5 h6
        exact ih _ _ (by omega)
      · exact ⟨_, rfl⟩
theorem whyGo_length (cs : List (List Int)) : ∀ n K acc r, whyGo cs n K acc = some r → r.1.length ≤ acc.length + n := by
  intro n
  induction n with
  | zero => intro K acc r h; simp [whyGo] at h
  | succ n ih =>
    intro K acc r h
    simp only [whyGo] at h
    split at h
    · injection h with h; rw [← h]; simp
    · split at h
      · have := ih _ _ _ h
        rw [List.length_append, List.length_singleton] at this
        omega
      · injection h with h; rw [← h]; simp
/-- whatever the document and the program answer -/
def whyOf (v : Int) (cs : List (List Int)) (facts : List Int) : List (Int × Int) × Int × Int :=
  if (isFormula v cs && sound facts) = true then (if tautIn (tidyOf facts) = true then ([], 0, 20) else (((whyGo cs 1048577 facts []).getD ([], -1)).1, ((whyGo cs 1048577 facts []).getD ([], -1)).2, 0)) else ([], 0, 1)
theorem why_some {v : Int} {cs : List (List Int)} (h : isFormula v cs = true) (facts : List Int) : ∃ r, whyGo cs 1048577 facts [] = some r := by
  have hb := isFormula_bd h
  refine whyGo_some cs v.toNat (fun c hc l hl => ?_) _ _ _ ?_
  · have h1 := within_lit (isFormula_clause h hc) hl
    have h2 := formed_iff.1 h1.1
    omega
  · have := freeOf_le facts v.toNat
    omega
end Go.Proofs.YtkkkbcjmkmadhaaMath
/-! text YtkkkbcjmkmadhaaUnitSays -/
namespace Go.Proofs.YtkkkbcjmkmadhaaMath
open Go.Proofs.YtkkkbcjmkmadhaaMaps
/-- a map counts how often each stands in a list -/
def Tally (f : Int → Option Int) (K : List Int) : Prop := ∀ x, (f x).getD 0 = ((K.count x : Nat) : Int)
theorem tally_pos {f : Int → Option Int} {K : List Int} (h : Tally f K) (x : Int) : (f x).getD 0 > 0 ↔ x ∈ K := by
  rw [h x, ← List.count_pos_iff]
  omega
theorem tally_cons {f : Int → Option Int} {K : List Int} (h : Tally f K) (x : Int) : Tally (upd f x (((K.count x : Nat) : Int) + 1)) (x :: K) := by
  intro y
  by_cases e : y = x
  · subst e
    rw [upd_same, List.count_cons_self]
    rfl
  · rw [upd_other _ _ e, h y, List.count_cons_of_ne (fun e2 => e e2.symm)]
theorem tally_snoc {f : Int → Option Int} {K : List Int} (h : Tally f K) (x : Int) : Tally (upd f x (((K.count x : Nat) : Int) + 1)) (K ++ [x]) := by
  intro y
  rw [tally_cons h x y, List.count_append, List.count_cons, List.count_singleton]
end Go.Proofs.YtkkkbcjmkmadhaaMath
namespace Go.Proofs.YtkkkbcjmkmadhaaHand
open Go.RowKit Go.Proofs.YtkkkbcjmkmadhaaW.PrintWords Go.Proofs.YtkkkbcjmkmadhaaW.PrintLast Go.Proofs.YtkkkbcjmkmadhaaMath Go.Proofs.YtkkkbcjmkmadhaaMaps Go.Maps
set_option linter.unusedVariables false
set_option linter.unusedSimpArgs false
set_option maxHeartbeats 4000000 in
set_option maxRecDepth 100000 in
theorem says_calls (A0 : Option Addr) (c0 : Nat) (l0 : List Int) (B n cnt : Nat) (f : Int → Option Int) (K : List Int) (w : World) (hr0 : Kd.C (Kd.int .i64) w A0 l0.length l0) (hn : l0.length ≤ 17592186044416) (hb : ∀ y ∈ l0, y.natAbs ≤ 1048576 ∧ y ≠ 0) (hm : IMI w B n f cnt) (ht : Tally f K) :
    Calls Try.prog 83 #[.slice A0 l0.length c0, .map (some B)] w fun e w' => e = .returned (.tuple #[.bool (decide ((standGo K l0 0).1 = 2)), .int .i64 (standGo K l0 0).2]) ∧ w' = w := by
  have HR0 := Aside0.mk hr0
  have HN := Aside0.mk hn
  have HBD := Aside0.mk hb
  have HM := Aside0.mk hm
  have HT := Aside0.mk ht
  clear hn hr0 hb hm ht
  go_enter Try.func83, Try.ntmps83
  go_wp2
  go_loopw [5, 7, 10] (fun v5 _ v10 wr => ∃ (k : Nat) (x o : Int), v10 = .int .i64 x ∧ v5 = .int .i64 o ∧ wr = w ∧ Aside0 (x = k ∧ k ≤ l0.length) ∧ Aside0 (standGo K l0 0 = standGo K (l0.drop k) o)) (fun _ _ i _ => l0.length - (intOf i).toNat)
  case atStart => exact ⟨0, 0, 0, rfl, rfl, rfl, ⟨rfl, Nat.zero_le _⟩, ⟨by simp⟩⟩
  case round =>
    obtain ⟨k, x, o, rfl, rfl, rfl, HX, HS⟩ := hrel
    obtain ⟨hxk, hk⟩ := HX.out
    by_cases hlt : k < l0.length
    · have p1 : 0 ≤ x := by omega
      have q1 : x < (l0.length : Int) := by omega
      obtain ⟨ad, e1, hcell⟩ := Kd.at_int HR0.out x p1 q1
      subst e1
      have p2 := eq_true p1
      have q2 := eq_true q1
      have q3 : decide (x < (l0.length : Int)) = true := decide_eq_true q1
      have HX2 : Aside0 (wrap64 (x + 1) = ((k + 1 : Nat) : Int) ∧ k + 1 ≤ l0.length) := by
        have := HN.out
        exact ⟨by rw [w64 (by omega) (by omega)]; omega, by omega⟩
      have hm : (intOf (.int .i64 (wrap64 (x + 1)))).toNat = k + 1 := by rw [HX2.out.1]; simp [intOf]
      have hm0 : (intOf (.int .i64 x)).toNat = k := by rw [hxk]; simp [intOf]
      have HMS : Aside0 (l0.length - (intOf (.int .i64 (wrap64 (x + 1)))).toNat < l0.length - (intOf (.int .i64 x)).toNat) := ⟨by rw [hm, hm0]; omega⟩
      have hrd : rd l0 x = rd l0 (k : Int) := by rw [hxk]
      rw [hrd] at hcell
      have hin : rd l0 (k : Int) ∈ l0 := rd_mem hlt
      have hyb := HBD.out _ hin
      have hdr := drop_rd hlt
      obtain ⟨y, hy⟩ : ∃ y, y = rd l0 (k : Int) := ⟨_, rfl⟩
      rw [← hy] at hcell hyb hdr
      have hst : standGo K l0 0 = if y ∈ K then (1, 0) else if -y ∈ K then standGo K (l0.drop (k + 1)) o else if o ≠ 0 ∧ o ≠ y then (0, 0) else standGo K (l0.drop (k + 1)) y := by rw [HS.out, hdr]; rfl
      have hneg : wrap64 (-y) = -y := by rw [w64 (by omega) (by omega)]
      have L1 : (Instr.lookup 124 (.map (some B)) (.int .i64 y) false).run Try.prog wr = .ok (.int .i64 ((f y).getD 0)) wr := im_look_run HM.out y (by omega)
      have L2 : (Instr.lookup 124 (.map (some B)) (.int .i64 (-y)) false).run Try.prog wr = .ok (.int .i64 ((f (-y)).getD 0)) wr := im_look_run HM.out (-y) (by omega)
      have t1 := tally_pos HT.out y
      have t2 := tally_pos HT.out (-y)
      generalize (f y).getD 0 = z1 at L1 t1
      generalize (f (-y)).getD 0 = z2 at L2 t2
      have HST := Aside0.mk hst
      by_cases m1 : y ∈ K
      · have HU : Aside0 (standGo K l0 0 = (1, 0)) := ⟨by rw [hst, if_pos m1]⟩
        have d1 : decide (z1 > 0) = true := decide_eq_true (t1.2 m1)
        have d1' : z1 > 0 := t1.2 m1
        clear hm hm0 hxk hk hlt p1 q1 hrd hy HX hyb hin hdr hst t1 t2 m1 HST
        go_wp2
        go_ret2
        rw [HU.out]
        exact ⟨by simp, rfl⟩
      · have d1 : decide (z1 > 0) = false := decide_eq_false fun h => m1 (t1.1 h)
        have d1' : ¬ z1 > 0 := fun h => m1 (t1.1 h)
        by_cases m2 : -y ∈ K
        · have HU : Aside0 (standGo K l0 0 = standGo K (l0.drop (k + 1)) o) := ⟨by rw [hst, if_neg m1, if_pos m2]⟩
          have d2 : decide (z2 > 0) = true := decide_eq_true (t2.2 m2)
          have d2' : z2 > 0 := t2.2 m2
          clear hm hm0 hxk hk hlt p1 q1 hrd hy HX hyb hin hdr hst t1 t2 m1 m2 HST
          go_wp2
          go_roundw
          case measure => exact HMS.out
          case rel => exact ⟨k + 1, _, o, rfl, rfl, by first | rfl | trivial, HX2, HU⟩
        · have d2 : decide (z2 > 0) = false := decide_eq_false fun h => m2 (t2.1 h)
          have d2' : ¬ z2 > 0 := fun h => m2 (t2.1 h)
          by_cases o1 : y = o
          · have HU : Aside0 (standGo K l0 0 = standGo K (l0.drop (k + 1)) o) := ⟨by rw [hst, if_neg m1, if_neg m2, if_neg (fun h => h.2 o1.symm), o1]⟩
            have d3 : (y == o) = true := beq_iff_eq.2 o1
            clear hm hm0 hxk hk hlt p1 q1 hrd hy HX hyb hin hdr hst t1 t2 m1 m2 HST o1
            go_wp2
            go_roundw
            case measure => exact HMS.out
            case rel => exact ⟨k + 1, _, o, rfl, rfl, by first | rfl | trivial, HX2, HU⟩
          · have d3 : (y == o) = false := beq_eq_false_iff_ne.2 o1
            by_cases o0 : o = 0
            · subst o0
              have HU : Aside0 (standGo K l0 0 = standGo K (l0.drop (k + 1)) y) := ⟨by rw [hst, if_neg m1, if_neg m2, if_neg (fun h => h.1 rfl)]⟩
              clear hm hm0 hxk hk hlt p1 q1 hrd hy HX hyb hin hdr hst t1 t2 m1 m2 HST o1
              go_wp2
              go_roundw
              case measure => exact HMS.out
              case rel => exact ⟨k + 1, _, y, rfl, rfl, by first | rfl | trivial, HX2, HU⟩
            · have HU : Aside0 (standGo K l0 0 = (0, 0)) := ⟨by rw [hst, if_neg m1, if_neg m2, if_pos ⟨o0, fun e => o1 e.symm⟩]⟩
              have d4 : (o != 0) = true := by simp [o0]
              have d5 : (o == 0) = false := by simp [o0]
              clear hm hm0 hxk hk hlt p1 q1 hrd hy HX hyb hin hdr hst t1 t2 m1 m2 HST o1
              go_wp2
              go_ret2
              rw [HU.out]
              exact ⟨by simp, rfl⟩
    · obtain rfl : k = l0.length := by omega
      have q3 : decide (x < (l0.length : Int)) = false := decide_eq_false (by omega)
      have HU : Aside0 (standGo K l0 0 = if o = 0 then (2, 0) else (3, o)) := ⟨by rw [HS.out, List.drop_length]; rfl⟩
      clear HS hxk hk hlt HX
      by_cases o0 : o = 0
      · subst o0
        go_wp2
        go_ret2
        rw [HU.out]
        exact ⟨by simp, rfl⟩
      · have d5 : (o == 0) = false := by simp [o0]
        have HO0 := Aside0.mk o0
        clear o0
        go_wp2
        go_ret2
        rw [HU.out, if_neg HO0.out]
        exact ⟨by simp, rfl⟩
set_option maxHeartbeats 4000000 in
set_option maxRecDepth 100000 in
theorem asked_calls (v1 : Int) (A1 A2 : Option Addr) (c1 c2 : Nat) (l1 : List (List Int)) (l2 : List Int) (w : World) (hr1 : Kd.C (Kd.slice 3 (Kd.int .i64)) w A1 l1.length l1) (hc1 : l1.length ≤ c1) (hr2 : Kd.C (Kd.int .i64) w A2 l2.length l2) (hc2 : l2.length ≤ c2)
    (hn : l1.length ≤ 17592186044416) (hs : ∀ c ∈ l1, c.length ≤ 17592186044416) (hn2 : l2.length ≤ 17592186044416) :
    Calls Try.prog 81 #[.agg #[.int .i64 v1, .slice A1 l1.length c1], .slice A2 l2.length c2] w fun e w' => e = .returned (.int .i64 (if (isFormula v1 l1 && sound l2) = true then 0 else 1)) ∧ Below w.heap.size w w' := by
  have HR1 := Aside0.mk hr1
  have HR2 := Aside0.mk hr2
  have F1 := fun W h => isFormula_calls v1 A1 c1 l1 W h hc1 hn hs
  have F2 := fun W h => sound_calls A2 c2 l2 W h hn2
  have HB := Aside0.mk (below_alloc (Below.refl w.heap.size w) (.cells #[.int .i64 v1, .slice A1 l1.length c1] 51 (0, 0)))
  cases hf1 : isFormula v1 l1 with
  | false =>
    rw [hf1] at F1
    have HF1 := Aside0.mk F1
    clear F1 F2 hr1 hr2 hc1 hc2 hn hs hn2 hf1
    go_enter Try.func81, Try.ntmps81
    go_wp2_with (go_at_call 61; (with_reducible refine (HF1.out _ (Kd.C_below HR1.out HB.out)).mono ?_); rintro e W1 ⟨rfl, hb⟩; have HB1 := Aside0.mk (below_step HB.out hb); clear hb)
    go_ret
    exact ⟨by simp, HB1.out⟩
  | true =>
    rw [hf1] at F1
    cases hf2 : sound l2 with
    | false =>
      rw [hf2] at F2
      have HF1 := Aside0.mk F1
      have HF2 := Aside0.mk F2
      clear F1 F2 hr1 hr2 hc1 hc2 hn hs hn2 hf1 hf2
      go_enter Try.func81, Try.ntmps81
      go_wp2_with (first
        | (go_at_call 61; (with_reducible refine (HF1.out _ (Kd.C_below HR1.out HB.out)).mono ?_); rintro e W1 ⟨rfl, hb⟩; have HB1 := Aside0.mk (below_step HB.out hb); clear hb)
        | (go_at_call 55; (with_reducible refine (HF2.out _ (Kd.C_below HR2.out HB1.out)).mono ?_); rintro e W2 ⟨rfl, hd⟩; have HB2 := Aside0.mk (below_step HB1.out hd.below); clear hd))
      go_ret
      exact ⟨by simp, HB2.out⟩
    | true =>
      rw [hf2] at F2
      have HF1 := Aside0.mk F1
      have HF2 := Aside0.mk F2
      clear F1 F2 hr1 hr2 hc1 hc2 hn hs hn2 hf1 hf2
      go_enter Try.func81, Try.ntmps81
      go_wp2_with (first
        | (go_at_call 61; (with_reducible refine (HF1.out _ (Kd.C_below HR1.out HB.out)).mono ?_); rintro e W1 ⟨rfl, hb⟩; have HB1 := Aside0.mk (below_step HB.out hb); clear hb)
        | (go_at_call 55; (with_reducible refine (HF2.out _ (Kd.C_below HR2.out HB1.out)).mono ?_); rintro e W2 ⟨rfl, hd⟩; have HB2 := Aside0.mk (below_step HB1.out hd.below); clear hd))
      go_ret
      exact ⟨by simp, HB2.out⟩
end Go.Proofs.YtkkkbcjmkmadhaaHand
