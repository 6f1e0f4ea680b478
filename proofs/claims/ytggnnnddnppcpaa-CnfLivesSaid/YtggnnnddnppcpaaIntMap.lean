/- Maps of the call's own as functions: what a block holds, key by key; each operation's law in these words. -/
import Derived.Maps.OwnSet
import Derived.Maps.OwnIn
import Derived.WalkKit
import Derived.Below
import Derived.Deep.Draws
namespace Go.Proofs.YtggnnnddnppcpaaMaps
open Go Go.Maps Go.RowKit
set_option linter.unusedVariables false
set_option linter.unusedSimpArgs false

/-- kinds of keys -/
structure Keys (κ : Type) where
  kl : κ → Lit
  inj : ∀ {a b}, kl a = kl b → a = b
  isKey : ∀ a, WideAt.IsKeyLit (kl a)
def intKeys : Keys Int where
  kl := Lit.int .i64
  inj := fun h => by injection h
  isKey := fun a => by simp [WideAt.IsKeyLit]
def strKeys : Keys (List UInt8) where
  kl := Lit.string
  inj := fun h => by injection h
  isKey := fun a => by simp [WideAt.IsKeyLit]
/-- kinds of elements -/
structure Elem (α : Type) where
  enc : α → Value
  el : α → DataW Unit
  R : Value → Option (DataW Unit × List MemPlace)
  ok : α → Prop
  inv : ∀ {v z}, R v = some z → ∃ a, v = enc a ∧ z.1 = el a
  reads : ∀ {a}, ok a → R (enc a) = some (el a, [])
  inj : ∀ {a b}, el a = el b → a = b
def intElem (P : Program) (e : TypeId) (he : P.underlying e = some (.int .i64)) : Elem Int where
  enc := Value.int .i64
  el := fun c => .lit (.int .i64 c)
  R := plainElem P e
  ok := fun c => (Lit.int .i64 c).wf = true
  inv := fun h => by
    obtain ⟨a, rfl, rfl, _⟩ := plainElem_int_inv he h
    exact ⟨a, rfl, rfl⟩
  reads := fun h => plainElem_int he h
  inj := fun h => by injection h with h; injection h
noncomputable def markR (v : Value) : Option (DataW Unit × List MemPlace) := by classical exact if v = .agg #[.bool true] then some (.lit (.bool true), []) else if v = .agg #[.bool false] then some (.lit (.bool false), []) else none
noncomputable def markElem : Elem Bool where
  enc := fun b => .agg #[.bool b]
  el := fun b => .lit (.bool b)
  R := markR
  ok := fun _ => True
  inv := fun {v z} h => by
    unfold markR at h
    split at h
    · rename_i hv
      cases h
      exact ⟨true, hv, rfl⟩
    · split at h
      · rename_i hv
        cases h
        exact ⟨false, hv, rfl⟩
      · cases h
  reads := fun {a} _ => by cases a <;> simp [markR]
  inj := fun h => by injection h with h; injection h

variable {κ α : Type}
/-- Block B of W is a map that holds at each key what f says: at most n, just c of them. -/
def IM (P : Program) (k : TypeId) (Ky : Keys κ) (E : Elem α) (W : World) (B n : Nat) (f : κ → Option α) (c : Nat) : Prop :=
  ∃ D, W.ownsMap P k E.R B n D ∧ Maps.size D = c ∧ ∀ x, Maps.has D (Ky.kl x) = (f x).isSome ∧ ∀ z, D.atKey (Ky.kl x) z = ((f x).map E.el).getD z

noncomputable def upd (f : κ → Option α) (x : κ) (v : α) : κ → Option α := by classical exact fun y => if y = x then some v else f y
noncomputable def del (f : κ → Option α) (x : κ) : κ → Option α := by classical exact fun y => if y = x then none else f y
theorem upd_same (f : κ → Option α) (x : κ) (v : α) : upd f x v x = some v := by simp [upd]
theorem upd_other (f : κ → Option α) {x y : κ} (v : α) (h : y ≠ x) : upd f x v y = f y := by simp [upd, h]
theorem del_same (f : κ → Option α) (x : κ) : del f x x = none := by simp [del]
theorem del_other (f : κ → Option α) {x y : κ} (h : y ≠ x) : del f x y = f y := by simp [del, h]

section
variable {P : Program} {k : TypeId} {Ky : Keys κ} {E : Elem α} {W : World} {B n c : Nat} {f : κ → Option α}
theorem IM.made (W : World) : IM P k Ky E (W.alloc (.map #[] 0)) W.heap.size 0 (fun _ => none) 0 :=
  ⟨_, World.ownsMap_made W P k E.R, rfl, fun x => ⟨rfl, fun z => rfl⟩⟩
theorem IM.lt (h : IM P k Ky E W B n f c) : B < W.heap.size := by
  obtain ⟨D, h, _⟩ := h
  exact h.lt
theorem IM.kept {W' : World} {row : Option Nat} (h : IM P k Ky E W B n f c) (hg : W.grownBy W' row) (hne : some B ≠ row) : IM P k Ky E W' B n f c := by
  obtain ⟨D, h, r⟩ := h
  exact ⟨D, h.kept hg hne, r⟩
theorem IM.block {W' : World} (h : IM P k Ky E W B n f c) (hb : W'.heap[B]? = W.heap[B]?) : IM P k Ky E W' B n f c := by
  obtain ⟨D, ⟨es, clock, h1, h2⟩, r⟩ := h
  exact ⟨D, ⟨es, clock, hb.trans h1, h2⟩, r⟩
theorem IM.below {W' : World} (h : IM P k Ky E W B n f c) (hb : Below W.heap.size W W') : IM P k Ky E W' B n f c := h.block (hb.block B h.lt)
theorem IM.alloc (h : IM P k Ky E W B n f c) (o : Obj) : IM P k Ky E (W.alloc o) B n f c := by
  obtain ⟨D, h, r⟩ := h
  exact ⟨D, h.alloc o, r⟩
theorem IM.drewN (h : IM P k Ky E W B n f c) (m : Nat) : IM P k Ky E (W.drewN m) B n f c := h
theorem IM.drew (h : IM P k Ky E W B n f c) : IM P k Ky E W.drew B n f c := h
theorem IM.setCell (h : IM P k Ky E W B n f c) {a : Addr} (ha : B ≠ a.block) (u : Value) : IM P k Ky E (W.setCell a u) B n f c := by
  obtain ⟨D, h, r⟩ := h
  exact ⟨D, h.setCell ha u, r⟩
theorem IM.mono (h : IM P k Ky E W B n f c) {n' : Nat} (hn : n ≤ n') : IM P k Ky E W B n' f c := by
  obtain ⟨D, h, r⟩ := h
  exact ⟨D, h.mono hn, r⟩
theorem IM.congr (h : IM P k Ky E W B n f c) {g : κ → Option α} (hg : ∀ x, g x = f x) : IM P k Ky E W B n g c := by
  obtain rfl : g = f := funext hg
  exact h
theorem IM.size_le (h : IM P k Ky E W B n f c) : c ≤ n := by
  obtain ⟨D, h, rfl, _⟩ := h
  exact h.size_le
theorem put_reads {D : DataW Unit} (hD : Maps.Tidy D) (hr : ∀ x, Maps.has D (Ky.kl x) = (f x).isSome ∧ ∀ z, D.atKey (Ky.kl x) z = ((f x).map E.el).getD z) (x : κ) (v : α) :
    Maps.size (D.put (Ky.kl x) (E.el v)) = (if (f x).isSome = true then Maps.size D else Maps.size D + 1) ∧ ∀ y, Maps.has (D.put (Ky.kl x) (E.el v)) (Ky.kl y) = (upd f x v y).isSome ∧ ∀ z, (D.put (Ky.kl x) (E.el v)).atKey (Ky.kl y) z = ((upd f x v y).map E.el).getD z := by
  refine ⟨by rw [Maps.size_put hD, (hr x).1], fun y => ?_⟩
  by_cases hy : y = x
  · subst hy
    rw [upd_same]
    exact ⟨Maps.has_put_same hD.isMap (Ky.isKey _) _, fun z => Maps.atKey_put_same hD.isMap (Ky.isKey _) _ z⟩
  · rw [upd_other f v hy]
    have hne : Ky.kl y ≠ Ky.kl x := fun h => hy (Ky.inj h)
    exact ⟨(Maps.has_put_other hne _).trans (hr y).1, fun z => (Maps.atKey_put_other hne _ z).trans ((hr y).2 z)⟩
theorem del_reads {D : DataW Unit} (hD : Maps.Tidy D) (hr : ∀ x, Maps.has D (Ky.kl x) = (f x).isSome ∧ ∀ z, D.atKey (Ky.kl x) z = ((f x).map E.el).getD z) (x : κ) :
    Maps.size (D.del (Ky.kl x)) = (if (f x).isSome = true then Maps.size D - 1 else Maps.size D) ∧ ∀ y, Maps.has (D.del (Ky.kl x)) (Ky.kl y) = (del f x y).isSome ∧ ∀ z, (D.del (Ky.kl x)).atKey (Ky.kl y) z = ((del f x y).map E.el).getD z := by
  refine ⟨?_, fun y => ?_⟩
  · have h := Maps.size_del (k := Ky.kl x) hD
    rw [(hr x).1] at h
    split <;> simp_all <;> omega
  by_cases hy : y = x
  · subst hy
    rw [del_same]
    exact ⟨Maps.has_del_same, fun z => Maps.atKey_del_same z⟩
  · rw [del_other f hy]
    have hne : Ky.kl y ≠ Ky.kl x := fun h => hy (Ky.inj h)
    exact ⟨(Maps.has_del_other hne).trans (hr y).1, fun z => (Maps.atKey_del_other hne z).trans ((hr y).2 z)⟩
theorem IM.look (h : IM P k Ky E W B n f c) {t e : TypeId} (K : Keyed P k) (ht : P.underlying t = some (.map k e)) {z : α} (hz : (zeroValue e).run P W = .ok (E.enc z) W) (hzk : E.ok z) {xv : Value} {x : κ} (hkey : keyOf P k xv = some (Ky.kl x)) :
    (Instr.lookup t (.map (some B)) xv false).run P W = .ok (E.enc ((f x).getD z)) W := by
  obtain ⟨D, h, _, hr⟩ := h
  obtain ⟨v, ps, hrun, hv⟩ := h.lookup K ht hz (E.reads hzk) hkey
  obtain ⟨a, rfl, ha⟩ := E.inv hv
  rw [(hr x).2] at ha
  have : a = (f x).getD z := by
    cases hf : f x with
    | none => rw [hf] at ha; exact (E.inj ha).symm
    | some b => rw [hf] at ha; exact (E.inj ha).symm
  rw [hrun, this]
theorem IM.look_ok (h : IM P k Ky E W B n f c) {t e : TypeId} (K : Keyed P k) (ht : P.underlying t = some (.map k e)) {z : α} (hz : (zeroValue e).run P W = .ok (E.enc z) W) (hzk : E.ok z) {xv : Value} {x : κ} (hkey : keyOf P k xv = some (Ky.kl x)) :
    (Instr.lookup t (.map (some B)) xv true).run P W = .ok (.tuple #[E.enc ((f x).getD z), .bool (f x).isSome]) W := by
  obtain ⟨D, h, _, hr⟩ := h
  obtain ⟨v, ps, hrun, hv⟩ := h.look_ok K ht hz (E.reads hzk) hkey
  obtain ⟨a, rfl, ha⟩ := E.inv hv
  rw [(hr x).2] at ha
  have : a = (f x).getD z := by
    cases hf : f x with
    | none => rw [hf] at ha; exact (E.inj ha).symm
    | some b => rw [hf] at ha; exact (E.inj ha).symm
  rw [hrun, this, (hr x).1]
theorem IM.store (h : IM P k Ky E W B n f c) {t e : TypeId} (K : Keyed P k) (ht : P.underlying t = some (.map k e)) (hn : n < maxLen) {xv : Value} {x : κ} {v : α} (hkey : keyOf P k xv = some (Ky.kl x)) (hv : E.ok v) :
    ∃ w', (Instr.mapUpdate t (.map (some B)) xv (E.enc v)).run P W = .ok () w' ∧ IM P k Ky E w' B (n + 1) (upd f x v) (if (f x).isSome = true then c else c + 1) ∧ W.grownBy w' (some B) := by
  obtain ⟨D, h, rfl, hr⟩ := h
  obtain ⟨w', hrun, h1, h2⟩ := h.update K ht hn hkey (E.reads hv)
  obtain ⟨p1, p2⟩ := put_reads (h.tidy K) hr x v
  exact ⟨w', hrun, ⟨_, h1, p1, p2⟩, h2⟩
theorem IM.drop (h : IM P k Ky E W B n f c) {t e : TypeId} (K : Keyed P k) (ht : P.underlying t = some (.map k e)) {xv : Value} {x : κ} (hkey : keyOf P k xv = some (Ky.kl x)) (ty : TypeId) :
    ∃ w', (Builtin.delete_ #[t, k] ty #[.map (some B), xv]).run P W = .ok (.tuple #[]) w' ∧ IM P k Ky E w' B n (del f x) (if (f x).isSome = true then c - 1 else c) ∧ W.grownBy w' (some B) := by
  obtain ⟨D, h, rfl, hr⟩ := h
  obtain ⟨w', hrun, h1, h2⟩ := h.drop K ht hkey ty
  obtain ⟨p1, p2⟩ := del_reads (h.tidy K) hr x
  exact ⟨w', hrun, ⟨_, h1, p1, p2⟩, h2.grown⟩
theorem IM.len (h : IM P k Ky E W B n f c) {t e : TypeId} (ht : P.underlying t = some (.map k e)) (ty : TypeId) : (Builtin.len_ #[t] ty #[.map (some B)]).run P W = .ok (.int .i64 c) W := by
  obtain ⟨D, h, rfl, _⟩ := h
  exact h.len ht ty
end

/-! at the operation, for the walk -/
section
variable {P : Program} (w : World) {ops : Array Oper} {rest : List Oper} {o : Oper} {a : Act} {Q : Exit → Act → World → Prop} {k e : TypeId} {Ky : Keys κ} {E : Elem α} {B n c : Nat} {f : κ → Option α}
theorem im_look (hg : o.guard = none) (m x : Operand) (t : TypeId) (hop : o.op = Op.lookup t m x false) (K : Keyed P k) (ht : P.underlying t = some (.map k e)) {z : α} (hz : (zeroValue e).run P w = .ok (E.enc z) w) (hzk : E.ok z)
    (hm : a.eval m = .map (some B)) (h : IM P k Ky E w B n f c) (xv : Value) (key : κ) (hx : a.eval x = xv) (hkey : keyOf P k xv = some (Ky.kl key))
    (hK : wpList P ops Q rest (a.put o.dst (E.enc ((f key).getD z))) w) : wpList P ops Q (o :: rest) a w := by
  refine wpList_plain hg fun K' hK' => ?_
  have hrun := h.look K ht hz hzk hkey
  unfold Oper.wp
  simp [execOp, hop, hm, hx, hrun, Result.andThen]
  exact hK' _ _ hK
theorem im_look_int (he : P.underlying e = some (.int .i64)) (hg : o.guard = none) (m x : Operand) (t : TypeId) (hop : o.op = Op.lookup t m x false) (K : Keyed P k) (ht : P.underlying t = some (.map k e)) (hz : (zeroValue e).run P w = .ok (.int .i64 0) w)
    (hm : a.eval m = .map (some B)) {f : κ → Option Int} (h : IM P k Ky (intElem P e he) w B n f c) (xv : Value) (key : κ) (hx : a.eval x = xv) (hkey : keyOf P k xv = some (Ky.kl key))
    (hK : wpList P ops Q rest (a.put o.dst (.int .i64 ((f key).getD 0))) w) : wpList P ops Q (o :: rest) a w :=
  im_look w hg m x t hop K ht (z := (0 : Int)) hz (show (Lit.int .i64 0).wf = true by decide) hm h xv key hx hkey hK
theorem im_look_mark (hg : o.guard = none) (m x : Operand) (t : TypeId) (hop : o.op = Op.lookup t m x false) (K : Keyed P k) (ht : P.underlying t = some (.map k e)) (hz : (zeroValue e).run P w = .ok (.agg #[.bool false]) w)
    (hm : a.eval m = .map (some B)) {f : κ → Option Bool} (h : IM P k Ky markElem w B n f c) (xv : Value) (key : κ) (hx : a.eval x = xv) (hkey : keyOf P k xv = some (Ky.kl key))
    (hK : wpList P ops Q rest (a.put o.dst (.agg #[.bool ((f key).getD false)])) w) : wpList P ops Q (o :: rest) a w :=
  im_look w hg m x t hop K ht (z := false) hz trivial hm h xv key hx hkey hK
theorem im_ok (hg : o.guard = none) (m x : Operand) (t : TypeId) (hop : o.op = Op.lookup t m x true) (K : Keyed P k) (ht : P.underlying t = some (.map k e)) {z : α} (hz : (zeroValue e).run P w = .ok (E.enc z) w) (hzk : E.ok z)
    (hm : a.eval m = .map (some B)) (h : IM P k Ky E w B n f c) (xv : Value) (key : κ) (hx : a.eval x = xv) (hkey : keyOf P k xv = some (Ky.kl key))
    (hK : wpList P ops Q rest (a.put o.dst (.tuple #[E.enc ((f key).getD z), .bool (f key).isSome])) w) : wpList P ops Q (o :: rest) a w := by
  refine wpList_plain hg fun K' hK' => ?_
  have hrun := h.look_ok K ht hz hzk hkey
  unfold Oper.wp
  simp [execOp, hop, hm, hx, hrun, Result.andThen]
  exact hK' _ _ hK
theorem im_ok_int (he : P.underlying e = some (.int .i64)) (hg : o.guard = none) (m x : Operand) (t : TypeId) (hop : o.op = Op.lookup t m x true) (K : Keyed P k) (ht : P.underlying t = some (.map k e)) (hz : (zeroValue e).run P w = .ok (.int .i64 0) w)
    (hm : a.eval m = .map (some B)) {f : κ → Option Int} (h : IM P k Ky (intElem P e he) w B n f c) (xv : Value) (key : κ) (hx : a.eval x = xv) (hkey : keyOf P k xv = some (Ky.kl key))
    (hK : wpList P ops Q rest (a.put o.dst (.tuple #[.int .i64 ((f key).getD 0), .bool (f key).isSome])) w) : wpList P ops Q (o :: rest) a w :=
  im_ok w hg m x t hop K ht (z := (0 : Int)) hz (show (Lit.int .i64 0).wf = true by decide) hm h xv key hx hkey hK
theorem im_ok_mark (hg : o.guard = none) (m x : Operand) (t : TypeId) (hop : o.op = Op.lookup t m x true) (K : Keyed P k) (ht : P.underlying t = some (.map k e)) (hz : (zeroValue e).run P w = .ok (.agg #[.bool false]) w)
    (hm : a.eval m = .map (some B)) {f : κ → Option Bool} (h : IM P k Ky markElem w B n f c) (xv : Value) (key : κ) (hx : a.eval x = xv) (hkey : keyOf P k xv = some (Ky.kl key))
    (hK : wpList P ops Q rest (a.put o.dst (.tuple #[.agg #[.bool ((f key).getD false)], .bool (f key).isSome])) w) : wpList P ops Q (o :: rest) a w :=
  im_ok w hg m x t hop K ht (z := false) hz trivial hm h xv key hx hkey hK
theorem im_store (hg : o.guard = none) (m x v : Operand) (t : TypeId) (hop : o.op = Op.mapUpdate t m x v) (K : Keyed P k) (ht : P.underlying t = some (.map k e)) (hm : a.eval m = .map (some B)) (h : IM P k Ky E w B n f c) (hn : n < maxLen)
    (xv vv : Value) (key : κ) (val : α) (hx : a.eval x = xv) (hv : a.eval v = vv) (hkey : keyOf P k xv = some (Ky.kl key)) (hval : vv = E.enc val) (hok : E.ok val)
    (hK : ∀ w', IM P k Ky E w' B (n + 1) (upd f key val) (if (f key).isSome = true then c else c + 1) → w.grownBy w' (some B) → wpList P ops Q rest (a.put o.dst undef) w') : wpList P ops Q (o :: rest) a w := by
  refine wpList_plain hg fun K' hK' => ?_
  subst hval
  obtain ⟨w', hrun, r1, r2⟩ := h.store K ht hn hkey hok
  unfold Oper.wp
  simp [execOp, hop, hm, hx, hv, hrun, Result.andThen]
  exact hK' _ _ (hK w' r1 r2)
theorem im_store_int (he : P.underlying e = some (.int .i64)) (hg : o.guard = none) (m x v : Operand) (t : TypeId) (hop : o.op = Op.mapUpdate t m x v) (K : Keyed P k) (ht : P.underlying t = some (.map k e)) (hm : a.eval m = .map (some B)) {f : κ → Option Int} (h : IM P k Ky (intElem P e he) w B n f c) (hn : n < maxLen)
    (xv : Value) (key : κ) (val : Int) (hx : a.eval x = xv) (hv : a.eval v = .int .i64 val) (hkey : keyOf P k xv = some (Ky.kl key)) (hok : (Lit.int .i64 val).wf = true)
    (hK : ∀ w', IM P k Ky (intElem P e he) w' B (n + 1) (upd f key val) (if (f key).isSome = true then c else c + 1) → w.grownBy w' (some B) → wpList P ops Q rest (a.put o.dst undef) w') : wpList P ops Q (o :: rest) a w :=
  im_store w hg m x v t hop K ht hm h hn xv (.int .i64 val) key val hx hv hkey rfl hok hK
theorem im_store_mark (hg : o.guard = none) (m x v : Operand) (t : TypeId) (hop : o.op = Op.mapUpdate t m x v) (K : Keyed P k) (ht : P.underlying t = some (.map k e)) (hm : a.eval m = .map (some B)) {f : κ → Option Bool} (h : IM P k Ky markElem w B n f c) (hn : n < maxLen)
    (xv : Value) (key : κ) (val : Bool) (hx : a.eval x = xv) (hv : a.eval v = .agg #[.bool val]) (hkey : keyOf P k xv = some (Ky.kl key))
    (hK : ∀ w', IM P k Ky markElem w' B (n + 1) (upd f key val) (if (f key).isSome = true then c else c + 1) → w.grownBy w' (some B) → wpList P ops Q rest (a.put o.dst undef) w') : wpList P ops Q (o :: rest) a w :=
  im_store w hg m x v t hop K ht hm h hn xv (.agg #[.bool val]) key val hx hv hkey rfl trivial hK
theorem im_delete (hg : o.guard = none) (m x : Operand) (t : TypeId) (hop : o.op = Op.call { callee := Callee.builtin Builtin.delete, args := #[m, x], argTypes := #[t, k] }) (K : Keyed P k) (ht : P.underlying t = some (.map k e)) (hm : a.eval m = .map (some B)) (h : IM P k Ky E w B n f c)
    (xv : Value) (key : κ) (hx : a.eval x = xv) (hkey : keyOf P k xv = some (Ky.kl key))
    (hK : ∀ w', IM P k Ky E w' B n (del f key) (if (f key).isSome = true then c - 1 else c) → w.grownBy w' (some B) → wpList P ops Q rest (a.put o.dst (.tuple #[])) w') : wpList P ops Q (o :: rest) a w := by
  refine wpList_plain hg fun K' hK' => ?_
  obtain ⟨w', hrun, r1, r2⟩ := h.drop K ht hkey o.type
  unfold Oper.wp
  simp [execOp, hop, resolve, invoke, builtin, hm, hx, hrun, Result.andThen]
  exact hK' _ _ (hK w' r1 r2)
theorem im_len (hg : o.guard = none) (m : Operand) (t : TypeId) (hop : o.op = Op.call { callee := Callee.builtin Builtin.len, args := #[m], argTypes := #[t] }) (ht : P.underlying t = some (.map k e)) (hm : a.eval m = .map (some B)) (h : IM P k Ky E w B n f c)
    (hK : wpList P ops Q rest (a.put o.dst (.int .i64 c)) w) : wpList P ops Q (o :: rest) a w := by
  refine wpList_plain hg fun K' hK' => ?_
  have hrun := h.len ht o.type
  unfold Oper.wp
  simp [execOp, hop, resolve, invoke, builtin, hm, hrun, Result.andThen]
  exact hK' _ _ hK
end
end Go.Proofs.YtggnnnddnppcpaaMaps
