/- Lists of rows whose elements' heads are told one by one, apart from the rows' own blocks: so two lists may show one row. (depot/depotkit's LentRows, KeptRows, OverRows.) -/
import Derived.Test.YtggnnnddnppcpaaClCnfKeepsModelsb
import Derived.Test.YtggnnnddnppcpaaProg
import Derived.Below
import Derived.Deep.Draws
import Derived.Deep.AppendLies
import Derived.Maps.AppendAt
import Derived.OwnWalk
import Derived.Laws.BytesArg
import Derived.Laws.MakeOwn
import Derived.Laws.OwnMore
import Derived.Deep.OwnRows
import Derived.Tactics
import Derived.Lib.ConvBytes
import Derived.Laws.Slices
import Derived.WalkKit
import Derived.KernelRfl
import Derived.RowKit3
import Derived.Deep.LoopGhost
import Derived.Deep.QuietTactic
import Derived.BigQuiet
import Derived.WideLaws
import Derived.Deep.DeepCutAuto
import Derived.Deep.CutBlock
import Derived.Deep.RegionHeld3
import Derived.Laws.Rows
import Derived.Lib.AppendStr
import Derived.ArgAppend
import Derived.Laws.IdiomCopy
import Derived.OrdersHeld
import Derived.Laws.BitsLemmas
import Derived.RowKit
import Derived.Test.YtggnnnddnppcpaaClCnfKeepsModelsp0
import Derived.Test.YtggnnnddnppcpaaClCnfKeepsModelsp1
import Derived.Test.YtggnnnddnppcpaaClCnfKeepsModelsp7
import Derived.Test.YtggnnnddnppcpaaClCnfKeepsModelsp8
import Derived.Test.YtggnnnddnppcpaaClCnfKeepsModelsp9
import Derived.Test.YtggnnnddnppcpaaClCnfKeepsModelsp2
import Derived.Test.YtggnnnddnppcpaaClCnfKeepsModelsp3
import Derived.Test.YtggnnnddnppcpaaClCnfKeepsModelsp10
import Derived.Test.YtggnnnddnppcpaaClCnfKeepsModelsp4
import Derived.Test.YtggnnnddnppcpaaClCnfKeepsModelsp5
import Derived.Test.YtggnnnddnppcpaaClCnfKeepsModelsp6
import Derived.Test.YtggnnnddnppcpaaClCnfKeepsModelsp11
import Derived.Test.YtggnnnddnppcpaaClCnfKeepsModelsp12
import Derived.Test.YtggnnnddnppcpaaClCnfKeepsModelsp13
import Derived.Test.YtggnnnddnppcpaaClCnfKeepsModelsp14
import Derived.Test.YtggnnnddnppcpaaClCnfKeepsModelsp15
import Derived.Test.YtggnnnddnppcpaaClCnfKeepsModelsp16
import Derived.Test.YtggnnnddnppcpaaClCnfKeepsModelsp17
import Derived.Test.YtggnnnddnppcpaaClCnfKeepsModelsp18
import Derived.Test.YtggnnnddnppcpaaClCnfKeepsModelsp19
import Derived.Test.YtggnnnddnppcpaaClCnfKeepsModelsp20
import Derived.Test.YtggnnnddnppcpaaClCnfKeepsModelsp23
import Derived.Lib.SlicesCompact
import Derived.Sort.Statements
import Derived.Shelf.Small.Bits
import Derived.Shelf.Strconv.Itoa0
import Derived.Ground.Names2Prog
import Derived.Shelf.Slices.CompactI
import Derived.Ground.SlgnProg
import Derived.Shelf.SlicesE.Compact
import Derived.Ground.SlgfProg
import Derived.Shelf.SlicesE.IndexFunc
import Derived.Shelf.SlicesE.DeleteFunc
import Derived.Ground.SlsfProg
import Derived.Shelf.SlSortCmp.Insertion
import Derived.Shelf.SlSortCmp.SiftDown1
import Derived.Shelf.SlSortCmp.HeapSort1
import Derived.Shelf.SlSortCmp.Insertion1
import Derived.Shelf.SlSortCmp.Median1
import Derived.Shelf.SlSortCmp.Pivot1
import Derived.Shelf.SlSortCmp.ReverseRange1
import Derived.Shelf.SlSortCmp.PartialInsertion1
import Derived.Shelf.SlSortCmp.PartitionEqual1
import Derived.Shelf.SlSortCmp.Partition1
import Derived.Shelf.SlSortCmp.Pdq1
import Derived.Shelf.SlSortCmp.Whole1
import Derived.Shelf.SlCmpFuncs.BinarySearchFunc
import Derived.Shelf.SlCmpFuncs.None
import Derived.Ground.SlsgProg
import Derived.Shelf.Spec.SlicesGrow
import Derived.Ground.Names8Prog
import Derived.Sort.OwnSortedInts
import Derived.Lib.RowBridge
/-! text YtggnnnddnppcpaaRowsLent -/
namespace Go.Proofs.YtggnnnddnppcpaaOwn
open Go Go.RowKit Go.Proofs.YtggnnnddnppcpaaW.PrintWords
set_option linter.unusedVariables false
/-- a slice's head -/
abbrev Hd3 := Option Addr × Nat × Nat
def encH (h : Hd3) : Value := .slice h.1 h.2.1 h.2.2
def headK : Kd Hd3 := Kd.scalar encH fun _ => rfl
/-- where a row lies, its room, its numbers, how many of them a list shows -/
structure LRow where
  A : Option Addr
  c : Nat
  row : List Int
  k : Nat
def LRow.all (t : LRow) : Hd3 := (t.A, t.row.length, t.c)
def LRow.shown (t : LRow) : Hd3 := (t.A, t.k, t.c)
def LRow.nums (t : LRow) : List Int := t.row.take t.k
/-- the rows themselves, each in a block of its own -/
def dataP (W : World) (ok : Nat → Prop) (f : Nat → Nat) (D : List LRow) : Prop := ∀ (i : Nat) t, D[i]? = some t → Kd.R (Kd.int .i64) 3 W 0 (fun k => ok k ∧ f k = i) (.slice t.A t.row.length t.c) t.row ∧ t.k ≤ t.row.length
def dataA (D : List LRow) : Asr := ⟨fun W ok => ∃ f : Nat → Nat, dataP W ok f D, fun {W W1 ok ok'} h hz hk => by
  obtain ⟨f, h⟩ := h
  exact ⟨f, fun i t hi => ⟨(Asr.row (Kd.int .i64) 3 _ _).step (h i t hi).1 hz fun k h1 h2 => ⟨(hk k h1.1 h2).1, (hk k h1.1 h2).2, h1.2⟩, (h i t hi).2⟩⟩⟩
/-- a list of heads -/
abbrev headA (v : Value) (hs : List Hd3) : Asr := .row headK 43 v hs
section
variable {w W W1 W2 : World} {X : Nat → Prop} {l l2 : List Asr} {A B : Asr}
theorem data_nil (W : World) (ok : Nat → Prop) : (dataA []).P W ok := ⟨fun _ => 0, fun i t h => by simp at h⟩
theorem data_get {D : List LRow} {ok : Nat → Prop} (h : (dataA D).P W ok) (i : Nat) {t : LRow} (hi : D[i]? = some t) : t.row.length ≤ t.c ∧ t.k ≤ t.row.length ∧ Kd.C (Kd.int .i64) W t.A t.row.length t.row := by
  obtain ⟨f, h⟩ := h
  have h1 := Kd.R_reads' (h i t hi).1
  exact ⟨h1.2.1, (h i t hi).2, h1.2.2⟩
/-- one more row -/
theorem data_snoc {D : List LRow} {t : LRow} {ok : Nat → Prop} (h : ((dataA D).sep (.row (Kd.int .i64) 3 (.slice t.A t.row.length t.c) t.row)).P W ok) (hk : t.k ≤ t.row.length) : (dataA (D ++ [t])).P W ok := by
  classical
  obtain ⟨g, ⟨f, h1⟩, h2⟩ := h
  refine ⟨fun k => if g k then f k else D.length, fun i u hi => ?_⟩
  rcases Nat.lt_or_ge i D.length with h3 | h3
  · rw [List.getElem?_append_left h3] at hi
    refine ⟨Kd.R_mono (h1 i u hi).1 fun k hk1 => ⟨hk1.1.1, (if_pos hk1.1.2).trans hk1.2⟩, (h1 i u hi).2⟩
  · rw [List.getElem?_append_right h3] at hi
    have h4 : i - D.length = 0 := by
      have := (List.getElem?_eq_some_iff.1 hi).1
      simp at this
      omega
    rw [h4] at hi
    obtain rfl : t = u := by simpa using hi
    exact ⟨Kd.R_mono h2 fun k hk1 => ⟨hk1.1, (if_neg hk1.2).trans (by omega)⟩, hk⟩
theorem Sep.gather (h : Sep w X l W) (i j : Nat) (hij : i ≠ j) {D : List LRow} (t : LRow) (hi : l[i]? = some (dataA D)) (hj : l[j]? = some (.row (Kd.int .i64) 3 (.slice t.A t.row.length t.c) t.row)) (hk : t.k ≤ t.row.length) :
    Sep w X ((l.set i (dataA (D ++ [t]))).set j .emp) W := by
  have h1 := h.join i j hij hi hj
  have h2 := h1.as (A' := dataA (D ++ [t])) i (by rw [List.getElem?_set_ne (fun e => hij e.symm), List.getElem?_set_self (List.getElem?_eq_some_iff.1 hi).1]) fun ok hp => data_snoc hp hk
  rw [List.set_comm _ _ (fun e => hij e.symm), List.set_set] at h2
  exact h2
/-- what a call made, one by one -/
theorem Sep.append (h : Sep w X l W) (h2 : Sep W (fun _ => False) l2 W1) (hX : ∀ b, X b → b < W.heap.size) : Sep w X (l ++ l2) W1 := by
  obtain ⟨f, hf⟩ := h.tags
  obtain ⟨f2, hf2⟩ := h2.tags
  have hw := h.hB.size
  refine ⟨h.hB.trans (h2.hB.mono hw), fun b => if b < W.heap.size then f b else l.length + f2 b, fun i C hi => ?_⟩
  rcases Nat.lt_or_ge i l.length with h1 | h1
  · rw [List.getElem?_append_left h1] at hi
    exact C.step (hf i C hi) h2.hB.size fun b h3 h4 => ⟨h2.hB.block b h4, (if_pos h4).trans h3.1, h3.2⟩
  · rw [List.getElem?_append_right h1] at hi
    refine Asr.mono (hf2 _ C hi) fun b h3 h4 => ⟨?_, Nat.le_trans hw h3.2.1, fun hx => ?_⟩
    · have := h3.2.1
      show (if b < W.heap.size then f b else l.length + f2 b) = i
      rw [if_neg (by omega), h3.1]
      omega
    · have := hX b hx
      have := h3.2.1
      omega
/-- one more head -/
theorem Sep.pushH (h : Sep w X l W) (i : Nat) {v : Value} {hs : List Hd3} (hi : l[i]? = some (headA v hs)) (q : Hd3) (hX : ∀ b, X b → b < W.heap.size) {P : Program} {t ty : TypeId} (ht : P.underlying t = some (.slice 43))
    (hinfo : (P.info? 43).map (fun i => (i.zero, i.size, i.bytes)) = some (some (.slice none 0 0), 1, 24)) (hl : (hs.length + 1) * 24 ≤ 140737488355328) :
    ∃ v1 w1, (Builtin.append_ #[t, t] ty #[v, .slice (some ⟨W.heap.size, 0, none⟩) 1 1]).run P (W.alloc (.cells #[encH q] 43)) = .ok v1 w1 ∧ Sep w X (l.set i (headA v1 (hs ++ [q]))) w1 ∧ Grow (fun k => some k = v.ownBlock) W w1 := by
  have run : ∀ ok, (∀ b, W.heap.size ≤ b → ok b) → (headA v hs).P W ok → ∃ v1 w1, (Builtin.append_ #[t, t] ty #[v, .slice (some ⟨W.heap.size, 0, none⟩) 1 1]).run P (W.alloc (.cells #[encH q] 43)) = .ok v1 w1 ∧ (headA v1 (hs ++ [q])).P w1 ok ∧ W.grownBy w1 v.ownBlock := fun ok hok hp => by
    obtain ⟨v1, w1, hrun, hR, hg, _⟩ := R_push (P := P) headK t ty 43 (.slice none 0 0) 24 ht hinfo rfl Nat.one_pos (W := W) (base := 0) (ok := ok) (okp := fun _ => False) (p := q) (cs := [encH q]) hp rfl (fun k hk => hk.elim) hok (Nat.zero_le _) hl (by decide)
    exact ⟨v1, w1, hrun, hR, hg⟩
  obtain ⟨v1, w1, hrun, _, hg⟩ := run _ (fun b _ => trivial) (Asr.mono (h.get i hi) (ok' := fun _ => True) fun _ _ _ => trivial)
  refine ⟨v1, w1, hrun, h.upd i hi (M := fun k => some k = v.ownBlock) (Grow.of_grownBy hg fun r e => e.symm) hX (fun ok hA b hb _ => hA.1 b hb.symm) fun ok hA hnew => ?_, Grow.of_grownBy hg fun r e => e.symm⟩
  obtain ⟨v2, w2, hrun2, h2, _⟩ := run ok hnew hA
  rw [hrun] at hrun2
  injection hrun2 with e1 e2
  subst e1
  subst e2
  exact h2
theorem C_take {α : Type} {d : Kd α} {A : Option Addr} {n m : Nat} {xs : List α} (h : Kd.C d W A n xs) (hm : m ≤ n) : Kd.C d W A m (xs.take m) := by
  refine ⟨by rw [List.length_take, h.1]; omega, Nat.le_trans hm h.2.1, fun h0 => ?_⟩
  obtain ⟨ad, e, hc⟩ := h.2.2 (by omega)
  refine ⟨ad, e, fun j p hj => hc j p ?_⟩
  rw [List.getElem?_take] at hj
  split at hj
  · exact hj
  · cases hj
/-- what a list of heads shows -/
theorem heads_C {A : Option Addr} {n c : Nat} {ok1 ok2 : Nat → Prop} {U D : List LRow} {hd : LRow → Hd3} {nm : LRow → List Int} (h1 : (headA (.slice A n c) (U.map hd)).P W ok1) (h2 : (dataA D).P W ok2)
    (hU : ∀ (i : Nat) t, U[i]? = some t → ∃ j : Nat, D[j]? = some t) (hd1 : ∀ t, t.k ≤ t.row.length → ∃ m, hd t = (t.A, m, t.c) ∧ m ≤ t.row.length ∧ nm t = t.row.take m) : n = U.length ∧ n ≤ c ∧ Kd.C (Kd.slice 3 (Kd.int .i64)) W A U.length (U.map nm) := by
  obtain ⟨e1, e2, h3⟩ := Kd.R_reads' h1
  rw [List.length_map] at e1 h3
  refine ⟨e1, e2, by rw [List.length_map], h3.2.1, fun h0 => ?_⟩
  obtain ⟨ad, e, hc⟩ := h3.2.2 h0
  refine ⟨ad, e, fun j p hj => ?_⟩
  rw [List.getElem?_map] at hj
  obtain ⟨t, ht, rfl⟩ := Option.map_eq_some_iff.1 hj
  obtain ⟨cs, hl, hcs, hcell⟩ := hc j (hd t) (by rw [List.getElem?_map, ht]; rfl)
  refine ⟨cs, hl, ?_, hcell⟩
  obtain ⟨j2, hj2⟩ := hU j t ht
  obtain ⟨g1, g2, g3⟩ := data_get h2 j2 hj2
  obtain ⟨m, em, hm, en⟩ := hd1 t g2
  have hlen : (nm t).length = m := by rw [en, List.length_take]; omega
  have hcs2 : cs = [encH (hd t)] := hcs
  refine ⟨t.A, t.c, ?_, by omega, ?_⟩
  · rw [hcs2, em, hlen]; rfl
  · rw [hlen, en]; exact C_take g3 hm
/-- a store into a row -/
theorem Sep.putRow (h : Sep w X l W) (hX : ∀ b, X b → b < W.heap.size) (j : Nat) {D : List LRow} (hj : l[j]? = some (dataA D)) (i : Nat) (t : LRow) (hi : D[i]? = some t) (q : Nat) (hq : q < t.row.length) :
    ∃ g, t.A = some ⟨g, 0, none⟩ ∧ W.cell? ⟨g, q, none⟩ = some (.int .i64 (t.row.getD q 0)) ∧ W.frozen? ⟨g, q, none⟩ = false ∧ ∀ x : Int, Sep w X (l.set j (dataA (D.set i { t with row := t.row.set q x }))) (W.setCell ⟨g, q, none⟩ (.int .i64 x)) := by
  obtain ⟨f0, h0⟩ := h.get j hj
  have hR0 := (h0 i t hi).1
  obtain ⟨g, cap, e, _, _, _⟩ := Kd.R_form hR0 (by omega)
  injection e with e1 _ e3
  have hR1 := hR0
  rw [e1] at hR1
  have hc := Kd.R_cell (enc := Value.int .i64) (h1 := fun _ => rfl) 0 hR1 (q : Int) (by omega) (by omega)
  rw [Int.toNat_natCast] at hc
  have hrd : rdOf (0 : Int) t.row (q : Int) = t.row.getD q 0 := by simp [rdOf]
  refine ⟨g, e1, by rw [← hrd]; exact hc.1, hc.2, fun x => ?_⟩
  refine h.upd j hj (grow_put q (.int .i64 x) W) hX (fun ok hA b hb _ => ?_) fun ok hA hnew => ?_
  · obtain ⟨f, hf⟩ := hA
    subst hb
    exact ((hf i t hi).1.1 b (by rw [e1]; rfl)).1
  · obtain ⟨f, hf⟩ := hA
    refine ⟨f, fun i' u hu => ?_⟩
    have hil := (List.getElem?_eq_some_iff.1 hi).1
    by_cases hii : i' = i
    · subst hii
      rw [List.getElem?_set_self hil] at hu
      obtain rfl := Option.some.inj hu
      have h2 := (hf i' t hi).1
      rw [e1] at h2
      have h3 := (Kd.R_put (enc := Value.int .i64) (h1 := fun _ => rfl) h2 (q : Int) x).1
      rw [Int.toNat_natCast] at h3
      show Kd.R (Kd.int .i64) 3 _ 0 _ (.slice t.A (t.row.set q x).length t.c) (t.row.set q x) ∧ t.k ≤ (t.row.set q x).length
      rw [List.length_set, e1]
      exact ⟨h3, (hf i' t hi).2⟩
    · rw [List.getElem?_set_ne (fun e => hii e.symm)] at hu
      refine ⟨Kd.R_far (p := ⟨g, q, none⟩) (hf i' u hu).1 (fun k hk e => hii ?_) _, (hf i' u hu).2⟩
      have h3 := ((hf i t hi).1.1 g (by rw [e1]; rfl)).2
      subst e
      exact hk.2.symm.trans h3
/-- a store into a list of heads -/
theorem Sep.putHead (h : Sep w X l W) (hX : ∀ b, X b → b < W.heap.size) (j : Nat) {A : Option Addr} {n c : Nat} {hs : List Hd3} (hj : l[j]? = some (headA (.slice A n c) hs)) (q : Nat) (hq : q < hs.length) :
    ∃ g, A = some ⟨g, 0, none⟩ ∧ n = hs.length ∧ W.cell? ⟨g, q, none⟩ = some (encH (hs.getD q (none, 0, 0))) ∧ W.frozen? ⟨g, q, none⟩ = false ∧ ∀ x : Hd3, Sep w X (l.set j (headA (.slice A n c) (hs.set q x))) (W.setCell ⟨g, q, none⟩ (encH x)) := by
  have hR0 : Kd.R headK 43 W 0 _ (.slice A n c) hs := h.get j hj
  obtain ⟨g, cap, e, _, _, _⟩ := Kd.R_form hR0 (by omega)
  injection e with e1 e2 e3
  subst e1 e2 e3
  have hc := Kd.R_cell (enc := encH) (h1 := fun _ => rfl) (none, 0, 0) hR0 (q : Int) (by omega) (by omega)
  rw [Int.toNat_natCast] at hc
  have hrd : rdOf ((none, 0, 0) : Hd3) hs (q : Int) = hs.getD q (none, 0, 0) := by simp [rdOf]
  refine ⟨g, rfl, rfl, by rw [← hrd]; exact hc.1, hc.2, fun x => ?_⟩
  refine h.upd j hj (grow_put q (encH x) W) hX (fun ok hA b hb _ => ?_) fun ok hA hnew => ?_
  · subst hb
    exact hA.1 b rfl
  · have h3 := (Kd.R_put (enc := encH) (h1 := fun _ => rfl) hA (q : Int) x).1
    rw [Int.toNat_natCast] at h3
    show Kd.R headK 43 _ 0 ok _ _
    exact h3
end
end Go.Proofs.YtggnnnddnppcpaaOwn
/-! text YtggnnnddnppcpaaGCnfKeepsJoinx0 -/
namespace Go.Proofs.Ytggnnnddnppcpaa.PCnfKeepsJoin
open Go.RowKit Go.Proofs.YtggnnnddnppcpaaW.PrintWords Go.Proofs.YtggnnnddnppcpaaW.PrintLast Go.Proofs.YtggnnnddnppcpaaW.PrintMore
attribute [local go_sem] max2_int min2_int max_two min_two max_three min_three max_four min_four   -- for this text's walks alone
set_option linter.unusedVariables false
set_option linter.unusedSimpArgs false



def errW : Option Int → Value
  | none => .nilIface
  | some c => .iface 0 (.int .i64 c)
theorem errW_none : errW none = .nilIface := rfl
theorem errW_some (c : Int) : errW (some c) = .iface 0 (.int .i64 c) := rfl

theorem info3 : (Try.prog.info? 3).map (fun i => (i.zero, i.size, i.bytes)) = some (some (.int .i64 0), 1, 8) := by kernel_rfl
-- the values' own types
def rd_L1 (xs : List (List Int)) (i : Int) : (List Int) := xs.getD i.toNat ([] : List Int)
theorem at_L1 {w : World} {A : Option Addr} {n : Nat} {xs : List (List Int)} (h : Kd.C (Kd.slice 3 (Kd.int .i64)) w A n xs) (i : Int) (h0 : 0 ≤ i) (h1 : i < n) : ∃ ad A0 c0, A = some ad ∧ w.cell? (ad.add i.toNat) = some (.slice A0 (rd_L1 xs i).length c0) ∧ (rd_L1 xs i).length ≤ c0 ∧ (Kd.int .i64).C w A0 (rd_L1 xs i).length (rd_L1 xs i) := by
  obtain ⟨ad, c, e, _, hK, hc0⟩ := Kd.C_get h ([] : List Int) i h0 h1
  have hc : ∀ j u, c[j]? = some u → w.cell? (ad.add (i.toNat * 1 + j)) = some u := hc0
  obtain ⟨A0, c0, rfl, l0, g0⟩ := hK
  exact ⟨ad, A0, c0, e, by have hq := hc 0 _ rfl; rwa [Nat.mul_one, Nat.add_zero] at hq, l0, g0⟩

/-! #### struct type 24 -/
structure S24 where
  f0 : Int
  f1 : (List (List Int))
end Go.Proofs.Ytggnnnddnppcpaa.PCnfKeepsJoin
/-! text YtggnnnddnppcpaaGCnfKeepsJoinx1 -/
namespace Go.Proofs.Ytggnnnddnppcpaa.PCnfKeepsJoin
open Go.RowKit Go.Proofs.YtggnnnddnppcpaaW.PrintWords Go.Proofs.YtggnnnddnppcpaaW.PrintLast Go.Proofs.YtggnnnddnppcpaaW.PrintMore
attribute [local go_sem] max2_int min2_int max_two min_two max_three min_three max_four min_four   -- for this text's walks alone
set_option linter.unusedVariables false
set_option linter.unusedSimpArgs false

/-! ### depotlaw02_small: function 17 -/
def depotlaw02_small.f  : Option (Int × (List (List Int))) := some (2, (([(([1, 2] : List Int)), (([(-1)] : List Int))] : List (List Int))))
set_option maxHeartbeats 8000000 in
set_option maxRecDepth 100000 in
theorem depotlaw02_small.calls  (r1 : Int) (r2 : List (List Int)) (w : World) (h : depotlaw02_small.f  = some (r1, r2)) :
    Calls Try.prog 17 #[] w fun e w' => ∃ v1_ : Value, e = .returned (.agg #[.int .i64 r1, v1_]) ∧ Kd.N (Kd.slice 3 (Kd.int .i64)) 43 w' w.heap.size (fun k_ => (w.heap.size ≤ k_)) v1_ r2 ∧ Below w.heap.size w w' := by
  have hu24 := Try.underlying24
  have HB := Aside0.mk (Below.refl w.heap.size w)
  have H : (some (2, (([(([1, 2] : List Int)), (([(-1)] : List Int))] : List (List Int))))) = some (r1, r2) := h
  clear h
  obtain ⟨y102, hy102⟩ : ∃ y_ : List Int, y_ = (([1, 2] : List Int)) := ⟨_, rfl⟩
  replace H : (some (2, (([y102, (([(-1)] : List Int))] : List (List Int))))) = some (r1, r2) := by first | (rw [hy102]; with_reducible exact H) | (have H2_ := (Option.bind_some _ _).symm.trans H; rw [hy102]; with_reducible exact H2_) | (have H2_ := (Option.bind_some _ _).symm.trans H; with_reducible exact H2_) | with_reducible exact H | (rw [hy102]; exact H) | exact H
  have Ny102 := Aside0.mk hy102
  clear hy102
  obtain ⟨y105, hy105⟩ : ∃ y_ : List Int, y_ = (([(-1)] : List Int)) := ⟨_, rfl⟩
  replace H : (some (2, (([y102, y105] : List (List Int))))) = some (r1, r2) := by first | (rw [hy105]; with_reducible exact H) | (have H2_ := (Option.bind_some _ _).symm.trans H; rw [hy105]; with_reducible exact H2_) | (have H2_ := (Option.bind_some _ _).symm.trans H; with_reducible exact H2_) | with_reducible exact H | (rw [hy105]; exact H) | exact H
  have Ny105 := Aside0.mk hy105
  clear hy105
  obtain ⟨y108, hy108⟩ : ∃ y_ : List (List Int), y_ = (([y102, y105] : List (List Int))) := ⟨_, rfl⟩
  replace H : (some (2, y108)) = some (r1, r2) := by first | (rw [hy108]; with_reducible exact H) | (have H2_ := (Option.bind_some _ _).symm.trans H; rw [hy108]; with_reducible exact H2_) | (have H2_ := (Option.bind_some _ _).symm.trans H; with_reducible exact H2_) | with_reducible exact H | (rw [hy108]; exact H) | exact H
  have Ny108 := Aside0.mk hy108
  clear hy108
  simp only [Option.some.injEq, Prod.mk.injEq] at H
  obtain ⟨rfl, rfl⟩ := H
  go_enter Try.func17, Try.ntmps17
  go_wp2_with (first | ((with_reducible refine gate_dst (N := 0) rfl ?_); refine box_event ?hg (N := 0) ?hd (cs := #[.int .i64 0, .slice none 0 0]) (t := 24) ?hr ?_; (case hd => rfl); (case hg => rfl); (case hr => first | (go_simp; done) | (go_simp; rfl)); intro gb101 hg w1 hbox hb; have n0_ := Aside0.mk (below_step (by repeat (first | (with_reducible first | exact HB.out | apply below_alloc | apply pw_below_drewN | apply below_drew1) | exact HB.out)) hb); have n1_ := Aside0.mk (hbox); have n2_ := Aside0.mk ((by rw [hg]; exact (below_size (by repeat (first | (with_reducible first | exact HB.out | apply below_alloc | apply pw_below_drewN | apply below_drew1) | exact HB.out))) : w.heap.size ≤ gb101)); have n3_ := Aside0.mk ((by rw [hg]; exact (below_size (by repeat (first | (with_reducible first | exact HB.out | apply below_alloc | apply pw_below_drewN | apply below_drew1) | exact HB.out))) : w.heap.size ≤ gb101)); clear HB; have HB := n0_; have BK101 := n1_; have GW101 := n2_; have GE101 := n3_; clear n0_ n1_ n2_ n3_; clear hb hbox hg) | ((with_reducible refine gate_dst (N := 1) rfl ?_); refine Kd.R_lit (Kd.int .i64) _ 3 ?hg (N := 1) ?hd (xs := ([1, 2] : List Int)) (inner := [.int .i64 1, .int .i64 2]) (ok := fun _ => True) (okp := fun _ => True) ?hr ?hp (fun _ hk => hk) trivial (Below.refl _ _) (Nat.le_refl _) (by simp) ?_; (case hd => rfl); (case hg => rfl); (case hr => first | (go_simp; done) | (go_simp; rfl)); (case hp => exact (Reps.one (show Kd.M (Kd.int .i64) _ _ _ 1 [.int .i64 1] from rfl) (Reps.one (show Kd.M (Kd.int .i64) _ _ _ 2 [.int .i64 2] from rfl) (Reps.none _ _)))); intro v103 w2 ho3 hb hg_ hnew_; clear hg_ hnew_; (first | rw [← Ny102.out] at ho3 | (simp only [Int.reduceToNat] at ho3; rw [← Ny102.out] at ho3)); have n0_ := Aside0.mk (Kd.R_lower (Kd.R_newM (M := fun k_ => (w.heap.size ≤ k_)) ho3 (below_size (by repeat (first | (with_reducible first | exact HB.out | apply below_alloc | apply pw_below_drewN | apply below_drew1 | refine below_set ?_ GE101.out) | exact HB.out))) (fun k_ h_ => h_)) (below_size (by repeat (first | (with_reducible first | exact HB.out | apply below_alloc | apply pw_below_drewN | apply below_drew1 | refine below_set ?_ GE101.out) | exact HB.out)))); have n1_ := Aside0.mk (blk_below (g := gb101) (o := .cells #[.int .i64 0, .slice none 0 0] 24 (0, 0)) (by (with_reducible repeat (first | refine blk_drewN ?_ _ | refine blk_drew ?_ | refine blk_alloc ?_ _)); exact BK101.out) hb); have n2_ := Aside0.mk (below_step (by repeat (first | (with_reducible first | exact HB.out | apply below_alloc | apply pw_below_drewN | apply below_drew1 | refine below_set ?_ GE101.out) | exact HB.out)) hb); clear BK101; clear HB; have HO104 := n0_; have BK101 := n1_; have HB := n2_; clear n0_ n1_ n2_; clear hb ho3) | ((with_reducible refine gate_dst (N := 2) rfl ?_); refine Kd.R_lit (Kd.int .i64) _ 3 ?hg (N := 2) ?hd (xs := ([(-1)] : List Int)) (inner := [.int .i64 (-1)]) (ok := fun _ => True) (okp := fun _ => True) ?hr ?hp (fun _ hk => hk) trivial (Below.refl _ _) (Nat.le_refl _) (by simp) ?_; (case hd => rfl); (case hg => rfl); (case hr => first | (go_simp; done) | (go_simp; rfl)); (case hp => exact (Reps.one (show Kd.M (Kd.int .i64) _ _ _ (-1) [.int .i64 (-1)] from rfl) (Reps.none _ _))); intro v106 w4 ho5 hb hg_ hnew_; clear hg_ hnew_; (first | rw [← Ny105.out] at ho5 | (simp only [Int.reduceToNat] at ho5; rw [← Ny105.out] at ho5)); have n0_ := Aside0.mk (Kd.R_elder' (by (with_reducible repeat (first | apply Kd.R_alloc | apply Kd.R_drewN | apply Kd.R_drew)); exact HO104.out) (Kd.R_base ho5) hb); have n1_ := Aside0.mk (Kd.R_lower (Kd.R_new' (Kd.R_newM (M := fun k_ => (w.heap.size ≤ k_)) ho5 (below_size (by repeat (first | (with_reducible first | exact HB.out | apply below_alloc | apply pw_below_drewN | apply below_drew1 | refine below_set ?_ GE101.out) | exact HB.out))) (fun k_ h_ => h_)) (Kd.R_lt (by (with_reducible repeat (first | apply Kd.R_alloc | apply Kd.R_drewN | apply Kd.R_drew)); exact HO104.out))) (below_size (by repeat (first | (with_reducible first | exact HB.out | apply below_alloc | apply pw_below_drewN | apply below_drew1 | refine below_set ?_ GE101.out) | exact HB.out)))); have n2_ := Aside0.mk (blk_below (g := gb101) (o := .cells #[.int .i64 0, .slice none 0 0] 24 (0, 0)) (by (with_reducible repeat (first | refine blk_drewN ?_ _ | refine blk_drew ?_ | refine blk_alloc ?_ _)); exact BK101.out) hb); have n3_ := Aside0.mk (below_step (by repeat (first | (with_reducible first | exact HB.out | apply below_alloc | apply pw_below_drewN | apply below_drew1 | refine below_set ?_ GE101.out) | exact HB.out)) hb); clear HO104; clear BK101; clear HB; have HO104 := n0_; have HO107 := n1_; have BK101 := n2_; have HB := n3_; clear n0_ n1_ n2_ n3_; clear hb ho5; obtain ⟨Ao6, co6, eo6⟩ := Kd.R_slice HO104.out; subst eo6; obtain ⟨Ao7, co7, eo7⟩ := Kd.R_slice HO107.out; subst eo7) | ((with_reducible refine gate_dst (N := 3) rfl ?_); refine Kd.N_lit (Kd.slice 3 (Kd.int .i64)) _ 43 ?hg (N' := 3) ?hd (xs := ([y102, y105] : List (List Int))) (inner := [.slice Ao6 y102.length co6, .slice Ao7 y105.length co7]) (ok := (fun k_ => (w.heap.size ≤ k_) ∧ k_ ≠ gb101)) (okp := (fun k_ => (w.heap.size ≤ k_) ∧ k_ ≠ gb101)) ?hr ?hp (fun _ hk => hk) ((show ∀ k_, w4.heap.size ≤ k_ → (fun k_ => (w.heap.size ≤ k_) ∧ k_ ≠ gb101) k_ from fun k_ hk => ⟨(Nat.le_trans (below_size (by repeat (first | (with_reducible first | exact HB.out | apply below_alloc | apply pw_below_drewN | apply below_drew1 | refine below_set ?_ GE101.out) | exact HB.out))) hk), Kd.freshB (g := gb101) (o := .cells #[.int .i64 0, .slice none 0 0] 24 (0, 0)) (by (with_reducible repeat (first | refine blk_drewN ?_ _ | refine blk_drew ?_ | refine blk_alloc ?_ _)); exact BK101.out) k_ hk⟩) _ (Nat.le_refl _)) (Below.refl _ _) (Nat.le_refl _) (by simp) ?_; (case hd => rfl); (case hg => rfl); (case hr => first | (go_simp; done) | (go_simp; rfl)); (case hp => exact (Reps.one (show Kd.FK (Kd.slice 3 (Kd.int .i64)) _ _ y102 [.slice Ao6 y102.length co6] from (Kd.FK_slice_mk (Kd.R_reads' (Kd.R_mono (ok' := (fun k_ => (w.heap.size ≤ k_) ∧ k_ ≠ gb101)) (Kd.R_types (HO104.out) BK101.out (by decide)) (fun k_ hk => ⟨hk.1.1.1, hk.2⟩))).2.1 (Kd.R_F (Kd.R_mono (ok' := (fun k_ => (w.heap.size ≤ k_) ∧ k_ ≠ gb101)) (Kd.R_types (HO104.out) BK101.out (by decide)) (fun k_ hk => ⟨hk.1.1.1, hk.2⟩))))) (Reps.one (show Kd.FK (Kd.slice 3 (Kd.int .i64)) _ _ y105 [.slice Ao7 y105.length co7] from (Kd.FK_slice_mk (Kd.R_reads' (Kd.R_mono (ok' := (fun k_ => (w.heap.size ≤ k_) ∧ k_ ≠ gb101)) (Kd.R_types (HO107.out) BK101.out (by decide)) (fun k_ hk => ⟨hk.1.1.1, hk.2⟩))).2.1 (Kd.R_F (Kd.R_mono (ok' := (fun k_ => (w.heap.size ≤ k_) ∧ k_ ≠ gb101)) (Kd.R_types (HO107.out) BK101.out (by decide)) (fun k_ hk => ⟨hk.1.1.1, hk.2⟩))))) (Reps.none _ _)))); intro v109 w8 ho9 hb hg_ hnew_; clear hg_ hnew_; (first | rw [← Ny108.out] at ho9 | (simp only [Int.reduceToNat] at ho9; rw [← Ny108.out] at ho9)); have n0_ := Aside0.mk (Kd.N_lower ho9 (below_size (by repeat (first | (with_reducible first | exact HB.out | apply below_alloc | apply pw_below_drewN | apply below_drew1 | refine below_set ?_ GE101.out) | exact HB.out)))); have n1_ := Aside0.mk (blk_below (g := gb101) (o := .cells #[.int .i64 0, .slice none 0 0] 24 (0, 0)) (by (with_reducible repeat (first | refine blk_drewN ?_ _ | refine blk_drew ?_ | refine blk_alloc ?_ _)); exact BK101.out) hb); have n2_ := Aside0.mk (below_step (by repeat (first | (with_reducible first | exact HB.out | apply below_alloc | apply pw_below_drewN | apply below_drew1 | refine below_set ?_ GE101.out) | exact HB.out)) hb); clear BK101; clear HB; clear HO104; clear HO107; have HO110 := n0_; have BK101 := n1_; have HB := n2_; clear n0_ n1_ n2_; clear hb ho9; obtain ⟨Ao10, co10, eo10⟩ := Kd.N_slice HO110.out; subst eo10; have hcz11_0 : w8.cell? ⟨gb101, 0, none⟩ = some (.int .i64 0) := (blk_cell BK101.out 0).trans rfl; have hcz11_1 : w8.cell? ⟨gb101, 1, none⟩ = some (.slice none 0 0) := (blk_cell BK101.out 1).trans rfl; have hfz11_0 := blk_frozen BK101.out 0; have hfz11_1 := blk_frozen BK101.out 1))
  refine bodyPost_ret (results_cell_row rfl _ _ gb101 24 #[.int .i64 2, .slice Ao10 y108.length co10] (0, 0) _ rfl (by (with_reducible repeat (first | refine blk_drewN ?_ _ | refine blk_drew ?_ | refine blk_alloc ?_ _)); refine blk_put (cs := #[.int .i64 2, .slice none 0 0]) ?_ 1 _ rfl; (with_reducible repeat (first | refine blk_drewN ?_ _ | refine blk_drew ?_ | refine blk_alloc ?_ _)); refine blk_put (cs := #[.int .i64 0, .slice none 0 0]) ?_ 0 _ rfl; (with_reducible repeat (first | refine blk_drewN ?_ _ | refine blk_drew ?_ | refine blk_alloc ?_ _)); exact BK101.out) Try.underlying24 rfl (by kernel_rfl)) rfl ?_
  exact ⟨_, by first | rfl | (simp [errW_none, errW_some] <;> rfl) | (simp [*, errW_none, errW_some] <;> rfl), by (with_reducible repeat (first | apply Kd.N_alloc | apply Kd.N_drewN | apply Kd.N_drew)); exact Kd.N_mono (Kd.N_far (p := ⟨gb101, 1, none⟩) (Kd.N_far (p := ⟨gb101, 0, none⟩) (Kd.N_mono HO110.out (fun k_ hk => (⟨hk, hk.2⟩ : _ ∧ k_ ≠ gb101))) (fun _ hk => hk.2) (.int .i64 2)) (fun _ hk => hk.2) (.slice Ao10 y108.length co10)) (fun _ hk => hk.1.1), by repeat (first | (with_reducible first | exact HB.out | apply below_alloc | apply pw_below_drewN | apply below_drew1 | refine below_set ?_ GE101.out) | exact HB.out)⟩

/-! ### depotref01_Formed: function 94 -/
/-! ### depotref01_Sound: function 83 -/
/-! ### depotref02_within: function 58 -/
/-! ### depotref02_Formed: function 19 -/
/-! ### depotref00_CopyInts: function 60 -/
/-! ### depotref00_CopyClauses: function 70 -/
/-! ### depotref00_CopyFormula: function 36 -/
end Go.Proofs.Ytggnnnddnppcpaa.PCnfKeepsJoin
/-! text YtggnnnddnppcpaaMath -/
namespace Go.Proofs.YtggnnnddnppcpaaMath
open Go.RowKit Go.Proofs.YtggnnnddnppcpaaW.PrintWords
set_option linter.unusedVariables false
set_option linter.unusedSimpArgs false

theorem Ev.succ {α : Type} {g : Nat → Option α} {r : α} (h : Ev (fun k => g (k + 1)) r) : Ev g r := Ev.step (fun _ => rfl) h
theorem Ev.bound {α β : Type} {x : Option α} {f : Nat → α → Option β} {a : α} {r : β} (h : x = some a) (k : Ev (fun n => f n a) r) : Ev (fun n => x.bind (f n)) r := by
  subst h
  exact k
theorem Ev.fixed {α : Type} {x : Option α} {r : α} (h : x = some r) : Ev (fun _ => x) r := by
  subst h
  exact Ev.now _

theorem w64 {x : Int} (h1 : -9223372036854775808 ≤ x) (h2 : x ≤ 9223372036854775807) : wrap64 x = x := by
  unfold wrap64
  omega
theorem w64s {i : Nat} (h : (i : Int) < 9223372036854775807) : wrap64 ((i : Int) + 1) = ((i + 1 : Nat) : Int) := by
  rw [w64 (by omega) (by omega)]
  omega
/-! reading -/
theorem rd_nat {l : List Int} {i : Nat} (h : i < l.length) : rd l (i : Int) = l[i] := by
  simp [rd, List.getD_eq_getElem?_getD, List.getElem?_eq_getElem h]
theorem drop_rd {l : List Int} {i : Nat} (h : i < l.length) : l.drop i = rd l (i : Int) :: l.drop (i + 1) := by
  rw [rd_nat h]
  exact List.drop_eq_getElem_cons h
theorem rd_mem {l : List Int} {i : Nat} (h : i < l.length) : rd l (i : Int) ∈ l := by
  rw [rd_nat h]
  exact List.getElem_mem h
theorem rdOf_nat {α : Type} {z : α} {l : List α} {i : Nat} (h : i < l.length) : rdOf z l (i : Int) = l[i] := by
  simp [rdOf, List.getD_eq_getElem?_getD, List.getElem?_eq_getElem h]
theorem drop_rdOf {α : Type} {z : α} {l : List α} {i : Nat} (h : i < l.length) : l.drop i = rdOf z l (i : Int) :: l.drop (i + 1) := by
  rw [rdOf_nat h]
  exact List.drop_eq_getElem_cons h
theorem getD_nat {α : Type} {z : α} {l : List α} {i : Nat} (h : i < l.length) : l.getD ((i : Int).toNat) z = l[i] := by
  simp [List.getD_eq_getElem?_getD, List.getElem?_eq_getElem h]
theorem drop_getD {α : Type} {z : α} {l : List α} {i : Nat} (h : i < l.length) : l.drop i = l.getD ((i : Int).toNat) z :: l.drop (i + 1) := by
  rw [getD_nat h]
  exact List.drop_eq_getElem_cons h
theorem take_snoc {α : Type} {l : List α} {i : Nat} (h : i < l.length) : l.take (i + 1) = l.take i ++ [l[i]] := by
  rw [List.take_succ_eq_append_getElem h]
theorem take_getD {α : Type} {z : α} {l : List α} {i : Nat} (h : i < l.length) : l.take (i + 1) = l.take i ++ [l.getD ((i : Int).toNat) z] := by
  rw [getD_nat h]; exact take_snoc h

/-! literals -/
def formed (l : Int) : Bool := decide (l ≠ 0 ∧ -1048576 ≤ l ∧ l ≤ 1048576)
theorem formed_iff {l : Int} : formed l = true ↔ l ≠ 0 ∧ -1048576 ≤ l ∧ l ≤ 1048576 := by simp [formed]
def sound (c : List Int) : Bool := c.all formed
def has (c : List Int) (l : Int) : Bool := formed l && c.contains l
def varOf (l : Int) : Int := if formed l = true then (if l < 0 then -l else l) else 0
def within (c : List Int) (v : Int) : Bool := sound c && c.all fun l => decide (l ≤ v ∧ -l ≤ v)
def isFormula (v : Int) (cs : List (List Int)) : Bool := decide (0 ≤ v ∧ v ≤ 1048576) && cs.all fun c => within c v
theorem formed_bd {l : Int} (h : formed l = true) : -1048576 ≤ l ∧ l ≤ 1048576 := by
  rw [formed_iff] at h
  omega
theorem sound_mem {c : List Int} (h : sound c = true) {l : Int} (hl : l ∈ c) : formed l = true := List.all_eq_true.1 h l hl

/-- The numbers of those of which p holds, from number i on. -/
def idxs {α : Type} (p : α → Bool) : Nat → List α → List Int
  | _, [] => []
  | i, c :: cs => if p c = true then (i : Int) :: idxs p (i + 1) cs else idxs p (i + 1) cs
theorem idxs_length {α : Type} (p : α → Bool) (cs : List α) : ∀ i, (idxs p i cs).length ≤ cs.length := by
  induction cs with
  | nil => intro i; simp [idxs]
  | cons c cs ih =>
    intro i
    simp only [idxs]
    have := ih (i + 1)
    split <;> simp <;> omega

/-! models -/
def truth (m : List Bool) (l : Int) : Bool := (m.getD (l.natAbs - 1) false) == decide (l > 0)
def holdsIn (c : List Int) (m : List Bool) : Bool := c.any (truth m)
def allIn (cs : List (List Int)) (m : List Bool) : Bool := cs.all fun c => holdsIn c m
def fitsIn (v : Int) (cs : List (List Int)) (m : List Bool) : Bool := isFormula v cs && decide ((m.length : Int) = v)
def satisfies (v : Int) (cs : List (List Int)) (m : List Bool) : Bool := fitsIn v cs m && allIn cs m
def falses (v : Int) (cs : List (List Int)) (m : List Bool) : List Int := if fitsIn v cs m = true then idxs (fun c => !holdsIn c m) 0 cs else []
def sizeFrom : Int → List (List Int) → Int
  | a, [] => a
  | a, c :: cs => sizeFrom (wrap64 (a + (c.length : Int))) cs
theorem within_lit {c : List Int} {v : Int} (h : within c v = true) {l : Int} (hl : l ∈ c) : formed l = true ∧ l ≤ v ∧ -l ≤ v := by
  unfold within at h
  rw [Bool.and_eq_true] at h
  refine ⟨sound_mem h.1 hl, ?_⟩
  simpa using List.all_eq_true.1 h.2 l hl
theorem rdOf_truth {m : List Bool} {l : Int} (h : formed l = true) : (rdOf false m ((l.natAbs : Int) - 1) == decide (l > 0)) = truth m l := by
  have hb := formed_iff.1 h
  unfold truth rdOf
  rw [show ((l.natAbs : Int) - 1).toNat = l.natAbs - 1 by omega]
theorem isFormula_clause {v : Int} {cs : List (List Int)} (h : isFormula v cs = true) {c : List Int} (hc : c ∈ cs) : within c v = true := by
  unfold isFormula at h
  rw [Bool.and_eq_true] at h
  exact List.all_eq_true.1 h.2 c hc
theorem isFormula_bd {v : Int} {cs : List (List Int)} (h : isFormula v cs = true) : 0 ≤ v ∧ v ≤ 1048576 := by
  unfold isFormula at h
  rw [Bool.and_eq_true] at h
  simpa using h.1

/-! counting -/
/-! places -/
end Go.Proofs.YtggnnnddnppcpaaMath
/-! text YtggnnnddnppcpaaCnfLib -/
namespace Go.Proofs.Ytggnnnddnppcpaa.PCnfTold
open Go.RowKit Go.Proofs.YtggnnnddnppcpaaW.PrintWords Go.Proofs.YtggnnnddnppcpaaW.PrintLast Go.Proofs.YtggnnnddnppcpaaMath
set_option linter.unusedVariables false
set_option linter.unusedSimpArgs false
theorem lits_Formed_eq (l : Int) : lits_Formed.f l = some (formed l) := by
  unfold lits_Formed.f formed
  by_cases h0 : l = 0
  · simp [h0]
  · by_cases h1 : l ≥ -1048576
    · rw [if_neg h0, if_pos h1]; congr 1; rw [Bool.eq_iff_iff]; simp; omega
    · rw [if_neg h0, if_neg h1]; congr 1; symm; simp; omega
theorem lits_Var_eq (l : Int) : lits_Var.f l = some (varOf l) := by
  unfold lits_Var.f varOf
  rw [lits_Formed_eq]
  simp only [Option.bind_some]
  by_cases h : formed l = true
  · have := formed_bd h
    rw [if_pos h, if_pos h, w64 (by omega) (by omega)]
    split <;> rfl
  · rw [if_neg h, if_neg h]
theorem lits_Sound_l0 (l : List Int) (hn : l.length ≤ 17592186044416) (d : Nat) : ∀ i : Nat, i + d = l.length → Ev (fun k => lits_Sound.l0 k l (l.length : Int) (i : Int)) (sound (l.drop i)) := by
  induction d with
  | zero =>
    intro i hi
    refine Ev.succ ?_
    simp only [lits_Sound.l0]
    have h1 : ¬ ((i : Int) < (l.length : Int)) := by omega
    simp only [h1, if_false]
    rw [List.drop_of_length_le (by omega)]
    exact Ev.now _
  | succ d ih =>
    intro i hi
    refine Ev.succ ?_
    simp only [lits_Sound.l0, lits_Formed_eq, Option.bind_some]
    have h1 : (i : Int) < (l.length : Int) := by omega
    have h0 : (0 : Int) ≤ (i : Int) := by omega
    simp only [h1, h0, if_true]
    rw [drop_rd (show i < l.length by omega)]
    by_cases hf : formed (rd l i) = true
    · simp only [hf, if_true, w64s (show (i : Int) < 9223372036854775807 by omega), sound, List.all_cons, Bool.true_and]
      exact ih (i + 1) (by omega)
    · simp only [Bool.not_eq_true] at hf
      simp only [hf, Bool.false_eq_true, if_false, sound, List.all_cons, Bool.false_and]
      exact Ev.now _
theorem lits_Sound_ev (l : List Int) (hn : l.length ≤ 17592186044416) : Ev (fun k => lits_Sound.f k l) (sound l) := lits_Sound_l0 l hn l.length 0 (by omega)
theorem cnf_within_l0 (l : List Int) (v : Int) (hn : l.length ≤ 17592186044416) (hs : sound l = true) (d : Nat) : ∀ i : Nat, i + d = l.length → Ev (fun k => cnf_within.l0 k v l (l.length : Int) (i : Int)) ((l.drop i).all fun l => decide (l ≤ v ∧ -l ≤ v)) := by
  induction d with
  | zero =>
    intro i hi
    refine Ev.succ ?_
    simp only [cnf_within.l0]
    have h1 : ¬ ((i : Int) < (l.length : Int)) := by omega
    simp only [h1, if_false]
    rw [List.drop_of_length_le (by omega)]
    exact Ev.now _
  | succ d ih =>
    intro i hi
    refine Ev.succ ?_
    simp only [cnf_within.l0, lits_Var_eq, Option.bind_some]
    have h1 : (i : Int) < (l.length : Int) := by omega
    have h0 : (0 : Int) ≤ (i : Int) := by omega
    simp only [h1, h0, if_true]
    rw [drop_rd (show i < l.length by omega)]
    have hf : formed (rd l i) = true := sound_mem hs (rd_mem (by omega))
    have hv : varOf (rd l i) > v ↔ ¬ (rd l i ≤ v ∧ - rd l i ≤ v) := by
      unfold varOf
      rw [if_pos hf]
      split <;> omega
    by_cases hc : rd l i ≤ v ∧ - rd l i ≤ v
    · have h2 : ¬ varOf (rd l i) > v := fun h => hv.1 h hc
      simp only [h2, if_false, w64s (show (i : Int) < 9223372036854775807 by omega), List.all_cons, decide_eq_true hc, Bool.true_and]
      exact ih (i + 1) (by omega)
    · have h2 : varOf (rd l i) > v := hv.2 hc
      simp only [h2, if_true, List.all_cons, decide_eq_false hc, Bool.false_and]
      exact Ev.now _
theorem cnf_within_ev (l : List Int) (v : Int) (hn : l.length ≤ 17592186044416) : Ev (fun k => cnf_within.f k l v) (within l v) := by
  unfold cnf_within.f within
  refine Ev.bind (lits_Sound_ev l hn) ?_
  by_cases hs : sound l = true
  · simp only [hs, if_true, Bool.true_and]
    exact cnf_within_l0 l v hn hs l.length 0 (by omega)
  · simp only [Bool.not_eq_true] at hs
    simp only [hs, Bool.false_eq_true, if_false, Bool.false_and]
    exact Ev.now _
theorem cnf_Formed_l0 (v : Int) (cs : List (List Int)) (hn : cs.length ≤ 17592186044416) (hc : ∀ c ∈ cs, c.length ≤ 17592186044416) (d : Nat) : ∀ i : Nat, i + d = cs.length → Ev (fun k => cnf_Formed.l0 k cs (cs.length : Int) (i : Int) v cs) ((cs.drop i).all fun c => within c v) := by
  induction d with
  | zero =>
    intro i hi
    refine Ev.succ ?_
    simp only [cnf_Formed.l0]
    have h1 : ¬ ((i : Int) < (cs.length : Int)) := by omega
    simp only [h1, if_false]
    rw [List.drop_of_length_le (by omega)]
    exact Ev.now _
  | succ d ih =>
    intro i hi
    refine Ev.succ ?_
    simp only [cnf_Formed.l0, rd_L1]
    have h1 : (i : Int) < (cs.length : Int) := by omega
    have h0 : (0 : Int) ≤ (i : Int) := by omega
    simp only [h1, h0, if_true]
    rw [drop_getD (z := ([] : List Int)) (show i < cs.length by omega), List.all_cons]
    have hm : (cs.getD ((i : Int).toNat) ([] : List Int)).length ≤ 17592186044416 := by
      rw [getD_nat (show i < cs.length by omega)]
      exact hc _ (List.getElem_mem _)
    refine Ev.bind (cnf_within_ev _ v hm) ?_
    by_cases hf : within (cs.getD ((i : Int).toNat) ([] : List Int)) v = true
    · simp only [hf, if_true, w64s (show (i : Int) < 9223372036854775807 by omega), Bool.true_and]
      exact ih (i + 1) (by omega)
    · simp only [Bool.not_eq_true] at hf
      simp only [hf, Bool.false_eq_true, if_false, Bool.false_and]
      exact Ev.now _
theorem cnf_Formed_ev (v : Int) (cs : List (List Int)) (hn : cs.length ≤ 17592186044416) (hc : ∀ c ∈ cs, c.length ≤ 17592186044416) : Ev (fun k => cnf_Formed.f k v cs) (isFormula v cs) := by
  have hj : ∀ b, Ev (fun k => cnf_Formed.j0 k b v cs) (!b && cs.all fun c => within c v) := by
    intro b
    refine Ev.succ ?_
    simp only [cnf_Formed.j0]
    cases b with
    | true => exact Ev.now _
    | false => exact cnf_Formed_l0 v cs hn hc cs.length 0 (by omega)
  unfold cnf_Formed.f isFormula
  by_cases h0 : v < 0
  · simp only [h0, if_true]
    have := hj true
    rw [decide_eq_false (by omega)]
    simpa using this
  · simp only [h0, if_false]
    have := hj (decide (v > 1048576))
    rw [show (!decide (v > 1048576)) = decide (0 ≤ v ∧ v ≤ 1048576) by rw [Bool.eq_iff_iff]; simp; omega] at this
    exact this
theorem cnf_holds_l0 (c : List Int) (m : List Bool) (v : Int) (hv : (m.length : Int) = v) (hw : within c v = true) (hn : c.length ≤ 17592186044416) (d : Nat) : ∀ i : Nat, i + d = c.length → Ev (fun k => cnf_holds.l0 k m c (c.length : Int) (i : Int)) (holdsIn (c.drop i) m) := by
  induction d with
  | zero =>
    intro i hi
    refine Ev.succ ?_
    simp only [cnf_holds.l0]
    have h1 : ¬ ((i : Int) < (c.length : Int)) := by omega
    simp only [h1, if_false]
    rw [List.drop_of_length_le (by omega)]
    exact Ev.now _
  | succ d ih =>
    intro i hi
    refine Ev.succ ?_
    simp only [cnf_holds.l0, lits_Var_eq, Option.bind_some]
    have h1 : (i : Int) < (c.length : Int) := by omega
    have h0 : (0 : Int) ≤ (i : Int) := by omega
    obtain ⟨hf, g1, g2⟩ := within_lit hw (rd_mem (l := c) (i := i) (by omega))
    have hb := formed_iff.1 hf
    have ev : varOf (rd c i) = ((rd c i).natAbs : Int) := by
      unfold varOf
      rw [if_pos hf]
      split <;> omega
    have e1 : wrap64 (varOf (rd c i) - 1) = ((rd c i).natAbs : Int) - 1 := by rw [ev, w64 (by omega) (by omega)]
    have h2 : (0 : Int) ≤ ((rd c i).natAbs : Int) - 1 := by omega
    have h3 : ((rd c i).natAbs : Int) - 1 < (m.length : Int) := by omega
    simp only [h1, h0, e1, h2, h3, if_true, rdOf_truth hf]
    rw [drop_rd (show i < c.length by omega)]
    simp only [holdsIn, List.any_cons]
    by_cases ht : truth m (rd c i) = true
    · simp only [ht, if_true, Bool.true_or]
      exact Ev.now _
    · simp only [Bool.not_eq_true] at ht
      simp only [ht, Bool.false_eq_true, if_false, Bool.false_or, w64s (show (i : Int) < 9223372036854775807 by omega)]
      exact ih (i + 1) (by omega)
theorem cnf_holds_ev (c : List Int) (m : List Bool) (v : Int) (hv : (m.length : Int) = v) (hw : within c v = true) (hn : c.length ≤ 17592186044416) : Ev (fun k => cnf_holds.f k c m) (holdsIn c m) := cnf_holds_l0 c m v hv hw hn c.length 0 (by omega)
theorem cnf_all_l0 (cs : List (List Int)) (m : List Bool) (v : Int) (hv : (m.length : Int) = v) (hw : ∀ c ∈ cs, within c v = true) (hn : cs.length ≤ 17592186044416) (hc : ∀ c ∈ cs, c.length ≤ 17592186044416) (d : Nat) : ∀ i : Nat, i + d = cs.length → Ev (fun k => cnf_all.l0 k m cs (cs.length : Int) (i : Int)) (allIn (cs.drop i) m) := by
  induction d with
  | zero =>
    intro i hi
    refine Ev.succ ?_
    simp only [cnf_all.l0]
    have h1 : ¬ ((i : Int) < (cs.length : Int)) := by omega
    simp only [h1, if_false]
    rw [List.drop_of_length_le (by omega)]
    exact Ev.now _
  | succ d ih =>
    intro i hi
    refine Ev.succ ?_
    simp only [cnf_all.l0, rd_L1]
    have h1 : (i : Int) < (cs.length : Int) := by omega
    have h0 : (0 : Int) ≤ (i : Int) := by omega
    simp only [h1, h0, if_true]
    have hm : cs.getD ((i : Int).toNat) ([] : List Int) ∈ cs := by
      rw [getD_nat (show i < cs.length by omega)]
      exact List.getElem_mem _
    rw [drop_getD (z := ([] : List Int)) (show i < cs.length by omega)]
    simp only [allIn, List.all_cons]
    refine Ev.bind (cnf_holds_ev _ m v hv (hw _ hm) (hc _ hm)) ?_
    by_cases ht : holdsIn (cs.getD ((i : Int).toNat) ([] : List Int)) m = true
    · simp only [ht, if_true, Bool.true_and, w64s (show (i : Int) < 9223372036854775807 by omega)]
      exact ih (i + 1) (by omega)
    · simp only [Bool.not_eq_true] at ht
      simp only [ht, Bool.false_eq_true, if_false, Bool.false_and]
      exact Ev.now _
theorem cnf_all_ev (v : Int) (cs : List (List Int)) (m : List Bool) (hv : (m.length : Int) = v) (hw : ∀ c ∈ cs, within c v = true) (hn : cs.length ≤ 17592186044416) (hc : ∀ c ∈ cs, c.length ≤ 17592186044416) (u : Int) : Ev (fun k => cnf_all.f k u cs m) (allIn cs m) := cnf_all_l0 cs m v hv hw hn hc cs.length 0 (by omega)
end Go.Proofs.Ytggnnnddnppcpaa.PCnfTold
/-! text YtggnnnddnppcpaaCnfFormed -/
namespace Go.Proofs.YtggnnnddnppcpaaHand
open Go.RowKit Go.Proofs.YtggnnnddnppcpaaW.PrintWords Go.Proofs.YtggnnnddnppcpaaW.PrintLast Go.Proofs.YtggnnnddnppcpaaMath
open Go.Proofs.Ytggnnnddnppcpaa.PCnfTold
set_option linter.unusedVariables false
set_option linter.unusedSimpArgs false
theorem within_calls (A0 : Option Addr) (c0 : Nat) (l0 : List Int) (v : Int) (w : World) (hr0 : Kd.C (Kd.int .i64) w A0 l0.length l0) (hc0 : l0.length ≤ c0) (hn : l0.length ≤ 17592186044416) :
    Calls Try.prog 57 #[.slice A0 l0.length c0, .int .i64 v] w fun e w' => e = .returned (.bool (within l0 v)) ∧ Drawn0 w w' := by
  obtain ⟨k, h⟩ := (cnf_within_ev l0 v hn).rounds
  exact cnf_within.calls k A0 c0 l0 v _ w hr0 hc0 h
theorem isFormula_calls (v : Int) (A0 : Option Addr) (c0 : Nat) (cs : List (List Int)) (w : World) (hr0 : Kd.C (Kd.slice 3 (Kd.int .i64)) w A0 cs.length cs) (hc0 : cs.length ≤ c0) (hn : cs.length ≤ 17592186044416) (hs : ∀ c ∈ cs, c.length ≤ 17592186044416) :
    Calls Try.prog 16 #[.agg #[.int .i64 v, .slice A0 cs.length c0]] w fun e w' => e = .returned (.bool (isFormula v cs)) ∧ Below w.heap.size w w' := by
  obtain ⟨k, h⟩ := (cnf_Formed_ev v cs hn hs).rounds
  exact cnf_Formed.calls k v A0 c0 cs _ w hr0 hc0 h
end Go.Proofs.YtggnnnddnppcpaaHand
/-! text YtggnnnddnppcpaaTidyMath -/
namespace Go.Proofs.YtggnnnddnppcpaaMath
open Go.RowKit Go.Proofs.YtggnnnddnppcpaaW.PrintWords
set_option linter.unusedVariables false
set_option linter.unusedSimpArgs false

/-! what a sort by place and slices.Compact leave -/
end Go.Proofs.YtggnnnddnppcpaaMath
/-! text YtggnnnddnppcpaaLitsFormed -/
namespace Go.Proofs.YtggnnnddnppcpaaHand
open Go.RowKit Go.Proofs.YtggnnnddnppcpaaW.PrintWords Go.Proofs.YtggnnnddnppcpaaW.PrintLast Go.Proofs.YtggnnnddnppcpaaMath
set_option linter.unusedVariables false
set_option linter.unusedSimpArgs false

end Go.Proofs.YtggnnnddnppcpaaHand
/-! text YtggnnnddnppcpaaLitsBase -/
namespace Go.Proofs.YtggnnnddnppcpaaHand
open Go.RowKit Go.Proofs.YtggnnnddnppcpaaW.PrintWords Go.Proofs.YtggnnnddnppcpaaW.PrintLast Go.Proofs.YtggnnnddnppcpaaMath
set_option linter.unusedVariables false
set_option linter.unusedSimpArgs false

end Go.Proofs.YtggnnnddnppcpaaHand
/-! text YtggnnnddnppcpaaShelf -/
namespace Go.Proofs
open Go.Shelf
end Go.Proofs
/-! text YtggnnnddnppcpaaTidy -/
namespace Go.Proofs.YtggnnnddnppcpaaHand
open Go.RowKit Go.Sort Go.Lib Go.Shelf Go.Proofs.YtggnnnddnppcpaaW.PrintWords Go.Proofs.YtggnnnddnppcpaaW.PrintLast Go.Proofs.YtggnnnddnppcpaaMath
set_option linter.unusedVariables false
set_option linter.unusedSimpArgs false

/-! rows of ints of the call's own -/
abbrev OwnInts (W : World) (base : Nat) (v : Value) (xs : List Int) : Prop := W.ownsRow base 3 1 v xs.length (nums .i64 xs)
theorem own_R {W : World} {base : Nat} {v : Value} {xs : List Int} (h : OwnInts W base v xs) : Kd.R (Kd.int .i64) 3 W base (fun _ => True) v xs := by
  have hl : xs.length * 1 = xs.length := Nat.mul_one _
  refine ⟨fun _ _ => trivial, ⟨nums .i64 xs, h, ?_⟩⟩
  refine ⟨by simp [nums, Kd.int, Kd.scalar], ?_⟩
  intro j p hj
  have hlt : j < xs.length := by
    rcases Nat.lt_or_ge j xs.length with h | h
    · exact h
    · rw [List.getElem?_eq_none h] at hj
      cases hj
  have e : xs[j] = p := by
    rw [List.getElem?_eq_getElem hlt] at hj
    exact Option.some.inj hj
  show ((nums .i64 xs).drop (j * 1)).take 1 = [Value.int .i64 p]
  rw [Nat.mul_one, nums, ← List.map_drop, ← List.map_take]
  rw [List.drop_eq_getElem_cons hlt, e]
  rfl
/-- The same row, its cells written anew by the library. -/
theorem own_put {W : World} {base g cap n : Nat} {os : Array Obj} {xs ys : List Int} (h : OwnInts W base (.slice (some ⟨g, 0, none⟩) xs.length cap) xs) (hl : ys.length = xs.length) :
    OwnInts (grow (putRow (Value.int .i64) (Sort.ahead W n) g 0 ys.toArray) os) base (.slice (some ⟨g, 0, none⟩) ys.length cap) ys ∧ W.grownBy (grow (putRow (Value.int .i64) (Sort.ahead W n) g 0 ys.toArray) os) (some g) := by
  rcases h.2 with ⟨h0, _⟩ | ⟨g', cap', cur, hv, hb, hh, h1, h2, h3, h4⟩
  · cases h0
  · cases hv
    refine ⟨?_, grownBy_sortedI _⟩
    have := ownsRow_sortedI (n := n) (os := os) hl hb hh h1 h2 h3
    rw [← hl] at this
    exact this
theorem infoI : (Try.prog.info? 3).map (fun i => (i.zero, i.size, i.bytes)) = some (some (.int .i64 0), 1, 8) := by kernel_rfl

end Go.Proofs.YtggnnnddnppcpaaHand
/-! text YtggnnnddnppcpaaCnfBase -/
namespace Go.Proofs.YtggnnnddnppcpaaHand
open Go.RowKit Go.Proofs.YtggnnnddnppcpaaW.PrintWords Go.Proofs.YtggnnnddnppcpaaW.PrintLast Go.Proofs.YtggnnnddnppcpaaMath Go.Proofs.Ytggnnnddnppcpaa.PCnfTold
set_option linter.unusedVariables false
set_option linter.unusedSimpArgs false
theorem holdsIn_calls (A0 A1 : Option Addr) (c0 c1 : Nat) (c : List Int) (m : List Bool) (v : Int) (w : World) (hr0 : Kd.C (Kd.int .i64) w A0 c.length c) (hc0 : c.length ≤ c0) (hr1 : Kd.C Kd.bool w A1 m.length m) (hc1 : m.length ≤ c1) (hv : (m.length : Int) = v) (hw : within c v = true) (hn : c.length ≤ 17592186044416) :
    Calls Try.prog 66 #[.slice A0 c.length c0, .slice A1 m.length c1] w fun e w' => e = .returned (.bool (holdsIn c m)) ∧ Drawn0 w w' := by
  obtain ⟨k, h⟩ := (cnf_holds_ev c m v hv hw hn).rounds
  exact cnf_holds.calls k A0 c0 c A1 c1 m _ w hr0 hc0 hr1 hc1 h
theorem allIn_calls (v : Int) (A0 A1 : Option Addr) (c0 c1 : Nat) (cs : List (List Int)) (m : List Bool) (w : World) (hr0 : Kd.C (Kd.slice 3 (Kd.int .i64)) w A0 cs.length cs) (hc0 : cs.length ≤ c0) (hr1 : Kd.C Kd.bool w A1 m.length m) (hc1 : m.length ≤ c1) (hv : (m.length : Int) = v) (hw : ∀ c ∈ cs, within c v = true) (hn : cs.length ≤ 17592186044416) (hs : ∀ c ∈ cs, c.length ≤ 17592186044416) :
    Calls Try.prog 65 #[.agg #[.int .i64 v, .slice A0 cs.length c0], .slice A1 m.length c1] w fun e w' => e = .returned (.bool (allIn cs m)) ∧ Below w.heap.size w w' := by
  obtain ⟨k, h⟩ := (cnf_all_ev v cs m hv hw hn hs v).rounds
  exact cnf_all.calls k v A0 c0 cs A1 c1 m _ w hr0 hc0 hr1 hc1 h
end Go.Proofs.YtggnnnddnppcpaaHand
/-! text YtggnnnddnppcpaaLaid0 -/
namespace Go.Proofs.YtggnnnddnppcpaaHand
open Go.RowKit Go.Proofs.YtggnnnddnppcpaaW.PrintWords Go.Proofs.YtggnnnddnppcpaaW.PrintLast Go.Proofs.YtggnnnddnppcpaaMath
set_option linter.unusedVariables false
set_option linter.unusedSimpArgs false

theorem infoRow : (Try.prog.info? 43).map (fun i => (i.zero, i.size, i.bytes)) = some (some (.slice none 0 0), 1, 24) := by kernel_rfl
theorem row_at {w : World} {A : Option Addr} {n : Nat} {xs : List (List Int)} (h : Kd.C (Kd.slice 3 (Kd.int .i64)) w A n xs) (i : Int) (h0 : 0 ≤ i) (h1 : i < n) : ∃ ad A0 c0, A = some ad ∧ w.cell? (ad.add i.toNat) = some (.slice A0 (xs.getD i.toNat []).length c0) ∧ (xs.getD i.toNat []).length ≤ c0 ∧ (Kd.int .i64).C w A0 (xs.getD i.toNat []).length (xs.getD i.toNat []) := by
  obtain ⟨ad, c, e, _, hK, hc0⟩ := Kd.C_get h ([] : List Int) i h0 h1
  have hc : ∀ j u, c[j]? = some u → w.cell? (ad.add (i.toNat * 1 + j)) = some u := hc0
  obtain ⟨A0, c0, rfl, l0, g0⟩ := hK
  exact ⟨ad, A0, c0, e, by have hq := hc 0 _ rfl; rwa [Nat.mul_one, Nat.add_zero] at hq, l0, g0⟩
theorem below_grown_none {W W1 : World} (hg : W.grownBy W1 (Value.slice none 0 0).ownBlock) : Below W.heap.size W W1 := ⟨hg.os, hg.tape, hg.output, hg.size, fun k hk => hg.block k hk (by simp [Value.ownBlock])⟩
theorem elder {n k : Nat} {v1 : Value} (hat : v1.ownBlock = (Value.slice none 0 0).ownBlock ∨ ∃ b, v1.ownBlock = some b ∧ n ≤ b) (hk : v1.ownBlock = some k) : n ≤ k := by
  rcases hat with h | ⟨b, h, hb⟩
  · rw [hk] at h; simp [Value.ownBlock] at h
  · rw [hk] at h; cases h; exact hb
end Go.Proofs.YtggnnnddnppcpaaHand
/-! text YtggnnnddnppcpaaLaid -/
namespace Go.Proofs.YtggnnnddnppcpaaHand
open Go.RowKit Go.Proofs.YtggnnnddnppcpaaW.PrintWords Go.Proofs.YtggnnnddnppcpaaW.PrintLast Go.Proofs.YtggnnnddnppcpaaMath
set_option linter.unusedVariables false
set_option linter.unusedSimpArgs false

set_option maxHeartbeats 4000000 in
set_option maxRecDepth 100000 in
theorem laid_calls (A1 : Option Addr) (c1 : Nat) (xs l1 : List (List Int)) (uu : Value) (w0 w : World) (hr1 : Kd.C (Kd.slice 3 (Kd.int .i64)) w0 A1 l1.length l1) (hc1 : l1.length ≤ c1) (hB : Below w0.heap.size w0 w)
    (ho : Kd.S (Kd.slice 3 (Kd.int .i64)) 43 w w0.heap.size (fun _ => True) uu xs) (hn : xs.length + l1.length ≤ 5864062014805) (hs : ∀ c ∈ l1, c.length ≤ 17592186044416) :
    Calls Try.prog 59 #[uu, .slice A1 l1.length c1] w fun e w' => ∃ v : Value, e = .returned v ∧ Kd.S (Kd.slice 3 (Kd.int .i64)) 43 w' w0.heap.size (fun _ => True) v (xs ++ l1) ∧ Below w0.heap.size w0 w' := by
  have HR1 := Aside0.mk hr1
  have HB := Aside0.mk hB
  have HO := Aside0.mk ho
  have HN := Aside0.mk hn
  have HS := Aside0.mk hs
  clear hr1 hB ho hn hs
  go_enter Try.func59, Try.ntmps59
  go_wp2
  go_loopw [0, 6, 9] (fun v0 _ v9 wr => ∃ (k : Nat) (x : Int), v9 = .int .i64 x ∧ Aside0 (x = k ∧ k ≤ l1.length) ∧ Aside0 (Kd.S (Kd.slice 3 (Kd.int .i64)) 43 wr w0.heap.size (fun _ => True) v0 (xs ++ l1.take k)) ∧ Aside0 (Below w0.heap.size w0 wr)) (fun _ _ i _ => l1.length - (intOf i).toNat)
  case atStart => exact ⟨0, 0, rfl, ⟨rfl, Nat.zero_le _⟩, ⟨by simpa using HO.out⟩, ⟨HB.out⟩⟩
  case round =>
    clear HO HB
    obtain ⟨k, x, rfl, HX, HO, HB⟩ := hrel
    obtain ⟨hxk, hk⟩ := HX.out
    by_cases hlt : k < l1.length
    · have p1 : 0 ≤ x := by omega
      have q1 : x < (l1.length : Int) := by omega
      obtain ⟨ad, A, c, e1, hcell, hlc, hrow⟩ := row_at (Kd.C_below HR1.out HB.out) x p1 q1
      subst e1
      have p2 := eq_true p1
      have q2 := eq_true q1
      have q3 : decide (x < (l1.length : Int)) = true := decide_eq_true q1
      have hmem : l1.getD x.toNat [] ∈ l1 := by rw [hxk]; rw [getD_nat hlt]; exact List.getElem_mem hlt
      have htk : xs ++ l1.take (k + 1) = (xs ++ l1.take k) ++ [l1.getD x.toNat []] := by rw [hxk, take_getD (z := ([] : List Int)) hlt, List.append_assoc]
      have HX2 : Aside0 (wrap64 (x + 1) = ((k + 1 : Nat) : Int) ∧ k + 1 ≤ l1.length) := by
        have := HN.out
        exact ⟨by rw [w64 (by omega) (by omega)]; omega, by omega⟩
      have hm : (intOf (.int .i64 (wrap64 (x + 1)))).toNat = k + 1 := by rw [HX2.out.1]; simp [intOf]
      have hm0 : (intOf (.int .i64 x)).toNat = k := by rw [hxk]; simp [intOf]
      have HM : Aside0 (l1.length - (intOf (.int .i64 (wrap64 (x + 1)))).toNat < l1.length - (intOf (.int .i64 x)).toNat) := ⟨by rw [hm, hm0]; omega⟩
      have HLR : Aside0 ((l1.getD x.toNat []).length ≤ 17592186044416) := ⟨HS.out _ hmem⟩
      have HLX : Aside0 ((xs ++ l1.take k).length < 5864062014805) := by
        have := HN.out
        rw [List.length_append, List.length_take]
        exact ⟨by omega⟩
      have HTK := Aside0.mk htk
      have HROW := Aside0.mk hrow
      clear hm hm0 hxk hk hlt p1 q1 hrow hlc hmem htk HX
      generalize l1.getD x.toNat [] = row at *
      generalize xs ++ l1.take k = ys at *
      go_wp2_with (first
        | ((with_reducible refine gate_builtin (b := .append) (xs := #[.const (.slice none 0 0), .tmp 14]) rfl ?_); at_builtin; refine print_append_row (w0 := w0) w0.heap.size rfl (.const (.slice none 0 0)) (.tmp 14) 43 3 .i64 8 rfl Try.underlying43 infoI (by decide) _ ([] : List Int) row A _ _ rfl rfl ?aO ?aR ?aB ?aS ?aL ?_; (case aO => exact World.ownsRow_nil _ _ _ _); (case aR => exact Kd.reads_of_C HROW.out); (case aB => exact HB.out); (case aS => exact HB.out.size); (case aL => have := HLR.out; simp; omega); intro v1 w1 ho hb hg hat; have HI := Aside0.mk (own_R (xs := row) (by simpa using ho)); have HO1 := Aside0.mk (Kd.S_elder' (v := v1) HO.out (fun k hk => elder hat hk) (below_grown_none hg)); have HB1 := Aside0.mk hb; clear ho hb hg hat; obtain ⟨Ao, co, eo⟩ := Kd.R_slice HI.out; subst eo)
        | ((with_reducible refine gate_builtin (b := .append) (xs := #[.tmp 13, .tmp 16]) rfl ?_); at_builtin; refine Kd.S_append (Kd.slice 3 (Kd.int .i64)) (w0 := w0) w0.heap.size rfl (.tmp 13) (.tmp 16) 22 43 (.slice none 0 0) 24 rfl Try.underlying22 infoRow rfl (by decide) (by omega) u0 ys row [.slice Ao row.length co] (fun _ => True) (fun k_ => some k_ = (.slice Ao row.length co : Value).ownBlock) rfl rfl ?aP (fun k_ hk_ => ((Kd.R_mono (ok' := fun k_ => ((fun _ => True)) k_ ∧ some k_ ≠ (u0 : Value).ownBlock) (Kd.R_apart' (HI.out) (Kd.S_typed HO1.out) (by decide)) (fun k_ hk => ⟨trivial, hk.2⟩))).1 k_ hk_.symm) ?aF ?aO ?aB ?aS ?aL ?_; (case aP => exact Kd.M_row (Kd.R_mono (Kd.R_tight rfl (Kd.R_mono (ok' := fun k_ => ((fun _ => True)) k_ ∧ some k_ ≠ (u0 : Value).ownBlock) (Kd.R_apart' (HI.out) (Kd.S_typed HO1.out) (by decide)) (fun k_ hk => ⟨trivial, hk.2⟩))) (fun _ h_ => h_))); (case aB => exact HB1.out); (case aF => exact (fun _ _ => trivial)); (case aO => exact (Kd.S_mono HO1.out (fun k_ hk => ⟨trivial, fun e_ => hk.2 e_⟩))); (case aS => exact HB1.out.size); (case aL => have := HLX.out; omega); intro v2 w2 ho hb hg hat; have HO2 := Aside0.mk ho; have HB2 := Aside0.mk hb; clear ho hb hg hat))
      go_roundw
      case measure => exact HM.out
      case rel => exact ⟨k + 1, _, rfl, HX2, ⟨by rw [HTK.out]; exact HO2.out⟩, ⟨HB2.out⟩⟩
    · obtain rfl : k = l1.length := by omega
      have q3 : decide (x < (l1.length : Int)) = false := decide_eq_false (by omega)
      have ho := HO.out
      rw [List.take_length] at ho
      have HO2 := Aside0.mk ho
      clear hxk hk hlt HX HO ho
      go_wp2
      go_ret
      exact ⟨_, rfl, HO2.out, HB.out⟩
end Go.Proofs.YtggnnnddnppcpaaHand
