/- LitsSparesUptoSaid: for every input the law LitsSpares returns true, and what came in reads as before. Condition: what comes in is of bulk at most 1048576. Written by row.py. -/
import Derived.Test.YtamefocngapkpaaClLitsSparesy
import Derived.Test.YtamefocngapkpaaClLitsSparesp
import Derived.Test.YtamefocngapkpaaClLitsSparesc
import Derived.Test.YtamefocngapkpaaRows
import Derived.WalkKit
import Derived.ProofKit
import Derived.OpenShut
import Derived.ShutString
import Derived.ChangeOld
import Derived.Below
import Derived.SizedLaws
import Derived.Lib.SmallJoins
import Derived.JoinedCond
import Derived.Deep.CondSized
/-! text YtamefocngapkpaaSparesLaw -/
namespace Go.Proofs.Ytamefocngapkpaa.PLitsSpares
open Go.RowKit Go.Proofs.YtamefocngapkpaaW.PrintWords Go.Proofs.YtamefocngapkpaaW.PrintLast
set_option linter.unusedVariables false
def depotlaw01_LitsSpares.f (l0 l1 : List Int) (a2 : Int) : Option Bool := if l0.length ≤ 1048576 ∧ l1.length ≤ 1048576 ∧ -9223372036854775808 ≤ a2 ∧ a2 ≤ 9223372036854775807 then some true else none
theorem depotlaw01_LitsSpares.calls (A0 : Option Addr) (c0 : Nat) (l0 : List Int) (A1 : Option Addr) (c1 : Nat) (l1 : List Int) (a2 : Int) (r : Bool) (w : World) (hr0 : Kd.C (Kd.int .i64) w A0 l0.length l0) (hc0 : l0.length ≤ c0) (hr1 : Kd.C (Kd.int .i64) w A1 l1.length l1) (hc1 : l1.length ≤ c1) (h : depotlaw01_LitsSpares.f l0 l1 a2 = some r) :
    Calls Try.prog 14 #[.slice A0 l0.length c0, .slice A1 l1.length c1, .int .i64 a2] w fun e w' => e = .returned (.bool r) ∧ Below w.heap.size w w' := by
  unfold depotlaw01_LitsSpares.f at h
  split at h
  · rename_i hh
    obtain rfl := Option.some.inj h
    exact Go.Proofs.YtamefocngapkpaaHand.spares_calls A0 A1 c0 c1 l0 l1 a2 w hr0 hc0 hr1 hc1 hh.1 hh.2.1 ⟨hh.2.2.1, hh.2.2.2⟩
  · cases h
#print axioms depotlaw01_LitsSpares.calls
end Go.Proofs.Ytamefocngapkpaa.PLitsSpares
/-! text YtamefocngapkpaaStatLitsSpares -/
namespace Go.Proofs.Ytamefocngapkpaa.PLitsSpares
open Go.RowKit Go.Proofs.YtamefocngapkpaaW.PrintWords Go.Proofs.YtamefocngapkpaaW.PrintLast Go.Proofs.YtamefocngapkpaaW.PrintMore Go.Proofs.YtamefocngapkpaaOpens
set_option linter.unusedVariables false
set_option linter.unusedSimpArgs false
def Stmt : Prop := ∀ (l0 : List (Int)) (l1 : List (Int)) (a2 : Int), (l0.length * 8 ≤ 140737488351232 ∧ ∀ y1 ∈ l0, (Lit.int .i64 y1).wf = true) → (l1.length * 8 ≤ 140737488351232 ∧ ∀ y3 ∈ l1, (Lit.int .i64 y3).wf = true) → ((Lit.int .i64 a2).wf = true) → (sumOf (fun y2 => 1) l0 + 1) + (sumOf (fun y4 => 1) l1 + 1) + 1 ≤ 1048576 → depotlaw01_LitsSpares.f l0 l1 a2 = some true
theorem walk (P : Stmt) (A0 : Option Addr) (c0 : Nat) (l0 : List (Int)) (A1 : Option Addr) (c1 : Nat) (l1 : List (Int)) (a2 : Int) (w : World) (hr0 : Kd.C (Kd.int .i64) w A0 l0.length l0) (hc0 : l0.length ≤ c0) (hr1 : Kd.C (Kd.int .i64) w A1 l1.length l1) (hc1 : l1.length ≤ c1) (ok0 : l0.length * 8 ≤ 140737488351232 ∧ ∀ y1 ∈ l0, (Lit.int .i64 y1).wf = true) (ok1 : l1.length * 8 ≤ 140737488351232 ∧ ∀ y3 ∈ l1, (Lit.int .i64 y3).wf = true) (ok2 : (Lit.int .i64 a2).wf = true) (hm : (sumOf (fun y2 => 1) l0 + 1) + (sumOf (fun y4 => 1) l1 + 1) + 1 ≤ 1048576) :
    Calls Try.prog 14 #[.slice A0 l0.length c0, .slice A1 l1.length c1, .int .i64 a2] w fun e w' => e = .returned (.bool true) ∧ Below w.heap.size w w' := by
  have h := P l0 l1 a2 ok0 ok1 ok2 hm
  refine (depotlaw01_LitsSpares.calls A0 c0 l0 A1 c1 l1 a2 true w hr0 hc0 hr1 hc1 h).mono ?_
  rintro e w' ⟨rfl, hd⟩
  exact ⟨rfl, hd⟩
end Go.Proofs.Ytamefocngapkpaa.PLitsSpares
/-! text YtamefocngapkpaaPureLitsSpares -/
namespace Go.Proofs.Ytamefocngapkpaa.Pure
open Go.RowKit Go.Proofs.Ytamefocngapkpaa.PLitsSpares Go.Proofs.YtamefocngapkpaaW.PrintWords Go.Proofs.YtamefocngapkpaaW.PrintLast Go.Proofs.YtamefocngapkpaaOpens Go.Proofs.YtamefocngapkpaaMath

theorem sumOf_one {α : Type} (l : List α) : sumOf (fun _ => 1) l = l.length := by
  induction l with
  | nil => rfl
  | cons x l ih => simp only [sumOf, ih, List.length_cons]; omega

theorem LitsSpares : PLitsSpares.Stmt := by
  intro l0 l1 a2 _ _ h2 hm
  rw [sumOf_one, sumOf_one] at hm
  have hb := wf_lo h2
  unfold depotlaw01_LitsSpares.f
  rw [if_pos ⟨by omega, by omega, hb.1, hb.2⟩]

end Go.Proofs.Ytamefocngapkpaa.Pure
/-! text YtamefocngapkpaaRowLitsSpares -/
namespace Go.Proofs.Ytamefocngapkpaa.litsSpares
open Go.ChangeShapes Go.WideShapes Go.ChangeAt Go.RowKit Go.Joins
open Go.Proofs.YtamefocngapkpaaOpens Go.Proofs.YtamefocngapkpaaW.PrintWords Go.Proofs.Ytamefocngapkpaa.PLitsSpares
set_option linter.unusedVariables false
set_option linter.unusedSimpArgs false
theorem own : ownKnob Try.prog.godebug = none := by kernel_rfl
theorem laidOut : laidOutB Try.prog = true := by kernel_rfl
set_option maxRecDepth 100000 in
theorem contract (H : Type) (enc : TypeId × Value → H) (W : World) (base : Nat) (args : Array Value) (ds gs : List (DataW H)) (before : List MemPlace)
    (hval0 : ∀ (j : Nat) t v, Try.f14.params[j]? = some t → args[j]? = some v → Value.okWide Try.prog W .any base t v)
    (hW : DataW.Whole enc Try.prog Try.f14.params.toList Rows.litsSparesSpec.vars false W args.toList ds gs before)
    (hsz0 : (DataW.weightsEach Try.prog (Try.f14.params.toList ++ Rows.litsSparesSpec.plain.varTypes Try.prog) (ds ++ gs)).all (· ≤ reachBytes) = true) (hk : Rows.uptoSmall H (ds ++ gs) = true) :
    Calls Try.prog 14 args W fun e W' => ∃ v, e = .returned v ∧ Rows.litsSparesSpec.post enc Try.prog Try.f14 false true false false W args v W' := by
  have hsz := hsz0
  have hval : ∀ (j : Nat) t v, Try.f14.params[j]? = some t → args[j]? = some v → Value.okWide Try.prog W .any base t v := hval0
  have hW' := hW
  obtain ⟨p, q, hA0, hV, rfl, hfz, hnd⟩ := hW
  have hA : DataW.TrodAll enc Try.prog W 0 (fun _ => true) true Try.f14.params.toList args.toList ds p := hA0
  rw [Try.params14] at hA hval hsz
  obtain ⟨v0, vs0, d0, ds0, p0, q0, hargs, rfl, rfl, h0, r0⟩ := trodAll_cons hA
  obtain ⟨v1, vs1, d1, ds1, p1, q1, rfl, rfl, rfl, h1, r1⟩ := trodAll_cons r0
  obtain ⟨v2, vs2, d2, ds2, p2, q2, rfl, rfl, rfl, h2, r2⟩ := trodAll_cons r1
  obtain ⟨rfl, rfl, rfl⟩ := trodAll_nil r2
  obtain rfl : args = #[v0, v1, v2] := by cases args; simp_all
  obtain ⟨rfl, rfl⟩ := trodVars_none hV
  obtain ⟨A0, len0, c0, rfl⟩ := okWide_slice Try.underlying26 (hval 0 26 v0 rfl rfl)
  have k0 := h0
  have lt0 : ∀ x ∈ p0, x.block < W.heap.size := by obtain ⟨m, hm⟩ := k0; exact DataW.trod_lt m _ _ _ hm
  obtain ⟨l0, rfl, hr0, hc0, ok0, m0⟩ := slice_arg (opens_slice (B := 8) (opens_int Try.underlying3 (by kernel_rfl)) Try.underlying26 (by kernel_rfl) (by kernel_rfl)) h0 (reach_of hsz (j := 0) (t := 26) rfl rfl)
  obtain ⟨A1, len1, c1, rfl⟩ := okWide_slice Try.underlying26 (hval 1 26 v1 rfl rfl)
  have k1 := h1
  have lt1 : ∀ x ∈ p1, x.block < W.heap.size := by obtain ⟨m, hm⟩ := k1; exact DataW.trod_lt m _ _ _ hm
  obtain ⟨l1, rfl, hr1, hc1, ok1, m1⟩ := slice_arg (opens_slice (B := 8) (opens_int Try.underlying3 (by kernel_rfl)) Try.underlying26 (by kernel_rfl) (by kernel_rfl)) h1 (reach_of hsz (j := 1) (t := 26) rfl rfl)
  obtain ⟨a2, rfl, rfl, rfl, w2⟩ := open_int Try.underlying3 (hval 2 3 v2 rfl rfl) h2
  have hm := bulk_of hk
  simp only [List.append_nil, Rows.uptoBulkAll, Rows.uptoBulk] at hm
  clear hA0 hval0 hsz0 hsz
  refine (PLitsSpares.walk Pure.LitsSpares A0 c0 l0 A1 c1 l1 a2 W hr0 hc0 hr1 hc1 ok0 ok1 w2 (by first | omega | (simp only [sumOf] at *; omega))).mono fun e W' ⟨he, bel⟩ => ?_
  subst he
  exact ⟨_, rfl, _, _, _, [], _, [], hW', trodAll_mk1 (shut_bool Try.underlying4 _), (trodAll_cons_mk (Below.trod laidOut (by kernel_rfl) (of_decide_eq_true (by kernel_rfl)) k0 bel lt0) (trodAll_cons_mk (Below.trod laidOut (by kernel_rfl) (of_decide_eq_true (by kernel_rfl)) k1 bel lt1) (trodAll_cons_mk (shut_int Try.underlying3 w2) trodAll_mk0))), rfl, bel.frame _, fun h => by cases h⟩
set_option maxRecDepth 100000 in
theorem lifted (os : Os) (started : os.Started) (H : Type) (enc : TypeId × Value → H) (F : Stop.Interp) :
    ReturnsInHanded {} Try.checked os 14 .any ((Rows.OpenSpec.upto Rows.litsSparesSpec).pre6 enc Try.prog Try.f14 Rows.litsSparesUptoRow.domain false) (((Rows.OpenSpec.upto Rows.litsSparesSpec).at F).post enc Try.prog Try.f14 false true false false) := by
  refine returnsInHanded_of_cond_sized (C := Try.checked) (s := Rows.OpenSpec.upto Rows.litsSparesSpec) (k := Rows.uptoSmall) rfl own started (by kernel_rfl) Try.func14
    (OpenSpec.witness (enc := enc) (C := Try.checked) (s := Rows.OpenSpec.upto Rows.litsSparesSpec) (k := Rows.uptoSmall) rfl false ⟨#[], #[.slice none 0 0, .slice none 0 0, .int .i64 0], []⟩ 8 (by kernel_rfl) (by kernel_rfl) (by kernel_rfl)
      (x := ([.nil, .nil, .lit (.int .i64 0)], [], [])) (by kernel_rfl) rfl (by kernel_rfl)) ?_
  intro W base args ds gs before hval hW _ hk hsz _
  exact contract H enc W base args ds gs before hval hW hsz hk
set_option maxRecDepth 100000 in
theorem over : Rows.litsSparesUptoRow.holds Try.pinned (Rows.OpenSpec.upto Rows.litsSparesSpec) :=
  OpenClaim.holds_of_cond 14 Try.f14 rfl rfl rfl rfl rfl rfl rfl ⟨rfl, rfl, rfl, rfl, rfl⟩ rfl rfl rfl rfl rfl (by kernel_rfl) Try.func14 (by kernel_rfl)
    (of_decide_eq_true (by kernel_rfl)) (by unfold Func.isWrapper; first | (rw [if_pos (by decide +kernel)]; kernel_rfl) | (rw [if_neg (by decide +kernel)]; exact ⟨rfl, rfl⟩))
    (fun os started H enc _ F => lifted os started H enc F)
theorem proved : Rows.LitsSparesUptoSaid := over
#print axioms proved
end Go.Proofs.Ytamefocngapkpaa.litsSpares
namespace Go.Proofs.Ytamefocngapkpaa
theorem litsSparesupto_holds : Rows.LitsSparesUptoSaid := litsSpares.proved
end Go.Proofs.Ytamefocngapkpaa
