/- LitsMeetsSaid: for every input the law LitsMeets returns true, and what came in reads as before. Condition: none. Written by row.py. -/
import Derived.Test.YtamefocngapkpaaClLitsMeetso
import Derived.Test.YtamefocngapkpaaClLitsMeetsj
import Derived.Test.YtamefocngapkpaaClLitsMeetse
import Derived.Test.YtamefocngapkpaaRows
import Derived.WalkKit
import Derived.ProofKit
import Derived.OpenShut
import Derived.ShutString
import Derived.ChangeOld
import Derived.Below
import Derived.SizedLaws
import Derived.Lib.SmallJoins
/-! text YtamefocngapkpaaMeetsLaw -/
namespace Go.Proofs.Ytamefocngapkpaa.PLitsMeets
open Go.RowKit Go.Proofs.YtamefocngapkpaaW.PrintWords Go.Proofs.YtamefocngapkpaaW.PrintLast
set_option linter.unusedVariables false
def depotlaw01_LitsMeets.f (l0 l1 : List Int) (a2 : Int) : Option Bool := if l0.length < 17592186044416 ∧ l1.length < 17592186044416 ∧ -9223372036854775808 ≤ a2 ∧ a2 ≤ 9223372036854775807 then some true else none
theorem depotlaw01_LitsMeets.calls (A0 : Option Addr) (c0 : Nat) (l0 : List Int) (A1 : Option Addr) (c1 : Nat) (l1 : List Int) (a2 : Int) (r : Bool) (w : World) (hr0 : Kd.C (Kd.int .i64) w A0 l0.length l0) (hc0 : l0.length ≤ c0) (hr1 : Kd.C (Kd.int .i64) w A1 l1.length l1) (hc1 : l1.length ≤ c1) (h : depotlaw01_LitsMeets.f l0 l1 a2 = some r) :
    Calls Try.prog 12 #[.slice A0 l0.length c0, .slice A1 l1.length c1, .int .i64 a2] w fun e w' => e = .returned (.bool r) ∧ Below w.heap.size w w' := by
  unfold depotlaw01_LitsMeets.f at h
  split at h
  · rename_i hh
    obtain rfl := Option.some.inj h
    exact Go.Proofs.YtamefocngapkpaaHand.meets_calls A0 A1 c0 c1 l0 l1 a2 w hr0 hc0 hr1 hc1 hh.1 hh.2.1 hh.2.2
  · cases h
#print axioms depotlaw01_LitsMeets.calls
end Go.Proofs.Ytamefocngapkpaa.PLitsMeets
/-! text YtamefocngapkpaaStatLitsMeets -/
namespace Go.Proofs.Ytamefocngapkpaa.PLitsMeets
open Go.RowKit Go.Proofs.YtamefocngapkpaaW.PrintWords Go.Proofs.YtamefocngapkpaaW.PrintLast Go.Proofs.YtamefocngapkpaaW.PrintMore Go.Proofs.YtamefocngapkpaaOpens
set_option linter.unusedVariables false
set_option linter.unusedSimpArgs false
def Stmt : Prop := ∀ (l0 : List (Int)) (l1 : List (Int)) (a2 : Int), (l0.length * 8 ≤ 140737488351232 ∧ ∀ y1 ∈ l0, (Lit.int .i64 y1).wf = true) → (l1.length * 8 ≤ 140737488351232 ∧ ∀ y3 ∈ l1, (Lit.int .i64 y3).wf = true) → ((Lit.int .i64 a2).wf = true) → depotlaw01_LitsMeets.f l0 l1 a2 = some true
theorem walk (P : Stmt) (A0 : Option Addr) (c0 : Nat) (l0 : List (Int)) (A1 : Option Addr) (c1 : Nat) (l1 : List (Int)) (a2 : Int) (w : World) (hr0 : Kd.C (Kd.int .i64) w A0 l0.length l0) (hc0 : l0.length ≤ c0) (hr1 : Kd.C (Kd.int .i64) w A1 l1.length l1) (hc1 : l1.length ≤ c1) (ok0 : l0.length * 8 ≤ 140737488351232 ∧ ∀ y1 ∈ l0, (Lit.int .i64 y1).wf = true) (ok1 : l1.length * 8 ≤ 140737488351232 ∧ ∀ y3 ∈ l1, (Lit.int .i64 y3).wf = true) (ok2 : (Lit.int .i64 a2).wf = true) :
    Calls Try.prog 12 #[.slice A0 l0.length c0, .slice A1 l1.length c1, .int .i64 a2] w fun e w' => e = .returned (.bool true) ∧ Below w.heap.size w w' := by
  have h := P l0 l1 a2 ok0 ok1 ok2
  refine (depotlaw01_LitsMeets.calls A0 c0 l0 A1 c1 l1 a2 true w hr0 hc0 hr1 hc1 h).mono ?_
  rintro e w' ⟨rfl, hd⟩
  exact ⟨rfl, hd⟩
end Go.Proofs.Ytamefocngapkpaa.PLitsMeets
/-! text YtamefocngapkpaaPureLitsMeets -/
namespace Go.Proofs.Ytamefocngapkpaa.Pure
open Go.RowKit Go.Proofs.Ytamefocngapkpaa.PLitsMeets Go.Proofs.YtamefocngapkpaaW.PrintWords Go.Proofs.YtamefocngapkpaaW.PrintLast Go.Proofs.YtamefocngapkpaaOpens Go.Proofs.YtamefocngapkpaaMath

theorem LitsMeets : PLitsMeets.Stmt := by
  intro l0 l1 a2 h0 h1 h2
  unfold depotlaw01_LitsMeets.f
  have := wf_lo h2
  rw [if_pos ⟨by omega, by omega, this.1, this.2⟩]

end Go.Proofs.Ytamefocngapkpaa.Pure
/-! text YtamefocngapkpaaRowLitsMeets -/
namespace Go.Proofs.Ytamefocngapkpaa.litsMeets
open Go.ChangeShapes Go.WideShapes Go.ChangeAt Go.RowKit Go.Joins
open Go.Proofs.YtamefocngapkpaaOpens Go.Proofs.YtamefocngapkpaaW.PrintWords Go.Proofs.Ytamefocngapkpaa.PLitsMeets
set_option linter.unusedVariables false
set_option linter.unusedSimpArgs false
theorem own : ownKnob Try.prog.godebug = none := by kernel_rfl
theorem laidOut : laidOutB Try.prog = true := by kernel_rfl
set_option maxRecDepth 100000 in
theorem contract (H : Type) (enc : TypeId × Value → H) (W : World) (base : Nat) (args : Array Value) (ds gs : List (DataW H)) (before : List MemPlace)
    (hval0 : ∀ (j : Nat) t v, Try.f12.params[j]? = some t → args[j]? = some v → Value.okWide Try.prog W .any base t v)
    (hW : DataW.Whole enc Try.prog Try.f12.params.toList Rows.litsMeetsSpec.vars false W args.toList ds gs before)
    (hsz0 : (DataW.weightsEach Try.prog (Try.f12.params.toList ++ Rows.litsMeetsSpec.plain.varTypes Try.prog) (ds ++ gs)).all (· ≤ reachBytes) = true) :
    Calls Try.prog 12 args W fun e W' => ∃ v, e = .returned v ∧ Rows.litsMeetsSpec.post enc Try.prog Try.f12 false true false false W args v W' := by
  have hsz := hsz0
  have hval : ∀ (j : Nat) t v, Try.f12.params[j]? = some t → args[j]? = some v → Value.okWide Try.prog W .any base t v := hval0
  have hW' := hW
  obtain ⟨p, q, hA0, hV, rfl, hfz, hnd⟩ := hW
  have hA : DataW.TrodAll enc Try.prog W 0 (fun _ => true) true Try.f12.params.toList args.toList ds p := hA0
  rw [Try.params12] at hA hval hsz
  obtain ⟨v0, vs0, d0, ds0, p0, q0, hargs, rfl, rfl, h0, r0⟩ := trodAll_cons hA
  obtain ⟨v1, vs1, d1, ds1, p1, q1, rfl, rfl, rfl, h1, r1⟩ := trodAll_cons r0
  obtain ⟨v2, vs2, d2, ds2, p2, q2, rfl, rfl, rfl, h2, r2⟩ := trodAll_cons r1
  obtain ⟨rfl, rfl, rfl⟩ := trodAll_nil r2
  obtain rfl : args = #[v0, v1, v2] := by cases args; simp_all
  obtain ⟨rfl, rfl⟩ := trodVars_none hV
  obtain ⟨A0, len0, c0, rfl⟩ := okWide_slice Try.underlying26 (hval 0 26 v0 rfl rfl)
  have k0 := h0
  have lt0 : ∀ x ∈ p0, x.block < W.heap.size := by obtain ⟨m, hm⟩ := k0; exact DataW.trod_lt m _ _ _ hm
  obtain ⟨l0, rfl, hr0, hc0, ok0, m0⟩ := slice_arg (opens_slice (B := 8) (opens_int Try.underlying3 (by kernel_rfl)) Try.underlying26 (by kernel_rfl) (by kernel_rfl)) h0 (reach_of hsz (j := 0) (t := 26) rfl rfl)
  obtain ⟨A1, len1, c1, rfl⟩ := okWide_slice Try.underlying26 (hval 1 26 v1 rfl rfl)
  have k1 := h1
  have lt1 : ∀ x ∈ p1, x.block < W.heap.size := by obtain ⟨m, hm⟩ := k1; exact DataW.trod_lt m _ _ _ hm
  obtain ⟨l1, rfl, hr1, hc1, ok1, m1⟩ := slice_arg (opens_slice (B := 8) (opens_int Try.underlying3 (by kernel_rfl)) Try.underlying26 (by kernel_rfl) (by kernel_rfl)) h1 (reach_of hsz (j := 1) (t := 26) rfl rfl)
  obtain ⟨a2, rfl, rfl, rfl, w2⟩ := open_int Try.underlying3 (hval 2 3 v2 rfl rfl) h2
  clear hA0 hval0 hsz0 hsz
  refine (PLitsMeets.walk Pure.LitsMeets A0 c0 l0 A1 c1 l1 a2 W hr0 hc0 hr1 hc1 ok0 ok1 w2).mono fun e W' ⟨he, bel⟩ => ?_
  subst he
  exact ⟨_, rfl, _, _, _, [], _, [], hW', trodAll_mk1 (shut_bool Try.underlying4 _), (trodAll_cons_mk (Below.trod laidOut (by kernel_rfl) (of_decide_eq_true (by kernel_rfl)) k0 bel lt0) (trodAll_cons_mk (Below.trod laidOut (by kernel_rfl) (of_decide_eq_true (by kernel_rfl)) k1 bel lt1) (trodAll_cons_mk (shut_int Try.underlying3 w2) trodAll_mk0))), rfl, bel.frame _, fun h => by cases h⟩
set_option maxRecDepth 100000 in
theorem lifted (os : Os) (started : os.Started) (H : Type) (enc : TypeId × Value → H) :
    ReturnsInHanded {} Try.checked os 12 .any (Rows.litsMeetsSpec.pre6 enc Try.prog Try.f12 Rows.litsMeetsRow.domain false) (Rows.litsMeetsSpec.post enc Try.prog Try.f12 false true false false) := by
  refine returnsInHanded_of_change_sized (C := Try.checked) own started (by kernel_rfl) Try.func12
    (ChangeSpec.witness6 (enc := enc) (C := Try.checked) false ⟨#[], #[.slice none 0 0, .slice none 0 0, .int .i64 0], []⟩ 8 (by kernel_rfl) (by kernel_rfl) (by kernel_rfl) (by kernel_rfl)) ?_
  intro W base args ds gs before hval hW _ hsz _
  exact contract H enc W base args ds gs before hval hW hsz
set_option maxRecDepth 100000 in
theorem over : Rows.litsMeetsRow.holds Try.pinned (OpenSpec.ofChange Rows.litsMeetsSpec) :=
  OpenClaim.holds_of_wide 12 Try.f12 rfl rfl rfl rfl rfl rfl rfl ⟨rfl, rfl, rfl, rfl, rfl⟩ rfl rfl rfl rfl rfl (by kernel_rfl) Try.func12 (by kernel_rfl)
    (of_decide_eq_true (by kernel_rfl)) (by unfold Func.isWrapper; first | (rw [if_pos (by decide +kernel)]; kernel_rfl) | (rw [if_neg (by decide +kernel)]; exact ⟨rfl, rfl⟩))
    (fun os started H enc _ => lifted os started H enc)
theorem proved : Rows.LitsMeetsSaid := over
#print axioms proved
end Go.Proofs.Ytamefocngapkpaa.litsMeets
namespace Go.Proofs.Ytamefocngapkpaa
theorem litsMeets_holds : Rows.LitsMeetsSaid := litsMeets.proved
end Go.Proofs.Ytamefocngapkpaa
