/- TrimPartsUptoSaid: for every input the law TrimParts returns true, and what came in reads as before. Condition: what comes in is of bulk at most 1048576. Written by row.py. -/
import Derived.Test.YtkkkbcjmkmadhaaRows
import Derived.Test.YtkkkbcjmkmadhaaStatTrimParts
import Derived.Test.YtkkkbcjmkmadhaaPureTrimParts
import Derived.WalkKit
import Derived.ProofKit
import Derived.OpenShut
import Derived.ShutString
import Derived.ChangeOld
import Derived.Below
import Derived.SizedLaws
import Derived.Lib.SmallJoins
import Derived.JoinedCond
import Derived.Deep.CondSized
namespace Go.Proofs.Ytkkkbcjmkmadhaa.trimParts
open Go.ChangeShapes Go.WideShapes Go.ChangeAt Go.RowKit Go.Joins
open Go.Proofs.YtkkkbcjmkmadhaaOpens Go.Proofs.YtkkkbcjmkmadhaaW.PrintWords Go.Proofs.Ytkkkbcjmkmadhaa.PTrimParts
set_option linter.unusedVariables false
set_option linter.unusedSimpArgs false
theorem own : ownKnob Try.prog.godebug = none := by kernel_rfl
theorem laidOut : laidOutB Try.prog = true := by kernel_rfl
noncomputable def m29 : S29 → Nat := fun x => ((1 + (sumOf (fun y9 => 1) x.f1 + 1)) + 1)
set_option maxRecDepth 100000 in
theorem op29 : Opens Try.prog 29 k29 (fun x => (True) ∧ (x.f1.length * 8 ≤ 140737488351232 ∧ ∀ y10 ∈ x.f1, (Lit.int .i64 y10).wf = true)) m29 := by
  have o := (opens_struct (opensF_cons (opens_bool Try.underlying4 (by kernel_rfl)) (by kernel_rfl) (opensF_last (opens_slice (B := 8) (opens_int Try.underlying3 (by kernel_rfl)) Try.underlying27 (by kernel_rfl) (by kernel_rfl)) (by kernel_rfl))) Try.underlying29 (by kernel_rfl))
  exact opens_iso o (fun x : S29 => (x.f0, x.f1)) (fun p => ⟨p.1, p.2⟩) (fun _ => rfl)
set_option maxRecDepth 100000 in
theorem contract (H : Type) (enc : TypeId × Value → H) (W : World) (base : Nat) (args : Array Value) (ds gs : List (DataW H)) (before : List MemPlace)
    (hval0 : ∀ (j : Nat) t v, Try.f5.params[j]? = some t → args[j]? = some v → Value.okWide Try.prog W .any base t v)
    (hW : DataW.Whole enc Try.prog Try.f5.params.toList Rows.trimPartsSpec.vars false W args.toList ds gs before)
    (hsz0 : (DataW.weightsEach Try.prog (Try.f5.params.toList ++ Rows.trimPartsSpec.plain.varTypes Try.prog) (ds ++ gs)).all (· ≤ reachBytes) = true) (hk : Rows.uptoSmall H (ds ++ gs) = true) :
    Calls Try.prog 5 args W fun e W' => ∃ v, e = .returned v ∧ Rows.trimPartsSpec.post enc Try.prog Try.f5 false true false false W args v W' := by
  have hsz := hsz0
  have hval : ∀ (j : Nat) t v, Try.f5.params[j]? = some t → args[j]? = some v → Value.okWide Try.prog W .any base t v := hval0
  have hW' := hW
  obtain ⟨p, q, hA0, hV, rfl, hfz, hnd⟩ := hW
  have hA : DataW.TrodAll enc Try.prog W 0 (fun _ => true) true Try.f5.params.toList args.toList ds p := hA0
  rw [Try.params5] at hA hval hsz
  obtain ⟨v0, vs0, d0, ds0, p0, q0, hargs, rfl, rfl, h0, r0⟩ := trodAll_cons hA
  obtain ⟨v1, vs1, d1, ds1, p1, q1, rfl, rfl, rfl, h1, r1⟩ := trodAll_cons r0
  obtain ⟨v2, vs2, d2, ds2, p2, q2, rfl, rfl, rfl, h2, r2⟩ := trodAll_cons r1
  obtain ⟨rfl, rfl, rfl⟩ := trodAll_nil r2
  obtain rfl : args = #[v0, v1, v2] := by cases args; simp_all
  obtain ⟨rfl, rfl⟩ := trodVars_none hV
  obtain ⟨A0, len0, c0, rfl⟩ := okWide_slice Try.underlying23 (hval 0 23 v0 rfl rfl)
  have k0 := h0
  have lt0 : ∀ x ∈ p0, x.block < W.heap.size := by obtain ⟨m, hm⟩ := k0; exact DataW.trod_lt m _ _ _ hm
  obtain ⟨l0, rfl, hr0, hc0, ok0, m0⟩ := slice_arg (opens_slice (B := 32) op29 Try.underlying23 (by kernel_rfl) (by kernel_rfl)) h0 (reach_of hsz (j := 0) (t := 23) rfl rfl)
  obtain ⟨A1, len1, c1, rfl⟩ := okWide_slice Try.underlying26 (hval 1 26 v1 rfl rfl)
  have k1 := h1
  have lt1 : ∀ x ∈ p1, x.block < W.heap.size := by obtain ⟨m, hm⟩ := k1; exact DataW.trod_lt m _ _ _ hm
  obtain ⟨l1, rfl, hr1, hc1, ok1, m1⟩ := slice_arg (opens_slice (B := 1) (opens_bool Try.underlying4 (by kernel_rfl)) Try.underlying26 (by kernel_rfl) (by kernel_rfl)) h1 (reach_of hsz (j := 1) (t := 26) rfl rfl)
  obtain ⟨cs2, rfl, _⟩ := okWide_struct Try.underlying29 (hval 2 29 v2 rfl rfl)
  have k2 := h2
  have lt2 : ∀ x ∈ p2, x.block < W.heap.size := by obtain ⟨m, hm⟩ := k2; exact DataW.trod_lt m _ _ _ hm
  obtain ⟨a2, hK2, ok2, m2⟩ := struct_arg (opens_struct (opensF_cons (opens_bool Try.underlying4 (by kernel_rfl)) (by kernel_rfl) (opensF_last (opens_slice (B := 8) (opens_int Try.underlying3 (by kernel_rfl)) Try.underlying27 (by kernel_rfl) (by kernel_rfl)) (by kernel_rfl))) Try.underlying29 (by kernel_rfl)) h2 (reach_of hsz (j := 2) (t := 29) rfl rfl)
  obtain ⟨_, _, hcs2, rfl, ⟨A2_1, c2_1, rfl, hc2_1, hr2_1⟩⟩ := hK2
  obtain rfl : cs2 = #[.bool a2.1, .slice A2_1 a2.2.length c2_1] := by cases cs2; simpa using hcs2
  have hm := bulk_of hk
  simp only [List.append_nil, Rows.uptoBulkAll, Rows.uptoBulk] at hm
  clear hA0 hval0 hsz0 hsz
  refine (PTrimParts.walk Pure.TrimParts A0 c0 l0 A1 c1 l1 a2.1 A2_1 c2_1 a2.2 W hr0 hc0 hr1 hc1 hr2_1 hc2_1 ok0 ok1 ok2 (by unfold m29 at *; omega)).mono fun e W' ⟨he, bel⟩ => ?_
  subst he
  exact ⟨_, rfl, _, _, _, [], _, [], hW', trodAll_mk1 (shut_bool Try.underlying4 _), (trodAll_cons_mk (Below.trod laidOut (by kernel_rfl) (of_decide_eq_true (by kernel_rfl)) k0 bel lt0) (trodAll_cons_mk (Below.trod laidOut (by kernel_rfl) (of_decide_eq_true (by kernel_rfl)) k1 bel lt1) (trodAll_cons_mk (Below.trod laidOut (by kernel_rfl) (of_decide_eq_true (by kernel_rfl)) k2 bel lt2) trodAll_mk0))), rfl, bel.frame _, fun h => by cases h⟩
set_option maxRecDepth 100000 in
theorem lifted (os : Os) (started : os.Started) (H : Type) (enc : TypeId × Value → H) (F : Stop.Interp) :
    ReturnsInHanded {} Try.checked os 5 .any ((Rows.OpenSpec.upto Rows.trimPartsSpec).pre6 enc Try.prog Try.f5 Rows.trimPartsUptoRow.domain false) (((Rows.OpenSpec.upto Rows.trimPartsSpec).at F).post enc Try.prog Try.f5 false true false false) := by
  refine returnsInHanded_of_cond_sized (C := Try.checked) (s := Rows.OpenSpec.upto Rows.trimPartsSpec) (k := Rows.uptoSmall) rfl own started (by kernel_rfl) Try.func5
    (OpenSpec.witness (enc := enc) (C := Try.checked) (s := Rows.OpenSpec.upto Rows.trimPartsSpec) (k := Rows.uptoSmall) rfl false ⟨#[], #[.slice none 0 0, .slice none 0 0, .agg #[.bool false, .slice none 0 0]], []⟩ 8 (by kernel_rfl) (by kernel_rfl) (by kernel_rfl)
      (x := ([.nil, .nil, .agg [.lit (.bool false), .nil]], [], [])) (by kernel_rfl) rfl (by kernel_rfl)) ?_
  intro W base args ds gs before hval hW _ hk hsz _
  exact contract H enc W base args ds gs before hval hW hsz hk
set_option maxRecDepth 100000 in
theorem over : Rows.trimPartsUptoRow.holds Try.pinned (Rows.OpenSpec.upto Rows.trimPartsSpec) :=
  OpenClaim.holds_of_cond 5 Try.f5 rfl rfl rfl rfl rfl rfl rfl ⟨rfl, rfl, rfl, rfl, rfl⟩ rfl rfl rfl rfl rfl (by kernel_rfl) Try.func5 (by kernel_rfl)
    (of_decide_eq_true (by kernel_rfl)) (by unfold Func.isWrapper; first | (rw [if_pos (by decide +kernel)]; kernel_rfl) | (rw [if_neg (by decide +kernel)]; exact ⟨rfl, rfl⟩))
    (fun os started H enc _ F => lifted os started H enc F)
theorem proved : Rows.TrimPartsUptoSaid := over
#print axioms proved
end Go.Proofs.Ytkkkbcjmkmadhaa.trimParts
namespace Go.Proofs.Ytkkkbcjmkmadhaa
theorem trimPartsupto_holds : Rows.TrimPartsUptoSaid := trimParts.proved
end Go.Proofs.Ytkkkbcjmkmadhaa
