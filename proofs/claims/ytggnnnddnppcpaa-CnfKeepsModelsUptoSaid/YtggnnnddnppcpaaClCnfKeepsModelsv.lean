/- CnfKeepsModelsUptoSaid: for every input the law CnfKeepsModels returns true, and what came in reads as before. Condition: what comes in is of bulk at most 1048576. Written by row.py. -/
import Derived.Test.YtggnnnddnppcpaaClCnfKeepsModelsu
import Derived.Test.YtggnnnddnppcpaaClCnfKeepsModelsf
import Derived.Test.YtggnnnddnppcpaaClCnfKeepsModelsc
import Derived.Test.YtggnnnddnppcpaaRows
import Derived.WalkKit
import Derived.ProofKit
import Derived.OpenShut
import Derived.ShutString
import Derived.ChangeOld
import Derived.Below
import Derived.SizedLaws
import Derived.Lib.SmallJoins
import Derived.JoinedCond
import Derived.Deep.CondSized
/-! text YtggnnnddnppcpaaKmLaw -/
namespace Go.Proofs.Ytggnnnddnppcpaa.PCnfKeepsModels
open Go.RowKit Go.Proofs.YtggnnnddnppcpaaW.PrintWords Go.Proofs.YtggnnnddnppcpaaW.PrintLast
set_option linter.unusedVariables false
def depotlaw02_CnfKeepsModels.f (a0_0_0 : Int) (l0_0_1 : List (List Int)) (a0_1_0 : Int) (l0_1_1 : List (List Int)) (l0_2 : List Int) (l0_3 : List Bool) : Option Bool := if (l0_0_1.length ≤ 1048576 ∧ ∀ x ∈ l0_0_1, x.length ≤ 1099511627776) ∧ l0_2.length ≤ 1099511627776 ∧ l0_3.length ≤ 1099511627776 then some true else none
theorem depotlaw02_CnfKeepsModels.calls (a0_0_0 : Int) (A0_0_1 : Option Addr) (c0_0_1 : Nat) (l0_0_1 : List (List Int)) (a0_1_0 : Int) (A0_1_1 : Option Addr) (c0_1_1 : Nat) (l0_1_1 : List (List Int)) (A0_2 : Option Addr) (c0_2 : Nat) (l0_2 : List Int) (A0_3 : Option Addr) (c0_3 : Nat) (l0_3 : List Bool) (r : Bool) (w : World) (hr0_0_1 : Kd.C (Kd.slice 3 (Kd.int .i64)) w A0_0_1 l0_0_1.length l0_0_1) (hc0_0_1 : l0_0_1.length ≤ c0_0_1) (hr0_1_1 : Kd.C (Kd.slice 3 (Kd.int .i64)) w A0_1_1 l0_1_1.length l0_1_1) (hc0_1_1 : l0_1_1.length ≤ c0_1_1) (hr0_2 : Kd.C (Kd.int .i64) w A0_2 l0_2.length l0_2) (hc0_2 : l0_2.length ≤ c0_2) (hr0_3 : Kd.C Kd.bool w A0_3 l0_3.length l0_3) (hc0_3 : l0_3.length ≤ c0_3) (h : depotlaw02_CnfKeepsModels.f a0_0_0 l0_0_1 a0_1_0 l0_1_1 l0_2 l0_3 = some r) :
    Calls Try.prog 12 #[.agg #[.int .i64 a0_0_0, .slice A0_0_1 l0_0_1.length c0_0_1, .int .i64 a0_1_0, .slice A0_1_1 l0_1_1.length c0_1_1, .slice A0_2 l0_2.length c0_2, .slice A0_3 l0_3.length c0_3]] w fun e w' => e = .returned (.bool r) ∧ Below w.heap.size w w' := by
  unfold depotlaw02_CnfKeepsModels.f at h
  split at h
  · rename_i hh
    obtain rfl := Option.some.inj h
    exact Go.Proofs.YtggnnnddnppcpaaHand.km_calls a0_0_0 a0_1_0 A0_0_1 A0_1_1 A0_2 A0_3 c0_0_1 c0_1_1 c0_2 c0_3 l0_0_1 l0_1_1 l0_2 l0_3 w hr0_0_1 hc0_0_1 hr0_2 hc0_2 hr0_3 hc0_3 hh.1 hh.2.1 hh.2.2
  · cases h
#print axioms depotlaw02_CnfKeepsModels.calls
end Go.Proofs.Ytggnnnddnppcpaa.PCnfKeepsModels
/-! text YtggnnnddnppcpaaStatCnfKeepsModels -/
namespace Go.Proofs.Ytggnnnddnppcpaa.PCnfKeepsModels
open Go.RowKit Go.Proofs.YtggnnnddnppcpaaW.PrintWords Go.Proofs.YtggnnnddnppcpaaW.PrintLast Go.Proofs.YtggnnnddnppcpaaW.PrintMore Go.Proofs.YtggnnnddnppcpaaOpens
set_option linter.unusedVariables false
set_option linter.unusedSimpArgs false
def Stmt : Prop := ∀ (a0_0_0 : Int) (l0_0_1 : List (List (Int))) (a0_1_0 : Int) (l0_1_1 : List (List (Int))) (l0_2 : List (Int)) (l0_3 : List (Bool)), ((((Lit.int .i64 a0_0_0).wf = true) ∧ (l0_0_1.length * 24 ≤ 140737488351232 ∧ ∀ y1 ∈ l0_0_1, y1.length * 8 ≤ 140737488351232 ∧ ∀ y2 ∈ y1, (Lit.int .i64 y2).wf = true)) ∧ (((Lit.int .i64 a0_1_0).wf = true) ∧ (l0_1_1.length * 24 ≤ 140737488351232 ∧ ∀ y3 ∈ l0_1_1, y3.length * 8 ≤ 140737488351232 ∧ ∀ y4 ∈ y3, (Lit.int .i64 y4).wf = true)) ∧ (l0_2.length * 8 ≤ 140737488351232 ∧ ∀ y5 ∈ l0_2, (Lit.int .i64 y5).wf = true) ∧ (l0_3.length * 1 ≤ 140737488351232 ∧ ∀ y6 ∈ l0_3, True)) → ((((1 + (sumOf (fun y7 => (sumOf (fun y8 => 1) y7 + 1)) l0_0_1 + 1)) + 1) + (((1 + (sumOf (fun y9 => (sumOf (fun y10 => 1) y9 + 1)) l0_1_1 + 1)) + 1) + ((sumOf (fun y11 => 1) l0_2 + 1) + (sumOf (fun y12 => 1) l0_3 + 1)))) + 1) ≤ 1048576 → depotlaw02_CnfKeepsModels.f a0_0_0 l0_0_1 a0_1_0 l0_1_1 l0_2 l0_3 = some true
theorem walk (P : Stmt) (a0_0_0 : Int) (A0_0_1 : Option Addr) (c0_0_1 : Nat) (l0_0_1 : List (List (Int))) (a0_1_0 : Int) (A0_1_1 : Option Addr) (c0_1_1 : Nat) (l0_1_1 : List (List (Int))) (A0_2 : Option Addr) (c0_2 : Nat) (l0_2 : List (Int)) (A0_3 : Option Addr) (c0_3 : Nat) (l0_3 : List (Bool)) (w : World) (hr0_0_1 : Kd.C (Kd.slice 3 (Kd.int .i64)) w A0_0_1 l0_0_1.length l0_0_1) (hc0_0_1 : l0_0_1.length ≤ c0_0_1) (hr0_1_1 : Kd.C (Kd.slice 3 (Kd.int .i64)) w A0_1_1 l0_1_1.length l0_1_1) (hc0_1_1 : l0_1_1.length ≤ c0_1_1) (hr0_2 : Kd.C (Kd.int .i64) w A0_2 l0_2.length l0_2) (hc0_2 : l0_2.length ≤ c0_2) (hr0_3 : Kd.C Kd.bool w A0_3 l0_3.length l0_3) (hc0_3 : l0_3.length ≤ c0_3) (ok0 : (((Lit.int .i64 a0_0_0).wf = true) ∧ (l0_0_1.length * 24 ≤ 140737488351232 ∧ ∀ y1 ∈ l0_0_1, y1.length * 8 ≤ 140737488351232 ∧ ∀ y2 ∈ y1, (Lit.int .i64 y2).wf = true)) ∧ (((Lit.int .i64 a0_1_0).wf = true) ∧ (l0_1_1.length * 24 ≤ 140737488351232 ∧ ∀ y3 ∈ l0_1_1, y3.length * 8 ≤ 140737488351232 ∧ ∀ y4 ∈ y3, (Lit.int .i64 y4).wf = true)) ∧ (l0_2.length * 8 ≤ 140737488351232 ∧ ∀ y5 ∈ l0_2, (Lit.int .i64 y5).wf = true) ∧ (l0_3.length * 1 ≤ 140737488351232 ∧ ∀ y6 ∈ l0_3, True)) (hm : ((((1 + (sumOf (fun y7 => (sumOf (fun y8 => 1) y7 + 1)) l0_0_1 + 1)) + 1) + (((1 + (sumOf (fun y9 => (sumOf (fun y10 => 1) y9 + 1)) l0_1_1 + 1)) + 1) + ((sumOf (fun y11 => 1) l0_2 + 1) + (sumOf (fun y12 => 1) l0_3 + 1)))) + 1) ≤ 1048576) :
    Calls Try.prog 12 #[.agg #[.int .i64 a0_0_0, .slice A0_0_1 l0_0_1.length c0_0_1, .int .i64 a0_1_0, .slice A0_1_1 l0_1_1.length c0_1_1, .slice A0_2 l0_2.length c0_2, .slice A0_3 l0_3.length c0_3]] w fun e w' => e = .returned (.bool true) ∧ Below w.heap.size w w' := by
  have h := P a0_0_0 l0_0_1 a0_1_0 l0_1_1 l0_2 l0_3 ok0 hm
  refine (depotlaw02_CnfKeepsModels.calls a0_0_0 A0_0_1 c0_0_1 l0_0_1 a0_1_0 A0_1_1 c0_1_1 l0_1_1 A0_2 c0_2 l0_2 A0_3 c0_3 l0_3 true w hr0_0_1 hc0_0_1 hr0_1_1 hc0_1_1 hr0_2 hc0_2 hr0_3 hc0_3 h).mono ?_
  rintro e w' ⟨rfl, hd⟩
  exact ⟨rfl, hd⟩
end Go.Proofs.Ytggnnnddnppcpaa.PCnfKeepsModels
/-! text YtggnnnddnppcpaaPureCnfKeepsModels -/
namespace Go.Proofs.Ytggnnnddnppcpaa.Pure
open Go.RowKit Go.Proofs.Ytggnnnddnppcpaa.PCnfKeepsModels Go.Proofs.YtggnnnddnppcpaaW.PrintWords Go.Proofs.YtggnnnddnppcpaaW.PrintLast Go.Proofs.YtggnnnddnppcpaaOpens Go.Proofs.YtggnnnddnppcpaaMath
set_option linter.unusedVariables false

theorem sumOf_one {α : Type} (l : List α) : sumOf (fun _ => 1) l = l.length := by
  induction l with
  | nil => rfl
  | cons x l ih => simp only [sumOf, ih, List.length_cons]; omega
theorem rows_bulk0 (l : List (List Int)) (n : Nat) (h : sumOf (fun y => y.length + 1) l ≤ n) : l.length ≤ n ∧ ∀ c ∈ l, c.length ≤ n := by
  induction l generalizing n with
  | nil => exact ⟨Nat.zero_le _, fun c hc => by simp at hc⟩
  | cons x l ih =>
    simp only [sumOf] at h
    obtain ⟨h1, h2⟩ := ih (n - x.length - 1) (by omega)
    refine ⟨by simp only [List.length_cons]; omega, fun c hc => ?_⟩
    rcases List.mem_cons.1 hc with rfl | hc
    · omega
    · have := h2 c hc; omega
theorem rows_of_bulk (l : List (List Int)) (n : Nat) (h : sumOf (fun y => sumOf (fun _ => 1) y + 1) l ≤ n) : l.length ≤ n ∧ ∀ c ∈ l, c.length ≤ n :=
  rows_bulk0 l n (by
    have e : (fun y : List Int => y.length + 1) = fun y => sumOf (fun _ => 1) y + 1 := funext fun y => by rw [sumOf_one]
    rw [e]
    exact h)

theorem CnfKeepsModels : PCnfKeepsModels.Stmt := by
  intro v1 l1 v2 l2 part m _ hm
  rw [sumOf_one part, sumOf_one m] at hm
  obtain ⟨n1, s1⟩ := rows_of_bulk l1 1048576 (by omega)
  unfold depotlaw02_CnfKeepsModels.f
  rw [if_pos ⟨⟨n1, fun x hx => Nat.le_trans (s1 x hx) (by decide)⟩, by omega, by omega⟩]

end Go.Proofs.Ytggnnnddnppcpaa.Pure
/-! text YtggnnnddnppcpaaRowCnfKeepsModels -/
namespace Go.Proofs.Ytggnnnddnppcpaa.cnfKeepsModels
open Go.ChangeShapes Go.WideShapes Go.ChangeAt Go.RowKit Go.Joins
open Go.Proofs.YtggnnnddnppcpaaOpens Go.Proofs.YtggnnnddnppcpaaW.PrintWords Go.Proofs.Ytggnnnddnppcpaa.PCnfKeepsModels
set_option linter.unusedVariables false
set_option linter.unusedSimpArgs false
theorem own : ownKnob Try.prog.godebug = none := by kernel_rfl
theorem laidOut : laidOutB Try.prog = true := by kernel_rfl
set_option maxRecDepth 100000 in
theorem contract (H : Type) (enc : TypeId × Value → H) (W : World) (base : Nat) (args : Array Value) (ds gs : List (DataW H)) (before : List MemPlace)
    (hval0 : ∀ (j : Nat) t v, Try.f12.params[j]? = some t → args[j]? = some v → Value.okWide Try.prog W .any base t v)
    (hW : DataW.Whole enc Try.prog Try.f12.params.toList Rows.cnfKeepsModelsSpec.vars false W args.toList ds gs before)
    (hsz0 : (DataW.weightsEach Try.prog (Try.f12.params.toList ++ Rows.cnfKeepsModelsSpec.plain.varTypes Try.prog) (ds ++ gs)).all (· ≤ reachBytes) = true) (hk : Rows.uptoSmall H (ds ++ gs) = true) :
    Calls Try.prog 12 args W fun e W' => ∃ v, e = .returned v ∧ Rows.cnfKeepsModelsSpec.post enc Try.prog Try.f12 false true false false W args v W' := by
  have hsz := hsz0
  have hval : ∀ (j : Nat) t v, Try.f12.params[j]? = some t → args[j]? = some v → Value.okWide Try.prog W .any base t v := hval0
  have hW' := hW
  obtain ⟨p, q, hA0, hV, rfl, hfz, hnd⟩ := hW
  have hA : DataW.TrodAll enc Try.prog W 0 (fun _ => true) true Try.f12.params.toList args.toList ds p := hA0
  rw [Try.params12] at hA hval hsz
  obtain ⟨v0, vs0, d0, ds0, p0, q0, hargs, rfl, rfl, h0, r0⟩ := trodAll_cons hA
  obtain ⟨rfl, rfl, rfl⟩ := trodAll_nil r0
  obtain rfl : args = #[v0] := by cases args; simp_all
  obtain ⟨rfl, rfl⟩ := trodVars_none hV
  obtain ⟨cs0, rfl, _⟩ := okWide_struct Try.underlying61 (hval 0 61 v0 rfl rfl)
  have k0 := h0
  have lt0 : ∀ x ∈ p0, x.block < W.heap.size := by obtain ⟨m, hm⟩ := k0; exact DataW.trod_lt m _ _ _ hm
  obtain ⟨a0, hK0, ok0, m0⟩ := struct_arg (opens_struct (opensF_cons (opens_struct (opensF_cons (opens_int Try.underlying3 (by kernel_rfl)) (by kernel_rfl) (opensF_last (opens_slice (B := 24) (opens_slice (B := 8) (opens_int Try.underlying3 (by kernel_rfl)) Try.underlying43 (by kernel_rfl) (by kernel_rfl)) Try.underlying22 (by kernel_rfl) (by kernel_rfl)) (by kernel_rfl))) Try.underlying24 (by kernel_rfl)) (by kernel_rfl) (opensF_cons (opens_struct (opensF_cons (opens_int Try.underlying3 (by kernel_rfl)) (by kernel_rfl) (opensF_last (opens_slice (B := 24) (opens_slice (B := 8) (opens_int Try.underlying3 (by kernel_rfl)) Try.underlying43 (by kernel_rfl) (by kernel_rfl)) Try.underlying22 (by kernel_rfl) (by kernel_rfl)) (by kernel_rfl))) Try.underlying24 (by kernel_rfl)) (by kernel_rfl) (opensF_cons (opens_slice (B := 8) (opens_int Try.underlying3 (by kernel_rfl)) Try.underlying43 (by kernel_rfl) (by kernel_rfl)) (by kernel_rfl) (opensF_last (opens_slice (B := 1) (opens_bool Try.underlying4 (by kernel_rfl)) Try.underlying41 (by kernel_rfl) (by kernel_rfl)) (by kernel_rfl))))) Try.underlying61 (by kernel_rfl)) h0 (reach_of hsz (j := 0) (t := 61) rfl rfl)
  obtain ⟨_, _, hcs0, ⟨_, _, rfl, rfl, ⟨A0_0_1, c0_0_1, rfl, hc0_0_1, hr0_0_1⟩⟩, ⟨_, _, rfl, ⟨_, _, rfl, rfl, ⟨A0_1_1, c0_1_1, rfl, hc0_1_1, hr0_1_1⟩⟩, ⟨_, _, rfl, ⟨A0_2, c0_2, rfl, hc0_2, hr0_2⟩, ⟨A0_3, c0_3, rfl, hc0_3, hr0_3⟩⟩⟩⟩ := hK0
  obtain rfl : cs0 = #[.int .i64 a0.1.1, .slice A0_0_1 a0.1.2.length c0_0_1, .int .i64 a0.2.1.1, .slice A0_1_1 a0.2.1.2.length c0_1_1, .slice A0_2 a0.2.2.1.length c0_2, .slice A0_3 a0.2.2.2.length c0_3] := by cases cs0; simpa using hcs0
  have hm := bulk_of hk
  simp only [List.append_nil, Rows.uptoBulkAll, Rows.uptoBulk] at hm
  clear hA0 hval0 hsz0 hsz
  refine (PCnfKeepsModels.walk Pure.CnfKeepsModels a0.1.1 A0_0_1 c0_0_1 a0.1.2 a0.2.1.1 A0_1_1 c0_1_1 a0.2.1.2 A0_2 c0_2 a0.2.2.1 A0_3 c0_3 a0.2.2.2 W hr0_0_1 hc0_0_1 hr0_1_1 hc0_1_1 hr0_2 hc0_2 hr0_3 hc0_3 ok0 (by first | omega | (simp only [sumOf] at *; omega))).mono fun e W' ⟨he, bel⟩ => ?_
  subst he
  exact ⟨_, rfl, _, _, _, [], _, [], hW', trodAll_mk1 (shut_bool Try.underlying4 _), (trodAll_cons_mk (Below.trod laidOut (by kernel_rfl) (of_decide_eq_true (by kernel_rfl)) k0 bel lt0) trodAll_mk0), rfl, bel.frame _, fun h => by cases h⟩
set_option maxRecDepth 100000 in
theorem lifted (os : Os) (started : os.Started) (H : Type) (enc : TypeId × Value → H) (F : Stop.Interp) :
    ReturnsInHanded {} Try.checked os 12 .any ((Rows.OpenSpec.upto Rows.cnfKeepsModelsSpec).pre6 enc Try.prog Try.f12 Rows.cnfKeepsModelsUptoRow.domain false) (((Rows.OpenSpec.upto Rows.cnfKeepsModelsSpec).at F).post enc Try.prog Try.f12 false true false false) := by
  refine returnsInHanded_of_cond_sized (C := Try.checked) (s := Rows.OpenSpec.upto Rows.cnfKeepsModelsSpec) (k := Rows.uptoSmall) rfl own started (by kernel_rfl) Try.func12
    (OpenSpec.witness (enc := enc) (C := Try.checked) (s := Rows.OpenSpec.upto Rows.cnfKeepsModelsSpec) (k := Rows.uptoSmall) rfl false ⟨#[], #[.agg #[.int .i64 0, .slice none 0 0, .int .i64 0, .slice none 0 0, .slice none 0 0, .slice none 0 0]], []⟩ 8 (by kernel_rfl) (by kernel_rfl) (by kernel_rfl)
      (x := ([.agg [.agg [.lit (.int .i64 0), .nil], .agg [.lit (.int .i64 0), .nil], .nil, .nil]], [], [])) (by kernel_rfl) rfl (by kernel_rfl)) ?_
  intro W base args ds gs before hval hW _ hk hsz _
  exact contract H enc W base args ds gs before hval hW hsz hk
set_option maxRecDepth 100000 in
theorem over : Rows.cnfKeepsModelsUptoRow.holds Try.pinned (Rows.OpenSpec.upto Rows.cnfKeepsModelsSpec) :=
  OpenClaim.holds_of_cond 12 Try.f12 rfl rfl rfl rfl rfl rfl rfl ⟨rfl, rfl, rfl, rfl, rfl⟩ rfl rfl rfl rfl rfl (by kernel_rfl) Try.func12 (by kernel_rfl)
    (of_decide_eq_true (by kernel_rfl)) (by unfold Func.isWrapper; first | (rw [if_pos (by decide +kernel)]; kernel_rfl) | (rw [if_neg (by decide +kernel)]; exact ⟨rfl, rfl⟩))
    (fun os started H enc _ F => lifted os started H enc F)
theorem proved : Rows.CnfKeepsModelsUptoSaid := over
#print axioms proved
end Go.Proofs.Ytggnnnddnppcpaa.cnfKeepsModels
namespace Go.Proofs.Ytggnnnddnppcpaa
theorem cnfKeepsModelsupto_holds : Rows.CnfKeepsModelsUptoSaid := cnfKeepsModels.proved
end Go.Proofs.Ytggnnnddnppcpaa
