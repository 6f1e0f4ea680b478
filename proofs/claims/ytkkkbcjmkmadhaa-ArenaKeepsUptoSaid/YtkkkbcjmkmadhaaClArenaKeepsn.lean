/- ArenaKeepsUptoSaid: for every input the law ArenaKeeps returns true, and what came in reads as before. Condition: what comes in is of bulk at most 1048576. Written by row.py. -/
import Derived.Test.YtkkkbcjmkmadhaaClArenaKeepsm
import Derived.Test.YtkkkbcjmkmadhaaClArenaKeepsj
import Derived.Test.YtkkkbcjmkmadhaaRows
import Derived.WalkKit
import Derived.ProofKit
import Derived.OpenShut
import Derived.ShutString
import Derived.ChangeOld
import Derived.Below
import Derived.SizedLaws
import Derived.Lib.SmallJoins
import Derived.JoinedCond
import Derived.Deep.CondSized
/-! text YtkkkbcjmkmadhaaKeepsLaw -/
namespace Go.Proofs.Ytkkkbcjmkmadhaa.PArenaKeeps
open Go.RowKit Go.Proofs.YtkkkbcjmkmadhaaW.PrintWords Go.Proofs.YtkkkbcjmkmadhaaW.PrintLast
set_option linter.unusedVariables false
def depotlaw04_ArenaKeeps.f (l0 : List S70) : Option Bool := if Go.Proofs.YtkkkbcjmkmadhaaHand.opsSize l0 ≤ 1048576 then some true else none
theorem depotlaw04_ArenaKeeps.calls (A0 : Option Addr) (c0 : Nat) (l0 : List S70) (r : Bool) (w : World) (hr0 : Kd.C k70 w A0 l0.length l0) (hc0 : l0.length ≤ c0) (h : depotlaw04_ArenaKeeps.f l0 = some r) :
    Calls Try.prog 11 #[.slice A0 l0.length c0] w fun e w' => e = .returned (.bool r) ∧ Below w.heap.size w w' := by
  unfold depotlaw04_ArenaKeeps.f at h
  split at h
  · rename_i hh
    obtain rfl := Option.some.inj h
    exact Go.Proofs.YtkkkbcjmkmadhaaHand.keeps_calls A0 c0 l0 w hr0 hc0 hh
  · cases h
#print axioms depotlaw04_ArenaKeeps.calls
end Go.Proofs.Ytkkkbcjmkmadhaa.PArenaKeeps
/-! text YtkkkbcjmkmadhaaStatArenaKeeps -/
namespace Go.Proofs.Ytkkkbcjmkmadhaa.PArenaKeeps
open Go.RowKit Go.Proofs.YtkkkbcjmkmadhaaW.PrintWords Go.Proofs.YtkkkbcjmkmadhaaW.PrintLast Go.Proofs.YtkkkbcjmkmadhaaW.PrintMore Go.Proofs.YtkkkbcjmkmadhaaOpens
set_option linter.unusedVariables false
set_option linter.unusedSimpArgs false
def Stmt : Prop := ∀ (l0 : List (S70)), (l0.length * 56 ≤ 140737488351232 ∧ ∀ y1 ∈ l0, ((Lit.int .i64 y1.f0).wf = true) ∧ ((Lit.int .i64 y1.f1).wf = true) ∧ ((Lit.int .i64 y1.f2).wf = true) ∧ (y1.f3.length * 8 ≤ 140737488351232 ∧ ∀ y2 ∈ y1.f3, (Lit.int .i64 y2).wf = true) ∧ (True)) → (sumOf (fun y3 => ((1 + (1 + (1 + ((sumOf (fun y4 => 1) y3.f3 + 1) + 1)))) + 1)) l0 + 1) ≤ 1048576 → depotlaw04_ArenaKeeps.f l0 = some true
theorem walk (P : Stmt) (A0 : Option Addr) (c0 : Nat) (l0 : List (S70)) (w : World) (hr0 : Kd.C k70 w A0 l0.length l0) (hc0 : l0.length ≤ c0) (ok0 : l0.length * 56 ≤ 140737488351232 ∧ ∀ y1 ∈ l0, ((Lit.int .i64 y1.f0).wf = true) ∧ ((Lit.int .i64 y1.f1).wf = true) ∧ ((Lit.int .i64 y1.f2).wf = true) ∧ (y1.f3.length * 8 ≤ 140737488351232 ∧ ∀ y2 ∈ y1.f3, (Lit.int .i64 y2).wf = true) ∧ (True)) (hm : (sumOf (fun y3 => ((1 + (1 + (1 + ((sumOf (fun y4 => 1) y3.f3 + 1) + 1)))) + 1)) l0 + 1) ≤ 1048576) :
    Calls Try.prog 11 #[.slice A0 l0.length c0] w fun e w' => e = .returned (.bool true) ∧ Below w.heap.size w w' := by
  have h := P l0 ok0 hm
  refine (depotlaw04_ArenaKeeps.calls A0 c0 l0 true w hr0 hc0 h).mono ?_
  rintro e w' ⟨rfl, hd⟩
  exact ⟨rfl, hd⟩
end Go.Proofs.Ytkkkbcjmkmadhaa.PArenaKeeps
/-! text YtkkkbcjmkmadhaaPureArenaKeeps -/
namespace Go.Proofs.Ytkkkbcjmkmadhaa.Pure
open Go.RowKit Go.Proofs.Ytkkkbcjmkmadhaa.PArenaKeeps Go.Proofs.YtkkkbcjmkmadhaaW.PrintWords Go.Proofs.YtkkkbcjmkmadhaaW.PrintLast Go.Proofs.YtkkkbcjmkmadhaaOpens
set_option linter.unusedVariables false

theorem sumOf_one {α : Type} (l : List α) : sumOf (fun _ => 1) l = l.length := by
  induction l with
  | nil => rfl
  | cons x l ih => simp only [sumOf, ih, List.length_cons]; omega
theorem ops_bulk (l : List S70) : Go.Proofs.YtkkkbcjmkmadhaaHand.opsSize l ≤ sumOf (fun y3 => ((1 + (1 + (1 + ((sumOf (fun y4 => 1) y3.f3 + 1) + 1)))) + 1)) l := by
  induction l with
  | nil => exact Nat.le_refl _
  | cons x l ih =>
    have h := sumOf_one x.f3
    simp only [sumOf, Go.Proofs.YtkkkbcjmkmadhaaHand.opsSize]
    omega
theorem ArenaKeeps : PArenaKeeps.Stmt := by
  intro l _ hm
  have := ops_bulk l
  unfold depotlaw04_ArenaKeeps.f
  rw [if_pos (by omega)]

end Go.Proofs.Ytkkkbcjmkmadhaa.Pure
/-! text YtkkkbcjmkmadhaaRowArenaKeeps -/
namespace Go.Proofs.Ytkkkbcjmkmadhaa.arenaKeeps
open Go.ChangeShapes Go.WideShapes Go.ChangeAt Go.RowKit Go.Joins
open Go.Proofs.YtkkkbcjmkmadhaaOpens Go.Proofs.YtkkkbcjmkmadhaaW.PrintWords Go.Proofs.Ytkkkbcjmkmadhaa.PArenaKeeps
set_option linter.unusedVariables false
set_option linter.unusedSimpArgs false
theorem own : ownKnob Try.prog.godebug = none := by kernel_rfl
theorem laidOut : laidOutB Try.prog = true := by kernel_rfl
noncomputable def m70 : S70 → Nat := fun x => ((1 + (1 + (1 + ((sumOf (fun y5 => 1) x.f3 + 1) + 1)))) + 1)
set_option maxRecDepth 100000 in
theorem op70 : Opens Try.prog 70 k70 (fun x => ((Lit.int .i64 x.f0).wf = true) ∧ ((Lit.int .i64 x.f1).wf = true) ∧ ((Lit.int .i64 x.f2).wf = true) ∧ (x.f3.length * 8 ≤ 140737488351232 ∧ ∀ y6 ∈ x.f3, (Lit.int .i64 y6).wf = true) ∧ (True)) m70 := by
  have o := (opens_struct (opensF_cons (opens_int Try.underlying3 (by kernel_rfl)) (by kernel_rfl) (opensF_cons (opens_int Try.underlying3 (by kernel_rfl)) (by kernel_rfl) (opensF_cons (opens_int Try.underlying3 (by kernel_rfl)) (by kernel_rfl) (opensF_cons (opens_slice (B := 8) (opens_int Try.underlying3 (by kernel_rfl)) Try.underlying27 (by kernel_rfl) (by kernel_rfl)) (by kernel_rfl) (opensF_last (opens_bool Try.underlying4 (by kernel_rfl)) (by kernel_rfl)))))) Try.underlying70 (by kernel_rfl))
  exact opens_iso o (fun x : S70 => (x.f0, (x.f1, (x.f2, (x.f3, x.f4))))) (fun p => ⟨p.1, p.2.1, p.2.2.1, p.2.2.2.1, p.2.2.2.2⟩) (fun _ => rfl)
set_option maxRecDepth 100000 in
theorem contract (H : Type) (enc : TypeId × Value → H) (W : World) (base : Nat) (args : Array Value) (ds gs : List (DataW H)) (before : List MemPlace)
    (hval0 : ∀ (j : Nat) t v, Try.f11.params[j]? = some t → args[j]? = some v → Value.okWide Try.prog W .any base t v)
    (hW : DataW.Whole enc Try.prog Try.f11.params.toList Rows.arenaKeepsSpec.vars false W args.toList ds gs before)
    (hsz0 : (DataW.weightsEach Try.prog (Try.f11.params.toList ++ Rows.arenaKeepsSpec.plain.varTypes Try.prog) (ds ++ gs)).all (· ≤ reachBytes) = true) (hk : Rows.uptoSmall H (ds ++ gs) = true) :
    Calls Try.prog 11 args W fun e W' => ∃ v, e = .returned v ∧ Rows.arenaKeepsSpec.post enc Try.prog Try.f11 false true false false W args v W' := by
  have hsz := hsz0
  have hval : ∀ (j : Nat) t v, Try.f11.params[j]? = some t → args[j]? = some v → Value.okWide Try.prog W .any base t v := hval0
  have hW' := hW
  obtain ⟨p, q, hA0, hV, rfl, hfz, hnd⟩ := hW
  have hA : DataW.TrodAll enc Try.prog W 0 (fun _ => true) true Try.f11.params.toList args.toList ds p := hA0
  rw [Try.params11] at hA hval hsz
  obtain ⟨v0, vs0, d0, ds0, p0, q0, hargs, rfl, rfl, h0, r0⟩ := trodAll_cons hA
  obtain ⟨rfl, rfl, rfl⟩ := trodAll_nil r0
  obtain rfl : args = #[v0] := by cases args; simp_all
  obtain ⟨rfl, rfl⟩ := trodVars_none hV
  obtain ⟨A0, len0, c0, rfl⟩ := okWide_slice Try.underlying60 (hval 0 60 v0 rfl rfl)
  have k0 := h0
  have lt0 : ∀ x ∈ p0, x.block < W.heap.size := by obtain ⟨m, hm⟩ := k0; exact DataW.trod_lt m _ _ _ hm
  obtain ⟨l0, rfl, hr0, hc0, ok0, m0⟩ := slice_arg (opens_slice (B := 56) op70 Try.underlying60 (by kernel_rfl) (by kernel_rfl)) h0 (reach_of hsz (j := 0) (t := 60) rfl rfl)
  have hm := bulk_of hk
  simp only [List.append_nil, Rows.uptoBulkAll, Rows.uptoBulk] at hm
  clear hA0 hval0 hsz0 hsz
  refine (PArenaKeeps.walk Pure.ArenaKeeps A0 c0 l0 W hr0 hc0 ok0 (by unfold m70 at *; omega)).mono fun e W' ⟨he, bel⟩ => ?_
  subst he
  exact ⟨_, rfl, _, _, _, [], _, [], hW', trodAll_mk1 (shut_bool Try.underlying4 _), (trodAll_cons_mk (Below.trod laidOut (by kernel_rfl) (of_decide_eq_true (by kernel_rfl)) k0 bel lt0) trodAll_mk0), rfl, bel.frame _, fun h => by cases h⟩
set_option maxRecDepth 100000 in
theorem lifted (os : Os) (started : os.Started) (H : Type) (enc : TypeId × Value → H) (F : Stop.Interp) :
    ReturnsInHanded {} Try.checked os 11 .any ((Rows.OpenSpec.upto Rows.arenaKeepsSpec).pre6 enc Try.prog Try.f11 Rows.arenaKeepsUptoRow.domain false) (((Rows.OpenSpec.upto Rows.arenaKeepsSpec).at F).post enc Try.prog Try.f11 false true false false) := by
  refine returnsInHanded_of_cond_sized (C := Try.checked) (s := Rows.OpenSpec.upto Rows.arenaKeepsSpec) (k := Rows.uptoSmall) rfl own started (by kernel_rfl) Try.func11
    (OpenSpec.witness (enc := enc) (C := Try.checked) (s := Rows.OpenSpec.upto Rows.arenaKeepsSpec) (k := Rows.uptoSmall) rfl false ⟨#[], #[.slice none 0 0], []⟩ 8 (by kernel_rfl) (by kernel_rfl) (by kernel_rfl)
      (x := ([.nil], [], [])) (by kernel_rfl) rfl (by kernel_rfl)) ?_
  intro W base args ds gs before hval hW _ hk hsz _
  exact contract H enc W base args ds gs before hval hW hsz hk
set_option maxRecDepth 100000 in
theorem over : Rows.arenaKeepsUptoRow.holds Try.pinned (Rows.OpenSpec.upto Rows.arenaKeepsSpec) :=
  OpenClaim.holds_of_cond 11 Try.f11 rfl rfl rfl rfl rfl rfl rfl ⟨rfl, rfl, rfl, rfl, rfl⟩ rfl rfl rfl rfl rfl (by kernel_rfl) Try.func11 (by kernel_rfl)
    (of_decide_eq_true (by kernel_rfl)) (by unfold Func.isWrapper; first | (rw [if_pos (by decide +kernel)]; kernel_rfl) | (rw [if_neg (by decide +kernel)]; exact ⟨rfl, rfl⟩))
    (fun os started H enc _ F => lifted os started H enc F)
theorem proved : Rows.ArenaKeepsUptoSaid := over
#print axioms proved
end Go.Proofs.Ytkkkbcjmkmadhaa.arenaKeeps
namespace Go.Proofs.Ytkkkbcjmkmadhaa
theorem arenaKeepsupto_holds : Rows.ArenaKeepsUptoSaid := arenaKeeps.proved
end Go.Proofs.Ytkkkbcjmkmadhaa
