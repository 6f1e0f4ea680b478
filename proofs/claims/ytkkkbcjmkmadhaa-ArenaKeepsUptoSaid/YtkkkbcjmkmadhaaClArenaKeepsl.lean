/- What ArenaKeeps' calls answer, over a list of things in memory among which an arena stands; its script's steps. -/
import Derived.Test.YtkkkbcjmkmadhaaClArenaKeepsk
/-! text YtkkkbcjmkmadhaaKeepsBase -/
namespace Go.Proofs.YtkkkbcjmkmadhaaOwn
open Go Go.RowKit Go.Proofs.YtkkkbcjmkmadhaaW.PrintWords
set_option linter.unusedVariables false
/-- an append whose run is known -/
theorem wp_append_run {P : Program} {o : Oper} {a : Act} {w w' : World} {K : Act → World → Prop} {Q : Exit → Act → World → Prop} (s x : Operand) (t : TypeId) (hop : o.op = Op.call { callee := Callee.builtin Builtin.append, args := #[s, x], argTypes := #[t, t] })
    {v vx v' : Value} (hs : a.eval s = v) (hx : a.eval x = vx) (hrun : (Builtin.append_ #[t, t] o.type #[v, vx]).run P w = .ok v' w') (h : K (a.put o.dst v') w') : Oper.wp P o a w K Q := by
  unfold Oper.wp
  simp [execOp, hop, resolve, invoke, builtin, hs, hx, hrun, Result.andThen, Oper.upon]
  exact h
theorem wpList_append_run {P : Program} {ops : Array Oper} {o : Oper} {rest : List Oper} {a : Act} {w w' : World} {Q : Exit → Act → World → Prop} (hg : o.guard = none) (s x : Operand) (t : TypeId) (hop : o.op = Op.call { callee := Callee.builtin Builtin.append, args := #[s, x], argTypes := #[t, t] })
    {v vx v' : Value} (hs : a.eval s = v) (hx : a.eval x = vx) (hrun : (Builtin.append_ #[t, t] o.type #[v, vx]).run P w = .ok v' w') (h : wpList P ops Q rest (a.put o.dst v') w') : wpList P ops Q (o :: rest) a w :=
  wpList_plain hg fun K hK' => wp_append_run s x t hop hs hx hrun (hK' _ _ h)
/-- the first three alone -/
theorem Sep.three {w W : World} {X : Nat → Prop} {a b c : Asr} {R : List Asr} (h : Sep w X ([a, b, c] ++ R) W) : Sep w X [a, b, c] W := by
  refine h.move id fun j A hj => .inr ⟨j, ?_, rfl⟩
  rw [List.getElem?_append_left (List.getElem?_eq_some_iff.1 hj).1]
  exact hj
end Go.Proofs.YtkkkbcjmkmadhaaOwn
namespace Go.Proofs.Ytkkkbcjmkmadhaa.PArenaKeeps
open Go.RowKit Go.Proofs.YtkkkbcjmkmadhaaW.PrintWords Go.Proofs.YtkkkbcjmkmadhaaW.PrintLast
structure S70 where
  f0 : Int
  f1 : Int
  f2 : Int
  f3 : (List Int)
  f4 : Bool
def k70 : Kd S70 := Kd.iso (Kd.pair (Kd.int .i64) (Kd.pair (Kd.int .i64) (Kd.pair (Kd.int .i64) (Kd.pair (Kd.slice 3 (Kd.int .i64)) Kd.bool)))) (fun x : S70 => (x.f0, x.f1, x.f2, x.f3, x.f4))
theorem op_at {w : World} {A : Option Addr} {n : Nat} {xs : List S70} (h : Kd.C k70 w A n xs) {i : Nat} {o : S70} (ho : xs[i]? = some o) : ∃ ad A3 c3, A = some ad ∧ w.cell? (ad.add (i * 5)) = some (.int .i64 o.f0) ∧ w.cell? (ad.add (i * 5 + 1)) = some (.int .i64 o.f1) ∧ w.cell? (ad.add (i * 5 + 2)) = some (.int .i64 o.f2) ∧ w.cell? (ad.add (i * 5 + 3)) = some (.slice A3 o.f3.length c3) ∧ w.cell? (ad.add (i * 5 + 4)) = some (.bool o.f4) ∧ o.f3.length ≤ c3 ∧ Kd.C (Kd.int .i64) w A3 o.f3.length o.f3 := by
  have hl := (List.getElem?_eq_some_iff.1 ho).1
  obtain ⟨ad, e, hc⟩ := h.2.2 (by have := h.1; omega)
  obtain ⟨cs, _, hK, hcell⟩ := hc i o ho
  obtain ⟨_, _, rfl, rfl, _, _, rfl, rfl, _, _, rfl, rfl, _, _, rfl, ⟨A3, c3, rfl, l3, g3⟩, rfl⟩ := hK
  exact ⟨ad, A3, c3, e, hcell 0 _ rfl, hcell 1 _ rfl, hcell 2 _ rfl, hcell 3 _ rfl, hcell 4 _ rfl, l3, g3⟩
theorem op_at' {w : World} {A : Option Addr} {n : Nat} {xs : List S70} (h : Kd.C k70 w A n xs) {i : Nat} {o : S70} (ho : xs[i]? = some o) : ∃ ad A3 c3, A = some ad ∧ w.cell? (ad.add (i * 5)) = some (.int .i64 o.f0) ∧ w.cell? ⟨(ad.add (i * 5)).block, (ad.add (i * 5)).off + 1, none⟩ = some (.int .i64 o.f1) ∧ w.cell? ⟨(ad.add (i * 5)).block, (ad.add (i * 5)).off + 2, none⟩ = some (.int .i64 o.f2) ∧ w.cell? ⟨(ad.add (i * 5)).block, (ad.add (i * 5)).off + 3, none⟩ = some (.slice A3 o.f3.length c3) ∧ w.cell? ⟨(ad.add (i * 5)).block, (ad.add (i * 5)).off + 4, none⟩ = some (.bool o.f4) ∧ o.f3.length ≤ c3 ∧ Kd.C (Kd.int .i64) w A3 o.f3.length o.f3 := by
  obtain ⟨ad, A3, c3, e, a0, a1, a2, a3, a4, a5, a6⟩ := op_at h ho
  exact ⟨ad, A3, c3, e, a0, by rw [← add_field _ _ 1 (by omega)]; exact a1, by rw [← add_field _ _ 2 (by omega)]; exact a2, by rw [← add_field _ _ 3 (by omega)]; exact a3, by rw [← add_field _ _ 4 (by omega)]; exact a4, a5, a6⟩
end Go.Proofs.Ytkkkbcjmkmadhaa.PArenaKeeps
namespace Go.Proofs.YtkkkbcjmkmadhaaHand
open Go.RowKit Go.Proofs.YtkkkbcjmkmadhaaW.PrintWords Go.Proofs.YtkkkbcjmkmadhaaW.PrintLast Go.Proofs.YtkkkbcjmkmadhaaMath Go.Proofs.YtkkkbcjmkmadhaaMaps Go.Maps Go.Proofs.YtkkkbcjmkmadhaaOwn Go.Proofs.Ytkkkbcjmkmadhaa.PArenaKeeps
set_option linter.unusedVariables false
set_option linter.unusedSimpArgs false
section
variable {w W : World} {l : List Asr} {b n : Nat} {L : List Cl}
theorem words_at (h : Sep w nX l W) (ia : Nat) (hia : l[ia]? = some (arA b L n)) :
    Calls Try.prog 42 #[.pointer (some ⟨b, 0, none⟩)] W fun e W' => e = .returned (.int .i64 (sizeL L : Nat)) ∧ W' = W := by
  obtain ⟨Aw, cw, B, Ao, co, h1⟩ := ar_open h ia hia
  exact words_sep h1
theorem learnt_at (h : Sep w nX l W) (ia : Nat) (hia : l[ia]? = some (arA b L n)) (r : Int) (hr : -9223372036854775808 ≤ r ∧ r ≤ 9223372036854775807) :
    Calls Try.prog 44 #[.pointer (some ⟨b, 0, none⟩), .int .i64 r] W fun e W' => e = .returned (.bool ((marksOf L r).getD false)) ∧ W' = W := by
  obtain ⟨Aw, cw, B, Ao, co, h1⟩ := ar_open h ia hia
  exact learnt_sep h1 r hr
theorem get_at_none (h : Sep w nX l W) (ia : Nat) (hia : l[ia]? = some (arA b L n)) (r : Int) (hr : -9223372036854775808 ≤ r ∧ r ≤ 9223372036854775807) (hm : marksOf L r = none) :
    Calls Try.prog 26 #[.pointer (some ⟨b, 0, none⟩), .int .i64 r] W fun e W' => e = .returned (.tuple #[.slice none 0 0, .bool false]) ∧ Below W.heap.size W W' := by
  obtain ⟨Aw, cw, B, Ao, co, h1⟩ := ar_open h ia hia
  exact get_none h1 r hr hm
theorem set_back {ia : Nat} {A : Asr} (X : Asr) (hia : l[ia]? = some A) : (l.set ia .emp)[ia]? = some .emp ∧ (l.set ia .emp).set ia X = l.set ia X := ⟨List.getElem?_set_self (List.getElem?_eq_some_iff.1 hia).1, List.set_set _⟩
theorem drop_at_none (h : Sep w nX l W) (ia : Nat) (hia : l[ia]? = some (arA b L n)) (r : Int) (hr : -9223372036854775808 ≤ r ∧ r ≤ 9223372036854775807) (hm : marksOf L r = none) :
    Calls Try.prog 21 #[.pointer (some ⟨b, 0, none⟩), .int .i64 r] W fun e W' => e = .returned (.int .i64 2) ∧ Sep w nX l W' := by
  obtain ⟨Aw, cw, B, Ao, co, h1⟩ := ar_open h ia hia
  refine (drop_none_sep h1 r hr hm).mono ?_
  rintro e W' ⟨he, h2⟩
  have h3 := ar_shut h2 ia (set_back (arA b L n) hia).1
  rw [(set_back (arA b L n) hia).2, set_same hia] at h3
  exact ⟨he, h3⟩
theorem drop_at_some (h : Sep w nX l W) (ia : Nat) (hia : l[ia]? = some (arA b L n)) (r : Int) (hr : -9223372036854775808 ≤ r ∧ r ≤ 9223372036854775807) (q : Bool) (hm : marksOf L r = some q) :
    Calls Try.prog 21 #[.pointer (some ⟨b, 0, none⟩), .int .i64 r] W fun e W' => e = .returned (.int .i64 0) ∧ Sep w nX (l.set ia (arA b (kill L r) n)) W' := by
  obtain ⟨Aw, cw, B, Ao, co, h1⟩ := ar_open h ia hia
  refine (drop_some h1 r hr q hm).mono ?_
  rintro e W' ⟨he, h2⟩
  have e1 : wordsOf (kill L r) = wordsOf L := kill_words L r
  have h3 := ar_shut h2 ia (set_back (arA b (kill L r) n) hia).1
  rw [(set_back (arA b (kill L r) n) hia).2] at h3
  exact ⟨he, h3⟩
theorem put_at (h : Sep w nX l W) (ia j : Nat) (hij : ia ≠ j) (hia : l[ia]? = some (arA b L n)) (A : Option Addr) (c : Nat) (xs : List Int) (ln : Bool) (hj : l[j]? = some (.row kI 3 (.slice A xs.length c) xs)) (hs : sound xs = true) (hn : sizeL L + xs.length ≤ 8796093022208) (hL : L.length ≤ 8796093022208) (hnn : n < maxLen) :
    Calls Try.prog 20 #[.pointer (some ⟨b, 0, none⟩), .slice A xs.length c, .bool ln] W fun e W' => e = .returned (.tuple #[.int .i64 (sizeL L : Nat), .int .i64 0]) ∧ Sep w nX (l.set ia (arA b (L ++ [⟨xs, ln, true⟩]) (n + 1))) W' := by
  obtain ⟨Aw, cw, B, Ao, co, h1⟩ := ar_open h ia hia
  refine (put_sep h1 A c xs ln (fun As W1 hl h2 => ?_) hs hn hL hnn).mono ?_
  · have h3 : (As ++ l.set ia .emp)[As.length + j]? = some (.row kI 3 (.slice A xs.length c) xs) := by
      rw [List.getElem?_append_right (by omega), Nat.add_sub_cancel_left, List.getElem?_set_ne hij]
      exact hj
    exact (h2.rowReads _ h3).2.2
  · rintro e W' ⟨he, vw, vo, h2⟩
    have h3 := ar_shut h2 ia (List.getElem?_set_self (List.getElem?_eq_some_iff.1 hia).1)
    rw [List.set_set] at h3
    exact ⟨he, h3⟩
theorem put_at_bad (h : Sep w nX l W) (j : Nat) (p : Value) (A : Option Addr) (c : Nat) (xs : List Int) (ln : Bool) (hj : l[j]? = some (.row kI 3 (.slice A xs.length c) xs)) (hn : xs.length ≤ 17592186044416) (hs : sound xs = false) :
    Calls Try.prog 20 #[p, .slice A xs.length c, .bool ln] W fun e W' => e = .returned (.tuple #[.int .i64 0, .int .i64 1]) ∧ Sep w nX l W' :=
  put_unsound h p A c xs ln (h.rowReads j hj).2.2 hn hs
theorem copied_at (h : Sep w nX l W) (A0 : Option Addr) (c0 : Nat) (l0 : List Int) (hr : Kd.C kI W A0 l0.length l0) (hc : l0.length ≤ c0) (hn : l0.length ≤ 8796093022208) (j : Nat) (hj : l[j]? = some .emp) :
    Calls Try.prog 24 #[.slice A0 l0.length c0] W fun e W' => ∃ A c, e = .returned (.slice A l0.length c) ∧ Below W.heap.size W W' ∧ Sep w nX (l.set j (.row kI 3 (.slice A l0.length c) l0)) W' := by
  have hf : depotlaw04_copied.f l0 = some l0 := by
    unfold depotlaw04_copied.f
    rw [if_pos (by simp; omega)]
    rfl
  refine (depotlaw04_copied.calls A0 c0 l0 l0 W hr hc hf).mono ?_
  rintro e W' ⟨v, rfl, hR, hB⟩
  obtain ⟨A, c, e1⟩ := Kd.R_slice hR
  subst e1
  exact ⟨A, c, rfl, hB, h.fill j hj hB nX_lt (row_of hR)⟩
theorem sound4_calls (A0 : Option Addr) (c0 : Nat) (l0 : List Int) (W : World) (hr : Kd.C kI W A0 l0.length l0) (hc : l0.length ≤ c0) (hn : l0.length ≤ 8796093022208) :
    Calls Try.prog 43 #[.slice A0 l0.length c0] W fun e W' => e = .returned (.bool (sound l0)) ∧ Drawn0 W W' := by
  obtain ⟨k, hk⟩ := (depotlaw04_sound_ev l0 (by omega)).rounds
  exact depotlaw04_sound.calls k A0 c0 l0 _ W hr hc hk
end
end Go.Proofs.YtkkkbcjmkmadhaaHand
