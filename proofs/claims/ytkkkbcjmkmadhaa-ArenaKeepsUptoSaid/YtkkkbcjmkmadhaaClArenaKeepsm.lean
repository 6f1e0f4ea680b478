/- The law ArenaKeeps answers true, of a script of some size. -/
import Derived.Test.YtkkkbcjmkmadhaaClArenaKeepsl
/-! text YtkkkbcjmkmadhaaKeeps -/
namespace Go.Proofs.YtkkkbcjmkmadhaaHand
open Go.RowKit Go.Proofs.YtkkkbcjmkmadhaaW.PrintWords Go.Proofs.YtkkkbcjmkmadhaaW.PrintLast Go.Proofs.YtkkkbcjmkmadhaaMath Go.Proofs.YtkkkbcjmkmadhaaMaps Go.Maps Go.Proofs.YtkkkbcjmkmadhaaOwn Go.Proofs.Ytkkkbcjmkmadhaa.PArenaKeeps
set_option linter.unusedVariables false
set_option linter.unusedSimpArgs false
abbrev ops := List S70
/-- how many words a script's lists take at most -/
def opsSize : ops → Nat
  | [] => 0
  | o :: r => (o.f3.length + 1) + opsSize r
theorem opsSize_take {s : ops} : ∀ {i : Nat} {o}, s[i]? = some o → opsSize (s.take (i + 1)) = opsSize (s.take i) + (o.f3.length + 1) := by
  induction s with
  | nil => intro i o h; simp at h
  | cons p s ih =>
    intro i o h
    cases i with
    | zero => obtain rfl : p = o := by simpa using h
              simp [opsSize]
    | succ i =>
      simp only [List.take_succ_cons, opsSize, ih (by simpa using h)]
      omega
theorem opsSize_le (s : ops) (i : Nat) : opsSize (s.take i) ≤ opsSize s := by
  induction s generalizing i with
  | nil => simp [opsSize]
  | cons p s ih =>
    cases i with
    | zero => simp [opsSize]
    | succ i => simp only [List.take_succ_cons, opsSize]; have := ih i; omega
theorem ops_length (s : ops) : s.length ≤ opsSize s := by
  induction s with
  | nil => exact Nat.le_refl _
  | cons p s ih => simp only [List.length_cons, opsSize]; omega
/-- what holds ahead of step i -/
structure KI (s : ops) (i : Nat) (L : List Cl) (n : Nat) (E : List Bk) : Prop where
  tied : Tied E L
  pos : 0 < E.length
  eb : E.length ≤ i + 1
  lb : L.length ≤ i + 1
  nb : n ≤ i + 1
  sz : sizeL L ≤ 3 + opsSize (s.take i)
theorem ki_same {s : ops} {i : Nat} {L : List Cl} {n : Nat} {E : List Bk} {o} (h : KI s i L n E) (ho : s[i]? = some o) : KI s (i + 1) L n E := by
  have h1 := opsSize_take ho
  have a1 := h.eb
  have a2 := h.lb
  have a3 := h.nb
  have a4 := h.sz
  exact ⟨h.tied, h.pos, by omega, by omega, by omega, by omega⟩
theorem ki_put {s : ops} {i : Nat} {L : List Cl} {n : Nat} {E : List Bk} {o} (h : KI s i L n E) (ho : s[i]? = some o) (A : Option Addr) (c : Nat) : KI s (i + 1) (L ++ [⟨o.f3, o.f4, true⟩]) (n + 1) (E ++ [⟨((sizeL L : Nat) : Int), o.f3, o.f4, true, A, c⟩]) := by
  have h1 := opsSize_take ho
  have a1 := h.eb
  have a2 := h.lb
  have a3 := h.nb
  have a4 := h.sz
  have e : sizeL (L ++ [⟨o.f3, o.f4, true⟩]) = sizeL L + (o.f3.length + 1) := by rw [sizeOf_append]; rfl
  exact ⟨h.tied.put _ _ _ _, by simp, by simp; omega, by simp; omega, by omega, by omega⟩
theorem ki_kill {s : ops} {i : Nat} {L : List Cl} {n : Nat} {E : List Bk} {o} (h : KI s i L n E) (ho : s[i]? = some o) {k : Nat} {q : Bk} (hq : E[k]? = some q) (hl : q.live = true) : KI s (i + 1) (kill L q.at_) n (E.set k { q with live := false }) := by
  have h1 := ki_same h ho
  exact ⟨h1.tied.kill hq hl, by rw [List.length_set]; exact h1.pos, by rw [List.length_set]; exact h1.eb, by rw [kill_length]; exact h1.lb, h1.nb, by rw [kill_size]; exact h1.sz⟩
theorem ki_sweep {s : ops} {i : Nat} {L : List Cl} {n : Nat} {E : List Bk} {o} (h : KI s i L n E) (ho : s[i]? = some o) : KI s (i + 1) (sweptOf L) (countOf L) (sweepE 0 E) := by
  have h1 := ki_same h ho
  have a1 := swept_size_le L
  have a2 := swept_length_le L
  have a3 : countOf L ≤ L.length := List.length_filter_le _ _
  have a4 := h1.sz
  have a5 := h1.lb
  exact ⟨h1.tied.sweep, by rw [sweepE_length]; exact h1.pos, by rw [sweepE_length]; exact h1.eb, by omega, by omega, by omega⟩
theorem put_sum {L M : List Cl} {m : Nat} (hM : sizeL M = sizeL L + (m + 1)) (hb : sizeL M ≤ 8796093022208) : wrap64 ((sizeL L : Int) + 1) = (sizeL L : Int) + 1 ∧ wrap64 ((sizeL L : Int) + 1 + (m : Int)) = (sizeL M : Int) :=
  ⟨by rw [w64 (by omega) (by omega)], by rw [w64 (by omega) (by omega)]; omega⟩
theorem bk_kill {w W : World} {l : List Asr} {g c : Nat} {E E' : List Bk} (h : Sep w nX l W) (ib : Nat) (hib : l[ib]? = some (bkA (.slice (some ⟨g, 0, none⟩) E.length c) E)) {k : Nat} {q : Bk} (hq : E[k]? = some q) (he : E' = E.set k { q with live := false }) : Sep w nX (l.set ib (bkA (.slice (some ⟨g, 0, none⟩) E'.length c) E')) (W.setCell ⟨g, k * 4 + 3, none⟩ (.bool false)) := by
  have hlt := (List.getElem?_eq_some_iff.1 hq).1
  have h1 := h.ownPut nX_lt ib hib (k * 4 + 3) (by rw [bookCells_length]; omega) (.bool false)
  rw [bookCells_set (q' := { q with live := false }) hq (by decide) rfl, ← he] at h1
  have e : E'.length = E.length := by rw [he, List.length_set]
  show Sep w nX (l.set ib (.own _ 4 (.slice (some ⟨g, 0, none⟩) E'.length c) E'.length (bookCells E'))) _
  rw [e]
  exact h1
theorem set_same_lits {E : List Bk} {k : Nat} {q : Bk} (hq : E[k]? = some q) : ∀ r ∈ E.set k { q with live := false }, ∃ p ∈ E, r.lits = p.lits ∧ r.A = p.A ∧ r.c = p.c := fun r hr => by
  rcases List.mem_or_eq_of_mem_set hr with h | h
  · exact ⟨r, h, rfl, rfl, rfl⟩
  · subst h
    exact ⟨q, List.mem_of_getElem? hq, rfl, rfl, rfl⟩
theorem rem_fact {r : Int} {m : Nat} (hr : 0 ≤ r) (hm : 0 < m) : ∃ k : Nat, Int.tmod r (m : Int) = (k : Int) ∧ k < m ∧ ¬ ((k : Int) < 0) := by
  rw [Int.tmod_eq_emod_of_nonneg hr]
  have h1 := Int.emod_nonneg r (show (m : Int) ≠ 0 by omega)
  have h2 := Int.emod_lt_of_pos r (show (0 : Int) < (m : Int) by omega)
  exact ⟨(r % (m : Int)).toNat, by omega, by omega, by omega⟩
theorem live_marks {L : List Cl} {E : List Bk} (h : Tied E L) (hsz : sizeL L ≤ 8796093022208) {k : Nat} {q : Bk} (hq : E[k]? = some q) (hl : q.live = true) : (-9223372036854775808 ≤ q.at_ ∧ q.at_ ≤ 9223372036854775807) ∧ marksOf L q.at_ = some q.learnt ∧ marksOf (kill L q.at_) q.at_ = none := by
  obtain ⟨p, hp, hpl, e0, e1, e2⟩ := h.get (List.mem_of_getElem? hq) hl
  exact ⟨at_range hp hsz e0, by rw [e0, marksOf_live hp, if_pos hpl, e2], by rw [kill_marks, del_same]⟩
theorem none_marks {L : List Cl} (hsz : sizeL L ≤ 8796093022208) : marksOf L (-1) = none ∧ marksOf L ((sizeL L : Nat) : Int) = none ∧ (-9223372036854775808 ≤ ((sizeL L : Nat) : Int) ∧ ((sizeL L : Nat) : Int) ≤ 9223372036854775807) :=
  ⟨marksOf_big L (.inr (by omega)), marksOf_big L (.inl (Int.le_refl _)), by omega⟩
structure KB (L : List Cl) (n : Nat) (E : List Bk) : Prop where
  e : E.length ≤ 8796093022208
  l : L.length ≤ 8796093022208
  n : n < maxLen
  z : sizeL L ≤ 8796093022208
  e1 : E.length ≤ 1048577
  z1 : sizeL L ≤ 1048579
theorem ki_bounds {s : ops} {i : Nat} {L : List Cl} {n : Nat} {E : List Bk} (h : KI s i L n E) (hb : opsSize s ≤ 1048576) (hi : i ≤ s.length) : KB L n E := by
  have h1 := ops_length s
  have h2 := opsSize_le s i
  have a1 := h.eb
  have a2 := h.lb
  have a3 := h.nb
  have a4 := h.sz
  exact ⟨by omega, by omega, by unfold maxLen; omega, by omega, by omega, by omega⟩
theorem op_bound {s : ops} {i : Nat} {o} (ho : s[i]? = some o) (hb : opsSize s ≤ 1048576) : o.f3.length ≤ 8796093022208 ∧ o.f3.length ≤ 1048576 := by
  have h1 := opsSize_take ho
  have h2 := opsSize_le s (i + 1)
  constructor <;> omega
theorem put_bound {L : List Cl} {n : Nat} {E : List Bk} {m : Nat} (h : KB L n E) (hm : m ≤ 1048576) : sizeL L + m ≤ 8796093022208 ∧ True := ⟨by have := h.z1; omega, trivial⟩
noncomputable abbrev kAs (b n g c : Nat) (L : List Cl) (E : List Bk) : List Asr := [arA b L n, bkA (.slice (some ⟨g, 0, none⟩) E.length c) E, ltA E]
theorem lit_row {w W : World} {l : List Asr} (h : Sep w nX l W) (j : Nat) (hj : l[j]? = some .emp) : Sep w nX (l.set j (.row kI 3 (.slice (some ⟨W.heap.size, 0, none⟩) ([7, -2] : List Int).length 2) [7, -2])) (W.alloc (.cells #[.int .i64 7, .int .i64 (-2)] 3 (0, 0))) :=
  h.fillRow nX_lt j hj (own_lit W W.heap.size 3 .i64 [7, -2] (Nat.le_refl _) (show 2 ≤ 9223372036854775807 by decide)) (below_alloc (Below.refl _ _) _)
theorem ki_start (s : ops) (A : Option Addr) (c : Nat) : KI s 0 [⟨[7, -2], false, true⟩] 1 [⟨0, [7, -2], false, true, A, c⟩] where
  tied := Tied.put tied_nil [7, -2] false A c
  pos := Nat.one_pos
  eb := Nat.le_refl _
  lb := Nat.le_refl _
  nb := Nat.le_refl _
  sz := by show 3 + 0 ≤ 3 + _; omega
theorem book_push {w W : World} {l : List Asr} (h : Sep w nX l W) (ib : Nat) {v : Value} {E : List Bk} (hib : l[ib]? = some (bkA v E)) (q : Bk) (hE : E.length ≤ 1048578) :
    ∃ g c w1, (Builtin.append_ #[74, 74] 74 #[v, .slice (some ⟨W.heap.size, 0, none⟩) 1 1]).run Try.prog (W.alloc (.cells q.cells.toArray 76 (0, 0))) = .ok (.slice (some ⟨g, 0, none⟩) (E ++ [q]).length c) w1 ∧ Sep w nX (l.set ib (bkA (.slice (some ⟨g, 0, none⟩) (E ++ [q]).length c) (E ++ [q]))) w1 := by
  have hlen : (E ++ [q]).length = E.length + 1 := by simp
  rw [hlen]
  obtain ⟨g, c, w1, hrun, hs⟩ := h.ownPush (P := Try.prog) (t := 74) (ty := 74) _ 40 nX_lt ib hib q.cells rfl (by
    intro u hu
    simp only [Bk.cells, List.mem_cons, List.not_mem_nil, or_false] at hu
    rcases hu with rfl | rfl | rfl | rfl <;> rfl) Try.underlying74 infoKept rfl (by decide) (by unfold maxLen; omega) (by omega)
  refine ⟨g, c, w1, hrun, ?_⟩
  have e : (Asr.own 76 4 (.slice (some ⟨g, 0, none⟩) (E.length + 1) c) (E.length + 1) (bookCells E ++ q.cells)) = bkA (.slice (some ⟨g, 0, none⟩) (E.length + 1) c) (E ++ [q]) := by
    show _ = Asr.own _ _ _ (E ++ [q]).length (bookCells (E ++ [q]))
    rw [bookCells_append, List.length_append]
    simp [bookCells]
  rw [← e]
  exact hs
set_option maxHeartbeats 16000000 in
set_option maxRecDepth 100000 in
theorem keeps_calls (A0 : Option Addr) (c0 : Nat) (s : ops) (w : World) (hr : Kd.C k70 w A0 s.length s) (hc : s.length ≤ c0) (hb : opsSize s ≤ 1048576) :
    Calls Try.prog 11 #[.slice A0 s.length c0] w fun e w' => e = .returned (.bool true) ∧ Below w.heap.size w w' := by
  have HR := Aside0.mk hr
  have HB := Aside0.mk hb
  have H0 : Aside0 (Sep w nX (List.replicate 7 .emp) w) := ⟨(Sep.start (Below.refl _ _) nX).padEnd 7⟩
  clear hr hc hb
  go_enter Try.func11, Try.ntmps11
  go_upto_region 5 with (go_at_call 19; (with_reducible refine (new_sep H0.out 0 rfl).mono ?_); rintro e W1 ⟨b, rfl, hs⟩; have H1 : Aside0 (Sep w nX [arA b [] 0, .emp, .emp, .emp, .emp, .emp, .emp] W1) := ⟨hs⟩; clear hs H0)
  go_upto_region 6 with fail
  have hp := (lit_row H1.out 3 rfl).fillNew nX_lt 4 rfl (.cells #[.int .i64 0, .slice (some ⟨W1.heap.size, 0, none⟩) 2 2, .bool false, .bool true] 76 (0, 0))
  rw [World.size_alloc] at hp
  generalize W1.heap.size + 1 = g4 at hp ⊢
  generalize W1.heap.size = g3 at hp ⊢
  generalize W1.alloc (.cells #[.int .i64 7, .int .i64 (-2)] 3) = W2 at hp ⊢
  generalize W2.alloc (.cells #[.int .i64 0, .slice (some ⟨g3, 0, none⟩) 2 2, .bool false, .bool true] 76) = W3 at hp ⊢
  have H3 : Aside0 (Sep w nX [arA b [] 0, .emp, .emp, .row kI 3 (.slice (some ⟨g3, 0, none⟩) ([7, -2] : List Int).length 2) [7, -2], .blk g4 (.cells #[.int .i64 0, .slice (some ⟨g3, 0, none⟩) 2 2, .bool false, .bool true] 76 (0, 0)), .emp, .emp] W3) := ⟨hp⟩
  clear hp H1
  have HP : Aside0 (Calls Try.prog 20 #[.pointer (some ⟨b, 0, none⟩), .slice (some ⟨W3.heap.size, 0, none⟩) 2 2, .bool false] (W3.alloc (.cells #[.int .i64 7, .int .i64 (-2)] 3)) fun e W' => e = .returned (.tuple #[.int .i64 0, .int .i64 0]) ∧ ∃ X, Sep w nX [arA b [⟨[7, -2], false, true⟩] 1, .emp, .emp, .row kI 3 (.slice (some ⟨g3, 0, none⟩) ([7, -2] : List Int).length 2) [7, -2], .blk g4 (.cells #[.int .i64 0, .slice (some ⟨g3, 0, none⟩) 2 2, .bool false, .bool true] 76 (0, 0)), X, .emp] W') :=
    ⟨(put_at (lit_row H3.out 5 rfl) 0 5 (by decide) rfl _ 2 [7, -2] false rfl (by decide) (show 2 ≤ 8796093022208 by decide) (Nat.zero_le _) (show 0 < 9223372036854775807 by decide)).mono fun e W' ⟨h1, h2⟩ => ⟨h1, _, h2⟩⟩
  go_upto_region 9 with (go_at_call 20; (with_reducible refine HP.out.mono ?_); rintro e W4 ⟨rfl, X5, hs⟩; have H4 := Aside0.mk hs; clear hs HP H3)
  have q0 : W4.cell? ⟨g4, 0, none⟩ = some (.int .i64 0) := H4.out.cell 4 0 rfl
  have q1 : W4.cell? ⟨g4, 1, none⟩ = some (.slice (some ⟨g3, 0, none⟩) 2 2) := H4.out.cell 4 1 rfl
  have q2 : W4.cell? ⟨g4, 2, none⟩ = some (.bool false) := H4.out.cell 4 2 rfl
  have q3 : W4.cell? ⟨g4, 3, none⟩ = some (.bool true) := H4.out.cell 4 3 rfl
  obtain ⟨gE, cE, W5, hrun, hs5⟩ := book_push (E := []) (H4.out.ownNil 1 rfl 76 4) 1 rfl ⟨0, [7, -2], false, true, some ⟨g3, 0, none⟩, 2⟩ (by decide)
  have hs6 := (lt_push (lt_nil hs5 2 rfl) 2 3 (by decide) rfl rfl 0 false true).three
  have H5 : Aside0 (Sep w nX (kAs b 1 gE cE [⟨[7, -2], false, true⟩] [⟨0, [7, -2], false, true, some ⟨g3, 0, none⟩, 2⟩]) W5) := ⟨hs6⟩
  have HK := Aside0.mk (ki_start s (some ⟨g3, 0, none⟩) 2)
  clear hs5 hs6 H4
  go_wp2_with ((with_reducible refine gate_builtin (b := .append) (xs := #[.tmp 34, .tmp 36]) rfl ?_); at_builtin; refine wpList_append_run rfl (.tmp 34) (.tmp 36) 74 rfl rfl rfl hrun ?_)
  clear hrun q0 q1 q2 q3
  go_loopw [4, 8] (fun v4 v8 wr => ∃ (i : Nat) (L : List Cl) (n : Nat) (E : List Bk) (g c : Nat), v8 = .int .i64 (i : Int) ∧ v4 = .slice (some ⟨g, 0, none⟩) E.length c ∧ Aside0 (i ≤ s.length) ∧ Aside0 (KI s i L n E) ∧ Aside0 (Sep w nX (kAs b n g c L E) wr)) (fun _ x _ => s.length - (intOf x).toNat)
  case atStart => exact ⟨0, _, _, _, gE, cE, rfl, rfl, ⟨Nat.zero_le _⟩, HK, H5⟩
  case round =>
    obtain ⟨i, L, n, E, g, c, rfl, rfl, HI, HK, HS⟩ := hrel
    clear H5
    by_cases hlt : i < s.length
    · have hsl : s.length ≤ 8796093022208 := by have := ops_length s; have := HB.out; omega
      obtain ⟨hw, p1, p2⟩ := step_fact hlt hsl
      obtain ⟨o, ho⟩ : ∃ o, s[i]? = some o := ⟨_, List.getElem?_eq_getElem hlt⟩
      obtain ⟨ad, A3, c3, e, f0, f1, f2, f3, f4, hc3, hC3⟩ := op_at' HR.out ho
      subst e
      replace f0 := pw_cell_below HS.out.hB f0
      replace f1 := pw_cell_below HS.out.hB f1
      replace f2 := pw_cell_below HS.out.hB f2
      replace f3 := pw_cell_below HS.out.hB f3
      replace f4 := pw_cell_below HS.out.hB f4
      have HO := Aside0.mk ho
      have HLT := Aside0.mk hlt
      have p3 : decide ((i : Int) < (s.length : Int)) = true := decide_eq_true p2
      have HMS : Aside0 (s.length - (intOf (.int .i64 ((i + 1 : Nat) : Int))).toNat < s.length - (intOf (.int .i64 (i : Int))).toNat) := ⟨by simp [intOf]; omega⟩
      have HC3 := Aside0.mk (And.intro hc3 hC3)
      have HBD := Aside0.mk (ki_bounds HK.out HB.out HI.out)
      have HO3 := Aside0.mk (op_bound HO.out HB.out)
      have HN1 : Aside0 (i + 1 ≤ s.length) := ⟨hlt⟩
      clear ho hlt hsl hc3 hC3
      go_upto_region 14 with fail
      have hp := (HS.out.padEnd 6).fillNew nX_lt 3 rfl (.cells #[.int .i64 o.f0, .int .i64 o.f1, .int .i64 o.f2, .slice A3 o.f3.length c3, .bool o.f4] 70 (0, 0))
      generalize wr.heap.size = bo at hp ⊢
      generalize wr.alloc (.cells #[.int .i64 o.f0, .int .i64 o.f1, .int .i64 o.f2, .slice A3 o.f3.length c3, .bool o.f4] 70) = w1 at hp ⊢
      have H1 : Aside0 (Sep w nX [arA b (L) (n), bkA (.slice (some ⟨g, 0, none⟩) E.length c) (E), ltA (E), (.blk bo (.cells #[.int .i64 o.f0, .int .i64 o.f1, .int .i64 o.f2, .slice A3 o.f3.length c3, .bool o.f4] 70 (0, 0))), .emp, .emp, .emp, .emp, .emp] w1) := ⟨hp⟩
      clear hp HS f0 f1 f2 f3 f4
      have q0 : w1.cell? ⟨bo, 0, none⟩ = some (.int .i64 o.f0) := H1.out.cell 3 0 rfl
      have HW1 := Aside0.mk (words_at H1.out 0 rfl)
      go_upto_region 16 with (go_at_call 42; go_loud ((with_reducible refine HW1.out.mono ?_); rintro e w2 ⟨rfl, rfl⟩))
      clear q0 HW1
      have HK1 := Aside0.mk HB.out
      by_cases k1 : o.f0 = 1
      · have _bA := trivial
        have d1 : decide (o.f0 = 1) = true := decide_eq_true k1
        go_upto_region 17 with fail
        have hmx : Try.prog.follows .mixedOrders = true := by kernel_rfl
        have K0 : Aside0 (Sep w nX [arA b (L) (n), bkA (.slice (some ⟨g, 0, none⟩) E.length c) (E), ltA (E), (.blk bo (.cells #[.int .i64 o.f0, .int .i64 o.f1, .int .i64 o.f2, .slice A3 o.f3.length c3, .bool o.f4] 70 (0, 0))), .emp, .emp, .emp, .emp, .emp] w2.drew) := ⟨H1.out.keep (below_drew (Below.refl _ _))⟩
        clear H1
        refine wp_region_H (S := fun W' => W'.cell? ⟨bo, 3, none⟩ = some (.slice A3 o.f3.length c3) ∧ W'.cell? ⟨bo, 4, none⟩ = some (.bool o.f4)) hmx ?_
        generalize w2.drew = X0 at K0 ⊢
        have hS0 : X0.cell? ⟨bo, 3, none⟩ = some (.slice A3 o.f3.length c3) ∧ X0.cell? ⟨bo, 4, none⟩ = some (.bool o.f4) := ⟨K0.out.cell 3 3 rfl, K0.out.cell 3 4 rfl⟩
        refine wpAnyH_takeA (i := 0) (v := .pointer (some ⟨b, 0, none⟩)) 55 rfl rfl (by kernel_rfl) (by kernel_rfl) (by kernel_rfl) (fun _ _ _ h => h) (.inl ⟨by rfl, fun W' hS => by obtain ⟨s0, s1⟩ := hS; go_simp⟩) hS0 ?_
        intro A' hA; simp at hA; subst hA
        refine wpAnyH_takeA (i := 1) (v := .pointer (some ⟨bo, 3, none⟩)) 56 rfl rfl (by kernel_rfl) (by kernel_rfl) (by kernel_rfl) (fun _ _ _ h => h) (.inl ⟨by rfl, fun W' hS => by obtain ⟨s0, s1⟩ := hS; go_simp⟩) hS0 ?_
        intro A' hA; simp at hA; subst hA
        refine wpAnyH_takeA (i := 2) (v := .slice A3 o.f3.length c3) 57 rfl rfl (by kernel_rfl) (by kernel_rfl) (by kernel_rfl) (fun _ _ _ h => h) (.inl ⟨by rfl, fun W' hS => by obtain ⟨s0, s1⟩ := hS; go_simp⟩) hS0 ?_
        intro A' hA; simp at hA; subst hA
        refine wpAnyH_takeA (i := 4) (v := .pointer (some ⟨bo, 4, none⟩)) 59 rfl rfl (by kernel_rfl) (by kernel_rfl) (by kernel_rfl) (fun _ _ _ h => h) (.inl ⟨by rfl, fun W' hS => by obtain ⟨s0, s1⟩ := hS; go_simp⟩) hS0 ?_
        intro A' hA; simp at hA; subst hA
        refine wpAnyH_takeA (i := 5) (v := .bool o.f4) 60 rfl rfl (by kernel_rfl) (by kernel_rfl) (by kernel_rfl) (fun _ _ _ h => h) (.inl ⟨by rfl, fun W' hS => by obtain ⟨s0, s1⟩ := hS; go_simp⟩) hS0 ?_
        intro A' hA; simp at hA; subst hA
        clear hS0
        refine wpAnyH_one (i := 3) (by kernel_rfl) rfl (by rfl) (fun K' hK => ?_)
        have HKK := Aside0.mk hK
        clear hK
        go_simp
        refine (copied_at K0.out A3 c3 o.f3 (Kd.C_below HC3.out.2 K0.out.hB) HC3.out.1 HO3.out.1 4 rfl).mono ?_
        rintro e X1 ⟨A4, c4, rfl, hb4, hs4⟩
        have K1 : Aside0 (Sep w nX [arA b (L) (n), bkA (.slice (some ⟨g, 0, none⟩) E.length c) (E), ltA (E), (.blk bo (.cells #[.int .i64 o.f0, .int .i64 o.f1, .int .i64 o.f2, .slice A3 o.f3.length c3, .bool o.f4] 70 (0, 0))), (.row kI 3 (.slice A4 o.f3.length c4) o.f3), .emp, .emp, .emp, .emp] X1) := ⟨hs4⟩
        clear hs4 hb4 K0
        refine HKK.out _ _ ⟨K1.out.cell 3 3 rfl, K1.out.cell 3 4 rfl⟩ ?_
        clear HKK
        refine wpAnyH_one (i := 6) (by kernel_rfl) rfl (by rfl) (fun K' hK => ?_)
        have HKK := Aside0.mk hK
        clear hK
        go_simp
        by_cases hsd : sound o.f3 = true
        · have _bA1 := trivial
          refine (put_at K1.out 0 4 (by decide) rfl A4 c4 o.f3 o.f4 rfl hsd (put_bound HBD.out HO3.out.2).1 HBD.out.l HBD.out.n).mono ?_
          rintro e X2 ⟨rfl, hs5⟩
          have K2 : Aside0 (Sep w nX [arA b (L ++ [⟨o.f3, o.f4, true⟩]) (n + 1), bkA (.slice (some ⟨g, 0, none⟩) E.length c) (E), ltA (E), (.blk bo (.cells #[.int .i64 o.f0, .int .i64 o.f1, .int .i64 o.f2, .slice A3 o.f3.length c3, .bool o.f4] 70 (0, 0))), (.row kI 3 (.slice A4 o.f3.length c4) o.f3), .emp, .emp, .emp, .emp] X2) := ⟨hs5⟩
          clear hs5 K1
          have hS0 : X2.cell? ⟨bo, 3, none⟩ = some (.slice A3 o.f3.length c3) ∧ X2.cell? ⟨bo, 4, none⟩ = some (.bool o.f4) := ⟨K2.out.cell 3 3 rfl, K2.out.cell 3 4 rfl⟩
          refine HKK.out _ _ hS0 ?_
          clear HKK
          refine wpAnyH_takeA (i := 7) (v := .tuple #[.int .i64 (sizeL L : Nat), .int .i64 0]) 54 rfl rfl (by kernel_rfl) (by kernel_rfl) (by kernel_rfl) (fun _ _ _ h => h) (.inl ⟨by rfl, fun W' hS => by obtain ⟨s0, s1⟩ := hS; go_simp⟩) hS0 ?_
          intro A' hA; simp at hA; subst hA
          refine wpAnyH_takeA (i := 8) (v := .int .i64 (sizeL L : Nat)) 62 rfl rfl (by kernel_rfl) (by kernel_rfl) (by kernel_rfl) (fun _ _ _ h => h) (.inl ⟨by rfl, fun W' hS => by obtain ⟨s0, s1⟩ := hS; go_simp⟩) hS0 ?_
          intro A' hA; simp at hA; subst hA
          refine wpAnyH_takeA (i := 9) (v := .int .i64 0) 63 rfl rfl (by kernel_rfl) (by kernel_rfl) (by kernel_rfl) (fun _ _ _ h => h) (.inl ⟨by rfl, fun W' hS => by obtain ⟨s0, s1⟩ := hS; go_simp⟩) hS0 ?_
          intro A' hA; simp at hA; subst hA
          refine wpAnyH_takeA (i := 10) (v := .int .i64 (sizeL L : Nat)) 11 rfl rfl (by kernel_rfl) (by kernel_rfl) (by kernel_rfl) (fun _ _ _ h => h) (.inl ⟨by rfl, fun W' hS => by obtain ⟨s0, s1⟩ := hS; go_simp⟩) hS0 ?_
          intro A' hA; simp at hA; subst hA
          refine wpAnyH_takeA (i := 11) (v := .int .i64 0) 12 rfl rfl (by kernel_rfl) (by kernel_rfl) (by kernel_rfl) (fun _ _ _ h => h) (.inl ⟨by rfl, fun W' hS => by obtain ⟨s0, s1⟩ := hS; go_simp⟩) hS0 ?_
          intro A' hA; simp at hA; subst hA
          refine wpAnyH_done (by kernel_rfl) ?_ _
          obtain ⟨hq3, hq4⟩ := hS0
          have HSD := Aside0.mk (sound4_calls A3 c3 o.f3 X2 (Kd.C_below HC3.out.2 K2.out.hB) HC3.out.1 HO3.out.1)
          go_upto_region 21 with (go_at_call 43; go_loud ((with_reducible refine HSD.out.mono ?_); rintro e X3 ⟨rfl, hd⟩; have K3 := Aside0.mk (K2.out.keep hd.below); clear hd))
          have HKI := Aside0.mk (ki_put HK.out HO.out (o := o))
          have HKN := Aside0.mk (ki_bounds (ki_put HK.out HO.out none 0) HB.out HN1.out)
          obtain ⟨M, hM⟩ : ∃ M : List Cl, M = L ++ [⟨o.f3, o.f4, true⟩] := ⟨_, rfl⟩
          rw [← hM] at K3 HKI HKN
          have HSZ : Aside0 (sizeL M = sizeL L + (o.f3.length + 1)) := ⟨by rw [hM, sizeOf_append]; rfl⟩
          obtain ⟨z1, z2⟩ := put_sum HSZ.out HKN.out.z
          have HWQ : Aside0 (∀ m, Calls Try.prog 42 #[.pointer (some ⟨b, 0, none⟩)] (X3.drewN m) fun e w' => e = .returned (.int .i64 (sizeL M : Nat)) ∧ w' = X3.drewN m) := ⟨fun m => words_at (K3.out.keep (pw_below_drewN (Below.refl _ _) m)) 0 rfl⟩
          have q3 := K3.out.cell 3 3 rfl
          replace q3 : X3.cell? ⟨bo, 3, none⟩ = some (.slice A3 o.f3.length c3) := q3
          clear hM hq3 hq4 K2 HSD
          go_quiet (first | (go_at_call 42; (with_reducible refine (HWQ.out _).mono ?_); rintro e w' ⟨rfl, rfl⟩; (try exact ⟨rfl, _, rfl⟩)))
          have K4 := Aside0.mk (K3.out.keep (pw_below_drewN (Below.refl _ _) nq))
          clear q3 HWQ K3 z1 z2
          generalize X3.drewN nq = X4 at *
          go_upto_region 23 with fail
          have K5 : Aside0 (Sep w nX [arA b (M) (n + 1), bkA (.slice (some ⟨g, 0, none⟩) E.length c) (E), ltA (E), (.blk bo (.cells #[.int .i64 o.f0, .int .i64 o.f1, .int .i64 o.f2, .slice A3 o.f3.length c3, .bool o.f4] 70 (0, 0))), (.row kI 3 (.slice A4 o.f3.length c4) o.f3), .emp, .emp, .emp, .emp] X4.drew) := ⟨K4.out.keep (below_drew (Below.refl _ _))⟩
          clear K4
          refine wp_region_H (S := fun W' => W'.cell? ⟨bo, 3, none⟩ = some (.slice A3 o.f3.length c3) ∧ W'.cell? ⟨bo, 4, none⟩ = some (.bool o.f4)) hmx ?_
          generalize X4.drew = X5 at K5 ⊢
          have hS0 : X5.cell? ⟨bo, 3, none⟩ = some (.slice A3 o.f3.length c3) ∧ X5.cell? ⟨bo, 4, none⟩ = some (.bool o.f4) := ⟨K5.out.cell 3 3 rfl, K5.out.cell 3 4 rfl⟩
          refine wpAnyH_takeA (i := 0) (v := .slice (some ⟨g, 0, none⟩) E.length c) 94 rfl rfl (by kernel_rfl) (by kernel_rfl) (by kernel_rfl) (fun _ _ _ h => h) (.inl ⟨by rfl, fun W' hS => by obtain ⟨s0, s1⟩ := hS; go_simp⟩) hS0 ?_
          intro A' hA; simp at hA; subst hA
          refine wpAnyH_takeA (i := 1) (v := .int .i64 (sizeL L : Nat)) 95 rfl rfl (by kernel_rfl) (by kernel_rfl) (by kernel_rfl) (fun _ _ _ h => h) (.inl ⟨by rfl, fun W' hS => by obtain ⟨s0, s1⟩ := hS; go_simp⟩) hS0 ?_
          intro A' hA; simp at hA; subst hA
          refine wpAnyH_takeA (i := 2) (v := .pointer (some ⟨bo, 3, none⟩)) 96 rfl rfl (by kernel_rfl) (by kernel_rfl) (by kernel_rfl) (fun _ _ _ h => h) (.inl ⟨by rfl, fun W' hS => by obtain ⟨s0, s1⟩ := hS; go_simp⟩) hS0 ?_
          intro A' hA; simp at hA; subst hA
          refine wpAnyH_takeA (i := 3) (v := .slice A3 o.f3.length c3) 97 rfl rfl (by kernel_rfl) (by kernel_rfl) (by kernel_rfl) (fun _ _ _ h => h) (.inl ⟨by rfl, fun W' hS => by obtain ⟨s0, s1⟩ := hS; go_simp⟩) hS0 ?_
          intro A' hA; simp at hA; subst hA
          refine wpAnyH_takeA (i := 5) (v := .pointer (some ⟨bo, 4, none⟩)) 99 rfl rfl (by kernel_rfl) (by kernel_rfl) (by kernel_rfl) (fun _ _ _ h => h) (.inl ⟨by rfl, fun W' hS => by obtain ⟨s0, s1⟩ := hS; go_simp⟩) hS0 ?_
          intro A' hA; simp at hA; subst hA
          refine wpAnyH_takeA (i := 6) (v := .bool o.f4) 100 rfl rfl (by kernel_rfl) (by kernel_rfl) (by kernel_rfl) (fun _ _ _ h => h) (.inl ⟨by rfl, fun W' hS => by obtain ⟨s0, s1⟩ := hS; go_simp⟩) hS0 ?_
          intro A' hA; simp at hA; subst hA
          clear hS0
          refine wpAnyH_one (i := 4) (by kernel_rfl) rfl (by rfl) (fun K' hK => ?_)
          have HKK := Aside0.mk hK
          clear hK
          go_simp
          refine (copied_at K5.out A3 c3 o.f3 (Kd.C_below HC3.out.2 K5.out.hB) HC3.out.1 HO3.out.1 5 rfl).mono ?_
          rintro e X6 ⟨A5, c5, rfl, hb5, hs5⟩
          have K6 : Aside0 (Sep w nX [arA b (M) (n + 1), bkA (.slice (some ⟨g, 0, none⟩) E.length c) (E), ltA (E), (.blk bo (.cells #[.int .i64 o.f0, .int .i64 o.f1, .int .i64 o.f2, .slice A3 o.f3.length c3, .bool o.f4] 70 (0, 0))), (.row kI 3 (.slice A4 o.f3.length c4) o.f3), (.row kI 3 (.slice A5 o.f3.length c5) o.f3), .emp, .emp, .emp] X6) := ⟨hs5⟩
          clear hs5 hb5 K5
          have hS0 : X6.cell? ⟨bo, 3, none⟩ = some (.slice A3 o.f3.length c3) ∧ X6.cell? ⟨bo, 4, none⟩ = some (.bool o.f4) := ⟨K6.out.cell 3 3 rfl, K6.out.cell 3 4 rfl⟩
          refine HKK.out _ _ hS0 ?_
          clear HKK
          refine wpAnyH_takeA (i := 7) (v := .agg #[.int .i64 (sizeL L : Nat), .slice A5 o.f3.length c5, .bool o.f4, .bool true]) 101 rfl rfl (by kernel_rfl) (by kernel_rfl) (by kernel_rfl) (fun _ _ _ h => h) (.inl ⟨by rfl, fun W' hS => by obtain ⟨s0, s1⟩ := hS; go_simp⟩) hS0 ?_
          intro A' hA; simp at hA; subst hA
          clear hS0
          obtain ⟨gN, cN, X7, hrun, hs7⟩ := book_push K6.out 1 rfl ⟨((sizeL L : Nat) : Int), o.f3, o.f4, true, A5, c5⟩ (Nat.le_trans HBD.out.e1 (by decide))
          have hal := K6.out.keep (below_alloc (Below.refl _ _) (.cells (Bk.cells ⟨((sizeL L : Nat) : Int), o.f3, o.f4, true, A5, c5⟩).toArray 76 (0, 0)))
          refine wpAnyH_one (i := 8) (by kernel_rfl) rfl (by rfl) (fun K' hK => ?_)
          have HKK := Aside0.mk hK
          clear hK
          go_simp
          refine HKK.out _ _ ⟨hal.cell 3 3 rfl, hal.cell 3 4 rfl⟩ ?_
          clear HKK
          refine wpAnyH_one (i := 9) (by kernel_rfl) rfl (by rfl) (fun K' hK => ?_)
          have HKK := Aside0.mk hK
          clear hK
          refine wp_append_run (.tmp 94) (.tmp 102) 74 rfl rfl rfl hrun ?_
          have hS0 : X7.cell? ⟨bo, 3, none⟩ = some (.slice A3 o.f3.length c3) ∧ X7.cell? ⟨bo, 4, none⟩ = some (.bool o.f4) := ⟨hs7.cell 3 3 rfl, hs7.cell 3 4 rfl⟩
          refine HKK.out _ _ hS0 ?_
          clear HKK hrun hal
          have hs8 := (lt_push hs7 2 5 (by decide) rfl rfl ((sizeL L : Nat) : Int) o.f4 true).three
          have HKF := Aside0.mk (HKI.out A5 c5)
          clear hs7 K6 HKI
          generalize E ++ [⟨((sizeL L : Nat) : Int), o.f3, o.f4, true, A5, c5⟩] = E1 at *
          refine wpAnyH_takeA (i := 10) (v := .slice (some ⟨gN, 0, none⟩) E1.length cN) 4 rfl rfl (by kernel_rfl) (by kernel_rfl) (by kernel_rfl) (fun _ _ _ h => h) (.inl ⟨by rfl, fun W' hS => by obtain ⟨s0, s1⟩ := hS; go_simp⟩) hS0 ?_
          intro A' hA; simp at hA; subst hA
          clear hS0
          refine wpAnyH_done (by kernel_rfl) ?_ _
          have HZ1 := Aside0.mk (ki_bounds HKF.out HB.out HN1.out)
          have K9 : Aside0 (Sep w nX (kAs b (n + 1) gN cN (M) (E1)) _) := ⟨hs8⟩
          clear hs8
          have hf := found_calls K9.out 0 1 2 rfl rfl rfl HKF.out.tied HZ1.out.z HZ1.out.e
          have HF := Aside0.mk hf
          clear hf
          go_wp2_with (go_at_call 46; (with_reducible refine HF.out.mono ?_); rintro e X9 ⟨rfl, hb9⟩; have K10 := Aside0.mk (K9.out.keep hb9); clear hb9)
          go_roundw
          case measure => rw [hw]; exact HMS.out
          case rel => exact ⟨i + 1, M, n + 1, E1, gN, cN, by rw [hw], rfl, HN1, HKF, K10⟩
        · have _bA2 := trivial
          have hsf : sound o.f3 = false := by simpa using hsd
          refine (put_at_bad K1.out 4 _ A4 c4 o.f3 o.f4 rfl (Nat.le_trans HO3.out.1 (by decide)) hsf).mono ?_
          rintro e X2 ⟨rfl, hs5⟩
          have K2 : Aside0 (Sep w nX [arA b (L) (n), bkA (.slice (some ⟨g, 0, none⟩) E.length c) (E), ltA (E), (.blk bo (.cells #[.int .i64 o.f0, .int .i64 o.f1, .int .i64 o.f2, .slice A3 o.f3.length c3, .bool o.f4] 70 (0, 0))), (.row kI 3 (.slice A4 o.f3.length c4) o.f3), .emp, .emp, .emp, .emp] X2) := ⟨hs5⟩
          clear hs5 K1
          have hS0 : X2.cell? ⟨bo, 3, none⟩ = some (.slice A3 o.f3.length c3) ∧ X2.cell? ⟨bo, 4, none⟩ = some (.bool o.f4) := ⟨K2.out.cell 3 3 rfl, K2.out.cell 3 4 rfl⟩
          refine HKK.out _ _ hS0 ?_
          clear HKK
          refine wpAnyH_takeA (i := 7) (v := .tuple #[.int .i64 0, .int .i64 1]) 54 rfl rfl (by kernel_rfl) (by kernel_rfl) (by kernel_rfl) (fun _ _ _ h => h) (.inl ⟨by rfl, fun W' hS => by obtain ⟨s0, s1⟩ := hS; go_simp⟩) hS0 ?_
          intro A' hA; simp at hA; subst hA
          refine wpAnyH_takeA (i := 8) (v := .int .i64 0) 62 rfl rfl (by kernel_rfl) (by kernel_rfl) (by kernel_rfl) (fun _ _ _ h => h) (.inl ⟨by rfl, fun W' hS => by obtain ⟨s0, s1⟩ := hS; go_simp⟩) hS0 ?_
          intro A' hA; simp at hA; subst hA
          refine wpAnyH_takeA (i := 9) (v := .int .i64 1) 63 rfl rfl (by kernel_rfl) (by kernel_rfl) (by kernel_rfl) (fun _ _ _ h => h) (.inl ⟨by rfl, fun W' hS => by obtain ⟨s0, s1⟩ := hS; go_simp⟩) hS0 ?_
          intro A' hA; simp at hA; subst hA
          refine wpAnyH_takeA (i := 10) (v := .int .i64 0) 11 rfl rfl (by kernel_rfl) (by kernel_rfl) (by kernel_rfl) (fun _ _ _ h => h) (.inl ⟨by rfl, fun W' hS => by obtain ⟨s0, s1⟩ := hS; go_simp⟩) hS0 ?_
          intro A' hA; simp at hA; subst hA
          refine wpAnyH_takeA (i := 11) (v := .int .i64 1) 12 rfl rfl (by kernel_rfl) (by kernel_rfl) (by kernel_rfl) (fun _ _ _ h => h) (.inl ⟨by rfl, fun W' hS => by obtain ⟨s0, s1⟩ := hS; go_simp⟩) hS0 ?_
          intro A' hA; simp at hA; subst hA
          refine wpAnyH_done (by kernel_rfl) ?_ _
          obtain ⟨hq3, hq4⟩ := hS0
          have hsc := sound4_calls A3 c3 o.f3 X2 (Kd.C_below HC3.out.2 K2.out.hB) HC3.out.1 HO3.out.1
          rw [hsf] at hsc
          have HSD := Aside0.mk hsc
          clear hsc hsd hsf
          go_upto_region 19 with (go_at_call 43; go_loud ((with_reducible refine HSD.out.mono ?_); rintro e X3 ⟨rfl, hd⟩; have K3 := Aside0.mk (K2.out.keep hd.below); clear hd))
          have HW := Aside0.mk (words_at K3.out 0 rfl)
          clear K2 HSD hq3 hq4
          go_wp2_with (go_at_call 42; go_loud ((with_reducible refine HW.out.mono ?_); rintro e X4 ⟨rfl, rfl⟩))
          have HKF := Aside0.mk (ki_same HK.out HO.out)
          have K10 : Aside0 (Sep w nX (kAs b n g c L E) _) := ⟨K3.out.three⟩
          go_roundw
          case measure => rw [hw]; exact HMS.out
          case rel => exact ⟨i + 1, L, n, E, g, c, by rw [hw], rfl, HN1, HKF, K10⟩
      · have _bB := trivial
        have d1 : decide (o.f0 = 1) = false := decide_eq_false k1
        by_cases k4 : o.f0 = 4
        · have _bB4 := trivial
          have d4 : decide (o.f0 = 4) = true := decide_eq_true k4
          have q2 : w2.cell? ⟨bo, 2, none⟩ = some (.int .i64 o.f2) := H1.out.cell 3 2 rfl
          by_cases kr : 0 ≤ o.f2
          · have _bB4y := trivial
            have dr : decide (o.f2 ≥ 0) = true := decide_eq_true kr
            obtain ⟨k, e1, e2, e3⟩ := rem_fact kr HK.out.pos
            have e4 : (E.length : Int) ≠ 0 := by have := HK.out.pos; omega
            have e5 : decide ((k : Int) < 0) = false := decide_eq_false e3
            have e6 : (0 : Int) ≤ (k : Int) := by omega
            have e7 : (k : Int) < (E.length : Int) := by omega
            obtain ⟨q, hq⟩ : ∃ q, E[k]? = some q := ⟨_, List.getElem?_eq_getElem e2⟩
            have HQ := Aside0.mk hq
            have b0 : w2.cell? ⟨g, k * 4, none⟩ = some (.int .i64 q.at_) := (bk_cell H1.out 1 rfl hq 0 (by decide) rfl).1
            have b3 : w2.cell? ⟨g, k * 4 + 3, none⟩ = some (.bool q.live) := (bk_cell H1.out 1 rfl hq 3 (by decide) rfl).1
            clear hq e2
            go_upto_region 28 with fail
            cases hlv : q.live with
            | false =>
              rw [hlv] at b3
              obtain ⟨m1, m2, m3⟩ := none_marks HBD.out.z
              go_wp2_with (first | (go_at_call 21; go_loud ((with_reducible refine (drop_at_none H1.out 0 rfl (-1) (by decide) m1).mono ?_); rintro e X1 ⟨rfl, hs⟩; have D1 := Aside0.mk hs; clear hs)) | (go_at_call 21; go_loud ((with_reducible refine (drop_at_none D1.out 0 rfl _ m3 m2).mono ?_); rintro e X2 ⟨rfl, hs⟩; have D2 := Aside0.mk hs; clear hs)))
              have HKF := Aside0.mk (ki_same HK.out HO.out)
              have K10 : Aside0 (Sep w nX (kAs b n g c L E) _) := ⟨D2.out.three⟩
              go_roundw
              case measure => rw [hw]; exact HMS.out
              case rel => exact ⟨i + 1, L, n, E, g, c, by rw [hw], rfl, HN1, HKF, K10⟩
            | true =>
              rw [hlv] at b3
              obtain ⟨m1, m2, m3⟩ := live_marks HK.out.tied HBD.out.z HQ.out hlv
              go_upto_region 33 with (first | (go_at_call 21; go_loud ((with_reducible refine (drop_at_some H1.out 0 rfl q.at_ m1 q.learnt m2).mono ?_); rintro e X1 ⟨rfl, hs⟩; have D1 : Aside0 (Sep w nX [arA b (kill L q.at_) (n), bkA (.slice (some ⟨g, 0, none⟩) E.length c) (E), ltA (E), (.blk bo (.cells #[.int .i64 o.f0, .int .i64 o.f1, .int .i64 o.f2, .slice A3 o.f3.length c3, .bool o.f4] 70 (0, 0))), .emp, .emp, .emp, .emp, .emp] X1) := ⟨hs⟩; have b0' : X1.cell? ⟨g, k * 4, none⟩ = some (.int .i64 q.at_) := (bk_cell D1.out 1 rfl HQ.out 0 (by decide) rfl).1; clear hs b0 b3)) | (go_at_call 42; have hwk := words_at D1.out 0 rfl; rw [kill_size] at hwk; go_loud ((with_reducible refine hwk.mono ?_); rintro e X2 ⟨rfl, rfl⟩; clear hwk)) | (go_at_call 21; go_loud ((with_reducible refine (drop_at_none D1.out 0 rfl q.at_ m1 m3).mono ?_); rintro e X3 ⟨rfl, hs⟩; have D3 := Aside0.mk hs; clear hs)))
              obtain ⟨E1, hE1⟩ : ∃ E1, E1 = E.set k { q with live := false } := ⟨_, rfl⟩
              have hK5 := (lt_as (E' := E1) (bk_kill D3.out 1 rfl HQ.out hE1) 2 rfl (by rw [hE1]; exact set_same_lits HQ.out)).three
              have b3 := bk_cell D3.out 1 rfl HQ.out 3 (by decide) rfl
              obtain ⟨b3, y3⟩ := b3
              replace b3 : X3.cell? ⟨g, k * 4 + 3, none⟩ = some (.bool q.live) := b3
              have HLEN : Aside0 (E1.length = E.length) := ⟨by rw [hE1, List.length_set]⟩
              have hkf := ki_kill HK.out HO.out HQ.out hlv
              rw [← hE1] at hkf
              have HKF := Aside0.mk hkf
              have hq1 : E1[k]? = some { q with live := false } := by rw [hE1, List.getElem?_set_self (List.getElem?_eq_some_iff.1 HQ.out).1]
              have HQ1 := Aside0.mk hq1
              have K5 : Aside0 (Sep w nX (kAs b n g c (kill L q.at_) E1) (X3.setCell ⟨g, k * 4 + 3, none⟩ (.bool false))) := ⟨hK5⟩
              clear hE1 hkf hq1 hK5 D1 b0'
              go_upto_region 34 with fail
              clear b3 y3 D3
              generalize X3.setCell ⟨g, k * 4 + 3, none⟩ (.bool false) = X4 at *
              have b0 : X4.cell? ⟨g, k * 4, none⟩ = some (.int .i64 q.at_) := (bk_cell K5.out 1 rfl HQ1.out 0 (by decide) rfl).1
              have HGN := Aside0.mk (get_at_none K5.out 0 rfl q.at_ m1 m3)
              go_upto_region 35 with (go_at_call 26; go_loud ((with_reducible refine HGN.out.mono ?_); rintro e X5 ⟨rfl, hb⟩; have K6 := Aside0.mk (K5.out.keep hb); have b0' : X5.cell? ⟨g, k * 4, none⟩ = some (.int .i64 q.at_) := (bk_cell K6.out 1 rfl HQ1.out 0 (by decide) rfl).1; clear hb b0 K5))
              have hln := learnt_at K6.out 0 rfl q.at_ m1
              rw [m3] at hln
              have HLN := Aside0.mk hln
              clear hln
              go_upto_region 41 with (go_at_call 44; go_loud ((with_reducible refine HLN.out.mono ?_); rintro e X6 ⟨rfl, rfl⟩))
              have hs8 := K6.out
              clear K6 b0' HGN HLN
              have HZ1 := Aside0.mk (ki_bounds HKF.out HB.out HN1.out)
              have K9 : Aside0 (Sep w nX (kAs b (n) g c (kill L q.at_) (E1)) _) := ⟨hs8⟩
              clear hs8
              have hf := found_calls K9.out 0 1 2 rfl rfl rfl HKF.out.tied HZ1.out.z HZ1.out.e
              rw [HLEN.out] at hf
              have HF := Aside0.mk hf
              clear hf
              go_wp2_with (go_at_call 46; (with_reducible refine HF.out.mono ?_); rintro e X9 ⟨rfl, hb9⟩; have K10 := Aside0.mk (K9.out.keep hb9); clear hb9)
              go_roundw
              case measure => rw [hw]; exact HMS.out
              case rel => exact ⟨i + 1, kill L q.at_, n, E1, g, c, by rw [hw], by rw [HLEN.out], HN1, HKF, K10⟩
          · have _bB4n := trivial
            have dr : decide (o.f2 ≥ 0) = false := decide_eq_false kr
            obtain ⟨m1, m2, m3⟩ := none_marks HBD.out.z
            go_wp2_with (first | (go_at_call 21; go_loud ((with_reducible refine (drop_at_none H1.out 0 rfl (-1) (by decide) m1).mono ?_); rintro e X1 ⟨rfl, hs⟩; have D1 := Aside0.mk hs; clear hs)) | (go_at_call 21; go_loud ((with_reducible refine (drop_at_none D1.out 0 rfl _ m3 m2).mono ?_); rintro e X2 ⟨rfl, hs⟩; have D2 := Aside0.mk hs; clear hs)))
            have HKF := Aside0.mk (ki_same HK.out HO.out)
            have K10 : Aside0 (Sep w nX (kAs b n g c L E) _) := ⟨D2.out.three⟩
            go_roundw
            case measure => rw [hw]; exact HMS.out
            case rel => exact ⟨i + 1, L, n, E, g, c, by rw [hw], rfl, HN1, HKF, K10⟩
        · have _bB6 := trivial
          have d4 : decide (o.f0 = 4) = false := decide_eq_false k4
          by_cases k6 : o.f0 = 6
          · have _bB6s := trivial
            have d6 : decide (o.f0 = 6) = true := decide_eq_true k6
            have HSW := Aside0.mk (swept_calls H1.out 0 1 2 (by decide) (by decide) (by decide) rfl rfl rfl HK.out.tied HBD.out.l HBD.out.z HBD.out.e)
            go_upto_region 41 with (go_at_call 45; go_loud ((with_reducible refine HSW.out.mono ?_); rintro e X1 ⟨rfl, hs⟩; have D1 := Aside0.mk hs; clear hs))
            have HKF := Aside0.mk (ki_sweep HK.out HO.out)
            obtain ⟨E1, hE1⟩ : ∃ E1, E1 = sweepE 0 E := ⟨_, rfl⟩
            have hlen : E1.length = E.length := by rw [hE1, sweepE_length]
            have hs7 : Sep w nX ([arA b (sweptOf L) (countOf L), bkA (.slice (some ⟨g, 0, none⟩) E.length c) (sweepE 0 E), ltA (sweepE 0 E)] ++ [(.blk bo (.cells #[.int .i64 o.f0, .int .i64 o.f1, .int .i64 o.f2, .slice A3 o.f3.length c3, .bool o.f4] 70 (0, 0))), .emp, .emp, .emp, .emp, .emp]) X1 := D1.out
            have hs8 := hs7.three
            rw [← hE1] at hs8 HKF
            rw [← hlen] at hs8
            have HLEN := Aside0.mk hlen
            clear hlen hE1 hs7 D1 HSW
            have HZ1 := Aside0.mk (ki_bounds HKF.out HB.out HN1.out)
            have K9 : Aside0 (Sep w nX (kAs b (countOf L) g c (sweptOf L) (E1)) _) := ⟨hs8⟩
            clear hs8
            have hf := found_calls K9.out 0 1 2 rfl rfl rfl HKF.out.tied HZ1.out.z HZ1.out.e
            rw [HLEN.out] at hf
            have HF := Aside0.mk hf
            clear hf
            go_wp2_with (go_at_call 46; (with_reducible refine HF.out.mono ?_); rintro e X9 ⟨rfl, hb9⟩; have K10 := Aside0.mk (K9.out.keep hb9); clear hb9)
            go_roundw
            case measure => rw [hw]; exact HMS.out
            case rel => exact ⟨i + 1, sweptOf L, countOf L, E1, g, c, by rw [hw], by rw [HLEN.out], HN1, HKF, K10⟩
          · have _bB6o := trivial
            have d6 : decide (o.f0 = 6) = false := decide_eq_false k6
            go_upto_region 41 with fail
            have HKF := Aside0.mk (ki_same HK.out HO.out)
            have hs8 := H1.out.three
            clear H1
            have HZ1 := Aside0.mk (ki_bounds HKF.out HB.out HN1.out)
            have K9 : Aside0 (Sep w nX (kAs b (n) g c (L) (E)) _) := ⟨hs8⟩
            clear hs8
            have hf := found_calls K9.out 0 1 2 rfl rfl rfl HKF.out.tied HZ1.out.z HZ1.out.e
            have HF := Aside0.mk hf
            clear hf
            go_wp2_with (go_at_call 46; (with_reducible refine HF.out.mono ?_); rintro e X9 ⟨rfl, hb9⟩; have K10 := Aside0.mk (K9.out.keep hb9); clear hb9)
            go_roundw
            case measure => rw [hw]; exact HMS.out
            case rel => exact ⟨i + 1, L, n, E, g, c, by rw [hw], rfl, HN1, HKF, K10⟩
    · have _bZ := trivial
      have hi : i = s.length := by have := HI.out; omega
      have q3 : decide ((i : Int) < (s.length : Int)) = false := decide_eq_false (by omega)
      have HBD := Aside0.mk (ki_bounds HK.out HB.out HI.out)
      have HF1 := Aside0.mk (found_calls HS.out 0 1 2 rfl rfl rfl HK.out.tied HBD.out.z HBD.out.e)
      obtain ⟨E1, hE1⟩ : ∃ E1, E1 = sweepE 0 E := ⟨_, rfl⟩
      have hlen : E1.length = E.length := by rw [hE1, sweepE_length]
      have HE1 := Aside0.mk hE1
      have HLEN := Aside0.mk hlen
      clear hlen hE1 hi
      have HT1 : Aside0 (Tied E1 (sweptOf L)) := ⟨by rw [HE1.out]; exact HK.out.tied.sweep⟩
      have HZ1 : Aside0 (sizeL (sweptOf L) ≤ 8796093022208 ∧ E1.length ≤ 8796093022208) := ⟨Nat.le_trans (swept_size_le L) HBD.out.z, by rw [HLEN.out]; exact HBD.out.e⟩
      go_wp2_with (first
        | (go_at_call 46; (with_reducible refine HF1.out.mono ?_); rintro e X1 ⟨rfl, hb1⟩; have K1 := Aside0.mk (HS.out.keep hb1); clear hb1 HF1)
        | (go_at_call 45; (with_reducible refine (swept_calls K1.out 0 1 2 (by decide) (by decide) (by decide) rfl rfl rfl HK.out.tied HBD.out.l HBD.out.z HBD.out.e).mono ?_); rintro e X2 ⟨rfl, hs⟩; have hs2 : Sep w nX [arA b (sweptOf L) (countOf L), bkA (.slice (some ⟨g, 0, none⟩) E.length c) (sweepE 0 E), ltA (sweepE 0 E)] X2 := hs; rw [← HE1.out, ← HLEN.out] at hs2; have K2 := Aside0.mk hs2; have hf2 := found_calls K2.out 0 1 2 rfl rfl rfl HT1.out HZ1.out.1 HZ1.out.2; rw [HLEN.out] at hf2; have HF2 := Aside0.mk hf2; clear hs hs2 hf2)
        | (go_at_call 46; (with_reducible refine HF2.out.mono ?_); rintro e X3 ⟨rfl, hb3⟩; have K3 := Aside0.mk (K2.out.keep hb3); clear hb3))
      go_ret
      exact ⟨by first | rfl | (simp; done), K3.out.hB⟩
end Go.Proofs.YtkkkbcjmkmadhaaHand
