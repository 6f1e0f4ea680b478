/- An arena in memory: Put, Drop. -/
import Derived.Test.YtkkkbcjmkmadhaaClArenaKeepsg
import Derived.Test.YtkkkbcjmkmadhaaClArenaKeepsd
/-! text YtkkkbcjmkmadhaaArenaPut -/
namespace Go.Proofs.YtkkkbcjmkmadhaaHand
open Go.RowKit Go.Proofs.YtkkkbcjmkmadhaaW.PrintWords Go.Proofs.YtkkkbcjmkmadhaaW.PrintLast Go.Proofs.YtkkkbcjmkmadhaaMath Go.Proofs.YtkkkbcjmkmadhaaMaps Go.Maps Go.Proofs.YtkkkbcjmkmadhaaOwn
set_option linter.unusedVariables false
set_option linter.unusedSimpArgs false
theorem own_slice3 {w : World} {base e sz : Nat} {v : Value} {n : Nat} {xs : List Value} (h : w.ownsRow base e sz v n xs) : ∃ A n c, v = .slice A n c := by
  rcases h.2 with ⟨rfl, _⟩ | ⟨g, cap, cur, rfl, _⟩
  · exact ⟨_, _, _, rfl⟩
  · exact ⟨_, _, _, rfl⟩
theorem infoRef : (Try.prog.info? 34).map (fun i => (i.zero, i.size, i.bytes)) = some (some (.int .i64 0), 1, 8) := by kernel_rfl
set_option maxHeartbeats 8000000 in
set_option maxRecDepth 100000 in
theorem put_sep {w W : World} {R : List Asr} {b n B : Nat} {L : List Cl} {Aw Ao : Option Addr} {cw co : Nat} (h : Sep w nX (arL b L n (.slice Aw (wordsOf L).length cw) B (.slice Ao (orderOf L).length co) ++ R) W)
    (A : Option Addr) (c : Nat) (xs : List Int) (ln : Bool) (HC : ∀ (As : List Asr) (W1 : World), As.length = 4 → Sep w nX (As ++ R) W1 → Kd.C (Kd.int .i64) W1 A xs.length xs) (hsnd : sound xs = true) (hn : sizeL L + xs.length ≤ 8796093022208) (hL : L.length ≤ 8796093022208) (hnn : n < maxLen) :
    Calls Try.prog 20 #[.pointer (some ⟨b, 0, none⟩), .slice A xs.length c, .bool ln] W fun e W' => e = .returned (.tuple #[.int .i64 (sizeL L : Nat), .int .i64 0]) ∧ ∃ vw vo, Sep w nX (arL b (L ++ [⟨xs, ln, true⟩]) (n + 1) vw B vo ++ R) W' := by
  have S := sound_calls A c xs W (HC _ W rfl h) (by omega)
  rw [hsnd] at S
  unfold arL at h ⊢
  have HS0 := Aside0.mk h
  have HCC := Aside0.mk HC
  have hwl : (wordsOf L).length = sizeL L := wordsOf_length L
  have hol : (orderOf L).length = L.length := orderOf_length L
  have HW1 : Aside0 (wordsOf (L ++ [⟨xs, ln, true⟩]) = wordsOf L ++ [(xs.length : Int)] ++ xs) := ⟨by rw [wordsOf_append]; simp [wordsOf, Cl.words]⟩
  have HO1 : Aside0 (orderOf (L ++ [⟨xs, ln, true⟩]) = orderOf L ++ [((sizeL L : Nat) : Int)]) := ⟨orderOf_append L _⟩
  have HM1 : Aside0 (∀ x, marksOf (L ++ [⟨xs, ln, true⟩]) x = upd (marksOf L) (sizeL L : Nat) ln x) := ⟨marksOf_put L xs ln⟩
  have HN1 : Aside0 (marksOf L (sizeL L : Nat) = none) := ⟨marksOf_big L (.inl (Int.le_refl _))⟩
  have HK1 : Aside0 (countOf (L ++ [⟨xs, ln, true⟩]) = countOf L + 1) := ⟨countOf_put L xs ln⟩
  have HBD : Aside0 ((wordsOf L).length + xs.length ≤ 8796093022208 ∧ (orderOf L).length ≤ 8796093022208 ∧ sizeL L ≤ 8796093022208) := ⟨by rw [hwl]; exact hn, by rw [hol]; exact hL, by omega⟩
  have HNN := Aside0.mk hnn
  rw [hwl] at HS0
  have HKEY : Aside0 (keyOf Try.prog 34 (.int .i64 ((sizeL L : Nat) : Int)) = some (intKeys.kl ((sizeL L : Nat) : Int))) := ⟨hkeyR (by omega)⟩
  clear h HC hsnd hn hL hnn hol hwl
  generalize orderOf (L ++ [⟨xs, ln, true⟩]) = ord2 at *
  generalize wordsOf (L ++ [⟨xs, ln, true⟩]) = wds2 at *
  generalize marksOf (L ++ [⟨xs, ln, true⟩]) = mks2 at *
  generalize countOf (L ++ [⟨xs, ln, true⟩]) = cnt2 at *
  generalize (orderOf L).length = no at HS0
  generalize orderOf L = ord at *
  generalize wordsOf L = wds at *
  generalize marksOf L = mks at *
  generalize countOf L = cnt at *
  generalize sizeL L = sz at *
  go_enter Try.func20, Try.ntmps20
  go_wp2_with (first
    | (go_at_call 55; (with_reducible refine S.mono ?_); rintro e w1 ⟨rfl, ⟨nd, hw1⟩⟩; have HS1 := Aside0.mk (HS0.out.keep (show Below W.heap.size W w1 by rw [hw1]; exact pw_below_drewN (Below.refl _ _) _)); have f0 : w1.cell? ⟨b, 0, none⟩ = some (.slice Aw sz cw) := (HS1.out.cell 0 0 rfl).trans rfl; clear hw1)
    | ((with_reducible refine gate_builtin (b := .append) (xs := #[.tmp 21, .tmp 24]) rfl ?_); at_builtin; refine print_append_num (w0 := w1) 0 rfl (.tmp 21) (.tmp 24) 27 3 .i64 8 rfl Try.underlying27 infoI (by decide) _ wds xs.length rfl rfl ?aO ?aB ?aS ?aL ?_; (case aO => exact HS1.out.ownRow 1 rfl); (case aB => exact Below.refl _ _); (case aS => exact Nat.zero_le _); (case aL => have := HBD.out.1; omega); intro v2 w2 ho _ hg hat; have HS2 := Aside0.mk (HS1.out.grownRow nX_lt 1 rfl ho hg hat); obtain ⟨A2, n2, c2, e2⟩ := own_slice3 ho; subst e2; have HS2p := Aside0.mk (HS2.out.put nX_lt 0 0 rfl (.slice A2 n2 c2) rfl); have g0 : w2.cell? ⟨b, 0, none⟩ = some (.slice Aw sz cw) := (HS2.out.cell 0 0 rfl).trans rfl; have z0 : w2.frozen? ⟨b, 0, none⟩ = false := HS2.out.frozen 0 0 rfl; have f0' : (w2.setCell ⟨b, 0, none⟩ (.slice A2 n2 c2)).cell? ⟨b, 0, none⟩ = some (.slice A2 n2 c2) := (HS2p.out.cell 0 0 rfl).trans rfl; clear ho hg hat)
    | ((with_reducible refine gate_builtin (b := .append) (xs := #[.tmp 32, .tmp 33]) rfl ?_); at_builtin; go_loud (refine print_append_row (w0 := w2.setCell ⟨b, 0, none⟩ (.slice A2 n2 c2)) 0 rfl (.tmp 32) (.tmp 33) 27 3 .i64 8 rfl Try.underlying27 infoI (by decide) _ (wds ++ [(xs.length : Int)]) xs A _ _ rfl rfl ?aO ?aR ?aB ?aS ?aL ?_; (case aO => exact HS2p.out.ownRow 1 rfl); (case aR => exact Kd.reads_of_C (HCC.out [aB b (.slice A2 n2 c2) B (.slice Ao no co), .row kI 3 (.slice A2 n2 c2) (wds ++ [(xs.length : Int)]), aM B n mks cnt, .row kI 34 (.slice Ao no co) ord] _ rfl HS2p.out)); (case aB => exact Below.refl _ _); (case aS => exact Nat.zero_le _); (case aL => have := HBD.out.1; rw [List.length_append, List.length_singleton]; omega); intro v3 w3 ho _ hg hat; have HS3 := Aside0.mk (HS2p.out.grownRow nX_lt 1 rfl ho hg hat); obtain ⟨A3, n3, c3, e3⟩ := own_slice3 ho; subst e3; have HS3p := Aside0.mk (HS3.out.put nX_lt 0 0 rfl (.slice A3 n3 c3) rfl); have g0 : w3.cell? ⟨b, 0, none⟩ = some (.slice A2 n2 c2) := (HS3.out.cell 0 0 rfl).trans rfl; have z0 : w3.frozen? ⟨b, 0, none⟩ = false := HS3.out.frozen 0 0 rfl; have f1' : (w3.setCell ⟨b, 0, none⟩ (.slice A3 n3 c3)).cell? ⟨b, 1, none⟩ = some (.map (some B)) := (HS3p.out.cell 0 1 rfl).trans rfl; clear ho hg hat))
    | (at_mapUpdate; refine im_store_mark _ rfl _ _ _ 92 rfl keyR Try.underlying92 rfl (HS3p.out.imGet 2 rfl) HNN.out _ (sz : Int) ln rfl rfl HKEY.out ?_; intro w4 him hg; have HS4 := Aside0.mk (HS3p.out.imStep nX_lt 2 rfl him hg); have g2 : w4.cell? ⟨b, 2, none⟩ = some (.slice Ao no co) := (HS4.out.cell 0 2 rfl).trans rfl; clear him hg)
    | ((with_reducible refine gate_builtin (b := .append) (xs := #[.tmp 48, .tmp 50]) rfl ?_); at_builtin; refine print_append_num (w0 := w4) 0 rfl (.tmp 48) (.tmp 50) 40 34 .i64 8 rfl Try.underlying40 infoRef (by decide) _ ord (sz : Int) rfl rfl ?aO ?aB ?aS ?aL ?_; (case aO => exact HS4.out.ownRow 3 rfl); (case aB => exact Below.refl _ _); (case aS => exact Nat.zero_le _); (case aL => have := HBD.out.2.1; omega); intro v5 w5 ho _ hg hat; have HS5 := Aside0.mk (HS4.out.grownRow nX_lt 3 rfl ho hg hat); obtain ⟨A5, n5, c5, e5⟩ := own_slice3 ho; subst e5; have HS5p := Aside0.mk (HS5.out.put nX_lt 0 2 rfl (.slice A5 n5 c5) rfl); have g2' : w5.cell? ⟨b, 2, none⟩ = some (.slice Ao no co) := (HS5.out.cell 0 2 rfl).trans rfl; have z2 : w5.frozen? ⟨b, 2, none⟩ = false := HS5.out.frozen 0 2 rfl; clear ho hg hat))
  go_ret2
  refine ⟨by first | rfl | (simp; done), .slice A3 n3 c3, .slice A5 n5 c5, ?_⟩
  have hS := HS5p.out
  rw [HN1.out] at hS
  rw [HW1.out, HO1.out, HK1.out, show mks2 = upd mks (sz : Int) ln from funext HM1.out]
  exact hS
set_option maxHeartbeats 8000000 in
set_option maxRecDepth 100000 in
theorem drop_some {w W : World} {R : List Asr} {b n B : Nat} {L : List Cl} {vw vo : Value} (h : Sep w nX (arL b L n vw B vo ++ R) W) (r : Int) (hr : -9223372036854775808 ≤ r ∧ r ≤ 9223372036854775807) (q : Bool) (hm : marksOf L r = some q) :
    Calls Try.prog 21 #[.pointer (some ⟨b, 0, none⟩), .int .i64 r] W fun e W' => e = .returned (.int .i64 0) ∧ Sep w nX (arL b (kill L r) n vw B vo ++ R) W' := by
  unfold arL at h ⊢
  have L1 : (Instr.lookup 92 (.map (some B)) (.int .i64 r) true).run Try.prog W = .ok (.tuple #[.agg #[.bool q], .bool true]) W := by
    have := (h.imGet 2 rfl).look_ok keyR Try.underlying92 (z := false) (zeroM _) trivial (hkeyR hr)
    rwa [hm] at this
  have f1 : W.cell? ⟨b, 1, none⟩ = some (.map (some B)) := (h.cell 0 1 rfl).trans rfl
  have HS1 := Aside0.mk (h.keep (below_alloc (Below.refl _ _) (.cells #[.agg #[.bool q]] 96)))
  have HS2 := Aside0.mk (h.keep (below_alloc (Below.refl _ _) (.cells #[.bool q] 96)))
  have g1 : (W.alloc (.cells #[.bool q] 96)).cell? ⟨b, 1, none⟩ = some (.map (some B)) := (HS2.out.cell 0 1 rfl).trans rfl
  have HKEY := Aside0.mk (hkeyR hr)
  have HK1 : Aside0 (countOf (kill L r) = countOf L - 1) := ⟨kill_count (by rw [hm]; rfl)⟩
  have HM1 : Aside0 (∀ y, marksOf (kill L r) y = del (marksOf L) r y) := ⟨kill_marks L r⟩
  have HMR : Aside0 ((marksOf L r).isSome = true) := ⟨by rw [hm]; rfl⟩
  rw [kill_words, kill_order]
  obtain ⟨w4, DR, him, hg⟩ := (HS2.out.imGet 2 rfl).drop keyR Try.underlying92 HKEY.out 0
  have HS4 := Aside0.mk (HS2.out.imStep nX_lt 2 rfl him hg)
  clear him hg
  generalize countOf (kill L r) = cnt2 at *
  generalize marksOf (kill L r) = mks2 at *
  generalize marksOf L = mks at *
  generalize countOf L = cnt at *
  generalize wordsOf L = wds at *
  generalize orderOf L = ord at *
  clear h hr hm
  go_enter Try.func21, Try.ntmps21
  go_wp2
  go_ret
  refine ⟨by first | rfl | (simp; done), ?_⟩
  have hS := HS4.out
  rw [HMR.out] at hS
  rw [HK1.out, show mks2 = del mks r from funext HM1.out]
  exact hS
theorem drop_none_sep {w W : World} {R : List Asr} {b n B : Nat} {L : List Cl} {vw vo : Value} (h : Sep w nX (arL b L n vw B vo ++ R) W) (r : Int) (hr : -9223372036854775808 ≤ r ∧ r ≤ 9223372036854775807) (hm : marksOf L r = none) :
    Calls Try.prog 21 #[.pointer (some ⟨b, 0, none⟩), .int .i64 r] W fun e W' => e = .returned (.int .i64 2) ∧ Sep w nX (arL b L n vw B vo ++ R) W' :=
  (drop_none b B n (countOf L) (marksOf L) r W ((h.cell 0 1 rfl).trans rfl) (h.imGet 2 rfl) hr hm).mono fun e W' ⟨he, hb⟩ => ⟨he, h.keep hb⟩
theorem put_unsound {w W : World} {l : List Asr} (h : Sep w nX l W) (p : Value) (A : Option Addr) (c : Nat) (xs : List Int) (ln : Bool) (hC : Kd.C (Kd.int .i64) W A xs.length xs) (hn : xs.length ≤ 17592186044416) (hs : sound xs = false) :
    Calls Try.prog 20 #[p, .slice A xs.length c, .bool ln] W fun e W' => e = .returned (.tuple #[.int .i64 0, .int .i64 1]) ∧ Sep w nX l W' :=
  (put_bad p A xs.length c xs ln W rfl hC hn hs).mono fun e W' ⟨he, hd⟩ => ⟨he, h.keep hd.below⟩
end Go.Proofs.YtkkkbcjmkmadhaaHand
/-! text YtkkkbcjmkmadhaaArenaLiveW -/
namespace Go.Proofs.YtkkkbcjmkmadhaaHand
open Go.RowKit Go.Proofs.YtkkkbcjmkmadhaaW.PrintWords Go.Proofs.YtkkkbcjmkmadhaaW.PrintLast Go.Proofs.YtkkkbcjmkmadhaaMath Go.Proofs.YtkkkbcjmkmadhaaMaps Go.Maps Go.Proofs.YtkkkbcjmkmadhaaOwn
set_option linter.unusedVariables false
set_option linter.unusedSimpArgs false
/-- a row of numbers of one's own, of any type of elements -/
abbrev OwnInts' (e : Nat) (W : World) (base : Nat) (v : Value) (xs : List Int) : Prop := W.ownsRow base e 1 v xs.length (nums .i64 xs)
theorem ownI_alloc {e : Nat} {W : World} {base : Nat} {v : Value} {xs : List Int} (h : OwnInts' e W base v xs) (o : Obj) : OwnInts' e (W.alloc o) base v xs := own_move h fun k hk => Below.heap_alloc _ _ _ (own_lt h k hk)
set_option maxHeartbeats 8000000 in
set_option maxRecDepth 100000 in
theorem live_calls {w W : World} {R : List Asr} {b n B : Nat} {L : List Cl} {Ao : Option Addr} {co : Nat} {vw : Value} (h : Sep w nX (arL b L n vw B (.slice Ao (orderOf L).length co) ++ R) W) (hL : L.length ≤ 8796093022208) (hsz : sizeL L ≤ 8796093022208) :
    Calls Try.prog 59 #[.pointer (some ⟨b, 0, none⟩)] W fun e W' => ∃ v, e = .returned v ∧ Kd.R (Kd.int .i64) 34 W' W.heap.size (fun _ => True) v (refsOf L) ∧ Below W.heap.size W W' := by
  rw [refsOf_filter]
  have f1 : W.cell? ⟨b, 1, none⟩ = some (.map (some B)) := (h.cell 0 1 rfl).trans rfl
  have f2 : W.cell? ⟨b, 2, none⟩ = some (.slice Ao (orderOf L).length co) := (h.cell 0 2 rfl).trans rfl
  have HBK := Aside0.mk (h.obj 0 rfl)
  have HC := Aside0.mk (h.rowReads 3 rfl).2.2
  have HM := Aside0.mk (h.imGet 2 rfl)
  have HBD : Aside0 (∀ r ∈ orderOf L, -9223372036854775808 ≤ r ∧ r ≤ 9223372036854775807) := ⟨fun r hr => by have := orderOf_bd hr; omega⟩
  have hol : (orderOf L).length = L.length := orderOf_length L
  have HN : Aside0 ((orderOf L).length ≤ 8796093022208) := ⟨by rw [hol]; exact hL⟩
  clear h hL hsz hol
  generalize orderOf L = ord at *
  generalize marksOf L = mks at *
  generalize countOf L = cnt at *
  go_enter Try.func59, Try.ntmps59
  go_wp2
  go_loopw [3, 5, 6, 7, 13] (fun v3 _ _ _ v13 wr => ∃ (k : Nat) (x : Int), v13 = .int .i64 x ∧ Aside0 (x = k ∧ k ≤ ord.length) ∧ Aside0 (OwnInts' 34 wr W.heap.size v3 ((ord.take k).filter fun r => (mks r).isSome)) ∧ Aside0 (Below W.heap.size W wr)) (fun _ _ _ _ i _ => ord.length - (intOf i).toNat)
  case atStart => exact ⟨0, 0, rfl, ⟨rfl, Nat.zero_le _⟩, ⟨World.ownsRow_nil _ _ _ _⟩, ⟨Below.refl _ _⟩⟩
  case round =>
    obtain ⟨k, x, rfl, HX, HO, HB⟩ := hrel
    obtain ⟨hxk, hk⟩ := HX.out
    by_cases hlt : k < ord.length
    · have p1 : 0 ≤ x := by omega
      have q1 : x < (ord.length : Int) := by omega
      obtain ⟨ad, e1, hcell⟩ := Kd.at_int (Kd.C_below HC.out HB.out) x p1 q1
      subst e1
      have p2 := eq_true p1
      have q2 := eq_true q1
      have q3 : decide (x < (ord.length : Int)) = true := decide_eq_true q1
      have HX2 : Aside0 (wrap64 (x + 1) = ((k + 1 : Nat) : Int) ∧ k + 1 ≤ ord.length) := by
        have := HN.out
        exact ⟨by rw [w64 (by omega) (by omega)]; omega, by omega⟩
      have hm : (intOf (.int .i64 (wrap64 (x + 1)))).toNat = k + 1 := by rw [HX2.out.1]; simp [intOf]
      have hm0 : (intOf (.int .i64 x)).toNat = k := by rw [hxk]; simp [intOf]
      have HMS : Aside0 (ord.length - (intOf (.int .i64 (wrap64 (x + 1)))).toNat < ord.length - (intOf (.int .i64 x)).toNat) := ⟨by rw [hm, hm0]; omega⟩
      have hrd : rd ord x = rd ord (k : Int) := by rw [hxk]
      rw [hrd] at hcell
      have HT1 : Aside0 (ord.take (k + 1) = ord.take k ++ [rd ord (k : Int)]) := ⟨take_rd hlt⟩
      have hyb := HBD.out _ (rd_mem hlt)
      obtain ⟨y, hy⟩ : ∃ y, y = rd ord (k : Int) := ⟨_, rfl⟩
      rw [← hy] at hcell hyb HT1
      have HL : Aside0 (((ord.take k).filter fun r => (mks r).isSome).length + 1 ≤ 17592186044416) := by
        have h1 := List.length_filter_le (fun r => (mks r).isSome) (ord.take k)
        rw [List.length_take] at h1
        have := HN.out
        exact ⟨by omega⟩
      have g1 : wr.cell? ⟨b, 1, none⟩ = some (.map (some B)) := (blk_cell (blk_below HBK.out HB.out) 1).trans rfl
      have L1 : (Instr.lookup 92 (.map (some B)) (.int .i64 y) true).run Try.prog wr = .ok (.tuple #[.agg #[.bool ((mks y).getD false)], .bool (mks y).isSome]) wr :=
        (IM.below HM.out HB.out).look_ok keyR Try.underlying92 (z := false) (zeroM _) trivial (hkeyR hyb)
      have HTF : Aside0 ((ord.take (k + 1)).filter (fun r => (mks r).isSome) = (ord.take k).filter (fun r => (mks r).isSome) ++ (if (mks y).isSome = true then [y] else [])) := ⟨by rw [HT1.out, List.filter_append]; cases hh : (mks y).isSome <;> simp [hh]⟩
      generalize (mks y).getD false = q at L1
      generalize (ord.take k).filter (fun r => (mks r).isSome) = ys at *
      clear hm hm0 hxk hk hlt p1 q1 hrd hy HX hyb
      cases hms : (mks y).isSome with
      | false =>
        rw [hms] at L1
        have htf := HTF.out
        rw [hms] at htf
        have HTF2 := Aside0.mk htf
        clear htf HTF hms
        go_wp2
        go_roundw
        case measure => exact HMS.out
        case rel => exact ⟨k + 1, _, rfl, HX2, ⟨by rw [HTF2.out, if_neg (by decide), List.append_nil]; exact ownI_alloc HO.out _⟩, ⟨below_alloc HB.out _⟩⟩
      | true =>
        rw [hms] at L1
        have htf := HTF.out
        rw [hms] at htf
        have HTF2 := Aside0.mk htf
        have HO0 := Aside0.mk (ownI_alloc HO.out (.cells #[.bool q] 96))
        have HB0 := Aside0.mk (below_alloc HB.out (.cells #[.bool q] 96))
        clear htf HTF hms
        go_wp2_with ((with_reducible refine gate_builtin (b := .append) (xs := #[.tmp 27, .tmp 29]) rfl ?_); at_builtin; go_loud (refine print_append_num (w0 := W) W.heap.size rfl (.tmp 27) (.tmp 29) 40 34 .i64 8 rfl Try.underlying40 infoRef (by decide) _ ys y rfl (by show Value.slice (some ⟨wr.heap.size + 1, 0, none⟩) 1 1 = _; rw [World.size_alloc]) ?aO ?aB ?aS ?aL ?_; (case aO => exact HO0.out); (case aB => exact HB0.out); (case aS => exact HB0.out.size); (case aL => have := HL.out; omega); intro v1 w1 ho hb hg hat; have HO1 := Aside0.mk ho; have HB1 := Aside0.mk hb; clear ho hb hg hat))
        go_roundw
        case measure => exact HMS.out
        case rel => exact ⟨k + 1, _, rfl, HX2, ⟨by rw [HTF2.out, if_pos rfl]; exact HO1.out⟩, ⟨HB1.out⟩⟩
    · obtain rfl : k = ord.length := by omega
      have q3 : decide (x < (ord.length : Int)) = false := decide_eq_false (by omega)
      have ho := HO.out
      rw [List.take_length] at ho
      have HO2 := Aside0.mk ho
      clear HO hxk hk hlt HX ho
      go_wp2
      go_ret
      exact ⟨_, rfl, Kd.R_of_own HO2.out (fun _ _ => trivial), HB.out⟩
end Go.Proofs.YtkkkbcjmkmadhaaHand
/-! text YtkkkbcjmkmadhaaArenaSweep -/
namespace Go.Proofs.YtkkkbcjmkmadhaaHand
open Go.RowKit Go.Proofs.YtkkkbcjmkmadhaaW.PrintWords Go.Proofs.YtkkkbcjmkmadhaaW.PrintLast Go.Proofs.YtkkkbcjmkmadhaaMath Go.Proofs.YtkkkbcjmkmadhaaMaps Go.Maps Go.Proofs.YtkkkbcjmkmadhaaOwn
set_option linter.unusedVariables false
set_option linter.unusedSimpArgs false
/-- where places lead, as a map of one's own -/
noncomputable abbrev tM (B n : Nat) (f : Int → Option Int) (c : Nat) : Asr := .im Try.prog 34 intKeys (intElem Try.prog 34 Try.underlying34) B n f c
abbrev tB (b B : Nat) : Asr := .blk b (.cells #[.map (some B)] 138 (0, 0))
theorem refsOf_length (L : List Cl) : (refsOf L).length = (livesOf L).length := by rw [refsOf, List.length_map]
theorem wf_small {x : Nat} (h : x ≤ 8796093022208) : (Lit.int .i64 (x : Int)).wf = true := WalkArith.wf_i64 (by omega)
theorem key_small {x : Nat} (h : x ≤ 8796093022208) : keyOf Try.prog 34 (.int .i64 (x : Int)) = some (intKeys.kl (x : Int)) := hkeyR (by omega)
theorem sizeL_take {L : List Cl} (k : Nat) : sizeL (L.take k) ≤ sizeL L := by
  have h := sizeOf_append (L.take k) (L.drop k)
  rw [List.take_append_drop] at h
  omega
theorem sizeL_filter (p : Cl → Bool) (L : List Cl) : sizeL (L.filter p) ≤ sizeL L := by
  induction L with
  | nil => exact Nat.le_refl _
  | cons c r ih =>
    rw [List.filter_cons]
    split
    · simp only [sizeL]; omega
    · simp only [sizeL]; omega
theorem size_swept (L : List Cl) : sizeL (sweptOf L) ≤ sizeL L := by rw [sweptOf_eq]; exact sizeL_filter _ L
/-- all that lies apart in a sweep's loop -/
noncomputable abbrev swL (b : Nat) (L : List Cl) (n : Nat) (vw : Value) (B : Nat) (vo : Value) (R : List Asr) (cb Bm Bk nm cm nk ck : Nat) (f : Int → Option Int) (g : Int → Option Bool) (v5 v6 vl : Value) (ws os rs : List Int) : List Asr :=
  [aB b vw B vo, .row kI 3 vw (wordsOf L), aM B n (marksOf L) (countOf L), .row kI 34 vo (orderOf L), .all R, tB cb Bm, tM Bm nm f cm, aM Bk nk g ck, .row kI 3 v5 ws, .row kI 34 v6 os, .row kI 34 vl rs]
def sk (L : List Cl) (k : Nat) : List Cl := ((livesOf L).take k).map (·.2)
noncomputable def fk (L : List Cl) (k : Nat) : Int → Option Int := leadIn (leadsGo 0 ((livesOf L).take k))
structure SwStep (L : List Cl) (k : Nat) (p : Nat × Cl) : Prop where
  pl : p ∈ placed 0 L
  live : p.2.live = true
  ref : rd (refsOf L) (k : Int) = (p.1 : Int)
  mark : marksOf L (p.1 : Int) = some p.2.learnt
  words : wordsOf (sk L (k + 1)) = wordsOf (sk L k) ++ [(p.2.lits.length : Int)] ++ p.2.lits
  order : orderOf (sk L (k + 1)) = orderOf (sk L k) ++ [((sizeL (sk L k) : Nat) : Int)]
  marks : marksOf (sk L (k + 1)) = upd (marksOf (sk L k)) ((sizeL (sk L k) : Nat) : Int) p.2.learnt
  fresh : marksOf (sk L k) ((sizeL (sk L k) : Nat) : Int) = none
  count : countOf (sk L (k + 1)) = countOf (sk L k) + 1
  lead : fk L (k + 1) = upd (fk L k) (p.1 : Int) ((sizeL (sk L k) : Nat) : Int)
  room : sizeL (sk L k) + (p.2.lits.length + 1) ≤ sizeL L
  at_ : p.1 + (p.2.lits.length + 1) ≤ sizeL L
  len : (orderOf (sk L k)).length = k
theorem sk_size (L : List Cl) (k : Nat) : sizeL (sk L k) ≤ sizeL L := by
  have : sk L k = (sweptOf L).take k := by rw [sk, sweptOf, List.map_take]
  rw [this]
  exact Nat.le_trans (sizeL_take k) (size_swept L)
theorem sw_step {L : List Cl} {k : Nat} {p : Nat × Cl} (h : (livesOf L)[k]? = some p) : SwStep L k p := by
  obtain ⟨h1, h2⟩ := livesOf_mem (List.mem_of_getElem? h)
  have hlt := (List.getElem?_eq_some_iff.1 h).1
  have hs : sk L (k + 1) = sk L k ++ [⟨p.2.lits, p.2.learnt, true⟩] := swept_step h
  have hr := sk_size L (k + 1)
  rw [hs, sizeOf_append] at hr
  have hb := placed_bd h1
  refine ⟨h1, h2, ?_, by rw [marksOf_live h1, if_pos h2], ?_, by rw [hs]; exact orderOf_append _ _, by rw [hs]; exact funext (marksOf_put _ _ _), marksOf_big _ (.inl (Int.le_refl _)), by rw [hs]; exact countOf_put _ _ _, funext (lead_step h), ?_, ?_, ?_⟩
  · have hlt2 : k < (refsOf L).length := by rw [refsOf_length]; exact hlt
    rw [rd_nat hlt2]
    simp [refsOf, (List.getElem?_eq_some_iff.1 h).2]
  · rw [hs, wordsOf_append]; simp [wordsOf, Cl.words]
  · simpa [sizeL, Cl.len] using hr
  · have := hb.2; unfold Cl.len at this; omega
  · rw [orderOf_length, sk, List.length_map, List.length_take]; omega
theorem own_slice4 {w : World} {base e : Nat} {v : Value} {n : Nat} {xs : List Value} (h : w.ownsRow base e 1 v n xs) : ∃ A m c, v = .slice A m c ∧ m = n := by
  rcases h.2 with ⟨rfl, h0⟩ | ⟨g, cap, cur, rfl, _⟩
  · exact ⟨_, _, _, rfl, h0.symm⟩
  · exact ⟨_, _, _, rfl, rfl⟩
theorem word_lt {L : List Cl} {p : Nat × Cl} (hp : p ∈ placed 0 L) : (p.1 : Int) < ((wordsOf L).length : Int) := by
  have h := placed_bd hp
  have := p.2.len_pos
  rw [wordsOf_length]
  omega
theorem word_at {W : World} {A : Option Addr} {L : List Cl} {p : Nat × Cl} (h : Kd.C (Kd.int .i64) W A (wordsOf L).length (wordsOf L)) (hp : p ∈ placed 0 L) : ∃ ad, A = some ad ∧ W.cell? (ad.add p.1) = some (.int .i64 (p.2.lits.length : Int)) := by
  obtain ⟨ad, e, hc⟩ := Kd.at_int h (p.1 : Int) (Int.natCast_nonneg _) (word_lt hp)
  obtain ⟨P0, Q0, hw, hpl⟩ := placed_words hp
  have hlt := word_lt hp
  have hrd : rd (wordsOf L) (p.1 : Int) = (p.2.lits.length : Int) := by
    rw [rd_nat (by omega)]
    rw [Nat.add_zero] at hpl
    simp [hw, ← hpl, Cl.words]
  rw [hrd, Int.toNat_natCast] at hc
  exact ⟨ad, e, hc⟩
theorem sweep_end {w W : World} {R : List Asr} {A0 A1 A2 A3 C5 C6 C7 C8 C9 C10 : Asr} (h : Sep w nX [A0, A1, A2, A3, .all R, C5, C6, C7, C8, C9, C10] W) : Sep w nX ([A0, C8, C7, C9] ++ (C5 :: C6 :: R)) W := by
  have h1 : Sep w nX ([A0, C8, C7, C9] ++ .all R :: [C5, C6]) W := h.pick [0, 8, 7, 9, 4, 5, 6] (by decide) fun j A hj => by
    match j, hj with
    | 0, hj => exact .inr ⟨0, rfl, hj⟩
    | 1, hj => exact .inr ⟨8, rfl, hj⟩
    | 2, hj => exact .inr ⟨7, rfl, hj⟩
    | 3, hj => exact .inr ⟨9, rfl, hj⟩
    | 4, hj => exact .inr ⟨4, rfl, hj⟩
    | 5, hj => exact .inr ⟨5, rfl, hj⟩
    | 6, hj => exact .inr ⟨6, rfl, hj⟩
    | j + 7, hj => cases hj
  exact h1.frameOut
/-- a walk stops ahead of such a goal -/
structure HoldA (p : Prop) : Prop where
  out : p
set_option maxHeartbeats 16000000 in
set_option maxRecDepth 100000 in
theorem sweep_sep {w W : World} {R : List Asr} {b n B : Nat} {L : List Cl} {Aw Ao : Option Addr} {cw co : Nat} (h : Sep w nX (arL b L n (.slice Aw (wordsOf L).length cw) B (.slice Ao (orderOf L).length co) ++ R) W) (hL : L.length ≤ 8796093022208) (hsz : sizeL L ≤ 8796093022208) :
    Calls Try.prog 77 #[.pointer (some ⟨b, 0, none⟩)] W fun e W' => ∃ cb Bm nm cm vw Bk vo, e = .returned (.func (.func 101) #[] #[.pointer (some ⟨cb, 0, none⟩)]) ∧ Sep w nX (arL b (sweptOf L) (countOf L) vw Bk vo ++ (tB cb Bm :: tM Bm nm (leadIn (leadsOf L)) cm :: R)) W' := by
  have hS0 := (h.frameIn.padEnd 6)
  have HS0 : Aside0 (Sep w nX [aB b (.slice Aw (wordsOf L).length cw) B (.slice Ao (orderOf L).length co), .row kI 3 (.slice Aw (wordsOf L).length cw) (wordsOf L), aM B n (marksOf L) (countOf L), .row kI 34 (.slice Ao (orderOf L).length co) (orderOf L), .all R, .emp, .emp, .emp, .emp, .emp, .emp] W) := ⟨hS0⟩
  clear h hS0
  -- the three new ones: the map of places, its cell, the map of marks
  have hS1 := HS0.out.imNew (P := Try.prog) (k := 34) (Ky := intKeys) (E := intElem Try.prog 34 Try.underlying34) nX_lt 6 rfl
  have hS2 := hS1.fillNew nX_lt 5 rfl (.cells #[.map (some W.heap.size)] 138 (0, 0))
  have hS3 := hS2.imNew (P := Try.prog) (k := 34) (Ky := intKeys) (E := markElem) nX_lt 7 rfl
  have HS3 := Aside0.mk hS3
  clear hS1 hS2 hS3 HS0
  rw [World.size_alloc, World.size_alloc, World.size_alloc] at HS3
  have HLC := Aside0.mk (live_calls (R := [.all R, tB (W.heap.size + 1) W.heap.size, tM W.heap.size 0 (fun _ => none) 0, aM (W.heap.size + 1 + 1) 0 (fun _ => none) 0, .emp, .emp, .emp]) HS3.out hL hsz)
  have HSZ := Aside0.mk hsz
  have HLL := Aside0.mk hL
  have hmm := @run_makeMap Try.prog
  clear hL hsz
  go_enter Try.func77, Try.ntmps77
  go_wp2_with (go_at_call 59; go_loud ((with_reducible refine HLC.out.mono ?_); rintro e w1 ⟨v1, rfl, hR1, hb1⟩; obtain ⟨Al, cl, el⟩ := Kd.R_slice hR1; subst el; have HS4 := Aside0.mk (HS3.out.fill 10 rfl hb1 nX_lt (row_of hR1)); clear hR1 hb1))
  have HS5 : Aside0 (Sep w nX (swL b L n (.slice Aw (wordsOf L).length cw) B (.slice Ao (orderOf L).length co) R (W.heap.size + 1) W.heap.size (W.heap.size + 1 + 1) 0 0 0 0 (fk L 0) (marksOf (sk L 0)) (.slice none 0 0) (.slice none 0 0) (.slice Al (refsOf L).length cl) [] [] (refsOf L)) w1) := by
    have h5 := HS4.out.fillRow nX_lt 8 rfl (k := .i64) (e := 3) (v := .slice none 0 0) (xs := []) (World.ownsRow_nil _ _ _ _) (Below.refl _ _)
    have h6 := h5.fillRow nX_lt 9 rfl (k := .i64) (e := 34) (v := .slice none 0 0) (xs := []) (World.ownsRow_nil _ _ _ _) (Below.refl _ _)
    exact ⟨h6⟩
  clear HS3 HS4 HLC
  generalize W.heap.size + 1 + 1 = Bk at *
  generalize W.heap.size + 1 = cb at *
  generalize W.heap.size = Bm at *
  have HRL : Aside0 ((refsOf L).length = (livesOf L).length ∧ (livesOf L).length ≤ 8796093022208) := ⟨refsOf_length L, by
    have := livesOf_length L
    have h2 := List.length_filter_le (fun c : Cl => c.live) L
    have h3 := HLL.out
    unfold countOf at this
    omega⟩
  go_loopw [5, 6, 8, 9, 15] (fun v5 v6 _ _ v15 wr => ∃ (k : Nat) (x : Int) (A5 A6 : Option Addr) (n5 c5 n6 c6 cm : Nat), v15 = .int .i64 x ∧ v5 = .slice A5 n5 c5 ∧ v6 = .slice A6 n6 c6 ∧ Aside0 (x = k ∧ k ≤ (refsOf L).length ∧ n5 = sizeL (sk L k)) ∧ Aside0 (Sep w nX (swL b L n (.slice Aw (wordsOf L).length cw) B (.slice Ao (orderOf L).length co) R cb Bm Bk k cm k (countOf (sk L k)) (fk L k) (marksOf (sk L k)) (.slice A5 n5 c5) (.slice A6 n6 c6) (.slice Al (refsOf L).length cl) (wordsOf (sk L k)) (orderOf (sk L k)) (refsOf L)) wr)) (fun _ _ _ _ i _ => (refsOf L).length - (intOf i).toNat)
  case atStart => exact ⟨0, 0, none, none, 0, 0, 0, 0, 0, rfl, rfl, rfl, ⟨rfl, Nat.zero_le _, rfl⟩, HS5⟩
  case round =>
    clear HS5
    obtain ⟨k, x, A5, A6, n5, c5, n6, c6, cm, rfl, rfl, rfl, HX, HS⟩ := hrel
    obtain ⟨hxk, hk, hn5⟩ := HX.out
    by_cases hlt : k < (refsOf L).length
    · have p1 : 0 ≤ x := by omega
      have q1 : x < ((refsOf L).length : Int) := by omega
      obtain ⟨ad, e1, hcell⟩ := Kd.at_int (HS.out.rowReads 10 rfl).2.2 x p1 q1
      subst e1
      have p2 := eq_true p1
      have q2 := eq_true q1
      have q3 : decide (x < ((refsOf L).length : Int)) = true := decide_eq_true q1
      have HX2 : Aside0 (wrap64 (x + 1) = ((k + 1 : Nat) : Int) ∧ k + 1 ≤ (refsOf L).length) := by
        have := HRL.out
        exact ⟨by rw [w64 (by omega) (by omega)]; omega, by omega⟩
      have hm : (intOf (.int .i64 (wrap64 (x + 1)))).toNat = k + 1 := by rw [HX2.out.1]; simp [intOf]
      have hm0 : (intOf (.int .i64 x)).toNat = k := by rw [hxk]; simp [intOf]
      have HMS : Aside0 ((refsOf L).length - (intOf (.int .i64 (wrap64 (x + 1)))).toNat < (refsOf L).length - (intOf (.int .i64 x)).toNat) := ⟨by rw [hm, hm0]; omega⟩
      obtain ⟨p, hp⟩ : ∃ p, (livesOf L)[k]? = some p := ⟨_, List.getElem?_eq_getElem (by have := HRL.out.1; omega)⟩
      have HST := Aside0.mk (sw_step hp)
      have hrd : rd (refsOf L) x = (p.1 : Int) := by rw [hxk]; exact HST.out.ref
      rw [hrd] at hcell
      have HN5 := Aside0.mk hn5
      have HB5 : Aside0 (n5 + (p.2.lits.length + 1) ≤ 8796093022208 ∧ p.1 + (p.2.lits.length + 1) ≤ 8796093022208 ∧ k < 8796093022208) := by
        have h1 := HST.out.room
        have h2 := HST.out.at_
        have h3 := HSZ.out
        have h4 := HRL.out
        exact ⟨by omega, by omega, by omega⟩
      have g5 : wr.cell? ⟨cb, 0, none⟩ = some (.map (some Bm)) := (HS.out.cell 5 0 rfl).trans rfl
      clear hm hm0 hxk hk hlt p1 q1 hrd hn5 HX hp
      go_wp2_with (first
        | (at_mapUpdate; go_loud (refine im_store_int _ Try.underlying34 rfl _ _ _ 138 rfl keyR Try.underlying138 rfl (HS.out.imGet 6 rfl) (by have := HB5.out.2.2; unfold maxLen; omega) _ (p.1 : Int) (n5 : Int) rfl rfl (key_small (by have := HB5.out.2.1; omega)) (wf_small (by have := HB5.out.1; omega)) ?_; intro w2 him hg; have HS2 := Aside0.mk (HS.out.imStep nX_lt 6 rfl him hg); have g1 : w2.cell? ⟨b, 1, none⟩ = some (.map (some B)) := (HS2.out.cell 0 1 rfl).trans rfl; have L1 := (HS2.out.imGet 2 rfl).look keyR Try.underlying92 (z := false) (zeroM _) trivial (key_small (x := p.1) (by have := HB5.out.2.1; omega)); rw [HST.out.mark, Option.getD_some] at L1; have L2 : (Instr.lookup 92 (.map (some B)) (.int .i64 (p.1 : Int)) false).run Try.prog w2 = .ok (.agg #[.bool p.2.learnt]) w2 := L1; clear him hg L1))
        | (at_mapUpdate; go_loud (refine im_store_mark _ rfl _ _ _ 92 rfl keyR Try.underlying92 rfl (HS2.out.imGet 7 rfl) (by have := HB5.out.2.2; unfold maxLen; omega) _ (n5 : Int) p.2.learnt rfl rfl (key_small (by have := HB5.out.1; omega)) ?_; intro w3 him hg; have HS3 := Aside0.mk (HS2.out.imStep nX_lt 7 rfl him hg); clear him hg))
        | ((with_reducible refine gate_builtin (b := .append) (xs := #[.tmp 32, .tmp 34]) rfl ?_); at_builtin; go_loud (refine print_append_num (w0 := w3) 0 rfl (.tmp 32) (.tmp 34) 40 34 .i64 8 rfl Try.underlying40 infoRef (by decide) _ (orderOf (sk L k)) (n5 : Int) rfl rfl ?aO ?aB ?aS ?aL ?_; (case aO => exact HS3.out.ownRow 9 rfl); (case aB => exact Below.refl _ _); (case aS => exact Nat.zero_le _); (case aL => have := HB5.out.2.2; rw [HST.out.len]; omega); intro v4 w4 ho _ hg hat; have HS4 := Aside0.mk (HS3.out.grownRow nX_lt 9 rfl ho hg hat); obtain ⟨A4, n4, c4, e4⟩ := own_slice3 ho; subst e4; have g0 : w4.cell? ⟨b, 0, none⟩ = some (.slice Aw (wordsOf L).length cw) := (HS4.out.cell 0 0 rfl).trans rfl; obtain ⟨adw, ew, hcw⟩ := word_at (HS4.out.rowReads 1 rfl).2.2 HST.out.pl; subst ew; have i1 : ((0 : Int) ≤ (p.1 : Int)) = True := eq_true (Int.natCast_nonneg _); have i2 : ((p.1 : Int) < ((wordsOf L).length : Int)) = True := eq_true (word_lt HST.out.pl); clear ho hg hat))
        | ((with_reducible refine gate_builtin (b := .append) (xs := #[.tmp 36, .tmp 44]) rfl ?_); at_builtin; go_loud (refine print_append_num (w0 := w4) 0 rfl (.tmp 36) (.tmp 44) 27 3 .i64 8 rfl Try.underlying27 infoI (by decide) _ (wordsOf (sk L k)) (p.2.lits.length : Int) rfl rfl ?aO ?aB ?aS ?aL ?_; (case aO => exact HS4.out.ownRow 8 rfl); (case aB => exact Below.refl _ _); (case aS => exact Nat.zero_le _); (case aL => have := HB5.out.1; rw [wordsOf_length, ← HN5.out]; omega); intro v5 w5 ho _ hg hat; have HS5 := Aside0.mk (HS4.out.grownRow nX_lt 8 rfl ho hg hat); obtain ⟨A7, n7, c7, e7⟩ := own_slice3 ho; subst e7; clear ho hg hat))
        | (go_at_call 58; go_loud ((with_reducible refine (cut_sep (R := [.all R, tB cb Bm, tM Bm (k + 1) _ _, aM Bk (k + 1) _ _, .row kI 3 (.slice A7 n7 c7) _, .row kI 34 (.slice A4 n4 c4) _, .row kI 34 (.slice (some ad) (refsOf L).length cl) (refsOf L)]) HS5.out HST.out.pl HSZ.out _ rfl).mono ?_); rintro e w6 ⟨⟨A8, rfl, hC8⟩, rfl⟩; have HC8 := Aside0.mk hC8; clear hC8))
        | ((with_reducible refine gate_builtin (b := .append) (xs := #[.tmp 46, .tmp 49]) rfl ?_); at_builtin; go_loud (refine print_append_row (w0 := w6) 0 rfl (.tmp 46) (.tmp 49) 27 3 .i64 8 rfl Try.underlying27 infoI (by decide) _ (wordsOf (sk L k) ++ [(p.2.lits.length : Int)]) p.2.lits A8 _ _ rfl rfl ?aO ?aR ?aB ?aS ?aL ?_; (case aO => exact HS5.out.ownRow 8 rfl); (case aR => exact Kd.reads_of_C HC8.out); (case aB => exact Below.refl _ _); (case aS => exact Nat.zero_le _); (case aL => have := HB5.out.1; rw [List.length_append, List.length_singleton, wordsOf_length, ← HN5.out]; omega); intro v9 w9 ho _ hg hat; have HS9 := Aside0.mk (HS5.out.grownRow nX_lt 8 rfl ho hg hat); have HLN := Aside0.mk ho.1; obtain ⟨A9, n9, c9, e9, hn9⟩ := own_slice4 ho; subst e9; have HN9 := Aside0.mk hn9; clear ho hg hat hn9)))
      go_roundw
      case measure => exact HMS.out
      case rel =>
        have hS := HS9.out
        have hf : marksOf (sk L k) (n5 : Int) = none := by rw [HN5.out]; exact HST.out.fresh
        rw [hf] at hS
        refine ⟨k + 1, _, A9, A4, n9, c9, n4, c4, if (fk L k (p.1 : Int)).isSome = true then cm else cm + 1, rfl, rfl, rfl, ⟨HX2.out.1, HX2.out.2, ?_⟩, ⟨?_⟩⟩
        · rw [HN9.out, ← wordsOf_length, HST.out.words]
        · rw [HST.out.words, HST.out.order, HST.out.marks, HST.out.count, HST.out.lead, ← HN5.out]
          exact hS
    · obtain rfl : k = (refsOf L).length := by omega
      have q3 : decide (x < ((refsOf L).length : Int)) = false := decide_eq_false (by omega)
      have hsk : sk L (refsOf L).length = sweptOf L := by rw [sk, HRL.out.1, List.take_length]; rfl
      have hfk : fk L (refsOf L).length = leadIn (leadsOf L) := by rw [fk, HRL.out.1, List.take_length]; rfl
      have hrc : (refsOf L).length = countOf L := by rw [HRL.out.1, livesOf_length]
      have hs := HS.out
      rw [hsk, hfk] at hs
      have HF := Aside0.mk hs
      have HRC := Aside0.mk hrc
      have g0 : wr.cell? ⟨b, 0, none⟩ = some (.slice Aw (wordsOf L).length cw) := (hs.cell 0 0 rfl).trans rfl
      have g1 : wr.cell? ⟨b, 1, none⟩ = some (.map (some B)) := (hs.cell 0 1 rfl).trans rfl
      have g2 : wr.cell? ⟨b, 2, none⟩ = some (.slice Ao (orderOf L).length co) := (hs.cell 0 2 rfl).trans rfl
      have y0 : wr.frozen? ⟨b, 0, none⟩ = false := hs.frozen 0 0 rfl
      have y1 : wr.frozen? ⟨b, 1, none⟩ = false := hs.frozen 0 1 rfl
      have y2 : wr.frozen? ⟨b, 2, none⟩ = false := hs.frozen 0 2 rfl
      clear hs hsk hfk hrc hxk hk hn5 hlt HX HS
      go_wp2
      go_ret
      refine ⟨cb, Bm, (refsOf L).length, cm, .slice A5 n5 c5, Bk, .slice A6 n6 c6, rfl, ?_⟩
      have h1 := HF.out.put nX_lt 0 0 rfl (.slice A5 n5 c5) rfl
      have h2 := h1.put nX_lt 0 1 rfl (.map (some Bk)) rfl
      have h3 := h2.put nX_lt 0 2 rfl (.slice A6 n6 c6) rfl
      rw [← HRC.out]
      exact sweep_end h3
end Go.Proofs.YtkkkbcjmkmadhaaHand
