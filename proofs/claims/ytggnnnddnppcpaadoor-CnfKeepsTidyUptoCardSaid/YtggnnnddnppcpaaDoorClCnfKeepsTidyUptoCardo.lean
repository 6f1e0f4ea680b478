/- depotkit.ApartInts: of rows that lie apart it answers true; it turns their blocks alone. -/
import Derived.Test.YtggnnnddnppcpaaDoorClCnfKeepsTidyUptoCardn
import Derived.Test.YtggnnnddnppcpaaDoorClCnfKeepsTidyUptoCardl
import Derived.Test.YtggnnnddnppcpaaDoorClCnfKeepsTidyUptoCardk
import Derived.StillTailTactics
import Derived.OrdersIn
import Derived.OrdersHeld
import Derived.RangeFuncCalls
import Derived.RegionTactic
import Derived.Test.YtggnnnddnppcpaaDoorClCnfKeepsTidyUptoCardp0
/-! text YtggnnnddnppcpaaDoorApartInts -/
namespace Go.Proofs.YtggnnnddnppcpaaDoorHand
open Go.RowKit Go.Proofs.YtggnnnddnppcpaaDoorW.PrintWords Go.Proofs.YtggnnnddnppcpaaDoorW.PrintLast Go.Proofs.YtggnnnddnppcpaaDoorMath Go.Proofs.YtggnnnddnppcpaaDoorOwn
set_option linter.unusedVariables false
set_option linter.unusedSimpArgs false
def mk (a b : Int) : Int := wrap64 (wrap64 (1000003 * wrap64 (a + 7)) + b)
theorem mark_still (a b : Int) (w : World) : Calls Tryd.prog 26 #[.int .i64 a, .int .i64 b] w fun e w' => e = .returned (.int .i64 (mk a b)) ∧ w' = w := by
  go_enter Tryd.func26, Tryd.ntmps26
  go_wp2
  go_ret
  exact ⟨rfl, rfl⟩
theorem mark_calls (a b : Int) (w : World) : Calls Tryd.prog 26 #[.int .i64 a, .int .i64 b] w fun e w' => e = .returned (.int .i64 (mk a b)) ∧ Drawn0 w w' := (mark_still a b w).mono fun e w' h => ⟨h.1, by rw [h.2]; exact Drawn0.refl _⟩
theorem infoAI : (Tryd.prog.info? 3).map (fun i => (i.zero, i.size, i.bytes)) = some (some (.int .i64 0), 1, 8) := by kernel_rfl
theorem infoAR : (Tryd.prog.info? 40).map (fun i => (i.zero, i.size, i.bytes)) = some (some (.slice none 0 0), 1, 24) := by kernel_rfl
def EM (k j : Nat) : Value := .int .i64 (mk k j)
theorem At.form' {f : Nat → Nat} {t n : Nat} {e : TypeId} {W : World} {v : Value} {xs : List Value} (h : At f t e W v n xs) : ∃ A c, v = .slice A n c := by
  rcases h.form with ⟨h1, h2, _⟩ | ⟨b, c, _, h1, _⟩
  · subst h2; exact ⟨none, 0, h1⟩
  · exact ⟨_, c, h1⟩
theorem wpList_append_run {P : Program} {ops : Array Oper} {rest : List Oper} {o : Oper} {a : Act} {w w' : World} {Q : Exit → Act → World → Prop} (hg : o.guard = none) (s x : Operand) (t : TypeId) (hop : o.op = Op.call { callee := Callee.builtin Builtin.append, args := #[s, x], argTypes := #[t, t] })
    {v vx v' : Value} (hs : a.eval s = v) (hx : a.eval x = vx) (hrun : (Builtin.append_ #[t, t] o.type #[v, vx]).run P w = .ok v' w') (h : wpList P ops Q rest (a.put o.dst v') w') : wpList P ops Q (o :: rest) a w :=
  wpList_plain hg fun _ hK => by
    unfold Oper.wp execOp
    simp only [hop, resolve, invoke, builtin, Sem.run_bind, Sem.run_pure, Result.andThen_ok, List.map_toArray, List.map_cons, List.map_nil, hs, hx, hrun]
    exact hK _ _ h

set_option maxHeartbeats 8000000 in
set_option maxRecDepth 100000 in
theorem apartInts_calls (rows : List (Value × Nat)) (A : Option Addr) (c : Nat) (D0 : List (Value × List Value)) (w : World) (hQ : AQ 3 40 w rows A D0 (.slice none 0 0) [] (.slice none 0 0) [] [] w) (hM : M1 EM rows D0 0 0)
    (hn : rows.length ≤ 1099511627776) (hs : ∀ p ∈ rows, p.2 ≤ 1099511627776) :
    Calls Tryd.prog 53 #[.slice A rows.length c] w fun e w' => e = .returned (.bool true) ∧ Grow (MR rows) w w' := by
  have HQ := Aside0.mk hQ
  have HM := Aside0.mk hM
  have HN := Aside0.mk hn
  have HS : Aside0 (∀ (k : Nat) p, rows[k]? = some p → p.2 ≤ 1099511627776) := ⟨fun k p h => hs p (List.mem_of_getElem? h)⟩
  clear hQ hM hn hs
  go_enter Tryd.func53, Tryd.ntmps53
  go_wp2
  go_loopw [3, 4] (fun v3 _ wr => ∃ (k : Nat) (x : Int) (D : List (Value × List Value)), v3 = .int .i64 x ∧ Aside0 (x = k ∧ k ≤ rows.length) ∧ Aside0 (M1 EM rows D k 0) ∧ Aside0 (AQ 3 40 w rows A D (.slice none 0 0) [] (.slice none 0 0) [] [] wr)) (fun i _ _ => rows.length - (intOf i).toNat)
  case atStart => exact ⟨0, 0, D0, rfl, ⟨rfl, Nat.zero_le _⟩, HM, HQ⟩
  case round =>
    clear HM HQ
    obtain ⟨k, x, D, rfl, HX, HM, HQ⟩ := hrel
    obtain ⟨hxk, hk⟩ := HX.out
    by_cases hlt : k < rows.length
    · have q3 : decide (x < (rows.length : Int)) = true := decide_eq_true (by omega)
      have p2 : ((0 : Int) ≤ x) = True := eq_true (by omega)
      have q2 : (x < (rows.length : Int)) = True := eq_true (by omega)
      have HLT := Aside0.mk hlt
      have HX2 : Aside0 (wrap64 (x + 1) = ((k + 1 : Nat) : Int) ∧ k + 1 ≤ rows.length) := by
        have := HN.out
        exact ⟨by rw [w64 (by omega) (by omega)]; omega, by omega⟩
      have hm : (intOf (.int .i64 (wrap64 (x + 1)))).toNat = k + 1 := by rw [HX2.out.1]; simp [intOf]
      have hm0 : (intOf (.int .i64 x)).toNat = k := by rw [hxk]; simp [intOf]
      have HMS : Aside0 (rows.length - (intOf (.int .i64 (wrap64 (x + 1)))).toNat < rows.length - (intOf (.int .i64 x)).toNat) := ⟨by rw [hm, hm0]; omega⟩
      obtain ⟨p, hp⟩ : ∃ p, rows[k]? = some p := ⟨_, List.getElem?_eq_getElem hlt⟩
      obtain ⟨ad, hA, _⟩ := HQ.out.out hp
      subst hA
      have HP := Aside0.mk hp
      clear hm hm0 hk hlt hp hxk
      go_wp2
      go_loopw [4] (fun v4 wr => ∃ (i : Nat) (y : Int) (D : List (Value × List Value)), v4 = .int .i64 y ∧ Aside0 (y = i ∧ i ≤ p.2) ∧ Aside0 (M1 EM rows D k i) ∧ Aside0 (AQ 3 40 w rows (some ad) D (.slice none 0 0) [] (.slice none 0 0) [] [] wr)) (fun i _ => p.2 - (intOf i).toNat)
      case atStart => exact ⟨0, 0, D, rfl, ⟨rfl, Nat.zero_le _⟩, HM, HQ⟩
      case round =>
        clear HM HQ
        obtain ⟨i, y, D, rfl, HY, HM, HQ⟩ := hrel
        obtain ⟨hyi, hi⟩ := HY.out
        obtain ⟨ad', hA', hcell⟩ := HQ.out.out HP.out
        cases hA'
        obtain ⟨d, hd⟩ : ∃ d, D[k]? = some d := ⟨_, List.getElem?_eq_getElem (by rw [HQ.out.len]; exact HLT.out)⟩
        obtain ⟨f, hr⟩ := HQ.out.row HP.out hd
        obtain ⟨Ap, cp, hpf⟩ := At.form' hr.old
        have hxk' : ad.add k = ad.add x.toNat := by rw [HX.out.1]; rfl
        rw [hxk', hpf] at hcell
        by_cases hlt2 : i < p.2
        · obtain ⟨e1, e2, _⟩ := HM.out k p d HP.out hd
          have q4 : decide (y < (p.2 : Int)) = true := decide_eq_true (by omega)
          have p5 : ((0 : Int) ≤ y) = True := eq_true (by omega)
          have q5 : (y < (p.2 : Int)) = True := eq_true (by omega)
          obtain ⟨u, hu⟩ : ∃ u, d.2[i]? = some u := ⟨_, List.getElem?_eq_getElem (by omega)⟩
          obtain ⟨b, c', ef, hin, cell2, fz⟩ := hr.now.cell hu
          have hyi' : (⟨b, 0, none⟩ : Addr).add y.toNat = ⟨b, i, none⟩ := by rw [hyi, add_at, Nat.zero_add]; rfl
          have HB : Aside0 (p = (.slice (some ⟨b, 0, none⟩) p.2 c', p.2) ∧ d = (.slice (some ⟨b, 0, none⟩) p.2 c', d.2)) := by
            obtain ⟨p1, p2⟩ := p
            obtain ⟨d1, d2⟩ := d
            simp only at e1 e2 ef
            rw [e2] at ef
            subst e1
            subst ef
            exact ⟨rfl, rfl⟩
          obtain ⟨ad2, had2⟩ : ∃ ad2, ad2 = (⟨b, 0, none⟩ : Addr) := ⟨_, rfl⟩
          have hpf2 : (Value.slice Ap p.2 cp) = .slice (some ad2) p.2 c' := by rw [← hpf, had2]; have := HB.out.1; rw [this]
          injection hpf2 with e3 _ e4
          subst e3 e4
          rw [← had2] at hyi'
          rw [← hyi'] at cell2 fz
          have HAD := Aside0.mk had2
          have HD := Aside0.mk hd
          have HY2 : Aside0 (wrap64 (y + 1) = ((i + 1 : Nat) : Int) ∧ i + 1 ≤ p.2) := by
            have := HS.out k p HP.out
            exact ⟨by rw [w64 (by omega) (by omega)]; omega, by omega⟩
          have hm : (intOf (.int .i64 (wrap64 (y + 1)))).toNat = i + 1 := by rw [HY2.out.1]; simp [intOf]
          have hm0 : (intOf (.int .i64 y)).toNat = i := by rw [hyi]; simp [intOf]
          have HMS2 : Aside0 (p.2 - (intOf (.int .i64 (wrap64 (y + 1)))).toNat < p.2 - (intOf (.int .i64 y)).toNat) := ⟨by rw [hm, hm0]; omega⟩
          have HI := Aside0.mk hlt2
          clear hm hm0 had2 hd hyi hi hlt2 e1 e2 hu hin ef hpf hr hyi' hxk'
          go_wp2
          refine wp_region_still_tail 9 (by kernel_rfl) (by kernel_rfl) ?_
          simp only [List.take_succ_cons, List.take_zero, List.drop_succ_cons, List.drop_zero]
          repeat still_step
          still_call (mark_still x y _)
          repeat still_step
          refine wpStill_nil ?_
          change wpList _ _ _ _ _ wr.drew
          go_wp2
          go_roundw
          case measure => exact HMS2.out
          case rel =>
            obtain ⟨hp1, hd1⟩ := HB.out
            have hD := HD.out
            rw [hd1] at hD
            have hP := HP.out
            rw [hp1] at hP
            refine ⟨i + 1, _, D.set k (.slice (some ⟨b, 0, none⟩) p.2 cp, d.2.set i (EM k i)), rfl, HY2, ⟨HM.out.mark HP.out hD HI.out⟩, ⟨?_⟩⟩
            have h5 := HQ.out.mark hP hD i (EM k i)
            rw [HAD.out, HY.out.1, HX.out.1, add_at, Nat.zero_add]
            exact h5.keep (below_drew (Below.refl _ _))
        · have hie : i = p.2 := by omega
          have q4 : decide (y < (p.2 : Int)) = false := decide_eq_false (by omega)
          rw [hie] at HM
          clear hyi hi hlt2 hie hr hpf hxk' hd HY
          go_wp2
          go_roundw
          case measure => exact HMS.out
          case rel => exact ⟨k + 1, _, D, rfl, HX2, ⟨HM.out.next HP.out⟩, HQ⟩
    · obtain rfl : k = rows.length := by omega
      have q3 : decide (x < (rows.length : Int)) = false := decide_eq_false (by omega)
      have HM2 := Aside0.mk HM.out.done
      clear hk hlt hxk HX HM
      go_wp2
      go_loopw [5, 6, 7, 8] (fun v5 v6 _ _ wr => ∃ (k : Nat) (x : Int) (D : List (Value × List Value)) (H : List Value), v6 = .int .i64 x ∧ Aside0 (x = k ∧ k ≤ rows.length) ∧ Aside0 (M2 EM rows D k 0 ∧ HD D H k) ∧ Aside0 (AQ 3 40 w rows A D v5 H (.slice none 0 0) [] [] wr)) (fun _ i _ _ _ => rows.length - (intOf i).toNat)
      case atStart => exact ⟨0, 0, D, [], rfl, ⟨rfl, Nat.zero_le _⟩, ⟨HM2.out, HD.start⟩, HQ⟩
      case round =>
        clear HM2 HQ
        obtain ⟨k, x, D, H, rfl, HX, HM, HQ⟩ := hrel
        obtain ⟨hxk, hk⟩ := HX.out
        by_cases hlt : k < rows.length
        · have q3 : decide (x < (rows.length : Int)) = true := decide_eq_true (by omega)
          have p2 : ((0 : Int) ≤ x) = True := eq_true (by omega)
          have q2 : (x < (rows.length : Int)) = True := eq_true (by omega)
          have HLT := Aside0.mk hlt
          have HX2 : Aside0 (wrap64 (x + 1) = ((k + 1 : Nat) : Int) ∧ k + 1 ≤ rows.length) := by
            have := HN.out
            exact ⟨by rw [w64 (by omega) (by omega)]; omega, by omega⟩
          have hm : (intOf (.int .i64 (wrap64 (x + 1)))).toNat = k + 1 := by rw [HX2.out.1]; simp [intOf]
          have hm0 : (intOf (.int .i64 x)).toNat = k := by rw [hxk]; simp [intOf]
          have HMS : Aside0 (rows.length - (intOf (.int .i64 (wrap64 (x + 1)))).toNat < rows.length - (intOf (.int .i64 x)).toNat) := ⟨by rw [hm, hm0]; omega⟩
          obtain ⟨p, hp⟩ : ∃ p, rows[k]? = some p := ⟨_, List.getElem?_eq_getElem hlt⟩
          obtain ⟨d, hd⟩ : ∃ d, D[k]? = some d := ⟨_, List.getElem?_eq_getElem (by rw [HQ.out.len]; exact HLT.out)⟩
          obtain ⟨ad, hA, hcell⟩ := HQ.out.out hp
          subst hA
          obtain ⟨f, hr⟩ := HQ.out.row hp hd
          obtain ⟨Ap, cp, hpf⟩ := At.form' hr.old
          have hxk' : ad.add k = ad.add x.toNat := by rw [hxk]; rfl
          rw [hxk', hpf] at hcell
          have HP := Aside0.mk hp
          have HPF := Aside0.mk hpf
          have HSP : Aside0 (p.2 ≤ 1099511627776) := ⟨HS.out k p hp⟩
          have hd3 := HM.out.1.row hp hd
          have HST : Aside0 (∃ D', D'[k]? = some (p.1, marks (EM k) p.2) ∧ M2 EM rows D' k 0 ∧ HD D' H k ∧ AQ 3 40 w rows (some ad) D' u5 H (.slice none 0 0) [] [] wr) := by
            rw [Nat.add_zero] at hd3
            have h5 := HQ.out.reset hp hd
            rw [hd3, marks_take _ (Nat.le_refl _)] at h5
            refine ⟨_, ?_, HM.out.1.set hp hd (d' := (p.1, marks (EM k) p.2)) (by rw [Nat.add_zero]), HM.out.2.set, h5⟩
            rw [List.getElem?_set, if_pos rfl, if_pos (List.getElem?_eq_some_iff.1 hd).1]
          clear hm hm0 hk hlt hp hxk hd hr hxk' hpf hd3
          go_wp2
          obtain ⟨D', hd', hM', hH', hQ'⟩ := HST.out
          have HM' := Aside0.mk (And.intro hM' hH')
          have HQ' := Aside0.mk hQ'
          have HD' := Aside0.mk hd'
          clear HST hd' hM' hH' hQ' HM HQ
          go_loopw [7, 8] (fun v7 v8 wr => ∃ (j : Nat) (z : Int) (D : List (Value × List Value)), v8 = .int .i64 z ∧ Aside0 (z = j ∧ j ≤ 64) ∧ Aside0 (M2 EM rows D k j ∧ HD D H k) ∧ Aside0 (D[k]? = some (v7, marks (EM k) (p.2 + j))) ∧ Aside0 (AQ 3 40 w rows (some ad) D u5 H (.slice none 0 0) [] [] wr)) (fun _ i _ => 64 - (intOf i).toNat)
          case atStart => exact ⟨0, 0, D', rfl, ⟨rfl, Nat.zero_le _⟩, HM', ⟨by rw [← HPF.out]; exact HD'.out⟩, HQ'⟩
          case round =>
            clear HM' HQ' HD' hcell
            obtain ⟨j, z, D, rfl, HZ, HM, HDK, HQ⟩ := hrel
            obtain ⟨hzj, hj⟩ := HZ.out
            obtain ⟨ad', hA', hcell⟩ := HQ.out.out HP.out
            cases hA'
            have hxk' : ad.add k = ad.add x.toNat := by rw [HX.out.1]; rfl
            rw [hxk', HPF.out] at hcell
            by_cases hlt2 : j < 64
            · have q4 : decide (z < 64) = true := decide_eq_true (by omega)
              have HZ2 : Aside0 (wrap64 (z + 1) = ((j + 1 : Nat) : Int) ∧ j + 1 ≤ 64) := ⟨by rw [w64 (by omega) (by omega)]; omega, by omega⟩
              have hm : (intOf (.int .i64 (wrap64 (z + 1)))).toNat = j + 1 := by rw [HZ2.out.1]; simp [intOf]
              have hm0 : (intOf (.int .i64 z)).toNat = j := by rw [hzj]; simp [intOf]
              have HMS2 : Aside0 (64 - (intOf (.int .i64 (wrap64 (z + 1)))).toNat < 64 - (intOf (.int .i64 z)).toNat) := ⟨by rw [hm, hm0]; omega⟩
              have HE : Aside0 (EM k (p.2 + j) = .int .i64 (mk x (wrap64 ((p.2 : Int) + z)))) := ⟨by
                have := HSP.out
                rw [w64 (by omega) (by omega), HX.out.1, hzj]
                unfold EM
                push_cast
                rfl⟩
              have HAP := Aside0.mk (AQ.append (P := Tryd.prog) (ty := 40) (tt := 40) (c := 1) (m := 1) (ad := ⟨wr.heap.size, 0, none⟩) (news := [.int .i64 (mk x (wrap64 ((p.2 : Int) + z)))]) (HQ.out.keep (below_alloc (Below.refl wr.heap.size wr) (.cells #[.int .i64 (mk x (wrap64 ((p.2 : Int) + z)))] 3 (0, 0)))) HP.out HDK.out Tryd.underlying40 infoAI (by decide) rfl (cell_one_new wr _ 3) (fun u hu => by rw [List.mem_singleton.1 hu]; rfl) (by omega) (by have := HSP.out; simp only [marks_len, maxLen]; omega) (by have := HSP.out; simp only [marks_len]; omega))
              clear hm hm0 hzj hj hlt2 hxk'
              go_wp2_with (first
                | (go_at_call 26; (with_reducible refine (mark_still x _ _).mono ?_); rintro e w' ⟨rfl, rfl⟩)
                | ((with_reducible refine gate_builtin (b := .append) (xs := #[.tmp 54, .tmp 64]) rfl ?_); at_builtin; obtain ⟨v', W1, hrun, hQ1, hsz⟩ := HAP.out; refine wpList_append_run rfl (.tmp 54) (.tmp 64) 40 rfl rfl rfl hrun ?_; have HQ1 := Aside0.mk hQ1; clear hrun hQ1 hsz))
              go_roundw
              case measure => exact HMS2.out
              case rel =>
                have hsucc : marks (EM k) (p.2 + (j + 1)) = marks (EM k) (p.2 + j) ++ [.int .i64 (mk x (wrap64 ((p.2 : Int) + z)))] := by rw [← HE.out, ← marks_succ]; rfl
                refine ⟨j + 1, _, _, rfl, HZ2, ⟨HM.out.1.set HP.out HDK.out hsucc.symm, HM.out.2.set⟩, ⟨?_⟩, HQ1⟩
                rw [List.getElem?_set, if_pos rfl, if_pos (List.getElem?_eq_some_iff.1 HDK.out).1, hsucc]
            · have hje : j = 64 := by omega
              have q4 : decide (z < 64) = false := decide_eq_false (by omega)
              rw [hje] at HM HDK
              obtain ⟨f7, hr7⟩ := HQ.out.row HP.out HDK.out
              obtain ⟨A7, c7, e7⟩ := At.form' hr7.now
              replace e7 : u7 = .slice A7 (p.2 + 64) c7 := by simpa [marks_len] using e7
              subst e7
              have HAP := Aside0.mk (AQ.push (P := Tryd.prog) (ty := 22) (tt := 22) (c := 1) (m := 1) (ad := ⟨wr.heap.size, 0, none⟩) (news := [.slice A7 (p.2 + 64) c7]) (HQ.out.keep (below_alloc (Below.refl wr.heap.size wr) (.cells #[.slice A7 (p.2 + 64) c7] 40 (0, 0)))) Tryd.underlying22 infoAR (by decide) rfl (cell_one_new wr _ 40) (fun u hu => by rw [List.mem_singleton.1 hu]; rfl) (by omega) (by have := HM.out.2.1; have := HX.out.2; have := HN.out; simp only [maxLen]; omega) (by have := HM.out.2.1; have := HX.out.2; have := HN.out; omega))
              clear hzj hj hlt2 hxk' hje hr7 HZ
              go_wp2_with (first
                | ((with_reducible refine gate_builtin (b := .append) (xs := #[.tmp 66, .tmp 68]) rfl ?_); at_builtin; obtain ⟨v', W1, hrun, hQ1, hsz⟩ := HAP.out; refine wpList_append_run rfl (.tmp 66) (.tmp 68) 22 rfl rfl rfl hrun ?_; have HQ1 := Aside0.mk hQ1; clear hrun hQ1 hsz))
              go_roundw
              case measure => exact HMS.out
              case rel => exact ⟨k + 1, _, D, _, rfl, HX2, ⟨HM.out.1.next, HM.out.2.push HDK.out⟩, HQ1⟩
        · obtain rfl : k = rows.length := by omega
          have q3 : decide (x < (rows.length : Int)) = false := decide_eq_false (by omega)
          clear hk hlt hxk HX
          go_wp2
          go_loopw [9, 10] (fun v9 _ wr => ∃ (k : Nat) (x : Int), v9 = .int .i64 x ∧ Aside0 (x = k ∧ k ≤ rows.length) ∧ Aside0 (AQ 3 40 w rows A D u5 H (.slice none 0 0) [] [] wr)) (fun i _ _ => rows.length - (intOf i).toNat)
          case atStart => exact ⟨0, 0, rfl, ⟨rfl, Nat.zero_le _⟩, HQ⟩
          case round =>
            clear HQ
            obtain ⟨k, x, rfl, HX, HQ⟩ := hrel
            obtain ⟨hxk, hk⟩ := HX.out
            by_cases hlt : k < rows.length
            · have q3 : decide (x < (rows.length : Int)) = true := decide_eq_true (by omega)
              have p2 : ((0 : Int) ≤ x) = True := eq_true (by omega)
              have q2 : (x < (rows.length : Int)) = True := eq_true (by omega)
              have HLT := Aside0.mk hlt
              have HX2 : Aside0 (wrap64 (x + 1) = ((k + 1 : Nat) : Int) ∧ k + 1 ≤ rows.length) := by
                have := HN.out
                exact ⟨by rw [w64 (by omega) (by omega)]; omega, by omega⟩
              have hm : (intOf (.int .i64 (wrap64 (x + 1)))).toNat = k + 1 := by rw [HX2.out.1]; simp [intOf]
              have hm0 : (intOf (.int .i64 x)).toNat = k := by rw [hxk]; simp [intOf]
              have HMS : Aside0 (rows.length - (intOf (.int .i64 (wrap64 (x + 1)))).toNat < rows.length - (intOf (.int .i64 x)).toNat) := ⟨by rw [hm, hm0]; omega⟩
              obtain ⟨p, hp⟩ : ∃ p, rows[k]? = some p := ⟨_, List.getElem?_eq_getElem hlt⟩
              obtain ⟨d, hd⟩ : ∃ d, D[k]? = some d := ⟨_, List.getElem?_eq_getElem (by rw [HQ.out.len]; exact HLT.out)⟩
              obtain ⟨ad, hA, _⟩ := HQ.out.out hp
              subst hA
              have hH := HM.out.2.2 k d hlt hd
              obtain ⟨f5, t5, h5⟩ := HQ.out.gs
              obtain ⟨b5, c5, e5, _, _, _⟩ := h5.cell hH
              have HHL : Aside0 (H.length = rows.length) := ⟨HM.out.2.1⟩
              rw [HHL.out] at e5
              have hr := HM.out.1.full hp hd
              have HP := Aside0.mk hp
              have HDK : Aside0 (d.2 = marks (EM k) (p.2 + 64) ∧ D[k]? = some d ∧ H[k]? = some d.1) := ⟨hr, hd, hH⟩
              have HSP : Aside0 (p.2 ≤ 1099511627776) := ⟨HS.out k p hp⟩
              obtain ⟨ad5, had5⟩ : ∃ ad5, ad5 = (⟨b5, 0, none⟩ : Addr) := ⟨_, rfl⟩
              rw [← had5] at e5
              have HAD5 := Aside0.mk had5
              subst e5
              obtain ⟨m, hm64⟩ : ∃ m, m = p.2 + 64 := ⟨_, rfl⟩
              have HM64 := Aside0.mk hm64
              clear hm hm0 hk hlt hp hxk hd hr hH h5 had5 hm64
              go_wp2
              go_loopw [10] (fun v10 wr => ∃ (i : Nat) (y : Int), v10 = .int .i64 y ∧ Aside0 (y = i ∧ i ≤ m) ∧ Aside0 (AQ 3 40 w rows (some ad) D (.slice (some ad5) rows.length c5) H (.slice none 0 0) [] [] wr)) (fun i _ => m - (intOf i).toNat)
              case atStart => exact ⟨0, 0, rfl, ⟨rfl, Nat.zero_le _⟩, HQ⟩
              case round =>
                clear HQ
                obtain ⟨i, y, rfl, HY, HQ⟩ := hrel
                obtain ⟨hyi, hi⟩ := HY.out
                obtain ⟨f5, t5, h5⟩ := HQ.out.gs
                obtain ⟨b6, c6, e6, _, cell5, _⟩ := h5.cell HDK.out.2.2
                have hb6 : b6 = b5 := by
                  injection e6 with e6 _ _
                  injection e6 with e6
                  rw [HAD5.out] at e6
                  injection e6 with e6
                  exact e6.symm
                subst hb6
                have hxk5 : (⟨b6, k, none⟩ : Addr) = ad5.add x.toNat := by rw [HAD5.out, HX.out.1, add_at, Nat.zero_add]; rfl
                rw [hxk5] at cell5
                obtain ⟨f, hr⟩ := HQ.out.row HP.out HDK.out.2.1
                obtain ⟨Ad, cd, edf⟩ := At.form' hr.now
                have hln : d.2.length = m := by rw [HDK.out.1, marks_len, HM64.out]
                rw [hln] at edf
                rw [edf] at cell5
                have hbound := HSP.out
                have hmm := HM64.out
                have HY2 : Aside0 (wrap64 (y + 1) = ((i + 1 : Nat) : Int)) := ⟨by rw [w64 (by omega) (by omega)]; omega⟩
                by_cases hlt2 : i < m
                · have q4 : decide (y < (m : Int)) = true := decide_eq_true (by omega)
                  have p5 : ((0 : Int) ≤ y) = True := eq_true (by omega)
                  have q5 : (y < (m : Int)) = True := eq_true (by omega)
                  have hdi : d.2[i]? = some (EM k i) := by rw [HDK.out.1]; exact marks_at _ (by omega)
                  obtain ⟨bd, cd', ed2, _, celld, _⟩ := hr.now.cell hdi
                  rw [hln, edf] at ed2
                  obtain ⟨add, hadd⟩ : ∃ add, add = (⟨bd, 0, none⟩ : Addr) := ⟨_, rfl⟩
                  rw [← hadd] at ed2
                  injection ed2 with e3 _ e4
                  subst e3 e4
                  have hyk : (⟨bd, i, none⟩ : Addr) = add.add y.toNat := by rw [hadd, hyi, add_at, Nat.zero_add]; rfl
                  have hEE : EM k i = .int .i64 (mk x y) := by rw [HX.out.1, hyi]; rfl
                  rw [hyk, hEE] at celld
                  obtain ⟨ad', hA', hcell⟩ := HQ.out.out HP.out
                  cases hA'
                  obtain ⟨Ap, cp, hpf⟩ := At.form' hr.old
                  have hxk' : ad.add k = ad.add x.toNat := by rw [HX.out.1]; rfl
                  rw [hxk', hpf] at hcell
                  have hm : (intOf (.int .i64 (wrap64 (y + 1)))).toNat = i + 1 := by rw [HY2.out]; simp [intOf]
                  have hm0 : (intOf (.int .i64 y)).toNat = i := by rw [hyi]; simp [intOf]
                  have HMS2 : Aside0 (m - (intOf (.int .i64 (wrap64 (y + 1)))).toNat < m - (intOf (.int .i64 y)).toNat) := ⟨by rw [hm, hm0]; omega⟩
                  have HY3 : Aside0 (wrap64 (y + 1) = ((i + 1 : Nat) : Int) ∧ i + 1 ≤ m) := ⟨HY2.out, by omega⟩
                  by_cases hlt3 : i < p.2
                  · have q6 : decide (y < (p.2 : Int)) = true := decide_eq_true (by omega)
                    have q7 : (y < (p.2 : Int)) = True := eq_true (by omega)
                    have hpi : (d.2.take p.2)[i]? = some (EM k i) := by rw [List.getElem?_take, if_pos hlt3]; exact hdi
                    obtain ⟨bp, cp', ep2, _, cellp, _⟩ := hr.old.cell hpi
                    rw [hpf] at ep2
                    obtain ⟨adp, hadp⟩ : ∃ adp, adp = (⟨bp, 0, none⟩ : Addr) := ⟨_, rfl⟩
                    rw [← hadp] at ep2
                    injection ep2 with e3 _ e4
                    subst e3 e4
                    have hyp : (⟨bp, i, none⟩ : Addr) = adp.add y.toNat := by rw [hadp, hyi, add_at, Nat.zero_add]; rfl
                    rw [hyp, hEE] at cellp
                    clear hm hm0 hyi hi hlt2 hlt3 h5 e6 hxk5 hr hln edf hbound hmm hdi hadd hyk hEE hpf hxk' hpi hadp hyp
                    go_wp2
                    go_quiet (first | (go_at_call 26; (with_reducible refine (mark_calls x y _).mono ?_); rintro e w' ⟨rfl, ⟨nd, rfl⟩⟩; (try first | exact ⟨rfl, _, World.drewN_drewN _ _ _⟩ | exact ⟨rfl, _, Eq.trans (World.drewN_drewN _ _ _) (congrArg (World.drewN _) (Nat.add_assoc _ _ _))⟩)))
                    go_wp2
                    go_roundw
                    case measure => exact HMS2.out
                    case rel => exact ⟨i + 1, _, rfl, HY3, ⟨HQ.out.keep (pw_below_drewN (Below.refl _ _) _)⟩⟩
                  · have q6 : decide (y < (p.2 : Int)) = false := decide_eq_false (by omega)
                    clear hm hm0 hyi hi hlt2 hlt3 h5 e6 hxk5 hr hln edf hbound hmm hdi hadd hyk hEE hpf hxk'
                    go_wp2
                    go_quiet (first | (go_at_call 26; (with_reducible refine (mark_calls x y _).mono ?_); rintro e w' ⟨rfl, ⟨nd, rfl⟩⟩; (try first | exact ⟨rfl, _, World.drewN_drewN _ _ _⟩ | exact ⟨rfl, _, Eq.trans (World.drewN_drewN _ _ _) (congrArg (World.drewN _) (Nat.add_assoc _ _ _))⟩)))
                    go_wp2
                    go_roundw
                    case measure => exact HMS2.out
                    case rel => exact ⟨i + 1, _, rfl, HY3, ⟨HQ.out.keep (pw_below_drewN (Below.refl _ _) _)⟩⟩
                · have q4 : decide (y < (m : Int)) = false := decide_eq_false (by omega)
                  obtain ⟨ad', hA', hcell⟩ := HQ.out.out HP.out
                  cases hA'
                  clear hyi hi hlt2 h5 e6 hxk5 hr hln edf hbound hmm hcell HY HY2
                  go_wp2
                  go_roundw
                  case measure => exact HMS.out
                  case rel => exact ⟨k + 1, _, rfl, HX2, HQ⟩
            · obtain rfl : k = rows.length := by omega
              have q3 : decide (x < (rows.length : Int)) = false := decide_eq_false (by omega)
              have HM4 : Aside0 (M4 EM rows D ∧ HD D H rows.length) := ⟨HM.out.1.four, HM.out.2⟩
              clear hk hlt hxk HX HM
              go_wp2
              go_loopw [11, 12, 13] (fun v11 _ _ wr => ∃ (k : Nat) (x : Int) (D : List (Value × List Value)) (H : List Value), v11 = .int .i64 x ∧ Aside0 (x = k ∧ k ≤ rows.length) ∧ Aside0 (M4 EM rows D ∧ HD D H rows.length) ∧ Aside0 (AQ 3 40 w rows A D u5 H (.slice none 0 0) [] [] wr)) (fun i _ _ _ => rows.length - (intOf i).toNat)
              case atStart => exact ⟨0, 0, D, H, rfl, ⟨rfl, Nat.zero_le _⟩, HM4, HQ⟩
              case round =>
                clear HQ HM4
                obtain ⟨k, x, D, H, rfl, HX, HM, HQ⟩ := hrel
                obtain ⟨hxk, hk⟩ := HX.out
                by_cases hlt : k < rows.length
                · have q3 : decide (x < (rows.length : Int)) = true := decide_eq_true (by omega)
                  have p2 : ((0 : Int) ≤ x) = True := eq_true (by omega)
                  have q2 : (x < (rows.length : Int)) = True := eq_true (by omega)
                  have HLT := Aside0.mk hlt
                  have HX2 : Aside0 (wrap64 (x + 1) = ((k + 1 : Nat) : Int) ∧ k + 1 ≤ rows.length) := by
                    have := HN.out
                    exact ⟨by rw [w64 (by omega) (by omega)]; omega, by omega⟩
                  have hm : (intOf (.int .i64 (wrap64 (x + 1)))).toNat = k + 1 := by rw [HX2.out.1]; simp [intOf]
                  have hm0 : (intOf (.int .i64 x)).toNat = k := by rw [hxk]; simp [intOf]
                  have HMS : Aside0 (rows.length - (intOf (.int .i64 (wrap64 (x + 1)))).toNat < rows.length - (intOf (.int .i64 x)).toNat) := ⟨by rw [hm, hm0]; omega⟩
                  obtain ⟨p, hp⟩ : ∃ p, rows[k]? = some p := ⟨_, List.getElem?_eq_getElem hlt⟩
                  obtain ⟨d, hd⟩ : ∃ d, D[k]? = some d := ⟨_, List.getElem?_eq_getElem (by rw [HQ.out.len]; exact HLT.out)⟩
                  obtain ⟨ad, hA, _⟩ := HQ.out.out hp
                  subst hA
                  have HP := Aside0.mk hp
                  have HDK := Aside0.mk hd
                  have HSP : Aside0 (p.2 ≤ 1099511627776) := ⟨HS.out k p hp⟩
                  clear hm hm0 hk hlt hp hxk hd
                  go_wp2
                  go_loopw [12, 13] (fun v12 v13 wr => ∃ (j : Nat) (z : Int) (ms : List Value), v13 = .int .i64 z ∧ Aside0 (z = j ∧ j ≤ 64) ∧ Aside0 (ms.length = j ∧ ∀ u ∈ ms, u.oneCell' = true) ∧ Aside0 (AQ 3 40 w rows (some ad) D u5 H v12 ms [] wr)) (fun _ i _ => 64 - (intOf i).toNat)
                  case atStart => exact ⟨0, 0, [], rfl, ⟨rfl, Nat.zero_le _⟩, ⟨rfl, fun u hu => by cases hu⟩, HQ⟩
                  case round =>
                    clear HQ
                    obtain ⟨j, z, ms, rfl, HZ, HMSS, HQ⟩ := hrel
                    obtain ⟨hzj, hj⟩ := HZ.out
                    by_cases hlt2 : j < 64
                    · have q4 : decide (z < 64) = true := decide_eq_true (by omega)
                      have HZ2 : Aside0 (wrap64 (z + 1) = ((j + 1 : Nat) : Int) ∧ j + 1 ≤ 64) := ⟨by rw [w64 (by omega) (by omega)]; omega, by omega⟩
                      have hm : (intOf (.int .i64 (wrap64 (z + 1)))).toNat = j + 1 := by rw [HZ2.out.1]; simp [intOf]
                      have hm0 : (intOf (.int .i64 z)).toNat = j := by rw [hzj]; simp [intOf]
                      have HMS2 : Aside0 (64 - (intOf (.int .i64 (wrap64 (z + 1)))).toNat < 64 - (intOf (.int .i64 z)).toNat) := ⟨by rw [hm, hm0]; omega⟩
                      have HAP := Aside0.mk (AQ.more (P := Tryd.prog) (ty := 40) (tt := 40) (c := 1) (m := 1) (ad := ⟨wr.heap.size, 0, none⟩) (news := [.int .i64 (mk (wrap64 (x + (rows.length : Int))) z)]) (HQ.out.keep (below_alloc (Below.refl wr.heap.size wr) (.cells #[.int .i64 (mk (wrap64 (x + (rows.length : Int))) z)] 3 (0, 0)))) Tryd.underlying40 infoAI (by decide) rfl (cell_one_new wr _ 3) (fun u hu => by rw [List.mem_singleton.1 hu]; rfl) (by omega) (by have := HMSS.out.1; simp only [maxLen]; omega) (by have := HMSS.out.1; omega))
                      clear hm hm0 hzj hj hlt2
                      go_wp2_with (first
                        | (go_at_call 26; (with_reducible refine (mark_still _ z _).mono ?_); rintro e w' ⟨rfl, rfl⟩)
                        | ((with_reducible refine gate_builtin (b := .append) (xs := #[.tmp 130, .tmp 137]) rfl ?_); at_builtin; obtain ⟨v', W1, hrun, hQ1, hsz⟩ := HAP.out; refine wpList_append_run rfl (.tmp 130) (.tmp 137) 40 rfl rfl rfl hrun ?_; have HQ1 := Aside0.mk hQ1; clear hrun hQ1 hsz))
                      go_roundw
                      case measure => exact HMS2.out
                      case rel =>
                        refine ⟨j + 1, _, _, rfl, HZ2, ⟨by rw [List.length_append, HMSS.out.1]; rfl, fun u hu => ?_⟩, HQ1⟩
                        rcases List.mem_append.1 hu with hu | hu
                        · exact HMSS.out.2 u hu
                        · rw [List.mem_singleton.1 hu]; rfl
                    · have hje : j = 64 := by omega
                      have q4 : decide (z < 64) = false := decide_eq_false (by omega)
                      obtain ⟨ad', hA', hcell⟩ := HQ.out.out HP.out
                      cases hA'
                      obtain ⟨f, hr⟩ := HQ.out.row HP.out HDK.out
                      obtain ⟨Ap, cp, hpf⟩ := At.form' hr.old
                      have hxk' : ad.add k = ad.add x.toNat := by rw [HX.out.1]; rfl
                      rw [hxk', hpf] at hcell
                      have hml : ms.length = 64 := by rw [HMSS.out.1, hje]
                      obtain ⟨fm, tm, hmany⟩ := HQ.out.many
                      obtain ⟨um, hum⟩ : ∃ u, ms[0]? = some u := ⟨_, List.getElem?_eq_getElem (by omega)⟩
                      obtain ⟨bm, cm, em, _, _, _⟩ := hmany.cell hum
                      rw [hml] at em
                      obtain ⟨fg, tg, hgs⟩ := HQ.out.gs
                      have hH := HM.out.2.2 k d HLT.out HDK.out
                      obtain ⟨bg, cg, eg, _, _, _⟩ := hgs.cell hH
                      rw [HM.out.2.1] at eg
                      have HNEW : Aside0 (∀ (jj : Nat) uu, ms[jj]? = some uu → wr.cell? ((⟨bm, 0, none⟩ : Addr).add jj) = some uu) := ⟨fun jj uu hj => by
                        obtain ⟨b2, c2, e2, _, h2, _⟩ := hmany.cell hj
                        rw [em] at e2
                        injection e2 with e2 _ _
                        injection e2 with e2
                        injection e2 with e2
                        subst e2
                        rw [add_at, Nat.zero_add]
                        exact h2⟩
                      have HBG : Aside0 (u5 = .slice (some ⟨bg, 0, none⟩) rows.length cg) := ⟨eg⟩
                      obtain ⟨adg, hadg⟩ : ∃ adg, adg = (⟨bg, 0, none⟩ : Addr) := ⟨_, rfl⟩
                      have HADG := Aside0.mk hadg
                      have HAP : Aside0 (∃ A1 n1 c1 W1 D2, (Builtin.append_ #[40, 40] 40 #[.slice Ap p.2 cp, .slice (some ⟨bm, 0, none⟩) 64 cm]).run Tryd.prog wr = .ok (.slice A1 n1 c1) W1 ∧ AQ 3 40 w rows (some ad) D2 u5 H u12 ms [] W1 ∧ D2 = D.set k (.slice A1 n1 c1, d.2.take p.2 ++ ms) ∧ W1.cell? (adg.add x.toNat) = some d.1 ∧ W1.frozen? (adg.add x.toNat) = false) := ⟨by
                        have h4 := HM.out.1 k p d HP.out HDK.out
                        have hk := (List.getElem?_eq_some_iff.1 HDK.out).1
                        have h5 := HQ.out.reset HP.out HDK.out
                        have hl : (d.2.take p.2).length = p.2 := by rw [h4.2, marks_len]
                        have hsp := HSP.out
                        obtain ⟨v', W1, hrun, h6, _⟩ := h5.append (P := Tryd.prog) (ty := 40) (tt := 40) (c := cm) (m := 64) (ad := ⟨bm, 0, none⟩) (news := ms) (d := (p.1, d.2.take p.2)) HP.out (by rw [List.getElem?_set, if_pos rfl, if_pos hk]) Tryd.underlying40 infoAI (by decide) hml HNEW.out HMSS.out.2 (by omega) (by simp only [hl, maxLen]; omega) (by simp only [hl]; omega)
                        rw [List.set_set] at h6
                        obtain ⟨f1, hr1⟩ := h6.row HP.out (d := (v', d.2.take p.2 ++ ms)) (by rw [List.getElem?_set, if_pos rfl, if_pos hk])
                        obtain ⟨A1, c1, e1⟩ := At.form' hr1.now
                        obtain ⟨f2, t2, hg2⟩ := h6.gs
                        obtain ⟨b2, c2, e2, _, h2, h3⟩ := hg2.cell hH
                        have hb : b2 = bg := by
                          rw [HBG.out] at e2
                          injection e2 with e2 _ _
                          injection e2 with e2
                          injection e2 with e2
                          exact e2.symm
                        subst hb
                        have ek : adg.add x.toNat = ⟨b2, k, none⟩ := by rw [hadg, HX.out.1, add_at, Nat.zero_add]; rfl
                        rw [← ek] at h2 h3
                        simp only at hrun e1
                        rw [hpf, e1] at hrun
                        rw [e1] at h6
                        exact ⟨_, _, _, W1, _, hrun, h6, rfl, h2, h3⟩⟩
                      have HMS64 := Aside0.mk hml
                      rw [← hadg] at eg
                      subst em
                      subst eg
                      clear hzj hj hlt2 hje hr hpf hxk' hml hmany hum hgs hH hadg HZ HNEW
                      go_wp2_with (first
                        | ((with_reducible refine gate_builtin (b := .append) (xs := #[.tmp 144, .tmp 145]) rfl ?_); at_builtin; obtain ⟨A1, n1, c1, W1, D2, hrun, hQ1, hD2, hc1, hf1⟩ := HAP.out; refine wpList_append_run rfl (.tmp 144) (.tmp 145) 40 rfl rfl rfl hrun ?_; have HQ1 := Aside0.mk hQ1; have HD2 := Aside0.mk hD2; clear hrun hQ1 hD2))
                      go_roundw
                      case measure => exact HMS.out
                      case rel =>
                        have h7 := HQ1.out.nomore
                        rw [HADG.out] at h7
                        have h8 := h7.put k (.slice A1 n1 c1)
                        rw [HD2.out] at h8
                        refine ⟨k + 1, _, _, _, rfl, HX2, ⟨HM.out.1.set (d' := (.slice A1 n1 c1, d.2.take p.2 ++ ms)) HP.out HDK.out HMS64.out rfl, HM.out.2.put HLT.out⟩, ⟨?_⟩⟩
                        have ek : adg.add x.toNat = ⟨bg, k, none⟩ := by rw [HADG.out, HX.out.1, add_at, Nat.zero_add]; rfl
                        rw [ek, HADG.out]
                        exact h8
                · obtain rfl : k = rows.length := by omega
                  have q3 : decide (x < (rows.length : Int)) = false := decide_eq_false (by omega)
                  clear hk hlt hxk HX
                  go_wp2
                  go_loopw [14, 15] (fun v14 _ wr => ∃ (k : Nat) (x : Int), v14 = .int .i64 x ∧ Aside0 (x = k ∧ k ≤ rows.length) ∧ Aside0 (AQ 3 40 w rows A D u5 H (.slice none 0 0) [] [] wr)) (fun i _ _ => rows.length - (intOf i).toNat)
                  case atStart => exact ⟨0, 0, rfl, ⟨rfl, Nat.zero_le _⟩, HQ⟩
                  case round =>
                    clear HQ
                    obtain ⟨k, x, rfl, HX, HQ⟩ := hrel
                    obtain ⟨hxk, hk⟩ := HX.out
                    by_cases hlt : k < rows.length
                    · have q3 : decide (x < (rows.length : Int)) = true := decide_eq_true (by omega)
                      have p2 : ((0 : Int) ≤ x) = True := eq_true (by omega)
                      have q2 : (x < (rows.length : Int)) = True := eq_true (by omega)
                      have HLT := Aside0.mk hlt
                      have HX2 : Aside0 (wrap64 (x + 1) = ((k + 1 : Nat) : Int) ∧ k + 1 ≤ rows.length) := by
                        have := HN.out
                        exact ⟨by rw [w64 (by omega) (by omega)]; omega, by omega⟩
                      have hm : (intOf (.int .i64 (wrap64 (x + 1)))).toNat = k + 1 := by rw [HX2.out.1]; simp [intOf]
                      have hm0 : (intOf (.int .i64 x)).toNat = k := by rw [hxk]; simp [intOf]
                      have HMS : Aside0 (rows.length - (intOf (.int .i64 (wrap64 (x + 1)))).toNat < rows.length - (intOf (.int .i64 x)).toNat) := ⟨by rw [hm, hm0]; omega⟩
                      obtain ⟨p, hp⟩ : ∃ p, rows[k]? = some p := ⟨_, List.getElem?_eq_getElem hlt⟩
                      obtain ⟨d, hd⟩ : ∃ d, D[k]? = some d := ⟨_, List.getElem?_eq_getElem (by rw [HQ.out.len]; exact HLT.out)⟩
                      obtain ⟨ad, hA, _⟩ := HQ.out.out hp
                      subst hA
                      have hH := HM.out.2.2 k d hlt hd
                      obtain ⟨f5, t5, h5⟩ := HQ.out.gs
                      obtain ⟨b5, c5, e5, _, _, _⟩ := h5.cell hH
                      have HHL : Aside0 (H.length = rows.length) := ⟨HM.out.2.1⟩
                      rw [HHL.out] at e5
                      have h4 := HM.out.1 k p d hp hd
                      have HP := Aside0.mk hp
                      have HDK : Aside0 ((d.2.length = p.2 + 64 ∧ d.2.take p.2 = marks (EM k) p.2) ∧ D[k]? = some d ∧ H[k]? = some d.1) := ⟨h4, hd, hH⟩
                      have HSP : Aside0 (p.2 ≤ 1099511627776) := ⟨HS.out k p hp⟩
                      obtain ⟨ad5, had5⟩ : ∃ ad5, ad5 = (⟨b5, 0, none⟩ : Addr) := ⟨_, rfl⟩
                      rw [← had5] at e5
                      have HAD5 := Aside0.mk had5
                      subst e5
                      obtain ⟨m, hm64⟩ : ∃ m, m = p.2 + 64 := ⟨_, rfl⟩
                      have HM64 := Aside0.mk hm64
                      clear hm hm0 hk hlt hp hxk hd h4 hH h5 had5 hm64
                      go_wp2
                      go_loopw [15] (fun v15 wr => ∃ (i : Nat) (y : Int), v15 = .int .i64 y ∧ Aside0 (y = i ∧ i ≤ p.2) ∧ Aside0 (AQ 3 40 w rows (some ad) D (.slice (some ad5) rows.length c5) H (.slice none 0 0) [] [] wr)) (fun i _ => p.2 - (intOf i).toNat)
                      case atStart => exact ⟨0, 0, rfl, ⟨rfl, Nat.zero_le _⟩, HQ⟩
                      case round =>
                        clear HQ
                        obtain ⟨i, y, rfl, HY, HQ⟩ := hrel
                        obtain ⟨hyi, hi⟩ := HY.out
                        obtain ⟨f5, t5, h5⟩ := HQ.out.gs
                        obtain ⟨b6, c6, e6, _, cell5, _⟩ := h5.cell HDK.out.2.2
                        have hb6 : b6 = b5 := by
                          injection e6 with e6 _ _
                          injection e6 with e6
                          rw [HAD5.out] at e6
                          injection e6 with e6
                          exact e6.symm
                        subst hb6
                        have hxk5 : (⟨b6, k, none⟩ : Addr) = ad5.add x.toNat := by rw [HAD5.out, HX.out.1, add_at, Nat.zero_add]; rfl
                        rw [hxk5] at cell5
                        obtain ⟨f, hr⟩ := HQ.out.row HP.out HDK.out.2.1
                        obtain ⟨Ad, cd, edf⟩ := At.form' hr.now
                        have hln : d.2.length = m := by rw [HDK.out.1.1, HM64.out]
                        rw [hln] at edf
                        rw [edf] at cell5
                        have hbound := HSP.out
                        have hmm := HM64.out
                        obtain ⟨ad', hA', hcell⟩ := HQ.out.out HP.out
                        cases hA'
                        obtain ⟨Ap, cp, hpf⟩ := At.form' hr.old
                        have hxk' : ad.add k = ad.add x.toNat := by rw [HX.out.1]; rfl
                        rw [hxk', hpf] at hcell
                        have HY2 : Aside0 (wrap64 (y + 1) = ((i + 1 : Nat) : Int)) := ⟨by rw [w64 (by omega) (by omega)]; omega⟩
                        by_cases hlt2 : i < p.2
                        · have p5 : ((0 : Int) ≤ y) = True := eq_true (by omega)
                          have q5 : (y < (m : Int)) = True := eq_true (by omega)
                          have q6 : decide (y < (p.2 : Int)) = true := decide_eq_true (by omega)
                          have q7 : (y < (p.2 : Int)) = True := eq_true (by omega)
                          have hpi : (d.2.take p.2)[i]? = some (EM k i) := by rw [HDK.out.1.2]; exact marks_at _ hlt2
                          have hdi : d.2[i]? = some (EM k i) := by rw [List.getElem?_take, if_pos hlt2] at hpi; exact hpi
                          obtain ⟨bd, cd', ed2, _, celld, _⟩ := hr.now.cell hdi
                          rw [hln, edf] at ed2
                          obtain ⟨add, hadd⟩ : ∃ add, add = (⟨bd, 0, none⟩ : Addr) := ⟨_, rfl⟩
                          rw [← hadd] at ed2
                          injection ed2 with e3 _ e4
                          subst e3 e4
                          have hyk : (⟨bd, i, none⟩ : Addr) = add.add y.toNat := by rw [hadd, hyi, add_at, Nat.zero_add]; rfl
                          have hEE : EM k i = .int .i64 (mk x y) := by rw [HX.out.1, hyi]; rfl
                          rw [hyk, hEE] at celld
                          have hm : (intOf (.int .i64 (wrap64 (y + 1)))).toNat = i + 1 := by rw [HY2.out]; simp [intOf]
                          have hm0 : (intOf (.int .i64 y)).toNat = i := by rw [hyi]; simp [intOf]
                          have HMS2 : Aside0 (p.2 - (intOf (.int .i64 (wrap64 (y + 1)))).toNat < p.2 - (intOf (.int .i64 y)).toNat) := ⟨by rw [hm, hm0]; omega⟩
                          have HY3 : Aside0 (wrap64 (y + 1) = ((i + 1 : Nat) : Int) ∧ i + 1 ≤ p.2) := ⟨HY2.out, by omega⟩
                          obtain ⟨bp, cp', ep2, _, cellp, _⟩ := hr.old.cell hpi
                          rw [hpf] at ep2
                          obtain ⟨adp, hadp⟩ : ∃ adp, adp = (⟨bp, 0, none⟩ : Addr) := ⟨_, rfl⟩
                          rw [← hadp] at ep2
                          injection ep2 with e3 _ e4
                          subst e3 e4
                          have hyp : (⟨bp, i, none⟩ : Addr) = adp.add y.toNat := by rw [hadp, hyi, add_at, Nat.zero_add]; rfl
                          rw [hyp, hEE] at cellp
                          clear hm hm0 hyi hi hlt2 h5 e6 hxk5 hr hln edf hbound hmm hdi hadd hyk hEE hpf hxk' hpi hadp hyp
                          go_wp2
                          go_quiet (first | (go_at_call 26; (with_reducible refine (mark_calls x y _).mono ?_); rintro e w' ⟨rfl, ⟨nd, rfl⟩⟩; (try first | exact ⟨rfl, _, World.drewN_drewN _ _ _⟩ | exact ⟨rfl, _, Eq.trans (World.drewN_drewN _ _ _) (congrArg (World.drewN _) (Nat.add_assoc _ _ _))⟩)))
                          go_wp2
                          go_roundw
                          case measure => exact HMS2.out
                          case rel => exact ⟨i + 1, _, rfl, HY3, ⟨HQ.out.keep (pw_below_drewN (Below.refl _ _) _)⟩⟩
                        · have q6 : decide (y < (p.2 : Int)) = false := decide_eq_false (by omega)
                          clear hyi hi hlt2 h5 e6 hxk5 hr hln edf hbound hmm hpf hxk' HY HY2
                          go_wp2
                          go_roundw
                          case measure => exact HMS.out
                          case rel => exact ⟨k + 1, _, rfl, HX2, HQ⟩
                    · obtain rfl : k = rows.length := by omega
                      have q3 : decide (x < (rows.length : Int)) = false := decide_eq_false (by omega)
                      clear hk hlt hxk HX
                      go_wp2
                      go_ret
                      exact ⟨rfl, HQ.out.grow⟩
#print axioms apartInts_calls
end Go.Proofs.YtggnnnddnppcpaaDoorHand
/-! text YtggnnnddnppcpaaDoorRegionD -/
namespace Go.Proofs.YtggnnnddnppcpaaDoorOwn
open Go
set_option linter.unusedVariables false
section
variable {F : Fence} {n : Nat} {P : Program} {ops : Array Oper} {Q : Exit → Act → World → Prop} {md : Region.Mode} {S : World → Prop}
end
end Go.Proofs.YtggnnnddnppcpaaDoorOwn
/-! text YtggnnnddnppcpaaDoorRegionT -/
namespace Go.Proofs.YtggnnnddnppcpaaDoorOwn
open Go
set_option linter.unusedVariables false
section
variable {F : Fence} {n : Nat} {P : Program} {ops : Array Oper} {Q : Exit → Act → World → Prop} {md : Region.Mode} {S : World → Prop} {z : Nat}
/-- operation z waits for i -/
def waits (md : Region.Mode) (ops : Array Oper) (z i : Nat) : Bool := match ops[z]? with | some oz => oz.after.any (fun e => Region.binds md e && e.on == i) | none => true
theorem waits_spec {z i : Nat} (h : waits md ops z i = true) {oz : Oper} (ho : ops[z]? = some oz) : ∃ e ∈ oz.after, Region.binds md e = true ∧ e.on = i := by
  unfold waits at h
  rw [ho] at h
  simp only [Array.any_eq_true] at h
  obtain ⟨k, hk, hh⟩ := h
  rw [Bool.and_eq_true, beq_iff_eq] at hh
  exact ⟨oz.after[k], Array.getElem_mem hk, hh⟩
end
end Go.Proofs.YtggnnnddnppcpaaDoorOwn
/-! text YtggnnnddnppcpaaDoorRegionH -/
namespace Go.Proofs.YtggnnnddnppcpaaDoorOwn
open Go Go.RowKit Go.Proofs.YtggnnnddnppcpaaDoorW.PrintWords
section
variable {P : Program} {ops : Array Oper} {Q : Exit → Act → World → Prop} {md : Region.Mode} {S : World → Prop}
theorem wpAnyH_one {i : Nat} {o : Oper} {fuel : Nat} {listed : Array Bool} {a : Act} {w : World} (hr : Region.ready md ops listed = [i]) (ho : ops[i]? = some o) (hw : Region.wanted o (yielded ops a.tmps) = true)
    (h : ∀ K' : Act → World → Prop, (∀ a w, S w → wpAnyH P md ops Q S fuel (listed.setIfInBounds i true) a w → K' a w) → Oper.wp P o a w K' Q) : wpAnyH P md ops Q S (fuel + 1) listed a w := by
  refine ⟨fun h0 => (by rw [hr] at h0; cases h0), fun j hj => ?_⟩
  rw [hr, List.mem_singleton] at hj
  subst hj
  refine wpOp_step ho fun K' hK => ?_
  rw [if_pos hw]
  exact h K' (fun a w h1 h2 => hK a w ⟨h1, h2⟩)
end
theorem frozen_lt_alloc {W : World} {a : Addr} (h : a.block < W.heap.size) (o : Obj) : (W.alloc o).frozen? a = W.frozen? a := by
  have hh : (W.alloc o).heap[a.block]? = W.heap[a.block]? := Below.heap_alloc W o a.block h
  simp [World.frozen?, hh]
end Go.Proofs.YtggnnnddnppcpaaDoorOwn
