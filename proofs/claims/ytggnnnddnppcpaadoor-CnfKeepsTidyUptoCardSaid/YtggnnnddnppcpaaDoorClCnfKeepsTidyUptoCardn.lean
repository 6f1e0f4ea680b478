/- depotlaw02.turn: it turns the numbers that a list shows, in place. -/
import Derived.Test.YtggnnnddnppcpaaDoorClCnfKeepsTidyUptoCardc
import Derived.StillTailTactics
import Derived.Deep.RegionHeld3
import Derived.Test.YtggnnnddnppcpaaDoorClCnfKeepsTidyUptoCardm
import Derived.Test.YtggnnnddnppcpaaDoorClCnfKeepsTidyUptoCarda
import Derived.Test.YtggnnnddnppcpaaDoorProg
import Derived.Test.YtggnnnddnppcpaaDoorClCnfKeepsTidyUptoCardl
import Derived.Test.YtggnnnddnppcpaaDoorClCnfKeepsTidyUptoCardp1
import Derived.Test.YtggnnnddnppcpaaDoorClCnfKeepsTidyUptoCardp7
import Derived.Test.YtggnnnddnppcpaaDoorClCnfKeepsTidyUptoCardp8
import Derived.Test.YtggnnnddnppcpaaDoorClCnfKeepsTidyUptoCardp9
import Derived.Test.YtggnnnddnppcpaaDoorClCnfKeepsTidyUptoCardp2
import Derived.Test.YtggnnnddnppcpaaDoorClCnfKeepsTidyUptoCardp3
import Derived.Test.YtggnnnddnppcpaaDoorClCnfKeepsTidyUptoCardp10
import Derived.Test.YtggnnnddnppcpaaDoorClCnfKeepsTidyUptoCardp4
import Derived.Test.YtggnnnddnppcpaaDoorClCnfKeepsTidyUptoCardp5
import Derived.Test.YtggnnnddnppcpaaDoorClCnfKeepsTidyUptoCardp6
import Derived.Test.YtggnnnddnppcpaaDoorClCnfKeepsTidyUptoCardp11
import Derived.Test.YtggnnnddnppcpaaDoorClCnfKeepsTidyUptoCardp12
import Derived.Test.YtggnnnddnppcpaaDoorClCnfKeepsTidyUptoCardp13
import Derived.Test.YtggnnnddnppcpaaDoorClCnfKeepsTidyUptoCardp20
/-! text YtggnnnddnppcpaaDoorTurn -/
namespace Go.Proofs.YtggnnnddnppcpaaDoorHand
open Go.RowKit Go.Proofs.YtggnnnddnppcpaaDoorW.PrintWords Go.Proofs.YtggnnnddnppcpaaDoorW.PrintLast Go.Proofs.YtggnnnddnppcpaaDoorMath Go.Proofs.YtggnnnddnppcpaaDoorOwn
set_option linter.unusedVariables false
set_option linter.unusedSimpArgs false
/-- a number turned -/
def negw (x : Int) : Int := wrap64 (-x)
/-- the first i numbers turned -/
def upto (i : Nat) (t : LRow) : LRow := { t with row := (t.row.take i).map negw ++ t.row.drop i }
/-- the first k rows turned, and the first i numbers of the k-th -/
def turnAt (k i : Nat) (U : List LRow) : List LRow := U.zipIdx.map fun p => if p.2 < k then upto p.1.k p.1 else if p.2 = k then upto i p.1 else p.1
theorem turnAt_at {k i m : Nat} {U : List LRow} {t : LRow} (h : U[m]? = some t) : (turnAt k i U)[m]? = some (if m < k then upto t.k t else if m = k then upto i t else t) := by
  simp [turnAt, List.getElem?_map, List.getElem?_zipIdx, h]
theorem turnAt_none {k i m : Nat} {U : List LRow} (h : U[m]? = none) : (turnAt k i U)[m]? = none := by
  simp [turnAt, List.getElem?_map, List.getElem?_zipIdx, h]
theorem turnAt_length (k i : Nat) (U : List LRow) : (turnAt k i U).length = U.length := by simp [turnAt]
theorem upto_zero (t : LRow) : upto 0 t = t := by simp [upto]
theorem upto_row_length (i : Nat) (t : LRow) : (upto i t).row.length = t.row.length := by
  simp only [upto, List.length_append, List.length_map, List.length_take, List.length_drop]; omega
theorem turnAt_zero (U : List LRow) : turnAt 0 0 U = U := by
  refine List.ext_getElem? fun m => ?_
  cases h : U[m]? with
  | none => rw [turnAt_none h]
  | some t =>
    rw [turnAt_at h]
    by_cases hm : m = 0
    · rw [if_neg (by omega), if_pos hm, upto_zero]
    · rw [if_neg (by omega), if_neg hm]
theorem turnAt_next {k : Nat} {U : List LRow} {t : LRow} (h : U[k]? = some t) : turnAt k t.k U = turnAt (k + 1) 0 U := by
  refine List.ext_getElem? fun m => ?_
  cases hm : U[m]? with
  | none => rw [turnAt_none hm, turnAt_none hm]
  | some u =>
    rw [turnAt_at hm, turnAt_at hm]
    by_cases h1 : m < k
    · rw [if_pos h1, if_pos (by omega)]
    · by_cases h2 : m = k
      · subst h2
        rw [h] at hm
        obtain rfl := Option.some.inj hm
        rw [if_neg h1, if_pos rfl, if_pos (by omega)]
      · rw [if_neg h1, if_neg h2, if_neg (by omega)]
        by_cases h3 : m = k + 1
        · rw [if_pos h3, upto_zero]
        · rw [if_neg h3]
theorem upto_get {i : Nat} {t : LRow} (hi : i < t.row.length) : (upto i t).row.getD i 0 = t.row.getD i 0 := by
  simp only [upto, List.getD_eq_getElem?_getD]
  rw [List.getElem?_append_right (by simp; omega)]
  simp only [List.length_map, List.length_take, List.getElem?_drop]
  congr 2
  omega
theorem upto_set {i : Nat} {t : LRow} (hi : i < t.row.length) : { upto i t with row := (upto i t).row.set i (negw (t.row.getD i 0)) } = upto (i + 1) t := by
  have h : (upto i t).row.set i (negw (t.row.getD i 0)) = (upto (i + 1) t).row := by
    simp only [upto]
    have hl : ((t.row.take i).map negw).length = i := by rw [List.length_map, List.length_take]; omega
    rw [List.set_append_right _ _ (by omega), hl, Nat.sub_self, List.drop_eq_getElem_cons hi, List.set_cons_zero, List.take_succ_eq_append_getElem hi, List.map_append, List.append_assoc]
    simp [List.getD_eq_getElem?_getD, hi]
  rw [h]
  rfl
theorem turnAt_set {k i : Nat} {U : List LRow} {t : LRow} (h : U[k]? = some t) (hi : i < t.row.length) : (turnAt k i U).set k { upto i t with row := (upto i t).row.set i (negw (t.row.getD i 0)) } = turnAt k (i + 1) U := by
  rw [upto_set hi]
  refine List.ext_getElem? fun m => ?_
  by_cases h2 : m = k
  · subst h2
    rw [List.getElem?_set_self (by rw [turnAt_length]; exact (List.getElem?_eq_some_iff.1 h).1), turnAt_at h, if_neg (by omega), if_pos rfl]
  · rw [List.getElem?_set_ne (fun e => h2 e.symm)]
    cases hm : U[m]? with
    | none => rw [turnAt_none hm, turnAt_none hm]
    | some u => rw [turnAt_at hm, turnAt_at hm, if_neg h2, if_neg h2]
/-- a head that stands in a list of heads -/
theorem head_at {W : World} {ok : Nat → Prop} {A : Option Addr} {n c : Nat} {hs : List Hd3} (h : (headA (.slice A n c) hs).P W ok) {q : Nat} {u : Hd3} (hq : hs[q]? = some u) : ∃ g, A = some ⟨g, 0, none⟩ ∧ W.cell? ⟨g, q, none⟩ = some (encH u) := by
  have hl := (List.getElem?_eq_some_iff.1 hq).1
  have hR0 : Kd.R headK 40 W 0 ok (.slice A n c) hs := h
  obtain ⟨g, cap, e, _, _, _⟩ := Kd.R_form hR0 (by omega)
  injection e with e1 e2 e3
  subst e1 e2 e3
  have hc := Kd.R_cell (enc := encH) (h1 := fun _ => rfl) (none, 0, 0) hR0 (q : Int) (by omega) (by omega)
  rw [Int.toNat_natCast] at hc
  have hrd : rdOf ((none, 0, 0) : Hd3) hs (q : Int) = u := by simp [rdOf, hq]
  exact ⟨g, rfl, by rw [← hrd]; exact hc.1⟩

set_option maxHeartbeats 8000000 in
set_option maxRecDepth 100000 in
theorem turn_calls {w0 w : World} {X : Nat → Prop} {l : List Asr} {A : Option Addr} {m c : Nat} {U : List LRow} (h : Sep w0 X l w) (hX : ∀ b, X b → b < w.heap.size) (ih ij : Nat) (hij : ij ≠ ih) (hi : l[ih]? = some (headA (.slice A m c) (U.map LRow.shown))) (hj : l[ij]? = some (dataA U)) (n : Nat) (hn : n ≤ U.length) (hs : n ≤ 1099511627776 ∧ ∀ t ∈ U, t.k ≤ 1099511627776) :
    Calls Tryd.prog 12 #[.slice A n c] w fun e w' => e = .returned (.tuple #[]) ∧ Sep w0 X (l.set ij (dataA (turnAt n 0 U))) w' := by
  have HI : ∀ D, (l.set ij (dataA D))[ih]? = some (headA (.slice A m c) (U.map LRow.shown)) := fun D => by rw [List.getElem?_set_ne hij]; exact hi
  have HJ : ∀ D, (l.set ij (dataA D))[ij]? = some (dataA D) := fun D => List.getElem?_set_self (List.getElem?_eq_some_iff.1 hj).1
  have HX : ∀ W : World, w.heap.size ≤ W.heap.size → ∀ b, X b → b < W.heap.size := fun W hW b hb => Nat.lt_of_lt_of_le (hX b hb) hW
  have HS : Aside0 (Sep w0 X (l.set ij (dataA (turnAt 0 0 U))) w ∧ w.heap.size ≤ w.heap.size) := ⟨by
    refine ⟨?_, Nat.le_refl _⟩
    rw [turnAt_zero]
    exact h.as ij hj fun ok hp => hp⟩
  have HN := Aside0.mk hn
  have HB := Aside0.mk hs
  have HHI := Aside0.mk HI
  have HHJ := Aside0.mk HJ
  have HHX := Aside0.mk HX
  clear h hX hi hj hn hs HI HJ HX
  go_enter Tryd.func12, Tryd.ntmps12
  go_wp2
  go_loopw [2, 3] (fun v2 _ wr => ∃ (k : Nat) (x : Int), v2 = .int .i64 x ∧ Aside0 (x = k ∧ k ≤ n) ∧ Aside0 (Sep w0 X (l.set ij (dataA (turnAt k 0 U))) wr ∧ w.heap.size ≤ wr.heap.size)) (fun i _ _ => n - (intOf i).toNat)
  case atStart => exact ⟨0, 0, rfl, ⟨rfl, Nat.zero_le _⟩, HS⟩
  case round =>
    clear HS
    obtain ⟨k, x, rfl, HK, HQ⟩ := hrel
    obtain ⟨hxk, hk⟩ := HK.out
    by_cases hlt : k < n
    · have q3 : decide (x < (n : Int)) = true := decide_eq_true (by omega)
      have p2 : ((0 : Int) ≤ x) = True := eq_true (by omega)
      have q2 : (x < (n : Int)) = True := eq_true (by omega)
      have HX2 : Aside0 (wrap64 (x + 1) = ((k + 1 : Nat) : Int) ∧ k + 1 ≤ n) := by
        have := HB.out.1
        exact ⟨by rw [w64 (by omega) (by omega)]; omega, by omega⟩
      have hm : (intOf (.int .i64 (wrap64 (x + 1)))).toNat = k + 1 := by rw [HX2.out.1]; simp [intOf]
      have hm0 : (intOf (.int .i64 x)).toNat = k := by rw [hxk]; simp [intOf]
      have HMS : Aside0 (n - (intOf (.int .i64 (wrap64 (x + 1)))).toNat < n - (intOf (.int .i64 x)).toNat) := ⟨by rw [hm, hm0]; omega⟩
      obtain ⟨t, ht⟩ : ∃ t, U[k]? = some t := ⟨_, List.getElem?_eq_getElem (by have := HN.out; omega)⟩
      obtain ⟨g, hA, hc⟩ := head_at (HQ.out.1.get ih (HHI.out _)) (q := k) (u := t.shown) (by rw [List.getElem?_map, ht]; rfl)
      obtain ⟨ad, had⟩ : ∃ ad, ad = (⟨g, 0, none⟩ : Addr) := ⟨_, rfl⟩
      rw [← had] at hA
      subst hA
      have HAD := Aside0.mk had
      have HT := Aside0.mk ht
      have HTK : Aside0 (t.k ≤ 1099511627776) := ⟨HB.out.2 t (List.mem_of_getElem? ht)⟩
      have HXK := Aside0.mk hxk
      clear hm hm0 hk hlt ht had hc hxk
      go_wp2
      go_loopw [3] (fun v3 wr => ∃ (i : Nat) (y : Int), v3 = .int .i64 y ∧ Aside0 (y = i ∧ i ≤ t.k) ∧ Aside0 (Sep w0 X (l.set ij (dataA (turnAt k i U))) wr ∧ w.heap.size ≤ wr.heap.size)) (fun i _ => t.k - (intOf i).toNat)
      case atStart => exact ⟨0, 0, rfl, ⟨rfl, Nat.zero_le _⟩, HQ⟩
      case round =>
        clear HQ
        obtain ⟨i, y, rfl, HY, HQ⟩ := hrel
        obtain ⟨hyi, hi⟩ := HY.out
        obtain ⟨g', hA', hc⟩ := head_at (HQ.out.1.get ih (HHI.out _)) (q := k) (u := t.shown) (by rw [List.getElem?_map, HT.out]; rfl)
        injection hA' with hA'
        have hk' : (⟨g', k, none⟩ : Addr) = ad.add x.toNat := by rw [hA', HXK.out, Int.toNat_natCast, add_at, Nat.zero_add]
        rw [hk'] at hc
        replace hc : wr.cell? (ad.add x.toNat) = some (.slice t.A t.k t.c) := hc
        clear hA' hk'
        by_cases hlt2 : i < t.k
        · have q4 : decide (y < (t.k : Int)) = true := decide_eq_true (by omega)
          have p5 : ((0 : Int) ≤ y) = True := eq_true (by omega)
          have q5 : (y < (t.k : Int)) = True := eq_true (by omega)
          have HD := HQ.out.1.keep (below_drew (Below.refl _ _))
          have hDk : (turnAt k i U)[k]? = some (upto i t) := by rw [turnAt_at HT.out, if_neg (by omega), if_pos rfl]
          have hkl : t.k ≤ t.row.length := by
            have h1 := (data_get (HD.get ij (HHJ.out _)) k hDk).2.1
            rw [upto_row_length] at h1
            exact h1
          obtain ⟨g2, hA2, hc2, hf2, hput⟩ := HD.putRow (HHX.out _ HQ.out.2) ij (HHJ.out _) k (upto i t) hDk i (by rw [upto_row_length]; omega)
          rw [upto_get (by omega)] at hc2
          replace hput := hput (negw (t.row.getD i 0))
          rw [turnAt_set HT.out (by omega), List.set_set] at hput
          replace hA2 : t.A = some ⟨g2, 0, none⟩ := hA2
          obtain ⟨ad2, had2⟩ : ∃ ad2, ad2 = (⟨g2, 0, none⟩ : Addr) := ⟨_, rfl⟩
          rw [← had2] at hA2
          rw [hA2] at hc
          have hy' : (⟨g2, i, none⟩ : Addr) = ad2.add y.toNat := by rw [had2, hyi, Int.toNat_natCast, add_at, Nat.zero_add]
          rw [hy'] at hc2 hf2 hput
          obtain ⟨v, hv⟩ : ∃ v, v = t.row.getD i 0 := ⟨_, rfl⟩
          rw [← hv] at hc2 hput
          replace hc2 : wr.cell? (ad2.add y.toNat) = some (.int .i64 v) := hc2
          replace hf2 : wr.frozen? (ad2.add y.toNat) = false := hf2
          have HP := Aside0.mk hput
          have HY2 : Aside0 (wrap64 (y + 1) = ((i + 1 : Nat) : Int) ∧ i + 1 ≤ t.k) := by
            have := HTK.out
            exact ⟨by rw [w64 (by omega) (by omega)]; omega, by omega⟩
          have hm : (intOf (.int .i64 (wrap64 (y + 1)))).toNat = i + 1 := by rw [HY2.out.1]; simp [intOf]
          have hm0 : (intOf (.int .i64 y)).toNat = i := by rw [hyi]; simp [intOf]
          have HMS2 : Aside0 (t.k - (intOf (.int .i64 (wrap64 (y + 1)))).toNat < t.k - (intOf (.int .i64 y)).toNat) := ⟨by rw [hm, hm0]; omega⟩
          clear hm hm0 hput hv hy' had2 hA2 hkl hDk HD hyi hi hlt2
          go_wp2
          refine wp_region_still_tail 14 (by kernel_rfl) (by kernel_rfl) ?_
          simp only [List.take_succ_cons, List.take_zero, List.drop_succ_cons, List.drop_zero]
          repeat still_step
          refine wpStill_nil ?_
          change wpList _ _ _ _ _ wr.drew
          go_wp2
          go_roundw
          case measure => exact HMS2.out
          case rel => exact ⟨i + 1, _, rfl, HY2, ⟨HP.out, Nat.le_trans HQ.out.2 (by simp)⟩⟩
        · have hie : i = t.k := by omega
          have q4 : decide (y < (t.k : Int)) = false := decide_eq_false (by omega)
          rw [hie, turnAt_next HT.out] at HQ
          clear hyi hi hlt2 hie HY
          go_wp2
          go_roundw
          case measure => exact HMS.out
          case rel => exact ⟨k + 1, _, rfl, HX2, HQ⟩
    · obtain rfl : k = n := by omega
      have q3 : decide (x < (k : Int)) = false := decide_eq_false (by omega)
      clear hk hlt hxk HK
      go_wp2
      go_end0
      exact ⟨rfl, HQ.out.1⟩
end Go.Proofs.YtggnnnddnppcpaaDoorHand
/-! text YtggnnnddnppcpaaDoorOverRows -/
namespace Go.Proofs.YtggnnnddnppcpaaDoorHand
open Go.RowKit Go.Proofs.YtggnnnddnppcpaaDoorW.PrintWords Go.Proofs.YtggnnnddnppcpaaDoorW.PrintLast Go.Proofs.YtggnnnddnppcpaaDoorMath Go.Proofs.YtggnnnddnppcpaaDoorOwn
open Go.Proofs.YtggnnnddnppcpaaDoor.PCnfKeepsTidy
set_option linter.unusedVariables false
set_option linter.unusedSimpArgs false
theorem own_raiseD {w : World} {base : Nat} {e : TypeId} {size n : Nat} {v : Value} {xs : List Value} (h : w.ownsRow 0 e size v n xs) (hb : ∀ k, v.ownBlock = some k → base ≤ k) : w.ownsRow base e size v n xs := by
  obtain ⟨h1, h2⟩ := h
  refine ⟨h1, ?_⟩
  rcases h2 with h2 | ⟨g, cap, cur, rfl, hg, hh, r⟩
  · exact .inl h2
  · exact .inr ⟨g, cap, cur, rfl, hb g (by simp [Value.ownBlock]), hh, r⟩
theorem R_raiseD {w : World} {base : Nat} {e : Nat} {v : Value} {xs : List Int} {ok : Nat → Prop} (h : Kd.R (Kd.int .i64) e w 0 ok v xs) (hb : ∀ k, ok k → base ≤ k) : Kd.R (Kd.int .i64) e w base ok v xs := by
  obtain ⟨h0, inner, ho, hr⟩ := h
  exact ⟨h0, inner, own_raiseD ho fun k hk => hb k (h0 k hk), hr⟩
/-- one of the rows is written over -/
theorem overRow_calls {w0 w : World} {X : Nat → Prop} {l : List Asr} (h : Sep w0 X l w) (hX : ∀ b, X b → b < w.heap.size) (j : Nat) {D : List LRow} (hj : l[j]? = some (dataA D)) (i : Nat) (t : LRow) (hi : D[i]? = some t) (hn : t.row.length < 17592186044416) :
    Calls Tryd.prog 33 #[.slice t.A t.row.length t.c] w fun e w' => e = .returned (.tuple #[]) ∧ ∃ r : List Int, r.length = t.row.length ∧ Sep w0 X (l.set j (dataA (D.set i { t with row := r }))) w' ∧ w.heap.size ≤ w'.heap.size := by
  obtain ⟨r, hr, hev⟩ := depotkit_Over_ev t.row hn
  obtain ⟨k, hk⟩ := hev.rounds
  obtain ⟨f0, h0⟩ := h.get j hj
  have hR := Kd.R_tight rfl (R_raiseD (base := w0.heap.size) (h0 i t hi).1 (fun k hk => hk.1.1))
  refine (depotkit_Over.calls k (fun k => some k = (Value.slice t.A t.row.length t.c).ownBlock) _ t.row r w0 w h.hB hR hk).mono ?_
  rintro e w' ⟨rfl, hR', hB', hK⟩
  refine ⟨rfl, r, hr, h.upd j hj (M := fun k => some k = (Value.slice t.A t.row.length t.c).ownBlock) ⟨hB'.os.trans h.hB.os.symm, hB'.tape.trans h.hB.tape.symm, hB'.output.trans h.hB.output.symm, hK.1, fun k h1 h2 => hK.2 k h1 h2⟩ hX (fun ok hA b hb _ => ?_) fun ok hA hnew => ?_, hK.1⟩
  · obtain ⟨f, hf⟩ := hA
    exact ((hf i t hi).1.1 b hb.symm).1
  · obtain ⟨f, hf⟩ := hA
    refine ⟨f, fun i' u hu => ?_⟩
    have hil := (List.getElem?_eq_some_iff.1 hi).1
    by_cases hii : i' = i
    · subst hii
      rw [List.getElem?_set_self hil] at hu
      obtain rfl := Option.some.inj hu
      have h3 := Kd.R_tight rfl hR'
      show Kd.R (Kd.int .i64) 3 w' 0 _ (.slice t.A r.length t.c) r ∧ t.k ≤ r.length
      rw [hr]
      exact ⟨Kd.R_mono (Kd.R_lower h3 (Nat.zero_le _)) fun k hk => (hf i' t hi).1.1 k hk.symm, (hf i' t hi).2⟩
    · rw [List.getElem?_set_ne (fun e => hii e.symm)] at hu
      refine ⟨Kd.R_step (hf i' u hu).1 (fun k hk hlt => hK.2 k hlt fun e => hii ?_), (hf i' u hu).2⟩
      exact hk.2.symm.trans ((hf i t hi).1.1 k e.symm).2
theorem _root_.Go.Proofs.YtggnnnddnppcpaaDoorOwn.Sep.takeD {w W : World} {X : Nat → Prop} {l : List Asr} (h : Sep w X l W) (k : Nat) : Sep w X (l.take k) W := by
  obtain ⟨f, hf⟩ := h.tags
  refine ⟨h.hB, f, fun i A hi => hf i A ?_⟩
  rw [List.getElem?_take] at hi
  split at hi
  · exact hi
  · simp at hi
/-- rows that lie as they lay, whatever numbers they hold -/
def LikeD (T D : List LRow) : Prop := ∀ (i : Nat) t, T[i]? = some t → ∃ u, D[i]? = some u ∧ u.A = t.A ∧ u.c = t.c ∧ u.row.length = t.row.length
theorem LikeD.set {T D : List LRow} (h : LikeD T D) {i : Nat} {u : LRow} (hu : D[i]? = some u) {r : List Int} (hr : r.length = u.row.length) : LikeD T (D.set i { u with row := r }) := by
  intro m t ht
  by_cases hm : m = i
  · subst hm
    obtain ⟨u', h1, h2, h3, h4⟩ := h m t ht
    rw [hu] at h1
    obtain rfl := Option.some.inj h1
    exact ⟨_, List.getElem?_set_self (List.getElem?_eq_some_iff.1 hu).1, h2, h3, hr.trans h4⟩
  · rw [List.getElem?_set_ne (fun e => hm e.symm)]
    exact h m t ht

set_option maxHeartbeats 8000000 in
set_option maxRecDepth 100000 in
theorem overRows_calls {w0 w : World} {X : Nat → Prop} {l : List Asr} {Aw Ar : Option Addr} {nw cw nr cr : Nat} {hs : List Hd3} {T D : List LRow} (h : Sep w0 X l w) (hX : ∀ b, X b → b < w.heap.size) (iw ir id : Nat) (e1 : id ≠ ir) (e2 : id ≠ iw) (e3 : iw ≠ ir)
    (hw : l[iw]? = some (headA (.slice Aw nw cw) hs)) (hr : l[ir]? = some (headA (.slice Ar nr cr) (T.map LRow.all))) (hd : l[id]? = some (dataA D)) (hT : LikeD T D) (Ai : Option Addr) (ni ci : Nat) (hs1 : hs.length ≤ 1099511627776) (hs2 : T.length ≤ 1099511627776) (hs3 : ∀ t ∈ T, t.row.length < 17592186044416) :
    Calls Tryd.prog 13 #[.agg #[.slice Ai ni ci, .slice Aw nw cw, .slice Ar nr cr]] w fun e w' => e = .returned (.tuple #[]) ∧ Sep w0 X (((l.set id .emp).set iw .emp).set ir .emp) w' := by
  have hnr := (Kd.R_reads' (h.get ir hr)).1
  have hnw := (Kd.R_reads' (h.get iw hw)).1
  rw [List.length_map] at hnr
  subst hnr hnw
  obtain ⟨B, hB⟩ : ∃ B, B = w.heap.size := ⟨_, rfl⟩
  have hN := h.new hX (.cells #[.slice Ai ni ci, .slice Aw hs.length cw, .slice Ar T.length cr] 30 (0, 0))
  rw [← hB] at hN
  generalize hl2 : l ++ [Asr.blk B (.cells #[.slice Ai ni ci, .slice Aw hs.length cw, .slice Ar T.length cr] 30 (0, 0))] = l2 at hN
  have lt1 := (List.getElem?_eq_some_iff.1 hr).1
  have lt2 := (List.getElem?_eq_some_iff.1 hw).1
  have lt3 := (List.getElem?_eq_some_iff.1 hd).1
  have gr : l2[ir]? = some (headA (.slice Ar T.length cr) (T.map LRow.all)) := by rw [← hl2, List.getElem?_append_left lt1]; exact hr
  have gw : l2[iw]? = some (headA (.slice Aw hs.length cw) hs) := by rw [← hl2, List.getElem?_append_left lt2]; exact hw
  have gd : l2[id]? = some (dataA D) := by rw [← hl2, List.getElem?_append_left lt3]; exact hd
  have gb : l2[l.length]? = some (.blk B (.cells #[.slice Ai ni ci, .slice Aw hs.length cw, .slice Ar T.length cr] 30 (0, 0))) := by rw [← hl2, List.getElem?_append_right (Nat.le_refl _), Nat.sub_self]; rfl
  have HE : Aside0 ((((l2.set id .emp).set iw .emp).set ir .emp).take l.length = ((l.set id .emp).set iw .emp).set ir .emp) := ⟨by
    rw [← hl2, List.set_append_left _ _ lt3, List.set_append_left _ _ (by simpa using lt2), List.set_append_left _ _ (by simpa using lt1), List.take_left' (by simp)]⟩
  have HI : Aside0 (∀ A, (l2.set id A)[ir]? = some (headA (.slice Ar T.length cr) (T.map LRow.all)) ∧ (l2.set id A)[iw]? = some (headA (.slice Aw hs.length cw) hs) ∧ (l2.set id A)[id]? = some A ∧ (l2.set id A)[l.length]? = some (.blk B (.cells #[.slice Ai ni ci, .slice Aw hs.length cw, .slice Ar T.length cr] 30 (0, 0)))) := ⟨fun A => by
    refine ⟨?_, ?_, ?_, ?_⟩
    · rw [List.getElem?_set_ne e1]; exact gr
    · rw [List.getElem?_set_ne e2]; exact gw
    · exact List.getElem?_set_self (by rw [← hl2, List.length_append]; omega)
    · rw [List.getElem?_set_ne (by omega)]; exact gb⟩
  have HI2 : Aside0 (∀ A A', ((l2.set id A).set iw A')[iw]? = some A' ∧ ((l2.set id A).set iw A')[l.length]? = some (.blk B (.cells #[.slice Ai ni ci, .slice Aw hs.length cw, .slice Ar T.length cr] 30 (0, 0)))) := ⟨fun A A' => by
    refine ⟨?_, ?_⟩
    · exact List.getElem?_set_self (by rw [List.length_set, ← hl2, List.length_append]; omega)
    · rw [List.getElem?_set_ne (by omega)]; exact (HI.out A).2.2.2⟩
  have HI3 : Aside0 (∀ A A', ((l2.set id A).set iw A')[id]? = some A ∧ ((((l2.set id A).set iw A').set id .emp)) = ((l2.set id .emp).set iw A') ∧ ((l2.set id Asr.emp).set iw A')[ir]? = some (headA (.slice Ar T.length cr) (T.map LRow.all)) ∧ ((l2.set id Asr.emp).set iw A').set iw .emp = (l2.set id .emp).set iw .emp) := ⟨fun A A' => by
    refine ⟨?_, ?_, ?_, ?_⟩
    · rw [List.getElem?_set_ne e2.symm]; exact (HI.out A).2.2.1
    · rw [List.set_comm _ _ e2.symm, List.set_set]
    · rw [List.getElem?_set_ne e3]; exact (HI.out _).1
    · rw [List.set_set]⟩
  have HX : Aside0 (∀ W : World, w.heap.size ≤ W.heap.size → ∀ b, X b → b < W.heap.size) := ⟨fun W hW b hb => Nat.lt_of_lt_of_le (hX b hb) hW⟩
  have HT := Aside0.mk hT
  have HB := Aside0.mk (And.intro hs1 (And.intro hs2 hs3))
  have HN : Aside0 (Sep w0 X (l2.set id (dataA D)) (w.alloc (.cells #[.slice Ai ni ci, .slice Aw hs.length cw, .slice Ar T.length cr] 30 (0, 0))) ∧ w.heap.size ≤ (w.alloc (.cells #[.slice Ai ni ci, .slice Aw hs.length cw, .slice Ar T.length cr] 30 (0, 0))).heap.size) := ⟨hN.as id gd fun ok hp => hp, by simp⟩
  clear h hX hw hr hd hT hN hs1 hs2 hs3 hl2 lt1 lt2 lt3 gr gw gd gb
  go_enter Tryd.func13, Tryd.ntmps13
  go_wp2
  rw [← hB]
  have HBB := Aside0.mk hB
  clear hB
  go_loopw [2] (fun v2 wr => ∃ (k : Nat) (x : Int) (D : List LRow), v2 = .int .i64 x ∧ Aside0 (x = k ∧ k ≤ T.length) ∧ Aside0 (LikeD T D) ∧ Aside0 (Sep w0 X (l2.set id (dataA D)) wr ∧ w.heap.size ≤ wr.heap.size)) (fun i _ => T.length - (intOf i).toNat)
  case atStart => exact ⟨0, 0, D, rfl, ⟨rfl, Nat.zero_le _⟩, HT, HN⟩
  case round =>
    clear HT HN
    obtain ⟨k, x, D, rfl, HK, HT, HQ⟩ := hrel
    obtain ⟨hxk, hk⟩ := HK.out
    have fb1 := (HQ.out.1.cell l.length 1 (HI.out _).2.2.2).trans rfl
    have fb2 := (HQ.out.1.cell l.length 2 (HI.out _).2.2.2).trans rfl
    by_cases hlt : k < T.length
    · have q3 : decide (x < (T.length : Int)) = true := decide_eq_true (by omega)
      have p2 : ((0 : Int) ≤ x) = True := eq_true (by omega)
      have q2 : (x < (T.length : Int)) = True := eq_true (by omega)
      have HX2 : Aside0 (wrap64 (x + 1) = ((k + 1 : Nat) : Int) ∧ k + 1 ≤ T.length) := by
        have := HB.out.2.1
        exact ⟨by rw [w64 (by omega) (by omega)]; omega, by omega⟩
      have hm : (intOf (.int .i64 (wrap64 (x + 1)))).toNat = k + 1 := by rw [HX2.out.1]; simp [intOf]
      have hm0 : (intOf (.int .i64 x)).toNat = k := by rw [hxk]; simp [intOf]
      have HMS : Aside0 (T.length - (intOf (.int .i64 (wrap64 (x + 1)))).toNat < T.length - (intOf (.int .i64 x)).toNat) := ⟨by rw [hm, hm0]; omega⟩
      obtain ⟨t, ht⟩ : ∃ t, T[k]? = some t := ⟨_, List.getElem?_eq_getElem hlt⟩
      obtain ⟨u, hu, u1, u2, u3⟩ := HT.out k t ht
      obtain ⟨g, hA, hc⟩ := head_at (HQ.out.1.get ir (HI.out _).1) (q := k) (u := t.all) (by rw [List.getElem?_map, ht]; rfl)
      obtain ⟨ad, had⟩ : ∃ ad, ad = (⟨g, 0, none⟩ : Addr) := ⟨_, rfl⟩
      rw [← had] at hA
      subst hA
      have hk' : (⟨g, k, none⟩ : Addr) = ad.add x.toNat := by rw [had, hxk, Int.toNat_natCast, add_at, Nat.zero_add]
      rw [hk'] at hc
      replace hc : wr.cell? (ad.add x.toNat) = some (.slice u.A u.row.length u.c) := by rw [u1, u2, u3]; exact hc
      have HC := Aside0.mk (overRow_calls HQ.out.1 (HX.out _ HQ.out.2) id (HI.out _).2.2.1 k u hu (by rw [u3]; exact HB.out.2.2 t (List.mem_of_getElem? ht)))
      have HU := Aside0.mk hu
      clear hm hm0 hk hlt ht had hk' hxk u1 u2 u3 hu
      go_wp2_with (go_at_call 33; (with_reducible refine HC.out.mono ?_); rintro e w' ⟨rfl, r, hr, hsep, hsz⟩; have HR := Aside0.mk (And.intro hr (And.intro hsep hsz)); clear hr hsep hsz)
      go_roundw
      case measure => exact HMS.out
      case rel =>
        refine ⟨k + 1, _, _, rfl, HX2, ⟨HT.out.set HU.out HR.out.1⟩, ⟨?_, Nat.le_trans HQ.out.2 HR.out.2.2⟩⟩
        have h5 := HR.out.2.1
        rw [List.set_set] at h5
        exact h5
    · obtain rfl : k = T.length := by omega
      have q3 : decide (x < (T.length : Int)) = false := decide_eq_false (by omega)
      have HN : Aside0 (Sep w0 X ((l2.set id .emp).set iw (headA (.slice Aw hs.length cw) hs)) wr ∧ w.heap.size ≤ wr.heap.size) := ⟨by
        have h1 := (HQ.out.1.drop id (HI.out _).2.2.1).as iw (A' := headA (.slice Aw hs.length cw) hs) (by rw [List.set_set]; exact (HI.out _).2.1) fun ok hp => hp
        rw [List.set_set] at h1
        exact ⟨h1, HQ.out.2⟩⟩
      clear hk hlt hxk HK HQ HT fb1
      go_wp2
      clear fb2
      go_loopw [3] (fun v3 wr => ∃ (k : Nat) (x : Int) (hs' : List Hd3), v3 = .int .i64 x ∧ Aside0 (x = k ∧ k ≤ hs.length) ∧ Aside0 (hs'.length = hs.length) ∧ Aside0 (Sep w0 X ((l2.set id .emp).set iw (headA (.slice Aw hs.length cw) hs')) wr ∧ w.heap.size ≤ wr.heap.size)) (fun i _ => hs.length - (intOf i).toNat)
      case atStart => exact ⟨0, 0, hs, rfl, ⟨rfl, Nat.zero_le _⟩, ⟨rfl⟩, HN⟩
      case round =>
        clear HN
        obtain ⟨k, x, hs', rfl, HK, HL, HQ⟩ := hrel
        obtain ⟨hxk, hk⟩ := HK.out
        have fb1 := (HQ.out.1.cell l.length 1 (HI2.out _ _).2).trans rfl
        by_cases hlt : k < hs.length
        · have q3 : decide (x < (hs.length : Int)) = true := decide_eq_true (by omega)
          have p2 : ((0 : Int) ≤ x) = True := eq_true (by omega)
          have q2 : (x < (hs.length : Int)) = True := eq_true (by omega)
          have HX2 : Aside0 (wrap64 (x + 1) = ((k + 1 : Nat) : Int) ∧ k + 1 ≤ hs.length) := by
            have := HB.out.1
            exact ⟨by rw [w64 (by omega) (by omega)]; omega, by omega⟩
          have hm : (intOf (.int .i64 (wrap64 (x + 1)))).toNat = k + 1 := by rw [HX2.out.1]; simp [intOf]
          have hm0 : (intOf (.int .i64 x)).toNat = k := by rw [hxk]; simp [intOf]
          have HMS : Aside0 (hs.length - (intOf (.int .i64 (wrap64 (x + 1)))).toNat < hs.length - (intOf (.int .i64 x)).toNat) := ⟨by rw [hm, hm0]; omega⟩
          have hAl := HQ.out.1.keep (below_alloc (Below.refl _ _) (.cells #[.int .i64 1, .int .i64 (-1), .int .i64 2] 3 (0, 0)))
          obtain ⟨g, hA, hle, hc, hf, hput⟩ := hAl.putHead (fun b hb => by have h1 := HX.out wr HQ.out.2 b hb; simp; omega) iw (HI2.out _ _).1 k (by rw [HL.out]; omega)
          replace hput := hput (some ⟨wr.heap.size, 0, none⟩, 3, 3)
          rw [List.set_set] at hput
          obtain ⟨ad, had⟩ : ∃ ad, ad = (⟨g, 0, none⟩ : Addr) := ⟨_, rfl⟩
          rw [← had] at hA
          subst hA
          have hk' : (⟨g, k, none⟩ : Addr) = ad.add x.toNat := by rw [had, hxk, Int.toNat_natCast, add_at, Nat.zero_add]
          rw [hk'] at hc hf hput
          have HP := Aside0.mk hput
          clear hm hm0 hk hlt had hk' hxk hput hAl hle
          go_wp2
          go_roundw
          case measure => exact HMS.out
          case rel => exact ⟨k + 1, _, _, rfl, HX2, ⟨by rw [List.length_set]; exact HL.out⟩, ⟨HP.out, Nat.le_trans HQ.out.2 (by simp)⟩⟩
        · obtain rfl : k = hs.length := by omega
          have q3 : decide (x < (hs.length : Int)) = false := decide_eq_false (by omega)
          clear hk hlt hxk HK
          go_wp2
          go_end0
          refine ⟨rfl, ?_⟩
          have h1 := ((HQ.out.1.drop iw (HI2.out _ _).1).drop ir (by rw [List.set_set, List.getElem?_set_ne e3]; exact (HI.out _).1)).takeD l.length
          rw [List.set_set, HE.out] at h1
          exact h1
end Go.Proofs.YtggnnnddnppcpaaDoorHand
/-! text YtggnnnddnppcpaaDoorApartMath -/
namespace Go.Proofs.YtggnnnddnppcpaaDoorOwn
open Go Go.RowKit Go.Proofs.YtggnnnddnppcpaaDoorW.PrintWords
set_option linter.unusedVariables false
def marks (E : Nat → Value) (n : Nat) : List Value := (List.range n).map E
theorem marks_len (E : Nat → Value) (n : Nat) : (marks E n).length = n := by simp [marks]
theorem marks_succ (E : Nat → Value) (n : Nat) : marks E (n + 1) = marks E n ++ [E n] := by simp [marks, List.range_succ]
theorem marks_at (E : Nat → Value) {n i : Nat} (h : i < n) : (marks E n)[i]? = some (E i) := by simp [marks, h]
theorem marks_take (E : Nat → Value) {n m : Nat} (h : m ≤ n) : (marks E n).take m = marks E m := by
  apply List.ext_getElem?
  intro i
  rw [List.getElem?_take]
  split
  · rename_i h1
    rw [marks_at E h1, marks_at E (by omega)]
  · rw [List.getElem?_eq_none (by rw [marks_len]; omega)]
theorem eq_marks {E : Nat → Value} {xs : List Value} {n : Nat} (hl : xs.length = n) (h : ∀ j, j < n → xs[j]? = some (E j)) : xs = marks E n := by
  apply List.ext_getElem?
  intro i
  by_cases hi : i < n
  · rw [h i hi, marks_at E hi]
  · rw [List.getElem?_eq_none (by omega), List.getElem?_eq_none (by rw [marks_len]; omega)]
section
variable (E : Nat → Nat → Value) (rows : List (Value × Nat))
/-- marked: all rows before k, of row k the first i places -/
def M1 (D : List (Value × List Value)) (k i : Nat) : Prop := ∀ (k' : Nat) p d, rows[k']? = some p → D[k']? = some d → d.1 = p.1 ∧ d.2.length = p.2 ∧ ∀ j, j < p.2 → (k' < k ∨ k' = k ∧ j < i) → d.2[j]? = some (E k' j)
/-- grown: all rows before k, row k by x -/
def M2 (D : List (Value × List Value)) (k x : Nat) : Prop := ∀ (k' : Nat) p d, rows[k']? = some p → D[k']? = some d → (k' < k → d.2 = marks (E k') (p.2 + 64)) ∧ (k' = k → d.2 = marks (E k') (p.2 + x)) ∧ (k < k' → d.2 = marks (E k') p.2)
/-- their list, as far as k -/
def HD (D : List (Value × List Value)) (H : List Value) (k : Nat) : Prop := H.length = k ∧ ∀ (k' : Nat) d, k' < k → D[k']? = some d → H[k']? = some d.1
/-- in front, as marked -/
def M4 (D : List (Value × List Value)) : Prop := ∀ (k' : Nat) p d, rows[k']? = some p → D[k']? = some d → d.2.length = p.2 + 64 ∧ d.2.take p.2 = marks (E k') p.2
variable {E rows} {D : List (Value × List Value)} {H : List Value} {k i : Nat} {p : Value × Nat}
theorem M1.start (hD : ∀ (k' : Nat) p d, rows[k']? = some p → D[k']? = some d → d.1 = p.1 ∧ d.2.length = p.2) : M1 E rows D 0 0 := fun k' p d hp hd => ⟨(hD k' p d hp hd).1, (hD k' p d hp hd).2, fun j _ hj => by omega⟩
theorem M1.mark {v : Value} {xs : List Value} (h : M1 E rows D k i) (hp : rows[k]? = some p) (hd : D[k]? = some (v, xs)) (hi : i < p.2) : M1 E rows (D.set k (v, xs.set i (E k i))) k (i + 1) := by
  intro k' p' d' hp' hd'
  rw [List.getElem?_set] at hd'
  by_cases hk : k = k'
  · subst hk
    rw [hp] at hp'
    injection hp' with hp'
    subst hp'
    rw [if_pos rfl, if_pos (List.getElem?_eq_some_iff.1 hd).1] at hd'
    injection hd' with hd'
    subst hd'
    obtain ⟨h1, h2, h3⟩ := h k p _ hp hd
    refine ⟨h1, by simpa using h2, fun j hj hjj => ?_⟩
    rw [List.getElem?_set]
    split
    · rename_i hij
      subst hij
      have : i < xs.length := by have := h2; simp only at this; omega
      simp [this]
    · exact h3 j hj (by omega)
  · rw [if_neg hk] at hd'
    obtain ⟨h1, h2, h3⟩ := h k' p' d' hp' hd'
    exact ⟨h1, h2, fun j hj hjj => h3 j hj (by omega)⟩
theorem M1.next (h : M1 E rows D k p.2) (hp : rows[k]? = some p) : M1 E rows D (k + 1) 0 := fun k' p' d' hp' hd' => by
  obtain ⟨h1, h2, h3⟩ := h k' p' d' hp' hd'
  refine ⟨h1, h2, fun j hj hjj => h3 j hj ?_⟩
  by_cases hk : k' = k
  · subst hk
    rw [hp] at hp'
    injection hp' with hp'
    subst hp'
    omega
  · omega
theorem M1.done (h : M1 E rows D rows.length 0) : M2 E rows D 0 0 := fun k' p d hp hd => by
  obtain ⟨h1, h2, h3⟩ := h k' p d hp hd
  have hk := (List.getElem?_eq_some_iff.1 hp).1
  have h4 : d.2 = marks (E k') p.2 := eq_marks h2 fun j hj => h3 j hj (by omega)
  exact ⟨fun hlt => by omega, fun _ => h4, fun _ => h4⟩
theorem M2.set {d d' : Value × List Value} {x : Nat} (h : M2 E rows D k i) (hp : rows[k]? = some p) (hd : D[k]? = some d) (hd' : d'.2 = marks (E k) (p.2 + x)) : M2 E rows (D.set k d') k x := by
  intro k' p' d2 hp' hd2
  rw [List.getElem?_set] at hd2
  by_cases hk : k = k'
  · subst hk
    rw [hp] at hp'
    injection hp' with hp'
    subst hp'
    rw [if_pos rfl, if_pos (List.getElem?_eq_some_iff.1 hd).1] at hd2
    injection hd2 with hd2
    subst hd2
    exact ⟨fun h => by omega, fun _ => hd', fun h => by omega⟩
  · rw [if_neg hk] at hd2
    obtain ⟨h1, h2, h3⟩ := h k' p' d2 hp' hd2
    exact ⟨h1, fun e => absurd e.symm hk, h3⟩
theorem M2.next (h : M2 E rows D k 64) : M2 E rows D (k + 1) 0 := fun k' p' d' hp' hd' => by
  obtain ⟨h1, h2, h3⟩ := h k' p' d' hp' hd'
  refine ⟨fun hk => ?_, fun hk => h3 (by omega), fun hk => h3 (by omega)⟩
  by_cases hk2 : k' = k
  · exact h2 hk2
  · exact h1 (by omega)
theorem M2.row {d : Value × List Value} (h : M2 E rows D k i) (hp : rows[k]? = some p) (hd : D[k]? = some d) : d.2 = marks (E k) (p.2 + i) := (h k p d hp hd).2.1 rfl
theorem M2.full {d : Value × List Value} (h : M2 E rows D rows.length 0) (hp : rows[k]? = some p) (hd : D[k]? = some d) : d.2 = marks (E k) (p.2 + 64) := (h k p d hp hd).1 (List.getElem?_eq_some_iff.1 hp).1
theorem M2.four (h : M2 E rows D rows.length 0) : M4 E rows D := fun k p d hp hd => by
  have := h.full hp hd
  rw [this]
  exact ⟨marks_len _ _, marks_take _ (by omega)⟩
theorem HD.start : HD D [] 0 := ⟨rfl, fun k' d h => by omega⟩
theorem HD.set {d : Value × List Value} (h : HD D H k) : HD (D.set k d) H k := ⟨h.1, fun k' d' hk hd' => by
  rw [List.getElem?_set, if_neg (by omega)] at hd'
  exact h.2 k' d' hk hd'⟩
theorem HD.push {d : Value × List Value} (h : HD D H k) (hd : D[k]? = some d) : HD D (H ++ [d.1]) (k + 1) := by
  refine ⟨by simp [h.1], fun k' d' hk hd' => ?_⟩
  by_cases hk2 : k' = k
  · subst hk2
    rw [hd] at hd'
    injection hd' with hd'
    subst hd'
    rw [List.getElem?_append_right (by rw [h.1]; exact Nat.le_refl _), h.1, Nat.sub_self]; rfl
  · rw [List.getElem?_append_left (by rw [h.1]; omega)]
    exact h.2 k' d' (by omega) hd'
theorem HD.put {n : Nat} {d : Value × List Value} (h : HD D H n) (hk : k < n) : HD (D.set k d) (H.set k d.1) n := by
  refine ⟨by simpa using h.1, fun k' d' hk' hd' => ?_⟩
  rw [List.getElem?_set] at hd' ⊢
  by_cases hk2 : k = k'
  · subst hk2
    rw [if_pos rfl] at hd' ⊢
    split at hd'
    · injection hd' with hd'
      subst hd'
      rw [if_pos (by rw [h.1]; exact hk)]
    · cases hd'
  · rw [if_neg hk2] at hd' ⊢
    exact h.2 k' d' hk' hd'
theorem M4.set {d d' : Value × List Value} {ms : List Value} (h : M4 E rows D) (hp : rows[k]? = some p) (hd : D[k]? = some d) (hm : ms.length = 64) (hd' : d'.2 = d.2.take p.2 ++ ms) : M4 E rows (D.set k d') := by
  intro k' p' d2 hp' hd2
  rw [List.getElem?_set] at hd2
  by_cases hk : k = k'
  · subst hk
    rw [hp] at hp'
    injection hp' with hp'
    subst hp'
    rw [if_pos rfl, if_pos (List.getElem?_eq_some_iff.1 hd).1] at hd2
    injection hd2 with hd2
    subst hd2
    obtain ⟨h1, h2⟩ := h k p d hp hd
    rw [hd', h2]
    refine ⟨by rw [List.length_append, marks_len, hm], ?_⟩
    rw [List.take_append_of_le_length (by rw [marks_len]; exact Nat.le_refl _), List.take_of_length_le (by rw [marks_len]; exact Nat.le_refl _)]
  · rw [if_neg hk] at hd2
    exact h k' p' d2 hp' hd2
end
end Go.Proofs.YtggnnnddnppcpaaDoorOwn
/-! text YtggnnnddnppcpaaDoorLitsFormed -/
namespace Go.Proofs.YtggnnnddnppcpaaDoorHand
open Go.RowKit Go.Proofs.YtggnnnddnppcpaaDoorW.PrintWords Go.Proofs.YtggnnnddnppcpaaDoorW.PrintLast Go.Proofs.YtggnnnddnppcpaaDoorMath
set_option linter.unusedVariables false
set_option linter.unusedSimpArgs false

theorem formed_calls (l : Int) (b : Bool) (w : World) (h : formed l = b) : Calls Tryd.prog 41 #[.int .i64 l] w fun e w' => e = .returned (.bool b) ∧ Drawn0 w w' := by
  by_cases h0 : l = 0
  · have a1 : (l != 0) = false := by simp [h0]
    obtain rfl : b = false := by rw [← h]; unfold formed; simp [h0]
    clear h h0
    go_enter Tryd.func41, Tryd.ntmps41
    go_wp2
    go_ret
    exact ⟨rfl, by repeat (first | exact Drawn0.refl _ | apply Drawn0.step)⟩
  · have a1 : (l != 0) = true := by simp [h0]
    by_cases h1 : -1048576 ≤ l
    · have a2 : decide (-1048576 ≤ l) = true := decide_eq_true h1
      have a3 : decide (l ≤ 1048576) = b := by rw [← h]; unfold formed; rw [Bool.eq_iff_iff]; simp; omega
      clear h h0 h1
      go_enter Tryd.func41, Tryd.ntmps41
      go_wp2
      go_ret
      exact ⟨rfl, by repeat (first | exact Drawn0.refl _ | apply Drawn0.step)⟩
    · have a2 : decide (-1048576 ≤ l) = false := decide_eq_false h1
      obtain rfl : b = false := by rw [← h]; unfold formed; simp; omega
      clear h h0 h1
      go_enter Tryd.func41, Tryd.ntmps41
      go_wp2
      go_ret
      exact ⟨rfl, by repeat (first | exact Drawn0.refl _ | apply Drawn0.step)⟩

end Go.Proofs.YtggnnnddnppcpaaDoorHand
