/- depotkit.ApartClauses: of lists of clauses that lie apart, and whose clauses do, it answers true; it turns their blocks alone. -/
import Derived.Test.YtggnnnddnppcpaaDoorClCnfKeepsTidyUptoCardr
import Derived.Test.YtggnnnddnppcpaaDoorClCnfKeepsTidyUptoCardb
import Derived.Deep.Cut
import Derived.Test.YtggnnnddnppcpaaDoorClCnfKeepsTidyUptoCardp
import Derived.Test.YtggnnnddnppcpaaDoorProg
import Derived.Below
import Derived.Deep.Draws
import Derived.Deep.AppendLies
import Derived.Maps.AppendAt
import Derived.OwnWalk
import Derived.Laws.BytesArg
import Derived.Laws.MakeOwn
import Derived.Laws.OwnMore
import Derived.Deep.OwnRows
import Derived.Tactics
import Derived.Lib.ConvBytes
import Derived.Laws.Slices
import Derived.WalkKit
import Derived.KernelRfl
import Derived.RowKit3
import Derived.Deep.LoopGhost
import Derived.Deep.QuietTactic
import Derived.BigQuiet
import Derived.WideLaws
import Derived.Deep.DeepCutAuto
import Derived.Deep.CutBlock
import Derived.Deep.RegionHeld3
import Derived.Laws.Rows
import Derived.Lib.AppendStr
import Derived.ArgAppend
import Derived.Laws.IdiomCopy
import Derived.OrdersHeld
import Derived.Laws.BitsLemmas
import Derived.RowKit
import Derived.Test.YtggnnnddnppcpaaDoorClCnfKeepsTidyUptoCardp0
import Derived.Test.YtggnnnddnppcpaaDoorClCnfKeepsTidyUptoCardp1
import Derived.Test.YtggnnnddnppcpaaDoorClCnfKeepsTidyUptoCardp7
import Derived.Test.YtggnnnddnppcpaaDoorClCnfKeepsTidyUptoCardp8
import Derived.Test.YtggnnnddnppcpaaDoorClCnfKeepsTidyUptoCardp9
import Derived.Test.YtggnnnddnppcpaaDoorClCnfKeepsTidyUptoCardp2
import Derived.Test.YtggnnnddnppcpaaDoorClCnfKeepsTidyUptoCardp3
import Derived.Test.YtggnnnddnppcpaaDoorClCnfKeepsTidyUptoCardp10
import Derived.Test.YtggnnnddnppcpaaDoorClCnfKeepsTidyUptoCardp4
import Derived.Test.YtggnnnddnppcpaaDoorClCnfKeepsTidyUptoCardp5
import Derived.Test.YtggnnnddnppcpaaDoorClCnfKeepsTidyUptoCardp6
import Derived.Test.YtggnnnddnppcpaaDoorClCnfKeepsTidyUptoCardp11
import Derived.Test.YtggnnnddnppcpaaDoorClCnfKeepsTidyUptoCardp12
import Derived.Test.YtggnnnddnppcpaaDoorClCnfKeepsTidyUptoCardp13
import Derived.Test.YtggnnnddnppcpaaDoorClCnfKeepsTidyUptoCardp14
import Derived.Test.YtggnnnddnppcpaaDoorClCnfKeepsTidyUptoCardp15
import Derived.Test.YtggnnnddnppcpaaDoorClCnfKeepsTidyUptoCardp16
import Derived.Test.YtggnnnddnppcpaaDoorClCnfKeepsTidyUptoCardp17
import Derived.Test.YtggnnnddnppcpaaDoorClCnfKeepsTidyUptoCardp18
import Derived.Test.YtggnnnddnppcpaaDoorClCnfKeepsTidyUptoCardp19
import Derived.Test.YtggnnnddnppcpaaDoorClCnfKeepsTidyUptoCardp20
/-! text YtggnnnddnppcpaaDoorApartDeep -/
namespace Go.Proofs.YtggnnnddnppcpaaDoorOwn
open Go Go.RowKit Go.Proofs.YtggnnnddnppcpaaDoorW.PrintWords
set_option linter.unusedVariables false
/-- nothing is appended -/
theorem run_append_zero {P : Program} (W : World) (t ty e : TypeId) (i : TypeInfo) (ht : P.underlying t = some (.slice e)) (hi : P.info? e = some i) (A B : Option Addr) (n c k : Nat) (hn : n ≤ c) :
    (Builtin.append_ #[t, t] ty #[.slice A n c, .slice B 0 k]).run P W = .ok (.slice A n c) W := by
  have h1 : ¬ (c < n) := by omega
  cases A <;> cases B <;> simp [Builtin.append_, run_underlying ht, sizeOf, typeInfo, hi, Builtin.lenOf, Builtin.firstCells, loadCells, loadCellsFrom, hn, storeCells]
/-- lists that lie apart, behind one another, some of them empty -/
theorem S_all {α : Type} {d : Kd α} {P : Program} {e t ty : TypeId} {W : World} {base base2 : Nat} {ok ok2 : Nat → Prop} {v u : Value} {xs ys : List α} (z : Value) (bytes : Nat) (ht : P.underlying t = some (.slice e)) (hinfo : (P.info? e).map (fun i => (i.zero, i.size, i.bytes)) = some (some z, d.sz, bytes)) (hz : z.cells.size = d.sz) (hs0 : 0 < d.sz)
    (HO : Kd.S d e W base ok v xs) (HU : Kd.S d e W base2 ok2 u ys) (hdis : ∀ k, ok k → ¬ ok2 k) (hb2 : base ≤ base2) (hbase : base ≤ W.heap.size) (h63 : xs.length + ys.length ≤ maxLen) (hbytes : (xs.length + ys.length) * bytes ≤ 140737488355328) :
    ∃ v1 w1, (Builtin.append_ #[t, t] ty #[v, u]).run P W = .ok v1 w1 ∧ Kd.S d e w1 base (fun k => ok k ∨ (ok2 k ∧ some k ≠ u.ownBlock) ∨ W.heap.size ≤ k) v1 (xs ++ ys) ∧ W.grownBy w1 v.ownBlock ∧ (v1.ownBlock = v.ownBlock ∨ v1.ownBlock = some W.heap.size) := by
  rcases Nat.eq_zero_or_pos ys.length with h0 | h0
  · obtain rfl := List.eq_nil_of_length_eq_zero h0
    obtain ⟨A, c, rfl⟩ := Kd.S_slice HO
    obtain ⟨B, k, rfl⟩ := Kd.S_slice HU
    obtain ⟨i, hi, _⟩ := Option.map_eq_some_iff.1 hinfo
    refine ⟨_, W, run_append_zero W t ty e i ht hi A B _ c k (Kd.S_reads' HO).2.1, ?_, ⟨rfl, rfl, rfl, Nat.le_refl _, fun _ _ _ => rfl⟩, .inl rfl⟩
    rw [List.append_nil]
    exact Kd.S_mono HO fun k hk => .inl hk
  · exact S_both (P := P) (t := t) (ty := ty) z bytes ht hinfo hz hs0 HO HU hdis hb2 hbase h63 hbytes h0
end Go.Proofs.YtggnnnddnppcpaaDoorOwn
namespace Go.Proofs.YtggnnnddnppcpaaDoorHand
open Go.RowKit Go.Proofs.YtggnnnddnppcpaaDoorW.PrintWords Go.Proofs.YtggnnnddnppcpaaDoorW.PrintLast Go.Proofs.YtggnnnddnppcpaaDoorMath Go.Proofs.YtggnnnddnppcpaaDoorOwn
set_option linter.unusedVariables false
set_option linter.unusedSimpArgs false
/-- lists of clauses, told list by list: what ApartRows wants of them behind ApartInts -/
theorem apartRows_deep {w W : World} {A : Option Addr} {c : Nat} {xs : List (List (List Int))} {vs : List Value} {okj : Nat → Nat → Prop} (hvl : vs.length = xs.length) (ho : w.ownsRow 0 22 1 (.slice A xs.length c) xs.length vs)
    (hS : ∀ (i : Nat) u x, vs[i]? = some u → xs[i]? = some x → Kd.S (Kd.slice 3 (Kd.int .i64)) 40 w 0 (okj i) u x) (hok : ∀ i k, okj i k → some k ≠ (Value.slice A xs.length c).ownBlock ∧ k < w.heap.size) (hdis : ∀ i j k, okj i k → okj j k → i = j)
    (hmove : ∀ k, k < w.heap.size → ((Value.slice A xs.length c).ownBlock = some k ∨ ∃ i u, vs[i]? = some u ∧ u.ownBlock = some k ∧ okj i k) → W.heap[k]? = w.heap[k]?) (hn : xs.length ≤ 1099511627776) (hs : ∀ x ∈ xs, x.length ≤ 1099511627776) :
    Calls Tryd.prog 54 #[.slice A xs.length c] W fun e w' => e = .returned (.bool true) ∧ Grow (fun b => ∃ i, okj i b) W w' := by
  classical
  have hrow : ∀ (i : Nat) u x, vs[i]? = some u → xs[i]? = some x → ∃ inner, w.ownsRow 0 40 1 u x.length inner ∧ ∀ k, u.ownBlock = some k → okj i k := fun i u x hu hx => by
    obtain ⟨h0, inner, hown, _⟩ := Kd.S_R (hS i u x hu hx)
    exact ⟨inner, hown, h0⟩
  obtain ⟨rows, hrows⟩ : ∃ rows, rows = vs.zip (xs.map List.length) := ⟨_, rfl⟩
  have hrl : rows.length = xs.length := by rw [hrows, List.length_zip, List.length_map, hvl, Nat.min_self]
  have hra : ∀ (i : Nat) r, rows[i]? = some r → vs[i]? = some r.1 ∧ ∃ x, xs[i]? = some x ∧ r.2 = x.length := fun i r hr => by
    rw [hrows, List.getElem?_zip_eq_some] at hr
    obtain ⟨h3, h4⟩ := hr
    rw [List.getElem?_map] at h4
    obtain ⟨x, hx, h5⟩ := Option.map_eq_some_iff.1 h4
    exact ⟨h3, x, hx, h5.symm⟩
  obtain ⟨inn, hinn⟩ : ∃ inn : Nat → List Value, ∀ (i : Nat) r, rows[i]? = some r → w.ownsRow 0 40 1 r.1 r.2 (inn i) := by
    have hex : ∀ i : Nat, ∃ l : List Value, ∀ r, rows[i]? = some r → w.ownsRow 0 40 1 r.1 r.2 l := fun i => by
      by_cases hi : ∃ r, rows[i]? = some r
      · obtain ⟨r, hr⟩ := hi
        obtain ⟨h1, x, h2, h3⟩ := hra i r hr
        obtain ⟨l, h4, _⟩ := hrow i r.1 x h1 h2
        refine ⟨l, fun r' hr' => ?_⟩
        rw [hr] at hr'
        injection hr' with hr'
        subst hr'
        rw [h3]
        exact h4
      · exact ⟨[], fun r hr => absurd ⟨r, hr⟩ hi⟩
    exact ⟨fun i => Classical.choose (hex i), fun i => Classical.choose_spec (hex i)⟩
  have hownb : ∀ (i : Nat) r b, rows[i]? = some r → r.1.ownBlock = some b → okj i b := fun i r b hr hb => by
    obtain ⟨h1, x, h2, _⟩ := hra i r hr
    obtain ⟨_, _, h3⟩ := hrow i r.1 x h1 h2
    exact h3 b hb
  obtain ⟨f, hf1, hf2⟩ : ∃ f : Nat → Nat, (∀ (i : Nat) r b, rows[i]? = some r → r.1.ownBlock = some b → f b = i) ∧ ∀ b, (¬ ∃ (i : Nat) (r : Value × Nat), rows[i]? = some r ∧ r.1.ownBlock = some b) → f b = rows.length := by
    refine ⟨fun b => if hx : ∃ (i : Nat) (r : Value × Nat), rows[i]? = some r ∧ r.1.ownBlock = some b then Classical.choose hx else rows.length, fun i r b hr hb => ?_, fun b hb => dif_neg hb⟩
    have hx : ∃ (i : Nat) (r : Value × Nat), rows[i]? = some r ∧ r.1.ownBlock = some b := ⟨i, r, hr, hb⟩
    refine (dif_pos hx).trans ?_
    obtain ⟨r2, h2, h3⟩ := Classical.choose_spec hx
    exact hdis _ _ _ (hownb _ _ _ h2 h3) (hownb i r b hr hb)
  have hD : ∀ (k : Nat) p d, rows[k]? = some p → (rows.zipIdx.map fun q => (q.1.1, inn q.2))[k]? = some d → d = (p.1, inn k) := fun k p d hp hd => by
    rw [List.getElem?_map, List.getElem?_zipIdx, hp] at hd
    simpa using hd.symm
  have hQ : AQ 40 22 W rows A (rows.zipIdx.map fun q => (q.1.1, inn q.2)) (.slice none 0 0) [] (.slice none 0 0) [] [] W := by
    refine AQ.start _ _ W rows A _ f (by simp) (fun k p d hp hd => ?_) fun k p hp => ?_
    · obtain rfl := hD k p d hp hd
      refine ⟨rfl, own_move (hinn k p hp) fun b hb => ?_, fun b hb => hf1 k p b hp hb⟩
      obtain ⟨h1, _⟩ := hra k p hp
      exact hmove b (own_lt (hinn k p hp) b hb) (.inr ⟨k, p.1, h1, hb, hownb k p b hp hb⟩)
    · obtain ⟨h1, _⟩ := hra k p hp
      have hk := (List.getElem?_eq_some_iff.1 hp).1
      rcases ho.2 with ⟨_, h3⟩ | ⟨g, cap, cur, e1, _, hh, hnc, _, hcs, htk⟩
      · omega
      · injection e1 with e1 _ _
        subst e1
        refine ⟨_, rfl, ?_, ?_⟩
        · refine Nat.le_of_eq (hf2 g ?_).symm
          rintro ⟨i, r, hr, hb⟩
          exact (hok i g (hownb i r g hr hb)).1 rfl
        · have hh2 : W.heap[g]? = some (.cells cur 22 (0, 0)) := (hmove g (blk_lt hh) (.inl rfl)).trans hh
          rw [add_at, Nat.zero_add, blk_cell hh2 k]
          rw [← htk, List.getElem?_take] at h1
          split at h1
          · simpa using h1
          · cases h1
  have hM : G1 (GR []) rows (rows.zipIdx.map fun q => (q.1.1, inn q.2)) 0 0 := G1.start fun k p d hp hd => by
    obtain rfl := hD k p d hp hd
    refine ⟨rfl, ?_⟩
    have := (hinn k p hp).1
    simpa using this
  have hfin := apartRows_calls rows A c _ W hQ hM (by omega) fun p hp => by
    obtain ⟨i, hi⟩ := List.getElem?_of_mem hp
    obtain ⟨_, x, hx, h3⟩ := hra i p hi
    rw [h3]
    exact hs x (List.mem_of_getElem? hx)
  rw [hrl] at hfin
  refine hfin.mono ?_
  rintro e w' ⟨rfl, hg⟩
  refine ⟨rfl, hg.mono ?_⟩
  rintro b ⟨p, hp, hb⟩
  obtain ⟨i, hi⟩ := List.getElem?_of_mem hp
  exact ⟨i, hownb i p b hi hb⟩
end Go.Proofs.YtggnnnddnppcpaaDoorHand
/-! text YtggnnnddnppcpaaDoorApartClauses -/
namespace Go.Proofs.YtggnnnddnppcpaaDoorHand
open Go.RowKit Go.Proofs.YtggnnnddnppcpaaDoorW.PrintWords Go.Proofs.YtggnnnddnppcpaaDoorW.PrintLast Go.Proofs.YtggnnnddnppcpaaDoorMath Go.Proofs.YtggnnnddnppcpaaDoorOwn
set_option linter.unusedVariables false
set_option linter.unusedSimpArgs false
theorem flatten_take {α : Type} {xs : List (List α)} {k : Nat} {x : List α} (hx : xs[k]? = some x) : (xs.take (k + 1)).flatten = (xs.take k).flatten ++ x := by
  rw [List.take_add_one, hx, List.flatten_append]
  simp
theorem flatten_take_le {α : Type} (xs : List (List α)) (k : Nat) : (xs.take k).flatten.length ≤ xs.flatten.length := by
  have h : xs.flatten = (xs.take k).flatten ++ (xs.drop k).flatten := by rw [← List.flatten_append, List.take_append_drop]
  rw [h, List.length_append]
  omega

set_option maxHeartbeats 4000000 in
set_option maxRecDepth 100000 in
theorem apartClauses_calls (A : Option Addr) (c : Nat) (xs : List (List (List Int))) (ok : Nat → Prop) (w : World) (h : Kd.S (apartK 40 (Kd.slice 3 (Kd.int .i64))) 22 w 0 ok (.slice A xs.length c) xs)
    (hn : xs.length ≤ 1099511627776) (hs : ∀ x ∈ xs, x.length ≤ 1099511627776) (hl : ∀ x ∈ xs.flatten, x.length ≤ 1099511627776) (hsum : xs.flatten.length ≤ 1099511627776) :
    Calls Tryd.prog 35 #[.slice A xs.length c] w fun e w' => e = .returned (.bool true) ∧ Grow (fun b => ok b ∧ b < w.heap.size) w w' := by
  obtain ⟨vs, okj, hvl, ho, hown, hS, hok, hdis⟩ := S_deep h
  have HO := Aside0.mk ho
  have HOW := Aside0.mk hown
  have HS := Aside0.mk hS
  have HOK := Aside0.mk hok
  have HD := Aside0.mk hdis
  have HVL := Aside0.mk hvl
  have HN := Aside0.mk hn
  have HNS := Aside0.mk hs
  have HNL := Aside0.mk hl
  have HSUM := Aside0.mk hsum
  clear h hvl ho hown hS hok hdis hn hs hl hsum
  obtain ⟨inn, hinn⟩ : ∃ inn : Nat → Nat → Prop, ∀ j b, inn j b ↔ (okj j b ∧ ∀ u, vs[j]? = some u → some b ≠ u.ownBlock) := ⟨_, fun _ _ => Iff.rfl⟩
  have HIN := Aside0.mk hinn
  clear hinn
  have H0 : Aside0 (Kd.S (Kd.slice 3 (Kd.int .i64)) 40 w 0 (fun b => (∃ j, j < 0 ∧ inn j b) ∨ w.heap.size ≤ b) (.slice none 0 0) (xs.take 0).flatten ∧ (∀ b, (Value.slice none 0 0).ownBlock = some b → w.heap.size ≤ b) ∧ Below w.heap.size w w) := ⟨by rw [List.take_zero, List.flatten_nil]; exact Kd.S_nil _ _ _ _ _, fun b hb => by simp [Value.ownBlock] at hb, Below.refl _ _⟩
  go_enter Tryd.func35, Tryd.ntmps35
  go_wp2
  go_loopw [3, 4] (fun v3 v4 wr => ∃ (k : Nat) (x : Int), v4 = .int .i64 x ∧ Aside0 (x = k ∧ k ≤ xs.length) ∧ Aside0 (Kd.S (Kd.slice 3 (Kd.int .i64)) 40 wr 0 (fun b => (∃ j, j < k ∧ inn j b) ∨ w.heap.size ≤ b) v3 (xs.take k).flatten ∧ (∀ b, v3.ownBlock = some b → w.heap.size ≤ b) ∧ Below w.heap.size w wr)) (fun _ i _ => xs.length - (intOf i).toNat)
  case atStart => exact ⟨0, 0, rfl, ⟨rfl, Nat.zero_le _⟩, H0⟩
  case round =>
    clear H0
    obtain ⟨k, x, rfl, HX, HR⟩ := hrel
    obtain ⟨hxk, hk⟩ := HX.out
    by_cases hlt : k < xs.length
    · have q3 : decide (x < (xs.length : Int)) = true := decide_eq_true (by omega)
      have p2 : ((0 : Int) ≤ x) = True := eq_true (by omega)
      have q2 : (x < (xs.length : Int)) = True := eq_true (by omega)
      have HX2 : Aside0 (wrap64 (x + 1) = ((k + 1 : Nat) : Int) ∧ k + 1 ≤ xs.length) := by
        have := HN.out
        exact ⟨by rw [w64 (by omega) (by omega)]; omega, by omega⟩
      have hm : (intOf (.int .i64 (wrap64 (x + 1)))).toNat = k + 1 := by rw [HX2.out.1]; simp [intOf]
      have hm0 : (intOf (.int .i64 x)).toNat = k := by rw [hxk]; simp [intOf]
      have HMS : Aside0 (xs.length - (intOf (.int .i64 (wrap64 (x + 1)))).toNat < xs.length - (intOf (.int .i64 x)).toNat) := ⟨by rw [hm, hm0]; omega⟩
      have hxi := List.getElem?_eq_getElem hlt
      obtain ⟨y, hy⟩ : ∃ y, y = xs[k] := ⟨_, rfl⟩
      rw [← hy] at hxi
      have hvlt : k < vs.length := by rw [HVL.out]; exact hlt
      have hui := List.getElem?_eq_getElem hvlt
      obtain ⟨u, hu⟩ : ∃ u, u = vs[k] := ⟨_, rfl⟩
      rw [← hu] at hui
      have hSu := HS.out k u y hui hxi
      obtain ⟨Au, cu, rfl⟩ := Kd.S_slice hSu
      obtain ⟨b0, c0, e1, _, hcell, _⟩ := At.cell (f := fun _ => 0) (t := 0) (⟨HO.out, fun _ _ => rfl⟩ : At _ 0 22 w (.slice A xs.length c) xs.length vs) hui
      injection e1 with e1 _ _
      subst e1
      have hcell2 : u3 = u3 := rfl
      have hcw := pw_cell_below HR.out.2.2 (hcell)
      obtain ⟨ad, had⟩ : ∃ ad, ad = (⟨b0, 0, none⟩ : Addr) := ⟨_, rfl⟩
      have hxk' : (⟨b0, k, none⟩ : Addr) = ad.add x.toNat := by rw [had, hxk, add_at, Nat.zero_add]; rfl
      rw [hxk'] at hcw
      rw [← had]
      have HAD := Aside0.mk had
      obtain ⟨A3, c3, e3⟩ := Kd.S_slice HR.out.1
      have HAP : Aside0 (∃ v1 w1, (Builtin.append_ #[22, 22] 22 #[u3, .slice Au y.length cu]).run Tryd.prog wr = .ok v1 w1 ∧ Kd.S (Kd.slice 3 (Kd.int .i64)) 40 w1 0 (fun b => (∃ j, j < k + 1 ∧ inn j b) ∨ w.heap.size ≤ b) v1 (xs.take (k + 1)).flatten ∧ (∀ b, v1.ownBlock = some b → w.heap.size ≤ b) ∧ Below w.heap.size w w1) := ⟨by
        have hle := flatten_take_le xs (k + 1)
        rw [flatten_take hxi, List.length_append] at hle
        have hsum := HSUM.out
        have hSu2 : Kd.S (Kd.slice 3 (Kd.int .i64)) 40 wr 0 (okj k) (.slice Au y.length cu) y := Kd.S_step hSu fun b _ hb => HR.out.2.2.block b hb
        obtain ⟨v1, w1, hrun, hS1, hg, hat⟩ := S_all (P := Tryd.prog) (t := 22) (ty := 22) (.slice none 0 0) 24 Tryd.underlying22 infoAR rfl (by decide) HR.out.1 hSu2 (fun b hb hb2 => by
          have hb3 := (HOK.out k b hb2).2.2
          rcases hb with ⟨j, hj, hb⟩ | hb
          · have := HD.out j k b ((HIN.out j b).1 hb).1 hb2
            omega
          · omega) (Nat.le_refl _) (Nat.zero_le _) (by simp only [maxLen]; omega) (by omega)
        refine ⟨v1, w1, hrun, ?_, fun b hb => ?_, HR.out.2.2.trans ((Grow.of_grownBy (M := fun b => u3.ownBlock = some b) hg fun r e => e).below HR.out.2.2.size fun b hb => HR.out.2.1 b hb)⟩
        · rw [flatten_take hxi]
          refine Kd.S_mono hS1 fun b hb => ?_
          rcases hb with (⟨j, hj, hb⟩ | hb) | ⟨hb, hne⟩ | hb
          · exact .inl ⟨j, by omega, hb⟩
          · exact .inr hb
          · refine .inl ⟨k, by omega, (HIN.out k b).2 ⟨hb, fun u' hu' => ?_⟩⟩
            rw [hui] at hu'
            injection hu' with hu'
            rw [← hu']
            exact hne
          · have := HR.out.2.2.size
            exact .inr (by omega)
        · rcases hat with hat | hat
          · exact HR.out.2.1 b (hat ▸ hb)
          · rw [hat] at hb
            injection hb with hb
            have := HR.out.2.2.size
            omega⟩
      subst e3
      clear hm hm0 hxk hk hlt hxi hy hvlt hui hu hSu hcell had hxk' HX
      go_wp2_with ((with_reducible refine gate_builtin (b := .append) (xs := #[.tmp 12, .tmp 16]) rfl ?_); at_builtin; obtain ⟨v', W1, hrun, hQ1⟩ := HAP.out; refine wpList_append_run rfl (.tmp 12) (.tmp 16) 22 rfl rfl rfl hrun ?_; have HQ1 := Aside0.mk hQ1; clear hrun hQ1)
      go_roundw
      case measure => exact HMS.out
      case rel =>
        first
          | exact ⟨k + 1, HX2, HQ1⟩
          | exact ⟨k + 1, _, rfl, HX2, HQ1⟩
    · obtain rfl : k = xs.length := by omega
      have q3 : decide (x < (xs.length : Int)) = false := decide_eq_false (by omega)
      have hR := HR.out
      rw [List.take_length] at hR
      replace HR := Aside0.mk hR
      clear hR
      obtain ⟨A3, c3, e3⟩ := Kd.S_slice HR.out.1
      obtain ⟨nf, hnf⟩ : ∃ q, q = xs.flatten.length := ⟨_, rfl⟩
      rw [← hnf] at e3
      subst e3
      clear hnf
      have HI : Aside0 (Calls Tryd.prog 53 #[.slice A3 nf c3] wr fun e w' => e = .returned (.bool true) ∧ Grow (fun b => ((∃ j, j < xs.length ∧ inn j b) ∨ w.heap.size ≤ b) ∧ b < wr.heap.size) wr w') := ⟨apartInts_S HR.out.1 HSUM.out HNL.out⟩
      clear hxk hk hlt HX
      go_wp2_with (go_at_call 53; (with_reducible refine HI.out.mono ?_); rintro e w2 ⟨rfl, hg2⟩; have HG2 := Aside0.mk hg2; clear hg2)
      have HR2 : Aside0 (Calls Tryd.prog 54 #[.slice A xs.length c] w2 fun e w' => e = .returned (.bool true) ∧ Grow (fun b => ∃ i, okj i b) w2 w') := ⟨apartRows_deep HVL.out HO.out HS.out (fun i k hk => (HOK.out i k hk).2) HD.out (fun b hb hcase => by
        refine (HG2.out.block b (Nat.lt_of_lt_of_le hb HR.out.2.2.size) fun hn => ?_).trans (HR.out.2.2.block b hb)
        rcases hn.1 with ⟨j, hj, hin⟩ | hge
        · obtain ⟨h1, h2⟩ := (HIN.out j b).1 hin
          rcases hcase with hc | ⟨i, u, hu, hub, hoi⟩
          · exact (HOK.out j b h1).2.1 hc.symm
          · have := HD.out j i b h1 hoi
            subst this
            exact h2 u hu hub.symm
        · omega) HN.out HNS.out⟩
      go_wp2_with (go_at_call 54; (with_reducible refine HR2.out.mono ?_); rintro e w3 ⟨rfl, hg3⟩; have HG3 := Aside0.mk hg3; clear hg3)
      go_ret
      refine ⟨rfl, ?_⟩
      have g1 : Grow (fun b => ok b ∧ b < w.heap.size) w wr := Grow.mono (Grow.of_below (M := fun _ => False) (HR.out.2.2)) fun _ h => h.elim
      have g2 := g1.trans HG2.out fun b hb => by
        rcases hb.1 with ⟨j, _, hin⟩ | hge
        · have := HOK.out j b ((HIN.out j b).1 hin).1
          exact .inl ⟨this.1, this.2.2⟩
        · exact .inr hge
      exact g2.trans HG3.out fun b ⟨i, hb⟩ => by
        have := HOK.out i b hb
        exact .inl ⟨this.1, this.2.2⟩
end Go.Proofs.YtggnnnddnppcpaaDoorHand
/-! text YtggnnnddnppcpaaDoorApartFormulas -/
namespace Go.Proofs.YtggnnnddnppcpaaDoorHand
open Go.RowKit Go.Proofs.YtggnnnddnppcpaaDoorW.PrintWords Go.Proofs.YtggnnnddnppcpaaDoorW.PrintLast Go.Proofs.YtggnnnddnppcpaaDoorMath Go.Proofs.YtggnnnddnppcpaaDoorOwn
set_option linter.unusedVariables false
set_option linter.unusedSimpArgs false
theorem infoAF : (Tryd.prog.info? 22).map (fun i => (i.zero, i.size, i.bytes)) = some (some (.slice none 0 0), 1, 24) := by kernel_rfl

/-- a walk stops ahead of such a goal -/
structure HoldF (p : Prop) : Prop where
  out : p

set_option maxHeartbeats 8000000 in
set_option maxRecDepth 100000 in
theorem apartFormulas_calls (g : Nat) (c : Nat) (R : List (Value × Int × List (List Int))) (okj : Nat → Nat → Prop) (w : World)
    (hcell : ∀ (q : Nat) r, R[q]? = some r → w.cell? ⟨g, q * 2 + 1, none⟩ = some r.1 ∧ Kd.S (Kd.slice 3 (Kd.int .i64)) 40 w 0 (okj q) r.1 r.2.2)
    (hdis : ∀ i j b, okj i b → okj j b → i = j) (hlt : ∀ j b, okj j b → b < w.heap.size) (hc : R.length ≤ c)
    (hn : R.length ≤ 1099511627776) (hs : ∀ r ∈ R, r.2.2.length ≤ 1099511627776) (hl : ∀ x ∈ (R.map fun r => r.2.2).flatten, x.length ≤ 1099511627776) (hsum : (R.map fun r => r.2.2).flatten.length ≤ 1099511627776) :
    Calls Tryd.prog 15 #[.slice (some ⟨g, 0, none⟩) R.length c] w fun e w' => e = .returned (.bool true) ∧ Grow (fun b => ∃ j, okj j b) w w' := by
  have HCELL := Aside0.mk hcell
  have HD := Aside0.mk hdis
  have HLT := Aside0.mk hlt
  have HC := Aside0.mk hc
  have HN := Aside0.mk (And.intro hn (And.intro hs (And.intro hl hsum)))
  clear hcell hdis hlt hc hn hs hl hsum
  obtain ⟨ad, had⟩ : ∃ ad, ad = (⟨g, 0, none⟩ : Addr) := ⟨_, rfl⟩
  rw [← had]
  have HAD := Aside0.mk had
  clear had
  have H0 : Aside0 (Kd.S (apartK 40 (Kd.slice 3 (Kd.int .i64))) 22 w 0 (fun b => (∃ j, j < 0 ∧ okj j b) ∨ w.heap.size ≤ b) (.slice none 0 0) ((R.map fun r => r.2.2).take 0) ∧ (∀ b, (Value.slice none 0 0).ownBlock = some b → w.heap.size ≤ b) ∧ Below w.heap.size w w) := ⟨by rw [List.take_zero]; exact Kd.S_nil _ _ _ _ _, fun b hb => by simp [Value.ownBlock] at hb, Below.refl _ _⟩
  go_enter Tryd.func15, Tryd.ntmps15
  go_wp2
  go_loopw [3, 4] (fun v3 v4 wr => ∃ (k : Nat) (x : Int), v4 = .int .i64 x ∧ Aside0 (x = k ∧ k ≤ R.length) ∧ Aside0 (Kd.S (apartK 40 (Kd.slice 3 (Kd.int .i64))) 22 wr 0 (fun b => (∃ j, j < k ∧ okj j b) ∨ w.heap.size ≤ b) v3 ((R.map fun r => r.2.2).take k) ∧ (∀ b, v3.ownBlock = some b → w.heap.size ≤ b) ∧ Below w.heap.size w wr)) (fun _ i _ => R.length - (intOf i).toNat)
  case atStart => exact ⟨0, 0, rfl, ⟨rfl, Nat.zero_le _⟩, H0⟩
  case round =>
    clear H0
    obtain ⟨k, x, rfl, HX, HR⟩ := hrel
    obtain ⟨hxk, hk⟩ := HX.out
    by_cases hlt : k < R.length
    · have q3 : decide (x < (R.length : Int)) = true := decide_eq_true (by omega)
      have p2 : ((0 : Int) ≤ x) = True := eq_true (by omega)
      have q2 : (x < (R.length : Int)) = True := eq_true (by omega)
      have HX2 : Aside0 (wrap64 (x + 1) = ((k + 1 : Nat) : Int) ∧ k + 1 ≤ R.length) := by
        have := HN.out.1
        exact ⟨by rw [w64 (by omega) (by omega)]; omega, by omega⟩
      have hm : (intOf (.int .i64 (wrap64 (x + 1)))).toNat = k + 1 := by rw [HX2.out.1]; simp [intOf]
      have hm0 : (intOf (.int .i64 x)).toNat = k := by rw [hxk]; simp [intOf]
      have HMS : Aside0 (R.length - (intOf (.int .i64 (wrap64 (x + 1)))).toNat < R.length - (intOf (.int .i64 x)).toNat) := ⟨by rw [hm, hm0]; omega⟩
      obtain ⟨r, hr⟩ : ∃ r, R[k]? = some r := ⟨_, List.getElem?_eq_getElem hlt⟩
      obtain ⟨hc1, hS⟩ := HCELL.out k r hr
      have hcw := pw_cell_below HR.out.2.2 hc1
      have hk' : (⟨g, k * 2 + 1, none⟩ : Addr) = { block := (ad.add (x.toNat * 2)).block, off := (ad.add (x.toNat * 2)).off + 1 } := by rw [HAD.out, hxk, Int.toNat_natCast, add_at, Nat.zero_add]
      rw [hk'] at hcw
      obtain ⟨p, hp⟩ : ∃ p, p = r.1 := ⟨_, rfl⟩
      rw [← hp] at hcw hS
      obtain ⟨Ap, cp, ep⟩ := Kd.S_slice hS
      obtain ⟨np, hnp⟩ : ∃ q, q = r.2.2.length := ⟨_, rfl⟩
      rw [← hnp] at ep
      subst ep
      have hrl : (R.map fun r => r.2.2)[k]? = some r.2.2 := by rw [List.getElem?_map, hr]; rfl
      have HAP : Aside0 (∃ v1 w1, (Builtin.append_ #[58, 58] 58 #[u3, .slice (some ⟨wr.heap.size, 0, none⟩) 1 1]).run Tryd.prog (wr.alloc (.cells #[.slice Ap np cp] 22)) = .ok v1 w1 ∧ Kd.S (apartK 40 (Kd.slice 3 (Kd.int .i64))) 22 w1 0 (fun b => (∃ j, j < k + 1 ∧ okj j b) ∨ w.heap.size ≤ b) v1 ((R.map fun r => r.2.2).take (k + 1)) ∧ (∀ b, v1.ownBlock = some b → w.heap.size ≤ b) ∧ Below w.heap.size w w1) := ⟨by
        have hlen := HN.out.1
        have hbW := below_alloc (Below.refl wr.heap.size wr) (.cells #[.slice Ap np cp] 22 (0, 0))
        have hwr := HR.out.2.2.size
        have hS1 : Kd.S (Kd.slice 3 (Kd.int .i64)) 40 (wr.alloc (.cells #[.slice Ap np cp] 22 (0, 0))) 0 (okj k) (.slice Ap np cp) r.2.2 := Kd.S_step hS fun b hb hlt => (hbW.block b (by omega)).trans (HR.out.2.2.block b hlt)
        have hO : Kd.S (apartK 40 (Kd.slice 3 (Kd.int .i64))) 22 (wr.alloc (.cells #[.slice Ap np cp] 22 (0, 0))) 0 (fun b => (((∃ j, j < k + 1 ∧ okj j b) ∨ w.heap.size ≤ b)) ∧ ¬ okj k b) u3 ((R.map fun r => r.2.2).take k) := Kd.S_step (Kd.S_mono HR.out.1 fun b hb => by
          rcases hb with ⟨j, hj, hb⟩ | hb
          · exact ⟨.inl ⟨j, by omega, hb⟩, fun h => by have := HD.out j k b hb h; omega⟩
          · exact ⟨.inr hb, fun h => by have := HLT.out k b h; omega⟩) fun b _ hlt => hbW.block b hlt
        obtain ⟨v1, w1, hrun, hS2, hg, hat⟩ := S_push (P := Tryd.prog) (ok := fun b => (∃ j, j < k + 1 ∧ okj j b) ∨ w.heap.size ≤ b) (okp := okj k) 58 58 (.slice none 0 0) 24 Tryd.underlying58 infoAF rfl Nat.one_pos
          (fun b hb => ⟨.inl ⟨k, by omega, hb⟩, fun h => by have := HR.out.2.1 b h.symm; have := HLT.out k b hb; omega⟩) (fun b hb => .inr (by have := hbW.size; omega)) hO (p := r.2.2) (cs := [.slice Ap np cp]) ⟨_, rfl, hS1⟩ (ad := ⟨wr.heap.size, 0, none⟩) (c := 1)
          (fun j u hj => by
            rw [add_at, Nat.zero_add, blk_cell (World.alloc_heap_new wr _) j]
            simpa using hj) (by rw [List.length_take, List.length_map]; simp only [maxLen]; omega) (by rw [List.length_take, List.length_map]; omega) (Nat.zero_le _)
        refine ⟨v1, w1, hrun, ?_, fun b hb => ?_, ?_⟩
        · rw [List.take_add_one, hrl]
          exact hS2
        · rcases hat with h | h
          · exact HR.out.2.1 b (h ▸ hb)
          · rw [h] at hb
            injection hb with hb
            have := hbW.size
            omega
        · exact (HR.out.2.2.trans (hbW.mono hwr)).trans ((Grow.of_grownBy (M := fun b => u3.ownBlock = some b) hg fun r e => e).below (by have := hbW.size; omega) fun b hb => HR.out.2.1 b hb)⟩
      clear hm hm0 hk hlt hr hc1 hS hk' hp hrl hxk hnp
      go_wp2_with ((with_reducible refine gate_builtin (b := .append) (xs := #[.tmp 11, .tmp 17]) rfl ?_); at_builtin; refine HoldF.out ?_)
      refine ⟨?_⟩
      obtain ⟨v', W1, hrun, hQ1⟩ := HAP.out
      have HQ1 := Aside0.mk hQ1
      refine wpList_append_run rfl (.tmp 11) (.tmp 17) 58 rfl rfl rfl hrun ?_
      clear hrun hcw hQ1 HAP
      go_wp2
      go_roundw
      case measure => exact HMS.out
      case rel => exact ⟨k + 1, _, rfl, HX2, HQ1⟩
    · have q3 : decide (x < (R.length : Int)) = false := decide_eq_false (by omega)
      obtain rfl : k = R.length := by omega
      have hR := HR.out
      rw [List.take_of_length_le (by rw [List.length_map]; exact Nat.le_refl _)] at hR
      replace HR := Aside0.mk hR
      clear hR
      obtain ⟨A3, c3, e3⟩ := Kd.S_slice HR.out.1
      rw [List.length_map] at e3
      subst e3
      have HI : Aside0 (Calls Tryd.prog 35 #[.slice A3 R.length c3] wr fun e w' => e = .returned (.bool true) ∧ Grow (fun b => ((∃ j, j < R.length ∧ okj j b) ∨ w.heap.size ≤ b) ∧ b < wr.heap.size) wr w') := ⟨by
        have h := apartClauses_calls A3 c3 (R.map fun r => r.2.2) _ wr (by rw [List.length_map]; exact HR.out.1) (by rw [List.length_map]; exact HN.out.1) (fun y hy => by obtain ⟨r, hr, rfl⟩ := List.mem_map.1 hy; exact HN.out.2.1 r hr) HN.out.2.2.1 HN.out.2.2.2
        rw [List.length_map] at h
        exact h⟩
      clear hxk hk hlt HX
      go_wp2_with (go_at_call 35; (with_reducible refine HI.out.mono ?_); rintro e w2 ⟨rfl, hg2⟩; have HG2 := Aside0.mk hg2; clear hg2)
      go_ret
      refine ⟨rfl, ?_⟩
      have g1 : Grow (fun b => ∃ j, okj j b) w wr := Grow.mono (Grow.of_below (M := fun _ => False) (HR.out.2.2)) fun _ h => h.elim
      exact g1.trans HG2.out fun b hb => by
        rcases hb.1 with ⟨j, _, h⟩ | h
        · exact .inl ⟨j, h⟩
        · exact .inr h
end Go.Proofs.YtggnnnddnppcpaaDoorHand
/-! text YtggnnnddnppcpaaDoorKeepBase -/
namespace Go.Proofs.YtggnnnddnppcpaaDoorHand
open Go.RowKit Go.Proofs.YtggnnnddnppcpaaDoorW.PrintWords Go.Proofs.YtggnnnddnppcpaaDoorW.PrintLast Go.Proofs.YtggnnnddnppcpaaDoorMath Go.Proofs.YtggnnnddnppcpaaDoorOwn
open Go.Proofs.YtggnnnddnppcpaaDoor.PCnfKeepsTidy
set_option linter.unusedVariables false
set_option linter.unusedSimpArgs false
abbrev kC : Kd (List Int) := Kd.slice 3 (Kd.int .i64)
abbrev sC (v : Value) (l : List (List Int)) : Asr := .rows (Kd.slice 3 (Kd.int .i64)) 40 v l
/-- a formula's variable -/
abbrev fB (b : Nat) (v : Int) (u : Value) : Asr := .blk b (.cells #[.int .i64 v, u] 24 (0, 0))
abbrev xB (b : Nat) (u v z : Value) : Asr := .blk b (.cells #[u, v, z] 30 (0, 0))
/-- of some size -/
structure Sm (l : List (List Int)) : Prop where
  n : l.length ≤ 4194304
  s : ∀ x ∈ l, x.length ≤ 1099511627776
theorem Sm.append {l m : List (List Int)} (h : l.length ≤ 1048576 ∧ ∀ x ∈ l, x.length ≤ 1099511627776) (k : m.length ≤ 1048576 ∧ ∀ x ∈ m, x.length ≤ 1099511627776) : Sm (l ++ m) :=
  ⟨by rw [List.length_append]; omega, fun x hx => (List.mem_append.1 hx).elim (h.2 x) (k.2 x)⟩
theorem neg_sm {l : List (List Int)} (h : l.length ≤ 1048576 ∧ ∀ x ∈ l, x.length ≤ 1099511627776) : (l.map (List.map negw)).length ≤ 1048576 ∧ ∀ x ∈ l.map (List.map negw), x.length ≤ 1099511627776 := by
  refine ⟨by rw [List.length_map]; exact h.1, fun x hx => ?_⟩
  obtain ⟨y, hy, rfl⟩ := List.mem_map.1 hx
  rw [List.length_map]
  exact h.2 y hy
theorem small_c (w : World) : Calls Tryd.prog 7 #[] w fun e w' => ∃ (A : Option Addr) (c : Nat), e = .returned (.agg #[.int .i64 2, .slice A 2 c]) ∧ Kd.C kC w' A 2 [[1, 2], [-1]] ∧ 2 ≤ c ∧ Below w.heap.size w w' := by
  refine (depotlaw02_small.calls 2 [[1, 2], [-1]] w rfl).mono ?_
  rintro e w' ⟨v, rfl, hN, hB⟩
  obtain ⟨A, c, rfl⟩ := Kd.N_slice hN
  exact ⟨A, c, rfl, (Kd.N_reads' hN).2.2, (Kd.N_reads' hN).2.1, hB⟩
theorem same_n {l : List (List Int)} (v : Int) (A1 A2 : Option Addr) (c1 c2 : Nat) (w : World) (hr1 : Kd.C kC w A1 l.length l) (hc1 : l.length ≤ c1) (hr2 : Kd.C kC w A2 l.length l) (hc2 : l.length ≤ c2) (hb : Sm l) :
    Calls Tryd.prog 14 #[.agg #[.int .i64 v, .slice A1 l.length c1], .agg #[.int .i64 v, .slice A2 l.length c2]] w fun e w' => e = .returned (.bool true) ∧ Below w.heap.size w w' := by
  obtain ⟨k, hk⟩ := (depotref00_SameFormula_ev v v l l (by have := hb.n; omega) (fun x hx => by have := hb.s x hx; omega)).rounds
  exact depotref00_SameFormula.calls k v A1 c1 l v A2 c2 l true w hr1 hc1 hr2 hc2 (by rw [hk]; simp)
/-- what was lent, and how many -/
structure LF (l : List (List Int)) (T M : List LRow) (nw nr : Nat) : Prop where
  w : nw = (T ++ M).length
  r : nr = T.length
  nums : T.map LRow.nums = l
  rows : T.map LRow.row = l.map lentOf
  marks : M.map LRow.nums = rowMarks
section
variable {l : List (List Int)} {T M : List LRow} {nw nr : Nat} {w W : World} {X : Nat → Prop} {L : List Asr} {A : Option Addr} {c : Nat}
theorem LF.len (h : LF l T M nw nr) : T.length = l.length := by rw [← h.nums, List.length_map]
theorem LF.lenM (h : LF l T M nw nr) : M.length = 64 := by rw [← rowMarks_length, ← h.marks, List.length_map]
theorem LF.whole (h : LF l T M nw nr) : (T ++ M).map LRow.nums = l ++ rowMarks := by rw [List.map_append, h.nums, h.marks]
theorem LF.nwl (h : LF l T M nw nr) : nw = (l ++ rowMarks).length := by rw [← h.whole, List.length_map]; exact h.w
theorem LF.nrl (h : LF l T M nw nr) : nr = (l.map lentOf).length := by rw [← h.rows, List.length_map]; exact h.r
theorem LF.C (h : LF l T M nw nr) (hs : Sep w X L W) (iw id : Nat) (hw : L[iw]? = some (headA (.slice A nw c) ((T ++ M).map LRow.shown))) (hd : L[id]? = some (dataA (T ++ M))) : Kd.C kC W A l.length l ∧ l.length ≤ c := by
  obtain ⟨e1, e2, e3⟩ := shown_C hs iw id hw hd
  have h1 : l.length ≤ (T ++ M).length := by rw [List.length_append, h.len]; omega
  have h2 := C_take e3 h1
  rw [h.whole, List.take_left] at h2
  exact ⟨h2, by omega⟩
theorem LF.CT (h : LF l T M nw nr) (hs : Sep w X L W) (iw id : Nat) (hw : L[iw]? = some (headA (.slice A nw c) ((T ++ M).map LRow.shown))) (hd : L[id]? = some (dataA (turnAt l.length 0 (T ++ M)))) (hk : ∀ t ∈ T ++ M, t.k ≤ t.row.length) : Kd.C kC W A l.length (l.map (List.map negw)) ∧ l.length ≤ c := by
  rw [← turnAt_shown l.length] at hw
  obtain ⟨e1, e2, e3⟩ := shown_C hs iw id hw hd
  have h1 : l.length ≤ (turnAt l.length 0 (T ++ M)).length := by rw [turnAt_length, List.length_append, h.len]; omega
  have h2 := C_take e3 h1
  rw [← h.len, turnAt_nums hk, h.nums, h.len] at h2
  exact ⟨h2, by omega⟩
theorem LF.ks (h : LF l T M nw nr) (hs : Sep w X L W) (id : Nat) (hd : L[id]? = some (dataA (T ++ M))) (hb : l.length ≤ 1048576 ∧ ∀ x ∈ l, x.length ≤ 1099511627776) : ∀ t ∈ T ++ M, t.k ≤ 1099511627776 := fun t ht => by
  have h1 := data_k hs id hd t ht
  have h2 : t.nums ∈ l ++ rowMarks := by rw [← h.whole]; exact List.mem_map_of_mem ht
  have h3 : t.nums.length = t.k := by show (t.row.take t.k).length = t.k; rw [List.length_take]; omega
  rw [← h3]
  rcases List.mem_append.1 h2 with h4 | h4
  · exact hb.2 _ h4
  · obtain ⟨i, _, h5⟩ := List.mem_map.1 h4
    rw [← h5]
    show 1 ≤ 1099511627776
    decide
theorem LF.big (h : LF l T M nw nr) (hb : l.length ≤ 1048576 ∧ ∀ x ∈ l, x.length ≤ 1099511627776) : ((T ++ M).map LRow.shown).length ≤ 1099511627776 ∧ T.length ≤ 1099511627776 ∧ ∀ t ∈ T, t.row.length < 17592186044416 := by
  have h1 := h.len
  have h2 := h.lenM
  refine ⟨by rw [List.length_map, List.length_append]; omega, by omega, fun t ht => ?_⟩
  have h3 : t.row ∈ l.map lentOf := by rw [← h.rows]; exact List.mem_map_of_mem ht
  obtain ⟨x, hx, h4⟩ := List.mem_map.1 h3
  rw [← h4, lentOf_length]
  have := hb.2 x hx
  omega
theorem LF.le (h : LF l T M nw nr) : l.length ≤ (T ++ M).length := by rw [List.length_append, h.len]; omega
theorem LF.kept (h : LF l T M nw nr) (hs : Sep w X L W) (iw ir id : Nat) {Ar A0 : Option Addr} {cr c0 : Nat} (hw : L[iw]? = some (headA (.slice A nw c) ((T ++ M).map LRow.shown))) (hr : L[ir]? = some (headA (.slice Ar nr cr) (T.map LRow.all))) (hd : L[id]? = some (dataA (T ++ M)))
    (h0 : Kd.C kC W A0 l.length l) (hc0 : l.length ≤ c0) (hb : l.length ≤ 1048576 ∧ ∀ x ∈ l, x.length ≤ 1099511627776) :
    Calls Tryd.prog 11 #[.agg #[.slice A l.length c, .slice A nw c, .slice Ar nr cr], .slice A0 l.length c0] W fun e w' => e = .returned (.bool true) ∧ Below W.heap.size W w' := by
  obtain ⟨hC, hcl⟩ := h.C hs iw id hw hd
  obtain ⟨e1, e2, e3⟩ := shown_C hs iw id hw hd
  obtain ⟨f1, f2, f3⟩ := all_C hs ir id hr hd
  rw [h.whole, ← e1, h.nwl] at e3
  rw [h.rows, ← f1, h.nrl] at f3
  have hw2 := h.nwl
  have hr2 := h.nrl
  obtain ⟨k, hk⟩ := (depotkit_KeptRows_ev l (by omega) (fun x hx => by have := hb.2 x hx; omega)).rounds
  subst hw2 hr2
  exact depotkit_KeptRows.calls k A c l A c (l ++ rowMarks) Ar cr (l.map lentOf) A0 c0 l true W hC hcl e3 e2 f3 f2 h0 hc0 hk
end
theorem lent_n (A : Option Addr) (c : Nat) (l : List (List Int)) (w : World) (hr : Kd.C kC w A l.length l) (hc : l.length ≤ c) (hb : l.length ≤ 1048576 ∧ ∀ x ∈ l, x.length ≤ 1099511627776) :
    Calls Tryd.prog 8 #[.slice A l.length c] w fun e w' => ∃ (Aw Ar : Option Addr) (cw cr nw nr : Nat) (T M : List LRow), e = .returned (.agg #[.slice Aw l.length cw, .slice Aw nw cw, .slice Ar nr cr]) ∧ LF l T M nw nr ∧
      Sep w (fun _ => False) [headA (.slice Aw nw cw) ((T ++ M).map LRow.shown), headA (.slice Ar nr cr) (T.map LRow.all), dataA (T ++ M)] w' := by
  refine (lentRows_calls A c l w hr hc (by omega) hb.2).mono ?_
  rintro e w' ⟨Aw, Ar, cw, cr, T, M, rfl, h1, h2, h3, h4⟩
  exact ⟨Aw, Ar, cw, cr, _, _, T, M, rfl, ⟨rfl, rfl, h1, h2, h3⟩, h4⟩
end Go.Proofs.YtggnnnddnppcpaaDoorHand
/-! text YtggnnnddnppcpaaDoorGCnfMeansx0 -/
namespace Go.Proofs.YtggnnnddnppcpaaDoor.PCnfMeans
open Go.RowKit Go.Proofs.YtggnnnddnppcpaaDoorW.PrintWords Go.Proofs.YtggnnnddnppcpaaDoorW.PrintLast Go.Proofs.YtggnnnddnppcpaaDoorW.PrintMore
attribute [local go_sem] max2_int min2_int max_two min_two max_three min_three max_four min_four   -- for this text's walks alone
set_option linter.unusedVariables false
set_option linter.unusedSimpArgs false



def errW : Option Int → Value
  | none => .nilIface
  | some c => .iface 0 (.int .i64 c)
theorem errW_none : errW none = .nilIface := rfl
theorem errW_some (c : Int) : errW (some c) = .iface 0 (.int .i64 c) := rfl

-- the values' own types
def rd_L1 (xs : List (List Int)) (i : Int) : (List Int) := xs.getD i.toNat ([] : List Int)
theorem at_L1 {w : World} {A : Option Addr} {n : Nat} {xs : List (List Int)} (h : Kd.C (Kd.slice 3 (Kd.int .i64)) w A n xs) (i : Int) (h0 : 0 ≤ i) (h1 : i < n) : ∃ ad A0 c0, A = some ad ∧ w.cell? (ad.add i.toNat) = some (.slice A0 (rd_L1 xs i).length c0) ∧ (rd_L1 xs i).length ≤ c0 ∧ (Kd.int .i64).C w A0 (rd_L1 xs i).length (rd_L1 xs i) := by
  obtain ⟨ad, c, e, _, hK, hc0⟩ := Kd.C_get h ([] : List Int) i h0 h1
  have hc : ∀ j u, c[j]? = some u → w.cell? (ad.add (i.toNat * 1 + j)) = some u := hc0
  obtain ⟨A0, c0, rfl, l0, g0⟩ := hK
  exact ⟨ad, A0, c0, e, by have hq := hc 0 _ rfl; rwa [Nat.mul_one, Nat.add_zero] at hq, l0, g0⟩

end Go.Proofs.YtggnnnddnppcpaaDoor.PCnfMeans
