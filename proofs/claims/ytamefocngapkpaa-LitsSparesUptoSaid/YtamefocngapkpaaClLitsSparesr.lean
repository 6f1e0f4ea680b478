/- What depotlaw01.told answers: eight lists that lie apart. -/
import Derived.Test.YtamefocngapkpaaClLitsSparesd
import Derived.Test.YtamefocngapkpaaClLitsSparesh
import Derived.Test.YtamefocngapkpaaClLitsSparesj
import Derived.Test.YtamefocngapkpaaClLitsSpareso
import Derived.Test.YtamefocngapkpaaClLitsSparesq
import Derived.Test.YtamefocngapkpaaClLitsSparesl
/-! text YtamefocngapkpaaTold -/
namespace Go.Proofs.YtamefocngapkpaaHand
open Go.RowKit Go.Proofs.YtamefocngapkpaaW.PrintWords Go.Proofs.YtamefocngapkpaaW.PrintLast Go.Proofs.YtamefocngapkpaaMath Go.Proofs.YtamefocngapkpaaOwn
set_option linter.unusedVariables false
set_option linter.unusedSimpArgs false
def toldOf (a b : List Int) (l v : Int) : List (List Int) := [tidyOf a, tidyOf a, (tidyOf a).filter fun x => !(x == l), (tidyOf a).filter fun x => !(x == l), tidyOf (a ++ b), tidyOf (a ++ b), (resOf a b v).1, (resOf a b v).1]
abbrev rI (v : Value) (xs : List Int) : Asr := .row (Kd.int .i64) 3 v xs

set_option maxHeartbeats 4000000 in
set_option maxRecDepth 100000 in
theorem told_calls (A0 A1 : Option Addr) (c0 c1 : Nat) (a b : List Int) (l v : Int) (w : World) (hr0 : Kd.C (Kd.int .i64) w A0 a.length a) (hc0 : a.length ≤ c0) (hr1 : Kd.C (Kd.int .i64) w A1 b.length b) (hc1 : b.length ≤ c1) (na : a.length ≤ 4398046511104) (nb : b.length ≤ 4398046511104) :
    Calls Try.prog 52 #[.slice A0 a.length c0, .slice A1 b.length c1, .int .i64 l, .int .i64 v] w fun e w' => ∃ u : Value, e = .returned u ∧ Kd.S (Kd.slice 3 (Kd.int .i64)) 26 w' 0 (fun k => w.heap.size ≤ k) u (toldOf a b l v) ∧ Below w.heap.size w w' := by
  have HR0 := Aside0.mk hr0
  have HR1 := Aside0.mk hr1
  have HN := Aside0.mk (And.intro na nb)
  have HC := Aside0.mk (And.intro hc0 hc1)
  clear hr0 hr1 na nb hc0 hc1
  have HX : Aside0 (∀ (W : World) b, (fun _ : Nat => False) b → b < W.heap.size) := ⟨fun _ _ h => h.elim⟩
  have H0 : Aside0 (Sep w (fun _ => False) [] w) := ⟨Sep.start (Below.refl _ _) _⟩
  go_enter Try.func52, Try.ntmps52
  go_wp2_with fail
  (with_reducible refine (tidy_calls A0 c0 a w HR0.out HC.out.1 (by have := HN.out.1; omega)).mono ?_)
  rintro e W1 ⟨u1, rfl, hu, hb⟩
  have H1 : Aside0 (Sep w (fun _ => False) [rI u1 (tidyOf a)] W1) := ⟨H0.out.push hb (HX.out _) (row_of hu)⟩
  clear hu hb H0
  go_wp2_with fail
  (with_reducible refine (tidy_calls A0 c0 a W1 (Kd.C_below HR0.out H1.out.hB) HC.out.1 (by have := HN.out.1; omega)).mono ?_)
  rintro e W2 ⟨u2, rfl, hu, hb⟩
  have H2 : Aside0 (Sep w (fun _ => False) [rI u1 (tidyOf a), rI u2 (tidyOf a)] W2) := ⟨H1.out.push hb (HX.out _) (row_of hu)⟩
  clear hu hb H1
  go_wp2_with fail
  (with_reducible refine (without_calls A0 c0 a l W2 (Kd.C_below HR0.out H2.out.hB) HC.out.1 (by have := HN.out.1; omega)).mono ?_)
  rintro e W3 ⟨u3, rfl, hu, hb⟩
  have H3 : Aside0 (Sep w (fun _ => False) [rI u1 (tidyOf a), rI u2 (tidyOf a), rI u3 ((tidyOf a).filter fun x => !(x == l))] W3) := ⟨H2.out.push hb (HX.out _) (row_of hu)⟩
  clear hu hb H2
  go_wp2_with fail
  (with_reducible refine (without_calls A0 c0 a l W3 (Kd.C_below HR0.out H3.out.hB) HC.out.1 (by have := HN.out.1; omega)).mono ?_)
  rintro e W4 ⟨u4, rfl, hu, hb⟩
  have H4 : Aside0 (Sep w (fun _ => False) [rI u1 (tidyOf a), rI u2 (tidyOf a), rI u3 ((tidyOf a).filter fun x => !(x == l)), rI u4 ((tidyOf a).filter fun x => !(x == l))] W4) := ⟨H3.out.push hb (HX.out _) (row_of hu)⟩
  clear hu hb H3
  go_wp2_with fail
  (with_reducible refine (join_calls A0 A1 c0 c1 a b W4 (Kd.C_below HR0.out H4.out.hB) HC.out.1 (Kd.C_below HR1.out H4.out.hB) HC.out.2 (by have := HN.out; omega)).mono ?_)
  rintro e W5 ⟨u5, rfl, hu, hb⟩
  have H5 : Aside0 (Sep w (fun _ => False) [rI u1 (tidyOf a), rI u2 (tidyOf a), rI u3 ((tidyOf a).filter fun x => !(x == l)), rI u4 ((tidyOf a).filter fun x => !(x == l)), rI u5 (tidyOf (a ++ b))] W5) := ⟨H4.out.push hb (HX.out _) (row_of hu)⟩
  clear hu hb H4
  go_wp2_with fail
  (with_reducible refine (join_calls A0 A1 c0 c1 a b W5 (Kd.C_below HR0.out H5.out.hB) HC.out.1 (Kd.C_below HR1.out H5.out.hB) HC.out.2 (by have := HN.out; omega)).mono ?_)
  rintro e W6 ⟨u6, rfl, hu, hb⟩
  have H6 : Aside0 (Sep w (fun _ => False) [rI u1 (tidyOf a), rI u2 (tidyOf a), rI u3 ((tidyOf a).filter fun x => !(x == l)), rI u4 ((tidyOf a).filter fun x => !(x == l)), rI u5 (tidyOf (a ++ b)), rI u6 (tidyOf (a ++ b))] W6) := ⟨H5.out.push hb (HX.out _) (row_of hu)⟩
  clear hu hb H5
  go_wp2_with fail
  (with_reducible refine (resolve_calls A0 A1 c0 c1 a b v W6 (Kd.C_below HR0.out H6.out.hB) HC.out.1 (Kd.C_below HR1.out H6.out.hB) HC.out.2 (by have := HN.out; omega) (by have := HN.out; omega)).mono ?_)
  rintro e W7 ⟨u7, rfl, hu, hb⟩
  have H7 : Aside0 (Sep w (fun _ => False) [rI u1 (tidyOf a), rI u2 (tidyOf a), rI u3 ((tidyOf a).filter fun x => !(x == l)), rI u4 ((tidyOf a).filter fun x => !(x == l)), rI u5 (tidyOf (a ++ b)), rI u6 (tidyOf (a ++ b)), rI u7 (resOf a b v).1] W7) := ⟨H6.out.push hb (HX.out _) (row_of hu)⟩
  clear hu hb H6
  go_wp2_with fail
  (with_reducible refine (resolve_calls A0 A1 c0 c1 a b v W7 (Kd.C_below HR0.out H7.out.hB) HC.out.1 (Kd.C_below HR1.out H7.out.hB) HC.out.2 (by have := HN.out; omega) (by have := HN.out; omega)).mono ?_)
  rintro e W8 ⟨u8, rfl, hu, hb⟩
  have H8 : Aside0 (Sep w (fun _ => False) ([(u1, tidyOf a), (u2, tidyOf a), (u3, (tidyOf a).filter fun x => !(x == l)), (u4, (tidyOf a).filter fun x => !(x == l)), (u5, tidyOf (a ++ b)), (u6, tidyOf (a ++ b)), (u7, (resOf a b v).1), (u8, (resOf a b v).1)].map fun r => .row (Kd.int .i64) 3 r.1 r.2) W8) := ⟨H7.out.push hb (HX.out _) (row_of hu)⟩
  clear hu hb H7
  have HP : Aside0 (∃ v1 w1, (Builtin.append_ #[49, 49] 49 #[.slice none 0 0, .slice (some ⟨W8.heap.size, 0, none⟩) 8 8]).run Try.prog (W8.alloc (.cells #[u1, u2, u3, u4, u5, u6, u7, u8] 26)) = .ok v1 w1 ∧ Kd.S (Kd.slice 3 (Kd.int .i64)) 26 w1 0 (fun k => w.heap.size ≤ k) v1 (toldOf a b l v) ∧ Below w.heap.size w w1) :=
    ⟨H8.out.lits (P := Try.prog) (ty := 49) (t := 49) (s := 26) (.slice none 0 0) 24 _ Try.underlying49 infoAR rfl (show 8 ≤ maxLen by decide) (show 8 * 24 ≤ 140737488355328 by decide)⟩
  obtain ⟨_, _, rfl⟩ : ∃ A c, u1 = .slice A (tidyOf a).length c := Kd.R_slice (H8.out.get (A := rI u1 (tidyOf a)) 0 rfl)
  obtain ⟨_, _, rfl⟩ : ∃ A c, u2 = .slice A (tidyOf a).length c := Kd.R_slice (H8.out.get (A := rI u2 (tidyOf a)) 1 rfl)
  obtain ⟨_, _, rfl⟩ : ∃ A c, u3 = .slice A ((tidyOf a).filter fun x => !(x == l)).length c := Kd.R_slice (H8.out.get (A := rI u3 ((tidyOf a).filter fun x => !(x == l))) 2 rfl)
  obtain ⟨_, _, rfl⟩ : ∃ A c, u4 = .slice A ((tidyOf a).filter fun x => !(x == l)).length c := Kd.R_slice (H8.out.get (A := rI u4 ((tidyOf a).filter fun x => !(x == l))) 3 rfl)
  obtain ⟨_, _, rfl⟩ : ∃ A c, u5 = .slice A (tidyOf (a ++ b)).length c := Kd.R_slice (H8.out.get (A := rI u5 (tidyOf (a ++ b))) 4 rfl)
  obtain ⟨_, _, rfl⟩ : ∃ A c, u6 = .slice A (tidyOf (a ++ b)).length c := Kd.R_slice (H8.out.get (A := rI u6 (tidyOf (a ++ b))) 5 rfl)
  obtain ⟨_, _, rfl⟩ : ∃ A c, u7 = .slice A (resOf a b v).1.length c := Kd.R_slice (H8.out.get (A := rI u7 (resOf a b v).1) 6 rfl)
  obtain ⟨_, _, rfl⟩ : ∃ A c, u8 = .slice A (resOf a b v).1.length c := Kd.R_slice (H8.out.get (A := rI u8 (resOf a b v).1) 7 rfl)
  go_wp2_with ((with_reducible refine gate_builtin (b := .append) (xs := #[.tmp 50, .tmp 59]) rfl ?_); at_builtin; obtain ⟨v1, W9, hrun, hS, hB9⟩ := HP.out; refine wpList_append_run rfl (.tmp 50) (.tmp 59) 49 rfl rfl rfl hrun ?_; have HS := Aside0.mk (And.intro hS hB9); clear hrun hS hB9)
  go_ret
  exact ⟨_, rfl, HS.out.1, HS.out.2⟩
end Go.Proofs.YtamefocngapkpaaHand
/-! text YtamefocngapkpaaSparesMod -/

