/-
  The program's functions, contracts: what each one returns, whatever the world: part 24. No condition.
-/
import Derived.Test.YtnfdlpfenafjfaaGreatDoorB00
import Derived.Test.YtnfdlpfenafjfaaGreatDoorB01
import Derived.Test.YtnfdlpfenafjfaaGreatDoorB02
import Derived.Test.YtnfdlpfenafjfaaGreatDoorB03
import Derived.Test.YtnfdlpfenafjfaaGreatDoorB04
import Derived.Test.YtnfdlpfenafjfaaGreatDoorB05
import Derived.Test.YtnfdlpfenafjfaaGreatDoorB06
import Derived.Test.YtnfdlpfenafjfaaGreatDoorB07
import Derived.Test.YtnfdlpfenafjfaaGreatDoorB08
import Derived.Test.YtnfdlpfenafjfaaGreatDoorB09
import Derived.Test.YtnfdlpfenafjfaaGreatDoorB10
import Derived.Test.YtnfdlpfenafjfaaGreatDoorB11
import Derived.Test.YtnfdlpfenafjfaaGreatDoorB12
import Derived.Test.YtnfdlpfenafjfaaGreatDoorB13
import Derived.Test.YtnfdlpfenafjfaaGreatDoorB14
import Derived.Test.YtnfdlpfenafjfaaGreatDoorB15
import Derived.Test.YtnfdlpfenafjfaaGreatDoorB16
import Derived.Test.YtnfdlpfenafjfaaGreatDoorB17
import Derived.Test.YtnfdlpfenafjfaaGreatDoorB18
import Derived.Test.YtnfdlpfenafjfaaGreatDoorB19
import Derived.Test.YtnfdlpfenafjfaaGreatDoorB20
import Derived.Test.YtnfdlpfenafjfaaGreatDoorB21
import Derived.Test.YtnfdlpfenafjfaaGreatDoorB22
import Derived.Shelf.Strings.Builder1
import Derived.Shelf.Strings.Builder2
import Derived.Shelf.Strings.OnBuilder
import Derived.Shelf.Utf8.RuneCount
import Derived.Shelf.Strconv.Itoa0
import Derived.Shelf.Strconv.Itoa1
import Derived.Shelf.LaysM
import Derived.Shelf.Strconv.Itoa2
import Derived.Shelf.Strconv.Itoa3
import Derived.Shelf.Strings.Search1
import Derived.Shelf.Strings.Search2
import Derived.Shelf.Strings.Search3
import Derived.Shelf.Strings.Count
import Derived.Shelf.Strings.Shaped
import Derived.Shelf.Strings.Split
import Derived.Shelf.Strings.SplitShaped
import Derived.Shelf.Unicode.Decode
import Derived.Shelf.Strings.RuneCount
import Derived.Shelf.Strings.Explode
import Derived.Shelf.Unicode.DecodeSlow
import Derived.Shelf.Unicode.DecodeAny
import Derived.Test.YtnfdlpfenafjfaaGreatDoorProg
import Derived.Lib.AppendIntMem
import Derived.Lib.SplitLaws
import Derived.Lib.ItoaLen
set_option linter.all false
set_option linter.unusedVariables false
set_option linter.unusedSectionVars false
set_option linter.unusedSimpArgs false
set_option linter.unnecessarySimpa false
namespace Go.Proofs.Sight
open Go Go.RX Go.Proofs
set_option maxRecDepth 10000
theorem natD_0 (n : Nat) : natD n 0 = iD n := Eq.trans rfl rfl
def boolD (b : Bool) : Nat → DV
  | 0 => .bool b | _ => .nilI
theorem boolD_0 (b : Bool) : boolD b 0 = .bool b := Eq.trans rfl rfl
attribute [go_sem] natD_0 boolD_0
theorem dlt (a b : Int) : decide (a < b) = !decide (b ≤ a) := by by_cases h : b ≤ a <;> simp [h] <;> omega
theorem c47 (L : Look) (h : L.fine) : Ctr Tryz.prog 47 [iS L.b.at_, L.p.sv] (iS (far L.b.at_ L.p)) := by
  obtain ⟨a1, a2, a3, a4, a5, a6, _⟩ := h
  have e1 := mulB (a := L.p.al - L.b.at_) (b := L.p.al - L.b.at_) (A := 40) (B := 40) (by omega) (by omega) (by omega) (by omega)
  have e2 := mulB (a := L.p.ac) (b := L.p.ac) (A := 12) (B := 12) (by omega) (by omega) (by omega) (by omega)
  (refine Ctr.mk (fn := Tryz.f47) rfl rfl rfl rfl rfl Tryz.results47 ?_; dsimp only [args, List.toList_toArray])
  ((first | refine Ok.seqF rfl rfl ?_ | refine Ok.seqT rfl rfl ?_ | refine Ok.regF rfl rfl ?_ | refine Ok.regT rfl rfl ?_); simp only [go_sem]; (repeat' with_reducible apply And.intro); all_goals first | (with_reducible first | refine OkW.mk ?_ | refine EndW.mk ?_ | apply AskI.id | apply AskGI.id) | (with_reducible apply KOt.mk; kernel_rfl) | exact trivial | rfl | omega | ((try intro _); first | apply R64 <;> omega | apply room_of <;> omega) | skip)
  ((first | refine Ok.seqF rfl rfl ?_ | refine Ok.seqT rfl rfl ?_ | refine Ok.regF rfl rfl ?_ | refine Ok.regT rfl rfl ?_); simp only [go_sem]; (repeat' with_reducible apply And.intro); all_goals first | (with_reducible first | refine OkW.mk ?_ | refine EndW.mk ?_ | apply AskI.id | apply AskGI.id) | (with_reducible apply KOt.mk; kernel_rfl) | exact trivial | rfl | omega | ((try intro _); first | apply R64 <;> omega | apply room_of <;> omega) | skip)
  (refine Ok.ret ?_; (try dsimp only [thenK, blockK, noGotoK]); simp only [toList_mk, List.toList_toArray, retK_ret, retK_normal, resOK, resV, celV, rowV, frzAll, frzT, subV, subL, go_sem])
  exact .refl _
def kindL (L : Look) (x : Letter) (n : Int) : Int := if tall L x n then (if broad L x n then (if thick L x n then 0 else 4) else 3) else 2
theorem kind_zero (L : Look) (x : Letter) (n : Int) : (kindL L x n == 0) = readL L x n := by
  simp only [kindL, readL]
  cases tall L x n <;> cases broad L x n <;> cases thick L x n <;> rfl
theorem kind_nz (L : Look) (x : Letter) (n : Int) : (kindL L x n != 0) = !readL L x n := by
  rw [← kind_zero]; rfl
theorem sq_low (L : Look) (x : Letter) (n : Int) : decide (x.h * n * x.h * n < 10000 * far L.b.at_ L.p) = !tall L x n := by
  rw [dlt, tall, Int.mul_assoc (x.h * n) x.h n]
theorem sq_thin (L : Look) (x : Letter) (n : Int) : decide (5 * x.s * n * 5 * x.s * n < 10000 * far L.b.at_ L.p) = !thick L x n := by
  rw [dlt, thick, Int.mul_assoc (5 * x.s * n) 5, Int.mul_assoc (5 * x.s * n) (5 * x.s) n]
theorem sq_narrow (L : Look) (x : Letter) (n : Int) : decide (x.w * n * L.p.ac < 100 * far L.b.at_ L.p) = !broad L x n := by
  rw [dlt, broad]
theorem sq_melt (L : Look) (x : Letter) (n : Int) : decide (5 * x.p * n * L.p.ac < 100 * far L.b.at_ L.p) = !apart L x n := by
  rw [dlt, apart]
theorem c89 (L : Look) (h : L.fine) (x : Letter) (hx : x.fine) (n : Int) (h0 : 0 ≤ n) (h1 : n ≤ 10000) : Ctr Tryz.prog 89 [x.sv, iS L.b.at_, L.p.sv, iS n] (iS (kindL L x n)) := by
  obtain ⟨f0, f1⟩ := h.far
  have hL := h
  obtain ⟨a1, a2, a3, a4, a5, a6, _⟩ := h
  obtain ⟨x1, x2, x3, x4, x5, x6, x7, x8⟩ := hx
  have e1 := mulB (a := x.h) (b := n) (A := 1000) (B := 10000) (by omega) (by omega) (by omega) (by omega)
  have e2 := mulB (a := x.h * n) (b := x.h) (A := 10000000) (B := 1000) (by omega) (by omega) (by omega) (by omega)
  have e3 := mulB (a := x.h * n * x.h) (b := n) (A := 10000000000) (B := 10000) (by omega) (by omega) (by omega) (by omega)
  have w1 := mulB (a := x.w) (b := n) (A := 1000) (B := 10000) (by omega) (by omega) (by omega) (by omega)
  have w2 := mulB (a := x.w * n) (b := L.p.ac) (A := 10000000) (B := 12) (by omega) (by omega) (by omega) (by omega)
  have s1 := mulB (a := 5 * x.s) (b := n) (A := 5000) (B := 10000) (by omega) (by omega) (by omega) (by omega)
  have s3 := mulB (a := 5 * x.s * n * 5) (b := x.s) (A := 250000000) (B := 1000) (by omega) (by omega) (by omega) (by omega)
  have s4 := mulB (a := 5 * x.s * n * 5 * x.s) (b := n) (A := 250000000000) (B := 10000) (by omega) (by omega) (by omega) (by omega)
  (refine Ctr.mk (fn := Tryz.f89) rfl rfl rfl rfl rfl Tryz.results89 ?_; dsimp only [args, List.toList_toArray])
  ((first | refine Ok.seqF rfl rfl ?_ | refine Ok.seqT rfl rfl ?_ | refine Ok.regF rfl rfl ?_ | refine Ok.regT rfl rfl ?_); simp only [go_sem]; (repeat' with_reducible apply And.intro); all_goals first | (with_reducible first | refine OkW.mk ?_ | refine EndW.mk ?_ | apply AskI.id | apply AskGI.id) | (with_reducible apply KOt.mk; kernel_rfl) | exact trivial | rfl | omega | ((try intro _); first | apply R64 <;> omega | apply room_of <;> omega) | skip)
  ((first | refine Ok.seqF rfl rfl ?_ | refine Ok.seqT rfl rfl ?_ | refine Ok.regF rfl rfl ?_ | refine Ok.regT rfl rfl ?_); simp only [go_sem]; (repeat' with_reducible apply And.intro); all_goals first | (with_reducible first | refine OkW.mk ?_ | refine EndW.mk ?_ | apply AskI.id | apply AskGI.id) | (with_reducible apply KOt.mk; kernel_rfl) | exact trivial | rfl | omega | ((try intro _); first | apply R64 <;> omega | apply room_of <;> omega) | skip)
  (refine AskI.ret (c47 L hL) ?_; simp only [go_sem]; (repeat' with_reducible apply And.intro); all_goals first | (with_reducible first | refine OkW.mk ?_ | refine EndW.mk ?_ | apply AskI.id | apply AskGI.id) | (with_reducible apply KOt.mk; kernel_rfl) | exact trivial | rfl | omega | ((try intro _); first | apply R64 <;> omega | apply room_of <;> omega) | skip)
  refine Ok.seq ?_
  ((first | refine Ok.seqF rfl rfl ?_ | refine Ok.seqT rfl rfl ?_ | refine Ok.regF rfl rfl ?_ | refine Ok.regT rfl rfl ?_); simp only [go_sem]; (repeat' with_reducible apply And.intro); all_goals first | (with_reducible first | refine OkW.mk ?_ | refine EndW.mk ?_ | apply AskI.id | apply AskGI.id) | (with_reducible apply KOt.mk; kernel_rfl) | exact trivial | rfl | omega | ((try intro _); first | apply R64 <;> omega | apply room_of <;> omega) | skip)
  refine Ok.cond rfl ?_ ?_
  · intro hb
    rw [sq_low] at hb
    have ht : tall L x n = false := by simpa using hb
    ((first | refine Ok.seqF rfl rfl ?_ | refine Ok.seqT rfl rfl ?_ | refine Ok.regF rfl rfl ?_ | refine Ok.regT rfl rfl ?_); simp only [go_sem]; (repeat' with_reducible apply And.intro); all_goals first | (with_reducible first | refine OkW.mk ?_ | refine EndW.mk ?_ | apply AskI.id | apply AskGI.id) | (with_reducible apply KOt.mk; kernel_rfl) | exact trivial | rfl | omega | ((try intro _); first | apply R64 <;> omega | apply room_of <;> omega) | skip)
    (refine Ok.ret ?_; (try dsimp only [thenK, blockK, noGotoK]); simp only [toList_mk, List.toList_toArray, retK_ret, retK_normal, resOK, resV, celV, rowV, frzAll, frzT, subV, subL, go_sem])
    simp only [kindL, ht]
    exact .refl _
  intro hb
  rw [sq_low] at hb
  have ht : tall L x n = true := by simpa using hb
  (refine Ok.skip ?_; (try dsimp only [thenK, blockK, noGotoK]))
  refine Ok.seq ?_
  ((first | refine Ok.seqF rfl rfl ?_ | refine Ok.seqT rfl rfl ?_ | refine Ok.regF rfl rfl ?_ | refine Ok.regT rfl rfl ?_); simp only [go_sem]; (repeat' with_reducible apply And.intro); all_goals first | (with_reducible first | refine OkW.mk ?_ | refine EndW.mk ?_ | apply AskI.id | apply AskGI.id) | (with_reducible apply KOt.mk; kernel_rfl) | exact trivial | rfl | omega | ((try intro _); first | apply R64 <;> omega | apply room_of <;> omega) | skip)
  refine Ok.cond rfl ?_ ?_
  · intro hb
    rw [sq_narrow] at hb
    have hw : broad L x n = false := by simpa using hb
    ((first | refine Ok.seqF rfl rfl ?_ | refine Ok.seqT rfl rfl ?_ | refine Ok.regF rfl rfl ?_ | refine Ok.regT rfl rfl ?_); simp only [go_sem]; (repeat' with_reducible apply And.intro); all_goals first | (with_reducible first | refine OkW.mk ?_ | refine EndW.mk ?_ | apply AskI.id | apply AskGI.id) | (with_reducible apply KOt.mk; kernel_rfl) | exact trivial | rfl | omega | ((try intro _); first | apply R64 <;> omega | apply room_of <;> omega) | skip)
    (refine Ok.ret ?_; (try dsimp only [thenK, blockK, noGotoK]); simp only [toList_mk, List.toList_toArray, retK_ret, retK_normal, resOK, resV, celV, rowV, frzAll, frzT, subV, subL, go_sem])
    simp only [kindL, ht, hw]
    exact .refl _
  intro hb
  rw [sq_narrow] at hb
  have hw : broad L x n = true := by simpa using hb
  (refine Ok.skip ?_; (try dsimp only [thenK, blockK, noGotoK]))
  refine Ok.seq ?_
  ((first | refine Ok.seqF rfl rfl ?_ | refine Ok.seqT rfl rfl ?_ | refine Ok.regF rfl rfl ?_ | refine Ok.regT rfl rfl ?_); simp only [go_sem]; (repeat' with_reducible apply And.intro); all_goals first | (with_reducible first | refine OkW.mk ?_ | refine EndW.mk ?_ | apply AskI.id | apply AskGI.id) | (with_reducible apply KOt.mk; kernel_rfl) | exact trivial | rfl | omega | ((try intro _); first | apply R64 <;> omega | apply room_of <;> omega) | skip)
  refine Ok.cond rfl ?_ ?_
  · intro hb
    rw [sq_thin] at hb
    have hs : thick L x n = false := by simpa using hb
    ((first | refine Ok.seqF rfl rfl ?_ | refine Ok.seqT rfl rfl ?_ | refine Ok.regF rfl rfl ?_ | refine Ok.regT rfl rfl ?_); simp only [go_sem]; (repeat' with_reducible apply And.intro); all_goals first | (with_reducible first | refine OkW.mk ?_ | refine EndW.mk ?_ | apply AskI.id | apply AskGI.id) | (with_reducible apply KOt.mk; kernel_rfl) | exact trivial | rfl | omega | ((try intro _); first | apply R64 <;> omega | apply room_of <;> omega) | skip)
    (refine Ok.ret ?_; (try dsimp only [thenK, blockK, noGotoK]); simp only [toList_mk, List.toList_toArray, retK_ret, retK_normal, resOK, resV, celV, rowV, frzAll, frzT, subV, subL, go_sem])
    simp only [kindL, ht, hw, hs]
    exact .refl _
  intro hb
  rw [sq_thin] at hb
  have hs : thick L x n = true := by simpa using hb
  (refine Ok.skip ?_; (try dsimp only [thenK, blockK, noGotoK]))
  ((first | refine Ok.seqF rfl rfl ?_ | refine Ok.seqT rfl rfl ?_ | refine Ok.regF rfl rfl ?_ | refine Ok.regT rfl rfl ?_); simp only [go_sem]; (repeat' with_reducible apply And.intro); all_goals first | (with_reducible first | refine OkW.mk ?_ | refine EndW.mk ?_ | apply AskI.id | apply AskGI.id) | (with_reducible apply KOt.mk; kernel_rfl) | exact trivial | rfl | omega | ((try intro _); first | apply R64 <;> omega | apply room_of <;> omega) | skip)
  (refine Ok.ret ?_; (try dsimp only [thenK, blockK, noGotoK]); simp only [toList_mk, List.toList_toArray, retK_ret, retK_normal, resOK, resV, celV, rowV, frzAll, frzT, subV, subL, go_sem])
  simp only [kindL, ht, hw, hs]
  exact .refl _
def faultsL (L : Look) (x : Letter) (n : Int) : List Bool := [!tall L x n, !broad L x n, !thick L x n]
theorem c81 (L : Look) (h : L.fine) (x : Letter) (hx : x.fine) (n : Int) (h0 : 0 ≤ n) (h1 : n ≤ 10000) : Ctr Tryz.prog 81 [x.sv, iS L.b.at_, L.p.sv, iS n] (.d (slD 1 boolD (faultsL L x n))) := by
  obtain ⟨f0, f1⟩ := h.far
  have hL := h
  obtain ⟨a1, a2, a3, a4, a5, a6, _⟩ := h
  obtain ⟨x1, x2, x3, x4, x5, x6, x7, x8⟩ := hx
  have e1 := mulB (a := x.h) (b := n) (A := 1000) (B := 10000) (by omega) (by omega) (by omega) (by omega)
  have e2 := mulB (a := x.h * n) (b := x.h) (A := 10000000) (B := 1000) (by omega) (by omega) (by omega) (by omega)
  have e3 := mulB (a := x.h * n * x.h) (b := n) (A := 10000000000) (B := 10000) (by omega) (by omega) (by omega) (by omega)
  have w1 := mulB (a := x.w) (b := n) (A := 1000) (B := 10000) (by omega) (by omega) (by omega) (by omega)
  have w2 := mulB (a := x.w * n) (b := L.p.ac) (A := 10000000) (B := 12) (by omega) (by omega) (by omega) (by omega)
  have s1 := mulB (a := 5 * x.s) (b := n) (A := 5000) (B := 10000) (by omega) (by omega) (by omega) (by omega)
  have s3 := mulB (a := 5 * x.s * n * 5) (b := x.s) (A := 250000000) (B := 1000) (by omega) (by omega) (by omega) (by omega)
  have s4 := mulB (a := 5 * x.s * n * 5 * x.s) (b := n) (A := 250000000000) (B := 10000) (by omega) (by omega) (by omega) (by omega)
  (refine Ctr.mk (fn := Tryz.f81) rfl rfl rfl rfl rfl Tryz.results81 ?_; dsimp only [args, List.toList_toArray])
  ((first | refine Ok.seqF rfl rfl ?_ | refine Ok.seqT rfl rfl ?_ | refine Ok.regF rfl rfl ?_ | refine Ok.regT rfl rfl ?_); simp only [go_sem]; (repeat' with_reducible apply And.intro); all_goals first | (with_reducible first | refine OkW.mk ?_ | refine EndW.mk ?_ | apply AskI.id | apply AskGI.id) | (with_reducible apply KOt.mk; kernel_rfl) | exact trivial | rfl | omega | ((try intro _); first | apply R64 <;> omega | apply room_of <;> omega) | skip)
  ((first | refine Ok.seqF rfl rfl ?_ | refine Ok.seqT rfl rfl ?_ | refine Ok.regF rfl rfl ?_ | refine Ok.regT rfl rfl ?_); simp only [go_sem]; (repeat' with_reducible apply And.intro); all_goals first | (with_reducible first | refine OkW.mk ?_ | refine EndW.mk ?_ | apply AskI.id | apply AskGI.id) | (with_reducible apply KOt.mk; kernel_rfl) | exact trivial | rfl | omega | ((try intro _); first | apply R64 <;> omega | apply room_of <;> omega) | skip)
  (refine AskI.ret (c47 L hL) ?_; simp only [go_sem]; (repeat' with_reducible apply And.intro); all_goals first | (with_reducible first | refine OkW.mk ?_ | refine EndW.mk ?_ | apply AskI.id | apply AskGI.id) | (with_reducible apply KOt.mk; kernel_rfl) | exact trivial | rfl | omega | ((try intro _); first | apply R64 <;> omega | apply room_of <;> omega) | skip)
  ((first | refine Ok.seqF rfl rfl ?_ | refine Ok.seqT rfl rfl ?_ | refine Ok.regF rfl rfl ?_ | refine Ok.regT rfl rfl ?_); simp only [go_sem]; (repeat' with_reducible apply And.intro); all_goals first | (with_reducible first | refine OkW.mk ?_ | refine EndW.mk ?_ | apply AskI.id | apply AskGI.id) | (with_reducible apply KOt.mk; kernel_rfl) | exact trivial | rfl | omega | ((try intro _); first | apply R64 <;> omega | apply room_of <;> omega) | skip)
  (refine Ok.ret ?_; (try dsimp only [thenK, blockK, noGotoK]); simp only [toList_mk, List.toList_toArray, retK_ret, retK_normal, resOK, resV, celV, rowV, frzAll, frzT, subV, subL, go_sem])
  simp only [sq_low, sq_narrow, sq_thin]
  refine DEq.sl rfl (fun i j hi hj => ?_)
  match i, j, hi, hj with
  | 0, 0, _, _ => exact .refl _
  | 1, 0, _, _ => exact .refl _
  | 2, 0, _, _ => exact .refl _
theorem c82 (L : Look) (h : L.fine) (x : Letter) (hx : x.fine) (n : Int) (h0 : 0 ≤ n) (h1 : n ≤ 10000) : Ctr Tryz.prog 82 [x.sv, iS L.b.at_, L.p.sv, iS n] (bS (!apart L x n)) := by
  obtain ⟨f0, f1⟩ := h.far
  have hL := h
  obtain ⟨a1, a2, a3, a4, a5, a6, _⟩ := h
  obtain ⟨x1, x2, x3, x4, x5, x6, x7, x8⟩ := hx
  have e1 := mulB (a := 5 * x.p) (b := n) (A := 5000) (B := 10000) (by omega) (by omega) (by omega) (by omega)
  have e2 := mulB (a := 5 * x.p * n) (b := L.p.ac) (A := 50000000) (B := 12) (by omega) (by omega) (by omega) (by omega)
  (refine Ctr.mk (fn := Tryz.f82) rfl rfl rfl rfl rfl Tryz.results82 ?_; dsimp only [args, List.toList_toArray])
  ((first | refine Ok.seqF rfl rfl ?_ | refine Ok.seqT rfl rfl ?_ | refine Ok.regF rfl rfl ?_ | refine Ok.regT rfl rfl ?_); simp only [go_sem]; (repeat' with_reducible apply And.intro); all_goals first | (with_reducible first | refine OkW.mk ?_ | refine EndW.mk ?_ | apply AskI.id | apply AskGI.id) | (with_reducible apply KOt.mk; kernel_rfl) | exact trivial | rfl | omega | ((try intro _); first | apply R64 <;> omega | apply room_of <;> omega) | skip)
  ((first | refine Ok.seqF rfl rfl ?_ | refine Ok.seqT rfl rfl ?_ | refine Ok.regF rfl rfl ?_ | refine Ok.regT rfl rfl ?_); simp only [go_sem]; (repeat' with_reducible apply And.intro); all_goals first | (with_reducible first | refine OkW.mk ?_ | refine EndW.mk ?_ | apply AskI.id | apply AskGI.id) | (with_reducible apply KOt.mk; kernel_rfl) | exact trivial | rfl | omega | ((try intro _); first | apply R64 <;> omega | apply room_of <;> omega) | skip)
  (refine AskI.ret (c47 L hL) ?_; simp only [go_sem]; (repeat' with_reducible apply And.intro); all_goals first | (with_reducible first | refine OkW.mk ?_ | refine EndW.mk ?_ | apply AskI.id | apply AskGI.id) | (with_reducible apply KOt.mk; kernel_rfl) | exact trivial | rfl | omega | ((try intro _); first | apply R64 <;> omega | apply room_of <;> omega) | skip)
  (refine Ok.ret ?_; (try dsimp only [thenK, blockK, noGotoK]); simp only [toList_mk, List.toList_toArray, retK_ret, retK_normal, resOK, resV, celV, rowV, frzAll, frzT, subV, subL, go_sem])
  rw [sq_melt]
  exact .refl _
theorem c90 (L : Look) (h : L.fine) (k : Block) (hk : k.fine) (hc : k.cl ≤ k.ch) : Ctr Tryz.prog 90 [k.sv, iS L.b.at_, L.p.sv] (bS (hides L k)) := by
  obtain ⟨a1, a2, a3, a4, a5, a6, b1, b2, b3, b4, b5, b6, b7, b8⟩ := h
  obtain ⟨k1, k2, k3, k4, k5, k6, k7, k8⟩ := hk
  have e1 := mulB (a := k.ah) (b := L.p.ac) (A := 40) (B := 12) (by omega) (by omega) (by omega) (by omega)
  have e2 := mulB (a := k.al) (b := L.p.ac) (A := 40) (B := 12) (by omega) (by omega) (by omega) (by omega)
  have e3 := mulB (a := L.b.at_) (b := L.p.ac) (A := 40) (B := 12) (by omega) (by omega) (by omega) (by omega)
  have e4 := mulB (a := L.p.al - L.b.at_) (b := k.cl) (A := 40) (B := 40) (by omega) (by omega) (by omega) (by omega)
  have e5 := mulB (a := L.p.al - L.b.at_) (b := min k.ch L.p.ac) (A := 40) (B := 40) (by omega) (by omega) (by omega) (by omega)
  (refine Ctr.mk (fn := Tryz.f90) rfl rfl rfl rfl rfl Tryz.results90 ?_; dsimp only [args, List.toList_toArray])
  ((first | refine Ok.seqF rfl rfl ?_ | refine Ok.seqT rfl rfl ?_ | refine Ok.regF rfl rfl ?_ | refine Ok.regT rfl rfl ?_); simp only [go_sem]; (repeat' with_reducible apply And.intro); all_goals first | (with_reducible first | refine OkW.mk ?_ | refine EndW.mk ?_ | apply AskI.id | apply AskGI.id) | (with_reducible apply KOt.mk; kernel_rfl) | exact trivial | rfl | omega | ((try intro _); first | apply R64 <;> omega | apply room_of <;> omega) | skip)
  ((first | refine Ok.seqF rfl rfl ?_ | refine Ok.seqT rfl rfl ?_ | refine Ok.regF rfl rfl ?_ | refine Ok.regT rfl rfl ?_); simp only [go_sem]; (repeat' with_reducible apply And.intro); all_goals first | (with_reducible first | refine OkW.mk ?_ | refine EndW.mk ?_ | apply AskI.id | apply AskGI.id) | (with_reducible apply KOt.mk; kernel_rfl) | exact trivial | rfl | omega | ((try intro _); first | apply R64 <;> omega | apply room_of <;> omega) | skip)
  refine Ok.seq ?_
  ((first | refine Ok.seqF rfl rfl ?_ | refine Ok.seqT rfl rfl ?_ | refine Ok.regF rfl rfl ?_ | refine Ok.regT rfl rfl ?_); simp only [go_sem]; (repeat' with_reducible apply And.intro); all_goals first | (with_reducible first | refine OkW.mk ?_ | refine EndW.mk ?_ | apply AskI.id | apply AskGI.id) | (with_reducible apply KOt.mk; kernel_rfl) | exact trivial | rfl | omega | ((try intro _); first | apply R64 <;> omega | apply room_of <;> omega) | skip)
  refine Ok.cond rfl ?_ ?_
  · intro hb
    ((first | refine Ok.seqF rfl rfl ?_ | refine Ok.seqT rfl rfl ?_ | refine Ok.regF rfl rfl ?_ | refine Ok.regT rfl rfl ?_); simp only [go_sem]; (repeat' with_reducible apply And.intro); all_goals first | (with_reducible first | refine OkW.mk ?_ | refine EndW.mk ?_ | apply AskI.id | apply AskGI.id) | (with_reducible apply KOt.mk; kernel_rfl) | exact trivial | rfl | omega | ((try intro _); first | apply R64 <;> omega | apply room_of <;> omega) | skip)
    (refine Ok.ret ?_; (try dsimp only [thenK, blockK, noGotoK]); simp only [toList_mk, List.toList_toArray, retK_ret, retK_normal, resOK, resV, celV, rowV, frzAll, frzT, subV, subL, go_sem])
    refine DEq.bool ?_
    simp only [decide_eq_true_eq] at hb
    simp only [hides]
    have : ¬ k.cl ≤ L.p.ac := by omega
    simp [this]
  · intro hb
    (refine Ok.skip ?_; (try dsimp only [thenK, blockK, noGotoK]))
    simp only [decide_eq_false_iff_not] at hb
    ((first | refine Ok.seqF rfl rfl ?_ | refine Ok.seqT rfl rfl ?_ | refine Ok.regF rfl rfl ?_ | refine Ok.regT rfl rfl ?_); simp only [go_sem]; (repeat' with_reducible apply And.intro); all_goals first | (with_reducible first | refine OkW.mk ?_ | refine EndW.mk ?_ | apply AskI.id | apply AskGI.id) | (with_reducible apply KOt.mk; kernel_rfl) | exact trivial | rfl | omega | ((try intro _); first | apply R64 <;> omega | apply room_of <;> omega) | skip)
    ((first | refine Ok.seqF rfl rfl ?_ | refine Ok.seqT rfl rfl ?_ | refine Ok.regF rfl rfl ?_ | refine Ok.regT rfl rfl ?_); simp only [go_sem]; (repeat' with_reducible apply And.intro); all_goals first | (with_reducible first | refine OkW.mk ?_ | refine EndW.mk ?_ | apply AskI.id | apply AskGI.id) | (with_reducible apply KOt.mk; kernel_rfl) | exact trivial | rfl | omega | ((try intro _); first | apply R64 <;> omega | apply room_of <;> omega) | skip)
    (refine Ok.ret ?_; (try dsimp only [thenK, blockK, noGotoK]); simp only [toList_mk, List.toList_toArray, retK_ret, retK_normal, resOK, resV, celV, rowV, frzAll, frzT, subV, subL, go_sem])
    refine DEq.bool ?_
    simp only [hides, along]
    have : k.cl ≤ L.p.ac := by omega
    simp [this]
def clearB (L : Look) (n : Int) : Bool := L.b.ls.all (fun x => readL L x n) && (L.b.ls.take (L.b.ls.length - 1)).all (fun x => apart L x n)
theorem clearB_iff (L : Look) (n : Int) : clearB L n = true ↔ clearL L n := by
  simp only [clearB, clearL, readL, Bool.and_eq_true, List.all_eq_true, and_assoc]
theorem c124 (L : Look) (hL : L.good) (n : Int) (h0 : 0 ≤ n) (h1 : n ≤ 10000) : Ctr Tryz.prog 124 [L.b.sv, L.p.sv, iS n] (bS (clearB L n)) := by
  have hn5 := hL.n5
  (refine Ctr.mk (fn := Tryz.f124) rfl rfl rfl rfl rfl Tryz.results124 ?_; dsimp only [args, List.toList_toArray])
  ((first | refine Ok.seqF rfl rfl ?_ | refine Ok.seqT rfl rfl ?_ | refine Ok.regF rfl rfl ?_ | refine Ok.regT rfl rfl ?_); simp only [go_sem]; (repeat' with_reducible apply And.intro); all_goals first | (with_reducible first | refine OkW.mk ?_ | refine EndW.mk ?_ | apply AskI.id | apply AskGI.id) | (with_reducible apply KOt.mk; kernel_rfl) | exact trivial | rfl | omega | ((try intro _); first | apply R64 <;> omega | apply room_of <;> omega) | skip)
  refine Ok.seq ?_
  ((first | refine Ok.seqF rfl rfl ?_ | refine Ok.seqT rfl rfl ?_ | refine Ok.regF rfl rfl ?_ | refine Ok.regT rfl rfl ?_); simp only [go_sem]; (repeat' with_reducible apply And.intro); all_goals first | (with_reducible first | refine OkW.mk ?_ | refine EndW.mk ?_ | apply AskI.id | apply AskGI.id) | (with_reducible apply KOt.mk; kernel_rfl) | exact trivial | rfl | omega | ((try intro _); first | apply R64 <;> omega | apply room_of <;> omega) | skip)
  refine Ok.block ?_
  refine Ok.count L.b.ls.length (fun i => ⟨[(2, iS n), (3, .p 0 0), (4, .p 1 0), (7, iS i)], [boardB L.b, placeB L.p], []⟩) (fun i => ∀ j, j < i → readL L (L.b.ls.getD j default) n = true ∧ (j + 1 < L.b.ls.length → apart L (L.b.ls.getD j default) n = true)) ⟨fun j hj => by omega, ?_⟩ ?_ ?_
  · (refine Sub.of ([0, 1]) ([]) ?_ ?_ ?_ rfl rfl <;> simp only [subB, subB1, subT, subT1, newT, subE, subV, subL, go_sem] <;> (try (repeat' with_reducible apply And.intro)) <;> (try first | exact DEq.refl _ | refine DEq.int ?_ | refine DEq.bool ?_ | omega))
  · intro i hi hJ
    refine Ok.seq ?_; (((first | refine Ok.seqF rfl rfl ?_ | refine Ok.seqT rfl rfl ?_ | refine Ok.regF rfl rfl ?_ | refine Ok.regT rfl rfl ?_); simp only [go_sem]; (repeat' with_reducible apply And.intro); all_goals first | (with_reducible first | refine OkW.mk ?_ | refine EndW.mk ?_ | apply AskI.id | apply AskGI.id) | (with_reducible apply KOt.mk; kernel_rfl) | exact trivial | rfl | omega | ((try intro _); first | apply R64 <;> omega | apply room_of <;> omega) | skip)); refine Ok.cond rfl (fun _ => ?_) (fun hb => by simp at hb; omega); (refine Ok.skip ?_; (try dsimp only [thenK, blockK, noGotoK])); refine Ok.seq ?_; refine Ok.block ?_
    ((first | refine Ok.seqF rfl rfl ?_ | refine Ok.seqT rfl rfl ?_ | refine Ok.regF rfl rfl ?_ | refine Ok.regT rfl rfl ?_); simp only [go_sem]; (repeat' with_reducible apply And.intro); all_goals first | (with_reducible first | refine OkW.mk ?_ | refine EndW.mk ?_ | apply AskI.id | apply AskGI.id) | (with_reducible apply KOt.mk; kernel_rfl) | exact trivial | rfl | omega | ((try intro _); first | apply R64 <;> omega | apply room_of <;> omega) | skip)
    (refine AskI.ret (c89 L hL.fine _ (hL.ls _ (getD_mem hi)) n h0 h1) ?_; simp only [go_sem]; (repeat' with_reducible apply And.intro); all_goals first | (with_reducible first | refine OkW.mk ?_ | refine EndW.mk ?_ | apply AskI.id | apply AskGI.id) | (with_reducible apply KOt.mk; kernel_rfl) | exact trivial | rfl | omega | ((try intro _); first | apply R64 <;> omega | apply room_of <;> omega) | skip)
    (refine AskGI.ret (fun _ => c82 L hL.fine _ (hL.ls _ (getD_mem hi)) n h0 h1) ?_; simp only [go_sem]; (repeat' with_reducible apply And.intro); all_goals first | (with_reducible first | refine OkW.mk ?_ | refine EndW.mk ?_ | apply AskI.id | apply AskGI.id) | (with_reducible apply KOt.mk; kernel_rfl) | exact trivial | rfl | omega | ((try intro _); first | apply R64 <;> omega | apply room_of <;> omega) | skip)
    rw [kind_nz]
    refine Ok.cond rfl ?_ ?_
    · intro hb
      have hF : clearB L n = false := by
        cases hc : clearB L n with
        | false => rfl
        | true =>
          simp only [clearB, Bool.and_eq_true, List.all_eq_true] at hc
          have r1 := hc.1 _ (getD_mem hi)
          rw [r1] at hb
          by_cases hlt : i + 1 < L.b.ls.length
          · have r2 := hc.2 _ (at_take (l := L.b.ls) (n := L.b.ls.length - 1) (i := i) (by omega) hi)
            rw [r2] at hb
            simp at hb
          · have : ¬ ((i : Int) + 1 < L.b.ls.length) := by omega
            simp [this] at hb
      ((first | refine Ok.seqF rfl rfl ?_ | refine Ok.seqT rfl rfl ?_ | refine Ok.regF rfl rfl ?_ | refine Ok.regT rfl rfl ?_); simp only [go_sem]; (repeat' with_reducible apply And.intro); all_goals first | (with_reducible first | refine OkW.mk ?_ | refine EndW.mk ?_ | apply AskI.id | apply AskGI.id) | (with_reducible apply KOt.mk; kernel_rfl) | exact trivial | rfl | omega | ((try intro _); first | apply R64 <;> omega | apply room_of <;> omega) | skip)
      (refine Ok.ret ?_; (try dsimp only [thenK, blockK, noGotoK]); simp only [toList_mk, List.toList_toArray, retK_ret, retK_normal, resOK, resV, celV, rowV, frzAll, frzT, subV, subL, go_sem])
      rw [hF]
      exact .refl _
    · intro hb
      have r1 : readL L (L.b.ls.getD i default) n = true := by
        revert hb
        cases readL L (L.b.ls.getD i default) n <;> simp
      have r2 : i + 1 < L.b.ls.length → apart L (L.b.ls.getD i default) n = true := by
        intro hlt
        have : (i : Int) + 1 < L.b.ls.length := by omega
        rw [r1] at hb
        simpa [this] using hb
      (refine Ok.skip ?_; (try dsimp only [thenK, blockK, noGotoK]))
      ((first | refine Ok.seqF rfl rfl ?_ | refine Ok.seqT rfl rfl ?_ | refine Ok.regF rfl rfl ?_ | refine Ok.regT rfl rfl ?_); simp only [go_sem]; (repeat' with_reducible apply And.intro); all_goals first | (with_reducible first | refine OkW.mk ?_ | refine EndW.mk ?_ | apply AskI.id | apply AskGI.id) | (with_reducible apply KOt.mk; kernel_rfl) | exact trivial | rfl | omega | ((try intro _); first | apply R64 <;> omega | apply room_of <;> omega) | skip)
      (try dsimp only [thenK, blockK, noGotoK])
      refine ⟨fun j hj => ?_, ?_⟩
      · by_cases e : j = i
        · subst e; exact ⟨r1, r2⟩
        · exact hJ j (by omega)
      (refine Sub.of ([0, 1]) ([]) ?_ ?_ ?_ rfl rfl <;> simp only [subB, subB1, subT, subT1, newT, subE, subV, subL, go_sem] <;> (try (repeat' with_reducible apply And.intro)) <;> (try first | exact DEq.refl _ | refine DEq.int ?_ | refine DEq.bool ?_ | omega))
  · intro hJ
    have hT : clearB L n = true := by
      simp only [clearB, Bool.and_eq_true, List.all_eq_true]
      refine ⟨fun x hx => ?_, fun x hx => ?_⟩
      · obtain ⟨j, hj, rfl⟩ := mem_at hx
        exact (hJ j hj).1
      · obtain ⟨j, hj, hj2, rfl⟩ := take_at_lt hx
        exact (hJ j hj2).2 (by omega)
    refine Ok.seq ?_; (((first | refine Ok.seqF rfl rfl ?_ | refine Ok.seqT rfl rfl ?_ | refine Ok.regF rfl rfl ?_ | refine Ok.regT rfl rfl ?_); simp only [go_sem]; (repeat' with_reducible apply And.intro); all_goals first | (with_reducible first | refine OkW.mk ?_ | refine EndW.mk ?_ | apply AskI.id | apply AskGI.id) | (with_reducible apply KOt.mk; kernel_rfl) | exact trivial | rfl | omega | ((try intro _); first | apply R64 <;> omega | apply room_of <;> omega) | skip)); refine Ok.cond rfl (fun hb => by simp at hb) (fun _ => ?_); (refine Ok.exit ?_; simp only [thenK_exit, blockK_exit, noGotoK_exit, thenK_normal, blockK_normal, noGotoK_normal, ↓reduceIte, Nat.reduceEqDiff])
    ((first | refine Ok.seqF rfl rfl ?_ | refine Ok.seqT rfl rfl ?_ | refine Ok.regF rfl rfl ?_ | refine Ok.regT rfl rfl ?_); simp only [go_sem]; (repeat' with_reducible apply And.intro); all_goals first | (with_reducible first | refine OkW.mk ?_ | refine EndW.mk ?_ | apply AskI.id | apply AskGI.id) | (with_reducible apply KOt.mk; kernel_rfl) | exact trivial | rfl | omega | ((try intro _); first | apply R64 <;> omega | apply room_of <;> omega) | skip)
    (refine Ok.ret ?_; (try dsimp only [thenK, blockK, noGotoK]); simp only [toList_mk, List.toList_toArray, retK_ret, retK_normal, resOK, resV, celV, rowV, frzAll, frzT, subV, subL, go_sem])
    rw [hT]
    exact .refl _
theorem c41 (L : Look) (hL : L.good) (hc : ∀ k ∈ L.s.ks, k.cl ≤ k.ch) : Ctr Tryz.prog 41 [L.s.sv, L.b.sv, L.p.sv] (.d (slD 1 natD (hiddenL L))) := by
  have hk4 := hL.k4
  (refine Ctr.mk (fn := Tryz.f41) rfl rfl rfl rfl rfl Tryz.results41 ?_; dsimp only [args, List.toList_toArray])
  ((first | refine Ok.seqF rfl rfl ?_ | refine Ok.seqT rfl rfl ?_ | refine Ok.regF rfl rfl ?_ | refine Ok.regT rfl rfl ?_); simp only [go_sem]; (repeat' with_reducible apply And.intro); all_goals first | (with_reducible first | refine OkW.mk ?_ | refine EndW.mk ?_ | apply AskI.id | apply AskGI.id) | (with_reducible apply KOt.mk; kernel_rfl) | exact trivial | rfl | omega | ((try intro _); first | apply R64 <;> omega | apply room_of <;> omega) | skip)
  ((first | refine Ok.seqF rfl rfl ?_ | refine Ok.seqT rfl rfl ?_ | refine Ok.regF rfl rfl ?_ | refine Ok.regT rfl rfl ?_); simp only [go_sem]; (repeat' with_reducible apply And.intro); all_goals first | (with_reducible first | refine OkW.mk ?_ | refine EndW.mk ?_ | apply AskI.id | apply AskGI.id) | (with_reducible apply KOt.mk; kernel_rfl) | exact trivial | rfl | omega | ((try intro _); first | apply R64 <;> omega | apply room_of <;> omega) | skip)
  refine Ok.seq ?_
  ((first | refine Ok.seqF rfl rfl ?_ | refine Ok.seqT rfl rfl ?_ | refine Ok.regF rfl rfl ?_ | refine Ok.regT rfl rfl ?_); simp only [go_sem]; (repeat' with_reducible apply And.intro); all_goals first | (with_reducible first | refine OkW.mk ?_ | refine EndW.mk ?_ | apply AskI.id | apply AskGI.id) | (with_reducible apply KOt.mk; kernel_rfl) | exact trivial | rfl | omega | ((try intro _); first | apply R64 <;> omega | apply room_of <;> omega) | skip)
  refine Ok.block ?_
  generalize hq : (fun j => hides L (L.s.ks.getD j default)) = q
  have hFL : hiddenL L = (List.range L.s.ks.length).filter q := by rw [← hq]; rfl
  rw [hFL]
  refine Ok.count L.s.ks.length (fun j => ⟨[(3, .p 0 0), (4, .p 1 0), (5, .p 2 0), (7, .tk 0), (8, iS j)], [streetB L.s, boardB L.b, placeB L.p], [ownD 3 1 natD ((List.range j).filter q)]⟩) (fun _ => True) ⟨trivial, ?_⟩ ?_ ?_
  · (refine Sub.of ([0, 1, 2]) ([none]) ?_ ?_ ?_ rfl rfl <;> simp only [subB, subB1, subT, subT1, newT, subE, subV, subL, go_sem] <;> (try (repeat' with_reducible apply And.intro)) <;> (try first | exact DEq.refl _ | refine DEq.int ?_ | refine DEq.bool ?_ | omega))
    simp
  · intro j hj _
    have hlen := filter_range_len q j
    have hsn := filter_range q j
    refine Ok.seq ?_; (((first | refine Ok.seqF rfl rfl ?_ | refine Ok.seqT rfl rfl ?_ | refine Ok.regF rfl rfl ?_ | refine Ok.regT rfl rfl ?_); simp only [go_sem]; (repeat' with_reducible apply And.intro); all_goals first | (with_reducible first | refine OkW.mk ?_ | refine EndW.mk ?_ | apply AskI.id | apply AskGI.id) | (with_reducible apply KOt.mk; kernel_rfl) | exact trivial | rfl | omega | ((try intro _); first | apply R64 <;> omega | apply room_of <;> omega) | skip)); refine Ok.cond rfl (fun _ => ?_) (fun hb => by simp at hb; omega); (refine Ok.skip ?_; (try dsimp only [thenK, blockK, noGotoK])); refine Ok.seq ?_; refine Ok.block ?_
    ((first | refine Ok.seqF rfl rfl ?_ | refine Ok.seqT rfl rfl ?_ | refine Ok.regF rfl rfl ?_ | refine Ok.regT rfl rfl ?_); simp only [go_sem]; (repeat' with_reducible apply And.intro); all_goals first | (with_reducible first | refine OkW.mk ?_ | refine EndW.mk ?_ | apply AskI.id | apply AskGI.id) | (with_reducible apply KOt.mk; kernel_rfl) | exact trivial | rfl | omega | ((try intro _); first | apply R64 <;> omega | apply room_of <;> omega) | skip)
    (refine AskI.ret (c90 L hL.fine _ (hL.ks _ (getD_mem hj)) (hc _ (getD_mem hj))) ?_; simp only [go_sem]; (repeat' with_reducible apply And.intro); all_goals first | (with_reducible first | refine OkW.mk ?_ | refine EndW.mk ?_ | apply AskI.id | apply AskGI.id) | (with_reducible apply KOt.mk; kernel_rfl) | exact trivial | rfl | omega | ((try intro _); first | apply R64 <;> omega | apply room_of <;> omega) | skip)
    refine Ok.cond rfl ?_ ?_
    · intro hh
      have hqj : q j = true := by rw [← hq]; exact hh
      rw [hqj, if_pos rfl] at hsn
      ((first | refine Ok.seqF rfl rfl ?_ | refine Ok.seqT rfl rfl ?_ | refine Ok.regF rfl rfl ?_ | refine Ok.regT rfl rfl ?_); simp only [go_sem]; (repeat' with_reducible apply And.intro); all_goals first | (with_reducible first | refine OkW.mk ?_ | refine EndW.mk ?_ | apply AskI.id | apply AskGI.id) | (with_reducible apply KOt.mk; kernel_rfl) | exact trivial | rfl | omega | ((try intro _); first | apply R64 <;> omega | apply room_of <;> omega) | skip)
      (try dsimp only [thenK, blockK, noGotoK])
      ((first | refine Ok.seqF rfl rfl ?_ | refine Ok.seqT rfl rfl ?_ | refine Ok.regF rfl rfl ?_ | refine Ok.regT rfl rfl ?_); simp only [go_sem]; (repeat' with_reducible apply And.intro); all_goals first | (with_reducible first | refine OkW.mk ?_ | refine EndW.mk ?_ | apply AskI.id | apply AskGI.id) | (with_reducible apply KOt.mk; kernel_rfl) | exact trivial | rfl | omega | ((try intro _); first | apply R64 <;> omega | apply room_of <;> omega) | skip)
      (try dsimp only [thenK, blockK, noGotoK])
      refine ⟨trivial, ?_⟩
      (refine Sub.of ([0, 1, 2]) ([some 1]) ?_ ?_ ?_ rfl rfl <;> simp only [subB, subB1, subT, subT1, newT, subE, subV, subL, go_sem] <;> (try (repeat' with_reducible apply And.intro)) <;> (try first | exact DEq.refl _ | refine DEq.int ?_ | refine DEq.bool ?_ | omega))
      · rw [← List.range_succ, hsn]; simp
      · rw [← List.range_succ, hsn]
        exact snoc_D (fun c hc => by have : c = 0 := by omega
                                     subst this; rfl)
    · intro hh
      have hqj : q j = false := by rw [← hq]; exact hh
      rw [hqj, if_neg (by simp), List.append_nil] at hsn
      (refine Ok.skip ?_; (try dsimp only [thenK, blockK, noGotoK]))
      (try dsimp only [thenK, blockK, noGotoK])
      ((first | refine Ok.seqF rfl rfl ?_ | refine Ok.seqT rfl rfl ?_ | refine Ok.regF rfl rfl ?_ | refine Ok.regT rfl rfl ?_); simp only [go_sem]; (repeat' with_reducible apply And.intro); all_goals first | (with_reducible first | refine OkW.mk ?_ | refine EndW.mk ?_ | apply AskI.id | apply AskGI.id) | (with_reducible apply KOt.mk; kernel_rfl) | exact trivial | rfl | omega | ((try intro _); first | apply R64 <;> omega | apply room_of <;> omega) | skip)
      (try dsimp only [thenK, blockK, noGotoK])
      refine ⟨trivial, ?_⟩
      rw [hsn]
      (refine Sub.of ([0, 1, 2]) ([some 0]) ?_ ?_ ?_ rfl rfl <;> simp only [subB, subB1, subT, subT1, newT, subE, subV, subL, go_sem] <;> (try (repeat' with_reducible apply And.intro)) <;> (try first | exact DEq.refl _ | refine DEq.int ?_ | refine DEq.bool ?_ | omega))
      exact fun _ _ _ _ => DEq.refl _
  · intro _
    refine Ok.seq ?_; (((first | refine Ok.seqF rfl rfl ?_ | refine Ok.seqT rfl rfl ?_ | refine Ok.regF rfl rfl ?_ | refine Ok.regT rfl rfl ?_); simp only [go_sem]; (repeat' with_reducible apply And.intro); all_goals first | (with_reducible first | refine OkW.mk ?_ | refine EndW.mk ?_ | apply AskI.id | apply AskGI.id) | (with_reducible apply KOt.mk; kernel_rfl) | exact trivial | rfl | omega | ((try intro _); first | apply R64 <;> omega | apply room_of <;> omega) | skip)); refine Ok.cond rfl (fun hb => by simp at hb) (fun _ => ?_); (refine Ok.exit ?_; simp only [thenK_exit, blockK_exit, noGotoK_exit, thenK_normal, blockK_normal, noGotoK_normal, ↓reduceIte, Nat.reduceEqDiff])
    ((first | refine Ok.seqF rfl rfl ?_ | refine Ok.seqT rfl rfl ?_ | refine Ok.regF rfl rfl ?_ | refine Ok.regT rfl rfl ?_); simp only [go_sem]; (repeat' with_reducible apply And.intro); all_goals first | (with_reducible first | refine OkW.mk ?_ | refine EndW.mk ?_ | apply AskI.id | apply AskGI.id) | (with_reducible apply KOt.mk; kernel_rfl) | exact trivial | rfl | omega | ((try intro _); first | apply R64 <;> omega | apply room_of <;> omega) | skip)
    (refine Ok.ret ?_; (try dsimp only [thenK, blockK, noGotoK]); simp only [toList_mk, List.toList_toArray, retK_ret, retK_normal, resOK, resV, celV, rowV, frzAll, frzT, subV, subL, go_sem])
    ((repeat' with_reducible apply And.intro) <;> (first | exact DEq.refl _ | refine DEq.int ?_ | refine DEq.bool ?_ | skip))
theorem hidden_none (L : Look) : ((hiddenL L).length == 0) = true ↔ ∀ k ∈ L.s.ks, hides L k = false := by
  simp only [beq_iff_eq, List.length_eq_zero_iff, hiddenL, List.filter_eq_nil_iff, List.mem_range, Bool.not_eq_true]
  constructor
  · intro h k hk
    obtain ⟨i, hi, rfl⟩ := mem_at hk
    exact h i hi
  · intro h i hi
    exact h _ (getD_mem hi)
theorem surely_eq (L : Look) : surelyL L = (clearB L (L.s.el * L.s.ll) && ((hiddenL L).length == 0)) := by
  rw [Bool.eq_iff_iff, surely_iff, Bool.and_eq_true, clearB_iff, hidden_none, and_comm]
theorem hidden_lt (L : Look) {j : Nat} (h : j ∈ hiddenL L) : j < L.s.ks.length := by
  simp only [hiddenL, List.mem_filter, List.mem_range] at h
  exact h.1
theorem may_eq (L : Look) : mayL L = (!((hiddenL L).any (fun j => (L.s.ks.getD j default).sure)) && clearB L (L.s.eh * L.s.lh)) := by
  rw [Bool.eq_iff_iff, may_iff, Bool.and_eq_true, clearB_iff]
  refine and_congr ?_ Iff.rfl
  simp only [Bool.not_eq_true', List.any_eq_false, hiddenL, List.mem_filter, List.mem_range, Bool.not_eq_true]
  constructor
  · rintro h j ⟨hj, hh⟩
    have := h _ (getD_mem hj)
    rw [hh, Bool.and_true] at this
    exact this
  · intro h k hk
    obtain ⟨i, hi, rfl⟩ := mem_at hk
    cases hh : hides L (L.s.ks.getD i default) with
    | false => simp
    | true => rw [h i ⟨hi, hh⟩]; rfl
theorem hidden_len (L : Look) : (hiddenL L).length ≤ L.s.ks.length := filter_range_len _ _
theorem c98 (L : Look) (hL : L.good) (hc : ∀ k ∈ L.s.ks, k.cl ≤ k.ch) : Ctr Tryz.prog 98 [L.s.sv, L.b.sv, L.p.sv] (bS (surelyL L)) := by
  obtain ⟨p0, p1⟩ := pow_least hL.fine
  have hl := hidden_len L
  have hk4 := hL.k4
  (refine Ctr.mk (fn := Tryz.f98) rfl rfl rfl rfl rfl Tryz.results98 ?_; dsimp only [args, List.toList_toArray])
  ((first | refine Ok.seqF rfl rfl ?_ | refine Ok.seqT rfl rfl ?_ | refine Ok.regF rfl rfl ?_ | refine Ok.regT rfl rfl ?_); simp only [go_sem]; (repeat' with_reducible apply And.intro); all_goals first | (with_reducible first | refine OkW.mk ?_ | refine EndW.mk ?_ | apply AskI.id | apply AskGI.id) | (with_reducible apply KOt.mk; kernel_rfl) | exact trivial | rfl | omega | ((try intro _); first | apply R64 <;> omega | apply room_of <;> omega) | skip)
  ((first | refine Ok.seqF rfl rfl ?_ | refine Ok.seqT rfl rfl ?_ | refine Ok.regF rfl rfl ?_ | refine Ok.regT rfl rfl ?_); simp only [go_sem]; (repeat' with_reducible apply And.intro); all_goals first | (with_reducible first | refine OkW.mk ?_ | refine EndW.mk ?_ | apply AskI.id | apply AskGI.id) | (with_reducible apply KOt.mk; kernel_rfl) | exact trivial | rfl | omega | ((try intro _); first | apply R64 <;> omega | apply room_of <;> omega) | skip)
  (refine AskI.ret (c124 L hL _ p0 p1) ?_; simp only [go_sem]; (repeat' with_reducible apply And.intro); all_goals first | (with_reducible first | refine OkW.mk ?_ | refine EndW.mk ?_ | apply AskI.id | apply AskGI.id) | (with_reducible apply KOt.mk; kernel_rfl) | exact trivial | rfl | omega | ((try intro _); first | apply R64 <;> omega | apply room_of <;> omega) | skip)
  (refine AskGI.ret (fun _ => c41 L hL hc) ?_; simp only [go_sem]; (repeat' with_reducible apply And.intro); all_goals first | (with_reducible first | refine OkW.mk ?_ | refine EndW.mk ?_ | apply AskI.id | apply AskGI.id) | (with_reducible apply KOt.mk; kernel_rfl) | exact trivial | rfl | omega | ((try intro _); first | apply R64 <;> omega | apply room_of <;> omega) | skip)
  (refine Ok.ret ?_; (try dsimp only [thenK, blockK, noGotoK]); simp only [toList_mk, List.toList_toArray, retK_ret, retK_normal, resOK, resV, celV, rowV, frzAll, frzT, subV, subL, go_sem])
  refine DEq.bool ?_
  rw [surely_eq]
  cases clearB L (L.s.el * L.s.ll) <;> cases hiddenL L <;> simp <;> omega
theorem c103 (L : Look) (hL : L.good) (hc : ∀ k ∈ L.s.ks, k.cl ≤ k.ch) : Ctr Tryz.prog 103 [L.s.sv, L.b.sv, L.p.sv] (bS (mayL L)) := by
  obtain ⟨p0, p1⟩ := pow_most hL.fine
  have hl := hidden_len L
  have hk4 := hL.k4
  (refine Ctr.mk (fn := Tryz.f103) rfl rfl rfl rfl rfl Tryz.results103 ?_; dsimp only [args, List.toList_toArray])
  ((first | refine Ok.seqF rfl rfl ?_ | refine Ok.seqT rfl rfl ?_ | refine Ok.regF rfl rfl ?_ | refine Ok.regT rfl rfl ?_); simp only [go_sem]; (repeat' with_reducible apply And.intro); all_goals first | (with_reducible first | refine OkW.mk ?_ | refine EndW.mk ?_ | apply AskI.id | apply AskGI.id) | (with_reducible apply KOt.mk; kernel_rfl) | exact trivial | rfl | omega | ((try intro _); first | apply R64 <;> omega | apply room_of <;> omega) | skip)
  ((first | refine Ok.seqF rfl rfl ?_ | refine Ok.seqT rfl rfl ?_ | refine Ok.regF rfl rfl ?_ | refine Ok.regT rfl rfl ?_); simp only [go_sem]; (repeat' with_reducible apply And.intro); all_goals first | (with_reducible first | refine OkW.mk ?_ | refine EndW.mk ?_ | apply AskI.id | apply AskGI.id) | (with_reducible apply KOt.mk; kernel_rfl) | exact trivial | rfl | omega | ((try intro _); first | apply R64 <;> omega | apply room_of <;> omega) | skip)
  (refine AskI.ret (c41 L hL hc) ?_; simp only [go_sem]; (repeat' with_reducible apply And.intro); all_goals first | (with_reducible first | refine OkW.mk ?_ | refine EndW.mk ?_ | apply AskI.id | apply AskGI.id) | (with_reducible apply KOt.mk; kernel_rfl) | exact trivial | rfl | omega | ((try intro _); first | apply R64 <;> omega | apply room_of <;> omega) | skip)
  refine Ok.seq ?_
  ((first | refine Ok.seqF rfl rfl ?_ | refine Ok.seqT rfl rfl ?_ | refine Ok.regF rfl rfl ?_ | refine Ok.regT rfl rfl ?_); simp only [go_sem]; (repeat' with_reducible apply And.intro); all_goals first | (with_reducible first | refine OkW.mk ?_ | refine EndW.mk ?_ | apply AskI.id | apply AskGI.id) | (with_reducible apply KOt.mk; kernel_rfl) | exact trivial | rfl | omega | ((try intro _); first | apply R64 <;> omega | apply room_of <;> omega) | skip)
  refine Ok.block ?_
  refine Ok.count (hiddenL L).length (fun i => ⟨[(3, .p 0 0), (4, .p 1 0), (5, .p 2 0), (7, .d (slD 1 natD (hiddenL L))), (8, iS i)], [streetB L.s, boardB L.b, placeB L.p], []⟩) (fun i => ∀ j ∈ (hiddenL L).take i, (L.s.ks.getD j default).sure = false) ⟨fun x hx => by simp at hx, ?_⟩ ?_ ?_
  · (refine Sub.of ([0, 1, 2]) ([]) ?_ ?_ ?_ rfl rfl <;> simp only [subB, subB1, subT, subT1, newT, subE, subV, subL, go_sem] <;> (try (repeat' with_reducible apply And.intro)) <;> (try first | exact DEq.refl _ | refine DEq.int ?_ | refine DEq.bool ?_ | omega))
  · intro i hi h0
    have hlt := hidden_lt L (getD_mem hi)
    refine Ok.seq ?_; (((first | refine Ok.seqF rfl rfl ?_ | refine Ok.seqT rfl rfl ?_ | refine Ok.regF rfl rfl ?_ | refine Ok.regT rfl rfl ?_); simp only [go_sem]; (repeat' with_reducible apply And.intro); all_goals first | (with_reducible first | refine OkW.mk ?_ | refine EndW.mk ?_ | apply AskI.id | apply AskGI.id) | (with_reducible apply KOt.mk; kernel_rfl) | exact trivial | rfl | omega | ((try intro _); first | apply R64 <;> omega | apply room_of <;> omega) | skip)); refine Ok.cond rfl (fun _ => ?_) (fun hb => by simp at hb; omega); (refine Ok.skip ?_; (try dsimp only [thenK, blockK, noGotoK])); refine Ok.seq ?_; refine Ok.block ?_
    ((first | refine Ok.seqF rfl rfl ?_ | refine Ok.seqT rfl rfl ?_ | refine Ok.regF rfl rfl ?_ | refine Ok.regT rfl rfl ?_); simp only [go_sem]; (repeat' with_reducible apply And.intro); all_goals first | (with_reducible first | refine OkW.mk ?_ | refine EndW.mk ?_ | apply AskI.id | apply AskGI.id) | (with_reducible apply KOt.mk; kernel_rfl) | exact trivial | rfl | omega | ((try intro _); first | apply R64 <;> omega | apply room_of <;> omega) | skip)
    refine Ok.cond rfl ?_ ?_
    · intro hx
      ((first | refine Ok.seqF rfl rfl ?_ | refine Ok.seqT rfl rfl ?_ | refine Ok.regF rfl rfl ?_ | refine Ok.regT rfl rfl ?_); simp only [go_sem]; (repeat' with_reducible apply And.intro); all_goals first | (with_reducible first | refine OkW.mk ?_ | refine EndW.mk ?_ | apply AskI.id | apply AskGI.id) | (with_reducible apply KOt.mk; kernel_rfl) | exact trivial | rfl | omega | ((try intro _); first | apply R64 <;> omega | apply room_of <;> omega) | skip)
      (refine Ok.ret ?_; (try dsimp only [thenK, blockK, noGotoK]); simp only [toList_mk, List.toList_toArray, retK_ret, retK_normal, resOK, resV, celV, rowV, frzAll, frzT, subV, subL, go_sem])
      refine DEq.bool ?_
      have : (hiddenL L).any (fun j => (L.s.ks.getD j default).sure) = true := List.any_eq_true.2 ⟨_, getD_mem hi, hx⟩
      rw [may_eq, this]
      rfl
    · intro hx
      (refine Ok.skip ?_; (try dsimp only [thenK, blockK, noGotoK]))
      ((first | refine Ok.seqF rfl rfl ?_ | refine Ok.seqT rfl rfl ?_ | refine Ok.regF rfl rfl ?_ | refine Ok.regT rfl rfl ?_); simp only [go_sem]; (repeat' with_reducible apply And.intro); all_goals first | (with_reducible first | refine OkW.mk ?_ | refine EndW.mk ?_ | apply AskI.id | apply AskGI.id) | (with_reducible apply KOt.mk; kernel_rfl) | exact trivial | rfl | omega | ((try intro _); first | apply R64 <;> omega | apply room_of <;> omega) | skip)
      (try dsimp only [thenK, blockK, noGotoK])
      refine ⟨no_step (q := fun j => (L.s.ks.getD j default).sure) hi h0 hx, ?_⟩
      (refine Sub.of ([0, 1, 2]) ([]) ?_ ?_ ?_ rfl rfl <;> simp only [subB, subB1, subT, subT1, newT, subE, subV, subL, go_sem] <;> (try (repeat' with_reducible apply And.intro)) <;> (try first | exact DEq.refl _ | refine DEq.int ?_ | refine DEq.bool ?_ | omega))
  · intro h0
    have : (hiddenL L).any (fun j => (L.s.ks.getD j default).sure) = false := List.any_eq_false.2 (fun x hx => by
      show ¬ ((L.s.ks.getD x default).sure = true)
      rw [h0 x (by simpa using hx)]; simp)
    refine Ok.seq ?_; (((first | refine Ok.seqF rfl rfl ?_ | refine Ok.seqT rfl rfl ?_ | refine Ok.regF rfl rfl ?_ | refine Ok.regT rfl rfl ?_); simp only [go_sem]; (repeat' with_reducible apply And.intro); all_goals first | (with_reducible first | refine OkW.mk ?_ | refine EndW.mk ?_ | apply AskI.id | apply AskGI.id) | (with_reducible apply KOt.mk; kernel_rfl) | exact trivial | rfl | omega | ((try intro _); first | apply R64 <;> omega | apply room_of <;> omega) | skip)); refine Ok.cond rfl (fun hb => by simp at hb) (fun _ => ?_); (refine Ok.exit ?_; simp only [thenK_exit, blockK_exit, noGotoK_exit, thenK_normal, blockK_normal, noGotoK_normal, ↓reduceIte, Nat.reduceEqDiff])
    ((first | refine Ok.seqF rfl rfl ?_ | refine Ok.seqT rfl rfl ?_ | refine Ok.regF rfl rfl ?_ | refine Ok.regT rfl rfl ?_); simp only [go_sem]; (repeat' with_reducible apply And.intro); all_goals first | (with_reducible first | refine OkW.mk ?_ | refine EndW.mk ?_ | apply AskI.id | apply AskGI.id) | (with_reducible apply KOt.mk; kernel_rfl) | exact trivial | rfl | omega | ((try intro _); first | apply R64 <;> omega | apply room_of <;> omega) | skip)
    (refine AskI.ret (c124 L hL _ p0 p1) ?_; simp only [go_sem]; (repeat' with_reducible apply And.intro); all_goals first | (with_reducible first | refine OkW.mk ?_ | refine EndW.mk ?_ | apply AskI.id | apply AskGI.id) | (with_reducible apply KOt.mk; kernel_rfl) | exact trivial | rfl | omega | ((try intro _); first | apply R64 <;> omega | apply room_of <;> omega) | skip)
    (refine Ok.ret ?_; (try dsimp only [thenK, blockK, noGotoK]); simp only [toList_mk, List.toList_toArray, retK_ret, retK_normal, resOK, resV, celV, rowV, frzAll, frzT, subV, subL, go_sem])
    refine DEq.bool ?_
    simp only [may_eq, this, Bool.not_false, Bool.true_and]
theorem c88 (u v : Bool) : Ctr Tryz.prog 88 [bS u, bS v] (iS (word u v)) := by
  (refine Ctr.mk (fn := Tryz.f88) rfl rfl rfl rfl rfl Tryz.results88 ?_; dsimp only [args, List.toList_toArray])
  ((first | refine Ok.seqF rfl rfl ?_ | refine Ok.seqT rfl rfl ?_ | refine Ok.regF rfl rfl ?_ | refine Ok.regT rfl rfl ?_); simp only [go_sem]; (repeat' with_reducible apply And.intro); all_goals first | (with_reducible first | refine OkW.mk ?_ | refine EndW.mk ?_ | apply AskI.id | apply AskGI.id) | (with_reducible apply KOt.mk; kernel_rfl) | exact trivial | rfl | omega | ((try intro _); first | apply R64 <;> omega | apply room_of <;> omega) | skip)
  refine Ok.seq ?_
  ((first | refine Ok.seqF rfl rfl ?_ | refine Ok.seqT rfl rfl ?_ | refine Ok.regF rfl rfl ?_ | refine Ok.regT rfl rfl ?_); simp only [go_sem]; (repeat' with_reducible apply And.intro); all_goals first | (with_reducible first | refine OkW.mk ?_ | refine EndW.mk ?_ | apply AskI.id | apply AskGI.id) | (with_reducible apply KOt.mk; kernel_rfl) | exact trivial | rfl | omega | ((try intro _); first | apply R64 <;> omega | apply room_of <;> omega) | skip)
  refine Ok.cond rfl ?_ ?_
  · intro hu
    ((first | refine Ok.seqF rfl rfl ?_ | refine Ok.seqT rfl rfl ?_ | refine Ok.regF rfl rfl ?_ | refine Ok.regT rfl rfl ?_); simp only [go_sem]; (repeat' with_reducible apply And.intro); all_goals first | (with_reducible first | refine OkW.mk ?_ | refine EndW.mk ?_ | apply AskI.id | apply AskGI.id) | (with_reducible apply KOt.mk; kernel_rfl) | exact trivial | rfl | omega | ((try intro _); first | apply R64 <;> omega | apply room_of <;> omega) | skip)
    (refine Ok.ret ?_; (try dsimp only [thenK, blockK, noGotoK]); simp only [toList_mk, List.toList_toArray, retK_ret, retK_normal, resOK, resV, celV, rowV, frzAll, frzT, subV, subL, go_sem])
    simp only [word, hu, if_true]
    exact .refl _
  · intro hu
    (refine Ok.skip ?_; (try dsimp only [thenK, blockK, noGotoK]))
    refine Ok.seq ?_
    ((first | refine Ok.seqF rfl rfl ?_ | refine Ok.seqT rfl rfl ?_ | refine Ok.regF rfl rfl ?_ | refine Ok.regT rfl rfl ?_); simp only [go_sem]; (repeat' with_reducible apply And.intro); all_goals first | (with_reducible first | refine OkW.mk ?_ | refine EndW.mk ?_ | apply AskI.id | apply AskGI.id) | (with_reducible apply KOt.mk; kernel_rfl) | exact trivial | rfl | omega | ((try intro _); first | apply R64 <;> omega | apply room_of <;> omega) | skip)
    refine Ok.cond rfl ?_ ?_
    · intro hv
      ((first | refine Ok.seqF rfl rfl ?_ | refine Ok.seqT rfl rfl ?_ | refine Ok.regF rfl rfl ?_ | refine Ok.regT rfl rfl ?_); simp only [go_sem]; (repeat' with_reducible apply And.intro); all_goals first | (with_reducible first | refine OkW.mk ?_ | refine EndW.mk ?_ | apply AskI.id | apply AskGI.id) | (with_reducible apply KOt.mk; kernel_rfl) | exact trivial | rfl | omega | ((try intro _); first | apply R64 <;> omega | apply room_of <;> omega) | skip)
      (refine Ok.ret ?_; (try dsimp only [thenK, blockK, noGotoK]); simp only [toList_mk, List.toList_toArray, retK_ret, retK_normal, resOK, resV, celV, rowV, frzAll, frzT, subV, subL, go_sem])
      simp only [word, hu, hv, if_true]
      exact .refl _
    · intro hv
      (refine Ok.skip ?_; (try dsimp only [thenK, blockK, noGotoK]))
      ((first | refine Ok.seqF rfl rfl ?_ | refine Ok.seqT rfl rfl ?_ | refine Ok.regF rfl rfl ?_ | refine Ok.regT rfl rfl ?_); simp only [go_sem]; (repeat' with_reducible apply And.intro); all_goals first | (with_reducible first | refine OkW.mk ?_ | refine EndW.mk ?_ | apply AskI.id | apply AskGI.id) | (with_reducible apply KOt.mk; kernel_rfl) | exact trivial | rfl | omega | ((try intro _); first | apply R64 <;> omega | apply room_of <;> omega) | skip)
      (refine Ok.ret ?_; (try dsimp only [thenK, blockK, noGotoK]); simp only [toList_mk, List.toList_toArray, retK_ret, retK_normal, resOK, resV, celV, rowV, frzAll, frzT, subV, subL, go_sem])
      simp only [word, hu, hv]
      exact .refl _
theorem c62 (L : Look) (hL : L.good) (hc : ∀ k ∈ L.s.ks, k.cl ≤ k.ch) : Ctr Tryz.prog 62 [L.s.sv, L.b.sv, L.p.sv] (iS (word (surelyL L) (mayL L))) := by
  (refine Ctr.mk (fn := Tryz.f62) rfl rfl rfl rfl rfl Tryz.results62 ?_; dsimp only [args, List.toList_toArray])
  ((first | refine Ok.seqF rfl rfl ?_ | refine Ok.seqT rfl rfl ?_ | refine Ok.regF rfl rfl ?_ | refine Ok.regT rfl rfl ?_); simp only [go_sem]; (repeat' with_reducible apply And.intro); all_goals first | (with_reducible first | refine OkW.mk ?_ | refine EndW.mk ?_ | apply AskI.id | apply AskGI.id) | (with_reducible apply KOt.mk; kernel_rfl) | exact trivial | rfl | omega | ((try intro _); first | apply R64 <;> omega | apply room_of <;> omega) | skip)
  ((first | refine Ok.seqF rfl rfl ?_ | refine Ok.seqT rfl rfl ?_ | refine Ok.regF rfl rfl ?_ | refine Ok.regT rfl rfl ?_); simp only [go_sem]; (repeat' with_reducible apply And.intro); all_goals first | (with_reducible first | refine OkW.mk ?_ | refine EndW.mk ?_ | apply AskI.id | apply AskGI.id) | (with_reducible apply KOt.mk; kernel_rfl) | exact trivial | rfl | omega | ((try intro _); first | apply R64 <;> omega | apply room_of <;> omega) | skip)
  (refine AskI.ret (c98 L hL hc) ?_; simp only [go_sem]; (repeat' with_reducible apply And.intro); all_goals first | (with_reducible first | refine OkW.mk ?_ | refine EndW.mk ?_ | apply AskI.id | apply AskGI.id) | (with_reducible apply KOt.mk; kernel_rfl) | exact trivial | rfl | omega | ((try intro _); first | apply R64 <;> omega | apply room_of <;> omega) | skip)
  (refine AskI.ret (c103 L hL hc) ?_; simp only [go_sem]; (repeat' with_reducible apply And.intro); all_goals first | (with_reducible first | refine OkW.mk ?_ | refine EndW.mk ?_ | apply AskI.id | apply AskGI.id) | (with_reducible apply KOt.mk; kernel_rfl) | exact trivial | rfl | omega | ((try intro _); first | apply R64 <;> omega | apply room_of <;> omega) | skip)
  (refine AskI.ret (c88 _ _) ?_; simp only [go_sem]; (repeat' with_reducible apply And.intro); all_goals first | (with_reducible first | refine OkW.mk ?_ | refine EndW.mk ?_ | apply AskI.id | apply AskGI.id) | (with_reducible apply KOt.mk; kernel_rfl) | exact trivial | rfl | omega | ((try intro _); first | apply R64 <;> omega | apply room_of <;> omega) | skip)
  (refine Ok.ret ?_; (try dsimp only [thenK, blockK, noGotoK]); simp only [toList_mk, List.toList_toArray, retK_ret, retK_normal, resOK, resV, celV, rowV, frzAll, frzT, subV, subL, go_sem])
  exact .refl _
end Go.Proofs.Sight
namespace Go.Proofs.Sight
open Go Go.RX Go.Proofs
set_option maxRecDepth 10000
theorem ints_D (ys : List Int) : DEq (.sl 1 ys.length (fun i j => dget (ys.map iD) (i * 1 + j))) (slD 1 intD ys) :=
  DEq.sl rfl (fun i j hi hj => .of_eq (by
    have : j = 0 := by omega
    subst this
    show (ys.map iD).getD (i * 1 + 0) .nilI = iD (ys.getD i default)
    simp only [Nat.mul_one, Nat.add_zero, List.getD_eq_getElem?_getD, List.getElem?_map, List.getElem?_eq_getElem hi]
    rfl))
theorem nats_D (l : List Nat) : DEq (slD 1 natD l) (slD 1 intD (l.map Int.ofNat)) :=
  DEq.sl (by simp) (fun i j hi hj => .of_eq (by
    have : j = 0 := by omega
    subst this
    show iD ((l.getD i default : Nat) : Int) = iD ((l.map Int.ofNat).getD i default)
    simp only [List.getD_eq_getElem?_getD, List.getElem?_map, List.getElem?_eq_getElem hi]
    rfl))
theorem c37 (a b : List Int) (ha : a.length < 1000000) (hb' : b.length < 1000000) : Ctr Tryz.prog 37 [.d (slD 1 intD a), .d (slD 1 intD b)] (bS (a == b)) := by
  (refine Ctr.mk (fn := Tryz.f37) rfl rfl rfl rfl rfl Tryz.results37 ?_; dsimp only [args, List.toList_toArray])
  ((first | refine Ok.seqF rfl rfl ?_ | refine Ok.seqT rfl rfl ?_ | refine Ok.regF rfl rfl ?_ | refine Ok.regT rfl rfl ?_); simp only [go_sem]; (repeat' with_reducible apply And.intro); all_goals first | (with_reducible first | refine OkW.mk ?_ | refine EndW.mk ?_ | apply AskI.id | apply AskGI.id) | (with_reducible apply KOt.mk; kernel_rfl) | exact trivial | rfl | omega | ((try intro _); first | apply R64 <;> omega | apply room_of <;> omega) | skip)
  refine Ok.seq ?_
  ((first | refine Ok.seqF rfl rfl ?_ | refine Ok.seqT rfl rfl ?_ | refine Ok.regF rfl rfl ?_ | refine Ok.regT rfl rfl ?_); simp only [go_sem]; (repeat' with_reducible apply And.intro); all_goals first | (with_reducible first | refine OkW.mk ?_ | refine EndW.mk ?_ | apply AskI.id | apply AskGI.id) | (with_reducible apply KOt.mk; kernel_rfl) | exact trivial | rfl | omega | ((try intro _); first | apply R64 <;> omega | apply room_of <;> omega) | skip)
  refine Ok.cond rfl ?_ ?_
  · intro hb
    have hF : (a == b) = false := by
      rw [beq_eq_false_iff_ne]
      intro h
      rw [h] at hb
      simp at hb
    ((first | refine Ok.seqF rfl rfl ?_ | refine Ok.seqT rfl rfl ?_ | refine Ok.regF rfl rfl ?_ | refine Ok.regT rfl rfl ?_); simp only [go_sem]; (repeat' with_reducible apply And.intro); all_goals first | (with_reducible first | refine OkW.mk ?_ | refine EndW.mk ?_ | apply AskI.id | apply AskGI.id) | (with_reducible apply KOt.mk; kernel_rfl) | exact trivial | rfl | omega | ((try intro _); first | apply R64 <;> omega | apply room_of <;> omega) | skip)
    (refine Ok.ret ?_; (try dsimp only [thenK, blockK, noGotoK]); simp only [toList_mk, List.toList_toArray, retK_ret, retK_normal, resOK, resV, celV, rowV, frzAll, frzT, subV, subL, go_sem])
    rw [hF]
    exact .refl _
  intro hb
  have hlen : a.length = b.length := by simp at hb; omega
  (refine Ok.skip ?_; (try dsimp only [thenK, blockK, noGotoK]))
  refine Ok.seq ?_
  ((first | refine Ok.seqF rfl rfl ?_ | refine Ok.seqT rfl rfl ?_ | refine Ok.regF rfl rfl ?_ | refine Ok.regT rfl rfl ?_); simp only [go_sem]; (repeat' with_reducible apply And.intro); all_goals first | (with_reducible first | refine OkW.mk ?_ | refine EndW.mk ?_ | apply AskI.id | apply AskGI.id) | (with_reducible apply KOt.mk; kernel_rfl) | exact trivial | rfl | omega | ((try intro _); first | apply R64 <;> omega | apply room_of <;> omega) | skip)
  refine Ok.block ?_
  refine Ok.count a.length (fun i => ⟨[(0, .d (slD 1 intD a)), (1, .d (slD 1 intD b)), (5, iS i)], [], []⟩) (fun i => ∀ j, j < i → a.getD j default = b.getD j default) ⟨fun j hj => by omega, ?_⟩ ?_ ?_
  · (refine Sub.of ([]) ([]) ?_ ?_ ?_ rfl rfl <;> simp only [subB, subB1, subT, subT1, newT, subE, subV, subL, go_sem] <;> (try (repeat' with_reducible apply And.intro)) <;> (try first | exact DEq.refl _ | refine DEq.int ?_ | refine DEq.bool ?_ | omega))
  · intro i hi hJ
    refine Ok.seq ?_; (((first | refine Ok.seqF rfl rfl ?_ | refine Ok.seqT rfl rfl ?_ | refine Ok.regF rfl rfl ?_ | refine Ok.regT rfl rfl ?_); simp only [go_sem]; (repeat' with_reducible apply And.intro); all_goals first | (with_reducible first | refine OkW.mk ?_ | refine EndW.mk ?_ | apply AskI.id | apply AskGI.id) | (with_reducible apply KOt.mk; kernel_rfl) | exact trivial | rfl | omega | ((try intro _); first | apply R64 <;> omega | apply room_of <;> omega) | skip)); refine Ok.cond rfl (fun _ => ?_) (fun hb => by simp at hb; omega); (refine Ok.skip ?_; (try dsimp only [thenK, blockK, noGotoK])); refine Ok.seq ?_; refine Ok.block ?_
    ((first | refine Ok.seqF rfl rfl ?_ | refine Ok.seqT rfl rfl ?_ | refine Ok.regF rfl rfl ?_ | refine Ok.regT rfl rfl ?_); simp only [go_sem]; (repeat' with_reducible apply And.intro); all_goals first | (with_reducible first | refine OkW.mk ?_ | refine EndW.mk ?_ | apply AskI.id | apply AskGI.id) | (with_reducible apply KOt.mk; kernel_rfl) | exact trivial | rfl | omega | ((try intro _); first | apply R64 <;> omega | apply room_of <;> omega) | skip)
    refine Ok.cond rfl ?_ ?_
    · intro hx
      have hne : a.getD i default ≠ b.getD i default := by simpa using hx
      have hF : (a == b) = false := by
        rw [beq_eq_false_iff_ne]
        intro h
        rw [h] at hne
        exact hne rfl
      ((first | refine Ok.seqF rfl rfl ?_ | refine Ok.seqT rfl rfl ?_ | refine Ok.regF rfl rfl ?_ | refine Ok.regT rfl rfl ?_); simp only [go_sem]; (repeat' with_reducible apply And.intro); all_goals first | (with_reducible first | refine OkW.mk ?_ | refine EndW.mk ?_ | apply AskI.id | apply AskGI.id) | (with_reducible apply KOt.mk; kernel_rfl) | exact trivial | rfl | omega | ((try intro _); first | apply R64 <;> omega | apply room_of <;> omega) | skip)
      (refine Ok.ret ?_; (try dsimp only [thenK, blockK, noGotoK]); simp only [toList_mk, List.toList_toArray, retK_ret, retK_normal, resOK, resV, celV, rowV, frzAll, frzT, subV, subL, go_sem])
      rw [hF]
      exact .refl _
    · intro hx
      have he : a.getD i default = b.getD i default := by simpa using hx
      (refine Ok.skip ?_; (try dsimp only [thenK, blockK, noGotoK]))
      ((first | refine Ok.seqF rfl rfl ?_ | refine Ok.seqT rfl rfl ?_ | refine Ok.regF rfl rfl ?_ | refine Ok.regT rfl rfl ?_); simp only [go_sem]; (repeat' with_reducible apply And.intro); all_goals first | (with_reducible first | refine OkW.mk ?_ | refine EndW.mk ?_ | apply AskI.id | apply AskGI.id) | (with_reducible apply KOt.mk; kernel_rfl) | exact trivial | rfl | omega | ((try intro _); first | apply R64 <;> omega | apply room_of <;> omega) | skip)
      (try dsimp only [thenK, blockK, noGotoK])
      refine ⟨fun j hj => ?_, ?_⟩
      · by_cases e : j = i
        · subst e; exact he
        · exact hJ j (by omega)
      (refine Sub.of ([]) ([]) ?_ ?_ ?_ rfl rfl <;> simp only [subB, subB1, subT, subT1, newT, subE, subV, subL, go_sem] <;> (try (repeat' with_reducible apply And.intro)) <;> (try first | exact DEq.refl _ | refine DEq.int ?_ | refine DEq.bool ?_ | omega))
  · intro hJ
    have hT : (a == b) = true := by
      rw [beq_iff_eq]
      refine List.ext_getElem hlen (fun j h1 h2 => ?_)
      have := hJ j h1
      rwa [getD_lt h1, getD_lt h2] at this
    refine Ok.seq ?_; (((first | refine Ok.seqF rfl rfl ?_ | refine Ok.seqT rfl rfl ?_ | refine Ok.regF rfl rfl ?_ | refine Ok.regT rfl rfl ?_); simp only [go_sem]; (repeat' with_reducible apply And.intro); all_goals first | (with_reducible first | refine OkW.mk ?_ | refine EndW.mk ?_ | apply AskI.id | apply AskGI.id) | (with_reducible apply KOt.mk; kernel_rfl) | exact trivial | rfl | omega | ((try intro _); first | apply R64 <;> omega | apply room_of <;> omega) | skip)); refine Ok.cond rfl (fun hb => by simp at hb) (fun _ => ?_); (refine Ok.exit ?_; simp only [thenK_exit, blockK_exit, noGotoK_exit, thenK_normal, blockK_normal, noGotoK_normal, ↓reduceIte, Nat.reduceEqDiff])
    ((first | refine Ok.seqF rfl rfl ?_ | refine Ok.seqT rfl rfl ?_ | refine Ok.regF rfl rfl ?_ | refine Ok.regT rfl rfl ?_); simp only [go_sem]; (repeat' with_reducible apply And.intro); all_goals first | (with_reducible first | refine OkW.mk ?_ | refine EndW.mk ?_ | apply AskI.id | apply AskGI.id) | (with_reducible apply KOt.mk; kernel_rfl) | exact trivial | rfl | omega | ((try intro _); first | apply R64 <;> omega | apply room_of <;> omega) | skip)
    (refine Ok.ret ?_; (try dsimp only [thenK, blockK, noGotoK]); simp only [toList_mk, List.toList_toArray, retK_ret, retK_normal, resOK, resV, celV, rowV, frzAll, frzT, subV, subL, go_sem])
    rw [hT]
    exact .refl _
theorem c40 (a b : List Int) (ha : a.length < 1000000) (hb' : b.length < 1000000) : Ctr Tryz.prog 40 [.d (slD 1 intD a), .d (slD 1 intD b)] (bS (a == b)) := by
  (refine Ctr.mk (fn := Tryz.f40) rfl rfl rfl rfl rfl Tryz.results40 ?_; dsimp only [args, List.toList_toArray])
  ((first | refine Ok.seqF rfl rfl ?_ | refine Ok.seqT rfl rfl ?_ | refine Ok.regF rfl rfl ?_ | refine Ok.regT rfl rfl ?_); simp only [go_sem]; (repeat' with_reducible apply And.intro); all_goals first | (with_reducible first | refine OkW.mk ?_ | refine EndW.mk ?_ | apply AskI.id | apply AskGI.id) | (with_reducible apply KOt.mk; kernel_rfl) | exact trivial | rfl | omega | ((try intro _); first | apply R64 <;> omega | apply room_of <;> omega) | skip)
  refine Ok.seq ?_
  ((first | refine Ok.seqF rfl rfl ?_ | refine Ok.seqT rfl rfl ?_ | refine Ok.regF rfl rfl ?_ | refine Ok.regT rfl rfl ?_); simp only [go_sem]; (repeat' with_reducible apply And.intro); all_goals first | (with_reducible first | refine OkW.mk ?_ | refine EndW.mk ?_ | apply AskI.id | apply AskGI.id) | (with_reducible apply KOt.mk; kernel_rfl) | exact trivial | rfl | omega | ((try intro _); first | apply R64 <;> omega | apply room_of <;> omega) | skip)
  refine Ok.cond rfl ?_ ?_
  · intro hb
    have hF : (a == b) = false := by
      rw [beq_eq_false_iff_ne]
      intro h
      rw [h] at hb
      simp at hb
    ((first | refine Ok.seqF rfl rfl ?_ | refine Ok.seqT rfl rfl ?_ | refine Ok.regF rfl rfl ?_ | refine Ok.regT rfl rfl ?_); simp only [go_sem]; (repeat' with_reducible apply And.intro); all_goals first | (with_reducible first | refine OkW.mk ?_ | refine EndW.mk ?_ | apply AskI.id | apply AskGI.id) | (with_reducible apply KOt.mk; kernel_rfl) | exact trivial | rfl | omega | ((try intro _); first | apply R64 <;> omega | apply room_of <;> omega) | skip)
    (refine Ok.ret ?_; (try dsimp only [thenK, blockK, noGotoK]); simp only [toList_mk, List.toList_toArray, retK_ret, retK_normal, resOK, resV, celV, rowV, frzAll, frzT, subV, subL, go_sem])
    rw [hF]
    exact .refl _
  intro hb
  have hlen : a.length = b.length := by simp at hb; omega
  (refine Ok.skip ?_; (try dsimp only [thenK, blockK, noGotoK]))
  refine Ok.seq ?_
  ((first | refine Ok.seqF rfl rfl ?_ | refine Ok.seqT rfl rfl ?_ | refine Ok.regF rfl rfl ?_ | refine Ok.regT rfl rfl ?_); simp only [go_sem]; (repeat' with_reducible apply And.intro); all_goals first | (with_reducible first | refine OkW.mk ?_ | refine EndW.mk ?_ | apply AskI.id | apply AskGI.id) | (with_reducible apply KOt.mk; kernel_rfl) | exact trivial | rfl | omega | ((try intro _); first | apply R64 <;> omega | apply room_of <;> omega) | skip)
  refine Ok.block ?_
  refine Ok.count a.length (fun i => ⟨[(0, .d (slD 1 intD a)), (1, .d (slD 1 intD b)), (5, iS i)], [], []⟩) (fun i => ∀ j, j < i → a.getD j default = b.getD j default) ⟨fun j hj => by omega, ?_⟩ ?_ ?_
  · (refine Sub.of ([]) ([]) ?_ ?_ ?_ rfl rfl <;> simp only [subB, subB1, subT, subT1, newT, subE, subV, subL, go_sem] <;> (try (repeat' with_reducible apply And.intro)) <;> (try first | exact DEq.refl _ | refine DEq.int ?_ | refine DEq.bool ?_ | omega))
  · intro i hi hJ
    refine Ok.seq ?_; (((first | refine Ok.seqF rfl rfl ?_ | refine Ok.seqT rfl rfl ?_ | refine Ok.regF rfl rfl ?_ | refine Ok.regT rfl rfl ?_); simp only [go_sem]; (repeat' with_reducible apply And.intro); all_goals first | (with_reducible first | refine OkW.mk ?_ | refine EndW.mk ?_ | apply AskI.id | apply AskGI.id) | (with_reducible apply KOt.mk; kernel_rfl) | exact trivial | rfl | omega | ((try intro _); first | apply R64 <;> omega | apply room_of <;> omega) | skip)); refine Ok.cond rfl (fun _ => ?_) (fun hb => by simp at hb; omega); (refine Ok.skip ?_; (try dsimp only [thenK, blockK, noGotoK])); refine Ok.seq ?_; refine Ok.block ?_
    ((first | refine Ok.seqF rfl rfl ?_ | refine Ok.seqT rfl rfl ?_ | refine Ok.regF rfl rfl ?_ | refine Ok.regT rfl rfl ?_); simp only [go_sem]; (repeat' with_reducible apply And.intro); all_goals first | (with_reducible first | refine OkW.mk ?_ | refine EndW.mk ?_ | apply AskI.id | apply AskGI.id) | (with_reducible apply KOt.mk; kernel_rfl) | exact trivial | rfl | omega | ((try intro _); first | apply R64 <;> omega | apply room_of <;> omega) | skip)
    refine Ok.cond rfl ?_ ?_
    · intro hx
      have hne : a.getD i default ≠ b.getD i default := by simpa using hx
      have hF : (a == b) = false := by
        rw [beq_eq_false_iff_ne]
        intro h
        rw [h] at hne
        exact hne rfl
      ((first | refine Ok.seqF rfl rfl ?_ | refine Ok.seqT rfl rfl ?_ | refine Ok.regF rfl rfl ?_ | refine Ok.regT rfl rfl ?_); simp only [go_sem]; (repeat' with_reducible apply And.intro); all_goals first | (with_reducible first | refine OkW.mk ?_ | refine EndW.mk ?_ | apply AskI.id | apply AskGI.id) | (with_reducible apply KOt.mk; kernel_rfl) | exact trivial | rfl | omega | ((try intro _); first | apply R64 <;> omega | apply room_of <;> omega) | skip)
      (refine Ok.ret ?_; (try dsimp only [thenK, blockK, noGotoK]); simp only [toList_mk, List.toList_toArray, retK_ret, retK_normal, resOK, resV, celV, rowV, frzAll, frzT, subV, subL, go_sem])
      rw [hF]
      exact .refl _
    · intro hx
      have he : a.getD i default = b.getD i default := by simpa using hx
      (refine Ok.skip ?_; (try dsimp only [thenK, blockK, noGotoK]))
      ((first | refine Ok.seqF rfl rfl ?_ | refine Ok.seqT rfl rfl ?_ | refine Ok.regF rfl rfl ?_ | refine Ok.regT rfl rfl ?_); simp only [go_sem]; (repeat' with_reducible apply And.intro); all_goals first | (with_reducible first | refine OkW.mk ?_ | refine EndW.mk ?_ | apply AskI.id | apply AskGI.id) | (with_reducible apply KOt.mk; kernel_rfl) | exact trivial | rfl | omega | ((try intro _); first | apply R64 <;> omega | apply room_of <;> omega) | skip)
      (try dsimp only [thenK, blockK, noGotoK])
      refine ⟨fun j hj => ?_, ?_⟩
      · by_cases e : j = i
        · subst e; exact he
        · exact hJ j (by omega)
      (refine Sub.of ([]) ([]) ?_ ?_ ?_ rfl rfl <;> simp only [subB, subB1, subT, subT1, newT, subE, subV, subL, go_sem] <;> (try (repeat' with_reducible apply And.intro)) <;> (try first | exact DEq.refl _ | refine DEq.int ?_ | refine DEq.bool ?_ | omega))
  · intro hJ
    have hT : (a == b) = true := by
      rw [beq_iff_eq]
      refine List.ext_getElem hlen (fun j h1 h2 => ?_)
      have := hJ j h1
      rwa [getD_lt h1, getD_lt h2] at this
    refine Ok.seq ?_; (((first | refine Ok.seqF rfl rfl ?_ | refine Ok.seqT rfl rfl ?_ | refine Ok.regF rfl rfl ?_ | refine Ok.regT rfl rfl ?_); simp only [go_sem]; (repeat' with_reducible apply And.intro); all_goals first | (with_reducible first | refine OkW.mk ?_ | refine EndW.mk ?_ | apply AskI.id | apply AskGI.id) | (with_reducible apply KOt.mk; kernel_rfl) | exact trivial | rfl | omega | ((try intro _); first | apply R64 <;> omega | apply room_of <;> omega) | skip)); refine Ok.cond rfl (fun hb => by simp at hb) (fun _ => ?_); (refine Ok.exit ?_; simp only [thenK_exit, blockK_exit, noGotoK_exit, thenK_normal, blockK_normal, noGotoK_normal, ↓reduceIte, Nat.reduceEqDiff])
    ((first | refine Ok.seqF rfl rfl ?_ | refine Ok.seqT rfl rfl ?_ | refine Ok.regF rfl rfl ?_ | refine Ok.regT rfl rfl ?_); simp only [go_sem]; (repeat' with_reducible apply And.intro); all_goals first | (with_reducible first | refine OkW.mk ?_ | refine EndW.mk ?_ | apply AskI.id | apply AskGI.id) | (with_reducible apply KOt.mk; kernel_rfl) | exact trivial | rfl | omega | ((try intro _); first | apply R64 <;> omega | apply room_of <;> omega) | skip)
    (refine Ok.ret ?_; (try dsimp only [thenK, blockK, noGotoK]); simp only [toList_mk, List.toList_toArray, retK_ret, retK_normal, resOK, resV, celV, rowV, frzAll, frzT, subV, subL, go_sem])
    rw [hT]
    exact .refl _
theorem c58 (l h : Int) : Ctr Tryz.prog 58 [iS l, iS h] (.agg [iS l, iS h]) := by
  (refine Ctr.mk (fn := Tryz.f58) rfl rfl rfl rfl rfl Tryz.results58 ?_; dsimp only [args, List.toList_toArray])
  ((first | refine Ok.seqF rfl rfl ?_ | refine Ok.seqT rfl rfl ?_ | refine Ok.regF rfl rfl ?_ | refine Ok.regT rfl rfl ?_); simp only [go_sem]; (repeat' with_reducible apply And.intro); all_goals first | (with_reducible first | refine OkW.mk ?_ | refine EndW.mk ?_ | apply AskI.id | apply AskGI.id) | (with_reducible apply KOt.mk; kernel_rfl) | exact trivial | rfl | omega | ((try intro _); first | apply R64 <;> omega | apply room_of <;> omega) | skip)
  ((first | refine Ok.seqF rfl rfl ?_ | refine Ok.seqT rfl rfl ?_ | refine Ok.regF rfl rfl ?_ | refine Ok.regT rfl rfl ?_); simp only [go_sem]; (repeat' with_reducible apply And.intro); all_goals first | (with_reducible first | refine OkW.mk ?_ | refine EndW.mk ?_ | apply AskI.id | apply AskGI.id) | (with_reducible apply KOt.mk; kernel_rfl) | exact trivial | rfl | omega | ((try intro _); first | apply R64 <;> omega | apply room_of <;> omega) | skip)
  (refine Ok.ret ?_; (try dsimp only [thenK, blockK, noGotoK]); simp only [toList_mk, List.toList_toArray, retK_ret, retK_normal, resOK, resV, celV, rowV, frzAll, frzT, subV, subL, go_sem])
  ((repeat' with_reducible apply And.intro) <;> (first | exact DEq.refl _ | refine DEq.int ?_ | refine DEq.bool ?_ | skip))
theorem c60 (l h : Int) : Ctr Tryz.prog 60 [iS l, iS h] (.agg [iS l, iS h]) := by
  (refine Ctr.mk (fn := Tryz.f60) rfl rfl rfl rfl rfl Tryz.results60 ?_; dsimp only [args, List.toList_toArray])
  ((first | refine Ok.seqF rfl rfl ?_ | refine Ok.seqT rfl rfl ?_ | refine Ok.regF rfl rfl ?_ | refine Ok.regT rfl rfl ?_); simp only [go_sem]; (repeat' with_reducible apply And.intro); all_goals first | (with_reducible first | refine OkW.mk ?_ | refine EndW.mk ?_ | apply AskI.id | apply AskGI.id) | (with_reducible apply KOt.mk; kernel_rfl) | exact trivial | rfl | omega | ((try intro _); first | apply R64 <;> omega | apply room_of <;> omega) | skip)
  ((first | refine Ok.seqF rfl rfl ?_ | refine Ok.seqT rfl rfl ?_ | refine Ok.regF rfl rfl ?_ | refine Ok.regT rfl rfl ?_); simp only [go_sem]; (repeat' with_reducible apply And.intro); all_goals first | (with_reducible first | refine OkW.mk ?_ | refine EndW.mk ?_ | apply AskI.id | apply AskGI.id) | (with_reducible apply KOt.mk; kernel_rfl) | exact trivial | rfl | omega | ((try intro _); first | apply R64 <;> omega | apply room_of <;> omega) | skip)
  (refine Ok.ret ?_; (try dsimp only [thenK, blockK, noGotoK]); simp only [toList_mk, List.toList_toArray, retK_ret, retK_normal, resOK, resV, celV, rowV, frzAll, frzT, subV, subL, go_sem])
  ((repeat' with_reducible apply And.intro) <;> (first | exact DEq.refl _ | refine DEq.int ?_ | refine DEq.bool ?_ | skip))
theorem c27 (w : Int) : Ctr Tryz.prog 27 [iS w] (bS (inR w 1 3)) := by
  (refine Ctr.mk (fn := Tryz.f27) rfl rfl rfl rfl rfl Tryz.results27 ?_; dsimp only [args, List.toList_toArray])
  ((first | refine Ok.seqF rfl rfl ?_ | refine Ok.seqT rfl rfl ?_ | refine Ok.regF rfl rfl ?_ | refine Ok.regT rfl rfl ?_); simp only [go_sem]; (repeat' with_reducible apply And.intro); all_goals first | (with_reducible first | refine OkW.mk ?_ | refine EndW.mk ?_ | apply AskI.id | apply AskGI.id) | (with_reducible apply KOt.mk; kernel_rfl) | exact trivial | rfl | omega | ((try intro _); first | apply R64 <;> omega | apply room_of <;> omega) | skip)
  ((first | refine Ok.seqF rfl rfl ?_ | refine Ok.seqT rfl rfl ?_ | refine Ok.regF rfl rfl ?_ | refine Ok.regT rfl rfl ?_); simp only [go_sem]; (repeat' with_reducible apply And.intro); all_goals first | (with_reducible first | refine OkW.mk ?_ | refine EndW.mk ?_ | apply AskI.id | apply AskGI.id) | (with_reducible apply KOt.mk; kernel_rfl) | exact trivial | rfl | omega | ((try intro _); first | apply R64 <;> omega | apply room_of <;> omega) | skip)
  (refine Ok.ret ?_; (try dsimp only [thenK, blockK, noGotoK]); simp only [toList_mk, List.toList_toArray, retK_ret, retK_normal, resOK, resV, celV, rowV, frzAll, frzT, subV, subL, go_sem])
  exact .refl _
def Street.eyed (s : Street) (eye light : Int) : Street := { s with el := eye, eh := eye, ll := light, lh := light }
theorem c26 (s : Street) (eye light : Int) : Ctr Tryz.prog 26 [s.sv, iS eye, iS light] (s.eyed eye light).sv := by
  (refine Ctr.mk (fn := Tryz.f26) rfl rfl rfl rfl rfl Tryz.results26 ?_; dsimp only [args, List.toList_toArray])
  ((first | refine Ok.seqF rfl rfl ?_ | refine Ok.seqT rfl rfl ?_ | refine Ok.regF rfl rfl ?_ | refine Ok.regT rfl rfl ?_); simp only [go_sem]; (repeat' with_reducible apply And.intro); all_goals first | (with_reducible first | refine OkW.mk ?_ | refine EndW.mk ?_ | apply AskI.id | apply AskGI.id) | (with_reducible apply KOt.mk; kernel_rfl) | exact trivial | rfl | omega | ((try intro _); first | apply R64 <;> omega | apply room_of <;> omega) | skip)
  ((first | refine Ok.seqF rfl rfl ?_ | refine Ok.seqT rfl rfl ?_ | refine Ok.regF rfl rfl ?_ | refine Ok.regT rfl rfl ?_); simp only [go_sem]; (repeat' with_reducible apply And.intro); all_goals first | (with_reducible first | refine OkW.mk ?_ | refine EndW.mk ?_ | apply AskI.id | apply AskGI.id) | (with_reducible apply KOt.mk; kernel_rfl) | exact trivial | rfl | omega | ((try intro _); first | apply R64 <;> omega | apply room_of <;> omega) | skip)
  (refine AskI.ret (c58 _ _) ?_; simp only [go_sem]; (repeat' with_reducible apply And.intro); all_goals first | (with_reducible first | refine OkW.mk ?_ | refine EndW.mk ?_ | apply AskI.id | apply AskGI.id) | (with_reducible apply KOt.mk; kernel_rfl) | exact trivial | rfl | omega | ((try intro _); first | apply R64 <;> omega | apply room_of <;> omega) | skip)
  (refine AskI.ret (c58 _ _) ?_; simp only [go_sem]; (repeat' with_reducible apply And.intro); all_goals first | (with_reducible first | refine OkW.mk ?_ | refine EndW.mk ?_ | apply AskI.id | apply AskGI.id) | (with_reducible apply KOt.mk; kernel_rfl) | exact trivial | rfl | omega | ((try intro _); first | apply R64 <;> omega | apply room_of <;> omega) | skip)
  ((first | refine Ok.seqF rfl rfl ?_ | refine Ok.seqT rfl rfl ?_ | refine Ok.regF rfl rfl ?_ | refine Ok.regT rfl rfl ?_); simp only [go_sem]; (repeat' with_reducible apply And.intro); all_goals first | (with_reducible first | refine OkW.mk ?_ | refine EndW.mk ?_ | apply AskI.id | apply AskGI.id) | (with_reducible apply KOt.mk; kernel_rfl) | exact trivial | rfl | omega | ((try intro _); first | apply R64 <;> omega | apply room_of <;> omega) | skip)
  (refine Ok.ret ?_; (try dsimp only [thenK, blockK, noGotoK]); simp only [toList_mk, List.toList_toArray, retK_ret, retK_normal, resOK, resV, celV, rowV, frzAll, frzT, subV, subL, go_sem])
  ((repeat' with_reducible apply And.intro) <;> (first | exact DEq.refl _ | refine DEq.int ?_ | refine DEq.bool ?_ | skip))
def exS : Street := ⟨20, 6, 4, 6, 50, 100, [⟨10, [⟨6, 4, 1, 1⟩, ⟨8, 5, 2, 0⟩]⟩, ⟨0, [⟨10, 10, 2, 0⟩]⟩], [⟨12, 13, 2, 3, true⟩, ⟨5, 6, 4, 5, false⟩]⟩
def exT : Street := ⟨4, 2, 1, 1, 100, 100, [⟨0, [⟨3, 2, 1, 0⟩]⟩], []⟩
theorem c70 : Ctr Tryz.prog 70 [] exS.sv := by
  (refine Ctr.mk (fn := Tryz.f70) rfl rfl rfl rfl rfl Tryz.results70 ?_; dsimp only [args, List.toList_toArray])
  ((first | refine Ok.seqF rfl rfl ?_ | refine Ok.seqT rfl rfl ?_ | refine Ok.regF rfl rfl ?_ | refine Ok.regT rfl rfl ?_); simp only [go_sem]; (repeat' with_reducible apply And.intro); all_goals first | (with_reducible first | refine OkW.mk ?_ | refine EndW.mk ?_ | apply AskI.id | apply AskGI.id) | (with_reducible apply KOt.mk; kernel_rfl) | exact trivial | rfl | omega | ((try intro _); first | apply R64 <;> omega | apply room_of <;> omega) | skip)
  ((first | refine Ok.seqF rfl rfl ?_ | refine Ok.seqT rfl rfl ?_ | refine Ok.regF rfl rfl ?_ | refine Ok.regT rfl rfl ?_); simp only [go_sem]; (repeat' with_reducible apply And.intro); all_goals first | (with_reducible first | refine OkW.mk ?_ | refine EndW.mk ?_ | apply AskI.id | apply AskGI.id) | (with_reducible apply KOt.mk; kernel_rfl) | exact trivial | rfl | omega | ((try intro _); first | apply R64 <;> omega | apply room_of <;> omega) | skip)
  (refine AskI.ret (c58 _ _) ?_; simp only [go_sem]; (repeat' with_reducible apply And.intro); all_goals first | (with_reducible first | refine OkW.mk ?_ | refine EndW.mk ?_ | apply AskI.id | apply AskGI.id) | (with_reducible apply KOt.mk; kernel_rfl) | exact trivial | rfl | omega | ((try intro _); first | apply R64 <;> omega | apply room_of <;> omega) | skip)
  (refine AskI.ret (c58 _ _) ?_; simp only [go_sem]; (repeat' with_reducible apply And.intro); all_goals first | (with_reducible first | refine OkW.mk ?_ | refine EndW.mk ?_ | apply AskI.id | apply AskGI.id) | (with_reducible apply KOt.mk; kernel_rfl) | exact trivial | rfl | omega | ((try intro _); first | apply R64 <;> omega | apply room_of <;> omega) | skip)
  (refine AskI.ret (c58 _ _) ?_; simp only [go_sem]; (repeat' with_reducible apply And.intro); all_goals first | (with_reducible first | refine OkW.mk ?_ | refine EndW.mk ?_ | apply AskI.id | apply AskGI.id) | (with_reducible apply KOt.mk; kernel_rfl) | exact trivial | rfl | omega | ((try intro _); first | apply R64 <;> omega | apply room_of <;> omega) | skip)
  (refine AskI.ret (c58 _ _) ?_; simp only [go_sem]; (repeat' with_reducible apply And.intro); all_goals first | (with_reducible first | refine OkW.mk ?_ | refine EndW.mk ?_ | apply AskI.id | apply AskGI.id) | (with_reducible apply KOt.mk; kernel_rfl) | exact trivial | rfl | omega | ((try intro _); first | apply R64 <;> omega | apply room_of <;> omega) | skip)
  (refine AskI.ret (c58 _ _) ?_; simp only [go_sem]; (repeat' with_reducible apply And.intro); all_goals first | (with_reducible first | refine OkW.mk ?_ | refine EndW.mk ?_ | apply AskI.id | apply AskGI.id) | (with_reducible apply KOt.mk; kernel_rfl) | exact trivial | rfl | omega | ((try intro _); first | apply R64 <;> omega | apply room_of <;> omega) | skip)
  (refine AskI.ret (c58 _ _) ?_; simp only [go_sem]; (repeat' with_reducible apply And.intro); all_goals first | (with_reducible first | refine OkW.mk ?_ | refine EndW.mk ?_ | apply AskI.id | apply AskGI.id) | (with_reducible apply KOt.mk; kernel_rfl) | exact trivial | rfl | omega | ((try intro _); first | apply R64 <;> omega | apply room_of <;> omega) | skip)
  (refine Ok.ret ?_; (try dsimp only [thenK, blockK, noGotoK]); simp only [toList_mk, List.toList_toArray, retK_ret, retK_normal, resOK, resV, celV, rowV, frzAll, frzT, subV, subL, go_sem])
  refine ⟨.refl _, .refl _, .refl _, .refl _, .refl _, .refl _, ?_, ?_⟩
  · refine DEq.sl rfl (fun i j hi hj => ?_)
    match i, j, hi, hj with
    | 0, 0, _, _ => exact .refl _
    | 0, 1, _, _ =>
      refine DEq.sl rfl (fun i j hi hj => ?_)
      match i, j, hi, hj with
      | 0, 0, _, _ => exact .refl _
      | 0, 1, _, _ => exact .refl _
      | 0, 2, _, _ => exact .refl _
      | 0, 3, _, _ => exact .refl _
      | 1, 0, _, _ => exact .refl _
      | 1, 1, _, _ => exact .refl _
      | 1, 2, _, _ => exact .refl _
      | 1, 3, _, _ => exact .refl _
    | 1, 0, _, _ => exact .refl _
    | 1, 1, _, _ =>
      refine DEq.sl rfl (fun i j hi hj => ?_)
      match i, j, hi, hj with
      | 0, 0, _, _ => exact .refl _
      | 0, 1, _, _ => exact .refl _
      | 0, 2, _, _ => exact .refl _
      | 0, 3, _, _ => exact .refl _
  · refine DEq.sl rfl (fun i j hi hj => ?_)
    match i, j, hi, hj with
    | 0, 0, _, _ => exact .refl _
    | 0, 1, _, _ => exact .refl _
    | 0, 2, _, _ => exact .refl _
    | 0, 3, _, _ => exact .refl _
    | 0, 4, _, _ => exact .refl _
    | 1, 0, _, _ => exact .refl _
    | 1, 1, _, _ => exact .refl _
    | 1, 2, _, _ => exact .refl _
    | 1, 3, _, _ => exact .refl _
    | 1, 4, _, _ => exact .refl _
theorem c71 : Ctr Tryz.prog 71 [] exT.sv := by
  (refine Ctr.mk (fn := Tryz.f71) rfl rfl rfl rfl rfl Tryz.results71 ?_; dsimp only [args, List.toList_toArray])
  ((first | refine Ok.seqF rfl rfl ?_ | refine Ok.seqT rfl rfl ?_ | refine Ok.regF rfl rfl ?_ | refine Ok.regT rfl rfl ?_); simp only [go_sem]; (repeat' with_reducible apply And.intro); all_goals first | (with_reducible first | refine OkW.mk ?_ | refine EndW.mk ?_ | apply AskI.id | apply AskGI.id) | (with_reducible apply KOt.mk; kernel_rfl) | exact trivial | rfl | omega | ((try intro _); first | apply R64 <;> omega | apply room_of <;> omega) | skip)
  ((first | refine Ok.seqF rfl rfl ?_ | refine Ok.seqT rfl rfl ?_ | refine Ok.regF rfl rfl ?_ | refine Ok.regT rfl rfl ?_); simp only [go_sem]; (repeat' with_reducible apply And.intro); all_goals first | (with_reducible first | refine OkW.mk ?_ | refine EndW.mk ?_ | apply AskI.id | apply AskGI.id) | (with_reducible apply KOt.mk; kernel_rfl) | exact trivial | rfl | omega | ((try intro _); first | apply R64 <;> omega | apply room_of <;> omega) | skip)
  (refine AskI.ret (c58 _ _) ?_; simp only [go_sem]; (repeat' with_reducible apply And.intro); all_goals first | (with_reducible first | refine OkW.mk ?_ | refine EndW.mk ?_ | apply AskI.id | apply AskGI.id) | (with_reducible apply KOt.mk; kernel_rfl) | exact trivial | rfl | omega | ((try intro _); first | apply R64 <;> omega | apply room_of <;> omega) | skip)
  (refine AskI.ret (c58 _ _) ?_; simp only [go_sem]; (repeat' with_reducible apply And.intro); all_goals first | (with_reducible first | refine OkW.mk ?_ | refine EndW.mk ?_ | apply AskI.id | apply AskGI.id) | (with_reducible apply KOt.mk; kernel_rfl) | exact trivial | rfl | omega | ((try intro _); first | apply R64 <;> omega | apply room_of <;> omega) | skip)
  (refine Ok.ret ?_; (try dsimp only [thenK, blockK, noGotoK]); simp only [toList_mk, List.toList_toArray, retK_ret, retK_normal, resOK, resV, celV, rowV, frzAll, frzT, subV, subL, go_sem])
  refine ⟨.refl _, .refl _, .refl _, .refl _, .refl _, .refl _, ?_, DEq.nils rfl⟩
  refine DEq.sl rfl (fun i j hi hj => ?_)
  match i, j, hi, hj with
  | 0, 0, _, _ => exact .refl _
  | 0, 1, _, _ =>
    refine DEq.sl rfl (fun i j hi hj => ?_)
    match i, j, hi, hj with
    | 0, 0, _, _ => exact .refl _
    | 0, 1, _, _ => exact .refl _
    | 0, 2, _, _ => exact .refl _
    | 0, 3, _, _ => exact .refl _
end Go.Proofs.Sight
namespace Go.Proofs
open Go.Shelf
def Tryz.lays156_ren : Go.Shelf.Ren := ⟨fun | 156 => 133 | 165 => 151 | 166 => 152 | 169 => 153 | 240 => 158 | 241 => 159 | 276 => 167 | 277 => 168 | n => n, fun | 31 => 140 | 9 => 9 | 3 => 3 | 4 => 4 | 0 => 0 | 20 => 20 | 72 => 194 | 76 => 198 | 70 => 192 | 37 => 101 | 75 => 197 | 127 => 205 | 164 => 214 | 5 => 5 | 80 => 200 | n => n, fun | n => n⟩
theorem Tryz.lays156 : Go.Proofs.Lays.n156 Tryz.prog Tryz.lays156_ren := {
  mixed := by kernel_rfl
  f156 := Tryz.func133.trans (congrArg some (by kernel_rfl))
  f165 := Tryz.func151.trans (congrArg some (by kernel_rfl))
  f166 := Tryz.func152.trans (congrArg some (by kernel_rfl))
  f169 := Tryz.func153.trans (congrArg some (by kernel_rfl))
  f240 := Tryz.func158.trans (congrArg some (by kernel_rfl))
  f241 := Tryz.func159.trans (congrArg some (by kernel_rfl))
  f276 := Tryz.func167.trans (congrArg some (by kernel_rfl))
  f277 := Tryz.func168.trans (congrArg some (by kernel_rfl))
  t0 := Tryz.underlying0
  a0 := Tryz.isAgg0
  z0 := Tryz.sizeOf0
  v0 := Tryz.zeroValue0
  t3 := Tryz.underlying3
  a3 := Tryz.isAgg3
  z3 := Tryz.sizeOf3
  v3 := Tryz.zeroValue3
  t4 := Tryz.underlying4
  a4 := Tryz.isAgg4
  z4 := Tryz.sizeOf4
  v4 := Tryz.zeroValue4
  t9 := Tryz.underlying9
  a9 := Tryz.isAgg9
  z9 := Tryz.sizeOf9
  v9 := Tryz.zeroValue9
  t20 := Tryz.underlying20
  a20 := Tryz.isAgg20
  z20 := Tryz.sizeOf20
  v20 := Tryz.zeroValue20
  t31 := Tryz.underlying140
  a31 := Tryz.isAgg140
  z31 := Tryz.sizeOf140
  v31 := Tryz.zeroValue140
  t37 := Tryz.underlying101
  a37 := Tryz.isAgg101
  z37 := Tryz.sizeOf101
  v37 := Tryz.zeroValue101
  t70 := Tryz.underlying192
  a70 := Tryz.isAgg192
  z70 := Tryz.sizeOf192
  v70 := Tryz.zeroValue192
  t72 := Tryz.underlying194
  a72 := Tryz.isAgg194
  z72 := Tryz.sizeOf194
  v72 := Tryz.zeroValue194
  t75 := Tryz.underlying197
  a75 := Tryz.isAgg197
  z75 := Tryz.sizeOf197
  v75 := Tryz.zeroValue197
  t76 := Tryz.underlying198
  a76 := Tryz.isAgg198
  z76 := Tryz.sizeOf198
  v76 := Tryz.zeroValue198
  t127 := Tryz.underlying205
  a127 := Tryz.isAgg205
  z127 := Tryz.sizeOf205
  v127 := Tryz.zeroValue205
  t164 := Tryz.underlying214
  a164 := Tryz.isAgg214
  z164 := Tryz.sizeOf214
  v164 := Tryz.zeroValue214 }
theorem Tryz.Builder_Extra_156 : Builder.Extra Tryz.prog Tryz.lays156_ren := {
  sizeBuilder := by kernel_rfl
  liesBuilder := by kernel_rfl
  t5 := Tryz.underlying5
  a5 := Tryz.isAgg5
  z5 := Tryz.sizeOf5
  v5 := Tryz.zeroValue5
  infoByte := by kernel_rfl
  cellsByte := by kernel_rfl
  sizeByte := by kernel_rfl
  neB5 := by decide }
open Go.RowKit in
theorem Tryz.strings_Join (bk o c : Nat) (xs : List ByteArray) (sep : ByteArray) (w : World) (hcells : ∀ (j : Nat) x, xs[j]? = some x → w.cell? ⟨bk, o + j, none⟩ = some (.string x)) (hbk : bk < w.heap.size) (hN : xs.length ≤ 140737488355328) (hcap : xs.length ≤ c) (hlen : (Lib.join (xs.map (·.data.toList)) sep.data.toList).length ≤ 140737488355328) :
    Calls Tryz.prog 133 #[.slice (some ⟨bk, o, none⟩) xs.length c, .string sep] w fun e w' => e = .returned (.string ⟨(Lib.join (xs.map (·.data.toList)) sep.data.toList).toArray⟩) ∧ Below w.heap.size w w' := Any.strings_Join Tryz.lays156 Tryz.Builder_Extra_156 bk o c xs sep w hcells hbk hN hcap hlen
def Tryz.laysM171_ren : Go.Shelf.Ren := ⟨fun | 171 => 132 | 243 => 150 | 246 => 157 | 283 => 163 | 284 => 164 | 285 => 165 | 286 => 166 | 129 => 174 | 317 => 173 | 318 => 175 | 319 => 176 | 320 => 177 | 337 => 183 | 338 => 184 | n => n, fun | 3 => 3 | 9 => 9 | 2 => 2 | 4 => 4 | 171 => 208 | 0 => 0 | 53 => 209 | 37 => 101 | 5 => 5 | 173 => 212 | 212 => 222 | 51 => 223 | 20 => 20 | 213 => 224 | 46 => 226 | 232 => 235 | 233 => 236 | n => n, fun | 17 => 0 | 18 => 4 | 19 => 5 | n => n⟩
theorem Tryz.laysM171 : Go.Proofs.LaysM.n171 Tryz.prog Tryz.laysM171_ren := {
  mixed := by kernel_rfl
  f129 := Tryz.func174.trans (congrArg some (by kernel_rfl))
  f171 := Tryz.func132.trans (congrArg some (by kernel_rfl))
  f243 := Tryz.func150.trans (congrArg some (by kernel_rfl))
  f246 := Tryz.func157.trans (congrArg some (by kernel_rfl))
  f283 := Tryz.func163.trans (congrArg some (by kernel_rfl))
  f284 := Tryz.func164.trans (congrArg some (by kernel_rfl))
  f285 := Tryz.func165.trans (congrArg some (by kernel_rfl))
  f286 := Tryz.func166.trans (congrArg some (by kernel_rfl))
  f317 := Tryz.func173.trans (congrArg some (by kernel_rfl))
  f318 := Tryz.func175.trans (congrArg some (by kernel_rfl))
  f319 := Tryz.func176.trans (congrArg some (by kernel_rfl))
  f320 := Tryz.func177.trans (congrArg some (by kernel_rfl))
  f337 := Tryz.func183.trans (congrArg some (by kernel_rfl))
  f338 := Tryz.func184.trans (congrArg some (by kernel_rfl))
  t0 := Tryz.underlying0
  a0 := Tryz.isAgg0
  z0 := Tryz.sizeOf0
  v0 := Tryz.zeroValue0
  t2 := Tryz.underlying2
  a2 := Tryz.isAgg2
  z2 := Tryz.sizeOf2
  v2 := Tryz.zeroValue2
  t3 := Tryz.underlying3
  a3 := Tryz.isAgg3
  z3 := Tryz.sizeOf3
  v3 := Tryz.zeroValue3
  t4 := Tryz.underlying4
  a4 := Tryz.isAgg4
  z4 := Tryz.sizeOf4
  v4 := Tryz.zeroValue4
  t5 := Tryz.underlying5
  a5 := Tryz.isAgg5
  z5 := Tryz.sizeOf5
  v5 := Tryz.zeroValue5
  t9 := Tryz.underlying9
  a9 := Tryz.isAgg9
  z9 := Tryz.sizeOf9
  v9 := Tryz.zeroValue9
  t20 := Tryz.underlying20
  a20 := Tryz.isAgg20
  z20 := Tryz.sizeOf20
  v20 := Tryz.zeroValue20
  t37 := Tryz.underlying101
  a37 := Tryz.isAgg101
  z37 := Tryz.sizeOf101
  v37 := Tryz.zeroValue101
  t46 := Tryz.underlying226
  a46 := Tryz.isAgg226
  z46 := Tryz.sizeOf226
  v46 := Tryz.zeroValue226
  t51 := Tryz.underlying223
  a51 := Tryz.isAgg223
  z51 := Tryz.sizeOf223
  v51 := Tryz.zeroValue223
  t53 := Tryz.underlying209
  a53 := Tryz.isAgg209
  z53 := Tryz.sizeOf209
  v53 := Tryz.zeroValue209
  t171 := Tryz.underlying208
  a171 := Tryz.isAgg208
  z171 := Tryz.sizeOf208
  v171 := Tryz.zeroValue208
  t173 := Tryz.underlying212
  a173 := Tryz.isAgg212
  z173 := Tryz.sizeOf212
  v173 := Tryz.zeroValue212
  t212 := Tryz.underlying222
  a212 := Tryz.isAgg222
  z212 := Tryz.sizeOf222
  v212 := Tryz.zeroValue222
  t213 := Tryz.underlying224
  a213 := Tryz.isAgg224
  z213 := Tryz.sizeOf224
  t232 := Tryz.underlying235
  a232 := Tryz.isAgg235
  z232 := Tryz.sizeOf235
  v232 := Tryz.zeroValue235
  t233 := Tryz.underlying236
  a233 := Tryz.isAgg236
  z233 := Tryz.sizeOf236
  v233 := Tryz.zeroValue236
  g17 := by kernel_rfl
  g18 := by kernel_rfl
  g19 := by kernel_rfl
  i0 := by kernel_rfl
  i2 := by kernel_rfl
  i3 := by kernel_rfl
  i4 := by kernel_rfl
  i5 := by kernel_rfl
  i9 := by kernel_rfl
  i20 := by kernel_rfl
  i37 := by kernel_rfl
  i46 := by kernel_rfl
  i51 := by kernel_rfl
  i53 := by kernel_rfl
  i171 := by kernel_rfl
  i173 := by kernel_rfl
  i212 := by kernel_rfl
  i232 := by kernel_rfl
  i233 := by kernel_rfl
  m17 := by kernel_rfl
  m18 := by kernel_rfl
  m19 := by kernel_rfl }
open Go.RowKit Go.Sort Go.Lib in
theorem Tryz.strconv_Itoa (n : Int) (h0 : -9223372036854775808 ≤ n) (h1 : n ≤ 9223372036854775807) (w : World) (htab : Lib.TabIs Tryz.prog w "internal/strconv.uint64pow10" .u64 Lib.pow10Tab) :
    Calls Tryz.prog 132 #[.int .i64 n] w fun e w' => e = .returned (.string ⟨(Lib.itoa n).toArray⟩) ∧ ∃ k os, w' = grow (w.drewN k) os := Any.strconv_Itoa Tryz.laysM171 n h0 h1 w htab
def Tryz.lays146_ren : Go.Shelf.Ren := ⟨fun | 146 => 134 | 221 => 154 | 268 => 160 | 138 => 161 | 143 => 162 | 195 => 169 | 197 => 170 | 218 => 171 | 219 => 172 | 260 => 178 | 217 => 179 | 225 => 180 | 224 => 181 | 267 => 182 | 266 => 185 | 314 => 186 | n => n, fun | 9 => 9 | 31 => 140 | 3 => 3 | 4 => 4 | 0 => 0 | 105 => 218 | 21 => 21 | 5 => 5 | 46 => 226 | 119 => 229 | 139 => 232 | 138 => 231 | 146 => 233 | 51 => 223 | n => n, fun | 1 => 1 | 3 => 2 | 4 => 3 | n => n⟩
theorem Tryz.lays146 : Go.Proofs.Lays.n146 Tryz.prog Tryz.lays146_ren := {
  mixed := by kernel_rfl
  f138 := Tryz.func161.trans (congrArg some (by kernel_rfl))
  f143 := Tryz.func162.trans (congrArg some (by kernel_rfl))
  f146 := Tryz.func134.trans (congrArg some (by kernel_rfl))
  f195 := Tryz.func169.trans (congrArg some (by kernel_rfl))
  f197 := Tryz.func170.trans (congrArg some (by kernel_rfl))
  f217 := Tryz.func179.trans (congrArg some (by kernel_rfl))
  f218 := Tryz.func171.trans (congrArg some (by kernel_rfl))
  f219 := Tryz.func172.trans (congrArg some (by kernel_rfl))
  f221 := Tryz.func154.trans (congrArg some (by kernel_rfl))
  f224 := Tryz.func181.trans (congrArg some (by kernel_rfl))
  f225 := Tryz.func180.trans (congrArg some (by kernel_rfl))
  f260 := Tryz.func178.trans (congrArg some (by kernel_rfl))
  f266 := Tryz.func185.trans (congrArg some (by kernel_rfl))
  f267 := Tryz.func182.trans (congrArg some (by kernel_rfl))
  f268 := Tryz.func160.trans (congrArg some (by kernel_rfl))
  f314 := Tryz.func186.trans (congrArg some (by kernel_rfl))
  t0 := Tryz.underlying0
  a0 := Tryz.isAgg0
  z0 := Tryz.sizeOf0
  v0 := Tryz.zeroValue0
  t3 := Tryz.underlying3
  a3 := Tryz.isAgg3
  z3 := Tryz.sizeOf3
  v3 := Tryz.zeroValue3
  t4 := Tryz.underlying4
  a4 := Tryz.isAgg4
  z4 := Tryz.sizeOf4
  v4 := Tryz.zeroValue4
  t5 := Tryz.underlying5
  a5 := Tryz.isAgg5
  z5 := Tryz.sizeOf5
  v5 := Tryz.zeroValue5
  t9 := Tryz.underlying9
  a9 := Tryz.isAgg9
  z9 := Tryz.sizeOf9
  v9 := Tryz.zeroValue9
  t21 := Tryz.underlying21
  a21 := Tryz.isAgg21
  z21 := Tryz.sizeOf21
  v21 := Tryz.zeroValue21
  t31 := Tryz.underlying140
  a31 := Tryz.isAgg140
  z31 := Tryz.sizeOf140
  v31 := Tryz.zeroValue140
  t46 := Tryz.underlying226
  a46 := Tryz.isAgg226
  z46 := Tryz.sizeOf226
  v46 := Tryz.zeroValue226
  t51 := Tryz.underlying223
  a51 := Tryz.isAgg223
  z51 := Tryz.sizeOf223
  v51 := Tryz.zeroValue223
  t105 := Tryz.underlying218
  a105 := Tryz.isAgg218
  z105 := Tryz.sizeOf218
  v105 := Tryz.zeroValue218
  t119 := Tryz.underlying229
  a119 := Tryz.isAgg229
  z119 := Tryz.sizeOf229
  t138 := Tryz.underlying231
  a138 := Tryz.isAgg231
  z138 := Tryz.sizeOf231
  v138 := Tryz.zeroValue231
  t139 := Tryz.underlying232
  a139 := Tryz.isAgg232
  z139 := Tryz.sizeOf232
  v139 := Tryz.zeroValue232
  t146 := Tryz.underlying233
  a146 := Tryz.isAgg233
  z146 := Tryz.sizeOf233
  v146 := Tryz.zeroValue233
  g1 := by kernel_rfl
  g3 := by kernel_rfl
  g4 := by kernel_rfl }
open Go.RowKit Go.Lib in
theorem Tryz.strings_Split (s sep : ByteArray) (m : Int) (w : World) (hs : s.size < 4294967281) (hm : w.cell? ⟨1, 0, none⟩ = some (.int .i64 m)) (h1 : 1 ≤ sep.size) :
    Calls Tryz.prog 134 #[.string s, .string sep] w fun e w' =>
      e = .returned (.slice (some ⟨w.heap.size, 0, none⟩) (Lib.countB s sep + 1) (Lib.countB s sep + 1)) ∧ w' = w.alloc (.cells ((Lib.splitB sep 0 (Lib.countB s sep) s).map Value.string).toArray 9) := Any.strings_Split Tryz.lays146 (by kernel_rfl) s sep m w hs hm h1
end Go.Proofs
namespace Go.Proofs.Sight
open Go Go.RX Go.Proofs Go.RowKit
set_option maxRecDepth 10000
theorem str_val {I : Nat → Prop} {w : World} {v : Value} {l : List UInt8} (h : RepS I w v (.d (.str l))) : v = .string ⟨l.toArray⟩ := by
  have h := RepS.rep h
  cases h with
  | @str s l h =>
    obtain ⟨⟨d⟩⟩ := s
    simp at h; subst h; rfl
theorem rep_str' (I : Nat → Prop) (w : World) (l : List UInt8) : Rep I w (.string ⟨l.toArray⟩) (.str l) := .str rfl
theorem c132 (n : Int) (h0 : -9223372036854775808 ≤ n) (h1 : n ≤ 9223372036854775807) : Ctr Tryz.prog 132 [iS n] (.d (.str (Lib.itoa n))) := by
  refine ⟨⟨Tryz.f132, Tryz.func132, rfl, rfl⟩, fun I w vs hG hI hsz hrep => ?_⟩
  obtain ⟨v0, rfl⟩ : ∃ v0, vs = #[v0] := by
    obtain ⟨l⟩ := vs
    match l, hsz with
    | [a], _ => exact ⟨a, rfl⟩
  have h := RepS.rep (hrep 0 v0 _ rfl rfl)
  obtain rfl : v0 = .int .i64 n := by cases h; rfl
  refine (Tryz.strconv_Itoa n h0 h1 w hG.1).mono ?_
  rintro e w' ⟨rfl, k, os, rfl⟩
  exact ⟨_, rfl, RepS.of (rep_str' _ _ _), Lib.below_grow _ w (Nat.le_refl _) k os⟩
def strD (l : List UInt8) : Nat → DV
  | 0 => .str l | _ => .nilI
theorem strD_0 (l : List UInt8) : strD l 0 = .str l := Eq.trans rfl rfl
attribute [go_sem] strD_0
abbrev strsD (l : List (List UInt8)) : DV := slD 1 strD l
def splitL (s sep : List UInt8) : List (List UInt8) := (Lib.splitB ⟨sep.toArray⟩ 0 (Lib.countB ⟨s.toArray⟩ ⟨sep.toArray⟩) ⟨s.toArray⟩).map (·.data.toList)
theorem c134 (s sep : List UInt8) (hs : s.length < 4294967281) (h1 : 1 ≤ sep.length) : Ctr Tryz.prog 134 [.d (.str s), .d (.str sep)] (.d (strsD (splitL s sep))) := by
  refine ⟨⟨Tryz.f134, Tryz.func134, rfl, rfl⟩, fun I w vs hG hI hsz hrep => ?_⟩
  obtain ⟨v0, v1, rfl⟩ : ∃ v0 v1, vs = #[v0, v1] := by
    obtain ⟨l⟩ := vs
    match l, hsz with
    | [a, b], _ => exact ⟨a, b, rfl⟩
  obtain rfl := str_val (hrep 0 v0 _ rfl rfl)
  obtain rfl := str_val (hrep 1 v1 _ rfl rfl)
  obtain ⟨_, m, hm⟩ := hG
  have hlen := Lib.splitB_all ⟨sep.toArray⟩ h1 0 _ ⟨s.toArray⟩ rfl
  have hcnt := Lib.countB_le ⟨sep.toArray⟩ h1 _ ⟨s.toArray⟩ (Nat.le_refl _)
  have hss : (⟨s.toArray⟩ : ByteArray).size = s.length := rfl
  refine (Tryz.strings_Split ⟨s.toArray⟩ ⟨sep.toArray⟩ m w hs hm h1).mono ?_
  rintro e w' ⟨rfl, rfl⟩
  refine ⟨_, rfl, RepS.of ?_, (Below.refl _ w).alloc (Nat.le_refl _) _⟩
  have hl : (splitL s sep).length = Lib.countB ⟨s.toArray⟩ ⟨sep.toArray⟩ + 1 := by
    rw [splitL, List.length_map, hlen]
  show Rep _ _ _ (.sl 1 (splitL s sep).length _)
  rw [hl]
  refine .sl (fun i j => .string ⟨((splitL s sep).getD i default).toArray⟩) (.inr ⟨Nat.le_refl _, by simp⟩) (Nat.le_refl _) ?_ (fun i j hi hj => ?_) (fun i j hi hj => ?_)
  · unfold maxLen; omega
  · have : j = 0 := by omega
    subst this
    have hi' : i < (Lib.splitB ⟨sep.toArray⟩ 0 (Lib.countB ⟨s.toArray⟩ ⟨sep.toArray⟩) ⟨s.toArray⟩).length := by rw [hlen]; exact hi
    rw [cellAt (al_new _ rfl)]
    simp only [splitL, List.getD_eq_getElem?_getD, List.getElem?_map, Nat.zero_add, Nat.mul_one, Nat.add_zero, List.getElem?_toArray, List.getElem?_eq_getElem hi', Option.map_some, Option.getD_some]
  · have : j = 0 := by omega
    subst this
    exact rep_str' _ _ _
theorem c133 (l : List (List UInt8)) (sep : List UInt8) (hN : l.length ≤ 100000) (hlen : (Lib.join l sep).length ≤ 140737488355328) (h1 : 1 ≤ l.length) : Ctr Tryz.prog 133 [.d (strsD l), .d (.str sep)] (.d (.str (Lib.join l sep))) := by
  refine ⟨⟨Tryz.f133, Tryz.func133, rfl, rfl⟩, fun I w vs hG hI hsz hrep => ?_⟩
  obtain ⟨v0, v1, rfl⟩ : ∃ v0 v1, vs = #[v0, v1] := by
    obtain ⟨l⟩ := vs
    match l, hsz with
    | [a, b], _ => exact ⟨a, b, rfl⟩
  obtain rfl := str_val (hrep 1 v1 _ rfl rfl)
  have h0 := RepS.rep (hrep 0 v0 _ rfl rfl)
  have hx : (l.map (fun s => (⟨s.toArray⟩ : ByteArray))).map (·.data.toList) = l := by simp [List.map_map, Function.comp_def]
  change Rep _ _ _ (.sl 1 l.length (fun i => strD (l.getD i default))) at h0
  generalize hn : l.length = n at h0
  cases h0 with
  | sl0 => omega
  | sl1 => omega
  | @sl b o _ cap _ _ us hIb hc hcap hcell hrep' =>
    subst hn
    have h := Tryz.strings_Join b o cap (l.map (fun s => (⟨s.toArray⟩ : ByteArray))) ⟨sep.toArray⟩ w (fun j x hj => by
      simp only [List.getElem?_map, Option.map_eq_some_iff] at hj
      obtain ⟨s, hs, rfl⟩ := hj
      obtain ⟨hj', hs'⟩ := List.getElem?_eq_some_iff.1 hs
      have c1 := hcell j 0 hj' (by omega)
      have c2 := hrep' j 0 hj' (by omega)
      have e : l.getD j default = s := by rw [getD_lt hj', hs']
      dsimp only at c2
      rw [e] at c2
      have c3 := str_val (RepS.of c2)
      rw [c3] at c1
      simpa using c1) (hI b hIb) (by simpa using Nat.le_trans hN (by decide)) (by simpa using hc) (by rw [hx]; exact hlen)
    rw [List.length_map, hx] at h
    refine h.mono ?_
    rintro e w' ⟨rfl, hB⟩
    exact ⟨_, rfl, RepS.of (rep_str' _ _ _), hB⟩
theorem itoa_one {n : Nat} (h : n < 10) : Lib.itoa n = [UInt8.ofNat (48 + n)] := by
  rw [Lib.itoa_nonneg, Lib.decDigits, dif_pos h]
end Go.Proofs.Sight
namespace Go.Proofs.Sight
open Go Go.RX Go.Proofs
set_option maxRecDepth 10000
theorem tdivN (n : Nat) : (n : Int).tdiv 10 = ((n / 10 : Nat) : Int) := by rw [Int.tdiv_eq_ediv_of_nonneg (by omega)]; simp
theorem tmodN (n : Nat) : (n : Int).tmod 10 = ((n % 10 : Nat) : Int) := by rw [Int.tmod_eq_emod_of_nonneg (by omega)]; simp
theorem R8 {n : Int} (h0 : 0 ≤ n) (h1 : n ≤ 255) : R .u8 n := by
  unfold R
  show IntKind.wrap .u8 n = n
  unfold IntKind.wrap
  simp [IntKind.signed, IntKind.bits]
  omega
theorem bysT101 : bysT Tryz.prog 101 = true := by kernel_rfl
attribute [go_sem] bysT101
theorem byt_nat (m : Nat) : byt (.int .u8 m) = UInt8.ofNat m := rfl
theorem byt_p {x : Int} (h0 : 0 ≤ x) (h1 : x < 256) : ∀ i, i < 1 → dget [.int .u8 x] (i * 1) = .int .u8 (byt (dget [.int .u8 x] (i * 1))).toNat := by
  intro i hi
  have : i = 0 := by omega
  subst this
  show DV.int .u8 x = .int .u8 (UInt8.ofNat x.toNat).toNat
  rw [UInt8.toNat_ofNat', Nat.mod_eq_of_lt (by omega)]
  congr 1
  omega
theorem byt_s (x : Int) (m : Nat) (h : x = m) : List.map (fun i => byt (dget [DV.int .u8 x] (i * 1))) (List.range 0 ++ [0]) = [UInt8.ofNat m] := by
  subst h
  rfl
theorem decLen (n : Nat) (h : n < 1000000) : (Lib.decDigits n).length ≤ 21 := by
  rw [← Lib.itoa_nonneg]
  exact Lib.itoa_length_le _ (by omega) (by omega)
theorem c138 : ∀ n : Nat, n < 1000000 → Ctr Tryz.prog 138 [iS n] (.d (.str (Lib.decDigits n))) := by
  intro n
  induction n using Nat.strongRecOn with
  | _ n ih =>
  intro hn
  (refine Ctr.mk (fn := Tryz.f138) rfl rfl rfl rfl rfl Tryz.results138 ?_; dsimp only [args, List.toList_toArray])
  ((first | refine Ok.seqF rfl rfl ?_ | refine Ok.seqT rfl rfl ?_ | refine Ok.regF rfl rfl ?_ | refine Ok.regT rfl rfl ?_); simp only [go_sem]; (repeat' with_reducible apply And.intro); all_goals first | (with_reducible first | refine OkW.mk ?_ | refine EndW.mk ?_ | apply AskI.id | apply AskGI.id) | (with_reducible apply KOt.mk; kernel_rfl) | exact trivial | rfl | omega | ((try intro _); first | apply R64 <;> omega | apply room_of <;> omega) | skip)
  refine Ok.seq ?_
  ((first | refine Ok.seqF rfl rfl ?_ | refine Ok.seqT rfl rfl ?_ | refine Ok.regF rfl rfl ?_ | refine Ok.regT rfl rfl ?_); simp only [go_sem]; (repeat' with_reducible apply And.intro); all_goals first | (with_reducible first | refine OkW.mk ?_ | refine EndW.mk ?_ | apply AskI.id | apply AskGI.id) | (with_reducible apply KOt.mk; kernel_rfl) | exact trivial | rfl | omega | ((try intro _); first | apply R64 <;> omega | apply room_of <;> omega) | skip)
  refine Ok.cond rfl (fun hb => by simp at hb; omega) (fun _ => ?_)
  (refine Ok.skip ?_; (try dsimp only [thenK, blockK, noGotoK]))
  refine Ok.seq ?_
  ((first | refine Ok.seqF rfl rfl ?_ | refine Ok.seqT rfl rfl ?_ | refine Ok.regF rfl rfl ?_ | refine Ok.regT rfl rfl ?_); simp only [go_sem]; (repeat' with_reducible apply And.intro); all_goals first | (with_reducible first | refine OkW.mk ?_ | refine EndW.mk ?_ | apply AskI.id | apply AskGI.id) | (with_reducible apply KOt.mk; kernel_rfl) | exact trivial | rfl | omega | ((try intro _); first | apply R64 <;> omega | apply room_of <;> omega) | skip)
  refine Ok.cond rfl (fun hb => by simp at hb; omega) (fun _ => ?_)
  (refine Ok.skip ?_; (try dsimp only [thenK, blockK, noGotoK]))
  refine Ok.seq ?_
  ((first | refine Ok.seqF rfl rfl ?_ | refine Ok.seqT rfl rfl ?_ | refine Ok.regF rfl rfl ?_ | refine Ok.regT rfl rfl ?_); simp only [go_sem]; (repeat' with_reducible apply And.intro); all_goals first | (with_reducible first | refine OkW.mk ?_ | refine EndW.mk ?_ | apply AskI.id | apply AskGI.id) | (with_reducible apply KOt.mk; kernel_rfl) | exact trivial | rfl | omega | ((try intro _); first | apply R64 <;> omega | apply room_of <;> omega) | skip)
  refine Ok.cond rfl ?_ ?_
  · intro hb
    have hb' : n < 10 := by simp at hb; omega
    ((first | refine Ok.seqF rfl rfl ?_ | refine Ok.seqT rfl rfl ?_ | refine Ok.regF rfl rfl ?_ | refine Ok.regT rfl rfl ?_); simp only [go_sem]; (repeat' with_reducible apply And.intro); all_goals first | (with_reducible first | refine OkW.mk ?_ | refine EndW.mk ?_ | apply AskI.id | apply AskGI.id) | (with_reducible apply KOt.mk; kernel_rfl) | exact trivial | rfl | omega | ((try intro _); first | apply R64 <;> omega | apply room_of <;> omega) | skip)
    · exact R8 (by omega) (by omega)
    · exact byt_p (by omega) (by omega)
    (refine Ok.ret ?_; (try dsimp only [thenK, blockK, noGotoK]); simp only [toList_mk, List.toList_toArray, retK_ret, retK_normal, resOK, resV, celV, rowV, frzAll, frzT, subV, subL, go_sem])
    refine DEq.str ?_
    rw [byt_s _ (48 + n) (by omega), Lib.decDigits, dif_pos hb']
  · intro hb
    have hb' : ¬ n < 10 := by simp at hb; omega
    (refine Ok.skip ?_; (try dsimp only [thenK, blockK, noGotoK]))
    ((first | refine Ok.seqF rfl rfl ?_ | refine Ok.seqT rfl rfl ?_ | refine Ok.regF rfl rfl ?_ | refine Ok.regT rfl rfl ?_); simp only [go_sem]; (repeat' with_reducible apply And.intro); all_goals first | (with_reducible first | refine OkW.mk ?_ | refine EndW.mk ?_ | apply AskI.id | apply AskGI.id) | (with_reducible apply KOt.mk; kernel_rfl) | exact trivial | rfl | omega | ((try intro _); first | apply R64 <;> omega | apply room_of <;> omega) | skip)
    · rw [tdivN]; exact R64 (by omega) (by omega)
    rw [tdivN]
    (refine AskI.ret (ih (n / 10) (by omega) (by omega)) ?_; simp only [go_sem]; (repeat' with_reducible apply And.intro); all_goals first | (with_reducible first | refine OkW.mk ?_ | refine EndW.mk ?_ | apply AskI.id | apply AskGI.id) | (with_reducible apply KOt.mk; kernel_rfl) | exact trivial | rfl | omega | ((try intro _); first | apply R64 <;> omega | apply room_of <;> omega) | skip)
    · rw [tmodN]; exact R64 (by omega) (by omega)
    · rw [tmodN]; exact R8 (by omega) (by omega)
    · rw [tmodN]; exact byt_p (by omega) (by omega)
    · rw [tmodN, byt_s _ (48 + n % 10) (by omega)]
      have := decLen (n / 10) (by omega)
      simp only [strRoom, List.length_cons, List.length_nil]
      omega
    (refine Ok.ret ?_; (try dsimp only [thenK, blockK, noGotoK]); simp only [toList_mk, List.toList_toArray, retK_ret, retK_normal, resOK, resV, celV, rowV, frzAll, frzT, subV, subL, go_sem])
    refine DEq.str ?_
    rw [tmodN, byt_s _ (48 + n % 10) (by omega)]
    conv => rhs; rw [Lib.decDigits, dif_neg hb']
def rowL (w : List UInt8) (ns : List Int) : List UInt8 := w ++ ns.flatMap (fun n => 32 :: Lib.itoa n)
theorem rowL_nil (w : List UInt8) : rowL w [] = w := by simp [rowL]
theorem rowL_snoc (w : List UInt8) (ns : List Int) (n : Int) : rowL w (ns ++ [n]) = rowL w ns ++ [32] ++ Lib.itoa n := by simp [rowL]
theorem itoaLen (n : Int) (h0 : 0 ≤ n) (h1 : n < 1000000) : (Lib.itoa n).length ≤ 21 := Lib.itoa_length_le _ (by omega) (by omega)
theorem rowL_len (w : List UInt8) : ∀ (ns : List Int), (∀ n ∈ ns, 0 ≤ n ∧ n < 1000000) → (rowL w ns).length ≤ w.length + 22 * ns.length
  | [], _ => by simp [rowL]
  | n :: r, h => by
    have ih := rowL_len w r (fun x hx => h x (List.mem_cons_of_mem _ hx))
    have hn := h n (List.mem_cons_self ..)
    have := itoaLen n hn.1 hn.2
    simp only [rowL, List.length_append, List.flatMap_cons, List.length_cons] at ih ⊢
    omega
theorem c107 (w : List UInt8) (ns : List Int) (hns : ∀ n ∈ ns, 0 ≤ n ∧ n < 1000000) (hw : w.length ≤ 1000) (hl : ns.length ≤ 1000) : Ctr Tryz.prog 107 [.d (.str w), .d (slD 1 intD ns)] (.d (.str (rowL w ns))) := by
  (refine Ctr.mk (fn := Tryz.f107) rfl rfl rfl rfl rfl Tryz.results107 ?_; dsimp only [args, List.toList_toArray])
  ((first | refine Ok.seqF rfl rfl ?_ | refine Ok.seqT rfl rfl ?_ | refine Ok.regF rfl rfl ?_ | refine Ok.regT rfl rfl ?_); simp only [go_sem]; (repeat' with_reducible apply And.intro); all_goals first | (with_reducible first | refine OkW.mk ?_ | refine EndW.mk ?_ | apply AskI.id | apply AskGI.id) | (with_reducible apply KOt.mk; kernel_rfl) | exact trivial | rfl | omega | ((try intro _); first | apply R64 <;> omega | apply room_of <;> omega) | skip)
  refine Ok.seq ?_
  ((first | refine Ok.seqF rfl rfl ?_ | refine Ok.seqT rfl rfl ?_ | refine Ok.regF rfl rfl ?_ | refine Ok.regT rfl rfl ?_); simp only [go_sem]; (repeat' with_reducible apply And.intro); all_goals first | (with_reducible first | refine OkW.mk ?_ | refine EndW.mk ?_ | apply AskI.id | apply AskGI.id) | (with_reducible apply KOt.mk; kernel_rfl) | exact trivial | rfl | omega | ((try intro _); first | apply R64 <;> omega | apply room_of <;> omega) | skip)
  refine Ok.block ?_
  refine Ok.count ns.length (fun i => ⟨[(0, .d (.str (rowL w (ns.take i)))), (1, .d (slD 1 intD ns)), (5, iS i)], [], []⟩) (fun _ => True) ⟨trivial, ?_⟩ ?_ ?_
  · (refine Sub.of ([]) ([]) ?_ ?_ ?_ rfl rfl <;> simp only [subB, subB1, subT, subT1, newT, subE, subV, subL, go_sem] <;> (try (repeat' with_reducible apply And.intro)) <;> (try first | exact DEq.refl _ | refine DEq.int ?_ | refine DEq.bool ?_ | omega))
    refine DEq.str ?_
    rw [rowL_nil]
  · intro i hi _
    have hb := hns _ (getD_mem hi)
    have hlen := rowL_len w (ns.take i) (fun x hx => hns x (List.mem_of_mem_take hx))
    have hti : (ns.take i).length = i := by simp; omega
    have hil := itoaLen _ hb.1 hb.2
    have hsn : rowL w (ns.take (i + 1)) = rowL w (ns.take i) ++ [32] ++ Lib.itoa (ns.getD i default) := by rw [getD_take hi, rowL_snoc]
    obtain ⟨m, hm⟩ : ∃ m : Nat, ns.getD i default = m := ⟨(ns.getD i default).toNat, by omega⟩
    rw [hm, Lib.itoa_nonneg] at hsn
    rw [hm, Lib.itoa_nonneg] at hil
    rw [hm] at hb
    refine Ok.seq ?_; (((first | refine Ok.seqF rfl rfl ?_ | refine Ok.seqT rfl rfl ?_ | refine Ok.regF rfl rfl ?_ | refine Ok.regT rfl rfl ?_); simp only [go_sem]; (repeat' with_reducible apply And.intro); all_goals first | (with_reducible first | refine OkW.mk ?_ | refine EndW.mk ?_ | apply AskI.id | apply AskGI.id) | (with_reducible apply KOt.mk; kernel_rfl) | exact trivial | rfl | omega | ((try intro _); first | apply R64 <;> omega | apply room_of <;> omega) | skip)); refine Ok.cond rfl (fun _ => ?_) (fun hb => by simp at hb; omega); (refine Ok.skip ?_; (try dsimp only [thenK, blockK, noGotoK])); refine Ok.seq ?_; refine Ok.block ?_
    ((first | refine Ok.seqF rfl rfl ?_ | refine Ok.seqT rfl rfl ?_ | refine Ok.regF rfl rfl ?_ | refine Ok.regT rfl rfl ?_); simp only [go_sem]; (repeat' with_reducible apply And.intro); all_goals first | (with_reducible first | refine OkW.mk ?_ | refine EndW.mk ?_ | apply AskI.id | apply AskGI.id) | (with_reducible apply KOt.mk; kernel_rfl) | exact trivial | rfl | omega | ((try intro _); first | apply R64 <;> omega | apply room_of <;> omega) | skip)
    · simp only [strRoom, List.length_cons, List.length_nil]; omega
    rw [hm]
    (refine AskI.ret (c138 m (by omega)) ?_; simp only [go_sem]; (repeat' with_reducible apply And.intro); all_goals first | (with_reducible first | refine OkW.mk ?_ | refine EndW.mk ?_ | apply AskI.id | apply AskGI.id) | (with_reducible apply KOt.mk; kernel_rfl) | exact trivial | rfl | omega | ((try intro _); first | apply R64 <;> omega | apply room_of <;> omega) | skip)
    · simp only [strRoom, List.length_append, List.length_cons, List.length_nil]; omega
    (try dsimp only [thenK, blockK, noGotoK])
    ((first | refine Ok.seqF rfl rfl ?_ | refine Ok.seqT rfl rfl ?_ | refine Ok.regF rfl rfl ?_ | refine Ok.regT rfl rfl ?_); simp only [go_sem]; (repeat' with_reducible apply And.intro); all_goals first | (with_reducible first | refine OkW.mk ?_ | refine EndW.mk ?_ | apply AskI.id | apply AskGI.id) | (with_reducible apply KOt.mk; kernel_rfl) | exact trivial | rfl | omega | ((try intro _); first | apply R64 <;> omega | apply room_of <;> omega) | skip)
    (try dsimp only [thenK, blockK, noGotoK])
    refine ⟨trivial, ?_⟩
    (refine Sub.of ([]) ([]) ?_ ?_ ?_ rfl rfl <;> simp only [subB, subB1, subT, subT1, newT, subE, subV, subL, go_sem] <;> (try (repeat' with_reducible apply And.intro)) <;> (try first | exact DEq.refl _ | refine DEq.int ?_ | refine DEq.bool ?_ | omega))
    refine DEq.str ?_
    rw [hsn]
  · intro _
    refine Ok.seq ?_; (((first | refine Ok.seqF rfl rfl ?_ | refine Ok.seqT rfl rfl ?_ | refine Ok.regF rfl rfl ?_ | refine Ok.regT rfl rfl ?_); simp only [go_sem]; (repeat' with_reducible apply And.intro); all_goals first | (with_reducible first | refine OkW.mk ?_ | refine EndW.mk ?_ | apply AskI.id | apply AskGI.id) | (with_reducible apply KOt.mk; kernel_rfl) | exact trivial | rfl | omega | ((try intro _); first | apply R64 <;> omega | apply room_of <;> omega) | skip)); refine Ok.cond rfl (fun hb => by simp at hb) (fun _ => ?_); (refine Ok.exit ?_; simp only [thenK_exit, blockK_exit, noGotoK_exit, thenK_normal, blockK_normal, noGotoK_normal, ↓reduceIte, Nat.reduceEqDiff])
    ((first | refine Ok.seqF rfl rfl ?_ | refine Ok.seqT rfl rfl ?_ | refine Ok.regF rfl rfl ?_ | refine Ok.regT rfl rfl ?_); simp only [go_sem]; (repeat' with_reducible apply And.intro); all_goals first | (with_reducible first | refine OkW.mk ?_ | refine EndW.mk ?_ | apply AskI.id | apply AskGI.id) | (with_reducible apply KOt.mk; kernel_rfl) | exact trivial | rfl | omega | ((try intro _); first | apply R64 <;> omega | apply room_of <;> omega) | skip)
    (refine Ok.ret ?_; (try dsimp only [thenK, blockK, noGotoK]); simp only [toList_mk, List.toList_toArray, retK_ret, retK_normal, resOK, resV, celV, rowV, frzAll, frzT, subV, subL, go_sem])
    refine DEq.str ?_
    rw [List.take_length]
end Go.Proofs.Sight
namespace Go.Proofs.Sight
open Go Go.RX Go.Proofs
set_option maxRecDepth 10000
def rowSum (i : Nat) : Nat → List UInt8 → Nat
  | _, [] => 0
  | k, b :: r => b.toNat * (k + 1) * (i + 1) + rowSum i (k + 1) r
def rowsSum : Nat → List (List UInt8) → Nat
  | _, [] => 0
  | i, r :: l => rowSum i 0 r + rowsSum (i + 1) l
theorem rowSum_snoc (i : Nat) (b : UInt8) : ∀ (r : List UInt8) (k : Nat), rowSum i k (r ++ [b]) = rowSum i k r + b.toNat * (k + r.length + 1) * (i + 1)
  | [], k => by simp [rowSum]
  | c :: r, k => by
    have ih := rowSum_snoc i b r (k + 1)
    simp only [List.cons_append, rowSum, ih, List.length_cons]
    have : k + 1 + r.length + 1 = k + (r.length + 1) + 1 := by omega
    rw [this]; omega
theorem rowsSum_snoc (r : List UInt8) : ∀ (l : List (List UInt8)) (i : Nat), rowsSum i (l ++ [r]) = rowsSum i l + rowSum (i + l.length) 0 r
  | [], i => by simp [rowsSum]
  | c :: l, i => by
    have ih := rowsSum_snoc r l (i + 1)
    simp only [List.cons_append, rowsSum, ih, List.length_cons]
    have : i + 1 + l.length = i + (l.length + 1) := by omega
    rw [this]; omega
theorem rowSum_le (i : Nat) (hi : i < 1000) : ∀ (r : List UInt8) (k : Nat), k + r.length ≤ 1000 → rowSum i k r ≤ 255000000 * r.length
  | [], k, _ => by simp [rowSum]
  | c :: r, k, h => by
    simp only [List.length_cons] at h ⊢
    have ih := rowSum_le i hi r (k + 1) (by omega)
    have hc : c.toNat ≤ 255 := by have := c.toNat_lt; omega
    have h1 : c.toNat * (k + 1) ≤ 255 * 1000 := Nat.mul_le_mul hc (by omega)
    have h2 : c.toNat * (k + 1) * (i + 1) ≤ 255 * 1000 * 1000 := Nat.mul_le_mul h1 (by omega)
    simp only [rowSum]; omega
theorem rowsSum_le : ∀ (l : List (List UInt8)) (i : Nat), i + l.length ≤ 1000 → (∀ r ∈ l, r.length ≤ 1000) → rowsSum i l ≤ 255000000000 * l.length
  | [], i, _, _ => by simp [rowsSum]
  | r :: l, i, h, hr => by
    simp only [List.length_cons] at h ⊢
    have ih := rowsSum_le l (i + 1) (by omega) (fun x hx => hr x (List.mem_cons_of_mem _ hx))
    have h1 := hr r (List.mem_cons_self ..)
    have h2 := rowSum_le i (by omega) r 0 (by omega)
    simp only [rowsSum]; omega
def flatL (l : List (List UInt8)) : List UInt8 := l.flatMap (· ++ [10])
theorem flatL_snoc (l : List (List UInt8)) (r : List UInt8) : flatL (l ++ [r]) = flatL l ++ r ++ [10] := by simp [flatL]
theorem flatL_len : ∀ (l : List (List UInt8)), (∀ r ∈ l, r.length ≤ 1000) → (flatL l).length ≤ 1001 * l.length
  | [], _ => by simp [flatL]
  | r :: l, h => by
    have ih := flatL_len l (fun x hx => h x (List.mem_cons_of_mem _ hx))
    have h1 := h r (List.mem_cons_self ..)
    simp only [flatL, List.flatMap_cons, List.length_append, List.length_cons, List.length_nil] at ih ⊢
    omega
def endL (c : Nat) : List UInt8 := [101, 110, 100, 32] ++ Lib.decDigits (c / 100) ++ Lib.decDigits (c / 10 % 10) ++ Lib.decDigits (c % 10)
def sealedL (l : List (List UInt8)) : List UInt8 := flatL l ++ endL (rowsSum 0 l % 179) ++ [10]
theorem getD0 (l : List UInt8) (i : Nat) : l.getD i 0 = l.getD i default := rfl
theorem tdivC (n : Nat) : (n : Int).tdiv 100 = ((n / 100 : Nat) : Int) := by rw [Int.tdiv_eq_ediv_of_nonneg (by omega)]; simp
theorem c108 (l : List (List UInt8)) (hl : l.length ≤ 1000) (hr : ∀ r ∈ l, r.length ≤ 1000) : Ctr Tryz.prog 108 [.d (strsD l), iS 179] (.d (.str (sealedL l))) := by
  (refine Ctr.mk (fn := Tryz.f108) rfl rfl rfl rfl rfl Tryz.results108 ?_; dsimp only [args, List.toList_toArray])
  ((first | refine Ok.seqF rfl rfl ?_ | refine Ok.seqT rfl rfl ?_ | refine Ok.regF rfl rfl ?_ | refine Ok.regT rfl rfl ?_); simp only [go_sem]; (repeat' with_reducible apply And.intro); all_goals first | (with_reducible first | refine OkW.mk ?_ | refine EndW.mk ?_ | apply AskI.id | apply AskGI.id) | (with_reducible apply KOt.mk; kernel_rfl) | exact trivial | rfl | omega | ((try intro _); first | apply R64 <;> omega | apply room_of <;> omega) | skip)
  ((first | refine Ok.seqF rfl rfl ?_ | refine Ok.seqT rfl rfl ?_ | refine Ok.regF rfl rfl ?_ | refine Ok.regT rfl rfl ?_); simp only [go_sem]; (repeat' with_reducible apply And.intro); all_goals first | (with_reducible first | refine OkW.mk ?_ | refine EndW.mk ?_ | apply AskI.id | apply AskGI.id) | (with_reducible apply KOt.mk; kernel_rfl) | exact trivial | rfl | omega | ((try intro _); first | apply R64 <;> omega | apply room_of <;> omega) | skip)
  refine Ok.seq ?_
  ((first | refine Ok.seqF rfl rfl ?_ | refine Ok.seqT rfl rfl ?_ | refine Ok.regF rfl rfl ?_ | refine Ok.regT rfl rfl ?_); simp only [go_sem]; (repeat' with_reducible apply And.intro); all_goals first | (with_reducible first | refine OkW.mk ?_ | refine EndW.mk ?_ | apply AskI.id | apply AskGI.id) | (with_reducible apply KOt.mk; kernel_rfl) | exact trivial | rfl | omega | ((try intro _); first | apply R64 <;> omega | apply room_of <;> omega) | skip)
  refine Ok.block ?_
  refine Ok.count l.length (fun i => ⟨[(0, .d (strsD l)), (1, iS 179), (5, .d (.str (flatL (l.take i)))), (6, iS (rowsSum 0 (l.take i) : Nat)), (7, iS i)], [], []⟩) (fun _ => True) ⟨trivial, ?_⟩ ?_ ?_
  · (refine Sub.of ([]) ([]) ?_ ?_ ?_ rfl rfl <;> simp only [subB, subB1, subT, subT1, newT, subE, subV, subL, go_sem] <;> (try (repeat' with_reducible apply And.intro)) <;> (try first | exact DEq.refl _ | refine DEq.int ?_ | refine DEq.bool ?_ | omega))
  · intro i hi _
    have hlen := hr _ (getD_mem hi)
    have hti : (l.take i).length = i := by simp; omega
    have hs1 := rowsSum_le (l.take i) 0 (by omega) (fun x hx => hr x (List.mem_of_mem_take hx))
    have hfl := flatL_len (l.take i) (fun x hx => hr x (List.mem_of_mem_take hx))
    have hsn : rowsSum 0 (l.take (i + 1)) = rowsSum 0 (l.take i) + rowSum i 0 (l.getD i default) := by
      rw [getD_take hi, rowsSum_snoc, hti, Nat.zero_add]
    have hfn : flatL (l.take (i + 1)) = flatL (l.take i) ++ l.getD i default ++ [10] := by
      rw [getD_take hi, flatL_snoc]
    refine Ok.seq ?_; (((first | refine Ok.seqF rfl rfl ?_ | refine Ok.seqT rfl rfl ?_ | refine Ok.regF rfl rfl ?_ | refine Ok.regT rfl rfl ?_); simp only [go_sem]; (repeat' with_reducible apply And.intro); all_goals first | (with_reducible first | refine OkW.mk ?_ | refine EndW.mk ?_ | apply AskI.id | apply AskGI.id) | (with_reducible apply KOt.mk; kernel_rfl) | exact trivial | rfl | omega | ((try intro _); first | apply R64 <;> omega | apply room_of <;> omega) | skip)); refine Ok.cond rfl (fun _ => ?_) (fun hb => by simp at hb; omega); (refine Ok.skip ?_; (try dsimp only [thenK, blockK, noGotoK])); refine Ok.seq ?_; refine Ok.block ?_
    refine Ok.seq ?_
    ((first | refine Ok.seqF rfl rfl ?_ | refine Ok.seqT rfl rfl ?_ | refine Ok.regF rfl rfl ?_ | refine Ok.regT rfl rfl ?_); simp only [go_sem]; (repeat' with_reducible apply And.intro); all_goals first | (with_reducible first | refine OkW.mk ?_ | refine EndW.mk ?_ | apply AskI.id | apply AskGI.id) | (with_reducible apply KOt.mk; kernel_rfl) | exact trivial | rfl | omega | ((try intro _); first | apply R64 <;> omega | apply room_of <;> omega) | skip)
    refine Ok.block ?_
    refine Ok.count (l.getD i default).length (fun k => ⟨[(0, .d (strsD l)), (1, iS 179), (5, .d (.str (flatL (l.take i)))), (6, iS ((rowsSum 0 (l.take i) : Nat) + (rowSum i 0 ((l.getD i default).take k) : Nat))), (7, iS i), (8, iS k)], [], []⟩) (fun _ => True) ⟨trivial, ?_⟩ ?_ ?_
    · (refine Sub.of ([]) ([]) ?_ ?_ ?_ rfl rfl <;> simp only [subB, subB1, subT, subT1, newT, subE, subV, subL, go_sem] <;> (try (repeat' with_reducible apply And.intro)) <;> (try first | exact DEq.refl _ | refine DEq.int ?_ | refine DEq.bool ?_ | omega))
    · intro k hk _
      have htk : ((l.getD i default).take k).length = k := by rw [List.length_take]; omega
      have hs2 := rowSum_le i (by omega) ((l.getD i default).take k) 0 (by omega)
      have hrn : rowSum i 0 ((l.getD i default).take (k + 1)) = rowSum i 0 ((l.getD i default).take k) + ((l.getD i default).getD k 0).toNat * (k + 1) * (i + 1) := by
        rw [getD_take hk, rowSum_snoc, htk, Nat.zero_add, getD0]
      have hb : ((l.getD i default).getD k 0).toNat ≤ 255 := by have := ((l.getD i default).getD k 0).toNat_lt; omega
      have hk2 : (l[i]?.getD default).length = (l.getD i default).length := by rw [List.getD_eq_getElem?_getD]
      generalize hbb : ((l.getD i default).getD k 0).toNat = b at hrn hb
      have e1 := mulB (a := (b : Int)) (b := (k : Int) + 1) (A := 255) (B := 1000) (by omega) (by omega) (by omega) (by omega)
      have e2 := mulB (a := (b : Int) * ((k : Int) + 1)) (b := (i : Int) + 1) (A := 255000) (B := 1000) (by omega) (by omega) (by omega) (by omega)
      refine Ok.seq ?_; (((first | refine Ok.seqF rfl rfl ?_ | refine Ok.seqT rfl rfl ?_ | refine Ok.regF rfl rfl ?_ | refine Ok.regT rfl rfl ?_); simp only [go_sem]; (repeat' with_reducible apply And.intro); all_goals first | (with_reducible first | refine OkW.mk ?_ | refine EndW.mk ?_ | apply AskI.id | apply AskGI.id) | (with_reducible apply KOt.mk; kernel_rfl) | exact trivial | rfl | omega | ((try intro _); first | apply R64 <;> omega | apply room_of <;> omega) | skip)); refine Ok.cond rfl (fun _ => ?_) (fun hb => by simp at hb; omega); (refine Ok.skip ?_; (try dsimp only [thenK, blockK, noGotoK])); refine Ok.seq ?_; refine Ok.block ?_
      ((first | refine Ok.seqF rfl rfl ?_ | refine Ok.seqT rfl rfl ?_ | refine Ok.regF rfl rfl ?_ | refine Ok.regT rfl rfl ?_); simp only [go_sem]; (repeat' with_reducible apply And.intro); all_goals first | (with_reducible first | refine OkW.mk ?_ | refine EndW.mk ?_ | apply AskI.id | apply AskGI.id) | (with_reducible apply KOt.mk; kernel_rfl) | exact trivial | rfl | omega | ((try intro _); first | apply R64 <;> omega | apply room_of <;> omega) | skip)
      · rw [hbb]; exact R64 (by omega) (by omega)
      · rw [hbb]; exact R64 (by omega) (by omega)
      · rw [hbb]; exact R64 (by omega) (by omega)
      (try dsimp only [thenK, blockK, noGotoK])
      ((first | refine Ok.seqF rfl rfl ?_ | refine Ok.seqT rfl rfl ?_ | refine Ok.regF rfl rfl ?_ | refine Ok.regT rfl rfl ?_); simp only [go_sem]; (repeat' with_reducible apply And.intro); all_goals first | (with_reducible first | refine OkW.mk ?_ | refine EndW.mk ?_ | apply AskI.id | apply AskGI.id) | (with_reducible apply KOt.mk; kernel_rfl) | exact trivial | rfl | omega | ((try intro _); first | apply R64 <;> omega | apply room_of <;> omega) | skip)
      (try dsimp only [thenK, blockK, noGotoK])
      refine ⟨trivial, ?_⟩
      (refine Sub.of ([]) ([]) ?_ ?_ ?_ rfl rfl <;> simp only [subB, subB1, subT, subT1, newT, subE, subV, subL, go_sem] <;> (try (repeat' with_reducible apply And.intro)) <;> (try first | exact DEq.refl _ | refine DEq.int ?_ | refine DEq.bool ?_ | omega))
      rw [hrn, hbb]
      push_cast
      omega
    · intro _
      refine Ok.seq ?_; (((first | refine Ok.seqF rfl rfl ?_ | refine Ok.seqT rfl rfl ?_ | refine Ok.regF rfl rfl ?_ | refine Ok.regT rfl rfl ?_); simp only [go_sem]; (repeat' with_reducible apply And.intro); all_goals first | (with_reducible first | refine OkW.mk ?_ | refine EndW.mk ?_ | apply AskI.id | apply AskGI.id) | (with_reducible apply KOt.mk; kernel_rfl) | exact trivial | rfl | omega | ((try intro _); first | apply R64 <;> omega | apply room_of <;> omega) | skip)); refine Ok.cond rfl (fun hb => by simp at hb) (fun _ => ?_); (refine Ok.exit ?_; simp only [thenK_exit, blockK_exit, noGotoK_exit, thenK_normal, blockK_normal, noGotoK_normal, ↓reduceIte, Nat.reduceEqDiff])
      ((first | refine Ok.seqF rfl rfl ?_ | refine Ok.seqT rfl rfl ?_ | refine Ok.regF rfl rfl ?_ | refine Ok.regT rfl rfl ?_); simp only [go_sem]; (repeat' with_reducible apply And.intro); all_goals first | (with_reducible first | refine OkW.mk ?_ | refine EndW.mk ?_ | apply AskI.id | apply AskGI.id) | (with_reducible apply KOt.mk; kernel_rfl) | exact trivial | rfl | omega | ((try intro _); first | apply R64 <;> omega | apply room_of <;> omega) | skip)
      · simp only [strRoom]; omega
      · simp only [strRoom, List.length_append, List.length_cons, List.length_nil]; omega
      (try dsimp only [thenK, blockK, noGotoK])
      ((first | refine Ok.seqF rfl rfl ?_ | refine Ok.seqT rfl rfl ?_ | refine Ok.regF rfl rfl ?_ | refine Ok.regT rfl rfl ?_); simp only [go_sem]; (repeat' with_reducible apply And.intro); all_goals first | (with_reducible first | refine OkW.mk ?_ | refine EndW.mk ?_ | apply AskI.id | apply AskGI.id) | (with_reducible apply KOt.mk; kernel_rfl) | exact trivial | rfl | omega | ((try intro _); first | apply R64 <;> omega | apply room_of <;> omega) | skip)
      (try dsimp only [thenK, blockK, noGotoK])
      refine ⟨trivial, ?_⟩
      (refine Sub.of ([]) ([]) ?_ ?_ ?_ rfl rfl <;> simp only [subB, subB1, subT, subT1, newT, subE, subV, subL, go_sem] <;> (try (repeat' with_reducible apply And.intro)) <;> (try first | exact DEq.refl _ | refine DEq.int ?_ | refine DEq.bool ?_ | omega))
      · exact DEq.str (by rw [hfn])
      · rw [hsn, List.take_length]
        push_cast
        omega
  · intro _
    have hs1 := rowsSum_le l 0 (by omega) hr
    have hfl := flatL_len l hr
    rw [List.take_length]
    refine Ok.seq ?_; (((first | refine Ok.seqF rfl rfl ?_ | refine Ok.seqT rfl rfl ?_ | refine Ok.regF rfl rfl ?_ | refine Ok.regT rfl rfl ?_); simp only [go_sem]; (repeat' with_reducible apply And.intro); all_goals first | (with_reducible first | refine OkW.mk ?_ | refine EndW.mk ?_ | apply AskI.id | apply AskGI.id) | (with_reducible apply KOt.mk; kernel_rfl) | exact trivial | rfl | omega | ((try intro _); first | apply R64 <;> omega | apply room_of <;> omega) | skip)); refine Ok.cond rfl (fun hb => by simp at hb) (fun _ => ?_); (refine Ok.exit ?_; simp only [thenK_exit, blockK_exit, noGotoK_exit, thenK_normal, blockK_normal, noGotoK_normal, ↓reduceIte, Nat.reduceEqDiff])
    ((first | refine Ok.seqF rfl rfl ?_ | refine Ok.seqT rfl rfl ?_ | refine Ok.regF rfl rfl ?_ | refine Ok.regT rfl rfl ?_); simp only [go_sem]; (repeat' with_reducible apply And.intro); all_goals first | (with_reducible first | refine OkW.mk ?_ | refine EndW.mk ?_ | apply AskI.id | apply AskGI.id) | (with_reducible apply KOt.mk; kernel_rfl) | exact trivial | rfl | omega | ((try intro _); first | apply R64 <;> omega | apply room_of <;> omega) | skip)
    rw [show ((rowsSum 0 l : Nat) : Int).tmod 179 = ((rowsSum 0 l % 179 : Nat) : Int) from by rw [Int.tmod_eq_emod_of_nonneg (by omega)]; simp]
    unfold sealedL
    have hc : rowsSum 0 l % 179 < 179 := Nat.mod_lt _ (by decide)
    generalize rowsSum 0 l % 179 = c at hc
    ((first | refine Ok.seqF rfl rfl ?_ | refine Ok.seqT rfl rfl ?_ | refine Ok.regF rfl rfl ?_ | refine Ok.regT rfl rfl ?_); simp only [go_sem]; (repeat' with_reducible apply And.intro); all_goals first | (with_reducible first | refine OkW.mk ?_ | refine EndW.mk ?_ | apply AskI.id | apply AskGI.id) | (with_reducible apply KOt.mk; kernel_rfl) | exact trivial | rfl | omega | ((try intro _); first | apply R64 <;> omega | apply room_of <;> omega) | skip)
    · simp only [strRoom, List.length_cons, List.length_nil]; omega
    · rw [tdivC]; exact R64 (by omega) (by omega)
    rw [tdivC]
    have l1 := decLen (c / 100) (by omega)
    have l2 := decLen (c / 10 % 10) (by omega)
    have l3 := decLen (c % 10) (by omega)
    (refine AskI.ret (c138 (c / 100) (by omega)) ?_; simp only [go_sem]; (repeat' with_reducible apply And.intro); all_goals first | (with_reducible first | refine OkW.mk ?_ | refine EndW.mk ?_ | apply AskI.id | apply AskGI.id) | (with_reducible apply KOt.mk; kernel_rfl) | exact trivial | rfl | omega | ((try intro _); first | apply R64 <;> omega | apply room_of <;> omega) | skip)
    · simp only [strRoom, List.length_append, List.length_cons, List.length_nil]; omega
    · rw [tdivN]; exact R64 (by omega) (by omega)
    rw [tdivN, tmodN]
    (refine AskI.ret (c138 (c / 10 % 10) (by omega)) ?_; simp only [go_sem]; (repeat' with_reducible apply And.intro); all_goals first | (with_reducible first | refine OkW.mk ?_ | refine EndW.mk ?_ | apply AskI.id | apply AskGI.id) | (with_reducible apply KOt.mk; kernel_rfl) | exact trivial | rfl | omega | ((try intro _); first | apply R64 <;> omega | apply room_of <;> omega) | skip)
    · simp only [strRoom, List.length_append, List.length_cons, List.length_nil]; omega
    rw [tmodN]
    (refine AskI.ret (c138 (c % 10) (by omega)) ?_; simp only [go_sem]; (repeat' with_reducible apply And.intro); all_goals first | (with_reducible first | refine OkW.mk ?_ | refine EndW.mk ?_ | apply AskI.id | apply AskGI.id) | (with_reducible apply KOt.mk; kernel_rfl) | exact trivial | rfl | omega | ((try intro _); first | apply R64 <;> omega | apply room_of <;> omega) | skip)
    · simp only [strRoom, List.length_append, List.length_cons, List.length_nil]; omega
    · simp only [strRoom, List.length_append, List.length_cons, List.length_nil]; omega
    (refine Ok.ret ?_; (try dsimp only [thenK, blockK, noGotoK]); simp only [toList_mk, List.toList_toArray, retK_ret, retK_normal, resOK, resV, celV, rowV, frzAll, frzT, subV, subL, go_sem])
    refine DEq.str ?_
    simp [endL]
end Go.Proofs.Sight
namespace Go.Proofs.Sight
open Go Go.RX Go.Proofs
set_option maxRecDepth 10000
def sightW : List UInt8 := [115, 105, 103, 104, 116]
def boardW : List UInt8 := [98, 111, 97, 114, 100]
def letterW : List UInt8 := [108, 101, 116, 116, 101, 114]
def blockW (sure : Bool) : List UInt8 := [98, 108, 111, 99, 107] ++ (if sure then [32, 115, 117, 114, 101] else [32, 112, 101, 114, 104, 97, 112, 115])
def Street.nums (s : Street) : List Int := [s.len, s.wid, s.el, s.eh, s.ll, s.lh]
def Letter.nums (x : Letter) : List Int := [x.h, x.w, x.s, x.p]
def Block.nums (k : Block) : List Int := [k.al, k.ah, k.cl, k.ch]
def letterRow (x : Letter) : List UInt8 := rowL letterW x.nums
def boardRow (b : Board) : List UInt8 := rowL boardW [b.at_]
def blockRow (k : Block) : List UInt8 := rowL (blockW k.sure) k.nums
def boardRows (b : Board) : List (List UInt8) := boardRow b :: b.ls.map letterRow
def rowsOf (s : Street) : List (List UInt8) := rowL sightW s.nums :: (s.bs.flatMap boardRows ++ s.ks.map blockRow)
structure Street.small (s : Street) : Prop where
  n : ∀ n ∈ s.nums, 0 ≤ n ∧ n < 1000000
  b : ∀ b ∈ s.bs, 0 ≤ b.at_ ∧ b.at_ < 1000000
  l : ∀ b ∈ s.bs, ∀ x ∈ b.ls, ∀ n ∈ x.nums, 0 ≤ n ∧ n < 1000000
  k : ∀ k ∈ s.ks, ∀ n ∈ k.nums, 0 ≤ n ∧ n < 1000000
  nb : s.bs.length ≤ 100
  nl : (s.bs.flatMap boardRows).length ≤ 500
  nk : s.ks.length ≤ 100
theorem take_len_le {α : Type} (l : List α) (i : Nat) : (l.take i).length ≤ l.length := by rw [List.length_take]; omega
theorem flat_take {α β : Type} [Inhabited α] (f : α → List β) {l : List α} {i : Nat} (h : i < l.length) : (l.take (i + 1)).flatMap f = (l.take i).flatMap f ++ f (l.getD i default) := by
  rw [getD_take h, List.flatMap_append]; simp
theorem flat_take_le {α β : Type} (f : α → List β) (l : List α) (i : Nat) : ((l.take i).flatMap f).length ≤ (l.flatMap f).length := by
  have h : l.flatMap f = (l.take i).flatMap f ++ (l.drop i).flatMap f := by rw [← List.flatMap_append, List.take_append_drop]
  rw [h, List.length_append]; omega
theorem c107_6 (w : List UInt8) (hw : w.length ≤ 1000) (a b c d e f : Int) (h : ∀ n ∈ [a, b, c, d, e, f], 0 ≤ n ∧ n < 1000000) :
    Ctr Tryz.prog 107 [.d (.str w), .d (.sl 1 6 (fun i j => dget [iD a, iD b, iD c, iD d, iD e, iD f] (i * 1 + j)))] (.d (.str (rowL w [a, b, c, d, e, f]))) :=
  (c107 w [a, b, c, d, e, f] h hw (by simp)).args ⟨.refl _, ints_D [a, b, c, d, e, f], trivial⟩
theorem c107_4 (w : List UInt8) (hw : w.length ≤ 1000) (a b c d : Int) (h : ∀ n ∈ [a, b, c, d], 0 ≤ n ∧ n < 1000000) :
    Ctr Tryz.prog 107 [.d (.str w), .d (.sl 1 4 (fun i j => dget [iD a, iD b, iD c, iD d] (i * 1 + j)))] (.d (.str (rowL w [a, b, c, d]))) :=
  (c107 w [a, b, c, d] h hw (by simp)).args ⟨.refl _, ints_D [a, b, c, d], trivial⟩
theorem c107_1 (w : List UInt8) (hw : w.length ≤ 1000) (a : Int) (h : ∀ n ∈ [a], 0 ≤ n ∧ n < 1000000) :
    Ctr Tryz.prog 107 [.d (.str w), .d (.sl 1 1 (fun i j => dget [iD a] (i * 1 + j)))] (.d (.str (rowL w [a]))) :=
  (c107 w [a] h hw (by simp)).args ⟨.refl _, ints_D [a], trivial⟩
def rowsB (s : Street) (i : Nat) : List (List UInt8) := rowL sightW s.nums :: (s.bs.take i).flatMap boardRows
theorem rowsB_len (s : Street) (i : Nat) (h : s.small) : (rowsB s i).length ≤ 501 := by
  have := flat_take_le boardRows s.bs i
  have := h.nl
  simp only [rowsB, List.length_cons]; omega
theorem rowsB_succ (s : Street) {i : Nat} (h : i < s.bs.length) : rowsB s (i + 1) = rowsB s i ++ boardRows (s.bs.getD i default) := by
  simp only [rowsB, flat_take boardRows h, List.cons_append]
def rowsL (s : Street) (i j : Nat) : List (List UInt8) := rowsB s i ++ boardRow (s.bs.getD i default) :: ((s.bs.getD i default).ls.take j).map letterRow
theorem rowsL_zero (s : Street) (i : Nat) : rowsL s i 0 = rowsB s i ++ [boardRow (s.bs.getD i default)] := by simp [rowsL]
theorem rowsL_succ (s : Street) (i : Nat) {j : Nat} (h : j < (s.bs.getD i default).ls.length) : rowsL s i (j + 1) = rowsL s i j ++ [letterRow ((s.bs.getD i default).ls.getD j default)] := by
  simp only [rowsL, map_snoc letterRow h, List.append_assoc, List.cons_append]
theorem rowsL_all (s : Street) {i : Nat} (h : i < s.bs.length) : rowsL s i (s.bs.getD i default).ls.length = rowsB s (i + 1) := by
  rw [rowsB_succ s h, rowsL, List.take_length]; rfl
theorem rowsL_len (s : Street) {i j : Nat} (h : i < s.bs.length) (hs : s.small) : (rowsL s i j).length ≤ 501 := by
  have h1 := rowsB_len s (i + 1) hs
  rw [rowsB_succ s h] at h1
  have := take_len_le (s.bs.getD i default).ls j
  simp only [rowsL, boardRows, List.length_append, List.length_cons, List.length_map] at h1 ⊢
  omega
def rowsK (s : Street) (i : Nat) : List (List UInt8) := rowsB s s.bs.length ++ (s.ks.take i).map blockRow
theorem rowsK_len (s : Street) (i : Nat) (hs : s.small) : (rowsK s i).length ≤ 601 := by
  have h1 := rowsB_len s s.bs.length hs
  have := take_len_le s.ks i
  have := hs.nk
  simp only [rowsK, List.length_append, List.length_map]; omega
theorem rowsK_zero (s : Street) : rowsK s 0 = rowsB s s.bs.length := by simp [rowsK]
theorem rowsK_succ (s : Street) {i : Nat} (h : i < s.ks.length) : rowsK s (i + 1) = rowsK s i ++ [blockRow (s.ks.getD i default)] := by
  simp only [rowsK, map_snoc blockRow h, List.append_assoc]
theorem rowsK_all (s : Street) : rowsK s s.ks.length = rowsOf s := by simp [rowsK, rowsB, rowsOf]
theorem nums_len (ns : List Int) (h : ∀ n ∈ ns, 0 ≤ n ∧ n < 1000000) (w : List UInt8) (hw : w.length ≤ 20) (hn : ns.length ≤ 6) : (rowL w ns).length ≤ 1000 := by
  have := rowL_len w ns h
  omega
theorem rows_short (s : Street) (hs : s.small) : ∀ r ∈ rowsOf s, r.length ≤ 1000 := by
  intro r hr
  simp only [rowsOf, List.mem_cons, List.mem_append, List.mem_flatMap, List.mem_map, boardRows] at hr
  rcases hr with rfl | ⟨b, hb, rfl | ⟨x, hx, rfl⟩⟩ | ⟨k, hk, rfl⟩
  · exact nums_len _ hs.n _ (by decide) (Nat.le_refl 6)
  · exact nums_len _ (fun n hn => by simp at hn; subst hn; exact hs.b b hb) _ (by decide) (by simp)
  · exact nums_len _ (hs.l b hb x hx) _ (by decide) (Nat.le_succ_of_le (Nat.le_succ_of_le (Nat.le_refl 4)))
  · exact nums_len _ (hs.k k hk) _ (by unfold blockW; cases k.sure <;> decide) (Nat.le_succ_of_le (Nat.le_succ_of_le (Nat.le_refl 4)))
theorem str_snoc (x : List UInt8) : ∀ c, c < 1 → dget [DV.str x] c = strD x c := fun c hc => by
  have : c = 0 := by omega
  subst this; rfl
theorem c65 (s : Street) (hs : s.small) : Ctr Tryz.prog 65 [s.sv] (.d (.str (sealedL (rowsOf s)))) := by
  have hnb := hs.nb
  have hnk := hs.nk
  (refine Ctr.mk (fn := Tryz.f65) rfl rfl rfl rfl rfl Tryz.results65 ?_; dsimp only [args, List.toList_toArray])
  ((first | refine Ok.seqF rfl rfl ?_ | refine Ok.seqT rfl rfl ?_ | refine Ok.regF rfl rfl ?_ | refine Ok.regT rfl rfl ?_); simp only [go_sem]; (repeat' with_reducible apply And.intro); all_goals first | (with_reducible first | refine OkW.mk ?_ | refine EndW.mk ?_ | apply AskI.id | apply AskGI.id) | (with_reducible apply KOt.mk; kernel_rfl) | exact trivial | rfl | omega | ((try intro _); first | apply R64 <;> omega | apply room_of <;> omega) | skip)
  ((first | refine Ok.seqF rfl rfl ?_ | refine Ok.seqT rfl rfl ?_ | refine Ok.regF rfl rfl ?_ | refine Ok.regT rfl rfl ?_); simp only [go_sem]; (repeat' with_reducible apply And.intro); all_goals first | (with_reducible first | refine OkW.mk ?_ | refine EndW.mk ?_ | apply AskI.id | apply AskGI.id) | (with_reducible apply KOt.mk; kernel_rfl) | exact trivial | rfl | omega | ((try intro _); first | apply R64 <;> omega | apply room_of <;> omega) | skip)
  (refine AskI.ret (c107_6 sightW (by decide) _ _ _ _ _ _ hs.n) ?_; simp only [go_sem]; (repeat' with_reducible apply And.intro); all_goals first | (with_reducible first | refine OkW.mk ?_ | refine EndW.mk ?_ | apply AskI.id | apply AskGI.id) | (with_reducible apply KOt.mk; kernel_rfl) | exact trivial | rfl | omega | ((try intro _); first | apply R64 <;> omega | apply room_of <;> omega) | skip)
  refine Ok.seq ?_
  ((first | refine Ok.seqF rfl rfl ?_ | refine Ok.seqT rfl rfl ?_ | refine Ok.regF rfl rfl ?_ | refine Ok.regT rfl rfl ?_); simp only [go_sem]; (repeat' with_reducible apply And.intro); all_goals first | (with_reducible first | refine OkW.mk ?_ | refine EndW.mk ?_ | apply AskI.id | apply AskGI.id) | (with_reducible apply KOt.mk; kernel_rfl) | exact trivial | rfl | omega | ((try intro _); first | apply R64 <;> omega | apply room_of <;> omega) | skip)
  refine Ok.block ?_
  refine Ok.count s.bs.length (fun i => ⟨[(1, .p 0 0), (3, .tk 0), (4, iS i)], [streetB s], [ownD 9 1 strD (rowsB s i)]⟩) (fun _ => True) ⟨trivial, ?_⟩ ?_ ?_
  · (refine Sub.of ([0]) ([some 0]) ?_ ?_ ?_ rfl rfl <;> simp only [subB, subB1, subT, subT1, newT, subE, subV, subL, go_sem] <;> (try (repeat' with_reducible apply And.intro)) <;> (try first | exact DEq.refl _ | refine DEq.int ?_ | refine DEq.bool ?_ | omega))
    · rfl
    · intro i j hi hj
      have h1 : i = 0 := by omega
      have h2 : j = 0 := by omega
      subst h1; subst h2
      exact .refl _
  · intro i hi _
    have hl := rowsB_len s i hs
    have hb := hs.b _ (getD_mem hi)
    have hnl : (s.bs.getD i default).ls.length ≤ 501 := by
      have := rowsL_len s (j := (s.bs.getD i default).ls.length) hi hs
      simp only [rowsL, List.length_append, List.length_cons, List.length_map, List.take_length] at this
      omega
    refine Ok.seq ?_; (((first | refine Ok.seqF rfl rfl ?_ | refine Ok.seqT rfl rfl ?_ | refine Ok.regF rfl rfl ?_ | refine Ok.regT rfl rfl ?_); simp only [go_sem]; (repeat' with_reducible apply And.intro); all_goals first | (with_reducible first | refine OkW.mk ?_ | refine EndW.mk ?_ | apply AskI.id | apply AskGI.id) | (with_reducible apply KOt.mk; kernel_rfl) | exact trivial | rfl | omega | ((try intro _); first | apply R64 <;> omega | apply room_of <;> omega) | skip)); refine Ok.cond rfl (fun _ => ?_) (fun hb => by simp at hb; omega); (refine Ok.skip ?_; (try dsimp only [thenK, blockK, noGotoK])); refine Ok.seq ?_; refine Ok.block ?_
    ((first | refine Ok.seqF rfl rfl ?_ | refine Ok.seqT rfl rfl ?_ | refine Ok.regF rfl rfl ?_ | refine Ok.regT rfl rfl ?_); simp only [go_sem]; (repeat' with_reducible apply And.intro); all_goals first | (with_reducible first | refine OkW.mk ?_ | refine EndW.mk ?_ | apply AskI.id | apply AskGI.id) | (with_reducible apply KOt.mk; kernel_rfl) | exact trivial | rfl | omega | ((try intro _); first | apply R64 <;> omega | apply room_of <;> omega) | skip)
    ((first | refine Ok.seqF rfl rfl ?_ | refine Ok.seqT rfl rfl ?_ | refine Ok.regF rfl rfl ?_ | refine Ok.regT rfl rfl ?_); simp only [go_sem]; (repeat' with_reducible apply And.intro); all_goals first | (with_reducible first | refine OkW.mk ?_ | refine EndW.mk ?_ | apply AskI.id | apply AskGI.id) | (with_reducible apply KOt.mk; kernel_rfl) | exact trivial | rfl | omega | ((try intro _); first | apply R64 <;> omega | apply room_of <;> omega) | skip)
    (refine AskI.ret (c107_1 boardW (by decide) _ (fun n hn => by simp at hn; subst hn; exact hb)) ?_; simp only [go_sem]; (repeat' with_reducible apply And.intro); all_goals first | (with_reducible first | refine OkW.mk ?_ | refine EndW.mk ?_ | apply AskI.id | apply AskGI.id) | (with_reducible apply KOt.mk; kernel_rfl) | exact trivial | rfl | omega | ((try intro _); first | apply R64 <;> omega | apply room_of <;> omega) | skip)
    refine Ok.seq ?_
    ((first | refine Ok.seqF rfl rfl ?_ | refine Ok.seqT rfl rfl ?_ | refine Ok.regF rfl rfl ?_ | refine Ok.regT rfl rfl ?_); simp only [go_sem]; (repeat' with_reducible apply And.intro); all_goals first | (with_reducible first | refine OkW.mk ?_ | refine EndW.mk ?_ | apply AskI.id | apply AskGI.id) | (with_reducible apply KOt.mk; kernel_rfl) | exact trivial | rfl | omega | ((try intro _); first | apply R64 <;> omega | apply room_of <;> omega) | skip)
    refine Ok.block ?_
    refine Ok.count (s.bs.getD i default).ls.length (fun j => ⟨[(1, .p 0 0), (3, .tk 0), (4, iS i), (5, .p 1 0), (6, iS j)], [streetB s, boardB (s.bs.getD i default)], [ownD 9 1 strD (rowsL s i j)]⟩) (fun _ => True) ⟨trivial, ?_⟩ ?_ ?_
    · (refine Sub.of ([0, 1]) ([some 2]) ?_ ?_ ?_ rfl rfl <;> simp only [subB, subB1, subT, subT1, newT, subE, subV, subL, go_sem] <;> (try (repeat' with_reducible apply And.intro)) <;> (try first | exact DEq.refl _ | refine DEq.int ?_ | refine DEq.bool ?_ | omega))
      · rw [rowsL_zero]; simp
      · rw [rowsL_zero]
        exact snoc_D (str_snoc _)
    · intro j hj _
      have hl2 := rowsL_len s (j := j) hi hs
      have hx := hs.l _ (getD_mem hi) _ (getD_mem hj)
      have hk2 : (s.bs[i]?.getD default).ls.length = (s.bs.getD i default).ls.length := by rw [List.getD_eq_getElem?_getD]
      refine Ok.seq ?_; (((first | refine Ok.seqF rfl rfl ?_ | refine Ok.seqT rfl rfl ?_ | refine Ok.regF rfl rfl ?_ | refine Ok.regT rfl rfl ?_); simp only [go_sem]; (repeat' with_reducible apply And.intro); all_goals first | (with_reducible first | refine OkW.mk ?_ | refine EndW.mk ?_ | apply AskI.id | apply AskGI.id) | (with_reducible apply KOt.mk; kernel_rfl) | exact trivial | rfl | omega | ((try intro _); first | apply R64 <;> omega | apply room_of <;> omega) | skip)); refine Ok.cond rfl (fun _ => ?_) (fun hb => by simp at hb; omega); (refine Ok.skip ?_; (try dsimp only [thenK, blockK, noGotoK])); refine Ok.seq ?_; refine Ok.block ?_
      ((first | refine Ok.seqF rfl rfl ?_ | refine Ok.seqT rfl rfl ?_ | refine Ok.regF rfl rfl ?_ | refine Ok.regT rfl rfl ?_); simp only [go_sem]; (repeat' with_reducible apply And.intro); all_goals first | (with_reducible first | refine OkW.mk ?_ | refine EndW.mk ?_ | apply AskI.id | apply AskGI.id) | (with_reducible apply KOt.mk; kernel_rfl) | exact trivial | rfl | omega | ((try intro _); first | apply R64 <;> omega | apply room_of <;> omega) | skip)
      ((first | refine Ok.seqF rfl rfl ?_ | refine Ok.seqT rfl rfl ?_ | refine Ok.regF rfl rfl ?_ | refine Ok.regT rfl rfl ?_); simp only [go_sem]; (repeat' with_reducible apply And.intro); all_goals first | (with_reducible first | refine OkW.mk ?_ | refine EndW.mk ?_ | apply AskI.id | apply AskGI.id) | (with_reducible apply KOt.mk; kernel_rfl) | exact trivial | rfl | omega | ((try intro _); first | apply R64 <;> omega | apply room_of <;> omega) | skip)
      (refine AskI.ret (c107_4 letterW (by decide) _ _ _ _ hx) ?_; simp only [go_sem]; (repeat' with_reducible apply And.intro); all_goals first | (with_reducible first | refine OkW.mk ?_ | refine EndW.mk ?_ | apply AskI.id | apply AskGI.id) | (with_reducible apply KOt.mk; kernel_rfl) | exact trivial | rfl | omega | ((try intro _); first | apply R64 <;> omega | apply room_of <;> omega) | skip)
      (try dsimp only [thenK, blockK, noGotoK])
      ((first | refine Ok.seqF rfl rfl ?_ | refine Ok.seqT rfl rfl ?_ | refine Ok.regF rfl rfl ?_ | refine Ok.regT rfl rfl ?_); simp only [go_sem]; (repeat' with_reducible apply And.intro); all_goals first | (with_reducible first | refine OkW.mk ?_ | refine EndW.mk ?_ | apply AskI.id | apply AskGI.id) | (with_reducible apply KOt.mk; kernel_rfl) | exact trivial | rfl | omega | ((try intro _); first | apply R64 <;> omega | apply room_of <;> omega) | skip)
      (try dsimp only [thenK, blockK, noGotoK])
      refine ⟨trivial, ?_⟩
      (refine Sub.of ([0, 1]) ([some 2]) ?_ ?_ ?_ rfl rfl <;> simp only [subB, subB1, subT, subT1, newT, subE, subV, subL, go_sem] <;> (try (repeat' with_reducible apply And.intro)) <;> (try first | exact DEq.refl _ | refine DEq.int ?_ | refine DEq.bool ?_ | omega))
      · rw [rowsL_succ s i hj]; simp
      · rw [rowsL_succ s i hj]
        exact snoc_D (str_snoc _)
    · intro _
      refine Ok.seq ?_; (((first | refine Ok.seqF rfl rfl ?_ | refine Ok.seqT rfl rfl ?_ | refine Ok.regF rfl rfl ?_ | refine Ok.regT rfl rfl ?_); simp only [go_sem]; (repeat' with_reducible apply And.intro); all_goals first | (with_reducible first | refine OkW.mk ?_ | refine EndW.mk ?_ | apply AskI.id | apply AskGI.id) | (with_reducible apply KOt.mk; kernel_rfl) | exact trivial | rfl | omega | ((try intro _); first | apply R64 <;> omega | apply room_of <;> omega) | skip)); refine Ok.cond rfl (fun hb => by simp at hb) (fun _ => ?_); (refine Ok.exit ?_; simp only [thenK_exit, blockK_exit, noGotoK_exit, thenK_normal, blockK_normal, noGotoK_normal, ↓reduceIte, Nat.reduceEqDiff])
      (try dsimp only [thenK, blockK, noGotoK])
      ((first | refine Ok.seqF rfl rfl ?_ | refine Ok.seqT rfl rfl ?_ | refine Ok.regF rfl rfl ?_ | refine Ok.regT rfl rfl ?_); simp only [go_sem]; (repeat' with_reducible apply And.intro); all_goals first | (with_reducible first | refine OkW.mk ?_ | refine EndW.mk ?_ | apply AskI.id | apply AskGI.id) | (with_reducible apply KOt.mk; kernel_rfl) | exact trivial | rfl | omega | ((try intro _); first | apply R64 <;> omega | apply room_of <;> omega) | skip)
      (try dsimp only [thenK, blockK, noGotoK])
      refine ⟨trivial, ?_⟩
      rw [rowsL_all s hi]
      (refine Sub.of ([0]) ([some 0]) ?_ ?_ ?_ rfl rfl <;> simp only [subB, subB1, subT, subT1, newT, subE, subV, subL, go_sem] <;> (try (repeat' with_reducible apply And.intro)) <;> (try first | exact DEq.refl _ | refine DEq.int ?_ | refine DEq.bool ?_ | omega))
      exact fun _ _ _ _ => DEq.refl _
  · intro _
    refine Ok.seq ?_; (((first | refine Ok.seqF rfl rfl ?_ | refine Ok.seqT rfl rfl ?_ | refine Ok.regF rfl rfl ?_ | refine Ok.regT rfl rfl ?_); simp only [go_sem]; (repeat' with_reducible apply And.intro); all_goals first | (with_reducible first | refine OkW.mk ?_ | refine EndW.mk ?_ | apply AskI.id | apply AskGI.id) | (with_reducible apply KOt.mk; kernel_rfl) | exact trivial | rfl | omega | ((try intro _); first | apply R64 <;> omega | apply room_of <;> omega) | skip)); refine Ok.cond rfl (fun hb => by simp at hb) (fun _ => ?_); (refine Ok.exit ?_; simp only [thenK_exit, blockK_exit, noGotoK_exit, thenK_normal, blockK_normal, noGotoK_normal, ↓reduceIte, Nat.reduceEqDiff])
    refine Ok.seq ?_
    ((first | refine Ok.seqF rfl rfl ?_ | refine Ok.seqT rfl rfl ?_ | refine Ok.regF rfl rfl ?_ | refine Ok.regT rfl rfl ?_); simp only [go_sem]; (repeat' with_reducible apply And.intro); all_goals first | (with_reducible first | refine OkW.mk ?_ | refine EndW.mk ?_ | apply AskI.id | apply AskGI.id) | (with_reducible apply KOt.mk; kernel_rfl) | exact trivial | rfl | omega | ((try intro _); first | apply R64 <;> omega | apply room_of <;> omega) | skip)
    refine Ok.block ?_
    refine Ok.count s.ks.length (fun i => ⟨[(1, .p 0 0), (3, .tk 0), (8, iS i)], [streetB s], [ownD 9 1 strD (rowsK s i)]⟩) (fun _ => True) ⟨trivial, ?_⟩ ?_ ?_
    · rw [rowsK_zero]
      (refine Sub.of ([0]) ([some 0]) ?_ ?_ ?_ rfl rfl <;> simp only [subB, subB1, subT, subT1, newT, subE, subV, subL, go_sem] <;> (try (repeat' with_reducible apply And.intro)) <;> (try first | exact DEq.refl _ | refine DEq.int ?_ | refine DEq.bool ?_ | omega))
      exact fun _ _ _ _ => DEq.refl _
    · intro i hi _
      have hl := rowsK_len s i hs
      have hx := hs.k _ (getD_mem hi)
      refine Ok.seq ?_; (((first | refine Ok.seqF rfl rfl ?_ | refine Ok.seqT rfl rfl ?_ | refine Ok.regF rfl rfl ?_ | refine Ok.regT rfl rfl ?_); simp only [go_sem]; (repeat' with_reducible apply And.intro); all_goals first | (with_reducible first | refine OkW.mk ?_ | refine EndW.mk ?_ | apply AskI.id | apply AskGI.id) | (with_reducible apply KOt.mk; kernel_rfl) | exact trivial | rfl | omega | ((try intro _); first | apply R64 <;> omega | apply room_of <;> omega) | skip)); refine Ok.cond rfl (fun _ => ?_) (fun hb => by simp at hb; omega); (refine Ok.skip ?_; (try dsimp only [thenK, blockK, noGotoK])); refine Ok.seq ?_; refine Ok.block ?_
      ((first | refine Ok.seqF rfl rfl ?_ | refine Ok.seqT rfl rfl ?_ | refine Ok.regF rfl rfl ?_ | refine Ok.regT rfl rfl ?_); simp only [go_sem]; (repeat' with_reducible apply And.intro); all_goals first | (with_reducible first | refine OkW.mk ?_ | refine EndW.mk ?_ | apply AskI.id | apply AskGI.id) | (with_reducible apply KOt.mk; kernel_rfl) | exact trivial | rfl | omega | ((try intro _); first | apply R64 <;> omega | apply room_of <;> omega) | skip)
      ((first | refine Ok.seqF rfl rfl ?_ | refine Ok.seqT rfl rfl ?_ | refine Ok.regF rfl rfl ?_ | refine Ok.regT rfl rfl ?_); simp only [go_sem]; (repeat' with_reducible apply And.intro); all_goals first | (with_reducible first | refine OkW.mk ?_ | refine EndW.mk ?_ | apply AskI.id | apply AskGI.id) | (with_reducible apply KOt.mk; kernel_rfl) | exact trivial | rfl | omega | ((try intro _); first | apply R64 <;> omega | apply room_of <;> omega) | skip)
      refine Ok.seq ?_
      ((first | refine Ok.seqF rfl rfl ?_ | refine Ok.seqT rfl rfl ?_ | refine Ok.regF rfl rfl ?_ | refine Ok.regT rfl rfl ?_); simp only [go_sem]; (repeat' with_reducible apply And.intro); all_goals first | (with_reducible first | refine OkW.mk ?_ | refine EndW.mk ?_ | apply AskI.id | apply AskGI.id) | (with_reducible apply KOt.mk; kernel_rfl) | exact trivial | rfl | omega | ((try intro _); first | apply R64 <;> omega | apply room_of <;> omega) | skip)
      refine Ok.cond rfl ?_ ?_
      · intro hb
        have hr : blockRow (s.ks.getD i default) = rowL [98, 108, 111, 99, 107, 32, 115, 117, 114, 101] (s.ks.getD i default).nums := by
          simp only [blockRow, hb, blockW, if_true]; rfl
        ((first | refine Ok.seqF rfl rfl ?_ | refine Ok.seqT rfl rfl ?_ | refine Ok.regF rfl rfl ?_ | refine Ok.regT rfl rfl ?_); simp only [go_sem]; (repeat' with_reducible apply And.intro); all_goals first | (with_reducible first | refine OkW.mk ?_ | refine EndW.mk ?_ | apply AskI.id | apply AskGI.id) | (with_reducible apply KOt.mk; kernel_rfl) | exact trivial | rfl | omega | ((try intro _); first | apply R64 <;> omega | apply room_of <;> omega) | skip)
        ((first | refine Ok.seqF rfl rfl ?_ | refine Ok.seqT rfl rfl ?_ | refine Ok.regF rfl rfl ?_ | refine Ok.regT rfl rfl ?_); simp only [go_sem]; (repeat' with_reducible apply And.intro); all_goals first | (with_reducible first | refine OkW.mk ?_ | refine EndW.mk ?_ | apply AskI.id | apply AskGI.id) | (with_reducible apply KOt.mk; kernel_rfl) | exact trivial | rfl | omega | ((try intro _); first | apply R64 <;> omega | apply room_of <;> omega) | skip)
        (refine AskI.ret (c107_4 _ (by decide) _ _ _ _ hx) ?_; simp only [go_sem]; (repeat' with_reducible apply And.intro); all_goals first | (with_reducible first | refine OkW.mk ?_ | refine EndW.mk ?_ | apply AskI.id | apply AskGI.id) | (with_reducible apply KOt.mk; kernel_rfl) | exact trivial | rfl | omega | ((try intro _); first | apply R64 <;> omega | apply room_of <;> omega) | skip)
        (try dsimp only [thenK, blockK, noGotoK])
        ((first | refine Ok.seqF rfl rfl ?_ | refine Ok.seqT rfl rfl ?_ | refine Ok.regF rfl rfl ?_ | refine Ok.regT rfl rfl ?_); simp only [go_sem]; (repeat' with_reducible apply And.intro); all_goals first | (with_reducible first | refine OkW.mk ?_ | refine EndW.mk ?_ | apply AskI.id | apply AskGI.id) | (with_reducible apply KOt.mk; kernel_rfl) | exact trivial | rfl | omega | ((try intro _); first | apply R64 <;> omega | apply room_of <;> omega) | skip)
        (try dsimp only [thenK, blockK, noGotoK])
        refine ⟨trivial, ?_⟩
        (refine Sub.of ([0]) ([some 2]) ?_ ?_ ?_ rfl rfl <;> simp only [subB, subB1, subT, subT1, newT, subE, subV, subL, go_sem] <;> (try (repeat' with_reducible apply And.intro)) <;> (try first | exact DEq.refl _ | refine DEq.int ?_ | refine DEq.bool ?_ | omega))
        · rw [rowsK_succ s hi]; simp
        · rw [rowsK_succ s hi, hr]
          exact snoc_D (str_snoc _)
      · intro hb
        have hr : blockRow (s.ks.getD i default) = rowL [98, 108, 111, 99, 107, 32, 112, 101, 114, 104, 97, 112, 115] (s.ks.getD i default).nums := by
          simp only [blockRow, hb, blockW]; rfl
        (refine Ok.skip ?_; (try dsimp only [thenK, blockK, noGotoK]))
        ((first | refine Ok.seqF rfl rfl ?_ | refine Ok.seqT rfl rfl ?_ | refine Ok.regF rfl rfl ?_ | refine Ok.regT rfl rfl ?_); simp only [go_sem]; (repeat' with_reducible apply And.intro); all_goals first | (with_reducible first | refine OkW.mk ?_ | refine EndW.mk ?_ | apply AskI.id | apply AskGI.id) | (with_reducible apply KOt.mk; kernel_rfl) | exact trivial | rfl | omega | ((try intro _); first | apply R64 <;> omega | apply room_of <;> omega) | skip)
        (refine AskI.ret (c107_4 _ (by decide) _ _ _ _ hx) ?_; simp only [go_sem]; (repeat' with_reducible apply And.intro); all_goals first | (with_reducible first | refine OkW.mk ?_ | refine EndW.mk ?_ | apply AskI.id | apply AskGI.id) | (with_reducible apply KOt.mk; kernel_rfl) | exact trivial | rfl | omega | ((try intro _); first | apply R64 <;> omega | apply room_of <;> omega) | skip)
        (try dsimp only [thenK, blockK, noGotoK])
        ((first | refine Ok.seqF rfl rfl ?_ | refine Ok.seqT rfl rfl ?_ | refine Ok.regF rfl rfl ?_ | refine Ok.regT rfl rfl ?_); simp only [go_sem]; (repeat' with_reducible apply And.intro); all_goals first | (with_reducible first | refine OkW.mk ?_ | refine EndW.mk ?_ | apply AskI.id | apply AskGI.id) | (with_reducible apply KOt.mk; kernel_rfl) | exact trivial | rfl | omega | ((try intro _); first | apply R64 <;> omega | apply room_of <;> omega) | skip)
        (try dsimp only [thenK, blockK, noGotoK])
        refine ⟨trivial, ?_⟩
        (refine Sub.of ([0]) ([some 2]) ?_ ?_ ?_ rfl rfl <;> simp only [subB, subB1, subT, subT1, newT, subE, subV, subL, go_sem] <;> (try (repeat' with_reducible apply And.intro)) <;> (try first | exact DEq.refl _ | refine DEq.int ?_ | refine DEq.bool ?_ | omega))
        · rw [rowsK_succ s hi]; simp
        · rw [rowsK_succ s hi, hr]
          exact snoc_D (str_snoc _)
    · intro _
      rw [rowsK_all]
      refine Ok.seq ?_; (((first | refine Ok.seqF rfl rfl ?_ | refine Ok.seqT rfl rfl ?_ | refine Ok.regF rfl rfl ?_ | refine Ok.regT rfl rfl ?_); simp only [go_sem]; (repeat' with_reducible apply And.intro); all_goals first | (with_reducible first | refine OkW.mk ?_ | refine EndW.mk ?_ | apply AskI.id | apply AskGI.id) | (with_reducible apply KOt.mk; kernel_rfl) | exact trivial | rfl | omega | ((try intro _); first | apply R64 <;> omega | apply room_of <;> omega) | skip)); refine Ok.cond rfl (fun hb => by simp at hb) (fun _ => ?_); (refine Ok.exit ?_; simp only [thenK_exit, blockK_exit, noGotoK_exit, thenK_normal, blockK_normal, noGotoK_normal, ↓reduceIte, Nat.reduceEqDiff])
      ((first | refine Ok.seqF rfl rfl ?_ | refine Ok.seqT rfl rfl ?_ | refine Ok.regF rfl rfl ?_ | refine Ok.regT rfl rfl ?_); simp only [go_sem]; (repeat' with_reducible apply And.intro); all_goals first | (with_reducible first | refine OkW.mk ?_ | refine EndW.mk ?_ | apply AskI.id | apply AskGI.id) | (with_reducible apply KOt.mk; kernel_rfl) | exact trivial | rfl | omega | ((try intro _); first | apply R64 <;> omega | apply room_of <;> omega) | skip)
      (refine AskI.ret (c108 _ (by have := rowsK_len s s.ks.length hs; rw [rowsK_all] at this; omega) (rows_short s hs)) ?_; simp only [go_sem]; (repeat' with_reducible apply And.intro); all_goals first | (with_reducible first | refine OkW.mk ?_ | refine EndW.mk ?_ | apply AskI.id | apply AskGI.id) | (with_reducible apply KOt.mk; kernel_rfl) | exact trivial | rfl | omega | ((try intro _); first | apply R64 <;> omega | apply room_of <;> omega) | skip)
      (refine Ok.ret ?_; (try dsimp only [thenK, blockK, noGotoK]); simp only [toList_mk, List.toList_toArray, retK_ret, retK_normal, resOK, resV, celV, rowV, frzAll, frzT, subV, subL, go_sem])
      ((repeat' with_reducible apply And.intro) <;> (first | exact DEq.refl _ | refine DEq.int ?_ | refine DEq.bool ?_ | skip))
end Go.Proofs.Sight
namespace Go.Proofs.Sight
open Go Go.RX Go.Proofs
set_option maxRecDepth 10000
theorem c137 : Ctr Tryz.prog 137 [] (.agg [.d (.str sightW), .d (.str boardW), .d (.str letterW), .d (.str [98, 108, 111, 99, 107])]) := by
  (refine Ctr.mk (fn := Tryz.f137) rfl rfl rfl rfl rfl Tryz.results137 ?_; dsimp only [args, List.toList_toArray])
  ((first | refine Ok.seqF rfl rfl ?_ | refine Ok.seqT rfl rfl ?_ | refine Ok.regF rfl rfl ?_ | refine Ok.regT rfl rfl ?_); simp only [go_sem]; (repeat' with_reducible apply And.intro); all_goals first | (with_reducible first | refine OkW.mk ?_ | refine EndW.mk ?_ | apply AskI.id | apply AskGI.id) | (with_reducible apply KOt.mk; kernel_rfl) | exact trivial | rfl | omega | ((try intro _); first | apply R64 <;> omega | apply room_of <;> omega) | skip)
  ((first | refine Ok.seqF rfl rfl ?_ | refine Ok.seqT rfl rfl ?_ | refine Ok.regF rfl rfl ?_ | refine Ok.regT rfl rfl ?_); simp only [go_sem]; (repeat' with_reducible apply And.intro); all_goals first | (with_reducible first | refine OkW.mk ?_ | refine EndW.mk ?_ | apply AskI.id | apply AskGI.id) | (with_reducible apply KOt.mk; kernel_rfl) | exact trivial | rfl | omega | ((try intro _); first | apply R64 <;> omega | apply room_of <;> omega) | skip)
  (refine Ok.ret ?_; (try dsimp only [thenK, blockK, noGotoK]); simp only [toList_mk, List.toList_toArray, retK_ret, retK_normal, resOK, resV, celV, rowV, frzAll, frzT, subV, subL, go_sem])
  exact ⟨.refl _, .refl _, .refl _, .refl _⟩
theorem c202 (s : Street) : Ctr Tryz.prog 202 [s.sv] (.d (slD 1 intD s.nums)) := by
  (refine Ctr.mk (fn := Tryz.f202) rfl rfl rfl rfl rfl Tryz.results202 ?_; dsimp only [args, List.toList_toArray])
  ((first | refine Ok.seqF rfl rfl ?_ | refine Ok.seqT rfl rfl ?_ | refine Ok.regF rfl rfl ?_ | refine Ok.regT rfl rfl ?_); simp only [go_sem]; (repeat' with_reducible apply And.intro); all_goals first | (with_reducible first | refine OkW.mk ?_ | refine EndW.mk ?_ | apply AskI.id | apply AskGI.id) | (with_reducible apply KOt.mk; kernel_rfl) | exact trivial | rfl | omega | ((try intro _); first | apply R64 <;> omega | apply room_of <;> omega) | skip)
  ((first | refine Ok.seqF rfl rfl ?_ | refine Ok.seqT rfl rfl ?_ | refine Ok.regF rfl rfl ?_ | refine Ok.regT rfl rfl ?_); simp only [go_sem]; (repeat' with_reducible apply And.intro); all_goals first | (with_reducible first | refine OkW.mk ?_ | refine EndW.mk ?_ | apply AskI.id | apply AskGI.id) | (with_reducible apply KOt.mk; kernel_rfl) | exact trivial | rfl | omega | ((try intro _); first | apply R64 <;> omega | apply room_of <;> omega) | skip)
  (refine Ok.ret ?_; (try dsimp only [thenK, blockK, noGotoK]); simp only [toList_mk, List.toList_toArray, retK_ret, retK_normal, resOK, resV, celV, rowV, frzAll, frzT, subV, subL, go_sem])
  exact ints_D s.nums
theorem c203 (b : Board) : Ctr Tryz.prog 203 [b.sv] (.d (slD 1 intD [b.at_])) := by
  (refine Ctr.mk (fn := Tryz.f203) rfl rfl rfl rfl rfl Tryz.results203 ?_; dsimp only [args, List.toList_toArray])
  ((first | refine Ok.seqF rfl rfl ?_ | refine Ok.seqT rfl rfl ?_ | refine Ok.regF rfl rfl ?_ | refine Ok.regT rfl rfl ?_); simp only [go_sem]; (repeat' with_reducible apply And.intro); all_goals first | (with_reducible first | refine OkW.mk ?_ | refine EndW.mk ?_ | apply AskI.id | apply AskGI.id) | (with_reducible apply KOt.mk; kernel_rfl) | exact trivial | rfl | omega | ((try intro _); first | apply R64 <;> omega | apply room_of <;> omega) | skip)
  ((first | refine Ok.seqF rfl rfl ?_ | refine Ok.seqT rfl rfl ?_ | refine Ok.regF rfl rfl ?_ | refine Ok.regT rfl rfl ?_); simp only [go_sem]; (repeat' with_reducible apply And.intro); all_goals first | (with_reducible first | refine OkW.mk ?_ | refine EndW.mk ?_ | apply AskI.id | apply AskGI.id) | (with_reducible apply KOt.mk; kernel_rfl) | exact trivial | rfl | omega | ((try intro _); first | apply R64 <;> omega | apply room_of <;> omega) | skip)
  (refine Ok.ret ?_; (try dsimp only [thenK, blockK, noGotoK]); simp only [toList_mk, List.toList_toArray, retK_ret, retK_normal, resOK, resV, celV, rowV, frzAll, frzT, subV, subL, go_sem])
  exact ints_D [b.at_]
theorem c204 (x : Letter) : Ctr Tryz.prog 204 [x.sv] (.d (slD 1 intD x.nums)) := by
  (refine Ctr.mk (fn := Tryz.f204) rfl rfl rfl rfl rfl Tryz.results204 ?_; dsimp only [args, List.toList_toArray])
  ((first | refine Ok.seqF rfl rfl ?_ | refine Ok.seqT rfl rfl ?_ | refine Ok.regF rfl rfl ?_ | refine Ok.regT rfl rfl ?_); simp only [go_sem]; (repeat' with_reducible apply And.intro); all_goals first | (with_reducible first | refine OkW.mk ?_ | refine EndW.mk ?_ | apply AskI.id | apply AskGI.id) | (with_reducible apply KOt.mk; kernel_rfl) | exact trivial | rfl | omega | ((try intro _); first | apply R64 <;> omega | apply room_of <;> omega) | skip)
  ((first | refine Ok.seqF rfl rfl ?_ | refine Ok.seqT rfl rfl ?_ | refine Ok.regF rfl rfl ?_ | refine Ok.regT rfl rfl ?_); simp only [go_sem]; (repeat' with_reducible apply And.intro); all_goals first | (with_reducible first | refine OkW.mk ?_ | refine EndW.mk ?_ | apply AskI.id | apply AskGI.id) | (with_reducible apply KOt.mk; kernel_rfl) | exact trivial | rfl | omega | ((try intro _); first | apply R64 <;> omega | apply room_of <;> omega) | skip)
  (refine Ok.ret ?_; (try dsimp only [thenK, blockK, noGotoK]); simp only [toList_mk, List.toList_toArray, retK_ret, retK_normal, resOK, resV, celV, rowV, frzAll, frzT, subV, subL, go_sem])
  exact ints_D x.nums
theorem c205 (k : Block) : Ctr Tryz.prog 205 [k.sv] (.d (slD 1 intD k.nums)) := by
  (refine Ctr.mk (fn := Tryz.f205) rfl rfl rfl rfl rfl Tryz.results205 ?_; dsimp only [args, List.toList_toArray])
  ((first | refine Ok.seqF rfl rfl ?_ | refine Ok.seqT rfl rfl ?_ | refine Ok.regF rfl rfl ?_ | refine Ok.regT rfl rfl ?_); simp only [go_sem]; (repeat' with_reducible apply And.intro); all_goals first | (with_reducible first | refine OkW.mk ?_ | refine EndW.mk ?_ | apply AskI.id | apply AskGI.id) | (with_reducible apply KOt.mk; kernel_rfl) | exact trivial | rfl | omega | ((try intro _); first | apply R64 <;> omega | apply room_of <;> omega) | skip)
  ((first | refine Ok.seqF rfl rfl ?_ | refine Ok.seqT rfl rfl ?_ | refine Ok.regF rfl rfl ?_ | refine Ok.regT rfl rfl ?_); simp only [go_sem]; (repeat' with_reducible apply And.intro); all_goals first | (with_reducible first | refine OkW.mk ?_ | refine EndW.mk ?_ | apply AskI.id | apply AskGI.id) | (with_reducible apply KOt.mk; kernel_rfl) | exact trivial | rfl | omega | ((try intro _); first | apply R64 <;> omega | apply room_of <;> omega) | skip)
  (refine Ok.ret ?_; (try dsimp only [thenK, blockK, noGotoK]); simp only [toList_mk, List.toList_toArray, retK_ret, retK_normal, resOK, resV, celV, rowV, frzAll, frzT, subV, subL, go_sem])
  exact ints_D k.nums
def Letter.cells (x : Letter) : List DV := [iD x.h, iD x.w, iD x.s, iD x.p]
def Board.cells (b : Board) : List DV := [iD b.at_, slD 4 letD b.ls]
def Block.cells (k : Block) : List DV := [iD k.al, iD k.ah, iD k.cl, iD k.ch, .bool k.sure]
theorem c131h (s : Street) (hns : ∀ n ∈ s.nums, 0 ≤ n ∧ n < 1000000) : Ctr Tryz.prog 131 [.d (.ifc 169 8 (dget s.cells))] (.d (.str (rowL sightW s.nums))) := by
  have hlen : (s.nums).length ≤ 6 := by simp [Street.nums, Letter.nums, Block.nums]
  unfold Street.cells
  (refine Ctr.mk (fn := Tryz.f131) rfl rfl rfl rfl rfl Tryz.results131 ?_; dsimp only [args, List.toList_toArray])
  ((first | refine Ok.seqF rfl rfl ?_ | refine Ok.seqT rfl rfl ?_ | refine Ok.regF rfl rfl ?_ | refine Ok.regT rfl rfl ?_); simp only [go_sem]; (repeat' with_reducible apply And.intro); all_goals first | (with_reducible first | refine OkW.mk ?_ | refine EndW.mk ?_ | apply AskI.id | apply AskGI.id) | (with_reducible apply KOt.mk; kernel_rfl) | exact trivial | rfl | omega | ((try intro _); first | apply R64 <;> omega | apply room_of <;> omega) | skip)
  ((first | refine Ok.seqF rfl rfl ?_ | refine Ok.seqT rfl rfl ?_ | refine Ok.regF rfl rfl ?_ | refine Ok.regT rfl rfl ?_); simp only [go_sem]; (repeat' with_reducible apply And.intro); all_goals first | (with_reducible first | refine OkW.mk ?_ | refine EndW.mk ?_ | apply AskI.id | apply AskGI.id) | (with_reducible apply KOt.mk; kernel_rfl) | exact trivial | rfl | omega | ((try intro _); first | apply R64 <;> omega | apply room_of <;> omega) | skip)
  refine Ok.seq ?_
  ((first | refine Ok.seqF rfl rfl ?_ | refine Ok.seqT rfl rfl ?_ | refine Ok.regF rfl rfl ?_ | refine Ok.regT rfl rfl ?_); simp only [go_sem]; (repeat' with_reducible apply And.intro); all_goals first | (with_reducible first | refine OkW.mk ?_ | refine EndW.mk ?_ | apply AskI.id | apply AskGI.id) | (with_reducible apply KOt.mk; kernel_rfl) | exact trivial | rfl | omega | ((try intro _); first | apply R64 <;> omega | apply room_of <;> omega) | skip)
  refine Ok.block ?_
  ((first | refine Ok.seqF rfl rfl ?_ | refine Ok.seqT rfl rfl ?_ | refine Ok.regF rfl rfl ?_ | refine Ok.regT rfl rfl ?_); simp only [go_sem]; (repeat' with_reducible apply And.intro); all_goals first | (with_reducible first | refine OkW.mk ?_ | refine EndW.mk ?_ | apply AskI.id | apply AskGI.id) | (with_reducible apply KOt.mk; kernel_rfl) | exact trivial | rfl | omega | ((try intro _); first | apply R64 <;> omega | apply room_of <;> omega) | skip)
  refine Ok.cond (b := true) (by first | rfl | (simp only [go_sem]; rfl)) (fun _ => ?_) (fun hb => by cases hb)
  ((first | refine Ok.seqF rfl rfl ?_ | refine Ok.seqT rfl rfl ?_ | refine Ok.regF rfl rfl ?_ | refine Ok.regT rfl rfl ?_); simp only [go_sem]; (repeat' with_reducible apply And.intro); all_goals first | (with_reducible first | refine OkW.mk ?_ | refine EndW.mk ?_ | apply AskI.id | apply AskGI.id) | (with_reducible apply KOt.mk; kernel_rfl) | exact trivial | rfl | omega | ((try intro _); first | apply R64 <;> omega | apply room_of <;> omega) | skip)
  ((first | refine Ok.seqF rfl rfl ?_ | refine Ok.seqT rfl rfl ?_ | refine Ok.regF rfl rfl ?_ | refine Ok.regT rfl rfl ?_); simp only [go_sem]; (repeat' with_reducible apply And.intro); all_goals first | (with_reducible first | refine OkW.mk ?_ | refine EndW.mk ?_ | apply AskI.id | apply AskGI.id) | (with_reducible apply KOt.mk; kernel_rfl) | exact trivial | rfl | omega | ((try intro _); first | apply R64 <;> omega | apply room_of <;> omega) | skip)
  (refine AskI.ret (c137) ?_; simp only [go_sem]; (repeat' with_reducible apply And.intro); all_goals first | (with_reducible first | refine OkW.mk ?_ | refine EndW.mk ?_ | apply AskI.id | apply AskGI.id) | (with_reducible apply KOt.mk; kernel_rfl) | exact trivial | rfl | omega | ((try intro _); first | apply R64 <;> omega | apply room_of <;> omega) | skip)

  (try dsimp only [thenK, blockK, noGotoK])
  refine Ok.seq ?_
  ((first | refine Ok.seqF rfl rfl ?_ | refine Ok.seqT rfl rfl ?_ | refine Ok.regF rfl rfl ?_ | refine Ok.regT rfl rfl ?_); simp only [go_sem]; (repeat' with_reducible apply And.intro); all_goals first | (with_reducible first | refine OkW.mk ?_ | refine EndW.mk ?_ | apply AskI.id | apply AskGI.id) | (with_reducible apply KOt.mk; kernel_rfl) | exact trivial | rfl | omega | ((try intro _); first | apply R64 <;> omega | apply room_of <;> omega) | skip)
  (refine AskI.ret (c202 s) ?_; simp only [go_sem]; (repeat' with_reducible apply And.intro); all_goals first | (with_reducible first | refine OkW.mk ?_ | refine EndW.mk ?_ | apply AskI.id | apply AskGI.id) | (with_reducible apply KOt.mk; kernel_rfl) | exact trivial | rfl | omega | ((try intro _); first | apply R64 <;> omega | apply room_of <;> omega) | skip)
  have hw : (sightW : List UInt8).length ≤ 20 := by decide
  refine Ok.block ?_
  generalize hNS : s.nums = ns at hns hlen ⊢
  generalize hW : sightW = wd at hw ⊢
  refine Ok.count ns.length (fun i => ⟨[(3, .d (.str (rowL wd (ns.take i)))), (39, .d (slD 1 intD ns)), (40, iS ns.length), (41, iS i)], [], []⟩) (fun _ => True) ⟨trivial, ?_⟩ ?_ ?_
  · (refine Sub.of ([]) ([]) ?_ ?_ ?_ rfl rfl <;> simp only [subB, subB1, subT, subT1, newT, subE, subV, subL, go_sem] <;> (try (repeat' with_reducible apply And.intro)) <;> (try first | exact DEq.refl _ | refine DEq.int ?_ | refine DEq.bool ?_ | omega))
    all_goals first | (rw [← hNS]; rfl) | (refine DEq.str ?_; rw [rowL_nil, ← hW, hk]; rfl) | (refine DEq.str ?_; rw [rowL_nil])
  · intro i hi _
    have hb := hns _ (getD_mem hi)
    have hl := rowL_len wd (ns.take i) (fun x hx => hns x (List.mem_of_mem_take hx))
    have hti : (ns.take i).length = i := by simp; omega
    have hil := itoaLen _ hb.1 hb.2
    have hsn : rowL wd (ns.take (i + 1)) = rowL wd (ns.take i) ++ [32] ++ Lib.itoa (ns.getD i default) := by rw [getD_take hi, rowL_snoc]
    (((first | refine Ok.seqF rfl rfl ?_ | refine Ok.seqT rfl rfl ?_ | refine Ok.regF rfl rfl ?_ | refine Ok.regT rfl rfl ?_); simp only [go_sem]; (repeat' with_reducible apply And.intro); all_goals first | (with_reducible first | refine OkW.mk ?_ | refine EndW.mk ?_ | apply AskI.id | apply AskGI.id) | (with_reducible apply KOt.mk; kernel_rfl) | exact trivial | rfl | omega | ((try intro _); first | apply R64 <;> omega | apply room_of <;> omega) | skip)); refine Ok.seq ?_; refine Ok.cond rfl (fun _ => ?_) (fun hb => by simp at hb; omega); (refine Ok.skip ?_; (try dsimp only [thenK, blockK, noGotoK])); refine Ok.seq ?_; refine Ok.block ?_
    ((first | refine Ok.seqF rfl rfl ?_ | refine Ok.seqT rfl rfl ?_ | refine Ok.regF rfl rfl ?_ | refine Ok.regT rfl rfl ?_); simp only [go_sem]; (repeat' with_reducible apply And.intro); all_goals first | (with_reducible first | refine OkW.mk ?_ | refine EndW.mk ?_ | apply AskI.id | apply AskGI.id) | (with_reducible apply KOt.mk; kernel_rfl) | exact trivial | rfl | omega | ((try intro _); first | apply R64 <;> omega | apply room_of <;> omega) | skip)
    ((first | refine Ok.seqF rfl rfl ?_ | refine Ok.seqT rfl rfl ?_ | refine Ok.regF rfl rfl ?_ | refine Ok.regT rfl rfl ?_); simp only [go_sem]; (repeat' with_reducible apply And.intro); all_goals first | (with_reducible first | refine OkW.mk ?_ | refine EndW.mk ?_ | apply AskI.id | apply AskGI.id) | (with_reducible apply KOt.mk; kernel_rfl) | exact trivial | rfl | omega | ((try intro _); first | apply R64 <;> omega | apply room_of <;> omega) | skip)
    (refine AskI.ret (c132 _ (by omega) (by omega)) ?_; simp only [go_sem]; (repeat' with_reducible apply And.intro); all_goals first | (with_reducible first | refine OkW.mk ?_ | refine EndW.mk ?_ | apply AskI.id | apply AskGI.id) | (with_reducible apply KOt.mk; kernel_rfl) | exact trivial | rfl | omega | ((try intro _); first | apply R64 <;> omega | apply room_of <;> omega) | skip)
    · simp only [strRoom, List.length_cons, List.length_nil]; omega
    · simp only [strRoom, List.length_append, List.length_cons, List.length_nil]; omega
    (try dsimp only [thenK, blockK, noGotoK])
    ((first | refine Ok.seqF rfl rfl ?_ | refine Ok.seqT rfl rfl ?_ | refine Ok.regF rfl rfl ?_ | refine Ok.regT rfl rfl ?_); simp only [go_sem]; (repeat' with_reducible apply And.intro); all_goals first | (with_reducible first | refine OkW.mk ?_ | refine EndW.mk ?_ | apply AskI.id | apply AskGI.id) | (with_reducible apply KOt.mk; kernel_rfl) | exact trivial | rfl | omega | ((try intro _); first | apply R64 <;> omega | apply room_of <;> omega) | skip)
    (try dsimp only [thenK, blockK, noGotoK])
    refine ⟨trivial, ?_⟩
    (refine Sub.of ([]) ([]) ?_ ?_ ?_ rfl rfl <;> simp only [subB, subB1, subT, subT1, newT, subE, subV, subL, go_sem] <;> (try (repeat' with_reducible apply And.intro)) <;> (try first | exact DEq.refl _ | refine DEq.int ?_ | refine DEq.bool ?_ | omega))
    refine DEq.str ?_
    rw [hsn]; simp
  · intro _
    (((first | refine Ok.seqF rfl rfl ?_ | refine Ok.seqT rfl rfl ?_ | refine Ok.regF rfl rfl ?_ | refine Ok.regT rfl rfl ?_); simp only [go_sem]; (repeat' with_reducible apply And.intro); all_goals first | (with_reducible first | refine OkW.mk ?_ | refine EndW.mk ?_ | apply AskI.id | apply AskGI.id) | (with_reducible apply KOt.mk; kernel_rfl) | exact trivial | rfl | omega | ((try intro _); first | apply R64 <;> omega | apply room_of <;> omega) | skip)); refine Ok.seq ?_; refine Ok.cond rfl (fun hb => by simp at hb) (fun _ => ?_); (refine Ok.exit ?_; simp only [thenK_exit, blockK_exit, noGotoK_exit, thenK_normal, blockK_normal, noGotoK_normal, ↓reduceIte, Nat.reduceEqDiff])
    ((first | refine Ok.seqF rfl rfl ?_ | refine Ok.seqT rfl rfl ?_ | refine Ok.regF rfl rfl ?_ | refine Ok.regT rfl rfl ?_); simp only [go_sem]; (repeat' with_reducible apply And.intro); all_goals first | (with_reducible first | refine OkW.mk ?_ | refine EndW.mk ?_ | apply AskI.id | apply AskGI.id) | (with_reducible apply KOt.mk; kernel_rfl) | exact trivial | rfl | omega | ((try intro _); first | apply R64 <;> omega | apply room_of <;> omega) | skip)
    (refine Ok.ret ?_; (try dsimp only [thenK, blockK, noGotoK]); simp only [toList_mk, List.toList_toArray, retK_ret, retK_normal, resOK, resV, celV, rowV, frzAll, frzT, subV, subL, go_sem])
    refine DEq.str ?_
    rw [List.take_length]
theorem c131s (b : Board) (hns : ∀ n ∈ [b.at_], 0 ≤ n ∧ n < 1000000) : Ctr Tryz.prog 131 [.d (.ifc 171 2 (dget b.cells))] (.d (.str (rowL boardW [b.at_]))) := by
  have hlen : ([b.at_]).length ≤ 6 := by simp [Street.nums, Letter.nums, Block.nums]
  unfold Board.cells
  (refine Ctr.mk (fn := Tryz.f131) rfl rfl rfl rfl rfl Tryz.results131 ?_; dsimp only [args, List.toList_toArray])
  ((first | refine Ok.seqF rfl rfl ?_ | refine Ok.seqT rfl rfl ?_ | refine Ok.regF rfl rfl ?_ | refine Ok.regT rfl rfl ?_); simp only [go_sem]; (repeat' with_reducible apply And.intro); all_goals first | (with_reducible first | refine OkW.mk ?_ | refine EndW.mk ?_ | apply AskI.id | apply AskGI.id) | (with_reducible apply KOt.mk; kernel_rfl) | exact trivial | rfl | omega | ((try intro _); first | apply R64 <;> omega | apply room_of <;> omega) | skip)
  ((first | refine Ok.seqF rfl rfl ?_ | refine Ok.seqT rfl rfl ?_ | refine Ok.regF rfl rfl ?_ | refine Ok.regT rfl rfl ?_); simp only [go_sem]; (repeat' with_reducible apply And.intro); all_goals first | (with_reducible first | refine OkW.mk ?_ | refine EndW.mk ?_ | apply AskI.id | apply AskGI.id) | (with_reducible apply KOt.mk; kernel_rfl) | exact trivial | rfl | omega | ((try intro _); first | apply R64 <;> omega | apply room_of <;> omega) | skip)
  refine Ok.seq ?_
  ((first | refine Ok.seqF rfl rfl ?_ | refine Ok.seqT rfl rfl ?_ | refine Ok.regF rfl rfl ?_ | refine Ok.regT rfl rfl ?_); simp only [go_sem]; (repeat' with_reducible apply And.intro); all_goals first | (with_reducible first | refine OkW.mk ?_ | refine EndW.mk ?_ | apply AskI.id | apply AskGI.id) | (with_reducible apply KOt.mk; kernel_rfl) | exact trivial | rfl | omega | ((try intro _); first | apply R64 <;> omega | apply room_of <;> omega) | skip)
  refine Ok.block ?_
  ((first | refine Ok.seqF rfl rfl ?_ | refine Ok.seqT rfl rfl ?_ | refine Ok.regF rfl rfl ?_ | refine Ok.regT rfl rfl ?_); simp only [go_sem]; (repeat' with_reducible apply And.intro); all_goals first | (with_reducible first | refine OkW.mk ?_ | refine EndW.mk ?_ | apply AskI.id | apply AskGI.id) | (with_reducible apply KOt.mk; kernel_rfl) | exact trivial | rfl | omega | ((try intro _); first | apply R64 <;> omega | apply room_of <;> omega) | skip)
  refine Ok.cond (b := false) (by first | rfl | (simp only [go_sem]; rfl)) (fun hb => by cases hb) (fun _ => ?_)
  ((first | refine Ok.seqF rfl rfl ?_ | refine Ok.seqT rfl rfl ?_ | refine Ok.regF rfl rfl ?_ | refine Ok.regT rfl rfl ?_); simp only [go_sem]; (repeat' with_reducible apply And.intro); all_goals first | (with_reducible first | refine OkW.mk ?_ | refine EndW.mk ?_ | apply AskI.id | apply AskGI.id) | (with_reducible apply KOt.mk; kernel_rfl) | exact trivial | rfl | omega | ((try intro _); first | apply R64 <;> omega | apply room_of <;> omega) | skip)
  refine Ok.cond (b := true) (by first | rfl | (simp only [go_sem]; rfl)) (fun _ => ?_) (fun hb => by cases hb)
  ((first | refine Ok.seqF rfl rfl ?_ | refine Ok.seqT rfl rfl ?_ | refine Ok.regF rfl rfl ?_ | refine Ok.regT rfl rfl ?_); simp only [go_sem]; (repeat' with_reducible apply And.intro); all_goals first | (with_reducible first | refine OkW.mk ?_ | refine EndW.mk ?_ | apply AskI.id | apply AskGI.id) | (with_reducible apply KOt.mk; kernel_rfl) | exact trivial | rfl | omega | ((try intro _); first | apply R64 <;> omega | apply room_of <;> omega) | skip)
  ((first | refine Ok.seqF rfl rfl ?_ | refine Ok.seqT rfl rfl ?_ | refine Ok.regF rfl rfl ?_ | refine Ok.regT rfl rfl ?_); simp only [go_sem]; (repeat' with_reducible apply And.intro); all_goals first | (with_reducible first | refine OkW.mk ?_ | refine EndW.mk ?_ | apply AskI.id | apply AskGI.id) | (with_reducible apply KOt.mk; kernel_rfl) | exact trivial | rfl | omega | ((try intro _); first | apply R64 <;> omega | apply room_of <;> omega) | skip)
  (refine AskI.ret (c137) ?_; simp only [go_sem]; (repeat' with_reducible apply And.intro); all_goals first | (with_reducible first | refine OkW.mk ?_ | refine EndW.mk ?_ | apply AskI.id | apply AskGI.id) | (with_reducible apply KOt.mk; kernel_rfl) | exact trivial | rfl | omega | ((try intro _); first | apply R64 <;> omega | apply room_of <;> omega) | skip)

  (try dsimp only [thenK, blockK, noGotoK])
  refine Ok.seq ?_
  ((first | refine Ok.seqF rfl rfl ?_ | refine Ok.seqT rfl rfl ?_ | refine Ok.regF rfl rfl ?_ | refine Ok.regT rfl rfl ?_); simp only [go_sem]; (repeat' with_reducible apply And.intro); all_goals first | (with_reducible first | refine OkW.mk ?_ | refine EndW.mk ?_ | apply AskI.id | apply AskGI.id) | (with_reducible apply KOt.mk; kernel_rfl) | exact trivial | rfl | omega | ((try intro _); first | apply R64 <;> omega | apply room_of <;> omega) | skip)
  (refine AskI.ret (c203 b) ?_; simp only [go_sem]; (repeat' with_reducible apply And.intro); all_goals first | (with_reducible first | refine OkW.mk ?_ | refine EndW.mk ?_ | apply AskI.id | apply AskGI.id) | (with_reducible apply KOt.mk; kernel_rfl) | exact trivial | rfl | omega | ((try intro _); first | apply R64 <;> omega | apply room_of <;> omega) | skip)
  have hw : (boardW : List UInt8).length ≤ 20 := by decide
  refine Ok.block ?_
  generalize hNS : [b.at_] = ns at hns hlen ⊢
  generalize hW : boardW = wd at hw ⊢
  refine Ok.count ns.length (fun i => ⟨[(3, .d (.str (rowL wd (ns.take i)))), (39, .d (slD 1 intD ns)), (40, iS ns.length), (41, iS i)], [], []⟩) (fun _ => True) ⟨trivial, ?_⟩ ?_ ?_
  · (refine Sub.of ([]) ([]) ?_ ?_ ?_ rfl rfl <;> simp only [subB, subB1, subT, subT1, newT, subE, subV, subL, go_sem] <;> (try (repeat' with_reducible apply And.intro)) <;> (try first | exact DEq.refl _ | refine DEq.int ?_ | refine DEq.bool ?_ | omega))
    all_goals first | (rw [← hNS]; rfl) | (refine DEq.str ?_; rw [rowL_nil, ← hW, hk]; rfl) | (refine DEq.str ?_; rw [rowL_nil])
  · intro i hi _
    have hb := hns _ (getD_mem hi)
    have hl := rowL_len wd (ns.take i) (fun x hx => hns x (List.mem_of_mem_take hx))
    have hti : (ns.take i).length = i := by simp; omega
    have hil := itoaLen _ hb.1 hb.2
    have hsn : rowL wd (ns.take (i + 1)) = rowL wd (ns.take i) ++ [32] ++ Lib.itoa (ns.getD i default) := by rw [getD_take hi, rowL_snoc]
    (((first | refine Ok.seqF rfl rfl ?_ | refine Ok.seqT rfl rfl ?_ | refine Ok.regF rfl rfl ?_ | refine Ok.regT rfl rfl ?_); simp only [go_sem]; (repeat' with_reducible apply And.intro); all_goals first | (with_reducible first | refine OkW.mk ?_ | refine EndW.mk ?_ | apply AskI.id | apply AskGI.id) | (with_reducible apply KOt.mk; kernel_rfl) | exact trivial | rfl | omega | ((try intro _); first | apply R64 <;> omega | apply room_of <;> omega) | skip)); refine Ok.seq ?_; refine Ok.cond rfl (fun _ => ?_) (fun hb => by simp at hb; omega); (refine Ok.skip ?_; (try dsimp only [thenK, blockK, noGotoK])); refine Ok.seq ?_; refine Ok.block ?_
    ((first | refine Ok.seqF rfl rfl ?_ | refine Ok.seqT rfl rfl ?_ | refine Ok.regF rfl rfl ?_ | refine Ok.regT rfl rfl ?_); simp only [go_sem]; (repeat' with_reducible apply And.intro); all_goals first | (with_reducible first | refine OkW.mk ?_ | refine EndW.mk ?_ | apply AskI.id | apply AskGI.id) | (with_reducible apply KOt.mk; kernel_rfl) | exact trivial | rfl | omega | ((try intro _); first | apply R64 <;> omega | apply room_of <;> omega) | skip)
    ((first | refine Ok.seqF rfl rfl ?_ | refine Ok.seqT rfl rfl ?_ | refine Ok.regF rfl rfl ?_ | refine Ok.regT rfl rfl ?_); simp only [go_sem]; (repeat' with_reducible apply And.intro); all_goals first | (with_reducible first | refine OkW.mk ?_ | refine EndW.mk ?_ | apply AskI.id | apply AskGI.id) | (with_reducible apply KOt.mk; kernel_rfl) | exact trivial | rfl | omega | ((try intro _); first | apply R64 <;> omega | apply room_of <;> omega) | skip)
    (refine AskI.ret (c132 _ (by omega) (by omega)) ?_; simp only [go_sem]; (repeat' with_reducible apply And.intro); all_goals first | (with_reducible first | refine OkW.mk ?_ | refine EndW.mk ?_ | apply AskI.id | apply AskGI.id) | (with_reducible apply KOt.mk; kernel_rfl) | exact trivial | rfl | omega | ((try intro _); first | apply R64 <;> omega | apply room_of <;> omega) | skip)
    · simp only [strRoom, List.length_cons, List.length_nil]; omega
    · simp only [strRoom, List.length_append, List.length_cons, List.length_nil]; omega
    (try dsimp only [thenK, blockK, noGotoK])
    ((first | refine Ok.seqF rfl rfl ?_ | refine Ok.seqT rfl rfl ?_ | refine Ok.regF rfl rfl ?_ | refine Ok.regT rfl rfl ?_); simp only [go_sem]; (repeat' with_reducible apply And.intro); all_goals first | (with_reducible first | refine OkW.mk ?_ | refine EndW.mk ?_ | apply AskI.id | apply AskGI.id) | (with_reducible apply KOt.mk; kernel_rfl) | exact trivial | rfl | omega | ((try intro _); first | apply R64 <;> omega | apply room_of <;> omega) | skip)
    (try dsimp only [thenK, blockK, noGotoK])
    refine ⟨trivial, ?_⟩
    (refine Sub.of ([]) ([]) ?_ ?_ ?_ rfl rfl <;> simp only [subB, subB1, subT, subT1, newT, subE, subV, subL, go_sem] <;> (try (repeat' with_reducible apply And.intro)) <;> (try first | exact DEq.refl _ | refine DEq.int ?_ | refine DEq.bool ?_ | omega))
    refine DEq.str ?_
    rw [hsn]; simp
  · intro _
    (((first | refine Ok.seqF rfl rfl ?_ | refine Ok.seqT rfl rfl ?_ | refine Ok.regF rfl rfl ?_ | refine Ok.regT rfl rfl ?_); simp only [go_sem]; (repeat' with_reducible apply And.intro); all_goals first | (with_reducible first | refine OkW.mk ?_ | refine EndW.mk ?_ | apply AskI.id | apply AskGI.id) | (with_reducible apply KOt.mk; kernel_rfl) | exact trivial | rfl | omega | ((try intro _); first | apply R64 <;> omega | apply room_of <;> omega) | skip)); refine Ok.seq ?_; refine Ok.cond rfl (fun hb => by simp at hb) (fun _ => ?_); (refine Ok.exit ?_; simp only [thenK_exit, blockK_exit, noGotoK_exit, thenK_normal, blockK_normal, noGotoK_normal, ↓reduceIte, Nat.reduceEqDiff])
    ((first | refine Ok.seqF rfl rfl ?_ | refine Ok.seqT rfl rfl ?_ | refine Ok.regF rfl rfl ?_ | refine Ok.regT rfl rfl ?_); simp only [go_sem]; (repeat' with_reducible apply And.intro); all_goals first | (with_reducible first | refine OkW.mk ?_ | refine EndW.mk ?_ | apply AskI.id | apply AskGI.id) | (with_reducible apply KOt.mk; kernel_rfl) | exact trivial | rfl | omega | ((try intro _); first | apply R64 <;> omega | apply room_of <;> omega) | skip)
    (refine Ok.ret ?_; (try dsimp only [thenK, blockK, noGotoK]); simp only [toList_mk, List.toList_toArray, retK_ret, retK_normal, resOK, resV, celV, rowV, frzAll, frzT, subV, subL, go_sem])
    refine DEq.str ?_
    rw [List.take_length]
theorem c131m (x : Letter) (hns : ∀ n ∈ x.nums, 0 ≤ n ∧ n < 1000000) : Ctr Tryz.prog 131 [.d (.ifc 173 4 (dget x.cells))] (.d (.str (rowL letterW x.nums))) := by
  have hlen : (x.nums).length ≤ 6 := by simp [Street.nums, Letter.nums, Block.nums]
  unfold Letter.cells
  (refine Ctr.mk (fn := Tryz.f131) rfl rfl rfl rfl rfl Tryz.results131 ?_; dsimp only [args, List.toList_toArray])
  ((first | refine Ok.seqF rfl rfl ?_ | refine Ok.seqT rfl rfl ?_ | refine Ok.regF rfl rfl ?_ | refine Ok.regT rfl rfl ?_); simp only [go_sem]; (repeat' with_reducible apply And.intro); all_goals first | (with_reducible first | refine OkW.mk ?_ | refine EndW.mk ?_ | apply AskI.id | apply AskGI.id) | (with_reducible apply KOt.mk; kernel_rfl) | exact trivial | rfl | omega | ((try intro _); first | apply R64 <;> omega | apply room_of <;> omega) | skip)
  ((first | refine Ok.seqF rfl rfl ?_ | refine Ok.seqT rfl rfl ?_ | refine Ok.regF rfl rfl ?_ | refine Ok.regT rfl rfl ?_); simp only [go_sem]; (repeat' with_reducible apply And.intro); all_goals first | (with_reducible first | refine OkW.mk ?_ | refine EndW.mk ?_ | apply AskI.id | apply AskGI.id) | (with_reducible apply KOt.mk; kernel_rfl) | exact trivial | rfl | omega | ((try intro _); first | apply R64 <;> omega | apply room_of <;> omega) | skip)
  refine Ok.seq ?_
  ((first | refine Ok.seqF rfl rfl ?_ | refine Ok.seqT rfl rfl ?_ | refine Ok.regF rfl rfl ?_ | refine Ok.regT rfl rfl ?_); simp only [go_sem]; (repeat' with_reducible apply And.intro); all_goals first | (with_reducible first | refine OkW.mk ?_ | refine EndW.mk ?_ | apply AskI.id | apply AskGI.id) | (with_reducible apply KOt.mk; kernel_rfl) | exact trivial | rfl | omega | ((try intro _); first | apply R64 <;> omega | apply room_of <;> omega) | skip)
  refine Ok.block ?_
  ((first | refine Ok.seqF rfl rfl ?_ | refine Ok.seqT rfl rfl ?_ | refine Ok.regF rfl rfl ?_ | refine Ok.regT rfl rfl ?_); simp only [go_sem]; (repeat' with_reducible apply And.intro); all_goals first | (with_reducible first | refine OkW.mk ?_ | refine EndW.mk ?_ | apply AskI.id | apply AskGI.id) | (with_reducible apply KOt.mk; kernel_rfl) | exact trivial | rfl | omega | ((try intro _); first | apply R64 <;> omega | apply room_of <;> omega) | skip)
  refine Ok.cond (b := false) (by first | rfl | (simp only [go_sem]; rfl)) (fun hb => by cases hb) (fun _ => ?_)
  ((first | refine Ok.seqF rfl rfl ?_ | refine Ok.seqT rfl rfl ?_ | refine Ok.regF rfl rfl ?_ | refine Ok.regT rfl rfl ?_); simp only [go_sem]; (repeat' with_reducible apply And.intro); all_goals first | (with_reducible first | refine OkW.mk ?_ | refine EndW.mk ?_ | apply AskI.id | apply AskGI.id) | (with_reducible apply KOt.mk; kernel_rfl) | exact trivial | rfl | omega | ((try intro _); first | apply R64 <;> omega | apply room_of <;> omega) | skip)
  refine Ok.cond (b := false) (by first | rfl | (simp only [go_sem]; rfl)) (fun hb => by cases hb) (fun _ => ?_)
  ((first | refine Ok.seqF rfl rfl ?_ | refine Ok.seqT rfl rfl ?_ | refine Ok.regF rfl rfl ?_ | refine Ok.regT rfl rfl ?_); simp only [go_sem]; (repeat' with_reducible apply And.intro); all_goals first | (with_reducible first | refine OkW.mk ?_ | refine EndW.mk ?_ | apply AskI.id | apply AskGI.id) | (with_reducible apply KOt.mk; kernel_rfl) | exact trivial | rfl | omega | ((try intro _); first | apply R64 <;> omega | apply room_of <;> omega) | skip)
  refine Ok.cond (b := true) (by first | rfl | (simp only [go_sem]; rfl)) (fun _ => ?_) (fun hb => by cases hb)
  ((first | refine Ok.seqF rfl rfl ?_ | refine Ok.seqT rfl rfl ?_ | refine Ok.regF rfl rfl ?_ | refine Ok.regT rfl rfl ?_); simp only [go_sem]; (repeat' with_reducible apply And.intro); all_goals first | (with_reducible first | refine OkW.mk ?_ | refine EndW.mk ?_ | apply AskI.id | apply AskGI.id) | (with_reducible apply KOt.mk; kernel_rfl) | exact trivial | rfl | omega | ((try intro _); first | apply R64 <;> omega | apply room_of <;> omega) | skip)
  ((first | refine Ok.seqF rfl rfl ?_ | refine Ok.seqT rfl rfl ?_ | refine Ok.regF rfl rfl ?_ | refine Ok.regT rfl rfl ?_); simp only [go_sem]; (repeat' with_reducible apply And.intro); all_goals first | (with_reducible first | refine OkW.mk ?_ | refine EndW.mk ?_ | apply AskI.id | apply AskGI.id) | (with_reducible apply KOt.mk; kernel_rfl) | exact trivial | rfl | omega | ((try intro _); first | apply R64 <;> omega | apply room_of <;> omega) | skip)
  (refine AskI.ret (c137) ?_; simp only [go_sem]; (repeat' with_reducible apply And.intro); all_goals first | (with_reducible first | refine OkW.mk ?_ | refine EndW.mk ?_ | apply AskI.id | apply AskGI.id) | (with_reducible apply KOt.mk; kernel_rfl) | exact trivial | rfl | omega | ((try intro _); first | apply R64 <;> omega | apply room_of <;> omega) | skip)

  (try dsimp only [thenK, blockK, noGotoK])
  refine Ok.seq ?_
  ((first | refine Ok.seqF rfl rfl ?_ | refine Ok.seqT rfl rfl ?_ | refine Ok.regF rfl rfl ?_ | refine Ok.regT rfl rfl ?_); simp only [go_sem]; (repeat' with_reducible apply And.intro); all_goals first | (with_reducible first | refine OkW.mk ?_ | refine EndW.mk ?_ | apply AskI.id | apply AskGI.id) | (with_reducible apply KOt.mk; kernel_rfl) | exact trivial | rfl | omega | ((try intro _); first | apply R64 <;> omega | apply room_of <;> omega) | skip)
  (refine AskI.ret (c204 x) ?_; simp only [go_sem]; (repeat' with_reducible apply And.intro); all_goals first | (with_reducible first | refine OkW.mk ?_ | refine EndW.mk ?_ | apply AskI.id | apply AskGI.id) | (with_reducible apply KOt.mk; kernel_rfl) | exact trivial | rfl | omega | ((try intro _); first | apply R64 <;> omega | apply room_of <;> omega) | skip)
  have hw : (letterW : List UInt8).length ≤ 20 := by decide
  refine Ok.block ?_
  generalize hNS : x.nums = ns at hns hlen ⊢
  generalize hW : letterW = wd at hw ⊢
  refine Ok.count ns.length (fun i => ⟨[(3, .d (.str (rowL wd (ns.take i)))), (39, .d (slD 1 intD ns)), (40, iS ns.length), (41, iS i)], [], []⟩) (fun _ => True) ⟨trivial, ?_⟩ ?_ ?_
  · (refine Sub.of ([]) ([]) ?_ ?_ ?_ rfl rfl <;> simp only [subB, subB1, subT, subT1, newT, subE, subV, subL, go_sem] <;> (try (repeat' with_reducible apply And.intro)) <;> (try first | exact DEq.refl _ | refine DEq.int ?_ | refine DEq.bool ?_ | omega))
    all_goals first | (rw [← hNS]; rfl) | (refine DEq.str ?_; rw [rowL_nil, ← hW, hk]; rfl) | (refine DEq.str ?_; rw [rowL_nil])
  · intro i hi _
    have hb := hns _ (getD_mem hi)
    have hl := rowL_len wd (ns.take i) (fun x hx => hns x (List.mem_of_mem_take hx))
    have hti : (ns.take i).length = i := by simp; omega
    have hil := itoaLen _ hb.1 hb.2
    have hsn : rowL wd (ns.take (i + 1)) = rowL wd (ns.take i) ++ [32] ++ Lib.itoa (ns.getD i default) := by rw [getD_take hi, rowL_snoc]
    (((first | refine Ok.seqF rfl rfl ?_ | refine Ok.seqT rfl rfl ?_ | refine Ok.regF rfl rfl ?_ | refine Ok.regT rfl rfl ?_); simp only [go_sem]; (repeat' with_reducible apply And.intro); all_goals first | (with_reducible first | refine OkW.mk ?_ | refine EndW.mk ?_ | apply AskI.id | apply AskGI.id) | (with_reducible apply KOt.mk; kernel_rfl) | exact trivial | rfl | omega | ((try intro _); first | apply R64 <;> omega | apply room_of <;> omega) | skip)); refine Ok.seq ?_; refine Ok.cond rfl (fun _ => ?_) (fun hb => by simp at hb; omega); (refine Ok.skip ?_; (try dsimp only [thenK, blockK, noGotoK])); refine Ok.seq ?_; refine Ok.block ?_
    ((first | refine Ok.seqF rfl rfl ?_ | refine Ok.seqT rfl rfl ?_ | refine Ok.regF rfl rfl ?_ | refine Ok.regT rfl rfl ?_); simp only [go_sem]; (repeat' with_reducible apply And.intro); all_goals first | (with_reducible first | refine OkW.mk ?_ | refine EndW.mk ?_ | apply AskI.id | apply AskGI.id) | (with_reducible apply KOt.mk; kernel_rfl) | exact trivial | rfl | omega | ((try intro _); first | apply R64 <;> omega | apply room_of <;> omega) | skip)
    ((first | refine Ok.seqF rfl rfl ?_ | refine Ok.seqT rfl rfl ?_ | refine Ok.regF rfl rfl ?_ | refine Ok.regT rfl rfl ?_); simp only [go_sem]; (repeat' with_reducible apply And.intro); all_goals first | (with_reducible first | refine OkW.mk ?_ | refine EndW.mk ?_ | apply AskI.id | apply AskGI.id) | (with_reducible apply KOt.mk; kernel_rfl) | exact trivial | rfl | omega | ((try intro _); first | apply R64 <;> omega | apply room_of <;> omega) | skip)
    (refine AskI.ret (c132 _ (by omega) (by omega)) ?_; simp only [go_sem]; (repeat' with_reducible apply And.intro); all_goals first | (with_reducible first | refine OkW.mk ?_ | refine EndW.mk ?_ | apply AskI.id | apply AskGI.id) | (with_reducible apply KOt.mk; kernel_rfl) | exact trivial | rfl | omega | ((try intro _); first | apply R64 <;> omega | apply room_of <;> omega) | skip)
    · simp only [strRoom, List.length_cons, List.length_nil]; omega
    · simp only [strRoom, List.length_append, List.length_cons, List.length_nil]; omega
    (try dsimp only [thenK, blockK, noGotoK])
    ((first | refine Ok.seqF rfl rfl ?_ | refine Ok.seqT rfl rfl ?_ | refine Ok.regF rfl rfl ?_ | refine Ok.regT rfl rfl ?_); simp only [go_sem]; (repeat' with_reducible apply And.intro); all_goals first | (with_reducible first | refine OkW.mk ?_ | refine EndW.mk ?_ | apply AskI.id | apply AskGI.id) | (with_reducible apply KOt.mk; kernel_rfl) | exact trivial | rfl | omega | ((try intro _); first | apply R64 <;> omega | apply room_of <;> omega) | skip)
    (try dsimp only [thenK, blockK, noGotoK])
    refine ⟨trivial, ?_⟩
    (refine Sub.of ([]) ([]) ?_ ?_ ?_ rfl rfl <;> simp only [subB, subB1, subT, subT1, newT, subE, subV, subL, go_sem] <;> (try (repeat' with_reducible apply And.intro)) <;> (try first | exact DEq.refl _ | refine DEq.int ?_ | refine DEq.bool ?_ | omega))
    refine DEq.str ?_
    rw [hsn]; simp
  · intro _
    (((first | refine Ok.seqF rfl rfl ?_ | refine Ok.seqT rfl rfl ?_ | refine Ok.regF rfl rfl ?_ | refine Ok.regT rfl rfl ?_); simp only [go_sem]; (repeat' with_reducible apply And.intro); all_goals first | (with_reducible first | refine OkW.mk ?_ | refine EndW.mk ?_ | apply AskI.id | apply AskGI.id) | (with_reducible apply KOt.mk; kernel_rfl) | exact trivial | rfl | omega | ((try intro _); first | apply R64 <;> omega | apply room_of <;> omega) | skip)); refine Ok.seq ?_; refine Ok.cond rfl (fun hb => by simp at hb) (fun _ => ?_); (refine Ok.exit ?_; simp only [thenK_exit, blockK_exit, noGotoK_exit, thenK_normal, blockK_normal, noGotoK_normal, ↓reduceIte, Nat.reduceEqDiff])
    ((first | refine Ok.seqF rfl rfl ?_ | refine Ok.seqT rfl rfl ?_ | refine Ok.regF rfl rfl ?_ | refine Ok.regT rfl rfl ?_); simp only [go_sem]; (repeat' with_reducible apply And.intro); all_goals first | (with_reducible first | refine OkW.mk ?_ | refine EndW.mk ?_ | apply AskI.id | apply AskGI.id) | (with_reducible apply KOt.mk; kernel_rfl) | exact trivial | rfl | omega | ((try intro _); first | apply R64 <;> omega | apply room_of <;> omega) | skip)
    (refine Ok.ret ?_; (try dsimp only [thenK, blockK, noGotoK]); simp only [toList_mk, List.toList_toArray, retK_ret, retK_normal, resOK, resV, celV, rowV, frzAll, frzT, subV, subL, go_sem])
    refine DEq.str ?_
    rw [List.take_length]
theorem c131b1 (k : Block) (hk : k.sure = true) (hns : ∀ n ∈ k.nums, 0 ≤ n ∧ n < 1000000) : Ctr Tryz.prog 131 [.d (.ifc 175 5 (dget k.cells))] (.d (.str (rowL (blockW k.sure) k.nums))) := by
  have hlen : (k.nums).length ≤ 6 := by simp [Street.nums, Letter.nums, Block.nums]
  unfold Block.cells
  (refine Ctr.mk (fn := Tryz.f131) rfl rfl rfl rfl rfl Tryz.results131 ?_; dsimp only [args, List.toList_toArray])
  ((first | refine Ok.seqF rfl rfl ?_ | refine Ok.seqT rfl rfl ?_ | refine Ok.regF rfl rfl ?_ | refine Ok.regT rfl rfl ?_); simp only [go_sem]; (repeat' with_reducible apply And.intro); all_goals first | (with_reducible first | refine OkW.mk ?_ | refine EndW.mk ?_ | apply AskI.id | apply AskGI.id) | (with_reducible apply KOt.mk; kernel_rfl) | exact trivial | rfl | omega | ((try intro _); first | apply R64 <;> omega | apply room_of <;> omega) | skip)
  ((first | refine Ok.seqF rfl rfl ?_ | refine Ok.seqT rfl rfl ?_ | refine Ok.regF rfl rfl ?_ | refine Ok.regT rfl rfl ?_); simp only [go_sem]; (repeat' with_reducible apply And.intro); all_goals first | (with_reducible first | refine OkW.mk ?_ | refine EndW.mk ?_ | apply AskI.id | apply AskGI.id) | (with_reducible apply KOt.mk; kernel_rfl) | exact trivial | rfl | omega | ((try intro _); first | apply R64 <;> omega | apply room_of <;> omega) | skip)
  refine Ok.seq ?_
  ((first | refine Ok.seqF rfl rfl ?_ | refine Ok.seqT rfl rfl ?_ | refine Ok.regF rfl rfl ?_ | refine Ok.regT rfl rfl ?_); simp only [go_sem]; (repeat' with_reducible apply And.intro); all_goals first | (with_reducible first | refine OkW.mk ?_ | refine EndW.mk ?_ | apply AskI.id | apply AskGI.id) | (with_reducible apply KOt.mk; kernel_rfl) | exact trivial | rfl | omega | ((try intro _); first | apply R64 <;> omega | apply room_of <;> omega) | skip)
  refine Ok.block ?_
  ((first | refine Ok.seqF rfl rfl ?_ | refine Ok.seqT rfl rfl ?_ | refine Ok.regF rfl rfl ?_ | refine Ok.regT rfl rfl ?_); simp only [go_sem]; (repeat' with_reducible apply And.intro); all_goals first | (with_reducible first | refine OkW.mk ?_ | refine EndW.mk ?_ | apply AskI.id | apply AskGI.id) | (with_reducible apply KOt.mk; kernel_rfl) | exact trivial | rfl | omega | ((try intro _); first | apply R64 <;> omega | apply room_of <;> omega) | skip)
  refine Ok.cond (b := false) (by first | rfl | (simp only [go_sem]; rfl)) (fun hb => by cases hb) (fun _ => ?_)
  ((first | refine Ok.seqF rfl rfl ?_ | refine Ok.seqT rfl rfl ?_ | refine Ok.regF rfl rfl ?_ | refine Ok.regT rfl rfl ?_); simp only [go_sem]; (repeat' with_reducible apply And.intro); all_goals first | (with_reducible first | refine OkW.mk ?_ | refine EndW.mk ?_ | apply AskI.id | apply AskGI.id) | (with_reducible apply KOt.mk; kernel_rfl) | exact trivial | rfl | omega | ((try intro _); first | apply R64 <;> omega | apply room_of <;> omega) | skip)
  refine Ok.cond (b := false) (by first | rfl | (simp only [go_sem]; rfl)) (fun hb => by cases hb) (fun _ => ?_)
  ((first | refine Ok.seqF rfl rfl ?_ | refine Ok.seqT rfl rfl ?_ | refine Ok.regF rfl rfl ?_ | refine Ok.regT rfl rfl ?_); simp only [go_sem]; (repeat' with_reducible apply And.intro); all_goals first | (with_reducible first | refine OkW.mk ?_ | refine EndW.mk ?_ | apply AskI.id | apply AskGI.id) | (with_reducible apply KOt.mk; kernel_rfl) | exact trivial | rfl | omega | ((try intro _); first | apply R64 <;> omega | apply room_of <;> omega) | skip)
  refine Ok.cond (b := false) (by first | rfl | (simp only [go_sem]; rfl)) (fun hb => by cases hb) (fun _ => ?_)
  ((first | refine Ok.seqF rfl rfl ?_ | refine Ok.seqT rfl rfl ?_ | refine Ok.regF rfl rfl ?_ | refine Ok.regT rfl rfl ?_); simp only [go_sem]; (repeat' with_reducible apply And.intro); all_goals first | (with_reducible first | refine OkW.mk ?_ | refine EndW.mk ?_ | apply AskI.id | apply AskGI.id) | (with_reducible apply KOt.mk; kernel_rfl) | exact trivial | rfl | omega | ((try intro _); first | apply R64 <;> omega | apply room_of <;> omega) | skip)
  refine Ok.cond (b := true) (by first | rfl | (simp only [go_sem]; rfl)) (fun _ => ?_) (fun hb => by cases hb)
  ((first | refine Ok.seqF rfl rfl ?_ | refine Ok.seqT rfl rfl ?_ | refine Ok.regF rfl rfl ?_ | refine Ok.regT rfl rfl ?_); simp only [go_sem]; (repeat' with_reducible apply And.intro); all_goals first | (with_reducible first | refine OkW.mk ?_ | refine EndW.mk ?_ | apply AskI.id | apply AskGI.id) | (with_reducible apply KOt.mk; kernel_rfl) | exact trivial | rfl | omega | ((try intro _); first | apply R64 <;> omega | apply room_of <;> omega) | skip)
  ((first | refine Ok.seqF rfl rfl ?_ | refine Ok.seqT rfl rfl ?_ | refine Ok.regF rfl rfl ?_ | refine Ok.regT rfl rfl ?_); simp only [go_sem]; (repeat' with_reducible apply And.intro); all_goals first | (with_reducible first | refine OkW.mk ?_ | refine EndW.mk ?_ | apply AskI.id | apply AskGI.id) | (with_reducible apply KOt.mk; kernel_rfl) | exact trivial | rfl | omega | ((try intro _); first | apply R64 <;> omega | apply room_of <;> omega) | skip)
  (refine AskI.ret (c137) ?_; simp only [go_sem]; (repeat' with_reducible apply And.intro); all_goals first | (with_reducible first | refine OkW.mk ?_ | refine EndW.mk ?_ | apply AskI.id | apply AskGI.id) | (with_reducible apply KOt.mk; kernel_rfl) | exact trivial | rfl | omega | ((try intro _); first | apply R64 <;> omega | apply room_of <;> omega) | skip)
  · unfold strRoom; decide
  ((first | refine Ok.seqF rfl rfl ?_ | refine Ok.seqT rfl rfl ?_ | refine Ok.regF rfl rfl ?_ | refine Ok.regT rfl rfl ?_); simp only [go_sem]; (repeat' with_reducible apply And.intro); all_goals first | (with_reducible first | refine OkW.mk ?_ | refine EndW.mk ?_ | apply AskI.id | apply AskGI.id) | (with_reducible apply KOt.mk; kernel_rfl) | exact trivial | rfl | omega | ((try intro _); first | apply R64 <;> omega | apply room_of <;> omega) | skip)
  refine Ok.cond rfl (fun _ => ?_) (fun hb => by rw [hk] at hb; cases hb)
  ((first | refine Ok.seqF rfl rfl ?_ | refine Ok.seqT rfl rfl ?_ | refine Ok.regF rfl rfl ?_ | refine Ok.regT rfl rfl ?_); simp only [go_sem]; (repeat' with_reducible apply And.intro); all_goals first | (with_reducible first | refine OkW.mk ?_ | refine EndW.mk ?_ | apply AskI.id | apply AskGI.id) | (with_reducible apply KOt.mk; kernel_rfl) | exact trivial | rfl | omega | ((try intro _); first | apply R64 <;> omega | apply room_of <;> omega) | skip)
  (refine AskI.ret (c137) ?_; simp only [go_sem]; (repeat' with_reducible apply And.intro); all_goals first | (with_reducible first | refine OkW.mk ?_ | refine EndW.mk ?_ | apply AskI.id | apply AskGI.id) | (with_reducible apply KOt.mk; kernel_rfl) | exact trivial | rfl | omega | ((try intro _); first | apply R64 <;> omega | apply room_of <;> omega) | skip)
  · unfold strRoom; decide

  (try dsimp only [thenK, blockK, noGotoK])
  refine Ok.seq ?_
  ((first | refine Ok.seqF rfl rfl ?_ | refine Ok.seqT rfl rfl ?_ | refine Ok.regF rfl rfl ?_ | refine Ok.regT rfl rfl ?_); simp only [go_sem]; (repeat' with_reducible apply And.intro); all_goals first | (with_reducible first | refine OkW.mk ?_ | refine EndW.mk ?_ | apply AskI.id | apply AskGI.id) | (with_reducible apply KOt.mk; kernel_rfl) | exact trivial | rfl | omega | ((try intro _); first | apply R64 <;> omega | apply room_of <;> omega) | skip)
  (refine AskI.ret (c205 k) ?_; simp only [go_sem]; (repeat' with_reducible apply And.intro); all_goals first | (with_reducible first | refine OkW.mk ?_ | refine EndW.mk ?_ | apply AskI.id | apply AskGI.id) | (with_reducible apply KOt.mk; kernel_rfl) | exact trivial | rfl | omega | ((try intro _); first | apply R64 <;> omega | apply room_of <;> omega) | skip)
  have hw : ((blockW k.sure) : List UInt8).length ≤ 20 := by cases k.sure <;> decide
  refine Ok.block ?_
  generalize hNS : k.nums = ns at hns hlen ⊢
  generalize hW : (blockW k.sure) = wd at hw ⊢
  refine Ok.count ns.length (fun i => ⟨[(3, .d (.str (rowL wd (ns.take i)))), (39, .d (slD 1 intD ns)), (40, iS ns.length), (41, iS i)], [], []⟩) (fun _ => True) ⟨trivial, ?_⟩ ?_ ?_
  · (refine Sub.of ([]) ([]) ?_ ?_ ?_ rfl rfl <;> simp only [subB, subB1, subT, subT1, newT, subE, subV, subL, go_sem] <;> (try (repeat' with_reducible apply And.intro)) <;> (try first | exact DEq.refl _ | refine DEq.int ?_ | refine DEq.bool ?_ | omega))
    all_goals first | (rw [← hNS]; rfl) | (refine DEq.str ?_; rw [rowL_nil, ← hW, hk]; rfl) | (refine DEq.str ?_; rw [rowL_nil])
  · intro i hi _
    have hb := hns _ (getD_mem hi)
    have hl := rowL_len wd (ns.take i) (fun x hx => hns x (List.mem_of_mem_take hx))
    have hti : (ns.take i).length = i := by simp; omega
    have hil := itoaLen _ hb.1 hb.2
    have hsn : rowL wd (ns.take (i + 1)) = rowL wd (ns.take i) ++ [32] ++ Lib.itoa (ns.getD i default) := by rw [getD_take hi, rowL_snoc]
    (((first | refine Ok.seqF rfl rfl ?_ | refine Ok.seqT rfl rfl ?_ | refine Ok.regF rfl rfl ?_ | refine Ok.regT rfl rfl ?_); simp only [go_sem]; (repeat' with_reducible apply And.intro); all_goals first | (with_reducible first | refine OkW.mk ?_ | refine EndW.mk ?_ | apply AskI.id | apply AskGI.id) | (with_reducible apply KOt.mk; kernel_rfl) | exact trivial | rfl | omega | ((try intro _); first | apply R64 <;> omega | apply room_of <;> omega) | skip)); refine Ok.seq ?_; refine Ok.cond rfl (fun _ => ?_) (fun hb => by simp at hb; omega); (refine Ok.skip ?_; (try dsimp only [thenK, blockK, noGotoK])); refine Ok.seq ?_; refine Ok.block ?_
    ((first | refine Ok.seqF rfl rfl ?_ | refine Ok.seqT rfl rfl ?_ | refine Ok.regF rfl rfl ?_ | refine Ok.regT rfl rfl ?_); simp only [go_sem]; (repeat' with_reducible apply And.intro); all_goals first | (with_reducible first | refine OkW.mk ?_ | refine EndW.mk ?_ | apply AskI.id | apply AskGI.id) | (with_reducible apply KOt.mk; kernel_rfl) | exact trivial | rfl | omega | ((try intro _); first | apply R64 <;> omega | apply room_of <;> omega) | skip)
    ((first | refine Ok.seqF rfl rfl ?_ | refine Ok.seqT rfl rfl ?_ | refine Ok.regF rfl rfl ?_ | refine Ok.regT rfl rfl ?_); simp only [go_sem]; (repeat' with_reducible apply And.intro); all_goals first | (with_reducible first | refine OkW.mk ?_ | refine EndW.mk ?_ | apply AskI.id | apply AskGI.id) | (with_reducible apply KOt.mk; kernel_rfl) | exact trivial | rfl | omega | ((try intro _); first | apply R64 <;> omega | apply room_of <;> omega) | skip)
    (refine AskI.ret (c132 _ (by omega) (by omega)) ?_; simp only [go_sem]; (repeat' with_reducible apply And.intro); all_goals first | (with_reducible first | refine OkW.mk ?_ | refine EndW.mk ?_ | apply AskI.id | apply AskGI.id) | (with_reducible apply KOt.mk; kernel_rfl) | exact trivial | rfl | omega | ((try intro _); first | apply R64 <;> omega | apply room_of <;> omega) | skip)
    · simp only [strRoom, List.length_cons, List.length_nil]; omega
    · simp only [strRoom, List.length_append, List.length_cons, List.length_nil]; omega
    (try dsimp only [thenK, blockK, noGotoK])
    ((first | refine Ok.seqF rfl rfl ?_ | refine Ok.seqT rfl rfl ?_ | refine Ok.regF rfl rfl ?_ | refine Ok.regT rfl rfl ?_); simp only [go_sem]; (repeat' with_reducible apply And.intro); all_goals first | (with_reducible first | refine OkW.mk ?_ | refine EndW.mk ?_ | apply AskI.id | apply AskGI.id) | (with_reducible apply KOt.mk; kernel_rfl) | exact trivial | rfl | omega | ((try intro _); first | apply R64 <;> omega | apply room_of <;> omega) | skip)
    (try dsimp only [thenK, blockK, noGotoK])
    refine ⟨trivial, ?_⟩
    (refine Sub.of ([]) ([]) ?_ ?_ ?_ rfl rfl <;> simp only [subB, subB1, subT, subT1, newT, subE, subV, subL, go_sem] <;> (try (repeat' with_reducible apply And.intro)) <;> (try first | exact DEq.refl _ | refine DEq.int ?_ | refine DEq.bool ?_ | omega))
    refine DEq.str ?_
    rw [hsn]; simp
  · intro _
    (((first | refine Ok.seqF rfl rfl ?_ | refine Ok.seqT rfl rfl ?_ | refine Ok.regF rfl rfl ?_ | refine Ok.regT rfl rfl ?_); simp only [go_sem]; (repeat' with_reducible apply And.intro); all_goals first | (with_reducible first | refine OkW.mk ?_ | refine EndW.mk ?_ | apply AskI.id | apply AskGI.id) | (with_reducible apply KOt.mk; kernel_rfl) | exact trivial | rfl | omega | ((try intro _); first | apply R64 <;> omega | apply room_of <;> omega) | skip)); refine Ok.seq ?_; refine Ok.cond rfl (fun hb => by simp at hb) (fun _ => ?_); (refine Ok.exit ?_; simp only [thenK_exit, blockK_exit, noGotoK_exit, thenK_normal, blockK_normal, noGotoK_normal, ↓reduceIte, Nat.reduceEqDiff])
    ((first | refine Ok.seqF rfl rfl ?_ | refine Ok.seqT rfl rfl ?_ | refine Ok.regF rfl rfl ?_ | refine Ok.regT rfl rfl ?_); simp only [go_sem]; (repeat' with_reducible apply And.intro); all_goals first | (with_reducible first | refine OkW.mk ?_ | refine EndW.mk ?_ | apply AskI.id | apply AskGI.id) | (with_reducible apply KOt.mk; kernel_rfl) | exact trivial | rfl | omega | ((try intro _); first | apply R64 <;> omega | apply room_of <;> omega) | skip)
    (refine Ok.ret ?_; (try dsimp only [thenK, blockK, noGotoK]); simp only [toList_mk, List.toList_toArray, retK_ret, retK_normal, resOK, resV, celV, rowV, frzAll, frzT, subV, subL, go_sem])
    refine DEq.str ?_
    rw [List.take_length]
theorem c131b0 (k : Block) (hk : k.sure = false) (hns : ∀ n ∈ k.nums, 0 ≤ n ∧ n < 1000000) : Ctr Tryz.prog 131 [.d (.ifc 175 5 (dget k.cells))] (.d (.str (rowL (blockW k.sure) k.nums))) := by
  have hlen : (k.nums).length ≤ 6 := by simp [Street.nums, Letter.nums, Block.nums]
  unfold Block.cells
  (refine Ctr.mk (fn := Tryz.f131) rfl rfl rfl rfl rfl Tryz.results131 ?_; dsimp only [args, List.toList_toArray])
  ((first | refine Ok.seqF rfl rfl ?_ | refine Ok.seqT rfl rfl ?_ | refine Ok.regF rfl rfl ?_ | refine Ok.regT rfl rfl ?_); simp only [go_sem]; (repeat' with_reducible apply And.intro); all_goals first | (with_reducible first | refine OkW.mk ?_ | refine EndW.mk ?_ | apply AskI.id | apply AskGI.id) | (with_reducible apply KOt.mk; kernel_rfl) | exact trivial | rfl | omega | ((try intro _); first | apply R64 <;> omega | apply room_of <;> omega) | skip)
  ((first | refine Ok.seqF rfl rfl ?_ | refine Ok.seqT rfl rfl ?_ | refine Ok.regF rfl rfl ?_ | refine Ok.regT rfl rfl ?_); simp only [go_sem]; (repeat' with_reducible apply And.intro); all_goals first | (with_reducible first | refine OkW.mk ?_ | refine EndW.mk ?_ | apply AskI.id | apply AskGI.id) | (with_reducible apply KOt.mk; kernel_rfl) | exact trivial | rfl | omega | ((try intro _); first | apply R64 <;> omega | apply room_of <;> omega) | skip)
  refine Ok.seq ?_
  ((first | refine Ok.seqF rfl rfl ?_ | refine Ok.seqT rfl rfl ?_ | refine Ok.regF rfl rfl ?_ | refine Ok.regT rfl rfl ?_); simp only [go_sem]; (repeat' with_reducible apply And.intro); all_goals first | (with_reducible first | refine OkW.mk ?_ | refine EndW.mk ?_ | apply AskI.id | apply AskGI.id) | (with_reducible apply KOt.mk; kernel_rfl) | exact trivial | rfl | omega | ((try intro _); first | apply R64 <;> omega | apply room_of <;> omega) | skip)
  refine Ok.block ?_
  ((first | refine Ok.seqF rfl rfl ?_ | refine Ok.seqT rfl rfl ?_ | refine Ok.regF rfl rfl ?_ | refine Ok.regT rfl rfl ?_); simp only [go_sem]; (repeat' with_reducible apply And.intro); all_goals first | (with_reducible first | refine OkW.mk ?_ | refine EndW.mk ?_ | apply AskI.id | apply AskGI.id) | (with_reducible apply KOt.mk; kernel_rfl) | exact trivial | rfl | omega | ((try intro _); first | apply R64 <;> omega | apply room_of <;> omega) | skip)
  refine Ok.cond (b := false) (by first | rfl | (simp only [go_sem]; rfl)) (fun hb => by cases hb) (fun _ => ?_)
  ((first | refine Ok.seqF rfl rfl ?_ | refine Ok.seqT rfl rfl ?_ | refine Ok.regF rfl rfl ?_ | refine Ok.regT rfl rfl ?_); simp only [go_sem]; (repeat' with_reducible apply And.intro); all_goals first | (with_reducible first | refine OkW.mk ?_ | refine EndW.mk ?_ | apply AskI.id | apply AskGI.id) | (with_reducible apply KOt.mk; kernel_rfl) | exact trivial | rfl | omega | ((try intro _); first | apply R64 <;> omega | apply room_of <;> omega) | skip)
  refine Ok.cond (b := false) (by first | rfl | (simp only [go_sem]; rfl)) (fun hb => by cases hb) (fun _ => ?_)
  ((first | refine Ok.seqF rfl rfl ?_ | refine Ok.seqT rfl rfl ?_ | refine Ok.regF rfl rfl ?_ | refine Ok.regT rfl rfl ?_); simp only [go_sem]; (repeat' with_reducible apply And.intro); all_goals first | (with_reducible first | refine OkW.mk ?_ | refine EndW.mk ?_ | apply AskI.id | apply AskGI.id) | (with_reducible apply KOt.mk; kernel_rfl) | exact trivial | rfl | omega | ((try intro _); first | apply R64 <;> omega | apply room_of <;> omega) | skip)
  refine Ok.cond (b := false) (by first | rfl | (simp only [go_sem]; rfl)) (fun hb => by cases hb) (fun _ => ?_)
  ((first | refine Ok.seqF rfl rfl ?_ | refine Ok.seqT rfl rfl ?_ | refine Ok.regF rfl rfl ?_ | refine Ok.regT rfl rfl ?_); simp only [go_sem]; (repeat' with_reducible apply And.intro); all_goals first | (with_reducible first | refine OkW.mk ?_ | refine EndW.mk ?_ | apply AskI.id | apply AskGI.id) | (with_reducible apply KOt.mk; kernel_rfl) | exact trivial | rfl | omega | ((try intro _); first | apply R64 <;> omega | apply room_of <;> omega) | skip)
  refine Ok.cond (b := true) (by first | rfl | (simp only [go_sem]; rfl)) (fun _ => ?_) (fun hb => by cases hb)
  ((first | refine Ok.seqF rfl rfl ?_ | refine Ok.seqT rfl rfl ?_ | refine Ok.regF rfl rfl ?_ | refine Ok.regT rfl rfl ?_); simp only [go_sem]; (repeat' with_reducible apply And.intro); all_goals first | (with_reducible first | refine OkW.mk ?_ | refine EndW.mk ?_ | apply AskI.id | apply AskGI.id) | (with_reducible apply KOt.mk; kernel_rfl) | exact trivial | rfl | omega | ((try intro _); first | apply R64 <;> omega | apply room_of <;> omega) | skip)
  ((first | refine Ok.seqF rfl rfl ?_ | refine Ok.seqT rfl rfl ?_ | refine Ok.regF rfl rfl ?_ | refine Ok.regT rfl rfl ?_); simp only [go_sem]; (repeat' with_reducible apply And.intro); all_goals first | (with_reducible first | refine OkW.mk ?_ | refine EndW.mk ?_ | apply AskI.id | apply AskGI.id) | (with_reducible apply KOt.mk; kernel_rfl) | exact trivial | rfl | omega | ((try intro _); first | apply R64 <;> omega | apply room_of <;> omega) | skip)
  (refine AskI.ret (c137) ?_; simp only [go_sem]; (repeat' with_reducible apply And.intro); all_goals first | (with_reducible first | refine OkW.mk ?_ | refine EndW.mk ?_ | apply AskI.id | apply AskGI.id) | (with_reducible apply KOt.mk; kernel_rfl) | exact trivial | rfl | omega | ((try intro _); first | apply R64 <;> omega | apply room_of <;> omega) | skip)
  · unfold strRoom; decide
  ((first | refine Ok.seqF rfl rfl ?_ | refine Ok.seqT rfl rfl ?_ | refine Ok.regF rfl rfl ?_ | refine Ok.regT rfl rfl ?_); simp only [go_sem]; (repeat' with_reducible apply And.intro); all_goals first | (with_reducible first | refine OkW.mk ?_ | refine EndW.mk ?_ | apply AskI.id | apply AskGI.id) | (with_reducible apply KOt.mk; kernel_rfl) | exact trivial | rfl | omega | ((try intro _); first | apply R64 <;> omega | apply room_of <;> omega) | skip)
  refine Ok.cond rfl (fun hb => by rw [hk] at hb; cases hb) (fun _ => ?_)
  (refine Ok.skip ?_; (try dsimp only [thenK, blockK, noGotoK]))

  (try dsimp only [thenK, blockK, noGotoK])
  refine Ok.seq ?_
  ((first | refine Ok.seqF rfl rfl ?_ | refine Ok.seqT rfl rfl ?_ | refine Ok.regF rfl rfl ?_ | refine Ok.regT rfl rfl ?_); simp only [go_sem]; (repeat' with_reducible apply And.intro); all_goals first | (with_reducible first | refine OkW.mk ?_ | refine EndW.mk ?_ | apply AskI.id | apply AskGI.id) | (with_reducible apply KOt.mk; kernel_rfl) | exact trivial | rfl | omega | ((try intro _); first | apply R64 <;> omega | apply room_of <;> omega) | skip)
  (refine AskI.ret (c205 k) ?_; simp only [go_sem]; (repeat' with_reducible apply And.intro); all_goals first | (with_reducible first | refine OkW.mk ?_ | refine EndW.mk ?_ | apply AskI.id | apply AskGI.id) | (with_reducible apply KOt.mk; kernel_rfl) | exact trivial | rfl | omega | ((try intro _); first | apply R64 <;> omega | apply room_of <;> omega) | skip)
  have hw : ((blockW k.sure) : List UInt8).length ≤ 20 := by cases k.sure <;> decide
  refine Ok.block ?_
  generalize hNS : k.nums = ns at hns hlen ⊢
  generalize hW : (blockW k.sure) = wd at hw ⊢
  refine Ok.count ns.length (fun i => ⟨[(3, .d (.str (rowL wd (ns.take i)))), (39, .d (slD 1 intD ns)), (40, iS ns.length), (41, iS i)], [], []⟩) (fun _ => True) ⟨trivial, ?_⟩ ?_ ?_
  · (refine Sub.of ([]) ([]) ?_ ?_ ?_ rfl rfl <;> simp only [subB, subB1, subT, subT1, newT, subE, subV, subL, go_sem] <;> (try (repeat' with_reducible apply And.intro)) <;> (try first | exact DEq.refl _ | refine DEq.int ?_ | refine DEq.bool ?_ | omega))
    all_goals first | (rw [← hNS]; rfl) | (refine DEq.str ?_; rw [rowL_nil, ← hW, hk]; rfl) | (refine DEq.str ?_; rw [rowL_nil])
  · intro i hi _
    have hb := hns _ (getD_mem hi)
    have hl := rowL_len wd (ns.take i) (fun x hx => hns x (List.mem_of_mem_take hx))
    have hti : (ns.take i).length = i := by simp; omega
    have hil := itoaLen _ hb.1 hb.2
    have hsn : rowL wd (ns.take (i + 1)) = rowL wd (ns.take i) ++ [32] ++ Lib.itoa (ns.getD i default) := by rw [getD_take hi, rowL_snoc]
    (((first | refine Ok.seqF rfl rfl ?_ | refine Ok.seqT rfl rfl ?_ | refine Ok.regF rfl rfl ?_ | refine Ok.regT rfl rfl ?_); simp only [go_sem]; (repeat' with_reducible apply And.intro); all_goals first | (with_reducible first | refine OkW.mk ?_ | refine EndW.mk ?_ | apply AskI.id | apply AskGI.id) | (with_reducible apply KOt.mk; kernel_rfl) | exact trivial | rfl | omega | ((try intro _); first | apply R64 <;> omega | apply room_of <;> omega) | skip)); refine Ok.seq ?_; refine Ok.cond rfl (fun _ => ?_) (fun hb => by simp at hb; omega); (refine Ok.skip ?_; (try dsimp only [thenK, blockK, noGotoK])); refine Ok.seq ?_; refine Ok.block ?_
    ((first | refine Ok.seqF rfl rfl ?_ | refine Ok.seqT rfl rfl ?_ | refine Ok.regF rfl rfl ?_ | refine Ok.regT rfl rfl ?_); simp only [go_sem]; (repeat' with_reducible apply And.intro); all_goals first | (with_reducible first | refine OkW.mk ?_ | refine EndW.mk ?_ | apply AskI.id | apply AskGI.id) | (with_reducible apply KOt.mk; kernel_rfl) | exact trivial | rfl | omega | ((try intro _); first | apply R64 <;> omega | apply room_of <;> omega) | skip)
    ((first | refine Ok.seqF rfl rfl ?_ | refine Ok.seqT rfl rfl ?_ | refine Ok.regF rfl rfl ?_ | refine Ok.regT rfl rfl ?_); simp only [go_sem]; (repeat' with_reducible apply And.intro); all_goals first | (with_reducible first | refine OkW.mk ?_ | refine EndW.mk ?_ | apply AskI.id | apply AskGI.id) | (with_reducible apply KOt.mk; kernel_rfl) | exact trivial | rfl | omega | ((try intro _); first | apply R64 <;> omega | apply room_of <;> omega) | skip)
    (refine AskI.ret (c132 _ (by omega) (by omega)) ?_; simp only [go_sem]; (repeat' with_reducible apply And.intro); all_goals first | (with_reducible first | refine OkW.mk ?_ | refine EndW.mk ?_ | apply AskI.id | apply AskGI.id) | (with_reducible apply KOt.mk; kernel_rfl) | exact trivial | rfl | omega | ((try intro _); first | apply R64 <;> omega | apply room_of <;> omega) | skip)
    · simp only [strRoom, List.length_cons, List.length_nil]; omega
    · simp only [strRoom, List.length_append, List.length_cons, List.length_nil]; omega
    (try dsimp only [thenK, blockK, noGotoK])
    ((first | refine Ok.seqF rfl rfl ?_ | refine Ok.seqT rfl rfl ?_ | refine Ok.regF rfl rfl ?_ | refine Ok.regT rfl rfl ?_); simp only [go_sem]; (repeat' with_reducible apply And.intro); all_goals first | (with_reducible first | refine OkW.mk ?_ | refine EndW.mk ?_ | apply AskI.id | apply AskGI.id) | (with_reducible apply KOt.mk; kernel_rfl) | exact trivial | rfl | omega | ((try intro _); first | apply R64 <;> omega | apply room_of <;> omega) | skip)
    (try dsimp only [thenK, blockK, noGotoK])
    refine ⟨trivial, ?_⟩
    (refine Sub.of ([]) ([]) ?_ ?_ ?_ rfl rfl <;> simp only [subB, subB1, subT, subT1, newT, subE, subV, subL, go_sem] <;> (try (repeat' with_reducible apply And.intro)) <;> (try first | exact DEq.refl _ | refine DEq.int ?_ | refine DEq.bool ?_ | omega))
    refine DEq.str ?_
    rw [hsn]; simp
  · intro _
    (((first | refine Ok.seqF rfl rfl ?_ | refine Ok.seqT rfl rfl ?_ | refine Ok.regF rfl rfl ?_ | refine Ok.regT rfl rfl ?_); simp only [go_sem]; (repeat' with_reducible apply And.intro); all_goals first | (with_reducible first | refine OkW.mk ?_ | refine EndW.mk ?_ | apply AskI.id | apply AskGI.id) | (with_reducible apply KOt.mk; kernel_rfl) | exact trivial | rfl | omega | ((try intro _); first | apply R64 <;> omega | apply room_of <;> omega) | skip)); refine Ok.seq ?_; refine Ok.cond rfl (fun hb => by simp at hb) (fun _ => ?_); (refine Ok.exit ?_; simp only [thenK_exit, blockK_exit, noGotoK_exit, thenK_normal, blockK_normal, noGotoK_normal, ↓reduceIte, Nat.reduceEqDiff])
    ((first | refine Ok.seqF rfl rfl ?_ | refine Ok.seqT rfl rfl ?_ | refine Ok.regF rfl rfl ?_ | refine Ok.regT rfl rfl ?_); simp only [go_sem]; (repeat' with_reducible apply And.intro); all_goals first | (with_reducible first | refine OkW.mk ?_ | refine EndW.mk ?_ | apply AskI.id | apply AskGI.id) | (with_reducible apply KOt.mk; kernel_rfl) | exact trivial | rfl | omega | ((try intro _); first | apply R64 <;> omega | apply room_of <;> omega) | skip)
    (refine Ok.ret ?_; (try dsimp only [thenK, blockK, noGotoK]); simp only [toList_mk, List.toList_toArray, retK_ret, retK_normal, resOK, resV, celV, rowV, frzAll, frzT, subV, subL, go_sem])
    refine DEq.str ?_
    rw [List.take_length]
end Go.Proofs.Sight
namespace Go.Proofs.Sight
open Go Go.RX Go.Proofs
set_option maxRecDepth 10000
theorem join_tail (l : List (List UInt8)) (h : l ≠ []) : Lib.joinTail [10] l = [10] ++ Lib.join l [10] := by
  cases l with
  | nil => exact (h rfl).elim
  | cons y t => rw [Lib.join_cons]; simp [Lib.joinTail]
theorem join_flat (e : List UInt8) : ∀ l : List (List UInt8), Lib.join (l ++ [e]) [10] = flatL l ++ e
  | [] => by simp [Lib.join_one, flatL]
  | x :: l => by
    rw [List.cons_append, Lib.join_cons, join_tail _ (by simp), join_flat e l]
    simp [flatL]
theorem endL_len {c : Nat} (h : c < 179) : (endL c).length ≤ 67 := by
  have l1 := decLen (c / 100) (by omega)
  have l2 := decLen (c / 10 % 10) (by omega)
  have l3 := decLen (c % 10) (by omega)
  simp only [endL, List.length_append, List.length_cons, List.length_nil]; omega
theorem c104 (s : Street) (hs : s.small) : Ctr Tryz.prog 104 [s.sv] (.d (.str (sealedL (rowsOf s)))) := by
  have hnb := hs.nb
  have hnk := hs.nk
  (refine Ctr.mk (fn := Tryz.f104) rfl rfl rfl rfl rfl Tryz.results104 ?_; dsimp only [args, List.toList_toArray])
  ((first | refine Ok.seqF rfl rfl ?_ | refine Ok.seqT rfl rfl ?_ | refine Ok.regF rfl rfl ?_ | refine Ok.regT rfl rfl ?_); simp only [go_sem]; (repeat' with_reducible apply And.intro); all_goals first | (with_reducible first | refine OkW.mk ?_ | refine EndW.mk ?_ | apply AskI.id | apply AskGI.id) | (with_reducible apply KOt.mk; kernel_rfl) | exact trivial | rfl | omega | ((try intro _); first | apply R64 <;> omega | apply room_of <;> omega) | skip)
  ((first | refine Ok.seqF rfl rfl ?_ | refine Ok.seqT rfl rfl ?_ | refine Ok.regF rfl rfl ?_ | refine Ok.regT rfl rfl ?_); simp only [go_sem]; (repeat' with_reducible apply And.intro); all_goals first | (with_reducible first | refine OkW.mk ?_ | refine EndW.mk ?_ | apply AskI.id | apply AskGI.id) | (with_reducible apply KOt.mk; kernel_rfl) | exact trivial | rfl | omega | ((try intro _); first | apply R64 <;> omega | apply room_of <;> omega) | skip)
  (refine AskI.ret (c131h s hs.n) ?_; simp only [go_sem]; (repeat' with_reducible apply And.intro); all_goals first | (with_reducible first | refine OkW.mk ?_ | refine EndW.mk ?_ | apply AskI.id | apply AskGI.id) | (with_reducible apply KOt.mk; kernel_rfl) | exact trivial | rfl | omega | ((try intro _); first | apply R64 <;> omega | apply room_of <;> omega) | skip)
  refine Ok.seq ?_
  ((first | refine Ok.seqF rfl rfl ?_ | refine Ok.seqT rfl rfl ?_ | refine Ok.regF rfl rfl ?_ | refine Ok.regT rfl rfl ?_); simp only [go_sem]; (repeat' with_reducible apply And.intro); all_goals first | (with_reducible first | refine OkW.mk ?_ | refine EndW.mk ?_ | apply AskI.id | apply AskGI.id) | (with_reducible apply KOt.mk; kernel_rfl) | exact trivial | rfl | omega | ((try intro _); first | apply R64 <;> omega | apply room_of <;> omega) | skip)
  refine Ok.block ?_
  refine Ok.count s.bs.length (fun i => ⟨[(1, .p 0 0), (3, .tk 0), (20, .d (slD 2 boaD s.bs)), (21, iS s.bs.length), (22, iS i)], [streetB s], [ownD 9 1 strD (rowsB s i)]⟩) (fun _ => True) ⟨trivial, ?_⟩ ?_ ?_
  · (refine Sub.of ([0]) ([some 0]) ?_ ?_ ?_ rfl rfl <;> simp only [subB, subB1, subT, subT1, newT, subE, subV, subL, go_sem] <;> (try (repeat' with_reducible apply And.intro)) <;> (try first | exact DEq.refl _ | refine DEq.int ?_ | refine DEq.bool ?_ | omega))
    · rfl
    · intro i j hi hj
      have h1 : i = 0 := by omega
      have h2 : j = 0 := by omega
      subst h1; subst h2
      exact .refl _
  · intro i hi _
    have hl := rowsB_len s i hs
    have hb := hs.b _ (getD_mem hi)
    have hnl : (s.bs.getD i default).ls.length ≤ 501 := by
      have := rowsL_len s (j := (s.bs.getD i default).ls.length) hi hs
      simp only [rowsL, List.length_append, List.length_cons, List.length_map, List.take_length] at this
      omega
    (((first | refine Ok.seqF rfl rfl ?_ | refine Ok.seqT rfl rfl ?_ | refine Ok.regF rfl rfl ?_ | refine Ok.regT rfl rfl ?_); simp only [go_sem]; (repeat' with_reducible apply And.intro); all_goals first | (with_reducible first | refine OkW.mk ?_ | refine EndW.mk ?_ | apply AskI.id | apply AskGI.id) | (with_reducible apply KOt.mk; kernel_rfl) | exact trivial | rfl | omega | ((try intro _); first | apply R64 <;> omega | apply room_of <;> omega) | skip)); refine Ok.seq ?_; refine Ok.cond rfl (fun _ => ?_) (fun hb => by simp at hb; omega); (refine Ok.skip ?_; (try dsimp only [thenK, blockK, noGotoK])); refine Ok.seq ?_; refine Ok.block ?_
    ((first | refine Ok.seqF rfl rfl ?_ | refine Ok.seqT rfl rfl ?_ | refine Ok.regF rfl rfl ?_ | refine Ok.regT rfl rfl ?_); simp only [go_sem]; (repeat' with_reducible apply And.intro); all_goals first | (with_reducible first | refine OkW.mk ?_ | refine EndW.mk ?_ | apply AskI.id | apply AskGI.id) | (with_reducible apply KOt.mk; kernel_rfl) | exact trivial | rfl | omega | ((try intro _); first | apply R64 <;> omega | apply room_of <;> omega) | skip)
    ((first | refine Ok.seqF rfl rfl ?_ | refine Ok.seqT rfl rfl ?_ | refine Ok.regF rfl rfl ?_ | refine Ok.regT rfl rfl ?_); simp only [go_sem]; (repeat' with_reducible apply And.intro); all_goals first | (with_reducible first | refine OkW.mk ?_ | refine EndW.mk ?_ | apply AskI.id | apply AskGI.id) | (with_reducible apply KOt.mk; kernel_rfl) | exact trivial | rfl | omega | ((try intro _); first | apply R64 <;> omega | apply room_of <;> omega) | skip)
    (refine AskI.ret (c131s (s.bs.getD i default) (fun n hn => by simp at hn; subst hn; simpa using hb)) ?_; simp only [go_sem]; (repeat' with_reducible apply And.intro); all_goals first | (with_reducible first | refine OkW.mk ?_ | refine EndW.mk ?_ | apply AskI.id | apply AskGI.id) | (with_reducible apply KOt.mk; kernel_rfl) | exact trivial | rfl | omega | ((try intro _); first | apply R64 <;> omega | apply room_of <;> omega) | skip)
    ((first | refine Ok.seqF rfl rfl ?_ | refine Ok.seqT rfl rfl ?_ | refine Ok.regF rfl rfl ?_ | refine Ok.regT rfl rfl ?_); simp only [go_sem]; (repeat' with_reducible apply And.intro); all_goals first | (with_reducible first | refine OkW.mk ?_ | refine EndW.mk ?_ | apply AskI.id | apply AskGI.id) | (with_reducible apply KOt.mk; kernel_rfl) | exact trivial | rfl | omega | ((try intro _); first | apply R64 <;> omega | apply room_of <;> omega) | skip)
    refine Ok.block ?_
    refine Ok.count (s.bs.getD i default).ls.length (fun j => ⟨[(1, .p 0 0), (3, .tk 0), (5, .p 1 0), (20, .d (slD 2 boaD s.bs)), (21, iS s.bs.length), (22, iS i), (34, .d (slD 4 letD (s.bs.getD i default).ls)), (35, iS (s.bs.getD i default).ls.length), (36, iS j)], [streetB s, boardB (s.bs.getD i default)], [ownD 9 1 strD (rowsL s i j)]⟩) (fun _ => True) ⟨trivial, ?_⟩ ?_ ?_
    · (refine Sub.of ([0, 1]) ([some 2]) ?_ ?_ ?_ rfl rfl <;> simp only [subB, subB1, subT, subT1, newT, subE, subV, subL, go_sem] <;> (try (repeat' with_reducible apply And.intro)) <;> (try first | exact DEq.refl _ | refine DEq.int ?_ | refine DEq.bool ?_ | omega))
      · rw [rowsL_zero]; simp
      · rw [rowsL_zero]
        exact snoc_D (str_snoc _)
    · intro j hj _
      have hl2 := rowsL_len s (j := j) hi hs
      have hx := hs.l _ (getD_mem hi) _ (getD_mem hj)
      have hk2 : (s.bs[i]?.getD default).ls.length = (s.bs.getD i default).ls.length := by rw [List.getD_eq_getElem?_getD]
      (((first | refine Ok.seqF rfl rfl ?_ | refine Ok.seqT rfl rfl ?_ | refine Ok.regF rfl rfl ?_ | refine Ok.regT rfl rfl ?_); simp only [go_sem]; (repeat' with_reducible apply And.intro); all_goals first | (with_reducible first | refine OkW.mk ?_ | refine EndW.mk ?_ | apply AskI.id | apply AskGI.id) | (with_reducible apply KOt.mk; kernel_rfl) | exact trivial | rfl | omega | ((try intro _); first | apply R64 <;> omega | apply room_of <;> omega) | skip)); refine Ok.seq ?_; refine Ok.cond rfl (fun _ => ?_) (fun hb => by simp at hb; omega); (refine Ok.skip ?_; (try dsimp only [thenK, blockK, noGotoK])); refine Ok.seq ?_; refine Ok.block ?_
      ((first | refine Ok.seqF rfl rfl ?_ | refine Ok.seqT rfl rfl ?_ | refine Ok.regF rfl rfl ?_ | refine Ok.regT rfl rfl ?_); simp only [go_sem]; (repeat' with_reducible apply And.intro); all_goals first | (with_reducible first | refine OkW.mk ?_ | refine EndW.mk ?_ | apply AskI.id | apply AskGI.id) | (with_reducible apply KOt.mk; kernel_rfl) | exact trivial | rfl | omega | ((try intro _); first | apply R64 <;> omega | apply room_of <;> omega) | skip)
      ((first | refine Ok.seqF rfl rfl ?_ | refine Ok.seqT rfl rfl ?_ | refine Ok.regF rfl rfl ?_ | refine Ok.regT rfl rfl ?_); simp only [go_sem]; (repeat' with_reducible apply And.intro); all_goals first | (with_reducible first | refine OkW.mk ?_ | refine EndW.mk ?_ | apply AskI.id | apply AskGI.id) | (with_reducible apply KOt.mk; kernel_rfl) | exact trivial | rfl | omega | ((try intro _); first | apply R64 <;> omega | apply room_of <;> omega) | skip)
      (refine AskI.ret (c131m ((s.bs.getD i default).ls.getD j default) hx) ?_; simp only [go_sem]; (repeat' with_reducible apply And.intro); all_goals first | (with_reducible first | refine OkW.mk ?_ | refine EndW.mk ?_ | apply AskI.id | apply AskGI.id) | (with_reducible apply KOt.mk; kernel_rfl) | exact trivial | rfl | omega | ((try intro _); first | apply R64 <;> omega | apply room_of <;> omega) | skip)
      (try dsimp only [thenK, blockK, noGotoK])
      ((first | refine Ok.seqF rfl rfl ?_ | refine Ok.seqT rfl rfl ?_ | refine Ok.regF rfl rfl ?_ | refine Ok.regT rfl rfl ?_); simp only [go_sem]; (repeat' with_reducible apply And.intro); all_goals first | (with_reducible first | refine OkW.mk ?_ | refine EndW.mk ?_ | apply AskI.id | apply AskGI.id) | (with_reducible apply KOt.mk; kernel_rfl) | exact trivial | rfl | omega | ((try intro _); first | apply R64 <;> omega | apply room_of <;> omega) | skip)
      (try dsimp only [thenK, blockK, noGotoK])
      refine ⟨trivial, ?_⟩
      (refine Sub.of ([0, 1]) ([some 2]) ?_ ?_ ?_ rfl rfl <;> simp only [subB, subB1, subT, subT1, newT, subE, subV, subL, go_sem] <;> (try (repeat' with_reducible apply And.intro)) <;> (try first | exact DEq.refl _ | refine DEq.int ?_ | refine DEq.bool ?_ | omega))
      · rw [rowsL_succ s i hj]; simp
      · rw [rowsL_succ s i hj]
        exact snoc_D (str_snoc _)
    · intro _
      (((first | refine Ok.seqF rfl rfl ?_ | refine Ok.seqT rfl rfl ?_ | refine Ok.regF rfl rfl ?_ | refine Ok.regT rfl rfl ?_); simp only [go_sem]; (repeat' with_reducible apply And.intro); all_goals first | (with_reducible first | refine OkW.mk ?_ | refine EndW.mk ?_ | apply AskI.id | apply AskGI.id) | (with_reducible apply KOt.mk; kernel_rfl) | exact trivial | rfl | omega | ((try intro _); first | apply R64 <;> omega | apply room_of <;> omega) | skip)); refine Ok.seq ?_; refine Ok.cond rfl (fun hb => by simp at hb) (fun _ => ?_); (refine Ok.exit ?_; simp only [thenK_exit, blockK_exit, noGotoK_exit, thenK_normal, blockK_normal, noGotoK_normal, ↓reduceIte, Nat.reduceEqDiff])
      (try dsimp only [thenK, blockK, noGotoK])
      ((first | refine Ok.seqF rfl rfl ?_ | refine Ok.seqT rfl rfl ?_ | refine Ok.regF rfl rfl ?_ | refine Ok.regT rfl rfl ?_); simp only [go_sem]; (repeat' with_reducible apply And.intro); all_goals first | (with_reducible first | refine OkW.mk ?_ | refine EndW.mk ?_ | apply AskI.id | apply AskGI.id) | (with_reducible apply KOt.mk; kernel_rfl) | exact trivial | rfl | omega | ((try intro _); first | apply R64 <;> omega | apply room_of <;> omega) | skip)
      (try dsimp only [thenK, blockK, noGotoK])
      refine ⟨trivial, ?_⟩
      rw [rowsL_all s hi]
      (refine Sub.of ([0]) ([some 0]) ?_ ?_ ?_ rfl rfl <;> simp only [subB, subB1, subT, subT1, newT, subE, subV, subL, go_sem] <;> (try (repeat' with_reducible apply And.intro)) <;> (try first | exact DEq.refl _ | refine DEq.int ?_ | refine DEq.bool ?_ | omega))
      exact fun _ _ _ _ => DEq.refl _
  intro _
  (((first | refine Ok.seqF rfl rfl ?_ | refine Ok.seqT rfl rfl ?_ | refine Ok.regF rfl rfl ?_ | refine Ok.regT rfl rfl ?_); simp only [go_sem]; (repeat' with_reducible apply And.intro); all_goals first | (with_reducible first | refine OkW.mk ?_ | refine EndW.mk ?_ | apply AskI.id | apply AskGI.id) | (with_reducible apply KOt.mk; kernel_rfl) | exact trivial | rfl | omega | ((try intro _); first | apply R64 <;> omega | apply room_of <;> omega) | skip)); refine Ok.seq ?_; refine Ok.cond rfl (fun hb => by simp at hb) (fun _ => ?_); (refine Ok.exit ?_; simp only [thenK_exit, blockK_exit, noGotoK_exit, thenK_normal, blockK_normal, noGotoK_normal, ↓reduceIte, Nat.reduceEqDiff])
  refine Ok.seq ?_
  ((first | refine Ok.seqF rfl rfl ?_ | refine Ok.seqT rfl rfl ?_ | refine Ok.regF rfl rfl ?_ | refine Ok.regT rfl rfl ?_); simp only [go_sem]; (repeat' with_reducible apply And.intro); all_goals first | (with_reducible first | refine OkW.mk ?_ | refine EndW.mk ?_ | apply AskI.id | apply AskGI.id) | (with_reducible apply KOt.mk; kernel_rfl) | exact trivial | rfl | omega | ((try intro _); first | apply R64 <;> omega | apply room_of <;> omega) | skip)
  refine Ok.block ?_
  refine Ok.count s.ks.length (fun i => ⟨[(1, .p 0 0), (3, .tk 0), (50, .d (slD 5 bloD s.ks)), (51, iS s.ks.length), (52, iS i)], [streetB s], [ownD 9 1 strD (rowsK s i)]⟩) (fun _ => True) ⟨trivial, ?_⟩ ?_ ?_
  · rw [rowsK_zero]
    (refine Sub.of ([0]) ([some 0]) ?_ ?_ ?_ rfl rfl <;> simp only [subB, subB1, subT, subT1, newT, subE, subV, subL, go_sem] <;> (try (repeat' with_reducible apply And.intro)) <;> (try first | exact DEq.refl _ | refine DEq.int ?_ | refine DEq.bool ?_ | omega))
    exact fun _ _ _ _ => DEq.refl _
  · intro i hi _
    have hl := rowsK_len s i hs
    have hx := hs.k _ (getD_mem hi)
    have h131 : Ctr Tryz.prog 131 [.d (.ifc 175 5 (dget (s.ks.getD i default).cells))] (.d (.str (blockRow (s.ks.getD i default)))) := by
      cases hk : (s.ks.getD i default).sure with
      | true => exact c131b1 _ hk hx
      | false => exact c131b0 _ hk hx
    (((first | refine Ok.seqF rfl rfl ?_ | refine Ok.seqT rfl rfl ?_ | refine Ok.regF rfl rfl ?_ | refine Ok.regT rfl rfl ?_); simp only [go_sem]; (repeat' with_reducible apply And.intro); all_goals first | (with_reducible first | refine OkW.mk ?_ | refine EndW.mk ?_ | apply AskI.id | apply AskGI.id) | (with_reducible apply KOt.mk; kernel_rfl) | exact trivial | rfl | omega | ((try intro _); first | apply R64 <;> omega | apply room_of <;> omega) | skip)); refine Ok.seq ?_; refine Ok.cond rfl (fun _ => ?_) (fun hb => by simp at hb; omega); (refine Ok.skip ?_; (try dsimp only [thenK, blockK, noGotoK])); refine Ok.seq ?_; refine Ok.block ?_
    ((first | refine Ok.seqF rfl rfl ?_ | refine Ok.seqT rfl rfl ?_ | refine Ok.regF rfl rfl ?_ | refine Ok.regT rfl rfl ?_); simp only [go_sem]; (repeat' with_reducible apply And.intro); all_goals first | (with_reducible first | refine OkW.mk ?_ | refine EndW.mk ?_ | apply AskI.id | apply AskGI.id) | (with_reducible apply KOt.mk; kernel_rfl) | exact trivial | rfl | omega | ((try intro _); first | apply R64 <;> omega | apply room_of <;> omega) | skip)
    ((first | refine Ok.seqF rfl rfl ?_ | refine Ok.seqT rfl rfl ?_ | refine Ok.regF rfl rfl ?_ | refine Ok.regT rfl rfl ?_); simp only [go_sem]; (repeat' with_reducible apply And.intro); all_goals first | (with_reducible first | refine OkW.mk ?_ | refine EndW.mk ?_ | apply AskI.id | apply AskGI.id) | (with_reducible apply KOt.mk; kernel_rfl) | exact trivial | rfl | omega | ((try intro _); first | apply R64 <;> omega | apply room_of <;> omega) | skip)
    (refine AskI.ret (h131) ?_; simp only [go_sem]; (repeat' with_reducible apply And.intro); all_goals first | (with_reducible first | refine OkW.mk ?_ | refine EndW.mk ?_ | apply AskI.id | apply AskGI.id) | (with_reducible apply KOt.mk; kernel_rfl) | exact trivial | rfl | omega | ((try intro _); first | apply R64 <;> omega | apply room_of <;> omega) | skip)
    (try dsimp only [thenK, blockK, noGotoK])
    ((first | refine Ok.seqF rfl rfl ?_ | refine Ok.seqT rfl rfl ?_ | refine Ok.regF rfl rfl ?_ | refine Ok.regT rfl rfl ?_); simp only [go_sem]; (repeat' with_reducible apply And.intro); all_goals first | (with_reducible first | refine OkW.mk ?_ | refine EndW.mk ?_ | apply AskI.id | apply AskGI.id) | (with_reducible apply KOt.mk; kernel_rfl) | exact trivial | rfl | omega | ((try intro _); first | apply R64 <;> omega | apply room_of <;> omega) | skip)
    (try dsimp only [thenK, blockK, noGotoK])
    refine ⟨trivial, ?_⟩
    (refine Sub.of ([0]) ([some 2]) ?_ ?_ ?_ rfl rfl <;> simp only [subB, subB1, subT, subT1, newT, subE, subV, subL, go_sem] <;> (try (repeat' with_reducible apply And.intro)) <;> (try first | exact DEq.refl _ | refine DEq.int ?_ | refine DEq.bool ?_ | omega))
    · rw [rowsK_succ s hi]; simp
    · rw [rowsK_succ s hi]
      exact snoc_D (str_snoc _)
  intro _
  rw [rowsK_all]
  have hrl : (rowsOf s).length ≤ 601 := by have := rowsK_len s s.ks.length hs; rwa [rowsK_all] at this
  have hr := rows_short s hs
  generalize rowsOf s = l at hrl hr ⊢
  (((first | refine Ok.seqF rfl rfl ?_ | refine Ok.seqT rfl rfl ?_ | refine Ok.regF rfl rfl ?_ | refine Ok.regT rfl rfl ?_); simp only [go_sem]; (repeat' with_reducible apply And.intro); all_goals first | (with_reducible first | refine OkW.mk ?_ | refine EndW.mk ?_ | apply AskI.id | apply AskGI.id) | (with_reducible apply KOt.mk; kernel_rfl) | exact trivial | rfl | omega | ((try intro _); first | apply R64 <;> omega | apply room_of <;> omega) | skip)); refine Ok.seq ?_; refine Ok.cond rfl (fun hb => by simp at hb) (fun _ => ?_); (refine Ok.exit ?_; simp only [thenK_exit, blockK_exit, noGotoK_exit, thenK_normal, blockK_normal, noGotoK_normal, ↓reduceIte, Nat.reduceEqDiff])
  ((first | refine Ok.seqF rfl rfl ?_ | refine Ok.seqT rfl rfl ?_ | refine Ok.regF rfl rfl ?_ | refine Ok.regT rfl rfl ?_); simp only [go_sem]; (repeat' with_reducible apply And.intro); all_goals first | (with_reducible first | refine OkW.mk ?_ | refine EndW.mk ?_ | apply AskI.id | apply AskGI.id) | (with_reducible apply KOt.mk; kernel_rfl) | exact trivial | rfl | omega | ((try intro _); first | apply R64 <;> omega | apply room_of <;> omega) | skip)
  refine Ok.seq ?_
  ((first | refine Ok.seqF rfl rfl ?_ | refine Ok.seqT rfl rfl ?_ | refine Ok.regF rfl rfl ?_ | refine Ok.regT rfl rfl ?_); simp only [go_sem]; (repeat' with_reducible apply And.intro); all_goals first | (with_reducible first | refine OkW.mk ?_ | refine EndW.mk ?_ | apply AskI.id | apply AskGI.id) | (with_reducible apply KOt.mk; kernel_rfl) | exact trivial | rfl | omega | ((try intro _); first | apply R64 <;> omega | apply room_of <;> omega) | skip)
  refine Ok.block ?_
  refine Ok.count l.length (fun i => ⟨[(3, .tk 0), (10, iS (rowsSum 0 (l.take i) : Nat)), (64, .tk 0), (65, iS l.length), (66, iS i)], [], [ownD 9 1 strD l]⟩) (fun _ => True) ⟨trivial, ?_⟩ ?_ ?_
  · (refine Sub.of ([]) ([some 0]) ?_ ?_ ?_ rfl rfl <;> simp only [subB, subB1, subT, subT1, newT, subE, subV, subL, go_sem] <;> (try (repeat' with_reducible apply And.intro)) <;> (try first | exact DEq.refl _ | refine DEq.int ?_ | refine DEq.bool ?_ | omega))
    exact fun _ _ _ _ => DEq.refl _
  · intro i hi _
    have hlen := hr _ (getD_mem hi)
    have hti : (l.take i).length = i := by simp; omega
    have hs1 := rowsSum_le (l.take i) 0 (by omega) (fun x hx => hr x (List.mem_of_mem_take hx))
    have hsn : rowsSum 0 (l.take (i + 1)) = rowsSum 0 (l.take i) + rowSum i 0 (l.getD i default) := by
      rw [getD_take hi, rowsSum_snoc, hti, Nat.zero_add]
    (((first | refine Ok.seqF rfl rfl ?_ | refine Ok.seqT rfl rfl ?_ | refine Ok.regF rfl rfl ?_ | refine Ok.regT rfl rfl ?_); simp only [go_sem]; (repeat' with_reducible apply And.intro); all_goals first | (with_reducible first | refine OkW.mk ?_ | refine EndW.mk ?_ | apply AskI.id | apply AskGI.id) | (with_reducible apply KOt.mk; kernel_rfl) | exact trivial | rfl | omega | ((try intro _); first | apply R64 <;> omega | apply room_of <;> omega) | skip)); refine Ok.seq ?_; refine Ok.cond rfl (fun _ => ?_) (fun hb => by simp at hb; omega); (refine Ok.skip ?_; (try dsimp only [thenK, blockK, noGotoK])); refine Ok.seq ?_; refine Ok.block ?_
    ((first | refine Ok.seqF rfl rfl ?_ | refine Ok.seqT rfl rfl ?_ | refine Ok.regF rfl rfl ?_ | refine Ok.regT rfl rfl ?_); simp only [go_sem]; (repeat' with_reducible apply And.intro); all_goals first | (with_reducible first | refine OkW.mk ?_ | refine EndW.mk ?_ | apply AskI.id | apply AskGI.id) | (with_reducible apply KOt.mk; kernel_rfl) | exact trivial | rfl | omega | ((try intro _); first | apply R64 <;> omega | apply room_of <;> omega) | skip)
    ((first | refine Ok.seqF rfl rfl ?_ | refine Ok.seqT rfl rfl ?_ | refine Ok.regF rfl rfl ?_ | refine Ok.regT rfl rfl ?_); simp only [go_sem]; (repeat' with_reducible apply And.intro); all_goals first | (with_reducible first | refine OkW.mk ?_ | refine EndW.mk ?_ | apply AskI.id | apply AskGI.id) | (with_reducible apply KOt.mk; kernel_rfl) | exact trivial | rfl | omega | ((try intro _); first | apply R64 <;> omega | apply room_of <;> omega) | skip)
    refine Ok.block ?_
    refine Ok.count (l.getD i default).length (fun k => ⟨[(3, .tk 0), (10, iS ((rowsSum 0 (l.take i) : Nat) + (rowSum i 0 ((l.getD i default).take k) : Nat))), (11, iS i), (12, .d (.str (l.getD i default))), (64, .tk 0), (65, iS l.length), (66, iS i), (72, iS (l.getD i default).length), (73, iS k)], [], [ownD 9 1 strD l]⟩) (fun _ => True) ⟨trivial, ?_⟩ ?_ ?_
    · (refine Sub.of ([]) ([some 0]) ?_ ?_ ?_ rfl rfl <;> simp only [subB, subB1, subT, subT1, newT, subE, subV, subL, go_sem] <;> (try (repeat' with_reducible apply And.intro)) <;> (try first | exact DEq.refl _ | refine DEq.int ?_ | refine DEq.bool ?_ | omega))
      all_goals first | (exact fun _ _ _ _ => DEq.refl _) | simp [rowSum]
    · intro k hk _
      have htk : ((l.getD i default).take k).length = k := by rw [List.length_take]; omega
      have hs2 := rowSum_le i (by omega) ((l.getD i default).take k) 0 (by omega)
      have hrn : rowSum i 0 ((l.getD i default).take (k + 1)) = rowSum i 0 ((l.getD i default).take k) + ((l.getD i default).getD k 0).toNat * (k + 1) * (i + 1) := by
        rw [getD_take hk, rowSum_snoc, htk, Nat.zero_add, getD0]
      have hb : ((l.getD i default).getD k 0).toNat ≤ 255 := by have := ((l.getD i default).getD k 0).toNat_lt; omega
      have hk2 : (l[i]?.getD default).length = (l.getD i default).length := by rw [List.getD_eq_getElem?_getD]
      generalize hbb : ((l.getD i default).getD k 0).toNat = b at hrn hb
      have e1 := mulB (a := (b : Int)) (b := (k : Int) + 1) (A := 255) (B := 1000) (by omega) (by omega) (by omega) (by omega)
      have e2 := mulB (a := (b : Int) * ((k : Int) + 1)) (b := (i : Int) + 1) (A := 255000) (B := 1000) (by omega) (by omega) (by omega) (by omega)
      (((first | refine Ok.seqF rfl rfl ?_ | refine Ok.seqT rfl rfl ?_ | refine Ok.regF rfl rfl ?_ | refine Ok.regT rfl rfl ?_); simp only [go_sem]; (repeat' with_reducible apply And.intro); all_goals first | (with_reducible first | refine OkW.mk ?_ | refine EndW.mk ?_ | apply AskI.id | apply AskGI.id) | (with_reducible apply KOt.mk; kernel_rfl) | exact trivial | rfl | omega | ((try intro _); first | apply R64 <;> omega | apply room_of <;> omega) | skip)); refine Ok.seq ?_; refine Ok.cond rfl (fun _ => ?_) (fun hb => by simp at hb; omega); (refine Ok.skip ?_; (try dsimp only [thenK, blockK, noGotoK])); refine Ok.seq ?_; refine Ok.block ?_
      ((first | refine Ok.seqF rfl rfl ?_ | refine Ok.seqT rfl rfl ?_ | refine Ok.regF rfl rfl ?_ | refine Ok.regT rfl rfl ?_); simp only [go_sem]; (repeat' with_reducible apply And.intro); all_goals first | (with_reducible first | refine OkW.mk ?_ | refine EndW.mk ?_ | apply AskI.id | apply AskGI.id) | (with_reducible apply KOt.mk; kernel_rfl) | exact trivial | rfl | omega | ((try intro _); first | apply R64 <;> omega | apply room_of <;> omega) | skip)
      ((first | refine Ok.seqF rfl rfl ?_ | refine Ok.seqT rfl rfl ?_ | refine Ok.regF rfl rfl ?_ | refine Ok.regT rfl rfl ?_); simp only [go_sem]; (repeat' with_reducible apply And.intro); all_goals first | (with_reducible first | refine OkW.mk ?_ | refine EndW.mk ?_ | apply AskI.id | apply AskGI.id) | (with_reducible apply KOt.mk; kernel_rfl) | exact trivial | rfl | omega | ((try intro _); first | apply R64 <;> omega | apply room_of <;> omega) | skip)
      · rw [hbb]; exact R64 (by omega) (by omega)
      · rw [hbb]; exact R64 (by omega) (by omega)
      · rw [hbb]; exact R64 (by omega) (by omega)
      (try dsimp only [thenK, blockK, noGotoK])
      ((first | refine Ok.seqF rfl rfl ?_ | refine Ok.seqT rfl rfl ?_ | refine Ok.regF rfl rfl ?_ | refine Ok.regT rfl rfl ?_); simp only [go_sem]; (repeat' with_reducible apply And.intro); all_goals first | (with_reducible first | refine OkW.mk ?_ | refine EndW.mk ?_ | apply AskI.id | apply AskGI.id) | (with_reducible apply KOt.mk; kernel_rfl) | exact trivial | rfl | omega | ((try intro _); first | apply R64 <;> omega | apply room_of <;> omega) | skip)
      (try dsimp only [thenK, blockK, noGotoK])
      refine ⟨trivial, ?_⟩
      (refine Sub.of ([]) ([some 0]) ?_ ?_ ?_ rfl rfl <;> simp only [subB, subB1, subT, subT1, newT, subE, subV, subL, go_sem] <;> (try (repeat' with_reducible apply And.intro)) <;> (try first | exact DEq.refl _ | refine DEq.int ?_ | refine DEq.bool ?_ | omega))
      all_goals first | (exact fun _ _ _ _ => DEq.refl _) | (rw [hrn, hbb]; push_cast; omega)
    · intro _
      (((first | refine Ok.seqF rfl rfl ?_ | refine Ok.seqT rfl rfl ?_ | refine Ok.regF rfl rfl ?_ | refine Ok.regT rfl rfl ?_); simp only [go_sem]; (repeat' with_reducible apply And.intro); all_goals first | (with_reducible first | refine OkW.mk ?_ | refine EndW.mk ?_ | apply AskI.id | apply AskGI.id) | (with_reducible apply KOt.mk; kernel_rfl) | exact trivial | rfl | omega | ((try intro _); first | apply R64 <;> omega | apply room_of <;> omega) | skip)); refine Ok.seq ?_; refine Ok.cond rfl (fun hb => by simp at hb) (fun _ => ?_); (refine Ok.exit ?_; simp only [thenK_exit, blockK_exit, noGotoK_exit, thenK_normal, blockK_normal, noGotoK_normal, ↓reduceIte, Nat.reduceEqDiff])
      (try dsimp only [thenK, blockK, noGotoK])
      ((first | refine Ok.seqF rfl rfl ?_ | refine Ok.seqT rfl rfl ?_ | refine Ok.regF rfl rfl ?_ | refine Ok.regT rfl rfl ?_); simp only [go_sem]; (repeat' with_reducible apply And.intro); all_goals first | (with_reducible first | refine OkW.mk ?_ | refine EndW.mk ?_ | apply AskI.id | apply AskGI.id) | (with_reducible apply KOt.mk; kernel_rfl) | exact trivial | rfl | omega | ((try intro _); first | apply R64 <;> omega | apply room_of <;> omega) | skip)
      (try dsimp only [thenK, blockK, noGotoK])
      refine ⟨trivial, ?_⟩
      (refine Sub.of ([]) ([some 0]) ?_ ?_ ?_ rfl rfl <;> simp only [subB, subB1, subT, subT1, newT, subE, subV, subL, go_sem] <;> (try (repeat' with_reducible apply And.intro)) <;> (try first | exact DEq.refl _ | refine DEq.int ?_ | refine DEq.bool ?_ | omega))
      all_goals first | (exact fun _ _ _ _ => DEq.refl _) | (rw [hsn, List.take_length]; push_cast; omega)
  intro _
  have hs1 := rowsSum_le l 0 (by omega) hr
  have hfl := flatL_len l hr
  rw [List.take_length]
  (((first | refine Ok.seqF rfl rfl ?_ | refine Ok.seqT rfl rfl ?_ | refine Ok.regF rfl rfl ?_ | refine Ok.regT rfl rfl ?_); simp only [go_sem]; (repeat' with_reducible apply And.intro); all_goals first | (with_reducible first | refine OkW.mk ?_ | refine EndW.mk ?_ | apply AskI.id | apply AskGI.id) | (with_reducible apply KOt.mk; kernel_rfl) | exact trivial | rfl | omega | ((try intro _); first | apply R64 <;> omega | apply room_of <;> omega) | skip)); refine Ok.seq ?_; refine Ok.cond rfl (fun hb => by simp at hb) (fun _ => ?_); (refine Ok.exit ?_; simp only [thenK_exit, blockK_exit, noGotoK_exit, thenK_normal, blockK_normal, noGotoK_normal, ↓reduceIte, Nat.reduceEqDiff])
  ((first | refine Ok.seqF rfl rfl ?_ | refine Ok.seqT rfl rfl ?_ | refine Ok.regF rfl rfl ?_ | refine Ok.regT rfl rfl ?_); simp only [go_sem]; (repeat' with_reducible apply And.intro); all_goals first | (with_reducible first | refine OkW.mk ?_ | refine EndW.mk ?_ | apply AskI.id | apply AskGI.id) | (with_reducible apply KOt.mk; kernel_rfl) | exact trivial | rfl | omega | ((try intro _); first | apply R64 <;> omega | apply room_of <;> omega) | skip)
  rw [show ((rowsSum 0 l : Nat) : Int).tmod 179 = ((rowsSum 0 l % 179 : Nat) : Int) from by rw [Int.tmod_eq_emod_of_nonneg (by omega)]; simp]
  unfold sealedL
  have hc : rowsSum 0 l % 179 < 179 := Nat.mod_lt _ (by decide)
  generalize rowsSum 0 l % 179 = c at hc
  have l1 := decLen (c / 100) (by omega)
  have l2 := decLen (c / 10 % 10) (by omega)
  have l3 := decLen (c % 10) (by omega)
  ((first | refine Ok.seqF rfl rfl ?_ | refine Ok.seqT rfl rfl ?_ | refine Ok.regF rfl rfl ?_ | refine Ok.regT rfl rfl ?_); simp only [go_sem]; (repeat' with_reducible apply And.intro); all_goals first | (with_reducible first | refine OkW.mk ?_ | refine EndW.mk ?_ | apply AskI.id | apply AskGI.id) | (with_reducible apply KOt.mk; kernel_rfl) | exact trivial | rfl | omega | ((try intro _); first | apply R64 <;> omega | apply room_of <;> omega) | skip)
  · rw [tdivC]; exact R64 (by omega) (by omega)
  rw [tdivC]
  have i1 : Lib.itoa ((c / 100 : Nat) : Int) = Lib.decDigits (c / 100) := Lib.itoa_nonneg _
  have i2 : Lib.itoa ((c / 10 % 10 : Nat) : Int) = Lib.decDigits (c / 10 % 10) := Lib.itoa_nonneg _
  have i3 : Lib.itoa ((c % 10 : Nat) : Int) = Lib.decDigits (c % 10) := Lib.itoa_nonneg _
  have h1 := c132 ((c / 100 : Nat) : Int) (by omega) (by omega)
  rw [i1] at h1
  have h2 := c132 ((c / 10 % 10 : Nat) : Int) (by omega) (by omega)
  rw [i2] at h2
  have h3 := c132 ((c % 10 : Nat) : Int) (by omega) (by omega)
  rw [i3] at h3
  have hel := endL_len hc
  (refine AskI.ret (h1) ?_; simp only [go_sem]; (repeat' with_reducible apply And.intro); all_goals first | (with_reducible first | refine OkW.mk ?_ | refine EndW.mk ?_ | apply AskI.id | apply AskGI.id) | (with_reducible apply KOt.mk; kernel_rfl) | exact trivial | rfl | omega | ((try intro _); first | apply R64 <;> omega | apply room_of <;> omega) | skip)
  · simp only [strRoom, List.length_append, List.length_cons, List.length_nil]; omega
  · rw [tdivN]; exact R64 (by omega) (by omega)
  rw [tdivN, tmodN]
  (refine AskI.ret (h2) ?_; simp only [go_sem]; (repeat' with_reducible apply And.intro); all_goals first | (with_reducible first | refine OkW.mk ?_ | refine EndW.mk ?_ | apply AskI.id | apply AskGI.id) | (with_reducible apply KOt.mk; kernel_rfl) | exact trivial | rfl | omega | ((try intro _); first | apply R64 <;> omega | apply room_of <;> omega) | skip)
  · simp only [strRoom, List.length_append, List.length_cons, List.length_nil]; omega
  rw [tmodN]
  (refine AskI.ret (h3) ?_; simp only [go_sem]; (repeat' with_reducible apply And.intro); all_goals first | (with_reducible first | refine OkW.mk ?_ | refine EndW.mk ?_ | apply AskI.id | apply AskGI.id) | (with_reducible apply KOt.mk; kernel_rfl) | exact trivial | rfl | omega | ((try intro _); first | apply R64 <;> omega | apply room_of <;> omega) | skip)
  · simp only [strRoom, List.length_append, List.length_cons, List.length_nil]; omega
  have hjl : (Lib.join (l ++ [endL c]) [10]).length ≤ 1000000 := by
    rw [join_flat, List.length_append]; omega
  have h133 := c133 (l ++ [endL c]) [10] (by simp; omega) (by omega) (by simp)
  refine Ok.sub (σ' := ⟨[(3, .tk 0)], [], [ownD 9 1 strD (l ++ [endL c])]⟩) ?_ ?_
  · (refine Sub.of ([]) ([some 2]) ?_ ?_ ?_ rfl rfl <;> simp only [subB, subB1, subT, subT1, newT, subE, subV, subL, go_sem] <;> (try (repeat' with_reducible apply And.intro)) <;> (try first | exact DEq.refl _ | refine DEq.int ?_ | refine DEq.bool ?_ | omega))
    · simp
    · have e : endL c = [101, 110, 100, 32] ++ Lib.decDigits (c / 100) ++ Lib.decDigits (c / 10 % 10) ++ Lib.decDigits (c % 10) := rfl
      rw [e]
      exact snoc_D (str_snoc _)
  ((first | refine Ok.seqF rfl rfl ?_ | refine Ok.seqT rfl rfl ?_ | refine Ok.regF rfl rfl ?_ | refine Ok.regT rfl rfl ?_); simp only [go_sem]; (repeat' with_reducible apply And.intro); all_goals first | (with_reducible first | refine OkW.mk ?_ | refine EndW.mk ?_ | apply AskI.id | apply AskGI.id) | (with_reducible apply KOt.mk; kernel_rfl) | exact trivial | rfl | omega | ((try intro _); first | apply R64 <;> omega | apply room_of <;> omega) | skip)
  (refine AskI.ret (h133) ?_; simp only [go_sem]; (repeat' with_reducible apply And.intro); all_goals first | (with_reducible first | refine OkW.mk ?_ | refine EndW.mk ?_ | apply AskI.id | apply AskGI.id) | (with_reducible apply KOt.mk; kernel_rfl) | exact trivial | rfl | omega | ((try intro _); first | apply R64 <;> omega | apply room_of <;> omega) | skip)
  · rw [join_flat]; simp only [strRoom, List.length_append, List.length_cons, List.length_nil]; omega
  (refine Ok.ret ?_; (try dsimp only [thenK, blockK, noGotoK]); simp only [toList_mk, List.toList_toArray, retK_ret, retK_normal, resOK, resV, celV, rowV, frzAll, frzT, subV, subL, go_sem])
  refine DEq.str ?_
  rw [join_flat]
end Go.Proofs.Sight
