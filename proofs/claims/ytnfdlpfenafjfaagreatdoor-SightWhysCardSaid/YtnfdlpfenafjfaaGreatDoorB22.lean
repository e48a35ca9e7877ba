/-
  The program's functions, contracts: what each one returns, whatever the world: part 23. No condition.
-/
import Derived.Test.YtnfdlpfenafjfaaGreatDoorB00
import Derived.Test.YtnfdlpfenafjfaaGreatDoorB01
import Derived.Test.YtnfdlpfenafjfaaGreatDoorB02
import Derived.Test.YtnfdlpfenafjfaaGreatDoorB03
import Derived.Test.YtnfdlpfenafjfaaGreatDoorB04
import Derived.Test.YtnfdlpfenafjfaaGreatDoorB05
import Derived.Test.YtnfdlpfenafjfaaGreatDoorB06
import Derived.Test.YtnfdlpfenafjfaaGreatDoorB07
import Derived.Test.YtnfdlpfenafjfaaGreatDoorB08
import Derived.Test.YtnfdlpfenafjfaaGreatDoorB09
import Derived.Test.YtnfdlpfenafjfaaGreatDoorB10
import Derived.Test.YtnfdlpfenafjfaaGreatDoorB11
import Derived.Test.YtnfdlpfenafjfaaGreatDoorB12
import Derived.Test.YtnfdlpfenafjfaaGreatDoorB13
import Derived.Test.YtnfdlpfenafjfaaGreatDoorB14
import Derived.Test.YtnfdlpfenafjfaaGreatDoorB15
import Derived.Test.YtnfdlpfenafjfaaGreatDoorB16
import Derived.Test.YtnfdlpfenafjfaaGreatDoorB17
import Derived.Test.YtnfdlpfenafjfaaGreatDoorB18
import Derived.Test.YtnfdlpfenafjfaaGreatDoorB19
import Derived.Test.YtnfdlpfenafjfaaGreatDoorB20
import Derived.Test.YtnfdlpfenafjfaaGreatDoorB21
import Derived.RangeFuncNested
import Derived.RangeFuncBound
import Derived.RangeFuncCalls
import Derived.RangeFuncLeaves
import Derived.Shelf.Abstract
import Derived.Shelf.RegionOpen
import Derived.WalkKit
import Derived.OwnWalkIn
import Derived.TacticsInMore
import Derived.LoopNIn
import Derived.LoopIn
import Derived.Maps.OwnIn
import Derived.DeepKeys4
import Derived.RangeFuncBox
import Derived.Maps.AppendAt
import Derived.Defers
import Derived.Recover
set_option linter.all false
set_option linter.unusedVariables false
set_option linter.unusedSectionVars false
set_option linter.unusedSimpArgs false
set_option linter.unnecessarySimpa false
namespace Go.Proofs.Sight
open Go Go.RX Go.Proofs
set_option maxRecDepth 10000
def meltsL (L : Look) : List Int := (L.b.ls.take (L.b.ls.length - 1)).map (fun x => word (!apart L x (L.s.eh * L.s.lh)) (!apart L x (L.s.el * L.s.ll)))
def meltsW (s : Street) (i : Int) (p : Place) : List Int := if lookOk s i p then meltsL (lookOf s i p) else []
theorem c35 (s : Street) (hs : s.fit) (i : Int) (p : Place) : Ctr Tryz.prog 35 [s.sv, iS i, p.sv] (.tup [.d (slD 1 intD (meltsW s i p)), iS (errA (lookOk s i p))]) := by
  have h72 := c72 s hs i p
  (refine Ctr.mk (fn := Tryz.f35) rfl rfl rfl rfl rfl Tryz.results35 ?_; dsimp only [args, List.toList_toArray])
  ((first | refine Ok.seqF rfl rfl ?_ | refine Ok.seqT rfl rfl ?_ | refine Ok.regF rfl rfl ?_ | refine Ok.regT rfl rfl ?_); simp only [go_sem]; (repeat' with_reducible apply And.intro); all_goals first | (with_reducible first | refine OkW.mk ?_ | refine EndW.mk ?_ | apply AskI.id | apply AskGI.id) | (with_reducible apply KOt.mk; kernel_rfl) | exact trivial | rfl | omega | ((try intro _); first | apply R64 <;> omega | apply room_of <;> omega) | skip)
  refine Ok.seq ?_
  ((first | refine Ok.seqF rfl rfl ?_ | refine Ok.seqT rfl rfl ?_ | refine Ok.regF rfl rfl ?_ | refine Ok.regT rfl rfl ?_); simp only [go_sem]; (repeat' with_reducible apply And.intro); all_goals first | (with_reducible first | refine OkW.mk ?_ | refine EndW.mk ?_ | apply AskI.id | apply AskGI.id) | (with_reducible apply KOt.mk; kernel_rfl) | exact trivial | rfl | omega | ((try intro _); first | apply R64 <;> omega | apply room_of <;> omega) | skip)
  (refine AskI.ret (h72) ?_; simp only [go_sem]; (repeat' with_reducible apply And.intro); all_goals first | (with_reducible first | refine OkW.mk ?_ | refine EndW.mk ?_ | apply AskI.id | apply AskGI.id) | (with_reducible apply KOt.mk; kernel_rfl) | exact trivial | rfl | omega | ((try intro _); first | apply R64 <;> omega | apply room_of <;> omega) | skip)
  refine Ok.seq ?_
  ((first | refine Ok.seqF rfl rfl ?_ | refine Ok.seqT rfl rfl ?_ | refine Ok.regF rfl rfl ?_ | refine Ok.regT rfl rfl ?_); simp only [go_sem]; (repeat' with_reducible apply And.intro); all_goals first | (with_reducible first | refine OkW.mk ?_ | refine EndW.mk ?_ | apply AskI.id | apply AskGI.id) | (with_reducible apply KOt.mk; kernel_rfl) | exact trivial | rfl | omega | ((try intro _); first | apply R64 <;> omega | apply room_of <;> omega) | skip)
  refine Ok.cond rfl ?_ ?_
  · intro hb
    simp only [Bool.not_eq_true'] at hb
    ((first | refine Ok.seqF rfl rfl ?_ | refine Ok.seqT rfl rfl ?_ | refine Ok.regF rfl rfl ?_ | refine Ok.regT rfl rfl ?_); simp only [go_sem]; (repeat' with_reducible apply And.intro); all_goals first | (with_reducible first | refine OkW.mk ?_ | refine EndW.mk ?_ | apply AskI.id | apply AskGI.id) | (with_reducible apply KOt.mk; kernel_rfl) | exact trivial | rfl | omega | ((try intro _); first | apply R64 <;> omega | apply room_of <;> omega) | skip)
    (refine Ok.ret ?_; (try dsimp only [thenK, blockK, noGotoK]); simp only [toList_mk, List.toList_toArray, retK_ret, retK_normal, resOK, resV, celV, rowV, frzAll, frzT, subV, subL, go_sem])
    simp only [meltsW, errA, hb]
    exact ⟨DEq.nils rfl, .refl _⟩
  intro hb
  simp only [Bool.not_eq_false'] at hb
  obtain ⟨_, _, _, _, hg⟩ := lookOk_spec hb
  have hw : meltsW s i p = meltsL (lookOf s i p) := by simp [meltsW, hb]
  have he : errA (lookOk s i p) = 0 := by simp [errA, hb]
  rw [hw, he]
  generalize lookOf s i p = L at hg ⊢
  have hn1 := hg.n1
  have hn5 := hg.n5
  obtain ⟨p0, p1⟩ := pow_least hg.fine
  obtain ⟨q0, q1⟩ := pow_most hg.fine
  (refine Ok.skip ?_; (try dsimp only [thenK, blockK, noGotoK]))
  ((first | refine Ok.seqF rfl rfl ?_ | refine Ok.seqT rfl rfl ?_ | refine Ok.regF rfl rfl ?_ | refine Ok.regT rfl rfl ?_); simp only [go_sem]; (repeat' with_reducible apply And.intro); all_goals first | (with_reducible first | refine OkW.mk ?_ | refine EndW.mk ?_ | apply AskI.id | apply AskGI.id) | (with_reducible apply KOt.mk; kernel_rfl) | exact trivial | rfl | omega | ((try intro _); first | apply R64 <;> omega | apply room_of <;> omega) | skip)
  refine Ok.seq ?_
  ((first | refine Ok.seqF rfl rfl ?_ | refine Ok.seqT rfl rfl ?_ | refine Ok.regF rfl rfl ?_ | refine Ok.regT rfl rfl ?_); simp only [go_sem]; (repeat' with_reducible apply And.intro); all_goals first | (with_reducible first | refine OkW.mk ?_ | refine EndW.mk ?_ | apply AskI.id | apply AskGI.id) | (with_reducible apply KOt.mk; kernel_rfl) | exact trivial | rfl | omega | ((try intro _); first | apply R64 <;> omega | apply room_of <;> omega) | skip)
  refine Ok.block ?_
  generalize hF : (fun x => word (!apart L x (L.s.eh * L.s.lh)) (!apart L x (L.s.el * L.s.ll))) = F
  have hFL : meltsL L = (L.b.ls.take (L.b.ls.length - 1)).map F := by rw [← hF]; rfl
  rw [hFL]
  have hT : ∀ x ∈ L.b.ls.take (L.b.ls.length - 1), x.fine := fun x hx => hg.ls x (List.mem_of_mem_take hx)
  have hTl : (L.b.ls.take (L.b.ls.length - 1)).length = L.b.ls.length - 1 := by simp
  have hsl : DEq (.sl 4 ((↑L.b.ls.length : Int) - 1 - 0).toNat (fun i j => letD (L.b.ls.getD i default) j)) (slD 4 letD (L.b.ls.take (L.b.ls.length - 1))) := by
    have := slice_D (k := 4) (a := 0) (f := letD) (l := L.b.ls) (n := ((↑L.b.ls.length : Int) - 1 - 0).toNat) (m := L.b.ls.length - 1) (by omega) (by omega)
    simpa using this
  generalize L.b.ls.take (L.b.ls.length - 1) = T at hT hTl hsl ⊢
  refine Ok.count T.length (fun j => ⟨[(8, .p 0 0), (10, .tk 0), (30, .d (slD 4 letD T)), (31, iS T.length), (32, iS j)], [{ frz := false, xs := [iS L.s.len, iS L.s.wid, iS L.s.el, iS L.s.eh, iS L.s.ll, iS L.s.lh, .d (slD 2 boaD L.s.bs), .d (slD 5 bloD L.s.ks), iS L.b.at_, .d (slD 4 letD L.b.ls), iS L.p.al, iS L.p.ac] }], [ownD 32 1 intD ((T.take j).map F)]⟩) (fun _ => True) ⟨trivial, ?_⟩ ?_ ?_
  · (refine Sub.of ([2]) ([none]) ?_ ?_ ?_ rfl rfl <;> simp only [subB, subB1, subT, subT1, newT, subE, subV, subL, go_sem] <;> (try (repeat' with_reducible apply And.intro)) <;> (try first | exact DEq.refl _ | refine DEq.int ?_ | refine DEq.bool ?_ | omega))
    omega
  · intro j hj _
    have hlen := map_len F (l := T) (i := j) (by omega)
    have hsn := map_snoc F hj
    ((first | refine Ok.seqF rfl rfl ?_ | refine Ok.seqT rfl rfl ?_ | refine Ok.regF rfl rfl ?_ | refine Ok.regT rfl rfl ?_); simp only [go_sem]; (repeat' with_reducible apply And.intro); all_goals first | (with_reducible first | refine OkW.mk ?_ | refine EndW.mk ?_ | apply AskI.id | apply AskGI.id) | (with_reducible apply KOt.mk; kernel_rfl) | exact trivial | rfl | omega | ((try intro _); first | apply R64 <;> omega | apply room_of <;> omega) | skip)
    refine Ok.seq ?_
    refine Ok.cond rfl (fun _ => ?_) (fun hb => by simp at hb; omega)
    (refine Ok.skip ?_; (try dsimp only [thenK, blockK, noGotoK]))
    refine Ok.seq ?_
    refine Ok.block ?_
    ((first | refine Ok.seqF rfl rfl ?_ | refine Ok.seqT rfl rfl ?_ | refine Ok.regF rfl rfl ?_ | refine Ok.regT rfl rfl ?_); simp only [go_sem]; (repeat' with_reducible apply And.intro); all_goals first | (with_reducible first | refine OkW.mk ?_ | refine EndW.mk ?_ | apply AskI.id | apply AskGI.id) | (with_reducible apply KOt.mk; kernel_rfl) | exact trivial | rfl | omega | ((try intro _); first | apply R64 <;> omega | apply room_of <;> omega) | skip)
    ((first | refine Ok.seqF rfl rfl ?_ | refine Ok.seqT rfl rfl ?_ | refine Ok.regF rfl rfl ?_ | refine Ok.regT rfl rfl ?_); simp only [go_sem]; (repeat' with_reducible apply And.intro); all_goals first | (with_reducible first | refine OkW.mk ?_ | refine EndW.mk ?_ | apply AskI.id | apply AskGI.id) | (with_reducible apply KOt.mk; kernel_rfl) | exact trivial | rfl | omega | ((try intro _); first | apply R64 <;> omega | apply room_of <;> omega) | skip)
    (refine AskI.ret (c85 L hg.fine) ?_; simp only [go_sem]; (repeat' with_reducible apply And.intro); all_goals first | (with_reducible first | refine OkW.mk ?_ | refine EndW.mk ?_ | apply AskI.id | apply AskGI.id) | (with_reducible apply KOt.mk; kernel_rfl) | exact trivial | rfl | omega | ((try intro _); first | apply R64 <;> omega | apply room_of <;> omega) | skip)
    (refine AskI.ret (c86 L hg.fine _ (hT _ (getD_mem hj)) _ q0 q1) ?_; simp only [go_sem]; (repeat' with_reducible apply And.intro); all_goals first | (with_reducible first | refine OkW.mk ?_ | refine EndW.mk ?_ | apply AskI.id | apply AskGI.id) | (with_reducible apply KOt.mk; kernel_rfl) | exact trivial | rfl | omega | ((try intro _); first | apply R64 <;> omega | apply room_of <;> omega) | skip)
    (refine AskI.ret (c84 L hg.fine) ?_; simp only [go_sem]; (repeat' with_reducible apply And.intro); all_goals first | (with_reducible first | refine OkW.mk ?_ | refine EndW.mk ?_ | apply AskI.id | apply AskGI.id) | (with_reducible apply KOt.mk; kernel_rfl) | exact trivial | rfl | omega | ((try intro _); first | apply R64 <;> omega | apply room_of <;> omega) | skip)
    (refine AskI.ret (c86 L hg.fine _ (hT _ (getD_mem hj)) _ p0 p1) ?_; simp only [go_sem]; (repeat' with_reducible apply And.intro); all_goals first | (with_reducible first | refine OkW.mk ?_ | refine EndW.mk ?_ | apply AskI.id | apply AskGI.id) | (with_reducible apply KOt.mk; kernel_rfl) | exact trivial | rfl | omega | ((try intro _); first | apply R64 <;> omega | apply room_of <;> omega) | skip)
    (refine AskI.ret (c73 _ _) ?_; simp only [go_sem]; (repeat' with_reducible apply And.intro); all_goals first | (with_reducible first | refine OkW.mk ?_ | refine EndW.mk ?_ | apply AskI.id | apply AskGI.id) | (with_reducible apply KOt.mk; kernel_rfl) | exact trivial | rfl | omega | ((try intro _); first | apply R64 <;> omega | apply room_of <;> omega) | skip)
    (try dsimp only [thenK, blockK, noGotoK])
    ((first | refine Ok.seqF rfl rfl ?_ | refine Ok.seqT rfl rfl ?_ | refine Ok.regF rfl rfl ?_ | refine Ok.regT rfl rfl ?_); simp only [go_sem]; (repeat' with_reducible apply And.intro); all_goals first | (with_reducible first | refine OkW.mk ?_ | refine EndW.mk ?_ | apply AskI.id | apply AskGI.id) | (with_reducible apply KOt.mk; kernel_rfl) | exact trivial | rfl | omega | ((try intro _); first | apply R64 <;> omega | apply room_of <;> omega) | skip)
    (try dsimp only [thenK, blockK, noGotoK])
    refine ⟨trivial, ?_⟩
    (refine Sub.of ([0]) ([some 1]) ?_ ?_ ?_ rfl rfl <;> simp only [subB, subB1, subT, subT1, newT, subE, subV, subL, go_sem] <;> (try (repeat' with_reducible apply And.intro)) <;> (try first | exact DEq.refl _ | refine DEq.int ?_ | refine DEq.bool ?_ | omega))
    · rw [hsn]; simp
    · rw [hsn, ← hF]
      exact snoc_D (fun c hc => by have : c = 0 := by omega
                                   subst this; rfl)
  · intro _
    ((first | refine Ok.seqF rfl rfl ?_ | refine Ok.seqT rfl rfl ?_ | refine Ok.regF rfl rfl ?_ | refine Ok.regT rfl rfl ?_); simp only [go_sem]; (repeat' with_reducible apply And.intro); all_goals first | (with_reducible first | refine OkW.mk ?_ | refine EndW.mk ?_ | apply AskI.id | apply AskGI.id) | (with_reducible apply KOt.mk; kernel_rfl) | exact trivial | rfl | omega | ((try intro _); first | apply R64 <;> omega | apply room_of <;> omega) | skip)
    refine Ok.seq ?_
    refine Ok.cond rfl (fun hb => by simp at hb) (fun _ => ?_)
    (refine Ok.exit ?_; simp only [thenK_exit, blockK_exit, noGotoK_exit, thenK_normal, blockK_normal, noGotoK_normal, ↓reduceIte, Nat.reduceEqDiff])
    ((first | refine Ok.seqF rfl rfl ?_ | refine Ok.seqT rfl rfl ?_ | refine Ok.regF rfl rfl ?_ | refine Ok.regT rfl rfl ?_); simp only [go_sem]; (repeat' with_reducible apply And.intro); all_goals first | (with_reducible first | refine OkW.mk ?_ | refine EndW.mk ?_ | apply AskI.id | apply AskGI.id) | (with_reducible apply KOt.mk; kernel_rfl) | exact trivial | rfl | omega | ((try intro _); first | apply R64 <;> omega | apply room_of <;> omega) | skip)
    (refine Ok.ret ?_; (try dsimp only [thenK, blockK, noGotoK]); simp only [toList_mk, List.toList_toArray, retK_ret, retK_normal, resOK, resV, celV, rowV, frzAll, frzT, subV, subL, go_sem])
    simp only [List.take_length]
    ((repeat' with_reducible apply And.intro) <;> (first | exact DEq.refl _ | refine DEq.int ?_ | refine DEq.bool ?_ | skip))
def hiddenL (L : Look) : List Nat := (List.range L.s.ks.length).filter (fun j => hides L (L.s.ks.getD j default))
def hiddenW (s : Street) (i : Int) (p : Place) : List Nat := if lookOk s i p then hiddenL (lookOf s i p) else []
def natD (n : Nat) : Nat → DV := intD n
theorem filter_range (q : Nat → Bool) (j : Nat) : (List.range (j + 1)).filter q = (List.range j).filter q ++ (if q j then [j] else []) := by
  rw [List.range_succ, List.filter_append]
  cases h : q j <;> simp [h]
theorem filter_range_len (q : Nat → Bool) (j : Nat) : ((List.range j).filter q).length ≤ j := by
  have := List.length_filter_le q (List.range j)
  simpa using this
theorem c36 (s : Street) (hs : s.fit) (i : Int) (p : Place) : Ctr Tryz.prog 36 [s.sv, iS i, p.sv] (.tup [.d (slD 1 natD (hiddenW s i p)), iS (errA (lookOk s i p))]) := by
  have h72 := c72 s hs i p
  (refine Ctr.mk (fn := Tryz.f36) rfl rfl rfl rfl rfl Tryz.results36 ?_; dsimp only [args, List.toList_toArray])
  ((first | refine Ok.seqF rfl rfl ?_ | refine Ok.seqT rfl rfl ?_ | refine Ok.regF rfl rfl ?_ | refine Ok.regT rfl rfl ?_); simp only [go_sem]; (repeat' with_reducible apply And.intro); all_goals first | (with_reducible first | refine OkW.mk ?_ | refine EndW.mk ?_ | apply AskI.id | apply AskGI.id) | (with_reducible apply KOt.mk; kernel_rfl) | exact trivial | rfl | omega | ((try intro _); first | apply R64 <;> omega | apply room_of <;> omega) | skip)
  refine Ok.seq ?_
  ((first | refine Ok.seqF rfl rfl ?_ | refine Ok.seqT rfl rfl ?_ | refine Ok.regF rfl rfl ?_ | refine Ok.regT rfl rfl ?_); simp only [go_sem]; (repeat' with_reducible apply And.intro); all_goals first | (with_reducible first | refine OkW.mk ?_ | refine EndW.mk ?_ | apply AskI.id | apply AskGI.id) | (with_reducible apply KOt.mk; kernel_rfl) | exact trivial | rfl | omega | ((try intro _); first | apply R64 <;> omega | apply room_of <;> omega) | skip)
  (refine AskI.ret (h72) ?_; simp only [go_sem]; (repeat' with_reducible apply And.intro); all_goals first | (with_reducible first | refine OkW.mk ?_ | refine EndW.mk ?_ | apply AskI.id | apply AskGI.id) | (with_reducible apply KOt.mk; kernel_rfl) | exact trivial | rfl | omega | ((try intro _); first | apply R64 <;> omega | apply room_of <;> omega) | skip)
  refine Ok.seq ?_
  ((first | refine Ok.seqF rfl rfl ?_ | refine Ok.seqT rfl rfl ?_ | refine Ok.regF rfl rfl ?_ | refine Ok.regT rfl rfl ?_); simp only [go_sem]; (repeat' with_reducible apply And.intro); all_goals first | (with_reducible first | refine OkW.mk ?_ | refine EndW.mk ?_ | apply AskI.id | apply AskGI.id) | (with_reducible apply KOt.mk; kernel_rfl) | exact trivial | rfl | omega | ((try intro _); first | apply R64 <;> omega | apply room_of <;> omega) | skip)
  refine Ok.cond rfl ?_ ?_
  · intro hb
    simp only [Bool.not_eq_true'] at hb
    ((first | refine Ok.seqF rfl rfl ?_ | refine Ok.seqT rfl rfl ?_ | refine Ok.regF rfl rfl ?_ | refine Ok.regT rfl rfl ?_); simp only [go_sem]; (repeat' with_reducible apply And.intro); all_goals first | (with_reducible first | refine OkW.mk ?_ | refine EndW.mk ?_ | apply AskI.id | apply AskGI.id) | (with_reducible apply KOt.mk; kernel_rfl) | exact trivial | rfl | omega | ((try intro _); first | apply R64 <;> omega | apply room_of <;> omega) | skip)
    (refine Ok.ret ?_; (try dsimp only [thenK, blockK, noGotoK]); simp only [toList_mk, List.toList_toArray, retK_ret, retK_normal, resOK, resV, celV, rowV, frzAll, frzT, subV, subL, go_sem])
    simp only [hiddenW, errA, hb]
    exact ⟨DEq.nils rfl, .refl _⟩
  intro hb
  simp only [Bool.not_eq_false'] at hb
  obtain ⟨_, _, _, _, hg⟩ := lookOk_spec hb
  have hw : hiddenW s i p = hiddenL (lookOf s i p) := by simp [hiddenW, hb]
  have he : errA (lookOk s i p) = 0 := by simp [errA, hb]
  rw [hw, he]
  generalize lookOf s i p = L at hg ⊢
  have hk4 := hg.k4
  (refine Ok.skip ?_; (try dsimp only [thenK, blockK, noGotoK]))
  ((first | refine Ok.seqF rfl rfl ?_ | refine Ok.seqT rfl rfl ?_ | refine Ok.regF rfl rfl ?_ | refine Ok.regT rfl rfl ?_); simp only [go_sem]; (repeat' with_reducible apply And.intro); all_goals first | (with_reducible first | refine OkW.mk ?_ | refine EndW.mk ?_ | apply AskI.id | apply AskGI.id) | (with_reducible apply KOt.mk; kernel_rfl) | exact trivial | rfl | omega | ((try intro _); first | apply R64 <;> omega | apply room_of <;> omega) | skip)
  refine Ok.seq ?_
  ((first | refine Ok.seqF rfl rfl ?_ | refine Ok.seqT rfl rfl ?_ | refine Ok.regF rfl rfl ?_ | refine Ok.regT rfl rfl ?_); simp only [go_sem]; (repeat' with_reducible apply And.intro); all_goals first | (with_reducible first | refine OkW.mk ?_ | refine EndW.mk ?_ | apply AskI.id | apply AskGI.id) | (with_reducible apply KOt.mk; kernel_rfl) | exact trivial | rfl | omega | ((try intro _); first | apply R64 <;> omega | apply room_of <;> omega) | skip)
  refine Ok.block ?_
  generalize hq : (fun j => hides L (L.s.ks.getD j default)) = q
  have hFL : hiddenL L = (List.range L.s.ks.length).filter q := by rw [← hq]; rfl
  rw [hFL]
  refine Ok.count L.s.ks.length (fun j => ⟨[(8, .p 0 0), (10, .tk 0), (24, .d (slD 5 bloD L.s.ks)), (25, iS L.s.ks.length), (26, iS j)], [{ frz := false, xs := [iS L.s.len, iS L.s.wid, iS L.s.el, iS L.s.eh, iS L.s.ll, iS L.s.lh, .d (slD 2 boaD L.s.bs), .d (slD 5 bloD L.s.ks), iS L.b.at_, .d (slD 4 letD L.b.ls), iS L.p.al, iS L.p.ac] }], [ownD 3 1 natD ((List.range j).filter q)]⟩) (fun _ => True) ⟨trivial, ?_⟩ ?_ ?_
  · (refine Sub.of ([2]) ([none]) ?_ ?_ ?_ rfl rfl <;> simp only [subB, subB1, subT, subT1, newT, subE, subV, subL, go_sem] <;> (try (repeat' with_reducible apply And.intro)) <;> (try first | exact DEq.refl _ | refine DEq.int ?_ | refine DEq.bool ?_ | omega))
    simp
  · intro j hj _
    have hlen := filter_range_len q j
    have hsn := filter_range q j
    ((first | refine Ok.seqF rfl rfl ?_ | refine Ok.seqT rfl rfl ?_ | refine Ok.regF rfl rfl ?_ | refine Ok.regT rfl rfl ?_); simp only [go_sem]; (repeat' with_reducible apply And.intro); all_goals first | (with_reducible first | refine OkW.mk ?_ | refine EndW.mk ?_ | apply AskI.id | apply AskGI.id) | (with_reducible apply KOt.mk; kernel_rfl) | exact trivial | rfl | omega | ((try intro _); first | apply R64 <;> omega | apply room_of <;> omega) | skip)
    refine Ok.seq ?_
    refine Ok.cond rfl (fun _ => ?_) (fun hb => by simp at hb; omega)
    (refine Ok.skip ?_; (try dsimp only [thenK, blockK, noGotoK]))
    refine Ok.seq ?_
    refine Ok.block ?_
    ((first | refine Ok.seqF rfl rfl ?_ | refine Ok.seqT rfl rfl ?_ | refine Ok.regF rfl rfl ?_ | refine Ok.regT rfl rfl ?_); simp only [go_sem]; (repeat' with_reducible apply And.intro); all_goals first | (with_reducible first | refine OkW.mk ?_ | refine EndW.mk ?_ | apply AskI.id | apply AskGI.id) | (with_reducible apply KOt.mk; kernel_rfl) | exact trivial | rfl | omega | ((try intro _); first | apply R64 <;> omega | apply room_of <;> omega) | skip)
    refine Ok.seq ?_
    ((first | refine Ok.seqF rfl rfl ?_ | refine Ok.seqT rfl rfl ?_ | refine Ok.regF rfl rfl ?_ | refine Ok.regT rfl rfl ?_); simp only [go_sem]; (repeat' with_reducible apply And.intro); all_goals first | (with_reducible first | refine OkW.mk ?_ | refine EndW.mk ?_ | apply AskI.id | apply AskGI.id) | (with_reducible apply KOt.mk; kernel_rfl) | exact trivial | rfl | omega | ((try intro _); first | apply R64 <;> omega | apply room_of <;> omega) | skip)
    (refine AskI.ret (c87 L hg.fine _ (hg.ks _ (getD_mem hj))) ?_; simp only [go_sem]; (repeat' with_reducible apply And.intro); all_goals first | (with_reducible first | refine OkW.mk ?_ | refine EndW.mk ?_ | apply AskI.id | apply AskGI.id) | (with_reducible apply KOt.mk; kernel_rfl) | exact trivial | rfl | omega | ((try intro _); first | apply R64 <;> omega | apply room_of <;> omega) | skip)
    refine Ok.cond rfl ?_ ?_
    · intro hh
      have hqj : q j = true := by rw [← hq]; exact hh
      rw [hqj, if_pos rfl] at hsn
      ((first | refine Ok.seqF rfl rfl ?_ | refine Ok.seqT rfl rfl ?_ | refine Ok.regF rfl rfl ?_ | refine Ok.regT rfl rfl ?_); simp only [go_sem]; (repeat' with_reducible apply And.intro); all_goals first | (with_reducible first | refine OkW.mk ?_ | refine EndW.mk ?_ | apply AskI.id | apply AskGI.id) | (with_reducible apply KOt.mk; kernel_rfl) | exact trivial | rfl | omega | ((try intro _); first | apply R64 <;> omega | apply room_of <;> omega) | skip)
      (try dsimp only [thenK, blockK, noGotoK])
      ((first | refine Ok.seqF rfl rfl ?_ | refine Ok.seqT rfl rfl ?_ | refine Ok.regF rfl rfl ?_ | refine Ok.regT rfl rfl ?_); simp only [go_sem]; (repeat' with_reducible apply And.intro); all_goals first | (with_reducible first | refine OkW.mk ?_ | refine EndW.mk ?_ | apply AskI.id | apply AskGI.id) | (with_reducible apply KOt.mk; kernel_rfl) | exact trivial | rfl | omega | ((try intro _); first | apply R64 <;> omega | apply room_of <;> omega) | skip)
      (try dsimp only [thenK, blockK, noGotoK])
      refine ⟨trivial, ?_⟩
      (refine Sub.of ([0]) ([some 1]) ?_ ?_ ?_ rfl rfl <;> simp only [subB, subB1, subT, subT1, newT, subE, subV, subL, go_sem] <;> (try (repeat' with_reducible apply And.intro)) <;> (try first | exact DEq.refl _ | refine DEq.int ?_ | refine DEq.bool ?_ | omega))
      · rw [← List.range_succ, hsn]; simp
      · rw [← List.range_succ, hsn]
        exact snoc_D (fun c hc => by have : c = 0 := by omega
                                     subst this; rfl)
    · intro hh
      have hqj : q j = false := by rw [← hq]; exact hh
      rw [hqj, if_neg (by simp), List.append_nil] at hsn
      (refine Ok.skip ?_; (try dsimp only [thenK, blockK, noGotoK]))
      (try dsimp only [thenK, blockK, noGotoK])
      ((first | refine Ok.seqF rfl rfl ?_ | refine Ok.seqT rfl rfl ?_ | refine Ok.regF rfl rfl ?_ | refine Ok.regT rfl rfl ?_); simp only [go_sem]; (repeat' with_reducible apply And.intro); all_goals first | (with_reducible first | refine OkW.mk ?_ | refine EndW.mk ?_ | apply AskI.id | apply AskGI.id) | (with_reducible apply KOt.mk; kernel_rfl) | exact trivial | rfl | omega | ((try intro _); first | apply R64 <;> omega | apply room_of <;> omega) | skip)
      (try dsimp only [thenK, blockK, noGotoK])
      refine ⟨trivial, ?_⟩
      rw [hsn]
      (refine Sub.of ([0]) ([some 0]) ?_ ?_ ?_ rfl rfl <;> simp only [subB, subB1, subT, subT1, newT, subE, subV, subL, go_sem] <;> (try (repeat' with_reducible apply And.intro)) <;> (try first | exact DEq.refl _ | refine DEq.int ?_ | refine DEq.bool ?_ | omega))
      exact fun _ _ _ _ => DEq.refl _
  · intro _
    ((first | refine Ok.seqF rfl rfl ?_ | refine Ok.seqT rfl rfl ?_ | refine Ok.regF rfl rfl ?_ | refine Ok.regT rfl rfl ?_); simp only [go_sem]; (repeat' with_reducible apply And.intro); all_goals first | (with_reducible first | refine OkW.mk ?_ | refine EndW.mk ?_ | apply AskI.id | apply AskGI.id) | (with_reducible apply KOt.mk; kernel_rfl) | exact trivial | rfl | omega | ((try intro _); first | apply R64 <;> omega | apply room_of <;> omega) | skip)
    refine Ok.seq ?_
    refine Ok.cond rfl (fun hb => by simp at hb) (fun _ => ?_)
    (refine Ok.exit ?_; simp only [thenK_exit, blockK_exit, noGotoK_exit, thenK_normal, blockK_normal, noGotoK_normal, ↓reduceIte, Nat.reduceEqDiff])
    ((first | refine Ok.seqF rfl rfl ?_ | refine Ok.seqT rfl rfl ?_ | refine Ok.regF rfl rfl ?_ | refine Ok.regT rfl rfl ?_); simp only [go_sem]; (repeat' with_reducible apply And.intro); all_goals first | (with_reducible first | refine OkW.mk ?_ | refine EndW.mk ?_ | apply AskI.id | apply AskGI.id) | (with_reducible apply KOt.mk; kernel_rfl) | exact trivial | rfl | omega | ((try intro _); first | apply R64 <;> omega | apply room_of <;> omega) | skip)
    (refine Ok.ret ?_; (try dsimp only [thenK, blockK, noGotoK]); simp only [toList_mk, List.toList_toArray, retK_ret, retK_normal, resOK, resV, celV, rowV, frzAll, frzT, subV, subL, go_sem])
    ((repeat' with_reducible apply And.intro) <;> (first | exact DEq.refl _ | refine DEq.int ?_ | refine DEq.bool ?_ | skip))
def Letter.mul (x : Letter) (n : Int) : Letter := ⟨x.h * n, x.w * n, x.s * n, x.p * n⟩
def Board.mul (b : Board) (n : Int) : Board := ⟨b.at_, b.ls.map (·.mul n)⟩
theorem c99 (b : Board) (hb : ∀ x ∈ b.ls, x.fine) (hl : b.ls.length < 1000000) (n : Int) (h0 : 0 ≤ n) (h1 : n ≤ 1000) : Ctr Tryz.prog 99 [b.sv, iS n] (b.mul n).sv := by
  (refine Ctr.mk (fn := Tryz.f99) rfl rfl rfl rfl rfl Tryz.results99 ?_; dsimp only [args, List.toList_toArray])
  ((first | refine Ok.seqF rfl rfl ?_ | refine Ok.seqT rfl rfl ?_ | refine Ok.regF rfl rfl ?_ | refine Ok.regT rfl rfl ?_); simp only [go_sem]; (repeat' with_reducible apply And.intro); all_goals first | (with_reducible first | refine OkW.mk ?_ | refine EndW.mk ?_ | apply AskI.id | apply AskGI.id) | (with_reducible apply KOt.mk; kernel_rfl) | exact trivial | rfl | omega | ((try intro _); first | apply R64 <;> omega | apply room_of <;> omega) | skip)
  ((first | refine Ok.seqF rfl rfl ?_ | refine Ok.seqT rfl rfl ?_ | refine Ok.regF rfl rfl ?_ | refine Ok.regT rfl rfl ?_); simp only [go_sem]; (repeat' with_reducible apply And.intro); all_goals first | (with_reducible first | refine OkW.mk ?_ | refine EndW.mk ?_ | apply AskI.id | apply AskGI.id) | (with_reducible apply KOt.mk; kernel_rfl) | exact trivial | rfl | omega | ((try intro _); first | apply R64 <;> omega | apply room_of <;> omega) | skip)
  ((first | refine Ok.seqF rfl rfl ?_ | refine Ok.seqT rfl rfl ?_ | refine Ok.regF rfl rfl ?_ | refine Ok.regT rfl rfl ?_); simp only [go_sem]; (repeat' with_reducible apply And.intro); all_goals first | (with_reducible first | refine OkW.mk ?_ | refine EndW.mk ?_ | apply AskI.id | apply AskGI.id) | (with_reducible apply KOt.mk; kernel_rfl) | exact trivial | rfl | omega | ((try intro _); first | apply R64 <;> omega | apply room_of <;> omega) | skip)
  refine Ok.seq ?_
  ((first | refine Ok.seqF rfl rfl ?_ | refine Ok.seqT rfl rfl ?_ | refine Ok.regF rfl rfl ?_ | refine Ok.regT rfl rfl ?_); simp only [go_sem]; (repeat' with_reducible apply And.intro); all_goals first | (with_reducible first | refine OkW.mk ?_ | refine EndW.mk ?_ | apply AskI.id | apply AskGI.id) | (with_reducible apply KOt.mk; kernel_rfl) | exact trivial | rfl | omega | ((try intro _); first | apply R64 <;> omega | apply room_of <;> omega) | skip)
  refine Ok.block ?_
  refine Ok.count b.ls.length (fun j => ⟨[(1, iS n), (2, .p 0 0), (4, .p 1 0), (11, .d (slD 4 letD b.ls)), (12, iS b.ls.length), (13, iS j)], [{ frz := false, xs := [iS b.at_, .tk 0] }, { frz := false, xs := [iS 0, .d .nils] }], [ownD 59 4 letD ((b.ls.take j).map (·.mul n))]⟩) (fun _ => True) ⟨trivial, ?_⟩ ?_ ?_
  · (refine Sub.of ([0, 1]) ([none]) ?_ ?_ ?_ rfl rfl <;> simp only [subB, subB1, subT, subT1, newT, subE, subV, subL, go_sem] <;> (try (repeat' with_reducible apply And.intro)) <;> (try first | exact DEq.refl _ | refine DEq.int ?_ | refine DEq.bool ?_ | omega))
  · intro j hj _
    have hlen := map_len (·.mul n) (l := b.ls) (i := j) (by omega)
    have hsn := map_snoc (·.mul n) hj
    obtain ⟨x1, x2, x3, x4, x5, x6, x7, x8⟩ := hb _ (getD_mem hj)
    have e1 := mulB (a := (b.ls.getD j default).h) (b := n) (A := 1000) (B := 1000) (by omega) (by omega) (by omega) (by omega)
    have e2 := mulB (a := (b.ls.getD j default).w) (b := n) (A := 1000) (B := 1000) (by omega) (by omega) (by omega) (by omega)
    have e3 := mulB (a := (b.ls.getD j default).s) (b := n) (A := 1000) (B := 1000) (by omega) (by omega) (by omega) (by omega)
    have e4 := mulB (a := (b.ls.getD j default).p) (b := n) (A := 1000) (B := 1000) (by omega) (by omega) (by omega) (by omega)
    ((first | refine Ok.seqF rfl rfl ?_ | refine Ok.seqT rfl rfl ?_ | refine Ok.regF rfl rfl ?_ | refine Ok.regT rfl rfl ?_); simp only [go_sem]; (repeat' with_reducible apply And.intro); all_goals first | (with_reducible first | refine OkW.mk ?_ | refine EndW.mk ?_ | apply AskI.id | apply AskGI.id) | (with_reducible apply KOt.mk; kernel_rfl) | exact trivial | rfl | omega | ((try intro _); first | apply R64 <;> omega | apply room_of <;> omega) | skip)
    refine Ok.seq ?_
    refine Ok.cond rfl (fun _ => ?_) (fun hb => by simp at hb; omega)
    (refine Ok.skip ?_; (try dsimp only [thenK, blockK, noGotoK]))
    refine Ok.seq ?_
    refine Ok.block ?_
    ((first | refine Ok.seqF rfl rfl ?_ | refine Ok.seqT rfl rfl ?_ | refine Ok.regF rfl rfl ?_ | refine Ok.regT rfl rfl ?_); simp only [go_sem]; (repeat' with_reducible apply And.intro); all_goals first | (with_reducible first | refine OkW.mk ?_ | refine EndW.mk ?_ | apply AskI.id | apply AskGI.id) | (with_reducible apply KOt.mk; kernel_rfl) | exact trivial | rfl | omega | ((try intro _); first | apply R64 <;> omega | apply room_of <;> omega) | skip)
    ((first | refine Ok.seqF rfl rfl ?_ | refine Ok.seqT rfl rfl ?_ | refine Ok.regF rfl rfl ?_ | refine Ok.regT rfl rfl ?_); simp only [go_sem]; (repeat' with_reducible apply And.intro); all_goals first | (with_reducible first | refine OkW.mk ?_ | refine EndW.mk ?_ | apply AskI.id | apply AskGI.id) | (with_reducible apply KOt.mk; kernel_rfl) | exact trivial | rfl | omega | ((try intro _); first | apply R64 <;> omega | apply room_of <;> omega) | skip)
    (try dsimp only [thenK, blockK, noGotoK])
    ((first | refine Ok.seqF rfl rfl ?_ | refine Ok.seqT rfl rfl ?_ | refine Ok.regF rfl rfl ?_ | refine Ok.regT rfl rfl ?_); simp only [go_sem]; (repeat' with_reducible apply And.intro); all_goals first | (with_reducible first | refine OkW.mk ?_ | refine EndW.mk ?_ | apply AskI.id | apply AskGI.id) | (with_reducible apply KOt.mk; kernel_rfl) | exact trivial | rfl | omega | ((try intro _); first | apply R64 <;> omega | apply room_of <;> omega) | skip)
    (try dsimp only [thenK, blockK, noGotoK])
    refine ⟨trivial, ?_⟩
    (refine Sub.of ([0, 1]) ([some 1]) ?_ ?_ ?_ rfl rfl <;> simp only [subB, subB1, subT, subT1, newT, subE, subV, subL, go_sem] <;> (try (repeat' with_reducible apply And.intro)) <;> (try first | exact DEq.refl _ | refine DEq.int ?_ | refine DEq.bool ?_ | omega))
    · rw [hsn]; simp
    · rw [hsn]
      exact snoc_D (fun c hc => by
        match c, hc with
        | 0, _ => rfl
        | 1, _ => rfl
        | 2, _ => rfl
        | 3, _ => rfl)
  · intro _
    ((first | refine Ok.seqF rfl rfl ?_ | refine Ok.seqT rfl rfl ?_ | refine Ok.regF rfl rfl ?_ | refine Ok.regT rfl rfl ?_); simp only [go_sem]; (repeat' with_reducible apply And.intro); all_goals first | (with_reducible first | refine OkW.mk ?_ | refine EndW.mk ?_ | apply AskI.id | apply AskGI.id) | (with_reducible apply KOt.mk; kernel_rfl) | exact trivial | rfl | omega | ((try intro _); first | apply R64 <;> omega | apply room_of <;> omega) | skip)
    refine Ok.seq ?_
    refine Ok.cond rfl (fun hb => by simp at hb) (fun _ => ?_)
    (refine Ok.exit ?_; simp only [thenK_exit, blockK_exit, noGotoK_exit, thenK_normal, blockK_normal, noGotoK_normal, ↓reduceIte, Nat.reduceEqDiff])
    ((first | refine Ok.seqF rfl rfl ?_ | refine Ok.seqT rfl rfl ?_ | refine Ok.regF rfl rfl ?_ | refine Ok.regT rfl rfl ?_); simp only [go_sem]; (repeat' with_reducible apply And.intro); all_goals first | (with_reducible first | refine OkW.mk ?_ | refine EndW.mk ?_ | apply AskI.id | apply AskGI.id) | (with_reducible apply KOt.mk; kernel_rfl) | exact trivial | rfl | omega | ((try intro _); first | apply R64 <;> omega | apply room_of <;> omega) | skip)
    (refine Ok.ret ?_; (try dsimp only [thenK, blockK, noGotoK]); simp only [toList_mk, List.toList_toArray, retK_ret, retK_normal, resOK, resV, celV, rowV, frzAll, frzT, subV, subL, go_sem])
    simp only [List.take_length]
    ((repeat' with_reducible apply And.intro) <;> (first | exact DEq.refl _ | refine DEq.int ?_ | refine DEq.bool ?_ | skip))
def firstN (q : Nat → Bool) (m : Nat) : Option Nat := (List.range m).find? q
theorem firstN_at {q : Nat → Bool} {m j : Nat} (hj : j < m) (h1 : q j = true) (h0 : ∀ i, i < j → q i = false) : firstN q m = some j := by
  unfold firstN
  rw [List.find?_range_eq_some]
  exact ⟨h1, List.mem_range.2 hj, fun i hi => by simp [h0 i hi]⟩
theorem firstN_no {q : Nat → Bool} {m : Nat} (h0 : ∀ i, i < m → q i = false) : firstN q m = none := by
  unfold firstN
  rw [List.find?_eq_none]
  intro x hx
  rw [h0 x (List.mem_range.1 hx)]; simp
def leastL (L : Look) : Option Nat := firstN (fun j => surelyL { L with b := L.b.mul (j + 1) }) 9
def lightL (L : Look) : Option Nat := firstN (fun j => surelyL { L with s := { L.s with ll := j + 1, lh := j + 1 } }) 100
def numO (o : Option Nat) : Int := match o with | some j => (j : Int) + 1 | none => 0
def errO (o : Option Nat) : Int := match o with | some _ => 0 | none => 5
theorem numO_some (j : Nat) : numO (some j) = (j : Int) + 1 := rfl
theorem errO_some (j : Nat) : errO (some j) = 0 := rfl
theorem numO_none : numO none = 0 := rfl
theorem errO_none : errO none = 5 := rfl
def leastW (s : Street) (i : Int) (p : Place) : Int := if lookOk s i p then numO (leastL (lookOf s i p)) else 0
def leastE (s : Street) (i : Int) (p : Place) : Int := if lookOk s i p then errO (leastL (lookOf s i p)) else 2
def lightW (s : Street) (i : Int) (p : Place) : Int := if lookOk s i p then numO (lightL (lookOf s i p)) else 0
def lightE (s : Street) (i : Int) (p : Place) : Int := if lookOk s i p then errO (lightL (lookOf s i p)) else 2
theorem good_mul {L : Look} (h : L.good) (ht : ∀ x ∈ L.b.ls, isLetter x = true) (n : Int) (h0 : 0 ≤ n) (h1 : n ≤ 9) : ({ L with b := L.b.mul n } : Look).good := by
  refine ⟨⟨h.fine.at0, h.fine.at1, h.fine.al0, h.fine.al1, h.fine.ac0, h.fine.ac1, h.fine.el0, h.fine.el1, h.fine.eh0, h.fine.eh1, h.fine.ll0, h.fine.ll1, h.fine.lh0, h.fine.lh1⟩, ?_, h.ks, ?_, ?_, h.k4⟩
  · intro x hx
    simp only [Board.mul, List.mem_map] at hx
    obtain ⟨y, hy, rfl⟩ := hx
    have := ht y hy
    simp only [isLetter, inR, Bool.and_eq_true, decide_eq_true_eq] at this
    obtain ⟨⟨⟨⟨a, b⟩, c, d⟩, e, f⟩, g, k⟩ := this
    have e1 := mulB (a := y.h) (b := n) (A := 30) (B := 9) (by omega) (by omega) (by omega) (by omega)
    have e2 := mulB (a := y.w) (b := n) (A := 30) (B := 9) (by omega) (by omega) (by omega) (by omega)
    have e3 := mulB (a := y.s) (b := n) (A := 10) (B := 9) (by omega) (by omega) (by omega) (by omega)
    have e4 := mulB (a := y.p) (b := n) (A := 20) (B := 9) (by omega) (by omega) (by omega) (by omega)
    have f1 : 0 ≤ y.h * n := Int.mul_nonneg (by omega) h0
    have f2 : 0 ≤ y.w * n := Int.mul_nonneg (by omega) h0
    have f3 : 0 ≤ y.s * n := Int.mul_nonneg (by omega) h0
    have f4 : 0 ≤ y.p * n := Int.mul_nonneg (by omega) h0
    exact ⟨f1, by simp only [Letter.mul]; omega, f2, by simp only [Letter.mul]; omega, f3, by simp only [Letter.mul]; omega, f4, by simp only [Letter.mul]; omega⟩
  · simpa [Board.mul] using h.n1
  · simpa [Board.mul] using h.n5
theorem good_lit {L : Look} (h : L.good) (n : Int) (h0 : 1 ≤ n) (h1 : n ≤ 100) : ({ L with s := { L.s with ll := n, lh := n } } : Look).good :=
  ⟨⟨h.fine.at0, h.fine.at1, h.fine.al0, h.fine.al1, h.fine.ac0, h.fine.ac1, h.fine.el0, h.fine.el1, h.fine.eh0, h.fine.eh1, h0, h1, h0, h1⟩, h.ls, h.ks, h.n1, h.n5, h.k4⟩
theorem c49 (s : Street) (hs : s.fit) (i : Int) (p : Place) : Ctr Tryz.prog 49 [s.sv, iS i, p.sv] (.tup [iS (leastW s i p), iS (leastE s i p)]) := by
  have h72 := c72 s hs i p
  (refine Ctr.mk (fn := Tryz.f49) rfl rfl rfl rfl rfl Tryz.results49 ?_; dsimp only [args, List.toList_toArray])
  ((first | refine Ok.seqF rfl rfl ?_ | refine Ok.seqT rfl rfl ?_ | refine Ok.regF rfl rfl ?_ | refine Ok.regT rfl rfl ?_); simp only [go_sem]; (repeat' with_reducible apply And.intro); all_goals first | (with_reducible first | refine OkW.mk ?_ | refine EndW.mk ?_ | apply AskI.id | apply AskGI.id) | (with_reducible apply KOt.mk; kernel_rfl) | exact trivial | rfl | omega | ((try intro _); first | apply R64 <;> omega | apply room_of <;> omega) | skip)
  refine Ok.seq ?_
  ((first | refine Ok.seqF rfl rfl ?_ | refine Ok.seqT rfl rfl ?_ | refine Ok.regF rfl rfl ?_ | refine Ok.regT rfl rfl ?_); simp only [go_sem]; (repeat' with_reducible apply And.intro); all_goals first | (with_reducible first | refine OkW.mk ?_ | refine EndW.mk ?_ | apply AskI.id | apply AskGI.id) | (with_reducible apply KOt.mk; kernel_rfl) | exact trivial | rfl | omega | ((try intro _); first | apply R64 <;> omega | apply room_of <;> omega) | skip)
  (refine AskI.ret (h72) ?_; simp only [go_sem]; (repeat' with_reducible apply And.intro); all_goals first | (with_reducible first | refine OkW.mk ?_ | refine EndW.mk ?_ | apply AskI.id | apply AskGI.id) | (with_reducible apply KOt.mk; kernel_rfl) | exact trivial | rfl | omega | ((try intro _); first | apply R64 <;> omega | apply room_of <;> omega) | skip)
  refine Ok.seq ?_
  ((first | refine Ok.seqF rfl rfl ?_ | refine Ok.seqT rfl rfl ?_ | refine Ok.regF rfl rfl ?_ | refine Ok.regT rfl rfl ?_); simp only [go_sem]; (repeat' with_reducible apply And.intro); all_goals first | (with_reducible first | refine OkW.mk ?_ | refine EndW.mk ?_ | apply AskI.id | apply AskGI.id) | (with_reducible apply KOt.mk; kernel_rfl) | exact trivial | rfl | omega | ((try intro _); first | apply R64 <;> omega | apply room_of <;> omega) | skip)
  refine Ok.cond rfl ?_ ?_
  · intro hb
    simp only [Bool.not_eq_true'] at hb
    ((first | refine Ok.seqF rfl rfl ?_ | refine Ok.seqT rfl rfl ?_ | refine Ok.regF rfl rfl ?_ | refine Ok.regT rfl rfl ?_); simp only [go_sem]; (repeat' with_reducible apply And.intro); all_goals first | (with_reducible first | refine OkW.mk ?_ | refine EndW.mk ?_ | apply AskI.id | apply AskGI.id) | (with_reducible apply KOt.mk; kernel_rfl) | exact trivial | rfl | omega | ((try intro _); first | apply R64 <;> omega | apply room_of <;> omega) | skip)
    (refine Ok.ret ?_; (try dsimp only [thenK, blockK, noGotoK]); simp only [toList_mk, List.toList_toArray, retK_ret, retK_normal, resOK, resV, celV, rowV, frzAll, frzT, subV, subL, go_sem])
    simp only [leastW, leastE, hb]
    exact ⟨.refl _, .refl _⟩
  intro hb
  simp only [Bool.not_eq_false'] at hb
  obtain ⟨hok, hi, hp, hl, hg⟩ := lookOk_spec hb
  have hw : leastW s i p = numO (leastL (lookOf s i p)) := by simp [leastW, hb]
  have he : leastE s i p = errO (leastL (lookOf s i p)) := by simp [leastE, hb]
  rw [hw, he]
  have ht : ∀ x ∈ (lookOf s i p).b.ls, isLetter x = true := by
    rw [hl]
    exact (isBoard_spec (hok.bs _ (getD_mem (by omega)))).2.2.2
  have hls : (lookOf s i p).s = s := by rw [hl]
  have hlp : (lookOf s i p).p = p := by rw [hl]
  generalize lookOf s i p = L at hg ht hls hlp ⊢
  subst hls; subst hlp
  have hn5 := hg.n5
  (refine Ok.skip ?_; (try dsimp only [thenK, blockK, noGotoK]))
  refine Ok.seq ?_
  ((first | refine Ok.seqF rfl rfl ?_ | refine Ok.seqT rfl rfl ?_ | refine Ok.regF rfl rfl ?_ | refine Ok.regT rfl rfl ?_); simp only [go_sem]; (repeat' with_reducible apply And.intro); all_goals first | (with_reducible first | refine OkW.mk ?_ | refine EndW.mk ?_ | apply AskI.id | apply AskGI.id) | (with_reducible apply KOt.mk; kernel_rfl) | exact trivial | rfl | omega | ((try intro _); first | apply R64 <;> omega | apply room_of <;> omega) | skip)
  refine Ok.block ?_
  refine Ok.count 9 (fun j => ⟨[(3, .p 0 0), (5, .p 1 0), (8, .p 2 0), (20, iS j)], [{ frz := false, xs := [iS L.s.len, iS L.s.wid, iS L.s.el, iS L.s.eh, iS L.s.ll, iS L.s.lh, .d (slD 2 boaD L.s.bs), .d (slD 5 bloD L.s.ks)] }, { frz := false, xs := [iS L.p.al, iS L.p.ac] }, { frz := false, xs := [iS L.s.len, iS L.s.wid, iS L.s.el, iS L.s.eh, iS L.s.ll, iS L.s.lh, .d (slD 2 boaD L.s.bs), .d (slD 5 bloD L.s.ks), iS L.b.at_, .d (slD 4 letD L.b.ls), iS L.p.al, iS L.p.ac] }], []⟩) (fun j => ∀ i, i < j → surelyL { L with b := L.b.mul (i + 1) } = false) ⟨fun i hi => by omega, ?_⟩ ?_ ?_
  · (refine Sub.of ([0, 1, 2]) ([]) ?_ ?_ ?_ rfl rfl <;> simp only [subB, subB1, subT, subT1, newT, subE, subV, subL, go_sem] <;> (try (repeat' with_reducible apply And.intro)) <;> (try first | exact DEq.refl _ | refine DEq.int ?_ | refine DEq.bool ?_ | omega))
  · intro j hj h0
    have hgm := good_mul hg ht (j + 1) (by omega) (by omega)
    ((first | refine Ok.seqF rfl rfl ?_ | refine Ok.seqT rfl rfl ?_ | refine Ok.regF rfl rfl ?_ | refine Ok.regT rfl rfl ?_); simp only [go_sem]; (repeat' with_reducible apply And.intro); all_goals first | (with_reducible first | refine OkW.mk ?_ | refine EndW.mk ?_ | apply AskI.id | apply AskGI.id) | (with_reducible apply KOt.mk; kernel_rfl) | exact trivial | rfl | omega | ((try intro _); first | apply R64 <;> omega | apply room_of <;> omega) | skip)
    refine Ok.seq ?_
    refine Ok.cond rfl (fun _ => ?_) (fun hb => by simp at hb; omega)
    (refine Ok.skip ?_; (try dsimp only [thenK, blockK, noGotoK]))
    refine Ok.seq ?_
    refine Ok.block ?_
    ((first | refine Ok.seqF rfl rfl ?_ | refine Ok.seqT rfl rfl ?_ | refine Ok.regF rfl rfl ?_ | refine Ok.regT rfl rfl ?_); simp only [go_sem]; (repeat' with_reducible apply And.intro); all_goals first | (with_reducible first | refine OkW.mk ?_ | refine EndW.mk ?_ | apply AskI.id | apply AskGI.id) | (with_reducible apply KOt.mk; kernel_rfl) | exact trivial | rfl | omega | ((try intro _); first | apply R64 <;> omega | apply room_of <;> omega) | skip)
    refine Ok.seq ?_
    ((first | refine Ok.seqF rfl rfl ?_ | refine Ok.seqT rfl rfl ?_ | refine Ok.regF rfl rfl ?_ | refine Ok.regT rfl rfl ?_); simp only [go_sem]; (repeat' with_reducible apply And.intro); all_goals first | (with_reducible first | refine OkW.mk ?_ | refine EndW.mk ?_ | apply AskI.id | apply AskGI.id) | (with_reducible apply KOt.mk; kernel_rfl) | exact trivial | rfl | omega | ((try intro _); first | apply R64 <;> omega | apply room_of <;> omega) | skip)
    (refine AskI.ret (c99 L.b hg.ls (by omega) _ (by omega) (by omega)) ?_; simp only [go_sem]; (repeat' with_reducible apply And.intro); all_goals first | (with_reducible first | refine OkW.mk ?_ | refine EndW.mk ?_ | apply AskI.id | apply AskGI.id) | (with_reducible apply KOt.mk; kernel_rfl) | exact trivial | rfl | omega | ((try intro _); first | apply R64 <;> omega | apply room_of <;> omega) | skip)
    (refine AskI.ret (c74 _ hgm) ?_; simp only [go_sem]; (repeat' with_reducible apply And.intro); all_goals first | (with_reducible first | refine OkW.mk ?_ | refine EndW.mk ?_ | apply AskI.id | apply AskGI.id) | (with_reducible apply KOt.mk; kernel_rfl) | exact trivial | rfl | omega | ((try intro _); first | apply R64 <;> omega | apply room_of <;> omega) | skip)
    refine Ok.cond rfl ?_ ?_
    · intro hh
      have hF : leastL L = some j := firstN_at hj hh h0
      rw [hF, numO_some, errO_some]
      ((first | refine Ok.seqF rfl rfl ?_ | refine Ok.seqT rfl rfl ?_ | refine Ok.regF rfl rfl ?_ | refine Ok.regT rfl rfl ?_); simp only [go_sem]; (repeat' with_reducible apply And.intro); all_goals first | (with_reducible first | refine OkW.mk ?_ | refine EndW.mk ?_ | apply AskI.id | apply AskGI.id) | (with_reducible apply KOt.mk; kernel_rfl) | exact trivial | rfl | omega | ((try intro _); first | apply R64 <;> omega | apply room_of <;> omega) | skip)
      (refine Ok.ret ?_; (try dsimp only [thenK, blockK, noGotoK]); simp only [toList_mk, List.toList_toArray, retK_ret, retK_normal, resOK, resV, celV, rowV, frzAll, frzT, subV, subL, go_sem])
      ((repeat' with_reducible apply And.intro) <;> (first | exact DEq.refl _ | refine DEq.int ?_ | refine DEq.bool ?_ | skip))
    · intro hh
      (refine Ok.skip ?_; (try dsimp only [thenK, blockK, noGotoK]))
      ((first | refine Ok.seqF rfl rfl ?_ | refine Ok.seqT rfl rfl ?_ | refine Ok.regF rfl rfl ?_ | refine Ok.regT rfl rfl ?_); simp only [go_sem]; (repeat' with_reducible apply And.intro); all_goals first | (with_reducible first | refine OkW.mk ?_ | refine EndW.mk ?_ | apply AskI.id | apply AskGI.id) | (with_reducible apply KOt.mk; kernel_rfl) | exact trivial | rfl | omega | ((try intro _); first | apply R64 <;> omega | apply room_of <;> omega) | skip)
      (try dsimp only [thenK, blockK, noGotoK])
      refine ⟨fun i hi => ?_, ?_⟩
      · by_cases e : i = j
        · subst e; exact hh
        · exact h0 i (by omega)
      (refine Sub.of ([0, 1, 2]) ([]) ?_ ?_ ?_ rfl rfl <;> simp only [subB, subB1, subT, subT1, newT, subE, subV, subL, go_sem] <;> (try (repeat' with_reducible apply And.intro)) <;> (try first | exact DEq.refl _ | refine DEq.int ?_ | refine DEq.bool ?_ | omega))
  · intro h0
    have hF : leastL L = none := firstN_no h0
    rw [hF, numO_none, errO_none]
    ((first | refine Ok.seqF rfl rfl ?_ | refine Ok.seqT rfl rfl ?_ | refine Ok.regF rfl rfl ?_ | refine Ok.regT rfl rfl ?_); simp only [go_sem]; (repeat' with_reducible apply And.intro); all_goals first | (with_reducible first | refine OkW.mk ?_ | refine EndW.mk ?_ | apply AskI.id | apply AskGI.id) | (with_reducible apply KOt.mk; kernel_rfl) | exact trivial | rfl | omega | ((try intro _); first | apply R64 <;> omega | apply room_of <;> omega) | skip)
    refine Ok.seq ?_
    refine Ok.cond rfl (fun hb => by simp at hb) (fun _ => ?_)
    (refine Ok.exit ?_; simp only [thenK_exit, blockK_exit, noGotoK_exit, thenK_normal, blockK_normal, noGotoK_normal, ↓reduceIte, Nat.reduceEqDiff])
    ((first | refine Ok.seqF rfl rfl ?_ | refine Ok.seqT rfl rfl ?_ | refine Ok.regF rfl rfl ?_ | refine Ok.regT rfl rfl ?_); simp only [go_sem]; (repeat' with_reducible apply And.intro); all_goals first | (with_reducible first | refine OkW.mk ?_ | refine EndW.mk ?_ | apply AskI.id | apply AskGI.id) | (with_reducible apply KOt.mk; kernel_rfl) | exact trivial | rfl | omega | ((try intro _); first | apply R64 <;> omega | apply room_of <;> omega) | skip)
    (refine Ok.ret ?_; (try dsimp only [thenK, blockK, noGotoK]); simp only [toList_mk, List.toList_toArray, retK_ret, retK_normal, resOK, resV, celV, rowV, frzAll, frzT, subV, subL, go_sem])
    ((repeat' with_reducible apply And.intro) <;> (first | exact DEq.refl _ | refine DEq.int ?_ | refine DEq.bool ?_ | skip))
theorem c50 (s : Street) (hs : s.fit) (i : Int) (p : Place) : Ctr Tryz.prog 50 [s.sv, iS i, p.sv] (.tup [iS (lightW s i p), iS (lightE s i p)]) := by
  have h72 := c72 s hs i p
  (refine Ctr.mk (fn := Tryz.f50) rfl rfl rfl rfl rfl Tryz.results50 ?_; dsimp only [args, List.toList_toArray])
  ((first | refine Ok.seqF rfl rfl ?_ | refine Ok.seqT rfl rfl ?_ | refine Ok.regF rfl rfl ?_ | refine Ok.regT rfl rfl ?_); simp only [go_sem]; (repeat' with_reducible apply And.intro); all_goals first | (with_reducible first | refine OkW.mk ?_ | refine EndW.mk ?_ | apply AskI.id | apply AskGI.id) | (with_reducible apply KOt.mk; kernel_rfl) | exact trivial | rfl | omega | ((try intro _); first | apply R64 <;> omega | apply room_of <;> omega) | skip)
  refine Ok.seq ?_
  ((first | refine Ok.seqF rfl rfl ?_ | refine Ok.seqT rfl rfl ?_ | refine Ok.regF rfl rfl ?_ | refine Ok.regT rfl rfl ?_); simp only [go_sem]; (repeat' with_reducible apply And.intro); all_goals first | (with_reducible first | refine OkW.mk ?_ | refine EndW.mk ?_ | apply AskI.id | apply AskGI.id) | (with_reducible apply KOt.mk; kernel_rfl) | exact trivial | rfl | omega | ((try intro _); first | apply R64 <;> omega | apply room_of <;> omega) | skip)
  (refine AskI.ret (h72) ?_; simp only [go_sem]; (repeat' with_reducible apply And.intro); all_goals first | (with_reducible first | refine OkW.mk ?_ | refine EndW.mk ?_ | apply AskI.id | apply AskGI.id) | (with_reducible apply KOt.mk; kernel_rfl) | exact trivial | rfl | omega | ((try intro _); first | apply R64 <;> omega | apply room_of <;> omega) | skip)
  refine Ok.seq ?_
  ((first | refine Ok.seqF rfl rfl ?_ | refine Ok.seqT rfl rfl ?_ | refine Ok.regF rfl rfl ?_ | refine Ok.regT rfl rfl ?_); simp only [go_sem]; (repeat' with_reducible apply And.intro); all_goals first | (with_reducible first | refine OkW.mk ?_ | refine EndW.mk ?_ | apply AskI.id | apply AskGI.id) | (with_reducible apply KOt.mk; kernel_rfl) | exact trivial | rfl | omega | ((try intro _); first | apply R64 <;> omega | apply room_of <;> omega) | skip)
  refine Ok.cond rfl ?_ ?_
  · intro hb
    simp only [Bool.not_eq_true'] at hb
    ((first | refine Ok.seqF rfl rfl ?_ | refine Ok.seqT rfl rfl ?_ | refine Ok.regF rfl rfl ?_ | refine Ok.regT rfl rfl ?_); simp only [go_sem]; (repeat' with_reducible apply And.intro); all_goals first | (with_reducible first | refine OkW.mk ?_ | refine EndW.mk ?_ | apply AskI.id | apply AskGI.id) | (with_reducible apply KOt.mk; kernel_rfl) | exact trivial | rfl | omega | ((try intro _); first | apply R64 <;> omega | apply room_of <;> omega) | skip)
    (refine Ok.ret ?_; (try dsimp only [thenK, blockK, noGotoK]); simp only [toList_mk, List.toList_toArray, retK_ret, retK_normal, resOK, resV, celV, rowV, frzAll, frzT, subV, subL, go_sem])
    simp only [lightW, lightE, hb]
    exact ⟨.refl _, .refl _⟩
  intro hb
  simp only [Bool.not_eq_false'] at hb
  obtain ⟨hok, hi, hp, hl, hg⟩ := lookOk_spec hb
  have hw : lightW s i p = numO (lightL (lookOf s i p)) := by simp [lightW, hb]
  have he : lightE s i p = errO (lightL (lookOf s i p)) := by simp [lightE, hb]
  rw [hw, he]
  generalize lookOf s i p = L at hg ⊢
  (refine Ok.skip ?_; (try dsimp only [thenK, blockK, noGotoK]))
  refine Ok.seq ?_
  ((first | refine Ok.seqF rfl rfl ?_ | refine Ok.seqT rfl rfl ?_ | refine Ok.regF rfl rfl ?_ | refine Ok.regT rfl rfl ?_); simp only [go_sem]; (repeat' with_reducible apply And.intro); all_goals first | (with_reducible first | refine OkW.mk ?_ | refine EndW.mk ?_ | apply AskI.id | apply AskGI.id) | (with_reducible apply KOt.mk; kernel_rfl) | exact trivial | rfl | omega | ((try intro _); first | apply R64 <;> omega | apply room_of <;> omega) | skip)
  refine Ok.block ?_
  refine Ok.count 100 (fun j => ⟨[(8, .p 0 0), (20, iS j)], [{ frz := false, xs := [iS L.s.len, iS L.s.wid, iS L.s.el, iS L.s.eh, .any, .any, .d (slD 2 boaD L.s.bs), .d (slD 5 bloD L.s.ks), iS L.b.at_, .d (slD 4 letD L.b.ls), iS L.p.al, iS L.p.ac] }], []⟩) (fun j => ∀ i : Nat, i < j → surelyL { L with s := { L.s with ll := i + 1, lh := i + 1 } } = false) ⟨fun i hi => by omega, ?_⟩ ?_ ?_
  · (refine Sub.of ([2]) ([]) ?_ ?_ ?_ rfl rfl <;> simp only [subB, subB1, subT, subT1, newT, subE, subV, subL, go_sem] <;> (try (repeat' with_reducible apply And.intro)) <;> (try first | exact DEq.refl _ | refine DEq.int ?_ | refine DEq.bool ?_ | omega))
  · intro j hj h0
    have hgm := good_lit hg (j + 1) (by omega) (by omega)
    ((first | refine Ok.seqF rfl rfl ?_ | refine Ok.seqT rfl rfl ?_ | refine Ok.regF rfl rfl ?_ | refine Ok.regT rfl rfl ?_); simp only [go_sem]; (repeat' with_reducible apply And.intro); all_goals first | (with_reducible first | refine OkW.mk ?_ | refine EndW.mk ?_ | apply AskI.id | apply AskGI.id) | (with_reducible apply KOt.mk; kernel_rfl) | exact trivial | rfl | omega | ((try intro _); first | apply R64 <;> omega | apply room_of <;> omega) | skip)
    refine Ok.seq ?_
    refine Ok.cond rfl (fun _ => ?_) (fun hb => by simp at hb; omega)
    (refine Ok.skip ?_; (try dsimp only [thenK, blockK, noGotoK]))
    refine Ok.seq ?_
    refine Ok.block ?_
    ((first | refine Ok.seqF rfl rfl ?_ | refine Ok.seqT rfl rfl ?_ | refine Ok.regF rfl rfl ?_ | refine Ok.regT rfl rfl ?_); simp only [go_sem]; (repeat' with_reducible apply And.intro); all_goals first | (with_reducible first | refine OkW.mk ?_ | refine EndW.mk ?_ | apply AskI.id | apply AskGI.id) | (with_reducible apply KOt.mk; kernel_rfl) | exact trivial | rfl | omega | ((try intro _); first | apply R64 <;> omega | apply room_of <;> omega) | skip)
    ((first | refine Ok.seqF rfl rfl ?_ | refine Ok.seqT rfl rfl ?_ | refine Ok.regF rfl rfl ?_ | refine Ok.regT rfl rfl ?_); simp only [go_sem]; (repeat' with_reducible apply And.intro); all_goals first | (with_reducible first | refine OkW.mk ?_ | refine EndW.mk ?_ | apply AskI.id | apply AskGI.id) | (with_reducible apply KOt.mk; kernel_rfl) | exact trivial | rfl | omega | ((try intro _); first | apply R64 <;> omega | apply room_of <;> omega) | skip)
    refine Ok.seq ?_
    ((first | refine Ok.seqF rfl rfl ?_ | refine Ok.seqT rfl rfl ?_ | refine Ok.regF rfl rfl ?_ | refine Ok.regT rfl rfl ?_); simp only [go_sem]; (repeat' with_reducible apply And.intro); all_goals first | (with_reducible first | refine OkW.mk ?_ | refine EndW.mk ?_ | apply AskI.id | apply AskGI.id) | (with_reducible apply KOt.mk; kernel_rfl) | exact trivial | rfl | omega | ((try intro _); first | apply R64 <;> omega | apply room_of <;> omega) | skip)
    (refine AskI.ret (c74 _ hgm) ?_; simp only [go_sem]; (repeat' with_reducible apply And.intro); all_goals first | (with_reducible first | refine OkW.mk ?_ | refine EndW.mk ?_ | apply AskI.id | apply AskGI.id) | (with_reducible apply KOt.mk; kernel_rfl) | exact trivial | rfl | omega | ((try intro _); first | apply R64 <;> omega | apply room_of <;> omega) | skip)
    refine Ok.cond rfl ?_ ?_
    · intro hh
      have hF : lightL L = some j := firstN_at hj hh h0
      rw [hF, numO_some, errO_some]
      ((first | refine Ok.seqF rfl rfl ?_ | refine Ok.seqT rfl rfl ?_ | refine Ok.regF rfl rfl ?_ | refine Ok.regT rfl rfl ?_); simp only [go_sem]; (repeat' with_reducible apply And.intro); all_goals first | (with_reducible first | refine OkW.mk ?_ | refine EndW.mk ?_ | apply AskI.id | apply AskGI.id) | (with_reducible apply KOt.mk; kernel_rfl) | exact trivial | rfl | omega | ((try intro _); first | apply R64 <;> omega | apply room_of <;> omega) | skip)
      (refine Ok.ret ?_; (try dsimp only [thenK, blockK, noGotoK]); simp only [toList_mk, List.toList_toArray, retK_ret, retK_normal, resOK, resV, celV, rowV, frzAll, frzT, subV, subL, go_sem])
      ((repeat' with_reducible apply And.intro) <;> (first | exact DEq.refl _ | refine DEq.int ?_ | refine DEq.bool ?_ | skip))
    · intro hh
      (refine Ok.skip ?_; (try dsimp only [thenK, blockK, noGotoK]))
      ((first | refine Ok.seqF rfl rfl ?_ | refine Ok.seqT rfl rfl ?_ | refine Ok.regF rfl rfl ?_ | refine Ok.regT rfl rfl ?_); simp only [go_sem]; (repeat' with_reducible apply And.intro); all_goals first | (with_reducible first | refine OkW.mk ?_ | refine EndW.mk ?_ | apply AskI.id | apply AskGI.id) | (with_reducible apply KOt.mk; kernel_rfl) | exact trivial | rfl | omega | ((try intro _); first | apply R64 <;> omega | apply room_of <;> omega) | skip)
      (try dsimp only [thenK, blockK, noGotoK])
      refine ⟨fun i hi => ?_, ?_⟩
      · by_cases e : i = j
        · subst e; exact hh
        · exact h0 i (by omega)
      (refine Sub.of ([0]) ([]) ?_ ?_ ?_ rfl rfl <;> simp only [subB, subB1, subT, subT1, newT, subE, subV, subL, go_sem] <;> (try (repeat' with_reducible apply And.intro)) <;> (try first | exact DEq.refl _ | refine DEq.int ?_ | refine DEq.bool ?_ | omega))
  · intro h0
    have hF : lightL L = none := firstN_no h0
    rw [hF, numO_none, errO_none]
    ((first | refine Ok.seqF rfl rfl ?_ | refine Ok.seqT rfl rfl ?_ | refine Ok.regF rfl rfl ?_ | refine Ok.regT rfl rfl ?_); simp only [go_sem]; (repeat' with_reducible apply And.intro); all_goals first | (with_reducible first | refine OkW.mk ?_ | refine EndW.mk ?_ | apply AskI.id | apply AskGI.id) | (with_reducible apply KOt.mk; kernel_rfl) | exact trivial | rfl | omega | ((try intro _); first | apply R64 <;> omega | apply room_of <;> omega) | skip)
    refine Ok.seq ?_
    refine Ok.cond rfl (fun hb => by simp at hb) (fun _ => ?_)
    (refine Ok.exit ?_; simp only [thenK_exit, blockK_exit, noGotoK_exit, thenK_normal, blockK_normal, noGotoK_normal, ↓reduceIte, Nat.reduceEqDiff])
    ((first | refine Ok.seqF rfl rfl ?_ | refine Ok.seqT rfl rfl ?_ | refine Ok.regF rfl rfl ?_ | refine Ok.regT rfl rfl ?_); simp only [go_sem]; (repeat' with_reducible apply And.intro); all_goals first | (with_reducible first | refine OkW.mk ?_ | refine EndW.mk ?_ | apply AskI.id | apply AskGI.id) | (with_reducible apply KOt.mk; kernel_rfl) | exact trivial | rfl | omega | ((try intro _); first | apply R64 <;> omega | apply room_of <;> omega) | skip)
    (refine Ok.ret ?_; (try dsimp only [thenK, blockK, noGotoK]); simp only [toList_mk, List.toList_toArray, retK_ret, retK_normal, resOK, resV, celV, rowV, frzAll, frzT, subV, subL, go_sem])
    ((repeat' with_reducible apply And.intro) <;> (first | exact DEq.refl _ | refine DEq.int ?_ | refine DEq.bool ?_ | skip))
end Go.Proofs.Sight
namespace Go.Proofs.Sight
open Go Go.RX Go.Proofs Go.RowKit Go.Shelf
attribute [local go_sem] Oper.semAt_some
set_option maxRecDepth 100000
abbrev Pl := Fin 41 × Fin 12
def Pl.p (x : Pl) : Place := ⟨x.1.val, x.2.val + 1⟩
def plAt (wd : Nat) (i : Nat) : Pl := (Fin.ofNat 41 (i / wd), Fin.ofNat 12 (i % wd))
def uptoP (wd k : Nat) : List Pl := (List.range k).map (plAt wd)
theorem uptoP_succ (wd k : Nat) : uptoP wd (k + 1) = uptoP wd k ++ [plAt wd k] := by simp [uptoP, List.range_succ]
theorem uptoP_length (wd k : Nat) : (uptoP wd k).length = k := by simp [uptoP]
theorem plAt_mul {wd k j : Nat} (hj : j < wd) (hw : wd ≤ 12) (hk : k ≤ 40) : plAt wd (k * wd + j) = (⟨k, by omega⟩, ⟨j, by omega⟩) := by
  have h1 : (k * wd + j) / wd = k := by
    rw [Nat.add_comm, Nat.add_mul_div_right _ _ (by omega), Nat.div_eq_of_lt hj]; simp
  have h2 : (k * wd + j) % wd = j := by
    rw [Nat.add_comm, Nat.add_mul_mod_self_right, Nat.mod_eq_of_lt hj]
  simp only [plAt, h1, h2, Prod.mk.injEq]
  exact ⟨Fin.ext (Nat.mod_eq_of_lt (by omega)), Fin.ext (Nat.mod_eq_of_lt (by omega))⟩
def encP (x : Pl) : Array Value := #[.agg #[.int .i64 x.1.val, .int .i64 (x.2.val + 1)]]
def Kb (Bs : Nat) (W W' : World) : Prop := W'.heap[Bs]? = W.heap[Bs]?
theorem Kb.refl (Bs : Nat) (W : World) : Kb Bs W W := rfl
theorem Kb.trans {Bs : Nat} {A B C : World} (h : Kb Bs A B) (k : Kb Bs B C) : Kb Bs A C := Eq.trans k h
theorem Kb.cell {Bs o : Nat} {W W' : World} (h : Kb Bs W W') : W'.cell? ⟨Bs, o, none⟩ = W.cell? ⟨Bs, o, none⟩ := World.cell?_of_block (a := ⟨Bs, o, none⟩) h
theorem Kb.b {Bs n : Nat} (hn : Bs < n) (W : World) (l : Nat) (o o' : Obj) (hl : n ≤ l) (h : W.heap[l]? = some o) (_ : o.isCells = false) (_ : o.isWalk = false) : Kb Bs W (W.putObj l o') := World.putObj_heap_other (by omega)
set_option maxHeartbeats 2000000 in
theorem places1_in (F : Fence) (n : Nat) (h7 : F.fn 144) (hro : F.round = none) (hn : 1 ≤ n) (l Bs ln wd : Nat) (hln : ln ≤ 40) (hwd : wd ≤ 12) (J Jx : List Pl → World → Prop)
    (hY : ∀ pre x W, J pre W → pre.length < (ln + 1) * wd → YieldAt F (n - 1) Tryz.prog l (encP x) W fun e W' =>
      (e = .returned (.bool true) ∧ J (pre ++ [x]) W' ∧ Kb Bs W W') ∨ (e = .returned (.bool false) ∧ Jx (pre ++ [x]) W'))
    (W : World) (hc0 : W.cell? ⟨Bs, 0, none⟩ = some (.int .i64 ln)) (hc1 : W.cell? ⟨Bs, 1, none⟩ = some (.int .i64 wd)) (h0 : J [] W) :
    CallsIn F n Tryz.prog 144 #[.func (.yield l) #[] #[], .pointer (some ⟨Bs, 0, none⟩)] W fun e W' => (∃ v, e = .returned v) ∧
      ((∃ ys, ys = uptoP wd ((ln + 1) * wd) ∧ J ys W') ∨ (∃ pre, True ∧ Jx pre W')) := by
  refine callsIn_of_wp Tryz.func144 rfl h7 ?_ hro
  simp only [Tryz.ntmps144, List.size_toArray, List.length_cons, List.length_nil, Nat.reduceAdd, Nat.reduceSub, Array.replicate_succ, Array.replicate_zero, List.push_toArray, List.append_toArray, List.nil_append, List.cons_append]
  gi_wp2
  gi_loopw [8] (fun i wr => ∃ k : Nat, k ≤ ln + 1 ∧ i = .int .i64 k ∧ J (uptoP wd (k * wd)) wr ∧ Kb Bs W wr)
    (fun i _ => ln + 1 - (intOf i).toNat)
  case atStart => exact ⟨0, Nat.zero_le _, rfl, by simpa [uptoP] using h0, Kb.refl _ _⟩
  case round =>
    obtain ⟨k, hk, rfl, hJs, hnx⟩ := hrel
    have hcw : wr.cell? ⟨Bs, 1, none⟩ = some (.int .i64 wd) := (hnx.cell).trans hc1
    by_cases hlt : k < ln + 1
    · gi_wp2
      gi_loopw [13] (fun i wr => ∃ j : Nat, j ≤ wd ∧ i = .int .i64 j ∧ J (uptoP wd (k * wd + j)) wr ∧ Kb Bs W wr)
        (fun i _ => wd - (intOf i).toNat)
      case atStart => exact ⟨0, Nat.zero_le _, rfl, hJs, hnx⟩
      case round =>
        obtain ⟨j, hj, rfl, hJ2, hnx2⟩ := hrel
        by_cases hlj : j < wd
        · have hlt2 : k * wd + j < (ln + 1) * wd := by
            have : (k + 1) * wd ≤ (ln + 1) * wd := Nat.mul_le_mul_right _ hlt
            rw [Nat.add_mul] at this; omega
          obtain ⟨fn, tmps, assign, body, hy, hR⟩ := hY _ (plAt wd (k * wd + j)) wr hJ2 (by rw [uptoP_length]; exact hlt2)
          rw [plAt_mul hlj hwd (by omega)] at hy
          dsimp only [encP] at hy
          gi_wp2
          refine hR.mono ?_
          rintro e W3 (⟨rfl, hJ3, hk3⟩ | ⟨rfl, hJx3⟩)
          · gi_wp2
            have hkd : (k : Int) < (ln : Int) + 1 := by omega
            refine ⟨⟨.int .i64 j, .int .i64 ((j : Int) + 1), .bool true, .int .i64 j, .func (.yield l) #[] #[], .int .i64 k, .int .i64 j, .int .i64 ((j : Int) + 1), .agg #[.int .i64 k, .int .i64 ((j : Int) + 1)], .bool true, .bool false, .int .i64 ((j : Int) + 1), ⟨j + 1, by omega, by simp, by rw [← Nat.add_assoc, uptoP_succ]; exact hJ3, hnx2.trans hk3⟩, by simp [hkd]⟩, ?_⟩
            simp [intOf]; omega
          · gi_wp2
            refine bodyPost_ret (results_none rfl _ _ _) rfl ?_
            exact ⟨⟨_, rfl⟩, .inr ⟨_, trivial, hJx3⟩⟩
        · obtain rfl : j = wd := by omega
          gi_wp2
          exact ⟨⟨k + 1, by omega, by simp, by rw [Nat.add_mul, Nat.one_mul]; exact hJ2, hnx2⟩, by simp [intOf]; omega⟩
    · obtain rfl : k = ln + 1 := by omega
      gi_wp2
      go_end0
      exact ⟨⟨_, rfl⟩, .inl ⟨_, rfl, hJs⟩⟩
theorem places_in (F : Fence) (n : Nat) (h5 : F.fn 122) (hro : F.round = none) (cs : Array Value) (w : World) :
    CallsIn F n Tryz.prog 122 #[.agg cs] w fun e w' => e = .returned (.func (.func 144) #[] #[.pointer (some ⟨w.heap.size, 0, none⟩)]) ∧ w' = w.alloc (.cells cs 27) := by
  refine callsIn_of_wp Tryz.func122 rfl h5 ?_ hro
  simp only [Tryz.ntmps122, List.size_toArray, List.length_cons, List.length_nil, Nat.reduceAdd, Nat.reduceSub, Array.replicate_succ, Array.replicate_zero, List.push_toArray, List.append_toArray, List.nil_append, List.cons_append]
  gi_wp2
  go_ret
  exact ⟨rfl, rfl⟩
theorem places_stops (F : Fence) (n : Nat) (h6 : F.fn 144) (hro : F.round = none) (hn : 1 ≤ n) (Bs ln wd : Nat) (hln : ln ≤ 40) (hwd : wd ≤ 12) (w : World) (hBs : Bs < w.heap.size)
    (hc0 : w.cell? ⟨Bs, 0, none⟩ = some (.int .i64 ln)) (hc1 : w.cell? ⟨Bs, 1, none⟩ = some (.int .i64 wd)) :
    SeqStopsK F n Tryz.prog 144 #[.pointer (some ⟨Bs, 0, none⟩)] encP (Kb Bs) (fun ys => ys = uptoP wd ((ln + 1) * wd)) (fun _ => True) ((ln + 1) * wd) w := fun l J Jx W hW _ _ hY h0 =>
  places1_in F n h6 hro hn l Bs ln wd hln hwd J Jx hY W ((hW.cell (p := ⟨Bs, 0, none⟩) hBs).trans hc0) ((hW.cell (p := ⟨Bs, 1, none⟩) hBs).trans hc1) h0
def keyV (x : Pl) : Value := .agg #[.int .i64 x.1.val, .int .i64 (x.2.val + 1)]
theorem laidOut : laidOutB Tryz.prog = true := by kernel_rfl
theorem keyed29 : Maps.Keyed Tryz.prog 29 := Maps.Keyed.of_law (deep_law_laid laidOut (m := 2) (by omega) (of_decide_eq_true (by kernel_rfl)) (by kernel_rfl) (by kernel_rfl))
theorem keyOf_keyV (x : Pl) : ∃ l, keyOf Tryz.prog 29 (keyV x) = some l := by
  have h1 : Tryz.prog.keyType 29 = true := by kernel_rfl
  have h2 : Tryz.prog.cellsOf 29 = 2 := by kernel_rfl
  have h4 : Tryz.prog.cellsOf 3 = 1 := by kernel_rfl
  have h3 : (keyV x).formed Tryz.prog 29 = true := by simp [keyV, Value.formed, Tryz.underlying29, h2]
  have w1 : (Lit.int .i64 (x.1.val : Int)).wf = true := by
    have := x.1.isLt
    have h := wrap64_wf (x.1.val : Int)
    rwa [IntWalk.wrap64_in _ (by omega)] at h
  have w2 : (Lit.int .i64 ((x.2.val : Int) + 1)).wf = true := by
    have := x.2.isLt
    have h := wrap64_wf ((x.2.val : Int) + 1)
    rwa [IntWalk.wrap64_in _ (by omega)] at h
  obtain ⟨n, hn⟩ : ∃ n, Tryz.prog.types.size = n + 1 := ⟨Tryz.prog.types.size - 1, by kernel_rfl⟩
  unfold keyOf
  rw [Tryz.underlying29]
  simp only [h1, h3, Bool.and_self, if_true, hn, Program.keyLits, Tryz.underlying29, h2, h4]
  simp [keyV, Value.cells, Program.keyLits, Tryz.underlying3, h4, w1, w2]
end Go.Proofs.Sight
namespace Go.Proofs.Sight
open Go Go.RX Go.Proofs Go.RowKit Go.Shelf
attribute [local go_sem] Oper.semAt_some
set_option maxRecDepth 100000
theorem keyV_inj {x y : Pl} (h : keyV x = keyV y) : x = y := by
  obtain ⟨⟨a, ha⟩, ⟨b, hb⟩⟩ := x
  obtain ⟨⟨c, hc⟩, ⟨d, hd⟩⟩ := y
  simp only [keyV, Value.agg.injEq, Array.mk.injEq, List.cons.injEq, Value.int.injEq, true_and, and_true] at h
  obtain ⟨h1, h2⟩ := h
  have e1 : a = c := by omega
  have e2 : b = d := by omega
  subst e1; subst e2; rfl
def MapIs (W : World) (r : Nat) (l : List Pl) : Prop := ∃ es clk, W.heap[r]? = some (.map es clk) ∧ es.toList.map (fun e => (e.key, e.val)) = l.map (fun x => (keyV x, .agg #[]))
def ins (l : List Pl) (x : Pl) : List Pl := if x ∈ l then l else l ++ [x]
theorem MapIs.keys {es : Array MapEntry} {l : List Pl} (h : es.toList.map (fun e => (e.key, e.val)) = l.map (fun x => (keyV x, Value.agg #[]))) : ∀ e ∈ es.toList, ∃ x ∈ l, e.key = keyV x ∧ e.val = .agg #[] := by
  intro e he
  have : (e.key, e.val) ∈ l.map (fun x => (keyV x, Value.agg #[])) := by rw [← h]; exact List.mem_map.2 ⟨e, he, rfl⟩
  obtain ⟨x, hx, e2⟩ := List.mem_map.1 this
  simp only [Prod.mk.injEq] at e2
  exact ⟨x, hx, e2.1.symm, e2.2.symm⟩
theorem MapIs.update {W : World} {r : Nat} {l : List Pl} (h : MapIs W r l) (x : Pl) :
    ∃ o, (Instr.mapUpdate 124 (.map (some r)) (keyV x) (.agg #[])).run Tryz.prog W = .ok () (W.putObj r o) ∧ MapIs (W.putObj r o) r (ins l x) ∧ o.isCells = false := by
  obtain ⟨es, clk, hm, hk⟩ := h
  obtain ⟨lx, hx⟩ := keyOf_keyV x
  have hlt : r < W.heap.size := (Array.getElem?_eq_some_iff.1 hm).1
  have hes : ∀ e ∈ es.toList, ∃ l, keyOf Tryz.prog 29 e.key = some l := by
    intro e he
    obtain ⟨y, _, e1, _⟩ := MapIs.keys hk e he
    rw [e1]; exact keyOf_keyV y
  have hset : ∀ o, (setObj r o).run Tryz.prog W = .ok () (W.putObj r o) := fun o => MapKept.run_setObj_map (P := Tryz.prog) o hm
  rcases keyed29.find W hx es.toList hes with ⟨h1, h2⟩ | ⟨j, e0, h1, h2, h3⟩
  · refine ⟨.map (es.push ⟨keyV x, .agg #[], clk⟩) (clk + 1), ?_, ⟨_, _, World.putObj_heap_same hlt, ?_⟩, rfl⟩
    · simp [Instr.mapUpdate, run_underlying Tryz.underlying124, MapKept.run_getObj_map hm, keyed29.check W false hx, h1, hset, Result.andThen]
    · have hn : x ∉ l := by
        intro hxl
        have : (keyV x, Value.agg #[]) ∈ es.toList.map (fun e => (e.key, e.val)) := by rw [hk]; exact List.mem_map.2 ⟨x, hxl, rfl⟩
        obtain ⟨e, he, e1⟩ := List.mem_map.1 this
        simp only [Prod.mk.injEq] at e1
        exact h2 e he e1.1
      rw [ins, if_neg hn, Array.toList_push, List.map_append, List.map_append, hk]
      simp
  · have hxl : x ∈ l := by
      obtain ⟨y, hy, e1, _⟩ := MapIs.keys hk e0 (List.mem_of_getElem? h2)
      rw [h3] at e1
      rw [keyV_inj e1]; exact hy
    have h2' : es[j]? = some e0 := by simpa using h2
    have hst := keyed29.stays W hx
    refine ⟨.map (es.modify j fun e => { e with key := keyV x, val := .agg #[] }) clk, ?_, ⟨_, _, World.putObj_heap_same hlt, ?_⟩, rfl⟩
    · simp [Instr.mapUpdate, run_underlying Tryz.underlying124, MapKept.run_getObj_map hm, keyed29.check W false hx, h1, h2', h3, hst, hset, Result.andThen]
    · rw [ins, if_pos hxl, ← hk]
      have hv : e0.val = .agg #[] := by
        obtain ⟨y, hy, _, e2⟩ := MapIs.keys hk e0 (List.mem_of_getElem? h2)
        exact e2
      apply List.ext_getElem?
      intro i
      simp only [List.getElem?_map, Array.getElem?_toList, Array.getElem?_modify]
      by_cases e : j = i
      · subst e; rw [if_pos rfl, h2']; simp [h3, hv]
      · rw [if_neg e]
theorem MapIs.look {W : World} {r : Nat} {l : List Pl} (h : MapIs W r l) (x : Pl) :
    (Instr.lookup 124 (.map (some r)) (keyV x) true).run Tryz.prog W = .ok (.tuple #[.agg #[], .bool (decide (x ∈ l))]) W := by
  obtain ⟨es, clk, hm, hk⟩ := h
  obtain ⟨lx, hx⟩ := keyOf_keyV x
  have hes : ∀ e ∈ es.toList, ∃ l, keyOf Tryz.prog 29 e.key = some l := by
    intro e he
    obtain ⟨y, _, e1, _⟩ := MapIs.keys hk e he
    rw [e1]; exact keyOf_keyV y
  have hz : (zeroValue 160).run Tryz.prog W = .ok (.agg #[]) W := by kernel_rfl
  rcases keyed29.find W hx es.toList hes with ⟨h1, h2⟩ | ⟨j, e0, h1, h2, h3⟩
  · have hn : x ∉ l := by
      intro hxl
      have : (keyV x, Value.agg #[]) ∈ es.toList.map (fun e => (e.key, e.val)) := by rw [hk]; exact List.mem_map.2 ⟨x, hxl, rfl⟩
      obtain ⟨e, he, e1⟩ := List.mem_map.1 this
      simp only [Prod.mk.injEq] at e1
      exact h2 e he e1.1
    simp [Instr.lookup, run_underlying Tryz.underlying124, MapKept.run_getObj_map hm, keyed29.check W _ hx, h1, hz, hn, Result.andThen]
  · have hxl : x ∈ l := by
      obtain ⟨y, hy, e1, _⟩ := MapIs.keys hk e0 (List.mem_of_getElem? h2)
      rw [h3] at e1
      rw [keyV_inj e1]; exact hy
    have hv : e0.val = .agg #[] := by
      obtain ⟨y, hy, _, e2⟩ := MapIs.keys hk e0 (List.mem_of_getElem? h2)
      exact e2
    simp [Instr.lookup, run_underlying Tryz.underlying124, MapKept.run_getObj_map hm, keyed29.check W _ hx, h1, hv, hxl, Result.andThen]
end Go.Proofs.Sight
namespace Go.Proofs.Sight
open Go Go.RX Go.Proofs Go.RowKit Go.Shelf
attribute [local go_sem] Oper.semAt_some
set_option maxRecDepth 100000
theorem RepS.agg {I : Nat → Prop} {w : World} {v : Value} {xs : List SV} (h : RepS I w v (.agg xs)) : ∃ cs : List Value, v = .agg cs.toArray ∧ cs.length = xs.length ∧ (∀ (j : Nat) (u : Value) (x : SV), cs[j]? = some u → xs[j]? = some x → RepS I w u x) := by
  have h0 := h (fun _ => none)
  cases h0 with
  | @agg cs xs hl hm h1 =>
    refine ⟨cs.toList, by simp, by simpa using hl, fun j u x hu hx Y => ?_⟩
    exact (hm j u x (by simpa using hu) hx).anyY Y
theorem RepS.rep {I : Nat → Prop} {w : World} {v : Value} {x : DV} (h : RepS I w v (.d x)) : Rep I w v x := mt_d (h (fun _ => none))
theorem RepS.of {I : Nat → Prop} {w : World} {v : Value} {x : DV} (h : Rep I w v x) : RepS I w v (.d x) := fun _ => .d h
inductive Fits (I : Nat → Prop) (w : World) : List Value → List DV → Prop
  | nil : Fits I w [] []
  | cons {v x vs xs} (h : Rep I w v x) (t : Fits I w vs xs) : Fits I w (v :: vs) (x :: xs)
theorem Fits.at_ {I : Nat → Prop} {w : World} : ∀ {vs : List Value} {xs : List DV}, Fits I w vs xs → vs.length = xs.length ∧ ∀ (j : Nat) (u : Value) (x : DV), vs[j]? = some u → xs[j]? = some x → Rep I w u x
  | _, _, .nil => ⟨rfl, fun j u x h => by simp at h⟩
  | _, _, .cons h t => by
    obtain ⟨h1, h2⟩ := t.at_
    refine ⟨by simp [h1], fun j u x hu hx => ?_⟩
    cases j with
    | zero => simp at hu hx; subst hu; subst hx; exact h
    | succ j => exact h2 j u x (by simpa using hu) (by simpa using hx)
theorem Fits.mono {I I' : Nat → Prop} {w w' : World} (hI : ∀ b, I b → I' b) (hw : ∀ b, I b → w'.heap[b]? = w.heap[b]?) : ∀ {vs : List Value} {xs : List DV}, Fits I w vs xs → Fits I' w' vs xs
  | _, _, .nil => .nil
  | _, _, .cons h t => .cons (h.mono hI hw) (t.mono hI hw)
theorem Fits.append {I : Nat → Prop} {w : World} : ∀ {vs vs' : List Value} {xs xs' : List DV}, Fits I w vs xs → Fits I w vs' xs' → Fits I w (vs ++ vs') (xs ++ xs')
  | _, _, _, _, .nil, h => h
  | _, _, _, _, .cons h t, h' => .cons h (t.append h')
theorem RepS.fits {I : Nat → Prop} {w : World} {v : Value} {xs : List DV} (h : RepS I w v (.agg (xs.map .d))) : ∃ cs : List Value, v = .agg cs.toArray ∧ Fits I w cs xs := by
  obtain ⟨cs, h1, h2, h3⟩ := RepS.agg h
  refine ⟨cs, h1, ?_⟩
  clear h h1
  induction xs generalizing cs with
  | nil => cases cs with
    | nil => exact .nil
    | cons c cs => simp at h2
  | cons x xs ih => cases cs with
    | nil => simp at h2
    | cons c cs => exact .cons (RepS.rep (h3 0 c (.d x) rfl rfl)) (ih cs (by simpa using h2) (fun j u y hu hy => h3 (j + 1) u y (by simpa using hu) (by simpa using hy)))
theorem Fits.reps {I : Nat → Prop} {w : World} {cs : List Value} {xs : List DV} (h : Fits I w cs xs) : RepS I w (.agg cs.toArray) (.agg (xs.map .d)) := by
  intro Y
  obtain ⟨h1, h2⟩ := h.at_
  refine .agg (by simp [h1]) (fun j u x hu hx => ?_) (fun u hu => ?_)
  · simp only [List.getElem?_map, Option.map_eq_some_iff] at hx
    obtain ⟨y, hy, rfl⟩ := hx
    exact .d (h2 j u y (by simpa using hu) hy)
  · obtain ⟨j, hj⟩ := List.getElem?_of_mem (by simpa using hu : u ∈ cs)
    have hlt : j < xs.length := by rw [← h1]; exact (List.getElem?_eq_some_iff.1 hj).1
    exact (h2 j u _ hj (List.getElem?_eq_getElem hlt)).one
theorem al_new {W : World} (o : Obj) {n : Nat} (h : W.heap.size = n) : (W.alloc o).heap[n]? = some o := by subst h; exact World.alloc_heap_new W o
theorem al_old {W : World} {o' : Obj} {k : Nat} (o : Obj) (h : W.heap[k]? = some o') : (W.alloc o).heap[k]? = some o' := (Below.heap_alloc W o k (Array.getElem?_eq_some_iff.1 h).1).trans h
theorem al_sz {W : World} {n : Nat} (o : Obj) (h : W.heap.size = n) : (W.alloc o).heap.size = n + 1 := by rw [World.size_alloc, h]
def KeptC (w W : World) : Prop := ∀ (k : Nat) (o : Obj), w.heap[k]? = some o → o.isCells = true → W.heap[k]? = some o
theorem KeptC.refl (w : World) : KeptC w w := fun _ _ h _ => h
theorem KeptC.trans {a b c : World} (h : KeptC a b) (k : KeptC b c) : KeptC a c := fun i o hi ho => k i o (h i o hi ho) ho
theorem KeptC.below {a b : World} (h : Below a.heap.size a b) : KeptC a b := fun k o hk _ => (h.block k (Array.getElem?_eq_some_iff.1 hk).1).trans hk
theorem KeptC.put {W : World} {r : Nat} {o o' : Obj} (h : W.heap[r]? = some o) (ho : o.isCells = false) : KeptC W (W.putObj r o') := fun k o'' hk hc => by
  by_cases e : k = r
  · subst e; rw [h] at hk; cases hk; rw [ho] at hc; cases hc
  · exact (World.putObj_heap_other e).trans hk
theorem KeptC.own {w : World} {β : Type} (n : Nat) : OwnFrom n (fun (_ : β) W => KeptC w W) := fun _ A B row hs hg hr k o hk hc => by
  have hA := hs k o hk hc
  refine (hg.block k (Array.getElem?_eq_some_iff.1 hA).1 (fun e => ?_)).trans hA
  obtain ⟨_, o2, h2, h3⟩ := hr k e.symm
  rw [hA] at h2; cases h2; rw [hc] at h3; cases h3
theorem cellAt {W : World} {B : Nat} {cs : Array Value} {T : TypeId} (h : W.heap[B]? = some (.cells cs T)) (j : Nat) : W.cell? ⟨B, j, none⟩ = cs[j]? := by unfold World.cell?; rw [h]; rfl
abbrev mpD (l : List Pl) : DV := .mp l.length 2 (fun i => plaD ((l.getD i default).p))
def seenF (q : Pl → Bool) (l : List Pl) : List Pl := (l.filter q).foldl ins []
theorem seenF_snoc (q : Pl → Bool) (l : List Pl) (x : Pl) : seenF q (l ++ [x]) = if q x = true then ins (seenF q l) x else seenF q l := by
  unfold seenF
  rw [List.filter_append]
  cases h : q x <;> simp [h]
def Cells (w W : World) : Prop := ∀ (a : Addr) (v : Value), w.cell? a = some v → W.cell? a = some v
theorem range2 (f : Nat → Value) : Array.map f (Array.range 2) = #[f 0, f 1] := by
  have : Array.range 2 = #[0, 1] := by decide
  rw [this]; simp
theorem MapIs.rep {I : Nat → Prop} {W : World} {r : Nat} {l : List Pl} (h : MapIs W r l) (hI : I r) : Rep I W (.map (some r)) (mpD l) := by
  obtain ⟨es, clk, h1, h2⟩ := h
  have hn : es.size = l.length := by
    have := congrArg List.length h2
    simpa using this
  refine .mp es clk (fun i j => if j = 0 then .int .i64 (l.getD i default).1.val else .int .i64 ((l.getD i default).2.val + 1)) hI h1 hn (fun i e he => ?_) (fun i j hi hj => ?_)
  · have hi : i < l.length := by rw [← hn]; exact (Array.getElem?_eq_some_iff.1 he).1
    have := congrArg (fun z => z[i]?) h2
    simp only [List.getElem?_map, Array.getElem?_toList, he, Option.map_some, List.getElem?_eq_getElem hi, Option.some.injEq, Prod.mk.injEq] at this
    rw [this.1, this.2]
    refine ⟨?_, rfl⟩
    have e2 : l.getD i default = l[i] := by simp [List.getD_eq_getElem?_getD, hi]
    simp only [keyV, e2, range2]
    rfl
  · match j, hj with
    | 0, _ => exact .int
    | 1, _ => exact .int
theorem MapIs.of_rep {I : Nat → Prop} {W : World} {v : Value} {l : List Pl} (h : Rep I W v (mpD l)) : ∃ r, v = .map (some r) ∧ I r ∧ MapIs W r l := by
  cases h with
  | mp es clk us hI hm hn hk hrep =>
    refine ⟨_, rfl, hI, es, clk, hm, ?_⟩
    apply List.ext_getElem?
    intro i
    simp only [List.getElem?_map, Array.getElem?_toList]
    by_cases hi : i < l.length
    · have hi' : i < es.size := by omega
      rw [Array.getElem?_eq_getElem hi', List.getElem?_eq_getElem hi]
      obtain ⟨k1, k2⟩ := hk i _ (Array.getElem?_eq_getElem hi')
      have e2 : l.getD i default = l[i] := by simp [List.getD_eq_getElem?_getD, hi]
      have r0 := hrep i 0 hi (by omega)
      have r1 := hrep i 1 hi (by omega)
      simp only [e2, plaD, Pl.p] at r0 r1
      generalize hu0 : us i 0 = x0 at r0
      generalize hu1 : us i 1 = x1 at r1
      cases r0; cases r1
      simp only [Option.map_some, k1, k2, Option.some.injEq, Prod.mk.injEq, and_true, keyV]
      rw [range2, hu0, hu1]
    · rw [Array.getElem?_eq_none (by omega), List.getElem?_eq_none (by omega)]; rfl
def streetDs (s : Street) : List DV := [iD s.len, iD s.wid, iD s.el, iD s.eh, iD s.ll, iD s.lh, slD 2 boaD s.bs, slD 5 bloD s.ks]
def boardDs (b : Board) : List DV := [iD b.at_, slD 4 letD b.ls]
theorem street_vals {I : Nat → Prop} {w : World} {v : Value} {s : Street} (h : RepS I w v s.sv) : ∃ c d e f v6 v7, v = .agg #[.int .i64 s.len, .int .i64 s.wid, .int .i64 c, .int .i64 d, .int .i64 e, .int .i64 f, v6, v7] ∧
    Fits I w [.int .i64 s.len, .int .i64 s.wid, .int .i64 c, .int .i64 d, .int .i64 e, .int .i64 f, v6, v7] (streetDs s) := by
  obtain ⟨cs, rfl, hf⟩ := RepS.fits (xs := streetDs s) h
  have hf' := hf
  unfold streetDs at hf
  match cs, hf with
  | _, .cons h0 (.cons h1 (.cons h2 (.cons h3 (.cons h4 (.cons h5 (.cons h6 (.cons h7 .nil))))))) =>
    cases h0; cases h1; cases h2; cases h3; cases h4; cases h5
    exact ⟨_, _, _, _, _, _, rfl, hf'⟩
theorem board_vals {I : Nat → Prop} {w : World} {v : Value} {b : Board} (h : RepS I w v b.sv) : ∃ v1, v = .agg #[.int .i64 b.at_, v1] ∧ Fits I w [.int .i64 b.at_, v1] (boardDs b) := by
  obtain ⟨cs, rfl, hf⟩ := RepS.fits (xs := boardDs b) h
  have hf' := hf
  unfold boardDs at hf
  match cs, hf with
  | _, .cons h0 (.cons h1 .nil) =>
    cases h0
    exact ⟨_, rfl, hf'⟩
set_option maxHeartbeats 4000000 in
theorem c92 (s : Street) (b : Board) (f : Nat) (cc : Nat → DV) (q : Pl → Bool) (ln wd : Nat) (hl : s.len = ln) (hw : s.wid = wd) (hln : ln ≤ 40) (hwd : wd ≤ 12)
    (hf : ∀ x : Pl, Ctr Tryz.prog f [(Look.mk s b x.p).sv] (bS (q x))) : Ctr Tryz.prog 92 [s.sv, b.sv, .d (.clo f 0 cc)] (.d (mpD (seenF q (uptoP wd ((ln + 1) * wd))))) := by
  refine ⟨⟨Tryz.f92, Tryz.func92, rfl, rfl⟩, fun I w vs hG hI hsz hrep => ?_⟩
  obtain ⟨v0, v1, v2, rfl⟩ : ∃ v0 v1 v2, vs = #[v0, v1, v2] := by
    obtain ⟨l⟩ := vs
    match l, hsz with
    | [a, b, c], _ => exact ⟨a, b, c, rfl⟩
  obtain ⟨sc, sd, se, sf, v6, v7, rfl, hs⟩ := street_vals (hrep 0 v0 _ rfl rfl)
  obtain ⟨u1, rfl, hb⟩ := board_vals (hrep 1 v1 _ rfl rfl)
  have h2 := RepS.rep (hrep 2 v2 _ rfl rfl)
  obtain ⟨us, rfl, hus⟩ : ∃ us : Array Value, v2 = .func (.func f) #[] us ∧ us.size = 0 := by
    cases h2 with
    | clo hl _ => exact ⟨_, rfl, hl⟩
  obtain rfl : us = #[] := Array.eq_empty_of_size_eq_zero hus
  rw [hl, hw] at hs ⊢
  clear h2 hus hrep hsz
  refine (callsIn_wide (n := 5)).1 ?_
  refine callsIn_of_wp_marks Tryz.func92 rfl trivial ?_ rfl
  simp only [Tryz.ntmps92, List.size_toArray, List.length_cons, List.length_nil, Nat.reduceAdd, Nat.reduceSub, Array.replicate_succ, Array.replicate_zero, List.push_toArray, List.append_toArray, List.nil_append, List.cons_append]
  have hmm := @run_makeMap Tryz.prog
  gi_wp2_with (refine ⟨trivial, ?_⟩; gi_at_call 122; refine (places_in Fence.wide 4 trivial rfl _ _).mono ?_; rintro e w' ⟨rfl, rfl⟩)
  obtain ⟨B, hB⟩ : ∃ B, w.heap.size = B := ⟨_, rfl⟩
  obtain ⟨S8, hS8⟩ : ∃ S8 : Array Value, #[Value.int IntKind.i64 ↑ln, Value.int IntKind.i64 ↑wd, Value.int IntKind.i64 sc, Value.int IntKind.i64 sd, Value.int IntKind.i64 se, Value.int IntKind.i64 sf, v6, v7] = S8 := ⟨_, rfl⟩
  obtain ⟨W0, hW0⟩ : ∃ W0, (((((w.alloc (.cells S8 27)).alloc (.cells #[.int .i64 b.at_, u1] 51)).alloc (.cells #[.func (.func f) #[] #[]] 126)).alloc (.map #[] 0)).alloc (.cells #[.map (some (B + 1 + 1 + 1))] 124)).alloc (.cells S8 27) = W0 := ⟨_, rfl⟩
  have z0 : W0.heap.size = B + 1 + 1 + 1 + 1 + 1 + 1 := by rw [← hW0]; exact al_sz _ (al_sz _ (al_sz _ (al_sz _ (al_sz _ (al_sz _ hB)))))
  have k0 : W0.heap[B]? = some (.cells S8 27) := by rw [← hW0]; exact (al_old _ (al_old _ (al_old _ (al_old _ (al_old _ (al_new _ hB))))))
  have k1 : W0.heap[B + 1]? = some (.cells #[.int .i64 b.at_, u1] 51) := by rw [← hW0]; exact (al_old _ (al_old _ (al_old _ (al_old _ (al_new _ (al_sz _ hB))))))
  have k2 : W0.heap[B + 1 + 1]? = some (.cells #[.func (.func f) #[] #[]] 126) := by rw [← hW0]; exact (al_old _ (al_old _ (al_old _ (al_new _ (al_sz _ (al_sz _ hB))))))
  have k3 : W0.heap[B + 1 + 1 + 1]? = some (.map #[] 0) := by rw [← hW0]; exact (al_old _ (al_old _ (al_new _ (al_sz _ (al_sz _ (al_sz _ hB))))))
  have k4 : W0.heap[B + 1 + 1 + 1 + 1]? = some (.cells #[.map (some (B + 1 + 1 + 1))] 124) := by rw [← hW0]; exact (al_old _ (al_new _ (al_sz _ (al_sz _ (al_sz _ (al_sz _ hB))))))
  have k5 : W0.heap[B + 1 + 1 + 1 + 1 + 1]? = some (.cells S8 27) := by rw [← hW0]; exact (al_new _ (al_sz _ (al_sz _ (al_sz _ (al_sz _ (al_sz _ hB))))))
  have hBel : Below w.heap.size w W0 := by
    rw [← hW0]
    exact ((((((Below.refl _ w).alloc (Nat.le_refl _) _).alloc (by simp) _).alloc (by simp; omega) _).alloc (by simp; omega) _).alloc (by simp; omega) _).alloc (by simp; omega) _
  rw [hS8, hB, hW0]
  have c0 : W0.cell? ⟨B + 1 + 1 + 1 + 1 + 1, 0, none⟩ = some (.int .i64 ln) := by unfold World.cell?; rw [k5, ← hS8]; rfl
  have c1 : W0.cell? ⟨B + 1 + 1 + 1 + 1 + 1, 1, none⟩ = some (.int .i64 wd) := by unfold World.cell?; rw [k5, ← hS8]; rfl
  refine wpIn_rangeFunc_ownH rfl (by omega) (gf := 144) (lb := #[.pointer (some ⟨B + 1 + 1 + 1 + 1 + 1, 0, none⟩)]) rfl trivial (enters_of Tryz.func144 (by kernel_rfl) rfl)
    (places_stops Fence.wide (5 - 1) trivial rfl (by omega) (B + 1 + 1 + 1 + 1 + 1) ln wd hln hwd W0 (by omega) c0 c1) Kb.trans (Kb.b (by omega)) (Below.refl _ _) (fun _ => rfl)
    (fun pre W => KeptC W0 W ∧ MapIs W (B + 1 + 1 + 1) (seenF q pre) ∧ Below B w W)
    (fun _ _ _ => False)
    (OwnFrom.and (KeptC.own _) (OwnFrom.and ?ownm ?ownb))
    (fun _ _ _ _ _ hs _ _ => hs)
    ⟨KeptC.refl _, ?m0, by rw [← hB]; exact hBel⟩
    (fun x a' W => ∃ Bx, W0.heap.size ≤ Bx ∧ W.heap[Bx]? = some (.cells #[.int .i64 x.1.val, .int .i64 (x.2.val + 1)] 29) ∧
      a' = { tmps := #[Value.agg S8, Value.agg #[Value.int IntKind.i64 b.at_, u1], Value.func (Fn.func f) #[] #[],
          Value.pointer (some { block := B, off := 0 }), Value.pointer (some { block := B + 1, off := 0 }),
          Value.pointer (some { block := B + 1 + 1, off := 0 }), Value.map none,
          Value.pointer (some { block := B + 1 + 1 + 1 + 1, off := 0 }), Value.pointer (some { block := Bx, off := 0 }), Value.map (some (B + 1 + 1 + 1)),
          Value.agg S8,
          Value.func (Fn.func 144) #[] #[Value.pointer (some { block := B + 1 + 1 + 1 + 1 + 1, off := 0 })], .agg #[.int .i64 x.1.val, .int .i64 (x.2.val + 1)],
          undef, undef, undef, undef, undef, undef, undef, undef, undef, undef], defers := [] })
    ?hAx ?assign ?body ?done ?stop
  case ownm =>
    intro pre A C row hs hg hr
    obtain ⟨es, clk, h1, h2⟩ := hs
    refine ⟨es, clk, (hg.block _ (Array.getElem?_eq_some_iff.1 h1).1 (fun e => ?_)).trans h1, h2⟩
    have := (hr _ e.symm).1
    omega
  case ownb => rw [← hB]; exact ownFrom_below (Nat.le_refl _) (by omega)
  case m0 => exact ⟨_, _, k3, rfl⟩
  case hAx =>
    intro x a' _ A C row hs hg hr
    obtain ⟨Bx, h1, h2, h3⟩ := hs
    refine ⟨Bx, h1, (hg.block _ (Array.getElem?_eq_some_iff.1 h2).1 (fun e => ?_)).trans h2, h3⟩
    obtain ⟨_, o2, h4, h5⟩ := hr _ e.symm
    rw [h2] at h4; cases h4; cases h5
  case assign =>
    intro l pre x W K hI hK
    dsimp only [encP]
    gi_wp2
    obtain ⟨hC, hM, hBe⟩ := hI
    have hsz : W0.heap.size ≤ W.heap.size := by
      have := (Array.getElem?_eq_some_iff.1 (hC _ _ k5 rfl)).1
      omega
    refine hK _ _ ⟨by simp, fun k o _ hk _ => al_old _ hk⟩ (Below.heap_alloc W _ _ (by omega)) ⟨hC.trans (fun k o hk _ => al_old _ hk), ?_, hBe.alloc (by rw [← hB]; exact hBe.size) _⟩ ⟨W.heap.size, hsz, al_new _ rfl, rfl⟩
    obtain ⟨es, clk, h1, h2⟩ := hM
    exact ⟨es, clk, al_old _ h1, h2⟩
  case body =>
    rintro l pre x a' W hl ⟨r, hr⟩ ⟨hC, hM, hBe⟩ ⟨Bx, hBx, hX, rfl⟩ hlt
    have n1 : 1 ≤ 5 - 1 - 1 := by omega
    subst hS8
    have g0 := cellAt (hC _ _ k0 rfl)
    have g00 := g0 0
    have g01 := g0 1
    have g02 := g0 2
    have g03 := g0 3
    have g04 := g0 4
    have g05 := g0 5
    have g06 := g0 6
    have g07 := g0 7
    have g1 := cellAt (hC _ _ k1 rfl)
    have g10 := g1 0
    have g11 := g1 1
    have g2 := cellAt (hC _ _ k2 rfl) 0
    have g4 := cellAt (hC _ _ k4 rfl) 0
    have gX := cellAt hX
    have gX0 := gX 0
    have gX1 := gX 1
    clear g0 g1 gX
    simp only [List.getElem?_toArray, List.getElem?_cons_zero, List.getElem?_cons_succ] at g00 g01 g02 g03 g04 g05 g06 g07 g10 g11 g2 g4 gX0 gX1
    gi_wp2
    refine ⟨trivial, ?_⟩
    have he : ∀ args w, (callFunc f args).run Tryz.prog w = .ok (.enter f args) w := by
      obtain ⟨⟨fn, h1, h2, h3⟩, _⟩ := hf x
      cases hbd : fn.body with
      | none => rw [hbd] at h3; cases h3
      | some c => exact enters_of h1 h2 hbd
    rw [he, Oper.uponIn_enter]
    refine ⟨fun h => by simp [Fence.wide] at h, ?_⟩
    have hW : ∀ b, I b → W.heap[b]? = w.heap[b]? := fun k hk => hBe.block k (by rw [← hB]; exact hI k hk)
    have hx : Fits I W [.int .i64 x.1.val, .int .i64 (x.2.val + 1)] [iD x.p.al, iD x.p.ac] := .cons .int (.cons .int .nil)
    have hargs := Fits.reps (((hs.mono (fun _ h => h) hW).append (hb.mono (fun _ h => h) hW)).append hx)
    have hcall := (hf x).2 I W #[_] (Tabs.st _ _ hG (by rw [hB]; exact hBe)) (fun k hk => Nat.lt_of_lt_of_le (hI k hk) hBe.size) rfl (fun j u y hu hy => by
      cases j with
      | zero => simp at hu hy; subst hu; subst hy; exact hargs
      | succ j => simp at hy)
    refine (CallsIn.inRound l (callsIn_wide.2 hcall)).mono ?_
    rintro e W1 ⟨v, rfl, hv, hW1⟩
    obtain rfl : v = .bool (q x) := by
      have := RepS.rep hv
      cases this; rfl
    have hC1 : KeptC W W1 := KeptC.below hW1
    have gX1' := cellAt (hC1 _ _ hX rfl)
    have gXX0 := gX1' 0
    have gXX1 := gX1' 1
    have g41 := cellAt (hC1 _ _ (hC _ _ k4 rfl) rfl) 0
    clear g00 g01 g02 g03 g04 g05 g06 g07 g10 g11 g2 g4 gX0 gX1 gX1'
    simp only [List.getElem?_toArray, List.getElem?_cons_zero, List.getElem?_cons_succ] at g41 gXX0 gXX1
    have hM1 : MapIs W1 (B + 1 + 1 + 1) (seenF q pre) := by
      obtain ⟨es, clk, h1, h2⟩ := hM
      exact ⟨es, clk, (hW1.block _ (Array.getElem?_eq_some_iff.1 h1).1).trans h1, h2⟩
    obtain ⟨o, hu, hM2, hoc⟩ := hM1.update x
    have hle : W0.heap.size ≤ W.heap.size := by
      have := (Array.getElem?_eq_some_iff.1 (hC _ _ k5 rfl)).1
      omega
    cases hq : q x with
    | true =>
      have hu' : (Instr.mapUpdate 124 (.map (some (B + 1 + 1 + 1))) (.agg #[.int .i64 x.1.val, .int .i64 (x.2.val + 1)]) (.agg #[])).run Tryz.prog W1 = .ok () (W1.putObj (B + 1 + 1 + 1) o) := hu
      gi_wp2
      have hput : ∀ k, k ≠ B + 1 + 1 + 1 → (W1.putObj (B + 1 + 1 + 1) o).heap[k]? = W1.heap[k]? := fun k hk => World.putObj_heap_other hk
      refine ⟨⟨by simp only [World.putObj_size]; exact hW1.size, fun k o' hk ho' _ => ?_⟩, ?_, hC.trans (hC1.trans ?_), ?_, ?_⟩
      · rw [hput k (by omega)]
        exact (hW1.block k (Array.getElem?_eq_some_iff.1 ho').1).trans ho'
      · show (W1.putObj (B + 1 + 1 + 1) o).heap[B + 1 + 1 + 1 + 1 + 1]? = _
        rw [hput _ (by omega)]
        exact hW1.block _ (by omega)
      · obtain ⟨es, clk, h1, _⟩ := hM1
        exact KeptC.put h1 rfl
      · rw [seenF_snoc, hq, if_pos rfl]; exact hM2
      · refine hBe.trans ⟨hW1.os, hW1.tape, hW1.output, by simp only [World.putObj_size]; exact hW1.size, fun k hk => ?_⟩
        rw [hput k (by omega)]
        exact hW1.block k (by omega)
    | false =>
      gi_wp2
      refine ⟨⟨hW1.size, fun k o' hk ho' _ => ?_⟩, ?_, hC.trans hC1, ?_, ?_⟩
      · exact (hW1.block k (Array.getElem?_eq_some_iff.1 ho').1).trans ho'
      · exact hW1.block _ (by omega)
      · rw [seenF_snoc, hq, if_neg (by simp)]; exact hM1
      · exact hBe.trans (hW1.mono (by omega))
  case done =>
    rintro D ys W hD rfl ⟨hC, hM, hBe⟩ hK
    have g4 := cellAt (hC _ _ k4 rfl) 0
    simp only [List.getElem?_toArray, List.getElem?_cons_zero, List.getElem?_cons_succ] at g4
    gi_wp2
    refine ⟨by simp, .inl ⟨_, _, rfl, run_takeDeferred hK, ?_⟩⟩
    refine ⟨_, results_tmp rfl _ _ _, ?_⟩
    have hput : ∀ k, k ≠ D → (W.putObj D (.deferred none)).heap[k]? = W.heap[k]? := fun k hk => World.putObj_heap_other hk
    have hM2 : MapIs (W.putObj D (.deferred none)) (B + 1 + 1 + 1) (seenF q (uptoP wd ((ln + 1) * wd))) := by
      obtain ⟨es, clk, h1, h2⟩ := hM
      exact ⟨es, clk, (hput _ (by omega)).trans h1, h2⟩
    have hlt : B + 1 + 1 + 1 < W.heap.size := by
      obtain ⟨es, clk, h1, h2⟩ := hM
      exact (Array.getElem?_eq_some_iff.1 h1).1
    refine ⟨_, rfl, RepS.of (hM2.rep (.inr ⟨by omega, by simp only [World.putObj_size]; exact hlt⟩)), ?_⟩
    rw [hB]
    exact hBe.trans ⟨rfl, rfl, rfl, by simp, fun k hk => hput k (by omega)⟩
  case stop =>
    rintro D c pre W _ _ h _
    exact h.elim
end Go.Proofs.Sight
namespace Go.Proofs.Sight
open Go Go.RX Go.Proofs Go.RowKit Go.Shelf
attribute [local go_sem] Oper.semAt_some
set_option maxRecDepth 100000
def cellsP (l : List Pl) : List Value := l.flatMap (fun x => [.int .i64 x.1.val, .int .i64 (x.2.val + 1)])
theorem cellsP_snoc (l : List Pl) (x : Pl) : cellsP (l ++ [x]) = cellsP l ++ [.int .i64 x.1.val, .int .i64 (x.2.val + 1)] := by simp [cellsP]
theorem info29 : (Tryz.prog.info? 29).map (fun i => (i.zero, i.size, i.bytes)) = some (some (.agg #[.int .i64 0, .int .i64 0]), 2, 16) := by kernel_rfl
def inL (l pre : List Pl) : List Pl := pre.filter (fun x => decide (x ∈ l))
theorem cell_two_new (w : World) (x y : Value) (t : TypeId) : ∀ j u, [x, y][j]? = some u → (w.alloc (.cells #[x, y] t)).cell? ((⟨w.heap.size, 0, none⟩ : Addr).add j) = some u := by
  intro j u hj
  have h := cellAt (World.alloc_heap_new w (.cells #[x, y] t)) j
  match j, hj with
  | 0, hj => simp at hj; subst hj; simpa [Addr.add] using h
  | 1, hj => simp at hj; subst hj; simpa [Addr.add] using h
theorem row_other {W : World} {k : Nat} {cs : Array Value} {t e : TypeId} {base size n : Nat} {v : Value} {xs : List Value} (h : W.heap[k]? = some (.cells cs t)) (hte : t ≠ e) (hr : W.ownsRow base e size v n xs) : some k ≠ v.ownBlock := by
  rcases hr.2 with ⟨rfl, _⟩ | ⟨g, cap, cur, rfl, _, hgb, _⟩
  · simp [Value.ownBlock]
  · intro e'
    obtain rfl : k = g := by simpa [Value.ownBlock] using e'
    rw [h] at hgb
    simp at hgb
    exact hte hgb.2
theorem cellsP_at : ∀ (l : List Pl) (i j : Nat), i < l.length → j < 2 → (cellsP l)[i * 2 + j]? = some (if j = 0 then .int .i64 (l.getD i default).1.val else .int .i64 ((l.getD i default).2.val + 1))
  | [], i, j, hi, _ => by simp at hi
  | x :: l, 0, 0, _, _ => rfl
  | x :: l, 0, 1, _, _ => rfl
  | x :: l, i + 1, j, hi, hj => by
    have h := cellsP_at l i j (by simpa using hi) hj
    have e : (i + 1) * 2 + j = (i * 2 + j) + 1 + 1 := by omega
    rw [e]
    show (cellsP l)[i * 2 + j]? = _
    rw [h]; simp
  | _, _, j + 2, _, hj => by omega
theorem row_rep {I : Nat → Prop} {W : World} {B : Nat} {v : Value} {l : List Pl} (h : W.ownsRow B 29 2 v l.length (cellsP l)) (hI : ∀ g, B ≤ g → g < W.heap.size → I g) : Rep I W v (slD 2 plaD (l.map Pl.p)) := by
  rcases h.2 with ⟨rfl, h0⟩ | ⟨g, cap, cur, rfl, hb, hg, hn, hc, hs, ht⟩
  · have : l = [] := List.eq_nil_of_length_eq_zero h0
    subst this
    exact .sl0
  · have hlen : (l.map Pl.p).length = l.length := by simp
    show Rep I W _ (.sl 2 (l.map Pl.p).length _)
    rw [hlen]
    refine .sl (fun i j => if j = 0 then .int .i64 (l.getD i default).1.val else .int .i64 ((l.getD i default).2.val + 1)) (hI _ hb (Array.getElem?_eq_some_iff.1 hg).1) hn hc (fun i j hi hj => ?_) (fun i j hi hj => ?_)
    · rw [cellAt hg, ← cellsP_at l i j hi hj, ← ht, List.getElem?_take_of_lt (by omega), Nat.zero_add, Array.getElem?_toList]
    · have e : (l.map Pl.p).getD i default = (l.getD i default).p := by simp [List.getD_eq_getElem?_getD, hi]
      rw [e]
      match j, hj with
      | 0, _ => exact .int
      | 1, _ => exact .int
set_option maxHeartbeats 4000000 in
theorem c94 (s : Street) (l : List Pl) (ln wd : Nat) (hl : s.len = ln) (hw : s.wid = wd) (hln : ln ≤ 40) (hwd : wd ≤ 12) :
    Ctr Tryz.prog 94 [s.sv, .d (mpD l)] (.d (slD 2 plaD ((inL l (uptoP wd ((ln + 1) * wd))).map Pl.p))) := by
  refine ⟨⟨Tryz.f94, Tryz.func94, rfl, rfl⟩, fun I w vs hG hI hsz hrep => ?_⟩
  obtain ⟨v0, v1, rfl⟩ : ∃ v0 v1, vs = #[v0, v1] := by
    obtain ⟨l⟩ := vs
    match l, hsz with
    | [a, b], _ => exact ⟨a, b, rfl⟩
  obtain ⟨sc, sd, se, sf, v6, v7, rfl, hs⟩ := street_vals (hrep 0 v0 _ rfl rfl)
  obtain ⟨r, rfl, hIr, hM0⟩ := MapIs.of_rep (RepS.rep (hrep 1 v1 _ rfl rfl))
  rw [hl, hw] at hs ⊢
  clear hrep hsz
  obtain ⟨i0, hi, hz0, hz1, hz2⟩ := info_parts info29
  have hr := hI r hIr
  refine (callsIn_wide (n := 5)).1 ?_
  refine callsIn_of_wp_marks Tryz.func94 rfl trivial ?_ rfl
  simp only [Tryz.ntmps94, List.size_toArray, List.length_cons, List.length_nil, Nat.reduceAdd, Nat.reduceSub, Array.replicate_succ, Array.replicate_zero, List.push_toArray, List.append_toArray, List.nil_append, List.cons_append]
  gi_wp2_with (refine ⟨trivial, ?_⟩; gi_at_call 122; refine (places_in Fence.wide 4 trivial rfl _ _).mono ?_; rintro e w' ⟨rfl, rfl⟩)
  obtain ⟨B, hB⟩ : ∃ B, w.heap.size = B := ⟨_, rfl⟩
  obtain ⟨S8, hS8⟩ : ∃ S8 : Array Value, #[Value.int IntKind.i64 ↑ln, Value.int IntKind.i64 ↑wd, Value.int IntKind.i64 sc, Value.int IntKind.i64 sd, Value.int IntKind.i64 se, Value.int IntKind.i64 sf, v6, v7] = S8 := ⟨_, rfl⟩
  obtain ⟨W0, hW0⟩ : ∃ W0, (((w.alloc (.cells S8 27)).alloc (.cells #[.map (some r)] 124)).alloc (.cells #[.slice none 0 0] 71)).alloc (.cells S8 27) = W0 := ⟨_, rfl⟩
  have z0 : W0.heap.size = B + 1 + 1 + 1 + 1 := by rw [← hW0]; exact al_sz _ (al_sz _ (al_sz _ (al_sz _ hB)))
  have k1 : W0.heap[B + 1]? = some (.cells #[.map (some r)] 124) := by rw [← hW0]; exact al_old _ (al_old _ (al_new _ (al_sz _ hB)))
  have k2 : W0.heap[B + 1 + 1]? = some (.cells #[.slice none 0 0] 71) := by rw [← hW0]; exact al_old _ (al_new _ (al_sz _ (al_sz _ hB)))
  have k3 : W0.heap[B + 1 + 1 + 1]? = some (.cells S8 27) := by rw [← hW0]; exact al_new _ (al_sz _ (al_sz _ (al_sz _ hB)))
  have hBel : Below w.heap.size w W0 := by
    rw [← hW0]
    exact ((((Below.refl _ w).alloc (Nat.le_refl _) _).alloc (by simp) _).alloc (by simp; omega) _).alloc (by simp; omega) _
  rw [hS8, hB, hW0]
  have c0 : W0.cell? ⟨B + 1 + 1 + 1, 0, none⟩ = some (.int .i64 ln) := by rw [cellAt k3, ← hS8]; rfl
  have c1 : W0.cell? ⟨B + 1 + 1 + 1, 1, none⟩ = some (.int .i64 wd) := by rw [cellAt k3, ← hS8]; rfl
  refine wpIn_rangeFunc_ownH rfl (by omega) (gf := 144) (lb := #[.pointer (some ⟨B + 1 + 1 + 1, 0, none⟩)]) rfl trivial (enters_of Tryz.func144 (by kernel_rfl) rfl)
    (places_stops Fence.wide (5 - 1) trivial rfl (by omega) (B + 1 + 1 + 1) ln wd hln hwd W0 (by omega) c0 c1) Kb.trans (Kb.b (by omega)) (Below.refl _ _) (fun _ => rfl)
    (fun pre W => ((∃ v, Boxed W (B + 1 + 1) 71 v ∧ W.ownsRow B 29 2 v (inL l pre).length (cellsP (inL l pre)) ∧ True) ∧ (W.heap[B + 1]? = some (.cells #[.map (some r)] 124) ∧ W.heap[B + 1 + 1 + 1]? = some (.cells S8 27))) ∧ Below B w W)
    (fun _ _ _ => False)
    (OwnFrom.and (OwnFrom.and (Own.from (holdsRow_own B (B + 1 + 1) 71 29 2 (fun pre => (inL l pre).length) (fun pre => cellsP (inL l pre)) (fun _ _ => True)) _) ?ownm) ?ownb)
    (fun _ _ _ _ _ hs _ _ => hs)
    ⟨⟨⟨.slice none 0 0, k2, World.ownsRow_nil _ _ _ _, trivial⟩, k1, k3⟩, by rw [← hB]; exact hBel⟩
    (fun x a' W => ∃ Bx, W0.heap.size ≤ Bx ∧ W.heap[Bx]? = some (.cells #[.int .i64 x.1.val, .int .i64 (x.2.val + 1)] 29) ∧
      a' = { tmps := #[Value.agg S8, .map (some r), Value.pointer (some { block := B, off := 0 }), Value.pointer (some { block := B + 1, off := 0 }), .slice none 0 0,
          Value.pointer (some { block := B + 1 + 1, off := 0 }), Value.pointer (some { block := Bx, off := 0 }), undef, undef, Value.agg S8,
          Value.func (Fn.func 144) #[] #[Value.pointer (some { block := B + 1 + 1 + 1, off := 0 })], .agg #[.int .i64 x.1.val, .int .i64 (x.2.val + 1)],
          undef, undef, undef, undef, undef, undef, undef, undef, undef, undef, undef, undef], defers := [] })
    ?hAx ?assign ?body ?done ?stop
  case ownm =>
    intro pre A C row hs hg hr
    have kk : ∀ (k : Nat) (cs : Array Value) (t : TypeId), A.heap[k]? = some (.cells cs t) → C.heap[k]? = some (.cells cs t) := fun k cs t hA => by
      refine (hg.block k (Array.getElem?_eq_some_iff.1 hA).1 (fun e => ?_)).trans hA
      obtain ⟨_, o2, h2, h3⟩ := hr k e.symm
      rw [hA] at h2; cases h2; cases h3
    exact ⟨kk _ _ _ hs.1, kk _ _ _ hs.2⟩
  case ownb => rw [← hB]; exact ownFrom_below (Nat.le_refl _) (by omega)
  case hAx =>
    intro x a' _ A C row hs hg hr
    obtain ⟨Bx, h1, h2, h3⟩ := hs
    refine ⟨Bx, h1, (hg.block _ (Array.getElem?_eq_some_iff.1 h2).1 (fun e => ?_)).trans h2, h3⟩
    obtain ⟨_, o2, h4, h5⟩ := hr _ e.symm
    rw [h2] at h4; cases h4; cases h5
  case assign =>
    rintro l' pre x W K ⟨⟨⟨v, hv, hrow, _⟩, h1, h3⟩, hBe⟩ hK
    dsimp only [encP]
    gi_wp2
    have hsz : W0.heap.size ≤ W.heap.size := by
      have := (Array.getElem?_eq_some_iff.1 h3).1
      omega
    exact hK _ _ ⟨by simp, fun k o _ hk _ => al_old _ hk⟩ (Below.heap_alloc W _ _ (by omega)) ⟨⟨⟨v, hv.alloc _, hrow.alloc _, trivial⟩, al_old _ h1, al_old _ h3⟩, hBe.alloc (by rw [← hB]; exact hBe.size) _⟩ ⟨W.heap.size, hsz, al_new _ rfl, rfl⟩
  case body =>
    rintro l' pre x a' W hl ⟨rr, hrr⟩ ⟨⟨⟨v, hv, hrow, _⟩, h1, h3⟩, hBe⟩ ⟨Bx, hBx, hX, rfl⟩ hlt
    have n1 : 1 ≤ 5 - 1 - 1 := by omega
    have hM : MapIs W r l := by
      obtain ⟨es, clk, g1, g2⟩ := hM0
      exact ⟨es, clk, (hBe.block r (by omega)).trans g1, g2⟩
    have hlook : (Instr.lookup 124 (.map (some r)) (.agg #[.int .i64 x.1.val, .int .i64 (x.2.val + 1)]) true).run Tryz.prog W = .ok (.tuple #[.agg #[], .bool (decide (x ∈ l))]) W := hM.look x
    have g1 := cellAt h1 0
    have gX := cellAt hX
    have gX0 := gX 0
    have gX1 := gX 1
    clear gX
    simp only [List.getElem?_toArray, List.getElem?_cons_zero, List.getElem?_cons_succ] at g1 gX0 gX1
    have hc := (hv.alloc (.cells #[] 160)).cell
    have gX' := cellAt (al_old (.cells #[] 160) hX)
    have gX0' := gX' 0
    have gX1' := gX' 1
    clear gX'
    simp only [List.getElem?_toArray, List.getElem?_cons_zero, List.getElem?_cons_succ] at gX0' gX1'
    have hsz : W0.heap.size ≤ W.heap.size := by
      have := (Array.getElem?_eq_some_iff.1 h3).1
      omega
    have hpl : (inL l pre).length ≤ pre.length := List.length_filter_le _ _
    have hN : (ln + 1) * wd ≤ 41 * 12 := Nat.mul_le_mul (by omega) hwd
    by_cases hxl : x ∈ l
    · have e1 : inL l (pre ++ [x]) = inL l pre ++ [x] := by simp [inL, hxl]
      rw [decide_eq_true hxl] at hlook
      have hnew := cell_two_new (W.alloc (.cells #[] 160)) (.int .i64 x.1.val) (.int .i64 (x.2.val + 1)) 29
      rw [World.size_alloc] at hnew
      have hBW : B ≤ W.heap.size := by rw [← hB]; exact hBe.size
      gi_wp2_with (gi_at_builtin; refine wpListIn_append_own _ rfl _ _ 71 rfl B 29 i0 (.agg #[.int .i64 0, .int .i64 0]) 2 16 Tryz.underlying71 hi hz0 hz1 hz2 rfl (by decide) _ _ _ rfl ((hrow.alloc _).alloc _) ⟨W.heap.size + 1, 0, none⟩ 1 1 [.int .i64 x.1.val, .int .i64 (x.2.val + 1)] rfl rfl hnew (by simp [Value.oneCell']) (by simp only [maxLen]; omega) (by omega) (by simp; omega) ?_; intro v' w1 hown' hgrow _; obtain ⟨g', cap', rfl⟩ := ownsRow_succ hown'; obtain ⟨hv1, hv2, hr2, hk2, hb2⟩ := (hv.alloc _).appended (by decide) (hrow.alloc _) (by simp; omega) (by omega) hown' hgrow; have hc1 := hv1.cell; have hf1 := hv1.frozen)
      have kk : ∀ (k : Nat) (cs : Array Value) (t : TypeId), t ≠ 29 → k ≠ B + 1 + 1 → W.heap[k]? = some (.cells cs t) → (w1.setCell ⟨B + 1 + 1, 0, none⟩ (.slice (some ⟨g', 0, none⟩) ((inL l pre).length + 1) cap')).heap[k]? = some (.cells cs t) := fun k cs t ht hk hA => by
        rw [Below.heap_setCell _ _ _ k hk]
        refine (hgrow.block k ?_ (row_other hA ht hrow)).trans (al_old _ (al_old _ hA))
        have := (Array.getElem?_eq_some_iff.1 hA).1
        simp; omega
      refine ⟨((KeepsOthers.alloc W _).trans hk2).from _, ?_, ⟨⟨_, hv2, ?_, trivial⟩, kk _ _ _ (by decide) (by omega) h1, kk _ _ _ (by decide) (by omega) h3⟩, ?_⟩
      · exact (kk _ _ _ (by decide) (by omega) h3).trans h3.symm
      · rw [e1, cellsP_snoc, List.length_append]; exact hr2
      · refine hBe.trans (Below.trans ?_ hb2)
        exact (Below.refl B W).alloc hBW _
    · have e1 : inL l (pre ++ [x]) = inL l pre := by simp [inL, hxl]
      rw [decide_eq_false hxl] at hlook
      gi_wp2
      refine ⟨(KeepsOthers.alloc W _).from _, al_old _ h3 |>.trans h3.symm, ⟨⟨v, hv.alloc _, ?_, trivial⟩, al_old _ h1, al_old _ h3⟩, ?_⟩
      · rw [e1]; exact hrow.alloc _
      · exact hBe.alloc (by rw [← hB]; exact hBe.size) _
  case done =>
    rintro D ys W hD rfl ⟨⟨⟨v, hv, hrow, _⟩, h1, h3⟩, hBe⟩ hK
    have hc := hv.cell
    gi_wp2
    refine ⟨by simp, .inl ⟨_, _, rfl, run_takeDeferred hK, ?_⟩⟩
    refine ⟨_, results_tmp rfl _ _ _, ?_⟩
    refine ⟨_, rfl, RepS.of (row_rep (ownsRow_putObj hrow _ hK rfl) (fun g h1 h2 => .inr ⟨by omega, h2⟩)), ?_⟩
    rw [hB]
    exact hBe.trans ⟨rfl, rfl, rfl, by simp, fun k hk => World.putObj_heap_other (by omega)⟩
  case stop =>
    rintro D c pre W _ _ h _
    exact h.elim
end Go.Proofs.Sight
namespace Go.Proofs.Sight
open Go Go.RX Go.Proofs
set_option maxRecDepth 10000
def bestN {α : Type} [Inhabited α] (g : α → α → Bool) (l : List α) : Nat → α
  | 0 => default
  | j + 1 => if (decide (j = 0) || g (l.getD j default) (bestN g l j)) = true then l.getD j default else bestN g l j
def bestL {α : Type} [Inhabited α] (g : α → α → Bool) (l : List α) : α := bestN g l l.length
theorem dec0 (j : Nat) : ((j : Int) == 0) = decide (j = 0) := by by_cases h : j = 0 <;> simp [h]
theorem c93 (l : List Place) (f m : Nat) (c : Nat → DV) (g : Place → Place → Bool) (P : Place → Prop) (hn : l.length < 1000000) (hP : ∀ x ∈ l, P x) (hf : ∀ x y, P x → P y → Ctr Tryz.prog f (x.sv :: y.sv :: take c 0 m) (bS (g x y))) (hPb : ∀ j, 0 < j → j ≤ l.length → P (bestN g l j)) :
    Ctr Tryz.prog 93 [.d (slD 2 plaD l), .d (.clo f m c)] (.tup [(bestL g l).sv, bS (decide (0 < l.length))]) := by
  (refine Ctr.mk (fn := Tryz.f93) rfl rfl rfl rfl rfl Tryz.results93 ?_; dsimp only [args, List.toList_toArray])
  ((first | refine Ok.seqF rfl rfl ?_ | refine Ok.seqT rfl rfl ?_ | refine Ok.regF rfl rfl ?_ | refine Ok.regT rfl rfl ?_); simp only [go_sem]; (repeat' with_reducible apply And.intro); all_goals first | (with_reducible first | refine OkW.mk ?_ | refine EndW.mk ?_ | apply AskI.id | apply AskGI.id) | (with_reducible apply KOt.mk; kernel_rfl) | exact trivial | rfl | omega | ((try intro _); first | apply R64 <;> omega | apply room_of <;> omega) | skip)
  ((first | refine Ok.seqF rfl rfl ?_ | refine Ok.seqT rfl rfl ?_ | refine Ok.regF rfl rfl ?_ | refine Ok.regT rfl rfl ?_); simp only [go_sem]; (repeat' with_reducible apply And.intro); all_goals first | (with_reducible first | refine OkW.mk ?_ | refine EndW.mk ?_ | apply AskI.id | apply AskGI.id) | (with_reducible apply KOt.mk; kernel_rfl) | exact trivial | rfl | omega | ((try intro _); first | apply R64 <;> omega | apply room_of <;> omega) | skip)
  refine Ok.seq ?_
  ((first | refine Ok.seqF rfl rfl ?_ | refine Ok.seqT rfl rfl ?_ | refine Ok.regF rfl rfl ?_ | refine Ok.regT rfl rfl ?_); simp only [go_sem]; (repeat' with_reducible apply And.intro); all_goals first | (with_reducible first | refine OkW.mk ?_ | refine EndW.mk ?_ | apply AskI.id | apply AskGI.id) | (with_reducible apply KOt.mk; kernel_rfl) | exact trivial | rfl | omega | ((try intro _); first | apply R64 <;> omega | apply room_of <;> omega) | skip)
  refine Ok.block ?_
  refine Ok.count l.length (fun j => ⟨[(0, .d (slD 2 plaD l)), (1, .d (.clo f m c)), (4, .p 0 0), (6, .p 1 0), (9, .d (slD 2 plaD l)), (10, iS l.length), (11, iS j)], [{ frz := false, xs := [iS 0, iS 0] }, { frz := false, xs := [iS (bestN g l j).al, iS (bestN g l j).ac] }], []⟩) (fun _ => True) ⟨trivial, ?_⟩ ?_ ?_
  · (refine Sub.of ([0, 1]) ([]) ?_ ?_ ?_ rfl rfl <;> simp only [subB, subB1, subT, subT1, newT, subE, subV, subL, go_sem] <;> (try (repeat' with_reducible apply And.intro)) <;> (try first | exact DEq.refl _ | refine DEq.int ?_ | refine DEq.bool ?_ | omega))
  · intro j hj _
    ((first | refine Ok.seqF rfl rfl ?_ | refine Ok.seqT rfl rfl ?_ | refine Ok.regF rfl rfl ?_ | refine Ok.regT rfl rfl ?_); simp only [go_sem]; (repeat' with_reducible apply And.intro); all_goals first | (with_reducible first | refine OkW.mk ?_ | refine EndW.mk ?_ | apply AskI.id | apply AskGI.id) | (with_reducible apply KOt.mk; kernel_rfl) | exact trivial | rfl | omega | ((try intro _); first | apply R64 <;> omega | apply room_of <;> omega) | skip)
    refine Ok.seq ?_
    refine Ok.cond rfl (fun _ => ?_) (fun hb => by simp at hb; omega)
    (refine Ok.skip ?_; (try dsimp only [thenK, blockK, noGotoK]))
    refine Ok.seq ?_
    refine Ok.block ?_
    ((first | refine Ok.seqF rfl rfl ?_ | refine Ok.seqT rfl rfl ?_ | refine Ok.regF rfl rfl ?_ | refine Ok.regT rfl rfl ?_); simp only [go_sem]; (repeat' with_reducible apply And.intro); all_goals first | (with_reducible first | refine OkW.mk ?_ | refine EndW.mk ?_ | apply AskI.id | apply AskGI.id) | (with_reducible apply KOt.mk; kernel_rfl) | exact trivial | rfl | omega | ((try intro _); first | apply R64 <;> omega | apply room_of <;> omega) | skip)
    refine Ok.seq ?_
    ((first | refine Ok.seqF rfl rfl ?_ | refine Ok.seqT rfl rfl ?_ | refine Ok.regF rfl rfl ?_ | refine Ok.regT rfl rfl ?_); simp only [go_sem]; (repeat' with_reducible apply And.intro); all_goals first | (with_reducible first | refine OkW.mk ?_ | refine EndW.mk ?_ | apply AskI.id | apply AskGI.id) | (with_reducible apply KOt.mk; kernel_rfl) | exact trivial | rfl | omega | ((try intro _); first | apply R64 <;> omega | apply room_of <;> omega) | skip)
    (refine AskGI.ret (fun hb => hf _ _ (hP _ (getD_mem hj)) (hPb j (by simp at hb; omega) (by omega))) ?_; simp only [go_sem]; (repeat' with_reducible apply And.intro); all_goals first | (with_reducible first | refine OkW.mk ?_ | refine EndW.mk ?_ | apply AskI.id | apply AskGI.id) | (with_reducible apply KOt.mk; kernel_rfl) | exact trivial | rfl | omega | ((try intro _); first | apply R64 <;> omega | apply room_of <;> omega) | skip)
    refine Ok.cond rfl ?_ ?_
    · intro hh
      have hB : bestN g l (j + 1) = l.getD j default := by
        rw [bestN, if_pos]
        rw [dec0] at hh
        revert hh
        cases h : decide (j = 0) <;> simp
      rw [← hB]
      ((first | refine Ok.seqF rfl rfl ?_ | refine Ok.seqT rfl rfl ?_ | refine Ok.regF rfl rfl ?_ | refine Ok.regT rfl rfl ?_); simp only [go_sem]; (repeat' with_reducible apply And.intro); all_goals first | (with_reducible first | refine OkW.mk ?_ | refine EndW.mk ?_ | apply AskI.id | apply AskGI.id) | (with_reducible apply KOt.mk; kernel_rfl) | exact trivial | rfl | omega | ((try intro _); first | apply R64 <;> omega | apply room_of <;> omega) | skip)
      (try dsimp only [thenK, blockK, noGotoK])
      ((first | refine Ok.seqF rfl rfl ?_ | refine Ok.seqT rfl rfl ?_ | refine Ok.regF rfl rfl ?_ | refine Ok.regT rfl rfl ?_); simp only [go_sem]; (repeat' with_reducible apply And.intro); all_goals first | (with_reducible first | refine OkW.mk ?_ | refine EndW.mk ?_ | apply AskI.id | apply AskGI.id) | (with_reducible apply KOt.mk; kernel_rfl) | exact trivial | rfl | omega | ((try intro _); first | apply R64 <;> omega | apply room_of <;> omega) | skip)
      (try dsimp only [thenK, blockK, noGotoK])
      refine ⟨trivial, ?_⟩
      (refine Sub.of ([0, 1]) ([]) ?_ ?_ ?_ rfl rfl <;> simp only [subB, subB1, subT, subT1, newT, subE, subV, subL, go_sem] <;> (try (repeat' with_reducible apply And.intro)) <;> (try first | exact DEq.refl _ | refine DEq.int ?_ | refine DEq.bool ?_ | omega))
    · intro hh
      have hB : bestN g l (j + 1) = bestN g l j := by
        rw [bestN, if_neg]
        rw [dec0] at hh
        revert hh
        cases h : decide (j = 0) <;> simp
      (refine Ok.skip ?_; (try dsimp only [thenK, blockK, noGotoK]))
      (try dsimp only [thenK, blockK, noGotoK])
      ((first | refine Ok.seqF rfl rfl ?_ | refine Ok.seqT rfl rfl ?_ | refine Ok.regF rfl rfl ?_ | refine Ok.regT rfl rfl ?_); simp only [go_sem]; (repeat' with_reducible apply And.intro); all_goals first | (with_reducible first | refine OkW.mk ?_ | refine EndW.mk ?_ | apply AskI.id | apply AskGI.id) | (with_reducible apply KOt.mk; kernel_rfl) | exact trivial | rfl | omega | ((try intro _); first | apply R64 <;> omega | apply room_of <;> omega) | skip)
      (try dsimp only [thenK, blockK, noGotoK])
      refine ⟨trivial, ?_⟩
      rw [hB]
      (refine Sub.of ([0, 1]) ([]) ?_ ?_ ?_ rfl rfl <;> simp only [subB, subB1, subT, subT1, newT, subE, subV, subL, go_sem] <;> (try (repeat' with_reducible apply And.intro)) <;> (try first | exact DEq.refl _ | refine DEq.int ?_ | refine DEq.bool ?_ | omega))
  · intro _
    ((first | refine Ok.seqF rfl rfl ?_ | refine Ok.seqT rfl rfl ?_ | refine Ok.regF rfl rfl ?_ | refine Ok.regT rfl rfl ?_); simp only [go_sem]; (repeat' with_reducible apply And.intro); all_goals first | (with_reducible first | refine OkW.mk ?_ | refine EndW.mk ?_ | apply AskI.id | apply AskGI.id) | (with_reducible apply KOt.mk; kernel_rfl) | exact trivial | rfl | omega | ((try intro _); first | apply R64 <;> omega | apply room_of <;> omega) | skip)
    refine Ok.seq ?_
    refine Ok.cond rfl (fun hb => by simp at hb) (fun _ => ?_)
    (refine Ok.exit ?_; simp only [thenK_exit, blockK_exit, noGotoK_exit, thenK_normal, blockK_normal, noGotoK_normal, ↓reduceIte, Nat.reduceEqDiff])
    ((first | refine Ok.seqF rfl rfl ?_ | refine Ok.seqT rfl rfl ?_ | refine Ok.regF rfl rfl ?_ | refine Ok.regT rfl rfl ?_); simp only [go_sem]; (repeat' with_reducible apply And.intro); all_goals first | (with_reducible first | refine OkW.mk ?_ | refine EndW.mk ?_ | apply AskI.id | apply AskGI.id) | (with_reducible apply KOt.mk; kernel_rfl) | exact trivial | rfl | omega | ((try intro _); first | apply R64 <;> omega | apply room_of <;> omega) | skip)
    (refine Ok.ret ?_; (try dsimp only [thenK, blockK, noGotoK]); simp only [toList_mk, List.toList_toArray, retK_ret, retK_normal, resOK, resV, celV, rowV, frzAll, frzT, subV, subL, go_sem])
    refine ⟨⟨.refl _, .refl _⟩, DEq.bool ?_⟩
    by_cases h : 0 < l.length <;> simp [h]
structure Hung where
  at_ : Int
  n : Int
  deriving Inhabited, DecidableEq
def hunD (p : Hung) : Nat → DV
  | 0 => iD p.at_ | 1 => iD p.n | _ => .nilI
theorem hunD_0 (l : Hung) : hunD l 0 = iD l.at_ := rfl
theorem hunD_1 (l : Hung) : hunD l 1 = iD l.n := rfl
attribute [go_sem] hunD_0 hunD_1
abbrev Hung.sv (p : Hung) : SV := .agg [iS p.at_, iS p.n]
theorem c100 (l : List Hung) (f m : Nat) (c : Nat → DV) (g : Hung → Hung → Bool) (P : Hung → Prop) (hn : l.length < 1000000) (hP : ∀ x ∈ l, P x) (hf : ∀ x y, P x → P y → Ctr Tryz.prog f (x.sv :: y.sv :: take c 0 m) (bS (g x y))) (hPb : ∀ j, 0 < j → j ≤ l.length → P (bestN g l j)) :
    Ctr Tryz.prog 100 [.d (slD 2 hunD l), .d (.clo f m c)] (.tup [(bestL g l).sv, bS (decide (0 < l.length))]) := by
  (refine Ctr.mk (fn := Tryz.f100) rfl rfl rfl rfl rfl Tryz.results100 ?_; dsimp only [args, List.toList_toArray])
  ((first | refine Ok.seqF rfl rfl ?_ | refine Ok.seqT rfl rfl ?_ | refine Ok.regF rfl rfl ?_ | refine Ok.regT rfl rfl ?_); simp only [go_sem]; (repeat' with_reducible apply And.intro); all_goals first | (with_reducible first | refine OkW.mk ?_ | refine EndW.mk ?_ | apply AskI.id | apply AskGI.id) | (with_reducible apply KOt.mk; kernel_rfl) | exact trivial | rfl | omega | ((try intro _); first | apply R64 <;> omega | apply room_of <;> omega) | skip)
  ((first | refine Ok.seqF rfl rfl ?_ | refine Ok.seqT rfl rfl ?_ | refine Ok.regF rfl rfl ?_ | refine Ok.regT rfl rfl ?_); simp only [go_sem]; (repeat' with_reducible apply And.intro); all_goals first | (with_reducible first | refine OkW.mk ?_ | refine EndW.mk ?_ | apply AskI.id | apply AskGI.id) | (with_reducible apply KOt.mk; kernel_rfl) | exact trivial | rfl | omega | ((try intro _); first | apply R64 <;> omega | apply room_of <;> omega) | skip)
  refine Ok.seq ?_
  ((first | refine Ok.seqF rfl rfl ?_ | refine Ok.seqT rfl rfl ?_ | refine Ok.regF rfl rfl ?_ | refine Ok.regT rfl rfl ?_); simp only [go_sem]; (repeat' with_reducible apply And.intro); all_goals first | (with_reducible first | refine OkW.mk ?_ | refine EndW.mk ?_ | apply AskI.id | apply AskGI.id) | (with_reducible apply KOt.mk; kernel_rfl) | exact trivial | rfl | omega | ((try intro _); first | apply R64 <;> omega | apply room_of <;> omega) | skip)
  refine Ok.block ?_
  refine Ok.count l.length (fun j => ⟨[(0, .d (slD 2 hunD l)), (1, .d (.clo f m c)), (4, .p 0 0), (6, .p 1 0), (9, .d (slD 2 hunD l)), (10, iS l.length), (11, iS j)], [{ frz := false, xs := [iS 0, iS 0] }, { frz := false, xs := [iS (bestN g l j).at_, iS (bestN g l j).n] }], []⟩) (fun _ => True) ⟨trivial, ?_⟩ ?_ ?_
  · (refine Sub.of ([0, 1]) ([]) ?_ ?_ ?_ rfl rfl <;> simp only [subB, subB1, subT, subT1, newT, subE, subV, subL, go_sem] <;> (try (repeat' with_reducible apply And.intro)) <;> (try first | exact DEq.refl _ | refine DEq.int ?_ | refine DEq.bool ?_ | omega))
  · intro j hj _
    ((first | refine Ok.seqF rfl rfl ?_ | refine Ok.seqT rfl rfl ?_ | refine Ok.regF rfl rfl ?_ | refine Ok.regT rfl rfl ?_); simp only [go_sem]; (repeat' with_reducible apply And.intro); all_goals first | (with_reducible first | refine OkW.mk ?_ | refine EndW.mk ?_ | apply AskI.id | apply AskGI.id) | (with_reducible apply KOt.mk; kernel_rfl) | exact trivial | rfl | omega | ((try intro _); first | apply R64 <;> omega | apply room_of <;> omega) | skip)
    refine Ok.seq ?_
    refine Ok.cond rfl (fun _ => ?_) (fun hb => by simp at hb; omega)
    (refine Ok.skip ?_; (try dsimp only [thenK, blockK, noGotoK]))
    refine Ok.seq ?_
    refine Ok.block ?_
    ((first | refine Ok.seqF rfl rfl ?_ | refine Ok.seqT rfl rfl ?_ | refine Ok.regF rfl rfl ?_ | refine Ok.regT rfl rfl ?_); simp only [go_sem]; (repeat' with_reducible apply And.intro); all_goals first | (with_reducible first | refine OkW.mk ?_ | refine EndW.mk ?_ | apply AskI.id | apply AskGI.id) | (with_reducible apply KOt.mk; kernel_rfl) | exact trivial | rfl | omega | ((try intro _); first | apply R64 <;> omega | apply room_of <;> omega) | skip)
    refine Ok.seq ?_
    ((first | refine Ok.seqF rfl rfl ?_ | refine Ok.seqT rfl rfl ?_ | refine Ok.regF rfl rfl ?_ | refine Ok.regT rfl rfl ?_); simp only [go_sem]; (repeat' with_reducible apply And.intro); all_goals first | (with_reducible first | refine OkW.mk ?_ | refine EndW.mk ?_ | apply AskI.id | apply AskGI.id) | (with_reducible apply KOt.mk; kernel_rfl) | exact trivial | rfl | omega | ((try intro _); first | apply R64 <;> omega | apply room_of <;> omega) | skip)
    (refine AskGI.ret (fun hb => hf _ _ (hP _ (getD_mem hj)) (hPb j (by simp at hb; omega) (by omega))) ?_; simp only [go_sem]; (repeat' with_reducible apply And.intro); all_goals first | (with_reducible first | refine OkW.mk ?_ | refine EndW.mk ?_ | apply AskI.id | apply AskGI.id) | (with_reducible apply KOt.mk; kernel_rfl) | exact trivial | rfl | omega | ((try intro _); first | apply R64 <;> omega | apply room_of <;> omega) | skip)
    refine Ok.cond rfl ?_ ?_
    · intro hh
      have hB : bestN g l (j + 1) = l.getD j default := by
        rw [bestN, if_pos]
        rw [dec0] at hh
        revert hh
        cases h : decide (j = 0) <;> simp
      rw [← hB]
      ((first | refine Ok.seqF rfl rfl ?_ | refine Ok.seqT rfl rfl ?_ | refine Ok.regF rfl rfl ?_ | refine Ok.regT rfl rfl ?_); simp only [go_sem]; (repeat' with_reducible apply And.intro); all_goals first | (with_reducible first | refine OkW.mk ?_ | refine EndW.mk ?_ | apply AskI.id | apply AskGI.id) | (with_reducible apply KOt.mk; kernel_rfl) | exact trivial | rfl | omega | ((try intro _); first | apply R64 <;> omega | apply room_of <;> omega) | skip)
      (try dsimp only [thenK, blockK, noGotoK])
      ((first | refine Ok.seqF rfl rfl ?_ | refine Ok.seqT rfl rfl ?_ | refine Ok.regF rfl rfl ?_ | refine Ok.regT rfl rfl ?_); simp only [go_sem]; (repeat' with_reducible apply And.intro); all_goals first | (with_reducible first | refine OkW.mk ?_ | refine EndW.mk ?_ | apply AskI.id | apply AskGI.id) | (with_reducible apply KOt.mk; kernel_rfl) | exact trivial | rfl | omega | ((try intro _); first | apply R64 <;> omega | apply room_of <;> omega) | skip)
      (try dsimp only [thenK, blockK, noGotoK])
      refine ⟨trivial, ?_⟩
      (refine Sub.of ([0, 1]) ([]) ?_ ?_ ?_ rfl rfl <;> simp only [subB, subB1, subT, subT1, newT, subE, subV, subL, go_sem] <;> (try (repeat' with_reducible apply And.intro)) <;> (try first | exact DEq.refl _ | refine DEq.int ?_ | refine DEq.bool ?_ | omega))
    · intro hh
      have hB : bestN g l (j + 1) = bestN g l j := by
        rw [bestN, if_neg]
        rw [dec0] at hh
        revert hh
        cases h : decide (j = 0) <;> simp
      (refine Ok.skip ?_; (try dsimp only [thenK, blockK, noGotoK]))
      (try dsimp only [thenK, blockK, noGotoK])
      ((first | refine Ok.seqF rfl rfl ?_ | refine Ok.seqT rfl rfl ?_ | refine Ok.regF rfl rfl ?_ | refine Ok.regT rfl rfl ?_); simp only [go_sem]; (repeat' with_reducible apply And.intro); all_goals first | (with_reducible first | refine OkW.mk ?_ | refine EndW.mk ?_ | apply AskI.id | apply AskGI.id) | (with_reducible apply KOt.mk; kernel_rfl) | exact trivial | rfl | omega | ((try intro _); first | apply R64 <;> omega | apply room_of <;> omega) | skip)
      (try dsimp only [thenK, blockK, noGotoK])
      refine ⟨trivial, ?_⟩
      rw [hB]
      (refine Sub.of ([0, 1]) ([]) ?_ ?_ ?_ rfl rfl <;> simp only [subB, subB1, subT, subT1, newT, subE, subV, subL, go_sem] <;> (try (repeat' with_reducible apply And.intro)) <;> (try first | exact DEq.refl _ | refine DEq.int ?_ | refine DEq.bool ?_ | omega))
  · intro _
    ((first | refine Ok.seqF rfl rfl ?_ | refine Ok.seqT rfl rfl ?_ | refine Ok.regF rfl rfl ?_ | refine Ok.regT rfl rfl ?_); simp only [go_sem]; (repeat' with_reducible apply And.intro); all_goals first | (with_reducible first | refine OkW.mk ?_ | refine EndW.mk ?_ | apply AskI.id | apply AskGI.id) | (with_reducible apply KOt.mk; kernel_rfl) | exact trivial | rfl | omega | ((try intro _); first | apply R64 <;> omega | apply room_of <;> omega) | skip)
    refine Ok.seq ?_
    refine Ok.cond rfl (fun hb => by simp at hb) (fun _ => ?_)
    (refine Ok.exit ?_; simp only [thenK_exit, blockK_exit, noGotoK_exit, thenK_normal, blockK_normal, noGotoK_normal, ↓reduceIte, Nat.reduceEqDiff])
    ((first | refine Ok.seqF rfl rfl ?_ | refine Ok.seqT rfl rfl ?_ | refine Ok.regF rfl rfl ?_ | refine Ok.regT rfl rfl ?_); simp only [go_sem]; (repeat' with_reducible apply And.intro); all_goals first | (with_reducible first | refine OkW.mk ?_ | refine EndW.mk ?_ | apply AskI.id | apply AskGI.id) | (with_reducible apply KOt.mk; kernel_rfl) | exact trivial | rfl | omega | ((try intro _); first | apply R64 <;> omega | apply room_of <;> omega) | skip)
    (refine Ok.ret ?_; (try dsimp only [thenK, blockK, noGotoK]); simp only [toList_mk, List.toList_toArray, retK_ret, retK_normal, resOK, resV, celV, rowV, frzAll, frzT, subV, subL, go_sem])
    refine ⟨⟨.refl _, .refl _⟩, DEq.bool ?_⟩
    by_cases h : 0 < l.length <;> simp [h]
theorem c101 (x y : Hung) : Ctr Tryz.prog 101 [x.sv, y.sv] (bS (decide (x.n > y.n))) := by
  (refine Ctr.mk (fn := Tryz.f101) rfl rfl rfl rfl rfl Tryz.results101 ?_; dsimp only [args, List.toList_toArray])
  ((first | refine Ok.seqF rfl rfl ?_ | refine Ok.seqT rfl rfl ?_ | refine Ok.regF rfl rfl ?_ | refine Ok.regT rfl rfl ?_); simp only [go_sem]; (repeat' with_reducible apply And.intro); all_goals first | (with_reducible first | refine OkW.mk ?_ | refine EndW.mk ?_ | apply AskI.id | apply AskGI.id) | (with_reducible apply KOt.mk; kernel_rfl) | exact trivial | rfl | omega | ((try intro _); first | apply R64 <;> omega | apply room_of <;> omega) | skip)
  ((first | refine Ok.seqF rfl rfl ?_ | refine Ok.seqT rfl rfl ?_ | refine Ok.regF rfl rfl ?_ | refine Ok.regT rfl rfl ?_); simp only [go_sem]; (repeat' with_reducible apply And.intro); all_goals first | (with_reducible first | refine OkW.mk ?_ | refine EndW.mk ?_ | apply AskI.id | apply AskGI.id) | (with_reducible apply KOt.mk; kernel_rfl) | exact trivial | rfl | omega | ((try intro _); first | apply R64 <;> omega | apply room_of <;> omega) | skip)
  (refine Ok.ret ?_; (try dsimp only [thenK, blockK, noGotoK]); simp only [toList_mk, List.toList_toArray, retK_ret, retK_normal, resOK, resV, celV, rowV, frzAll, frzT, subV, subL, go_sem])
  exact .refl _
theorem c95 (s : Street) (b : Board) (x y : Place) (hx : (Look.mk s b x).fine) (hy : (Look.mk s b y).fine) : Ctr Tryz.prog 95 [x.sv, y.sv, .d s.ref, .d (.ref 2 (dget [iD b.at_, slD 4 letD b.ls]))] (bS (decide (far b.at_ x > far b.at_ y))) := by
  (refine Ctr.mk (fn := Tryz.f95) rfl rfl rfl rfl rfl Tryz.results95 ?_; dsimp only [args, List.toList_toArray])
  ((first | refine Ok.seqF rfl rfl ?_ | refine Ok.seqT rfl rfl ?_ | refine Ok.regF rfl rfl ?_ | refine Ok.regT rfl rfl ?_); simp only [go_sem]; (repeat' with_reducible apply And.intro); all_goals first | (with_reducible first | refine OkW.mk ?_ | refine EndW.mk ?_ | apply AskI.id | apply AskGI.id) | (with_reducible apply KOt.mk; kernel_rfl) | exact trivial | rfl | omega | ((try intro _); first | apply R64 <;> omega | apply room_of <;> omega) | skip)
  ((first | refine Ok.seqF rfl rfl ?_ | refine Ok.seqT rfl rfl ?_ | refine Ok.regF rfl rfl ?_ | refine Ok.regT rfl rfl ?_); simp only [go_sem]; (repeat' with_reducible apply And.intro); all_goals first | (with_reducible first | refine OkW.mk ?_ | refine EndW.mk ?_ | apply AskI.id | apply AskGI.id) | (with_reducible apply KOt.mk; kernel_rfl) | exact trivial | rfl | omega | ((try intro _); first | apply R64 <;> omega | apply room_of <;> omega) | skip)
  (refine AskI.ret (c96 ⟨s, b, x⟩ hx) ?_; simp only [go_sem]; (repeat' with_reducible apply And.intro); all_goals first | (with_reducible first | refine OkW.mk ?_ | refine EndW.mk ?_ | apply AskI.id | apply AskGI.id) | (with_reducible apply KOt.mk; kernel_rfl) | exact trivial | rfl | omega | ((try intro _); first | apply R64 <;> omega | apply room_of <;> omega) | skip)
  (refine AskI.ret (c96 ⟨s, b, y⟩ hy) ?_; simp only [go_sem]; (repeat' with_reducible apply And.intro); all_goals first | (with_reducible first | refine OkW.mk ?_ | refine EndW.mk ?_ | apply AskI.id | apply AskGI.id) | (with_reducible apply KOt.mk; kernel_rfl) | exact trivial | rfl | omega | ((try intro _); first | apply R64 <;> omega | apply room_of <;> omega) | skip)
  (refine Ok.ret ?_; (try dsimp only [thenK, blockK, noGotoK]); simp only [toList_mk, List.toList_toArray, retK_ret, retK_normal, resOK, resV, celV, rowV, frzAll, frzT, subV, subL, go_sem])
  exact .refl _
end Go.Proofs.Sight
namespace Go.Proofs.Sight
open Go Go.RX Go.Proofs
set_option maxRecDepth 10000
def plL (s : Street) : List Pl := uptoP s.wid.toNat ((s.len.toNat + 1) * s.wid.toNat)
def sureAt (s : Street) (b : Board) (x : Pl) : Bool := surelyL ⟨s, b, x.p⟩
def mayAt (s : Street) (b : Board) (x : Pl) : Bool := mayL ⟨s, b, x.p⟩
def fromL (q : Pl → Bool) (s : Street) : List Pl := seenF q (plL s)
theorem good_pl {s : Street} (hs : s.ok) {b : Board} (hb : isBoard b s.len = true) (x : Pl) : (Look.mk s b x.p).good := by
  have h0 : placeIn s ⟨0, 1⟩ = true := by
    have := hs.len0; have := hs.wid0
    simp [placeIn, inR]; omega
  have g := good_of hs hb h0
  have f := g.fine
  have := x.1.isLt; have := x.2.isLt
  exact ⟨⟨f.at0, f.at1, by simp only [Pl.p]; omega, by simp only [Pl.p]; omega, by simp only [Pl.p]; omega, by simp only [Pl.p]; omega, f.el0, f.el1, f.eh0, f.eh1, f.ll0, f.ll1, f.lh0, f.lh1⟩, g.ls, g.ks, g.n1, g.n5, g.k4⟩
theorem c92S {s : Street} (hs : s.ok) {b : Board} (hb : isBoard b s.len = true) (cc : Nat → DV) : Ctr Tryz.prog 92 [s.sv, b.sv, .d (.clo 74 0 cc)] (.d (mpD (fromL (sureAt s b) s))) :=
  c92 s b 74 cc (sureAt s b) s.len.toNat s.wid.toNat (by have := hs.len0; omega) (by have := hs.wid0; omega) (by have := hs.len1; omega) (by have := hs.wid1; omega) (fun x => c74 _ (good_pl hs hb x))
theorem c92M {s : Street} (hs : s.ok) {b : Board} (hb : isBoard b s.len = true) (cc : Nat → DV) : Ctr Tryz.prog 92 [s.sv, b.sv, .d (.clo 75 0 cc)] (.d (mpD (fromL (mayAt s b) s))) :=
  c92 s b 75 cc (mayAt s b) s.len.toNat s.wid.toNat (by have := hs.len0; omega) (by have := hs.wid0; omega) (by have := hs.len1; omega) (by have := hs.wid1; omega) (fun x => c75 _ (good_pl hs hb x))
def boardOk (s : Street) (i : Int) : Bool := isStreet s && inR i 0 (s.bs.length - 1)
def brd (s : Street) (i : Int) : Board := s.bs.getD i.toNat default
theorem boardOk_spec {s : Street} {i : Int} (h : boardOk s i = true) : s.ok ∧ (0 ≤ i ∧ i < s.bs.length) ∧ isBoard (brd s i) s.len = true := by
  simp only [boardOk, inR, Bool.and_eq_true, decide_eq_true_eq] at h
  have hs := isStreet_ok.1 h.1
  exact ⟨hs, ⟨by omega, by omega⟩, hs.bs _ (getD_mem (by omega))⟩
def manyS (s : Street) (i : Int) : Int := if boardOk s i then (fromL (sureAt s (brd s i)) s).length else 0
def manyM (s : Street) (i : Int) : Int := if boardOk s i then (fromL (mayAt s (brd s i)) s).length else 0
theorem c42 (s : Street) (hs : s.fit) (i : Int) : Ctr Tryz.prog 42 [s.sv, iS i] (.tup [iS (manyS s i), iS (manyM s i), iS (errA (boardOk s i))]) := by
  have h91 := c91 s hs i
  (refine Ctr.mk (fn := Tryz.f42) rfl rfl rfl rfl rfl Tryz.results42 ?_; dsimp only [args, List.toList_toArray])
  ((first | refine Ok.seqF rfl rfl ?_ | refine Ok.seqT rfl rfl ?_ | refine Ok.regF rfl rfl ?_ | refine Ok.regT rfl rfl ?_); simp only [go_sem]; (repeat' with_reducible apply And.intro); all_goals first | (with_reducible first | refine OkW.mk ?_ | refine EndW.mk ?_ | apply AskI.id | apply AskGI.id) | (with_reducible apply KOt.mk; kernel_rfl) | exact trivial | rfl | omega | ((try intro _); first | apply R64 <;> omega | apply room_of <;> omega) | skip)
  refine Ok.seq ?_
  ((first | refine Ok.seqF rfl rfl ?_ | refine Ok.seqT rfl rfl ?_ | refine Ok.regF rfl rfl ?_ | refine Ok.regT rfl rfl ?_); simp only [go_sem]; (repeat' with_reducible apply And.intro); all_goals first | (with_reducible first | refine OkW.mk ?_ | refine EndW.mk ?_ | apply AskI.id | apply AskGI.id) | (with_reducible apply KOt.mk; kernel_rfl) | exact trivial | rfl | omega | ((try intro _); first | apply R64 <;> omega | apply room_of <;> omega) | skip)
  (refine AskI.ret (h91) ?_; simp only [go_sem]; (repeat' with_reducible apply And.intro); all_goals first | (with_reducible first | refine OkW.mk ?_ | refine EndW.mk ?_ | apply AskI.id | apply AskGI.id) | (with_reducible apply KOt.mk; kernel_rfl) | exact trivial | rfl | omega | ((try intro _); first | apply R64 <;> omega | apply room_of <;> omega) | skip)
  refine Ok.cond rfl ?_ ?_
  · intro hb
    have hb' : boardOk s i = false := by
      unfold boardOk
      revert hb
      cases (isStreet s && inR i 0 (s.bs.length - 1)) <;> simp
    ((first | refine Ok.seqF rfl rfl ?_ | refine Ok.seqT rfl rfl ?_ | refine Ok.regF rfl rfl ?_ | refine Ok.regT rfl rfl ?_); simp only [go_sem]; (repeat' with_reducible apply And.intro); all_goals first | (with_reducible first | refine OkW.mk ?_ | refine EndW.mk ?_ | apply AskI.id | apply AskGI.id) | (with_reducible apply KOt.mk; kernel_rfl) | exact trivial | rfl | omega | ((try intro _); first | apply R64 <;> omega | apply room_of <;> omega) | skip)
    (refine Ok.ret ?_; (try dsimp only [thenK, blockK, noGotoK]); simp only [toList_mk, List.toList_toArray, retK_ret, retK_normal, resOK, resV, celV, rowV, frzAll, frzT, subV, subL, go_sem])
    simp only [manyS, manyM, errA, hb']
    exact ⟨.refl _, .refl _, .refl _⟩
  intro hb
  have hb' : boardOk s i = true := by
    unfold boardOk
    revert hb
    cases (isStreet s && inR i 0 (s.bs.length - 1)) <;> simp
  obtain ⟨hok, hi, hbd⟩ := boardOk_spec hb'
  have e1 : manyS s i = (fromL (sureAt s (brd s i)) s).length := by simp [manyS, hb']
  have e2 : manyM s i = (fromL (mayAt s (brd s i)) s).length := by simp [manyM, hb']
  have e3 : errA (boardOk s i) = 0 := by simp [errA, hb']
  rw [e1, e2, e3]
  have hS := c92S hok hbd
  have hM := c92M hok hbd
  (refine Ok.skip ?_; (try dsimp only [thenK, blockK, noGotoK]))
  ((first | refine Ok.seqF rfl rfl ?_ | refine Ok.seqT rfl rfl ?_ | refine Ok.regF rfl rfl ?_ | refine Ok.regT rfl rfl ?_); simp only [go_sem]; (repeat' with_reducible apply And.intro); all_goals first | (with_reducible first | refine OkW.mk ?_ | refine EndW.mk ?_ | apply AskI.id | apply AskGI.id) | (with_reducible apply KOt.mk; kernel_rfl) | exact trivial | rfl | omega | ((try intro _); first | apply R64 <;> omega | apply room_of <;> omega) | skip)
  ((first | refine Ok.seqF rfl rfl ?_ | refine Ok.seqT rfl rfl ?_ | refine Ok.regF rfl rfl ?_ | refine Ok.regT rfl rfl ?_); simp only [go_sem]; (repeat' with_reducible apply And.intro); all_goals first | (with_reducible first | refine OkW.mk ?_ | refine EndW.mk ?_ | apply AskI.id | apply AskGI.id) | (with_reducible apply KOt.mk; kernel_rfl) | exact trivial | rfl | omega | ((try intro _); first | apply R64 <;> omega | apply room_of <;> omega) | skip)
  (refine AskI.ret (hS _) ?_; simp only [go_sem]; (repeat' with_reducible apply And.intro); all_goals first | (with_reducible first | refine OkW.mk ?_ | refine EndW.mk ?_ | apply AskI.id | apply AskGI.id) | (with_reducible apply KOt.mk; kernel_rfl) | exact trivial | rfl | omega | ((try intro _); first | apply R64 <;> omega | apply room_of <;> omega) | skip)
  (refine AskI.ret (hM _) ?_; simp only [go_sem]; (repeat' with_reducible apply And.intro); all_goals first | (with_reducible first | refine OkW.mk ?_ | refine EndW.mk ?_ | apply AskI.id | apply AskGI.id) | (with_reducible apply KOt.mk; kernel_rfl) | exact trivial | rfl | omega | ((try intro _); first | apply R64 <;> omega | apply room_of <;> omega) | skip)
  (refine Ok.ret ?_; (try dsimp only [thenK, blockK, noGotoK]); simp only [toList_mk, List.toList_toArray, retK_ret, retK_normal, resOK, resV, celV, rowV, frzAll, frzT, subV, subL, go_sem])
  ((repeat' with_reducible apply And.intro) <;> (first | exact DEq.refl _ | refine DEq.int ?_ | refine DEq.bool ?_ | skip))
def orderedL (s : Street) (l : List Pl) : List Place := (inL l (plL s)).map Pl.p
theorem c94S {s : Street} (hs : s.ok) (l : List Pl) : Ctr Tryz.prog 94 [s.sv, .d (mpD l)] (.d (slD 2 plaD (orderedL s l))) :=
  c94 s l s.len.toNat s.wid.toNat (by have := hs.len0; omega) (by have := hs.wid0; omega) (by have := hs.len1; omega) (by have := hs.wid1; omega)
def farther (b : Board) (x y : Place) : Bool := decide (far b.at_ x > far b.at_ y)
def farthestL (s : Street) (b : Board) : List Place := orderedL s (fromL (sureAt s b) s)
def farthestP (s : Street) (i : Int) : Place := if boardOk s i then bestL (farther (brd s i)) (farthestL s (brd s i)) else default
def farthestE (s : Street) (i : Int) : Int := if boardOk s i then (if 0 < (farthestL s (brd s i)).length then 0 else 5) else 2
theorem bestN_mem {α : Type} [Inhabited α] (g : α → α → Bool) (l : List α) : ∀ j, 0 < j → j ≤ l.length → bestN g l j ∈ l
  | 0, h, _ => by omega
  | 1, _, h => by
    rw [bestN]; simp
    exact getD_mem (by omega)
  | j + 2, _, h => by
    rw [bestN]
    split
    · exact getD_mem (by omega)
    · exact bestN_mem g l (j + 1) (by omega) (by omega)
theorem plL_len {s : Street} (hs : s.ok) : (plL s).length ≤ 492 := by
  rw [plL, uptoP_length]
  have := hs.len1; have := hs.wid1
  have h : (s.len.toNat + 1) * s.wid.toNat ≤ 41 * 12 := Nat.mul_le_mul (by omega) (by omega)
  omega
theorem orderedL_len {s : Street} (hs : s.ok) (l : List Pl) : (orderedL s l).length ≤ 492 := by
  have := plL_len hs
  have h : (inL l (plL s)).length ≤ (plL s).length := List.length_filter_le _ _
  rw [orderedL, List.length_map]; omega
theorem farthest_fine {s : Street} (hs : s.ok) {b : Board} (hb : isBoard b s.len = true) : ∀ p ∈ farthestL s b, (Look.mk s b p).fine := by
  intro p hp
  obtain ⟨x, _, rfl⟩ := List.mem_map.1 hp
  exact (good_pl hs hb x).fine
theorem c43 (s : Street) (hs : s.fit) (i : Int) : Ctr Tryz.prog 43 [s.sv, iS i] (.tup [(farthestP s i).sv, iS (farthestE s i)]) := by
  have h91 := c91 s hs i
  (refine Ctr.mk (fn := Tryz.f43) rfl rfl rfl rfl rfl Tryz.results43 ?_; dsimp only [args, List.toList_toArray])
  ((first | refine Ok.seqF rfl rfl ?_ | refine Ok.seqT rfl rfl ?_ | refine Ok.regF rfl rfl ?_ | refine Ok.regT rfl rfl ?_); simp only [go_sem]; (repeat' with_reducible apply And.intro); all_goals first | (with_reducible first | refine OkW.mk ?_ | refine EndW.mk ?_ | apply AskI.id | apply AskGI.id) | (with_reducible apply KOt.mk; kernel_rfl) | exact trivial | rfl | omega | ((try intro _); first | apply R64 <;> omega | apply room_of <;> omega) | skip)
  refine Ok.seq ?_
  ((first | refine Ok.seqF rfl rfl ?_ | refine Ok.seqT rfl rfl ?_ | refine Ok.regF rfl rfl ?_ | refine Ok.regT rfl rfl ?_); simp only [go_sem]; (repeat' with_reducible apply And.intro); all_goals first | (with_reducible first | refine OkW.mk ?_ | refine EndW.mk ?_ | apply AskI.id | apply AskGI.id) | (with_reducible apply KOt.mk; kernel_rfl) | exact trivial | rfl | omega | ((try intro _); first | apply R64 <;> omega | apply room_of <;> omega) | skip)
  (refine AskI.ret (h91) ?_; simp only [go_sem]; (repeat' with_reducible apply And.intro); all_goals first | (with_reducible first | refine OkW.mk ?_ | refine EndW.mk ?_ | apply AskI.id | apply AskGI.id) | (with_reducible apply KOt.mk; kernel_rfl) | exact trivial | rfl | omega | ((try intro _); first | apply R64 <;> omega | apply room_of <;> omega) | skip)
  refine Ok.cond rfl ?_ ?_
  · intro hb
    have hb' : boardOk s i = false := by
      unfold boardOk
      revert hb
      cases (isStreet s && inR i 0 (s.bs.length - 1)) <;> simp
    ((first | refine Ok.seqF rfl rfl ?_ | refine Ok.seqT rfl rfl ?_ | refine Ok.regF rfl rfl ?_ | refine Ok.regT rfl rfl ?_); simp only [go_sem]; (repeat' with_reducible apply And.intro); all_goals first | (with_reducible first | refine OkW.mk ?_ | refine EndW.mk ?_ | apply AskI.id | apply AskGI.id) | (with_reducible apply KOt.mk; kernel_rfl) | exact trivial | rfl | omega | ((try intro _); first | apply R64 <;> omega | apply room_of <;> omega) | skip)
    (refine Ok.ret ?_; (try dsimp only [thenK, blockK, noGotoK]); simp only [toList_mk, List.toList_toArray, retK_ret, retK_normal, resOK, resV, celV, rowV, frzAll, frzT, subV, subL, go_sem])
    simp only [farthestP, farthestE, hb']
    exact ⟨⟨.refl _, .refl _⟩, .refl _⟩
  intro hb
  have hb' : boardOk s i = true := by
    unfold boardOk
    revert hb
    cases (isStreet s && inR i 0 (s.bs.length - 1)) <;> simp
  obtain ⟨hok, hi, hbd⟩ := boardOk_spec hb'
  have e1 : farthestP s i = bestL (farther (brd s i)) (farthestL s (brd s i)) := by simp [farthestP, hb']
  have e2 : farthestE s i = if 0 < (farthestL s (brd s i)).length then 0 else 5 := by simp [farthestE, hb']
  rw [e1, e2]
  have hS := c92S hok hbd
  (refine Ok.skip ?_; (try dsimp only [thenK, blockK, noGotoK]))
  ((first | refine Ok.seqF rfl rfl ?_ | refine Ok.seqT rfl rfl ?_ | refine Ok.regF rfl rfl ?_ | refine Ok.regT rfl rfl ?_); simp only [go_sem]; (repeat' with_reducible apply And.intro); all_goals first | (with_reducible first | refine OkW.mk ?_ | refine EndW.mk ?_ | apply AskI.id | apply AskGI.id) | (with_reducible apply KOt.mk; kernel_rfl) | exact trivial | rfl | omega | ((try intro _); first | apply R64 <;> omega | apply room_of <;> omega) | skip)
  refine Ok.sub (Sub.frzB (b := 0) rfl rfl) ?_
  simp only [setN]
  refine Ok.sub (Sub.frzB (b := 2) rfl rfl) ?_
  simp only [setN]
  ((first | refine Ok.seqF rfl rfl ?_ | refine Ok.seqT rfl rfl ?_ | refine Ok.regF rfl rfl ?_ | refine Ok.regT rfl rfl ?_); simp only [go_sem]; (repeat' with_reducible apply And.intro); all_goals first | (with_reducible first | refine OkW.mk ?_ | refine EndW.mk ?_ | apply AskI.id | apply AskGI.id) | (with_reducible apply KOt.mk; kernel_rfl) | exact trivial | rfl | omega | ((try intro _); first | apply R64 <;> omega | apply room_of <;> omega) | skip)
  (refine AskI.ret (hS _) ?_; simp only [go_sem]; (repeat' with_reducible apply And.intro); all_goals first | (with_reducible first | refine OkW.mk ?_ | refine EndW.mk ?_ | apply AskI.id | apply AskGI.id) | (with_reducible apply KOt.mk; kernel_rfl) | exact trivial | rfl | omega | ((try intro _); first | apply R64 <;> omega | apply room_of <;> omega) | skip)
  (refine AskI.ret (c94S hok _) ?_; simp only [go_sem]; (repeat' with_reducible apply And.intro); all_goals first | (with_reducible first | refine OkW.mk ?_ | refine EndW.mk ?_ | apply AskI.id | apply AskGI.id) | (with_reducible apply KOt.mk; kernel_rfl) | exact trivial | rfl | omega | ((try intro _); first | apply R64 <;> omega | apply room_of <;> omega) | skip)
  have h93 := c93 (farthestL s (brd s i)) 95 2 (dget [s.ref, .ref 2 (dget [iD (brd s i).at_, slD 4 letD (brd s i).ls])]) (farther (brd s i)) (fun p => (Look.mk s (brd s i) p).fine)
    (by have := orderedL_len hok (fromL (sureAt s (brd s i)) s); unfold farthestL; omega) (farthest_fine hok hbd) (fun x y hx hy => c95 s (brd s i) x y hx hy) (fun j h0 h1 => farthest_fine hok hbd _ (bestN_mem _ _ j h0 h1))
  (refine AskI.ret (h93) ?_; simp only [go_sem]; (repeat' with_reducible apply And.intro); all_goals first | (with_reducible first | refine OkW.mk ?_ | refine EndW.mk ?_ | apply AskI.id | apply AskGI.id) | (with_reducible apply KOt.mk; kernel_rfl) | exact trivial | rfl | omega | ((try intro _); first | apply R64 <;> omega | apply room_of <;> omega) | skip)
  have hp0 : ¬ 0 < (farthestL s (brd s i)).length → bestL (farther (brd s i)) (farthestL s (brd s i)) = default := fun h => by
    unfold bestL
    rw [show (farthestL s (brd s i)).length = 0 from by omega]; rfl
  generalize bestL (farther (brd s i)) (farthestL s (brd s i)) = p at hp0 ⊢
  refine Ok.seq ?_
  ((first | refine Ok.seqF rfl rfl ?_ | refine Ok.seqT rfl rfl ?_ | refine Ok.regF rfl rfl ?_ | refine Ok.regT rfl rfl ?_); simp only [go_sem]; (repeat' with_reducible apply And.intro); all_goals first | (with_reducible first | refine OkW.mk ?_ | refine EndW.mk ?_ | apply AskI.id | apply AskGI.id) | (with_reducible apply KOt.mk; kernel_rfl) | exact trivial | rfl | omega | ((try intro _); first | apply R64 <;> omega | apply room_of <;> omega) | skip)
  refine Ok.cond rfl ?_ ?_
  · intro hh
    have e : ¬ 0 < (farthestL s (brd s i)).length := by
      revert hh
      by_cases h : 0 < (farthestL s (brd s i)).length <;> simp [h]
    rw [if_neg e]
    ((first | refine Ok.seqF rfl rfl ?_ | refine Ok.seqT rfl rfl ?_ | refine Ok.regF rfl rfl ?_ | refine Ok.regT rfl rfl ?_); simp only [go_sem]; (repeat' with_reducible apply And.intro); all_goals first | (with_reducible first | refine OkW.mk ?_ | refine EndW.mk ?_ | apply AskI.id | apply AskGI.id) | (with_reducible apply KOt.mk; kernel_rfl) | exact trivial | rfl | omega | ((try intro _); first | apply R64 <;> omega | apply room_of <;> omega) | skip)
    (refine Ok.ret ?_; (try dsimp only [thenK, blockK, noGotoK]); simp only [toList_mk, List.toList_toArray, retK_ret, retK_normal, resOK, resV, celV, rowV, frzAll, frzT, subV, subL, go_sem])
    rw [hp0 e]
    exact ⟨⟨.refl _, .refl _⟩, .refl _⟩
  · intro hh
    have e : 0 < (farthestL s (brd s i)).length := by
      revert hh
      by_cases h : 0 < (farthestL s (brd s i)).length <;> simp [h]
    rw [if_pos e]
    (refine Ok.skip ?_; (try dsimp only [thenK, blockK, noGotoK]))
    ((first | refine Ok.seqF rfl rfl ?_ | refine Ok.seqT rfl rfl ?_ | refine Ok.regF rfl rfl ?_ | refine Ok.regT rfl rfl ?_); simp only [go_sem]; (repeat' with_reducible apply And.intro); all_goals first | (with_reducible first | refine OkW.mk ?_ | refine EndW.mk ?_ | apply AskI.id | apply AskGI.id) | (with_reducible apply KOt.mk; kernel_rfl) | exact trivial | rfl | omega | ((try intro _); first | apply R64 <;> omega | apply room_of <;> omega) | skip)
    (refine Ok.ret ?_; (try dsimp only [thenK, blockK, noGotoK]); simp only [toList_mk, List.toList_toArray, retK_ret, retK_normal, resOK, resV, celV, rowV, frzAll, frzT, subV, subL, go_sem])
    ((repeat' with_reducible apply And.intro) <;> (first | exact DEq.refl _ | refine DEq.int ?_ | refine DEq.bool ?_ | skip))
def hungAt (s : Street) (b : Board) (j : Nat) : Hung := ⟨j, (fromL (sureAt s { b with at_ := j }) s).length⟩
def hangL (s : Street) (b : Board) : List Hung := (List.range (s.len.toNat + 1)).map (hungAt s b)
def more (x y : Hung) : Bool := decide (x.n > y.n)
def hangH (s : Street) (i : Int) : Hung := if boardOk s i then bestL more (hangL s (brd s i)) else default
def hangN (s : Street) (b : Board) (j : Nat) : List Hung := (List.range j).map (hungAt s b)
theorem hangS_snoc (s : Street) (b : Board) (j : Nat) : hangN s b (j + 1) = hangN s b j ++ [hungAt s b j] := by rw [hangN, List.range_succ, List.map_append]; rfl
theorem hangN_len (s : Street) (b : Board) (j : Nat) : (hangN s b j).length = j := by simp [hangN]
theorem isBoard_at {b : Board} {len : Int} (h : isBoard b len = true) {j : Int} (h0 : 0 ≤ j) (h1 : j ≤ len) : isBoard { b with at_ := j } len = true := by
  simp only [isBoard, Bool.and_eq_true] at h ⊢
  obtain ⟨⟨⟨_, h2⟩, h3⟩, h4⟩ := h
  refine ⟨⟨⟨?_, h2⟩, h3⟩, h4⟩
  simp [inR]; omega
theorem c55 (s : Street) (hs : s.fit) (i : Int) : Ctr Tryz.prog 55 [s.sv, iS i] (.tup [iS (hangH s i).at_, iS (hangH s i).n, iS (errA (boardOk s i))]) := by
  have h91 := c91 s hs i
  (refine Ctr.mk (fn := Tryz.f55) rfl rfl rfl rfl rfl Tryz.results55 ?_; dsimp only [args, List.toList_toArray])
  ((first | refine Ok.seqF rfl rfl ?_ | refine Ok.seqT rfl rfl ?_ | refine Ok.regF rfl rfl ?_ | refine Ok.regT rfl rfl ?_); simp only [go_sem]; (repeat' with_reducible apply And.intro); all_goals first | (with_reducible first | refine OkW.mk ?_ | refine EndW.mk ?_ | apply AskI.id | apply AskGI.id) | (with_reducible apply KOt.mk; kernel_rfl) | exact trivial | rfl | omega | ((try intro _); first | apply R64 <;> omega | apply room_of <;> omega) | skip)
  refine Ok.seq ?_
  ((first | refine Ok.seqF rfl rfl ?_ | refine Ok.seqT rfl rfl ?_ | refine Ok.regF rfl rfl ?_ | refine Ok.regT rfl rfl ?_); simp only [go_sem]; (repeat' with_reducible apply And.intro); all_goals first | (with_reducible first | refine OkW.mk ?_ | refine EndW.mk ?_ | apply AskI.id | apply AskGI.id) | (with_reducible apply KOt.mk; kernel_rfl) | exact trivial | rfl | omega | ((try intro _); first | apply R64 <;> omega | apply room_of <;> omega) | skip)
  (refine AskI.ret (h91) ?_; simp only [go_sem]; (repeat' with_reducible apply And.intro); all_goals first | (with_reducible first | refine OkW.mk ?_ | refine EndW.mk ?_ | apply AskI.id | apply AskGI.id) | (with_reducible apply KOt.mk; kernel_rfl) | exact trivial | rfl | omega | ((try intro _); first | apply R64 <;> omega | apply room_of <;> omega) | skip)
  refine Ok.cond rfl ?_ ?_
  · intro hb
    have hb' : boardOk s i = false := by
      unfold boardOk
      revert hb
      cases (isStreet s && inR i 0 (s.bs.length - 1)) <;> simp
    ((first | refine Ok.seqF rfl rfl ?_ | refine Ok.seqT rfl rfl ?_ | refine Ok.regF rfl rfl ?_ | refine Ok.regT rfl rfl ?_); simp only [go_sem]; (repeat' with_reducible apply And.intro); all_goals first | (with_reducible first | refine OkW.mk ?_ | refine EndW.mk ?_ | apply AskI.id | apply AskGI.id) | (with_reducible apply KOt.mk; kernel_rfl) | exact trivial | rfl | omega | ((try intro _); first | apply R64 <;> omega | apply room_of <;> omega) | skip)
    (refine Ok.ret ?_; (try dsimp only [thenK, blockK, noGotoK]); simp only [toList_mk, List.toList_toArray, retK_ret, retK_normal, resOK, resV, celV, rowV, frzAll, frzT, subV, subL, go_sem])
    simp only [hangH, errA, hb']
    exact ⟨.refl _, .refl _, .refl _⟩
  intro hb
  have hb' : boardOk s i = true := by
    unfold boardOk
    revert hb
    cases (isStreet s && inR i 0 (s.bs.length - 1)) <;> simp
  obtain ⟨hok, hi, hbd⟩ := boardOk_spec hb'
  have e1 : hangH s i = bestL more (hangL s (brd s i)) := by simp [hangH, hb']
  have e2 : errA (boardOk s i) = 0 := by simp [errA, hb']
  rw [e1, e2]
  have hl0 := hok.len0
  have hl1 := hok.len1
  (refine Ok.skip ?_; (try dsimp only [thenK, blockK, noGotoK]))
  ((first | refine Ok.seqF rfl rfl ?_ | refine Ok.seqT rfl rfl ?_ | refine Ok.regF rfl rfl ?_ | refine Ok.regT rfl rfl ?_); simp only [go_sem]; (repeat' with_reducible apply And.intro); all_goals first | (with_reducible first | refine OkW.mk ?_ | refine EndW.mk ?_ | apply AskI.id | apply AskGI.id) | (with_reducible apply KOt.mk; kernel_rfl) | exact trivial | rfl | omega | ((try intro _); first | apply R64 <;> omega | apply room_of <;> omega) | skip)
  ((first | refine Ok.seqF rfl rfl ?_ | refine Ok.seqT rfl rfl ?_ | refine Ok.regF rfl rfl ?_ | refine Ok.regT rfl rfl ?_); simp only [go_sem]; (repeat' with_reducible apply And.intro); all_goals first | (with_reducible first | refine OkW.mk ?_ | refine EndW.mk ?_ | apply AskI.id | apply AskGI.id) | (with_reducible apply KOt.mk; kernel_rfl) | exact trivial | rfl | omega | ((try intro _); first | apply R64 <;> omega | apply room_of <;> omega) | skip)
  refine Ok.seq ?_
  ((first | refine Ok.seqF rfl rfl ?_ | refine Ok.seqT rfl rfl ?_ | refine Ok.regF rfl rfl ?_ | refine Ok.regT rfl rfl ?_); simp only [go_sem]; (repeat' with_reducible apply And.intro); all_goals first | (with_reducible first | refine OkW.mk ?_ | refine EndW.mk ?_ | apply AskI.id | apply AskGI.id) | (with_reducible apply KOt.mk; kernel_rfl) | exact trivial | rfl | omega | ((try intro _); first | apply R64 <;> omega | apply room_of <;> omega) | skip)
  refine Ok.block ?_
  obtain ⟨n, hn⟩ : ∃ n : Nat, s.len = n := ⟨s.len.toNat, by omega⟩
  have hH : hangL s (brd s i) = hangN s (brd s i) (n + 1) := by rw [hangL, hn]; rfl
  have hH1 := fun j => hangS_snoc s (brd s i) j
  refine Ok.count (n + 1) (fun j => ⟨[(2, .p 0 0), (7, .p 1 0), (8, .tk 0), (23, iS (s.len + 1)), (24, iS j)], [{ frz := false, xs := [iS s.len, iS s.wid, iS s.el, iS s.eh, iS s.ll, iS s.lh, .d (slD 2 boaD s.bs), .d (slD 5 bloD s.ks)] }, { frz := false, xs := [.any, .d (slD 4 letD (brd s i).ls)] }], [ownD 134 2 hunD (hangN s (brd s i) j)]⟩) (fun _ => True) ⟨trivial, ?_⟩ ?_ ?_
  · (refine Sub.of ([0, 1]) ([none]) ?_ ?_ ?_ rfl rfl <;> simp only [subB, subB1, subT, subT1, newT, subE, subV, subL, go_sem] <;> (try (repeat' with_reducible apply And.intro)) <;> (try first | exact DEq.refl _ | refine DEq.int ?_ | refine DEq.bool ?_ | omega))
    simp [hangN]
  · intro j hj _
    have hS := c92S hok (isBoard_at hbd (j := (j : Int)) (by omega) (by omega))
    ((first | refine Ok.seqF rfl rfl ?_ | refine Ok.seqT rfl rfl ?_ | refine Ok.regF rfl rfl ?_ | refine Ok.regT rfl rfl ?_); simp only [go_sem]; (repeat' with_reducible apply And.intro); all_goals first | (with_reducible first | refine OkW.mk ?_ | refine EndW.mk ?_ | apply AskI.id | apply AskGI.id) | (with_reducible apply KOt.mk; kernel_rfl) | exact trivial | rfl | omega | ((try intro _); first | apply R64 <;> omega | apply room_of <;> omega) | skip)
    refine Ok.seq ?_
    refine Ok.cond rfl (fun _ => ?_) (fun hb => by simp at hb; omega)
    (refine Ok.skip ?_; (try dsimp only [thenK, blockK, noGotoK]))
    refine Ok.seq ?_
    refine Ok.block ?_
    have hlen := hangN_len s (brd s i) j
    ((first | refine Ok.seqF rfl rfl ?_ | refine Ok.seqT rfl rfl ?_ | refine Ok.regF rfl rfl ?_ | refine Ok.regT rfl rfl ?_); simp only [go_sem]; (repeat' with_reducible apply And.intro); all_goals first | (with_reducible first | refine OkW.mk ?_ | refine EndW.mk ?_ | apply AskI.id | apply AskGI.id) | (with_reducible apply KOt.mk; kernel_rfl) | exact trivial | rfl | omega | ((try intro _); first | apply R64 <;> omega | apply room_of <;> omega) | skip)
    ((first | refine Ok.seqF rfl rfl ?_ | refine Ok.seqT rfl rfl ?_ | refine Ok.regF rfl rfl ?_ | refine Ok.regT rfl rfl ?_); simp only [go_sem]; (repeat' with_reducible apply And.intro); all_goals first | (with_reducible first | refine OkW.mk ?_ | refine EndW.mk ?_ | apply AskI.id | apply AskGI.id) | (with_reducible apply KOt.mk; kernel_rfl) | exact trivial | rfl | omega | ((try intro _); first | apply R64 <;> omega | apply room_of <;> omega) | skip)
    ((first | refine Ok.seqF rfl rfl ?_ | refine Ok.seqT rfl rfl ?_ | refine Ok.regF rfl rfl ?_ | refine Ok.regT rfl rfl ?_); simp only [go_sem]; (repeat' with_reducible apply And.intro); all_goals first | (with_reducible first | refine OkW.mk ?_ | refine EndW.mk ?_ | apply AskI.id | apply AskGI.id) | (with_reducible apply KOt.mk; kernel_rfl) | exact trivial | rfl | omega | ((try intro _); first | apply R64 <;> omega | apply room_of <;> omega) | skip)
    (refine AskI.ret (hS _) ?_; simp only [go_sem]; (repeat' with_reducible apply And.intro); all_goals first | (with_reducible first | refine OkW.mk ?_ | refine EndW.mk ?_ | apply AskI.id | apply AskGI.id) | (with_reducible apply KOt.mk; kernel_rfl) | exact trivial | rfl | omega | ((try intro _); first | apply R64 <;> omega | apply room_of <;> omega) | skip)
    (try dsimp only [thenK, blockK, noGotoK])
    ((first | refine Ok.seqF rfl rfl ?_ | refine Ok.seqT rfl rfl ?_ | refine Ok.regF rfl rfl ?_ | refine Ok.regT rfl rfl ?_); simp only [go_sem]; (repeat' with_reducible apply And.intro); all_goals first | (with_reducible first | refine OkW.mk ?_ | refine EndW.mk ?_ | apply AskI.id | apply AskGI.id) | (with_reducible apply KOt.mk; kernel_rfl) | exact trivial | rfl | omega | ((try intro _); first | apply R64 <;> omega | apply room_of <;> omega) | skip)
    (try dsimp only [thenK, blockK, noGotoK])
    refine ⟨trivial, ?_⟩
    (refine Sub.of ([0, 1]) ([some 1]) ?_ ?_ ?_ rfl rfl <;> simp only [subB, subB1, subT, subT1, newT, subE, subV, subL, go_sem] <;> (try (repeat' with_reducible apply And.intro)) <;> (try first | exact DEq.refl _ | refine DEq.int ?_ | refine DEq.bool ?_ | omega))
    · rw [hH1]; simp
    · rw [hH1]
      exact snoc_D (fun c hc => by
        match c, hc with
        | 0, _ => rfl
        | 1, _ => rfl)
  · intro _
    ((first | refine Ok.seqF rfl rfl ?_ | refine Ok.seqT rfl rfl ?_ | refine Ok.regF rfl rfl ?_ | refine Ok.regT rfl rfl ?_); simp only [go_sem]; (repeat' with_reducible apply And.intro); all_goals first | (with_reducible first | refine OkW.mk ?_ | refine EndW.mk ?_ | apply AskI.id | apply AskGI.id) | (with_reducible apply KOt.mk; kernel_rfl) | exact trivial | rfl | omega | ((try intro _); first | apply R64 <;> omega | apply room_of <;> omega) | skip)
    refine Ok.seq ?_
    refine Ok.cond rfl (fun hb => by simp at hb; omega) (fun _ => ?_)
    (refine Ok.exit ?_; simp only [thenK_exit, blockK_exit, noGotoK_exit, thenK_normal, blockK_normal, noGotoK_normal, ↓reduceIte, Nat.reduceEqDiff])
    have hlen := hangN_len s (brd s i) (n + 1)
    ((first | refine Ok.seqF rfl rfl ?_ | refine Ok.seqT rfl rfl ?_ | refine Ok.regF rfl rfl ?_ | refine Ok.regT rfl rfl ?_); simp only [go_sem]; (repeat' with_reducible apply And.intro); all_goals first | (with_reducible first | refine OkW.mk ?_ | refine EndW.mk ?_ | apply AskI.id | apply AskGI.id) | (with_reducible apply KOt.mk; kernel_rfl) | exact trivial | rfl | omega | ((try intro _); first | apply R64 <;> omega | apply room_of <;> omega) | skip)
    rw [hH]
    (refine AskI.ret (c100 (hangN s (brd s i) (n + 1)) 101 0 (fun _ => .nilI) more (fun _ => True) (by omega) (fun _ _ => trivial) (fun x y _ _ => c101 x y) (fun _ _ _ => trivial)) ?_; simp only [go_sem]; (repeat' with_reducible apply And.intro); all_goals first | (with_reducible first | refine OkW.mk ?_ | refine EndW.mk ?_ | apply AskI.id | apply AskGI.id) | (with_reducible apply KOt.mk; kernel_rfl) | exact trivial | rfl | omega | ((try intro _); first | apply R64 <;> omega | apply room_of <;> omega) | skip)
    ((first | refine Ok.seqF rfl rfl ?_ | refine Ok.seqT rfl rfl ?_ | refine Ok.regF rfl rfl ?_ | refine Ok.regT rfl rfl ?_); simp only [go_sem]; (repeat' with_reducible apply And.intro); all_goals first | (with_reducible first | refine OkW.mk ?_ | refine EndW.mk ?_ | apply AskI.id | apply AskGI.id) | (with_reducible apply KOt.mk; kernel_rfl) | exact trivial | rfl | omega | ((try intro _); first | apply R64 <;> omega | apply room_of <;> omega) | skip)
    (refine Ok.ret ?_; (try dsimp only [thenK, blockK, noGotoK]); simp only [toList_mk, List.toList_toArray, retK_ret, retK_normal, resOK, resV, celV, rowV, frzAll, frzT, subV, subL, go_sem])
    ((repeat' with_reducible apply And.intro) <;> (first | exact DEq.refl _ | refine DEq.int ?_ | refine DEq.bool ?_ | skip))
end Go.Proofs.Sight
namespace Go.Proofs.Sight
open Go Go.RX Go.Proofs Go.RowKit
set_option maxRecDepth 100000
theorem st_same {W : World} {B : Nat} {cs : Array Value} {T : TypeId} (h : W.heap[B]? = some (.cells cs T)) (j : Nat) (v : Value) : (W.setCell ⟨B, j, none⟩ v).heap[B]? = some (.cells (cs.setIfInBounds j v) T) := by
  obtain ⟨hlt, hk⟩ := Array.getElem?_eq_some_iff.1 h
  show (W.heap.modify B _)[B]? = _
  rw [Array.getElem?_eq_getElem (by rw [Array.size_modify]; exact hlt), Array.getElem_modify_self, hk]
  rfl
set_option maxHeartbeats 4000000 in
theorem catch_idle (p q : Addr) (w : World) :
    CallsD Tryz.prog 119 #[.pointer (some p), .pointer (some q)] .returning w fun e u' w' => e = .returned (.tuple #[]) ∧ u' = .returning ∧ w' = w := by
  refine callsD_of_wpS Tryz.func119 rfl fun c₀ cs hu => ?_
  have hnil : ∀ w : World, (binOp BinOp.eql 20 .nilIface .nilIface).run Tryz.prog w = .ok (.bool true) w := fun _ => by kernel_rfl
  simp only [Tryz.ntmps119, List.size_toArray, List.length_cons, List.length_nil, Nat.reduceAdd, Nat.reduceSub, Array.replicate_succ, Array.replicate_zero, List.push_toArray, List.append_toArray, List.nil_append, List.cons_append]
  apply wpS_seq
  apply wpS_region
  simp [wpOpsS, go_sem, recoverD, hu, Exit.thenS]
  refine wpS_of_wp ?_
  go_wp2
  cases c₀
  simp_all [bodyPostS, results, Tryz.results119, go_sem]
set_option maxHeartbeats 4000000 in
theorem catch_why (B1 B2 : Nat) (hne : B1 ≠ B2) (a b x y z : Int) (w : World) (h1 : w.heap[B1]? = some (.cells #[.int .i64 x, .int .i64 y] 42)) (h2 : w.heap[B2]? = some (.cells #[.int .i64 z] 33)) :
    CallsD Tryz.prog 119 #[.pointer (some ⟨B1, 0, none⟩), .pointer (some ⟨B2, 0, none⟩)] (.panicking [{ v := .iface 150 (.agg #[.int .i64 a, .int .i64 b]), recovered := false }]) w fun e u' w' => e = .returned (.tuple #[]) ∧ settle u' = .returning ∧
      w'.heap[B1]? = some (.cells #[.int .i64 a, .int .i64 b] 42) ∧ w'.heap[B2]? = some (.cells #[.int .i64 7] 33) ∧ w'.heap.size = w.heap.size + 1 ∧ (∀ k, k < w.heap.size → k ≠ B1 → k ≠ B2 → w'.heap[k]? = w.heap[k]?) ∧ w'.os = w.os ∧ w'.tape = w.tape ∧ w'.output = w.output := by
  refine callsD_of_wpS Tryz.func119 rfl fun c₀ cs hu => ?_
  have hnil : ∀ (v : Value) (w : World), (binOp BinOp.eql 20 (.iface 150 v) .nilIface).run Tryz.prog w = .ok (.bool false) w := fun _ _ => by kernel_rfl
  have hta : ∀ (v : Value) (w : World), (Instr.typeAssert (.iface 150 v) 20 150 true).run Tryz.prog w = .ok (.tuple #[v, .bool true]) w := fun _ _ => by kernel_rfl
  have hA1 := al_old (.cells #[.int .i64 a, .int .i64 b] 150) h1
  have hA2 := al_old (.cells #[.int .i64 a, .int .i64 b] 150) h2
  have g10 := cellAt hA1 0
  have g11 := cellAt hA1 1
  have g20 := cellAt hA2 0
  simp only [List.getElem?_toArray, List.getElem?_cons_zero, List.getElem?_cons_succ] at g10 g11 g20
  have f10 : (w.alloc (.cells #[.int .i64 a, .int .i64 b] 150)).frozen? ⟨B1, 0, none⟩ = false := by simp [World.frozen?, hA1]
  have f11 : (w.alloc (.cells #[.int .i64 a, .int .i64 b] 150)).frozen? ⟨B1, 1, none⟩ = false := by simp [World.frozen?, hA1]
  have f2 : (w.alloc (.cells #[.int .i64 a, .int .i64 b] 150)).frozen? ⟨B2, 0, none⟩ = false := by simp [World.frozen?, hA2]
  simp only [Tryz.ntmps119, List.size_toArray, List.length_cons, List.length_nil, Nat.reduceAdd, Nat.reduceSub, Array.replicate_succ, Array.replicate_zero, List.push_toArray, List.append_toArray, List.nil_append, List.cons_append]
  apply wpS_seq
  apply wpS_region
  simp [wpOpsS, go_sem, recoverD, hu, Exit.thenS]
  refine wpS_of_wp ?_
  go_wp2
  refine ⟨rfl, .panicking [{ v := .iface 150 (.agg #[.int .i64 a, .int .i64 b]), recovered := true }], rfl, .tuple #[], results_none rfl _ _ _, rfl, rfl, ?_⟩
  have s1 := st_same hA1 0 (.int .i64 a)
  have s2 := st_same s1 1 (.int .i64 b)
  have s3 := (Below.heap_setCell _ ⟨B2, 0, none⟩ (.int .i64 7) B1 hne).trans s2
  have t1 := (Below.heap_setCell _ ⟨B1, 0, none⟩ (.int .i64 a) B2 hne.symm).trans hA2
  have t2 := (Below.heap_setCell _ ⟨B1, 1, none⟩ (.int .i64 b) B2 hne.symm).trans t1
  have t3 := st_same t2 0 (.int .i64 7)
  refine ⟨s3, t3, ?_, fun k hk h1 h2 => ?_, rfl, rfl, rfl⟩
  · simp [World.setCell, Array.size_modify]
  · rw [Below.heap_setCell _ _ _ k h2, Below.heap_setCell _ _ _ k h1, Below.heap_setCell _ _ _ k h1, Below.heap_alloc _ _ k hk]
theorem enters_of' {P : Program} {f : FuncId} (h : ∃ fn, P.funcs[f]? = some fn ∧ (fn.name == "runtime.NumGoroutine") = false ∧ fn.body.isNone = false) (args : Array Value) (w : World) : (callFunc f args).run P w = .ok (.enter f args) w := by
  obtain ⟨fn, h1, h2, h3⟩ := h
  have h4 : fn.name ≠ "runtime.NumGoroutine" := by simpa using h2
  cases hb : fn.body with
  | none => rw [hb] at h3; cases h3
  | some c => simp [callFunc, h1, h4, hb, mark]
theorem bm_vals {I : Nat → Prop} {w : World} {v : Value} {f n : Nat} {c : Nat → DV} (h : Rep I w v (.bm f n c)) : ∃ us : Array Value, v = .func (.func f) #[.agg us] #[] ∧ us.size = n ∧ (∀ u ∈ us, u.oneCell' = true) ∧ ∀ (j : Nat) (u : Value), us[j]? = some u → Rep I w u (c j) := by
  cases h with
  | bm hl h1 hr => exact ⟨_, rfl, hl, h1, hr⟩
theorem take_at (c : Nat → DV) : ∀ (n j i : Nat) (x : SV), (take c j n)[i]? = some x → i < n ∧ x = .d (c (j + i))
  | 0, j, i, x, h => by simp [take] at h
  | n + 1, j, 0, x, h => by simp [take] at h; exact ⟨by omega, by simpa using h.symm⟩
  | n + 1, j, i + 1, x, h => by
    simp [take] at h
    obtain ⟨h1, h2⟩ := take_at c n (j + 1) i x h
    exact ⟨by omega, by rw [h2]; congr 2; omega⟩
theorem bm_args {I : Nat → Prop} {w : World} {us : Array Value} {n : Nat} {c : Nat → DV} (hl : us.size = n) (h1 : ∀ u ∈ us, u.oneCell' = true) (hr : ∀ (j : Nat) (u : Value), us[j]? = some u → Rep I w u (c j)) : RepS I w (.agg us) (.agg (take c 0 n)) := by
  intro Y
  refine .agg ?_ (fun j u x hu hx => ?_) h1
  · rw [hl]
    have : ∀ n j, (take c j n).length = n := fun n => by
      induction n with
      | zero => intro j; rfl
      | succ n ih => intro j; simp [take, ih]
    exact (this n 0).symm
  · obtain ⟨_, rfl⟩ := take_at c n 0 j x hx
    rw [Nat.zero_add]
    exact .d (hr j u hu)
theorem why_rep (I : Nat → Prop) (w : World) (a b e : Int) : RepS I w (.tuple #[.agg #[.int .i64 a, .int .i64 b], .int .i64 e]) (.tup [.agg [iS a, iS b], iS e]) := by
  intro Y
  refine .tup rfl (fun j u x hu hx => ?_)
  match j, hu, hx with
  | 0, hu, hx =>
    simp at hu hx; subst hu; subst hx
    exact Fits.reps (cs := [.int .i64 a, .int .i64 b]) (xs := [iD a, iD b]) (.cons .int (.cons .int .nil)) Y
  | 1, hu, hx => simp at hu hx; subst hu; subst hx; exact .d .int
  | j + 2, hu, hx => simp at hu
theorem ifc_vals {I : Nat → Prop} {w : World} {v : Value} {a b : Int} (h : Rep I w v (.ifc 150 2 (dget [iD a, iD b]))) : v = .iface 150 (.agg #[.int .i64 a, .int .i64 b]) := by
  cases h with
  | @ifc t n c us hl hr =>
    obtain ⟨l⟩ := us
    match l, hl with
    | [x, y], _ =>
      have h0 := hr 0 x rfl
      have h1 := hr 1 y rfl
      change Rep I w x (iD a) at h0
      change Rep I w y (iD b) at h1
      cases h0; cases h1; rfl
set_option maxHeartbeats 4000000 in
theorem c76_ok (f n : Nat) (c : Nat → DV) (hf : Ctr Tryz.prog f [.agg (take c 0 n)] (.tup [])) : Ctr Tryz.prog 76 [.d (.bm f n c)] (.tup [.agg [iS 0, iS 0], iS 0]) := by
  refine ⟨⟨Tryz.f76, Tryz.func76, rfl, rfl⟩, fun I w vs hG hI hsz hrep => ?_⟩
  obtain ⟨v0, rfl⟩ : ∃ v0, vs = #[v0] := by
    obtain ⟨l⟩ := vs
    match l, hsz with
    | [a], _ => exact ⟨a, rfl⟩
  obtain ⟨us, rfl, hl, h1, hr⟩ := bm_vals (RepS.rep (hrep 0 v0 _ rfl rfl))
  have hmf : ∀ (fn : Fn) (first cap : Array Value) (w : World), (Instr.makeFunc fn first cap).run Tryz.prog w = .ok (.func fn first cap) w := fun _ _ _ _ => rfl
  have he := enters_of' hf.1
  refine calls_of_wp_defers Tryz.func76 rfl ?_
  simp only [Tryz.ntmps76, List.size_toArray, List.length_cons, List.length_nil, Nat.reduceAdd, Nat.reduceSub, Array.replicate_succ, Array.replicate_zero, List.push_toArray, List.append_toArray, List.nil_append, List.cons_append]
  go_wp2
  obtain ⟨W2, hW2⟩ : ∃ W2, (w.alloc (.cells #[.int .i64 0, .int .i64 0] 42)).alloc (.cells #[.int .i64 0] 33) = W2 := ⟨_, rfl⟩
  have k0 : W2.heap[w.heap.size]? = some (.cells #[.int .i64 0, .int .i64 0] 42) := by rw [← hW2]; exact al_old _ (al_new _ rfl)
  have k1 : W2.heap[w.heap.size + 1]? = some (.cells #[.int .i64 0] 33) := by rw [← hW2]; exact al_new _ (al_sz _ rfl)
  have hB2 : Below w.heap.size w W2 := by rw [← hW2]; exact ((Below.refl _ w).alloc (Nat.le_refl _) _).alloc (by simp) _
  have hz2 : W2.heap.size = w.heap.size + 1 + 1 := by rw [← hW2]; exact al_sz _ (al_sz _ rfl)
  rw [hW2]
  have hargs := bm_args hl h1 (fun j u hu => (hr j u hu).mono (I' := I) (fun _ h => h) (fun k hk => hB2.block k (hI k hk)))
  have hcall := hf.2 I W2 #[.agg us] (Tabs.st _ _ hG hB2) (fun k hk => Nat.lt_of_lt_of_le (hI k hk) hB2.size) rfl (fun j u y hu hy => by
    cases j with
    | zero => simp at hu hy; subst hu; subst hy; exact hargs
    | succ j => simp at hy)
  refine hcall.mono ?_
  rintro e w1 ⟨v, rfl, hv, hB1⟩
  have g0 := cellAt ((hB1.block _ (by omega)).trans k0)
  have g00 := g0 0
  have g01 := g0 1
  have g10 := cellAt ((hB1.block _ (by omega)).trans k1) 0
  clear g0
  simp only [List.getElem?_toArray, List.getElem?_cons_zero, List.getElem?_cons_succ] at g00 g01 g10
  have f0 : ∀ o, w1.frozen? ⟨w.heap.size, o, none⟩ = false := fun o => by simp [World.frozen?, (hB1.block _ (by omega)).trans k0]
  have f1 : ∀ o, w1.frozen? ⟨w.heap.size + 1, o, none⟩ = false := fun o => by simp [World.frozen?, (hB1.block _ (by omega)).trans k1]
  go_wp2
  have hk0 := (hB1.block _ (by omega)).trans k0
  have hk1 := (hB1.block _ (by omega)).trans k1
  have hne : w.heap.size ≠ w.heap.size + 1 := by omega
  obtain ⟨W3, hW3⟩ : ∃ W3, ((w1.setCell ⟨w.heap.size, 0, none⟩ (.int .i64 0)).setCell ⟨w.heap.size, 1, none⟩ (.int .i64 0)).setCell ⟨w.heap.size + 1, 0, none⟩ (.int .i64 0) = W3 := ⟨_, rfl⟩
  have m0 : W3.heap[w.heap.size]? = some (.cells #[.int .i64 0, .int .i64 0] 42) := by
    rw [← hW3]; exact (Below.heap_setCell _ ⟨w.heap.size + 1, 0, none⟩ _ _ hne).trans (st_same (st_same hk0 0 _) 1 _)
  have m1 : W3.heap[w.heap.size + 1]? = some (.cells #[.int .i64 0] 33) := by
    rw [← hW3]; exact st_same ((Below.heap_setCell _ ⟨w.heap.size, 1, none⟩ _ _ hne.symm).trans ((Below.heap_setCell _ ⟨w.heap.size, 0, none⟩ _ _ hne.symm).trans hk1)) 0 _
  have hB3 : Below w.heap.size w W3 := by
    rw [← hW3]
    exact (((hB2.trans (hB1.mono (by omega))).setCell (p := ⟨w.heap.size, 0, none⟩) (Nat.le_refl _) _).setCell (p := ⟨w.heap.size, 1, none⟩) (Nat.le_refl _) _).setCell (p := ⟨w.heap.size + 1, 0, none⟩) (by simp) _
  rw [hW3]
  refine leaves_cons (f := 119) (args := #[.pointer (some ⟨w.heap.size, 0, none⟩), .pointer (some ⟨w.heap.size + 1, 0, none⟩)]) (by simp) (by simp [go_sem]) ?_
  refine (catch_idle ⟨w.heap.size, 0, none⟩ ⟨w.heap.size + 1, 0, none⟩ _).mono ?_
  rintro e u' w'' ⟨rfl, rfl, rfl⟩
  have q0 := cellAt m0
  have q00 := q0 0
  have q01 := q0 1
  have q10 := cellAt m1 0
  clear q0
  simp only [List.getElem?_toArray, List.getElem?_cons_zero, List.getElem?_cons_succ] at q00 q01 q10
  simp [Leaves, settle, results, Tryz.results76, go_sem, q00, q01, q10]
  exact ⟨why_rep _ _ _ _ _, hB3⟩
set_option maxHeartbeats 4000000 in
theorem c76_why (f n : Nat) (c : Nat → DV) (a b : Int) (hf : CtrP Tryz.prog f [.agg (take c 0 n)] (.ifc 150 2 (dget [iD a, iD b]))) : Ctr Tryz.prog 76 [.d (.bm f n c)] (.tup [.agg [iS a, iS b], iS 7]) := by
  refine ⟨⟨Tryz.f76, Tryz.func76, rfl, rfl⟩, fun I w vs hG hI hsz hrep => ?_⟩
  obtain ⟨v0, rfl⟩ : ∃ v0, vs = #[v0] := by
    obtain ⟨l⟩ := vs
    match l, hsz with
    | [a], _ => exact ⟨a, rfl⟩
  obtain ⟨us, rfl, hl, h1, hr⟩ := bm_vals (RepS.rep (hrep 0 v0 _ rfl rfl))
  have hmf : ∀ (fn : Fn) (first cap : Array Value) (w : World), (Instr.makeFunc fn first cap).run Tryz.prog w = .ok (.func fn first cap) w := fun _ _ _ _ => rfl
  have he := enters_of' hf.1
  refine calls_of_wp_defers Tryz.func76 rfl ?_
  simp only [Tryz.ntmps76, List.size_toArray, List.length_cons, List.length_nil, Nat.reduceAdd, Nat.reduceSub, Array.replicate_succ, Array.replicate_zero, List.push_toArray, List.append_toArray, List.nil_append, List.cons_append]
  go_wp2
  obtain ⟨W2, hW2⟩ : ∃ W2, (w.alloc (.cells #[.int .i64 0, .int .i64 0] 42)).alloc (.cells #[.int .i64 0] 33) = W2 := ⟨_, rfl⟩
  have k0 : W2.heap[w.heap.size]? = some (.cells #[.int .i64 0, .int .i64 0] 42) := by rw [← hW2]; exact al_old _ (al_new _ rfl)
  have k1 : W2.heap[w.heap.size + 1]? = some (.cells #[.int .i64 0] 33) := by rw [← hW2]; exact al_new _ (al_sz _ rfl)
  have hB2 : Below w.heap.size w W2 := by rw [← hW2]; exact ((Below.refl _ w).alloc (Nat.le_refl _) _).alloc (by simp) _
  have hz2 : W2.heap.size = w.heap.size + 1 + 1 := by rw [← hW2]; exact al_sz _ (al_sz _ rfl)
  rw [hW2]
  have hargs := bm_args hl h1 (fun j u hu => (hr j u hu).mono (I' := I) (fun _ h => h) (fun k hk => hB2.block k (hI k hk)))
  have hcall := hf.2 I W2 #[.agg us] (Tabs.st _ _ hG hB2) (fun k hk => Nat.lt_of_lt_of_le (hI k hk) hB2.size) rfl (fun j u y hu hy => by
    cases j with
    | zero => simp at hu hy; subst hu; subst hy; exact hargs
    | succ j => simp at hy)
  refine hcall.mono ?_
  rintro e w1 ⟨v, I', rfl, hI1, hI2, hv, hB1⟩
  obtain rfl : v = .iface 150 (.agg #[.int .i64 a, .int .i64 b]) := ifc_vals hv
  have hk0 := (hB1.block _ (by omega)).trans k0
  have hk1 := (hB1.block _ (by omega)).trans k1
  have hne : w.heap.size ≠ w.heap.size + 1 := by omega
  have hsz1 := hB1.size
  refine leaves_cons (f := 119) (args := #[.pointer (some ⟨w.heap.size, 0, none⟩), .pointer (some ⟨w.heap.size + 1, 0, none⟩)]) (by simp) (by simp [go_sem]) ?_
  refine (catch_why w.heap.size (w.heap.size + 1) hne a b 0 0 0 _ hk0 hk1).mono ?_
  rintro e u' w'' ⟨rfl, hset, m0, m1, hz, hkk, ho, ht, hout⟩
  have q0 := cellAt m0
  have q00 := q0 0
  have q01 := q0 1
  have q10 := cellAt m1 0
  clear q0
  simp only [List.getElem?_toArray, List.getElem?_cons_zero, List.getElem?_cons_succ] at q00 q01 q10
  simp only [hset]
  simp [Leaves, results, Tryz.results76, go_sem, q00, q01, q10]
  refine ⟨why_rep _ _ _ _ _, ?_⟩
  refine (hB2.trans (hB1.mono (by omega))).trans ⟨ho, ht, hout, by omega, fun k hk => hkk k (by omega) (by omega) (by omega)⟩
end Go.Proofs.Sight
namespace Go.Proofs.Sight
open Go Go.RX Go.Proofs
set_option maxRecDepth 10000
def whyL (L : Look) : Option (Int × Int) := faultL L (L.s.el * L.s.ll) (fun _ => true)
theorem c77_ok (L : Look) (hL : L.good) (h : whyL L = none) : Ctr Tryz.prog 77 [L.sv] (.tup []) := by
  obtain ⟨p0, p1⟩ := pow_least hL.fine
  have h116 := c116 L hL _ p0 p1 117 (fun _ => true) (fun k => c117 k)
  unfold whyL at h
  rw [h] at h116
  (refine Ctr.mk (fn := Tryz.f77) rfl rfl rfl rfl rfl Tryz.results77 ?_; dsimp only [args, List.toList_toArray])
  ((first | refine Ok.seqF rfl rfl ?_ | refine Ok.seqT rfl rfl ?_ | refine Ok.regF rfl rfl ?_ | refine Ok.regT rfl rfl ?_); simp only [go_sem]; (repeat' with_reducible apply And.intro); all_goals first | (with_reducible first | refine OkW.mk ?_ | refine EndW.mk ?_ | apply AskI.id | apply AskGI.id) | (with_reducible apply KOt.mk; kernel_rfl) | exact trivial | rfl | omega | ((try intro _); first | apply R64 <;> omega | apply room_of <;> omega) | skip)
  ((first | refine Ok.seqF rfl rfl ?_ | refine Ok.seqT rfl rfl ?_ | refine Ok.regF rfl rfl ?_ | refine Ok.regT rfl rfl ?_); simp only [go_sem]; (repeat' with_reducible apply And.intro); all_goals first | (with_reducible first | refine OkW.mk ?_ | refine EndW.mk ?_ | apply AskI.id | apply AskGI.id) | (with_reducible apply KOt.mk; kernel_rfl) | exact trivial | rfl | omega | ((try intro _); first | apply R64 <;> omega | apply room_of <;> omega) | skip)
  (refine AskI.ret (c84 L hL.fine) ?_; simp only [go_sem]; (repeat' with_reducible apply And.intro); all_goals first | (with_reducible first | refine OkW.mk ?_ | refine EndW.mk ?_ | apply AskI.id | apply AskGI.id) | (with_reducible apply KOt.mk; kernel_rfl) | exact trivial | rfl | omega | ((try intro _); first | apply R64 <;> omega | apply room_of <;> omega) | skip)
  (refine AskI.ret (h116) ?_; simp only [go_sem]; (repeat' with_reducible apply And.intro); all_goals first | (with_reducible first | refine OkW.mk ?_ | refine EndW.mk ?_ | apply AskI.id | apply AskGI.id) | (with_reducible apply KOt.mk; kernel_rfl) | exact trivial | rfl | omega | ((try intro _); first | apply R64 <;> omega | apply room_of <;> omega) | skip)
  refine Ok.seq ?_
  ((first | refine Ok.seqF rfl rfl ?_ | refine Ok.seqT rfl rfl ?_ | refine Ok.regF rfl rfl ?_ | refine Ok.regT rfl rfl ?_); simp only [go_sem]; (repeat' with_reducible apply And.intro); all_goals first | (with_reducible first | refine OkW.mk ?_ | refine EndW.mk ?_ | apply AskI.id | apply AskGI.id) | (with_reducible apply KOt.mk; kernel_rfl) | exact trivial | rfl | omega | ((try intro _); first | apply R64 <;> omega | apply room_of <;> omega) | skip)
  refine Ok.cond (b := false) (by first | rfl | (simp only [go_sem]; rfl)) (fun hb => by cases hb) (fun _ => ?_)
  (refine Ok.skip ?_; (try dsimp only [thenK, blockK, noGotoK]))
  ((try dsimp only [thenK, blockK, noGotoK]); simp only [toList_mk, List.toList_toArray, retK_ret, retK_normal, resOK, resV, celV, rowV, frzAll, frzT, subV, subL, go_sem])
theorem c77_why (L : Look) (hL : L.good) (k i : Int) (h : whyL L = some (k, i)) : CtrP Tryz.prog 77 [L.sv] (.ifc 150 2 (dget [iD k, iD i])) := by
  obtain ⟨p0, p1⟩ := pow_least hL.fine
  have h116 := c116 L hL _ p0 p1 117 (fun _ => true) (fun k => c117 k)
  unfold whyL at h
  rw [h] at h116
  (refine CtrP.mk (fn := Tryz.f77) rfl rfl rfl rfl rfl ?_; dsimp only [args])
  ((first | refine Ok.seqF rfl rfl ?_ | refine Ok.seqT rfl rfl ?_ | refine Ok.regF rfl rfl ?_ | refine Ok.regT rfl rfl ?_); simp only [go_sem]; (repeat' with_reducible apply And.intro); all_goals first | (with_reducible first | refine OkW.mk ?_ | refine EndW.mk ?_ | apply AskI.id | apply AskGI.id) | (with_reducible apply KOt.mk; kernel_rfl) | exact trivial | rfl | omega | ((try intro _); first | apply R64 <;> omega | apply room_of <;> omega) | skip)
  ((first | refine Ok.seqF rfl rfl ?_ | refine Ok.seqT rfl rfl ?_ | refine Ok.regF rfl rfl ?_ | refine Ok.regT rfl rfl ?_); simp only [go_sem]; (repeat' with_reducible apply And.intro); all_goals first | (with_reducible first | refine OkW.mk ?_ | refine EndW.mk ?_ | apply AskI.id | apply AskGI.id) | (with_reducible apply KOt.mk; kernel_rfl) | exact trivial | rfl | omega | ((try intro _); first | apply R64 <;> omega | apply room_of <;> omega) | skip)
  (refine AskI.ret (c84 L hL.fine) ?_; simp only [go_sem]; (repeat' with_reducible apply And.intro); all_goals first | (with_reducible first | refine OkW.mk ?_ | refine EndW.mk ?_ | apply AskI.id | apply AskGI.id) | (with_reducible apply KOt.mk; kernel_rfl) | exact trivial | rfl | omega | ((try intro _); first | apply R64 <;> omega | apply room_of <;> omega) | skip)
  (refine AskI.ret (h116) ?_; simp only [go_sem]; (repeat' with_reducible apply And.intro); all_goals first | (with_reducible first | refine OkW.mk ?_ | refine EndW.mk ?_ | apply AskI.id | apply AskGI.id) | (with_reducible apply KOt.mk; kernel_rfl) | exact trivial | rfl | omega | ((try intro _); first | apply R64 <;> omega | apply room_of <;> omega) | skip)
  refine Ok.seq ?_
  ((first | refine Ok.seqF rfl rfl ?_ | refine Ok.seqT rfl rfl ?_ | refine Ok.regF rfl rfl ?_ | refine Ok.regT rfl rfl ?_); simp only [go_sem]; (repeat' with_reducible apply And.intro); all_goals first | (with_reducible first | refine OkW.mk ?_ | refine EndW.mk ?_ | apply AskI.id | apply AskGI.id) | (with_reducible apply KOt.mk; kernel_rfl) | exact trivial | rfl | omega | ((try intro _); first | apply R64 <;> omega | apply room_of <;> omega) | skip)
  refine Ok.cond (b := true) (by first | rfl | (simp only [go_sem]; rfl)) (fun _ => ?_) (fun hb => by cases hb)
  ((first | refine Ok.seqF rfl rfl ?_ | refine Ok.seqT rfl rfl ?_ | refine Ok.regF rfl rfl ?_ | refine Ok.regT rfl rfl ?_); simp only [go_sem]; (repeat' with_reducible apply And.intro); all_goals first | (with_reducible first | refine OkW.mk ?_ | refine EndW.mk ?_ | apply AskI.id | apply AskGI.id) | (with_reducible apply KOt.mk; kernel_rfl) | exact trivial | rfl | omega | ((try intro _); first | apply R64 <;> omega | apply room_of <;> omega) | skip)
  exact .refl _
def whyK (s : Street) (i : Int) (p : Place) : Int := if lookOk s i p then (match whyL (lookOf s i p) with | some (k, _) => k | none => 0) else 0
def whyI (s : Street) (i : Int) (p : Place) : Int := if lookOk s i p then (match whyL (lookOf s i p) with | some (_, j) => j | none => 0) else 0
def whyE (s : Street) (i : Int) (p : Place) : Int := if lookOk s i p then (match whyL (lookOf s i p) with | some _ => 0 | none => 5) else 2
theorem c29 (s : Street) (hs : s.fit) (i : Int) (p : Place) : Ctr Tryz.prog 29 [s.sv, iS i, p.sv] (.tup [.agg [iS (whyK s i p), iS (whyI s i p)], iS (whyE s i p)]) := by
  have h72 := c72 s hs i p
  (refine Ctr.mk (fn := Tryz.f29) rfl rfl rfl rfl rfl Tryz.results29 ?_; dsimp only [args, List.toList_toArray])
  ((first | refine Ok.seqF rfl rfl ?_ | refine Ok.seqT rfl rfl ?_ | refine Ok.regF rfl rfl ?_ | refine Ok.regT rfl rfl ?_); simp only [go_sem]; (repeat' with_reducible apply And.intro); all_goals first | (with_reducible first | refine OkW.mk ?_ | refine EndW.mk ?_ | apply AskI.id | apply AskGI.id) | (with_reducible apply KOt.mk; kernel_rfl) | exact trivial | rfl | omega | ((try intro _); first | apply R64 <;> omega | apply room_of <;> omega) | skip)
  refine Ok.seq ?_
  ((first | refine Ok.seqF rfl rfl ?_ | refine Ok.seqT rfl rfl ?_ | refine Ok.regF rfl rfl ?_ | refine Ok.regT rfl rfl ?_); simp only [go_sem]; (repeat' with_reducible apply And.intro); all_goals first | (with_reducible first | refine OkW.mk ?_ | refine EndW.mk ?_ | apply AskI.id | apply AskGI.id) | (with_reducible apply KOt.mk; kernel_rfl) | exact trivial | rfl | omega | ((try intro _); first | apply R64 <;> omega | apply room_of <;> omega) | skip)
  (refine AskI.ret (h72) ?_; simp only [go_sem]; (repeat' with_reducible apply And.intro); all_goals first | (with_reducible first | refine OkW.mk ?_ | refine EndW.mk ?_ | apply AskI.id | apply AskGI.id) | (with_reducible apply KOt.mk; kernel_rfl) | exact trivial | rfl | omega | ((try intro _); first | apply R64 <;> omega | apply room_of <;> omega) | skip)
  refine Ok.seq ?_
  ((first | refine Ok.seqF rfl rfl ?_ | refine Ok.seqT rfl rfl ?_ | refine Ok.regF rfl rfl ?_ | refine Ok.regT rfl rfl ?_); simp only [go_sem]; (repeat' with_reducible apply And.intro); all_goals first | (with_reducible first | refine OkW.mk ?_ | refine EndW.mk ?_ | apply AskI.id | apply AskGI.id) | (with_reducible apply KOt.mk; kernel_rfl) | exact trivial | rfl | omega | ((try intro _); first | apply R64 <;> omega | apply room_of <;> omega) | skip)
  refine Ok.cond rfl ?_ ?_
  · intro hb
    simp only [Bool.not_eq_true'] at hb
    ((first | refine Ok.seqF rfl rfl ?_ | refine Ok.seqT rfl rfl ?_ | refine Ok.regF rfl rfl ?_ | refine Ok.regT rfl rfl ?_); simp only [go_sem]; (repeat' with_reducible apply And.intro); all_goals first | (with_reducible first | refine OkW.mk ?_ | refine EndW.mk ?_ | apply AskI.id | apply AskGI.id) | (with_reducible apply KOt.mk; kernel_rfl) | exact trivial | rfl | omega | ((try intro _); first | apply R64 <;> omega | apply room_of <;> omega) | skip)
    (refine Ok.ret ?_; (try dsimp only [thenK, blockK, noGotoK]); simp only [toList_mk, List.toList_toArray, retK_ret, retK_normal, resOK, resV, celV, rowV, frzAll, frzT, subV, subL, go_sem])
    simp only [whyK, whyI, whyE, hb]
    exact ⟨⟨.refl _, .refl _⟩, .refl _⟩
  intro hb
  simp only [Bool.not_eq_false'] at hb
  obtain ⟨_, _, _, _, hg⟩ := lookOk_spec hb
  simp only [whyK, whyI, whyE, hb, if_true]
  generalize lookOf s i p = L at hg ⊢
  cases hw : whyL L with
  | none =>
    have h77 := c77_ok L hg hw
    (refine Ok.skip ?_; (try dsimp only [thenK, blockK, noGotoK]))
    ((first | refine Ok.seqF rfl rfl ?_ | refine Ok.seqT rfl rfl ?_ | refine Ok.regF rfl rfl ?_ | refine Ok.regT rfl rfl ?_); simp only [go_sem]; (repeat' with_reducible apply And.intro); all_goals first | (with_reducible first | refine OkW.mk ?_ | refine EndW.mk ?_ | apply AskI.id | apply AskGI.id) | (with_reducible apply KOt.mk; kernel_rfl) | exact trivial | rfl | omega | ((try intro _); first | apply R64 <;> omega | apply room_of <;> omega) | skip)
    (refine AskI.ret (c76_ok 77 12 _ h77) ?_; simp only [go_sem]; (repeat' with_reducible apply And.intro); all_goals first | (with_reducible first | refine OkW.mk ?_ | refine EndW.mk ?_ | apply AskI.id | apply AskGI.id) | (with_reducible apply KOt.mk; kernel_rfl) | exact trivial | rfl | omega | ((try intro _); first | apply R64 <;> omega | apply room_of <;> omega) | skip)
    refine Ok.seq ?_
    ((first | refine Ok.seqF rfl rfl ?_ | refine Ok.seqT rfl rfl ?_ | refine Ok.regF rfl rfl ?_ | refine Ok.regT rfl rfl ?_); simp only [go_sem]; (repeat' with_reducible apply And.intro); all_goals first | (with_reducible first | refine OkW.mk ?_ | refine EndW.mk ?_ | apply AskI.id | apply AskGI.id) | (with_reducible apply KOt.mk; kernel_rfl) | exact trivial | rfl | omega | ((try intro _); first | apply R64 <;> omega | apply room_of <;> omega) | skip)
    refine Ok.cond (b := true) (by first | rfl | (simp only [go_sem]; rfl)) (fun _ => ?_) (fun hb => by cases hb)
    ((first | refine Ok.seqF rfl rfl ?_ | refine Ok.seqT rfl rfl ?_ | refine Ok.regF rfl rfl ?_ | refine Ok.regT rfl rfl ?_); simp only [go_sem]; (repeat' with_reducible apply And.intro); all_goals first | (with_reducible first | refine OkW.mk ?_ | refine EndW.mk ?_ | apply AskI.id | apply AskGI.id) | (with_reducible apply KOt.mk; kernel_rfl) | exact trivial | rfl | omega | ((try intro _); first | apply R64 <;> omega | apply room_of <;> omega) | skip)
    (refine Ok.ret ?_; (try dsimp only [thenK, blockK, noGotoK]); simp only [toList_mk, List.toList_toArray, retK_ret, retK_normal, resOK, resV, celV, rowV, frzAll, frzT, subV, subL, go_sem])
    ((repeat' with_reducible apply And.intro) <;> (first | exact DEq.refl _ | refine DEq.int ?_ | refine DEq.bool ?_ | skip))
  | some x =>
    obtain ⟨k, j⟩ := x
    have h77 := c77_why L hg k j hw
    (refine Ok.skip ?_; (try dsimp only [thenK, blockK, noGotoK]))
    ((first | refine Ok.seqF rfl rfl ?_ | refine Ok.seqT rfl rfl ?_ | refine Ok.regF rfl rfl ?_ | refine Ok.regT rfl rfl ?_); simp only [go_sem]; (repeat' with_reducible apply And.intro); all_goals first | (with_reducible first | refine OkW.mk ?_ | refine EndW.mk ?_ | apply AskI.id | apply AskGI.id) | (with_reducible apply KOt.mk; kernel_rfl) | exact trivial | rfl | omega | ((try intro _); first | apply R64 <;> omega | apply room_of <;> omega) | skip)
    (refine AskI.ret (c76_why 77 12 _ k j h77) ?_; simp only [go_sem]; (repeat' with_reducible apply And.intro); all_goals first | (with_reducible first | refine OkW.mk ?_ | refine EndW.mk ?_ | apply AskI.id | apply AskGI.id) | (with_reducible apply KOt.mk; kernel_rfl) | exact trivial | rfl | omega | ((try intro _); first | apply R64 <;> omega | apply room_of <;> omega) | skip)
    refine Ok.seq ?_
    ((first | refine Ok.seqF rfl rfl ?_ | refine Ok.seqT rfl rfl ?_ | refine Ok.regF rfl rfl ?_ | refine Ok.regT rfl rfl ?_); simp only [go_sem]; (repeat' with_reducible apply And.intro); all_goals first | (with_reducible first | refine OkW.mk ?_ | refine EndW.mk ?_ | apply AskI.id | apply AskGI.id) | (with_reducible apply KOt.mk; kernel_rfl) | exact trivial | rfl | omega | ((try intro _); first | apply R64 <;> omega | apply room_of <;> omega) | skip)
    refine Ok.cond (b := false) (by first | rfl | (simp only [go_sem]; rfl)) (fun hb => by cases hb) (fun _ => ?_)
    (refine Ok.skip ?_; (try dsimp only [thenK, blockK, noGotoK]))
    ((first | refine Ok.seqF rfl rfl ?_ | refine Ok.seqT rfl rfl ?_ | refine Ok.regF rfl rfl ?_ | refine Ok.regT rfl rfl ?_); simp only [go_sem]; (repeat' with_reducible apply And.intro); all_goals first | (with_reducible first | refine OkW.mk ?_ | refine EndW.mk ?_ | apply AskI.id | apply AskGI.id) | (with_reducible apply KOt.mk; kernel_rfl) | exact trivial | rfl | omega | ((try intro _); first | apply R64 <;> omega | apply room_of <;> omega) | skip)
    (refine Ok.ret ?_; (try dsimp only [thenK, blockK, noGotoK]); simp only [toList_mk, List.toList_toArray, retK_ret, retK_normal, resOK, resV, celV, rowV, frzAll, frzT, subV, subL, go_sem])
    ((repeat' with_reducible apply And.intro) <;> (first | exact DEq.refl _ | refine DEq.int ?_ | refine DEq.bool ?_ | skip))
end Go.Proofs.Sight
namespace Go.Proofs.Sight
open Go Go.RX Go.Proofs
theorem fx_none {α : Type} {q : α → Bool} {l : List α} : l.findIdx? q = none ↔ ∀ x ∈ l, q x = false := List.findIdx?_eq_none_iff
def clearL (L : Look) (n : Int) : Prop := (∀ x ∈ L.b.ls, tall L x n = true ∧ broad L x n = true ∧ thick L x n = true) ∧ ∀ x ∈ L.b.ls.take (L.b.ls.length - 1), apart L x n = true
theorem five_none (a b c d e : Option Nat) : (match a with
  | some i => some ((1 : Int), (i : Int))
  | none => match b with
    | some i => some (2, (i : Int))
    | none => match c with
      | some i => some (3, (i : Int))
      | none => match d with
        | some i => some (4, (i : Int))
        | none => match e with
          | some i => some (5, (i : Int))
          | none => none) = none ↔ a = none ∧ b = none ∧ c = none ∧ d = none ∧ e = none := by
  cases a <;> cases b <;> cases c <;> cases d <;> cases e <;> simp
theorem faultL_none (L : Look) (n : Int) (q : Block → Bool) : faultL L n q = none ↔ (∀ k ∈ L.s.ks, (q k && hides L k) = false) ∧ clearL L n := by
  refine (five_none _ _ _ _ _).trans ?_
  simp only [fx_none, clearL, Bool.not_eq_eq_eq_not, Bool.not_false]
  constructor
  · rintro ⟨h1, h2, h3, h4, h5⟩
    exact ⟨h1, fun x hx => ⟨h2 x hx, h3 x hx, h4 x hx⟩, h5⟩
  · rintro ⟨h1, h2, h5⟩
    exact ⟨h1, fun x hx => (h2 x hx).1, fun x hx => (h2 x hx).2.1, fun x hx => (h2 x hx).2.2, h5⟩
theorem surely_iff (L : Look) : surelyL L = true ↔ (∀ k ∈ L.s.ks, hides L k = false) ∧ clearL L (L.s.el * L.s.ll) := by
  have h := faultL_none L (L.s.el * L.s.ll) (fun _ => true)
  simp only [Bool.true_and] at h
  rw [← h, surelyL]
  cases faultL L (L.s.el * L.s.ll) (fun _ => true) <;> simp
theorem may_iff (L : Look) : mayL L = true ↔ (∀ k ∈ L.s.ks, (k.sure && hides L k) = false) ∧ clearL L (L.s.eh * L.s.lh) := by
  have h := faultL_none L (L.s.eh * L.s.lh) (fun k => k.sure)
  rw [← h, mayL]
  cases faultL L (L.s.eh * L.s.lh) (fun k => k.sure) <;> simp
structure Letter.leq (x y : Letter) : Prop where
  h : x.h ≤ y.h
  w : x.w ≤ y.w
  s : x.s ≤ y.s
  p : x.p ≤ y.p
theorem Letter.leq.refl (x : Letter) : x.leq x := ⟨Int.le_refl _, Int.le_refl _, Int.le_refl _, Int.le_refl _⟩
theorem mul_le2 {a b c d : Int} (h1 : a ≤ b) (h2 : c ≤ d) (h3 : 0 ≤ a) (h4 : 0 ≤ c) : a * c ≤ b * d := Int.mul_le_mul h1 h2 h4 (by omega)
section
variable {L L' : Look} {x y : Letter} {n m : Int}
theorem tall_mono (hf : far L'.b.at_ L'.p = far L.b.at_ L.p) (hx : x.fine) (hxy : x.leq y) (hn : 0 ≤ n) (h : n ≤ m) (ht : tall L x n = true) : tall L' y m = true := by
  simp only [tall, decide_eq_true_eq] at ht ⊢
  have e1 := mul_le2 hxy.h h hx.h0 hn
  have e0 := Int.mul_nonneg hx.h0 hn
  have e2 := mul_le2 e1 e1 e0 e0
  rw [hf]; omega
theorem broad_mono (hf : far L'.b.at_ L'.p = far L.b.at_ L.p) (hp : L'.p.ac = L.p.ac) (h0 : 0 ≤ L.p.ac) (hx : x.fine) (hxy : x.leq y) (hn : 0 ≤ n) (h : n ≤ m) (ht : broad L x n = true) : broad L' y m = true := by
  simp only [broad, decide_eq_true_eq] at ht ⊢
  have e1 := mul_le2 hxy.w h hx.w0 hn
  have e0 := Int.mul_nonneg hx.w0 hn
  have e2 := mul_le2 e1 (Int.le_refl L.p.ac) e0 h0
  rw [hf, hp]; omega
theorem thick_mono (hf : far L'.b.at_ L'.p = far L.b.at_ L.p) (hx : x.fine) (hxy : x.leq y) (hn : 0 ≤ n) (h : n ≤ m) (ht : thick L x n = true) : thick L' y m = true := by
  simp only [thick, decide_eq_true_eq] at ht ⊢
  have hs := hxy.s
  have hs0 := hx.s0
  have e1 := mul_le2 (a := 5 * x.s) (b := 5 * y.s) (by omega) h (by omega) hn
  have e0 := Int.mul_nonneg (a := 5 * x.s) (by omega) hn
  have e2 := mul_le2 e1 e1 e0 e0
  rw [hf]; omega
theorem apart_mono (hf : far L'.b.at_ L'.p = far L.b.at_ L.p) (hp : L'.p.ac = L.p.ac) (h0 : 0 ≤ L.p.ac) (hx : x.fine) (hxy : x.leq y) (hn : 0 ≤ n) (h : n ≤ m) (ht : apart L x n = true) : apart L' y m = true := by
  simp only [apart, decide_eq_true_eq] at ht ⊢
  have hs := hxy.p
  have hs0 := hx.p0
  have e1 := mul_le2 (a := 5 * x.p) (b := 5 * y.p) (by omega) h (by omega) hn
  have e0 := Int.mul_nonneg (a := 5 * x.p) (by omega) hn
  have e2 := mul_le2 e1 (Int.le_refl L.p.ac) e0 h0
  rw [hf, hp]; omega
end
theorem take_at_lt {α : Type} [Inhabited α] {l : List α} {n : Nat} {x : α} (h : x ∈ l.take n) : ∃ i, i < n ∧ i < l.length ∧ x = l.getD i default := by
  rw [List.mem_take_iff_getElem] at h
  obtain ⟨i, hi, rfl⟩ := h
  exact ⟨i, by omega, by omega, (getD_lt (by omega)).symm⟩
theorem mem_at {α : Type} [Inhabited α] {l : List α} {x : α} (h : x ∈ l) : ∃ i, i < l.length ∧ x = l.getD i default := by
  obtain ⟨i, hi, rfl⟩ := List.getElem_of_mem h
  exact ⟨i, hi, (getD_lt hi).symm⟩
theorem at_take {α : Type} [Inhabited α] {l : List α} {n i : Nat} (h : i < n) (hl : i < l.length) : l.getD i default ∈ l.take n := by
  rw [List.mem_take_iff_getElem]
  exact ⟨i, by omega, (getD_lt hl).symm⟩
theorem clear_mono {L L' : Look} {n m : Int} (hL : L.good) (hat : L'.b.at_ = L.b.at_) (hp : L'.p = L.p) (hlen : L'.b.ls.length = L.b.ls.length)
    (hxy : ∀ i, i < L.b.ls.length → (L.b.ls.getD i default).leq (L'.b.ls.getD i default)) (hn : 0 ≤ n) (h : n ≤ m) (hc : clearL L n) : clearL L' m := by
  have hf : far L'.b.at_ L'.p = far L.b.at_ L.p := by rw [hat, hp]
  have hpc : L'.p.ac = L.p.ac := by rw [hp]
  have h0 : 0 ≤ L.p.ac := by have := hL.fine.ac0; omega
  refine ⟨fun x hx => ?_, fun x hx => ?_⟩
  · obtain ⟨i, hi, rfl⟩ := mem_at hx
    have hi' : i < L.b.ls.length := by omega
    have hm := getD_mem hi'
    obtain ⟨c1, c2, c3⟩ := hc.1 _ hm
    exact ⟨tall_mono hf (hL.ls _ hm) (hxy i hi') hn h c1, broad_mono hf hpc h0 (hL.ls _ hm) (hxy i hi') hn h c2, thick_mono hf (hL.ls _ hm) (hxy i hi') hn h c3⟩
  · obtain ⟨i, hi, hi2, rfl⟩ := take_at_lt hx
    have hi' : i < L.b.ls.length := by omega
    have hm := getD_mem hi'
    exact apart_mono hf hpc h0 (hL.ls _ hm) (hxy i hi') hn h (hc.2 _ (at_take (by omega) hi'))
theorem hides_same {L L' : Look} (hat : L'.b.at_ = L.b.at_) (hp : L'.p = L.p) (k : Block) : hides L' k = hides L k := by
  unfold hides along
  rw [hat, hp]
theorem surely_may {L : Look} (hL : L.good) (h1 : L.s.el * L.s.ll ≤ L.s.eh * L.s.lh) (h : surelyL L = true) : mayL L = true := by
  rw [surely_iff] at h
  rw [may_iff]
  refine ⟨fun k hk => by simp [h.1 k hk], clear_mono hL rfl rfl rfl (fun i _ => Letter.leq.refl _) (pow_least hL.fine).1 h1 h.2⟩
theorem pow_le {s : Street} (h : s.ok) : s.el * s.ll ≤ s.eh * s.lh := by
  obtain ⟨h1, h2, h3, h4, h5, h6, h7, h8, h9, h10, h11, h12, _⟩ := h
  exact mul_le2 h7 h11 (by omega) (by omega)
theorem word_3 (a b : Bool) : (word a b == 3) = a := by cases a <;> cases b <;> rfl
theorem word_1 (a b : Bool) : (word a b == 1) = (!a && !b) := by cases a <;> cases b <;> rfl
theorem word_in (a b : Bool) : 1 ≤ word a b ∧ word a b ≤ 3 := by cases a <;> cases b <;> decide
end Go.Proofs.Sight
namespace Go.Proofs.Sight
open Go Go.RX Go.Proofs
set_option maxRecDepth 10000
theorem c78 (n lo hi : Int) : Ctr Tryz.prog 78 [iS n, iS lo, iS hi] (bS (inR n lo hi)) := by
  (refine Ctr.mk (fn := Tryz.f78) rfl rfl rfl rfl rfl Tryz.results78 ?_; dsimp only [args, List.toList_toArray])
  ((first | refine Ok.seqF rfl rfl ?_ | refine Ok.seqT rfl rfl ?_ | refine Ok.regF rfl rfl ?_ | refine Ok.regT rfl rfl ?_); simp only [go_sem]; (repeat' with_reducible apply And.intro); all_goals first | (with_reducible first | refine OkW.mk ?_ | refine EndW.mk ?_ | apply AskI.id | apply AskGI.id) | (with_reducible apply KOt.mk; kernel_rfl) | exact trivial | rfl | omega | ((try intro _); first | apply R64 <;> omega | apply room_of <;> omega) | skip)
  ((first | refine Ok.seqF rfl rfl ?_ | refine Ok.seqT rfl rfl ?_ | refine Ok.regF rfl rfl ?_ | refine Ok.regT rfl rfl ?_); simp only [go_sem]; (repeat' with_reducible apply And.intro); all_goals first | (with_reducible first | refine OkW.mk ?_ | refine EndW.mk ?_ | apply AskI.id | apply AskGI.id) | (with_reducible apply KOt.mk; kernel_rfl) | exact trivial | rfl | omega | ((try intro _); first | apply R64 <;> omega | apply room_of <;> omega) | skip)
  (refine Ok.ret ?_; (try dsimp only [thenK, blockK, noGotoK]); simp only [toList_mk, List.toList_toArray, retK_ret, retK_normal, resOK, resV, celV, rowV, frzAll, frzT, subV, subL, go_sem])
  exact .refl _
theorem c79 (l h lo hi : Int) : Ctr Tryz.prog 79 [.agg [iS l, iS h], iS lo, iS hi] (bS (spanR l h lo hi)) := by
  (refine Ctr.mk (fn := Tryz.f79) rfl rfl rfl rfl rfl Tryz.results79 ?_; dsimp only [args, List.toList_toArray])
  ((first | refine Ok.seqF rfl rfl ?_ | refine Ok.seqT rfl rfl ?_ | refine Ok.regF rfl rfl ?_ | refine Ok.regT rfl rfl ?_); simp only [go_sem]; (repeat' with_reducible apply And.intro); all_goals first | (with_reducible first | refine OkW.mk ?_ | refine EndW.mk ?_ | apply AskI.id | apply AskGI.id) | (with_reducible apply KOt.mk; kernel_rfl) | exact trivial | rfl | omega | ((try intro _); first | apply R64 <;> omega | apply room_of <;> omega) | skip)
  ((first | refine Ok.seqF rfl rfl ?_ | refine Ok.seqT rfl rfl ?_ | refine Ok.regF rfl rfl ?_ | refine Ok.regT rfl rfl ?_); simp only [go_sem]; (repeat' with_reducible apply And.intro); all_goals first | (with_reducible first | refine OkW.mk ?_ | refine EndW.mk ?_ | apply AskI.id | apply AskGI.id) | (with_reducible apply KOt.mk; kernel_rfl) | exact trivial | rfl | omega | ((try intro _); first | apply R64 <;> omega | apply room_of <;> omega) | skip)
  (refine AskI.ret (c78 _ _ _) ?_; simp only [go_sem]; (repeat' with_reducible apply And.intro); all_goals first | (with_reducible first | refine OkW.mk ?_ | refine EndW.mk ?_ | apply AskI.id | apply AskGI.id) | (with_reducible apply KOt.mk; kernel_rfl) | exact trivial | rfl | omega | ((try intro _); first | apply R64 <;> omega | apply room_of <;> omega) | skip)
  (refine AskGI.ret (fun _ => c78 _ _ _) ?_; simp only [go_sem]; (repeat' with_reducible apply And.intro); all_goals first | (with_reducible first | refine OkW.mk ?_ | refine EndW.mk ?_ | apply AskI.id | apply AskGI.id) | (with_reducible apply KOt.mk; kernel_rfl) | exact trivial | rfl | omega | ((try intro _); first | apply R64 <;> omega | apply room_of <;> omega) | skip)
  (refine Ok.ret ?_; (try dsimp only [thenK, blockK, noGotoK]); simp only [toList_mk, List.toList_toArray, retK_ret, retK_normal, resOK, resV, celV, rowV, frzAll, frzT, subV, subL, go_sem])
  exact .refl _
theorem c31 (s : Street) (hs : s.bs.length < 1000000) (i : Int) : Ctr Tryz.prog 31 [s.sv, iS i] (bS (inR i 0 (s.bs.length - 1))) := by
  (refine Ctr.mk (fn := Tryz.f31) rfl rfl rfl rfl rfl Tryz.results31 ?_; dsimp only [args, List.toList_toArray])
  ((first | refine Ok.seqF rfl rfl ?_ | refine Ok.seqT rfl rfl ?_ | refine Ok.regF rfl rfl ?_ | refine Ok.regT rfl rfl ?_); simp only [go_sem]; (repeat' with_reducible apply And.intro); all_goals first | (with_reducible first | refine OkW.mk ?_ | refine EndW.mk ?_ | apply AskI.id | apply AskGI.id) | (with_reducible apply KOt.mk; kernel_rfl) | exact trivial | rfl | omega | ((try intro _); first | apply R64 <;> omega | apply room_of <;> omega) | skip)
  ((first | refine Ok.seqF rfl rfl ?_ | refine Ok.seqT rfl rfl ?_ | refine Ok.regF rfl rfl ?_ | refine Ok.regT rfl rfl ?_); simp only [go_sem]; (repeat' with_reducible apply And.intro); all_goals first | (with_reducible first | refine OkW.mk ?_ | refine EndW.mk ?_ | apply AskI.id | apply AskGI.id) | (with_reducible apply KOt.mk; kernel_rfl) | exact trivial | rfl | omega | ((try intro _); first | apply R64 <;> omega | apply room_of <;> omega) | skip)
  (refine AskI.ret (c78 _ _ _) ?_; simp only [go_sem]; (repeat' with_reducible apply And.intro); all_goals first | (with_reducible first | refine OkW.mk ?_ | refine EndW.mk ?_ | apply AskI.id | apply AskGI.id) | (with_reducible apply KOt.mk; kernel_rfl) | exact trivial | rfl | omega | ((try intro _); first | apply R64 <;> omega | apply room_of <;> omega) | skip)
  (refine Ok.ret ?_; (try dsimp only [thenK, blockK, noGotoK]); simp only [toList_mk, List.toList_toArray, retK_ret, retK_normal, resOK, resV, celV, rowV, frzAll, frzT, subV, subL, go_sem])
  exact .refl _
theorem c32 (s : Street) (p : Place) : Ctr Tryz.prog 32 [s.sv, p.sv] (bS (placeIn s p)) := by
  (refine Ctr.mk (fn := Tryz.f32) rfl rfl rfl rfl rfl Tryz.results32 ?_; dsimp only [args, List.toList_toArray])
  ((first | refine Ok.seqF rfl rfl ?_ | refine Ok.seqT rfl rfl ?_ | refine Ok.regF rfl rfl ?_ | refine Ok.regT rfl rfl ?_); simp only [go_sem]; (repeat' with_reducible apply And.intro); all_goals first | (with_reducible first | refine OkW.mk ?_ | refine EndW.mk ?_ | apply AskI.id | apply AskGI.id) | (with_reducible apply KOt.mk; kernel_rfl) | exact trivial | rfl | omega | ((try intro _); first | apply R64 <;> omega | apply room_of <;> omega) | skip)
  ((first | refine Ok.seqF rfl rfl ?_ | refine Ok.seqT rfl rfl ?_ | refine Ok.regF rfl rfl ?_ | refine Ok.regT rfl rfl ?_); simp only [go_sem]; (repeat' with_reducible apply And.intro); all_goals first | (with_reducible first | refine OkW.mk ?_ | refine EndW.mk ?_ | apply AskI.id | apply AskGI.id) | (with_reducible apply KOt.mk; kernel_rfl) | exact trivial | rfl | omega | ((try intro _); first | apply R64 <;> omega | apply room_of <;> omega) | skip)
  (refine AskI.ret (c78 _ _ _) ?_; simp only [go_sem]; (repeat' with_reducible apply And.intro); all_goals first | (with_reducible first | refine OkW.mk ?_ | refine EndW.mk ?_ | apply AskI.id | apply AskGI.id) | (with_reducible apply KOt.mk; kernel_rfl) | exact trivial | rfl | omega | ((try intro _); first | apply R64 <;> omega | apply room_of <;> omega) | skip)
  (refine AskGI.ret (fun _ => c78 _ _ _) ?_; simp only [go_sem]; (repeat' with_reducible apply And.intro); all_goals first | (with_reducible first | refine OkW.mk ?_ | refine EndW.mk ?_ | apply AskI.id | apply AskGI.id) | (with_reducible apply KOt.mk; kernel_rfl) | exact trivial | rfl | omega | ((try intro _); first | apply R64 <;> omega | apply room_of <;> omega) | skip)
  (refine Ok.ret ?_; (try dsimp only [thenK, blockK, noGotoK]); simp only [toList_mk, List.toList_toArray, retK_ret, retK_normal, resOK, resV, celV, rowV, frzAll, frzT, subV, subL, go_sem])
  exact .refl _
theorem c80 (b : Board) (len : Int) (hn : b.ls.length < 1000000) : Ctr Tryz.prog 80 [b.sv, iS len] (bS (isBoard b len)) := by
  (refine Ctr.mk (fn := Tryz.f80) rfl rfl rfl rfl rfl Tryz.results80 ?_; dsimp only [args, List.toList_toArray])
  ((first | refine Ok.seqF rfl rfl ?_ | refine Ok.seqT rfl rfl ?_ | refine Ok.regF rfl rfl ?_ | refine Ok.regT rfl rfl ?_); simp only [go_sem]; (repeat' with_reducible apply And.intro); all_goals first | (with_reducible first | refine OkW.mk ?_ | refine EndW.mk ?_ | apply AskI.id | apply AskGI.id) | (with_reducible apply KOt.mk; kernel_rfl) | exact trivial | rfl | omega | ((try intro _); first | apply R64 <;> omega | apply room_of <;> omega) | skip)
  ((first | refine Ok.seqF rfl rfl ?_ | refine Ok.seqT rfl rfl ?_ | refine Ok.regF rfl rfl ?_ | refine Ok.regT rfl rfl ?_); simp only [go_sem]; (repeat' with_reducible apply And.intro); all_goals first | (with_reducible first | refine OkW.mk ?_ | refine EndW.mk ?_ | apply AskI.id | apply AskGI.id) | (with_reducible apply KOt.mk; kernel_rfl) | exact trivial | rfl | omega | ((try intro _); first | apply R64 <;> omega | apply room_of <;> omega) | skip)
  refine Ok.seq ?_
  ((first | refine Ok.seqF rfl rfl ?_ | refine Ok.seqT rfl rfl ?_ | refine Ok.regF rfl rfl ?_ | refine Ok.regT rfl rfl ?_); simp only [go_sem]; (repeat' with_reducible apply And.intro); all_goals first | (with_reducible first | refine OkW.mk ?_ | refine EndW.mk ?_ | apply AskI.id | apply AskGI.id) | (with_reducible apply KOt.mk; kernel_rfl) | exact trivial | rfl | omega | ((try intro _); first | apply R64 <;> omega | apply room_of <;> omega) | skip)
  (refine AskI.ret (c78 _ _ _) ?_; simp only [go_sem]; (repeat' with_reducible apply And.intro); all_goals first | (with_reducible first | refine OkW.mk ?_ | refine EndW.mk ?_ | apply AskI.id | apply AskGI.id) | (with_reducible apply KOt.mk; kernel_rfl) | exact trivial | rfl | omega | ((try intro _); first | apply R64 <;> omega | apply room_of <;> omega) | skip)
  (refine AskGI.ret (fun _ => c78 _ _ _) ?_; simp only [go_sem]; (repeat' with_reducible apply And.intro); all_goals first | (with_reducible first | refine OkW.mk ?_ | refine EndW.mk ?_ | apply AskI.id | apply AskGI.id) | (with_reducible apply KOt.mk; kernel_rfl) | exact trivial | rfl | omega | ((try intro _); first | apply R64 <;> omega | apply room_of <;> omega) | skip)
  · intro h
    simp only [inR, beq_iff_eq, Bool.or_eq_false_iff, Bool.not_eq_false', Bool.and_eq_true, decide_eq_true_eq, beq_false, Bool.not_eq_true'] at h
    exact ⟨by omega, by omega⟩
  have e : (↑b.ls.length - 1 : Int).toNat = b.ls.length - 1 := by omega
  refine Ok.cond rfl ?_ ?_
  · intro hb
    ((first | refine Ok.seqF rfl rfl ?_ | refine Ok.seqT rfl rfl ?_ | refine Ok.regF rfl rfl ?_ | refine Ok.regT rfl rfl ?_); simp only [go_sem]; (repeat' with_reducible apply And.intro); all_goals first | (with_reducible first | refine OkW.mk ?_ | refine EndW.mk ?_ | apply AskI.id | apply AskGI.id) | (with_reducible apply KOt.mk; kernel_rfl) | exact trivial | rfl | omega | ((try intro _); first | apply R64 <;> omega | apply room_of <;> omega) | skip)
    (refine Ok.ret ?_; (try dsimp only [thenK, blockK, noGotoK]); simp only [toList_mk, List.toList_toArray, retK_ret, retK_normal, resOK, resV, celV, rowV, frzAll, frzT, subV, subL, go_sem])
    refine DEq.bool ?_
    simp only [isBoard]
    rw [e] at hb
    cases h1 : inR b.at_ 0 len <;> cases h2 : inR (↑b.ls.length) 1 5 <;> simp_all
  intro hb
  have hb' : (inR b.at_ 0 len && inR b.ls.length 1 5 && ((b.ls.getD (b.ls.length - 1) default).p == 0)) = true := by
    rw [e] at hb
    cases h1 : inR b.at_ 0 len <;> cases h2 : inR (↑b.ls.length) 1 5 <;> simp_all
  (refine Ok.skip ?_; (try dsimp only [thenK, blockK, noGotoK]))
  refine Ok.seq ?_
  ((first | refine Ok.seqF rfl rfl ?_ | refine Ok.seqT rfl rfl ?_ | refine Ok.regF rfl rfl ?_ | refine Ok.regT rfl rfl ?_); simp only [go_sem]; (repeat' with_reducible apply And.intro); all_goals first | (with_reducible first | refine OkW.mk ?_ | refine EndW.mk ?_ | apply AskI.id | apply AskGI.id) | (with_reducible apply KOt.mk; kernel_rfl) | exact trivial | rfl | omega | ((try intro _); first | apply R64 <;> omega | apply room_of <;> omega) | skip)
  refine Ok.block ?_
  refine Ok.count b.ls.length (fun i => ⟨[(2, .p 0 0), (5, iS b.ls.length), (6, iS i)], [{ frz := false, xs := [iS b.at_, .d (slD 4 letD b.ls)] }], []⟩) (fun i => ∀ x ∈ b.ls.take i, (!isLetter x) = false) ⟨fun x hx => by simp at hx, ?_⟩ ?_ ?_
  · (refine Sub.of ([0]) ([]) ?_ ?_ ?_ rfl rfl <;> simp only [subB, subB1, subT, subT1, newT, subE, subV, subL, go_sem] <;> (try (repeat' with_reducible apply And.intro)) <;> (try first | exact DEq.refl _ | refine DEq.int ?_ | refine DEq.bool ?_ | omega))
  · intro i hi h0
    refine Ok.seq ?_; (((first | refine Ok.seqF rfl rfl ?_ | refine Ok.seqT rfl rfl ?_ | refine Ok.regF rfl rfl ?_ | refine Ok.regT rfl rfl ?_); simp only [go_sem]; (repeat' with_reducible apply And.intro); all_goals first | (with_reducible first | refine OkW.mk ?_ | refine EndW.mk ?_ | apply AskI.id | apply AskGI.id) | (with_reducible apply KOt.mk; kernel_rfl) | exact trivial | rfl | omega | ((try intro _); first | apply R64 <;> omega | apply room_of <;> omega) | skip)); refine Ok.cond rfl (fun _ => ?_) (fun hb => by simp at hb; omega); (refine Ok.skip ?_; (try dsimp only [thenK, blockK, noGotoK])); refine Ok.seq ?_; refine Ok.block ?_
    ((first | refine Ok.seqF rfl rfl ?_ | refine Ok.seqT rfl rfl ?_ | refine Ok.regF rfl rfl ?_ | refine Ok.regT rfl rfl ?_); simp only [go_sem]; (repeat' with_reducible apply And.intro); all_goals first | (with_reducible first | refine OkW.mk ?_ | refine EndW.mk ?_ | apply AskI.id | apply AskGI.id) | (with_reducible apply KOt.mk; kernel_rfl) | exact trivial | rfl | omega | ((try intro _); first | apply R64 <;> omega | apply room_of <;> omega) | skip)
    ((first | refine Ok.seqF rfl rfl ?_ | refine Ok.seqT rfl rfl ?_ | refine Ok.regF rfl rfl ?_ | refine Ok.regT rfl rfl ?_); simp only [go_sem]; (repeat' with_reducible apply And.intro); all_goals first | (with_reducible first | refine OkW.mk ?_ | refine EndW.mk ?_ | apply AskI.id | apply AskGI.id) | (with_reducible apply KOt.mk; kernel_rfl) | exact trivial | rfl | omega | ((try intro _); first | apply R64 <;> omega | apply room_of <;> omega) | skip)
    (refine AskI.ret (c78 _ _ _) ?_; simp only [go_sem]; (repeat' with_reducible apply And.intro); all_goals first | (with_reducible first | refine OkW.mk ?_ | refine EndW.mk ?_ | apply AskI.id | apply AskGI.id) | (with_reducible apply KOt.mk; kernel_rfl) | exact trivial | rfl | omega | ((try intro _); first | apply R64 <;> omega | apply room_of <;> omega) | skip)
    (refine AskGI.ret (fun _ => c78 _ _ _) ?_; simp only [go_sem]; (repeat' with_reducible apply And.intro); all_goals first | (with_reducible first | refine OkW.mk ?_ | refine EndW.mk ?_ | apply AskI.id | apply AskGI.id) | (with_reducible apply KOt.mk; kernel_rfl) | exact trivial | rfl | omega | ((try intro _); first | apply R64 <;> omega | apply room_of <;> omega) | skip)
    (refine AskGI.ret (fun _ => c78 _ _ _) ?_; simp only [go_sem]; (repeat' with_reducible apply And.intro); all_goals first | (with_reducible first | refine OkW.mk ?_ | refine EndW.mk ?_ | apply AskI.id | apply AskGI.id) | (with_reducible apply KOt.mk; kernel_rfl) | exact trivial | rfl | omega | ((try intro _); first | apply R64 <;> omega | apply room_of <;> omega) | skip)
    (refine AskGI.ret (fun _ => c78 _ _ _) ?_; simp only [go_sem]; (repeat' with_reducible apply And.intro); all_goals first | (with_reducible first | refine OkW.mk ?_ | refine EndW.mk ?_ | apply AskI.id | apply AskGI.id) | (with_reducible apply KOt.mk; kernel_rfl) | exact trivial | rfl | omega | ((try intro _); first | apply R64 <;> omega | apply room_of <;> omega) | skip)
    refine Ok.cond rfl ?_ ?_
    · intro hx
      have hx' : (!isLetter (b.ls.getD i default)) = true := by
        simp only [isLetter]
        revert hx
        cases inR (b.ls.getD i default).h 1 30 <;> cases inR (b.ls.getD i default).w 1 30 <;> cases inR (b.ls.getD i default).s 1 10 <;> cases inR (b.ls.getD i default).p 0 20 <;> simp
      ((first | refine Ok.seqF rfl rfl ?_ | refine Ok.seqT rfl rfl ?_ | refine Ok.regF rfl rfl ?_ | refine Ok.regT rfl rfl ?_); simp only [go_sem]; (repeat' with_reducible apply And.intro); all_goals first | (with_reducible first | refine OkW.mk ?_ | refine EndW.mk ?_ | apply AskI.id | apply AskGI.id) | (with_reducible apply KOt.mk; kernel_rfl) | exact trivial | rfl | omega | ((try intro _); first | apply R64 <;> omega | apply room_of <;> omega) | skip)
      (refine Ok.ret ?_; (try dsimp only [thenK, blockK, noGotoK]); simp only [toList_mk, List.toList_toArray, retK_ret, retK_normal, resOK, resV, celV, rowV, frzAll, frzT, subV, subL, go_sem])
      refine DEq.bool ?_
      have : b.ls.any (!isLetter ·) = true := List.any_eq_true.2 ⟨_, getD_mem hi, hx'⟩
      simp [isBoard, this]
    · intro hx
      have hx' : (!isLetter (b.ls.getD i default)) = false := by
        simp only [isLetter]
        revert hx
        cases inR (b.ls.getD i default).h 1 30 <;> cases inR (b.ls.getD i default).w 1 30 <;> cases inR (b.ls.getD i default).s 1 10 <;> cases inR (b.ls.getD i default).p 0 20 <;> simp
      (refine Ok.skip ?_; (try dsimp only [thenK, blockK, noGotoK]))
      ((first | refine Ok.seqF rfl rfl ?_ | refine Ok.seqT rfl rfl ?_ | refine Ok.regF rfl rfl ?_ | refine Ok.regT rfl rfl ?_); simp only [go_sem]; (repeat' with_reducible apply And.intro); all_goals first | (with_reducible first | refine OkW.mk ?_ | refine EndW.mk ?_ | apply AskI.id | apply AskGI.id) | (with_reducible apply KOt.mk; kernel_rfl) | exact trivial | rfl | omega | ((try intro _); first | apply R64 <;> omega | apply room_of <;> omega) | skip)
      (try dsimp only [thenK, blockK, noGotoK])
      refine ⟨no_step hi h0 hx', ?_⟩
      (refine Sub.of ([0]) ([]) ?_ ?_ ?_ rfl rfl <;> simp only [subB, subB1, subT, subT1, newT, subE, subV, subL, go_sem] <;> (try (repeat' with_reducible apply And.intro)) <;> (try first | exact DEq.refl _ | refine DEq.int ?_ | refine DEq.bool ?_ | omega))
  · intro h0
    refine Ok.seq ?_; (((first | refine Ok.seqF rfl rfl ?_ | refine Ok.seqT rfl rfl ?_ | refine Ok.regF rfl rfl ?_ | refine Ok.regT rfl rfl ?_); simp only [go_sem]; (repeat' with_reducible apply And.intro); all_goals first | (with_reducible first | refine OkW.mk ?_ | refine EndW.mk ?_ | apply AskI.id | apply AskGI.id) | (with_reducible apply KOt.mk; kernel_rfl) | exact trivial | rfl | omega | ((try intro _); first | apply R64 <;> omega | apply room_of <;> omega) | skip)); refine Ok.cond rfl (fun hb => by simp at hb) (fun _ => ?_); (refine Ok.exit ?_; simp only [thenK_exit, blockK_exit, noGotoK_exit, thenK_normal, blockK_normal, noGotoK_normal, ↓reduceIte, Nat.reduceEqDiff])
    ((first | refine Ok.seqF rfl rfl ?_ | refine Ok.seqT rfl rfl ?_ | refine Ok.regF rfl rfl ?_ | refine Ok.regT rfl rfl ?_); simp only [go_sem]; (repeat' with_reducible apply And.intro); all_goals first | (with_reducible first | refine OkW.mk ?_ | refine EndW.mk ?_ | apply AskI.id | apply AskGI.id) | (with_reducible apply KOt.mk; kernel_rfl) | exact trivial | rfl | omega | ((try intro _); first | apply R64 <;> omega | apply room_of <;> omega) | skip)
    (refine Ok.ret ?_; (try dsimp only [thenK, blockK, noGotoK]); simp only [toList_mk, List.toList_toArray, retK_ret, retK_normal, resOK, resV, celV, rowV, frzAll, frzT, subV, subL, go_sem])
    refine DEq.bool ?_
    have : b.ls.any (!isLetter ·) = false := List.any_eq_false.2 (fun x hx => by simp [h0 x (by simpa using hx)])
    simp only [isBoard, hb', this]
    rfl
def streetB (s : Street) : BC := { frz := false, xs := [iS s.len, iS s.wid, iS s.el, iS s.eh, iS s.ll, iS s.lh, .d (slD 2 boaD s.bs), .d (slD 5 bloD s.ks)] }
def boardB (b : Board) : BC := { frz := false, xs := [iS b.at_, .d (slD 4 letD b.ls)] }
def placeB (p : Place) : BC := { frz := false, xs := [iS p.al, iS p.ac] }
theorem streetB_def (s : Street) : streetB s = { frz := false, xs := [iS s.len, iS s.wid, iS s.el, iS s.eh, iS s.ll, iS s.lh, .d (slD 2 boaD s.bs), .d (slD 5 bloD s.ks)] } := Eq.trans rfl rfl
theorem boardB_def (b : Board) : boardB b = { frz := false, xs := [iS b.at_, .d (slD 4 letD b.ls)] } := Eq.trans rfl rfl
theorem placeB_def (p : Place) : placeB p = { frz := false, xs := [iS p.al, iS p.ac] } := Eq.trans rfl rfl
attribute [go_sem] streetB_def boardB_def placeB_def
theorem c30 (s : Street) (hn : s.fit) : Ctr Tryz.prog 30 [s.sv] (bS (isStreet s)) := by
  have hn1 := hn.1
  have hn2 := hn.2.1
  (refine Ctr.mk (fn := Tryz.f30) rfl rfl rfl rfl rfl Tryz.results30 ?_; dsimp only [args, List.toList_toArray])
  ((first | refine Ok.seqF rfl rfl ?_ | refine Ok.seqT rfl rfl ?_ | refine Ok.regF rfl rfl ?_ | refine Ok.regT rfl rfl ?_); simp only [go_sem]; (repeat' with_reducible apply And.intro); all_goals first | (with_reducible first | refine OkW.mk ?_ | refine EndW.mk ?_ | apply AskI.id | apply AskGI.id) | (with_reducible apply KOt.mk; kernel_rfl) | exact trivial | rfl | omega | ((try intro _); first | apply R64 <;> omega | apply room_of <;> omega) | skip)
  refine Ok.seq ?_
  ((first | refine Ok.seqF rfl rfl ?_ | refine Ok.seqT rfl rfl ?_ | refine Ok.regF rfl rfl ?_ | refine Ok.regT rfl rfl ?_); simp only [go_sem]; (repeat' with_reducible apply And.intro); all_goals first | (with_reducible first | refine OkW.mk ?_ | refine EndW.mk ?_ | apply AskI.id | apply AskGI.id) | (with_reducible apply KOt.mk; kernel_rfl) | exact trivial | rfl | omega | ((try intro _); first | apply R64 <;> omega | apply room_of <;> omega) | skip)
  (refine AskI.ret (c78 _ _ _) ?_; simp only [go_sem]; (repeat' with_reducible apply And.intro); all_goals first | (with_reducible first | refine OkW.mk ?_ | refine EndW.mk ?_ | apply AskI.id | apply AskGI.id) | (with_reducible apply KOt.mk; kernel_rfl) | exact trivial | rfl | omega | ((try intro _); first | apply R64 <;> omega | apply room_of <;> omega) | skip)
  (refine AskGI.ret (fun _ => c78 _ _ _) ?_; simp only [go_sem]; (repeat' with_reducible apply And.intro); all_goals first | (with_reducible first | refine OkW.mk ?_ | refine EndW.mk ?_ | apply AskI.id | apply AskGI.id) | (with_reducible apply KOt.mk; kernel_rfl) | exact trivial | rfl | omega | ((try intro _); first | apply R64 <;> omega | apply room_of <;> omega) | skip)
  (refine AskGI.ret (fun _ => c79 _ _ _ _) ?_; simp only [go_sem]; (repeat' with_reducible apply And.intro); all_goals first | (with_reducible first | refine OkW.mk ?_ | refine EndW.mk ?_ | apply AskI.id | apply AskGI.id) | (with_reducible apply KOt.mk; kernel_rfl) | exact trivial | rfl | omega | ((try intro _); first | apply R64 <;> omega | apply room_of <;> omega) | skip)
  (refine AskGI.ret (fun _ => c79 _ _ _ _) ?_; simp only [go_sem]; (repeat' with_reducible apply And.intro); all_goals first | (with_reducible first | refine OkW.mk ?_ | refine EndW.mk ?_ | apply AskI.id | apply AskGI.id) | (with_reducible apply KOt.mk; kernel_rfl) | exact trivial | rfl | omega | ((try intro _); first | apply R64 <;> omega | apply room_of <;> omega) | skip)
  (refine AskGI.ret (fun _ => c78 _ _ _) ?_; simp only [go_sem]; (repeat' with_reducible apply And.intro); all_goals first | (with_reducible first | refine OkW.mk ?_ | refine EndW.mk ?_ | apply AskI.id | apply AskGI.id) | (with_reducible apply KOt.mk; kernel_rfl) | exact trivial | rfl | omega | ((try intro _); first | apply R64 <;> omega | apply room_of <;> omega) | skip)
  have hdec : decide (4 < (s.ks.length : Int)) = !decide ((s.ks.length : Int) ≤ 4) := by by_cases h : (s.ks.length : Int) ≤ 4 <;> simp [h] <;> omega
  refine Ok.cond rfl ?_ ?_
  · intro hb
    have hb' : (inR s.len 1 40 && inR s.wid 1 12 && spanR s.el s.eh 1 40 && spanR s.ll s.lh 1 100 && inR s.bs.length 1 3 && decide ((s.ks.length : Int) ≤ 4)) = false := by
      revert hb
      rw [hdec]
      cases inR s.len 1 40 <;> cases inR s.wid 1 12 <;> cases spanR s.el s.eh 1 40 <;> cases spanR s.ll s.lh 1 100 <;> cases inR s.bs.length 1 3 <;> cases decide ((s.ks.length : Int) ≤ 4) <;> simp
    ((first | refine Ok.seqF rfl rfl ?_ | refine Ok.seqT rfl rfl ?_ | refine Ok.regF rfl rfl ?_ | refine Ok.regT rfl rfl ?_); simp only [go_sem]; (repeat' with_reducible apply And.intro); all_goals first | (with_reducible first | refine OkW.mk ?_ | refine EndW.mk ?_ | apply AskI.id | apply AskGI.id) | (with_reducible apply KOt.mk; kernel_rfl) | exact trivial | rfl | omega | ((try intro _); first | apply R64 <;> omega | apply room_of <;> omega) | skip)
    (refine Ok.ret ?_; (try dsimp only [thenK, blockK, noGotoK]); simp only [toList_mk, List.toList_toArray, retK_ret, retK_normal, resOK, resV, celV, rowV, frzAll, frzT, subV, subL, go_sem])
    refine DEq.bool ?_
    simp only [isStreet, hb']
    rfl
  intro hb
  have hb' : (inR s.len 1 40 && inR s.wid 1 12 && spanR s.el s.eh 1 40 && spanR s.ll s.lh 1 100 && inR s.bs.length 1 3 && decide ((s.ks.length : Int) ≤ 4)) = true := by
    revert hb
    rw [hdec]
    cases inR s.len 1 40 <;> cases inR s.wid 1 12 <;> cases spanR s.el s.eh 1 40 <;> cases spanR s.ll s.lh 1 100 <;> cases inR s.bs.length 1 3 <;> cases decide ((s.ks.length : Int) ≤ 4) <;> simp
  (refine Ok.skip ?_; (try dsimp only [thenK, blockK, noGotoK]))
  refine Ok.seq ?_
  ((first | refine Ok.seqF rfl rfl ?_ | refine Ok.seqT rfl rfl ?_ | refine Ok.regF rfl rfl ?_ | refine Ok.regT rfl rfl ?_); simp only [go_sem]; (repeat' with_reducible apply And.intro); all_goals first | (with_reducible first | refine OkW.mk ?_ | refine EndW.mk ?_ | apply AskI.id | apply AskGI.id) | (with_reducible apply KOt.mk; kernel_rfl) | exact trivial | rfl | omega | ((try intro _); first | apply R64 <;> omega | apply room_of <;> omega) | skip)
  refine Ok.block ?_
  refine Ok.count s.bs.length (fun i => ⟨[(1, .p 0 0), (3, iS i)], [streetB s], []⟩) (fun i => ∀ x ∈ s.bs.take i, (!isBoard x s.len) = false) ⟨fun x hx => by simp at hx, ?_⟩ ?_ ?_
  · (refine Sub.of ([0]) ([]) ?_ ?_ ?_ rfl rfl <;> simp only [subB, subB1, subT, subT1, newT, subE, subV, subL, go_sem] <;> (try (repeat' with_reducible apply And.intro)) <;> (try first | exact DEq.refl _ | refine DEq.int ?_ | refine DEq.bool ?_ | omega))
  · intro i hi h0
    refine Ok.seq ?_; (((first | refine Ok.seqF rfl rfl ?_ | refine Ok.seqT rfl rfl ?_ | refine Ok.regF rfl rfl ?_ | refine Ok.regT rfl rfl ?_); simp only [go_sem]; (repeat' with_reducible apply And.intro); all_goals first | (with_reducible first | refine OkW.mk ?_ | refine EndW.mk ?_ | apply AskI.id | apply AskGI.id) | (with_reducible apply KOt.mk; kernel_rfl) | exact trivial | rfl | omega | ((try intro _); first | apply R64 <;> omega | apply room_of <;> omega) | skip)); refine Ok.cond rfl (fun _ => ?_) (fun hb => by simp at hb; omega); (refine Ok.skip ?_; (try dsimp only [thenK, blockK, noGotoK])); refine Ok.seq ?_; refine Ok.block ?_
    ((first | refine Ok.seqF rfl rfl ?_ | refine Ok.seqT rfl rfl ?_ | refine Ok.regF rfl rfl ?_ | refine Ok.regT rfl rfl ?_); simp only [go_sem]; (repeat' with_reducible apply And.intro); all_goals first | (with_reducible first | refine OkW.mk ?_ | refine EndW.mk ?_ | apply AskI.id | apply AskGI.id) | (with_reducible apply KOt.mk; kernel_rfl) | exact trivial | rfl | omega | ((try intro _); first | apply R64 <;> omega | apply room_of <;> omega) | skip)
    (refine AskI.ret (c80 _ _ (hn.2.2 _ (getD_mem hi))) ?_; simp only [go_sem]; (repeat' with_reducible apply And.intro); all_goals first | (with_reducible first | refine OkW.mk ?_ | refine EndW.mk ?_ | apply AskI.id | apply AskGI.id) | (with_reducible apply KOt.mk; kernel_rfl) | exact trivial | rfl | omega | ((try intro _); first | apply R64 <;> omega | apply room_of <;> omega) | skip)
    refine Ok.cond rfl ?_ ?_
    · intro hx
      ((first | refine Ok.seqF rfl rfl ?_ | refine Ok.seqT rfl rfl ?_ | refine Ok.regF rfl rfl ?_ | refine Ok.regT rfl rfl ?_); simp only [go_sem]; (repeat' with_reducible apply And.intro); all_goals first | (with_reducible first | refine OkW.mk ?_ | refine EndW.mk ?_ | apply AskI.id | apply AskGI.id) | (with_reducible apply KOt.mk; kernel_rfl) | exact trivial | rfl | omega | ((try intro _); first | apply R64 <;> omega | apply room_of <;> omega) | skip)
      (refine Ok.ret ?_; (try dsimp only [thenK, blockK, noGotoK]); simp only [toList_mk, List.toList_toArray, retK_ret, retK_normal, resOK, resV, celV, rowV, frzAll, frzT, subV, subL, go_sem])
      refine DEq.bool ?_
      have : s.bs.any (!isBoard · s.len) = true := List.any_eq_true.2 ⟨_, getD_mem hi, hx⟩
      simp [isStreet, this]
    · intro hx
      (refine Ok.skip ?_; (try dsimp only [thenK, blockK, noGotoK]))
      ((first | refine Ok.seqF rfl rfl ?_ | refine Ok.seqT rfl rfl ?_ | refine Ok.regF rfl rfl ?_ | refine Ok.regT rfl rfl ?_); simp only [go_sem]; (repeat' with_reducible apply And.intro); all_goals first | (with_reducible first | refine OkW.mk ?_ | refine EndW.mk ?_ | apply AskI.id | apply AskGI.id) | (with_reducible apply KOt.mk; kernel_rfl) | exact trivial | rfl | omega | ((try intro _); first | apply R64 <;> omega | apply room_of <;> omega) | skip)
      (try dsimp only [thenK, blockK, noGotoK])
      refine ⟨no_step hi h0 hx, ?_⟩
      (refine Sub.of ([0]) ([]) ?_ ?_ ?_ rfl rfl <;> simp only [subB, subB1, subT, subT1, newT, subE, subV, subL, go_sem] <;> (try (repeat' with_reducible apply And.intro)) <;> (try first | exact DEq.refl _ | refine DEq.int ?_ | refine DEq.bool ?_ | omega))
  intro h0
  have hbs : s.bs.any (!isBoard · s.len) = false := List.any_eq_false.2 (fun x hx => by simp [h0 x (by simpa using hx)])
  refine Ok.seq ?_; (((first | refine Ok.seqF rfl rfl ?_ | refine Ok.seqT rfl rfl ?_ | refine Ok.regF rfl rfl ?_ | refine Ok.regT rfl rfl ?_); simp only [go_sem]; (repeat' with_reducible apply And.intro); all_goals first | (with_reducible first | refine OkW.mk ?_ | refine EndW.mk ?_ | apply AskI.id | apply AskGI.id) | (with_reducible apply KOt.mk; kernel_rfl) | exact trivial | rfl | omega | ((try intro _); first | apply R64 <;> omega | apply room_of <;> omega) | skip)); refine Ok.cond rfl (fun hb => by simp at hb) (fun _ => ?_); (refine Ok.exit ?_; simp only [thenK_exit, blockK_exit, noGotoK_exit, thenK_normal, blockK_normal, noGotoK_normal, ↓reduceIte, Nat.reduceEqDiff])
  refine Ok.seq ?_
  ((first | refine Ok.seqF rfl rfl ?_ | refine Ok.seqT rfl rfl ?_ | refine Ok.regF rfl rfl ?_ | refine Ok.regT rfl rfl ?_); simp only [go_sem]; (repeat' with_reducible apply And.intro); all_goals first | (with_reducible first | refine OkW.mk ?_ | refine EndW.mk ?_ | apply AskI.id | apply AskGI.id) | (with_reducible apply KOt.mk; kernel_rfl) | exact trivial | rfl | omega | ((try intro _); first | apply R64 <;> omega | apply room_of <;> omega) | skip)
  refine Ok.block ?_
  refine Ok.count s.ks.length (fun i => ⟨[(1, .p 0 0), (4, iS i)], [streetB s], []⟩) (fun i => ∀ x ∈ s.ks.take i, (!blockIn x s) = false) ⟨fun x hx => by simp at hx, ?_⟩ ?_ ?_
  · (refine Sub.of ([0]) ([]) ?_ ?_ ?_ rfl rfl <;> simp only [subB, subB1, subT, subT1, newT, subE, subV, subL, go_sem] <;> (try (repeat' with_reducible apply And.intro)) <;> (try first | exact DEq.refl _ | refine DEq.int ?_ | refine DEq.bool ?_ | omega))
  · intro i hi h0
    refine Ok.seq ?_; (((first | refine Ok.seqF rfl rfl ?_ | refine Ok.seqT rfl rfl ?_ | refine Ok.regF rfl rfl ?_ | refine Ok.regT rfl rfl ?_); simp only [go_sem]; (repeat' with_reducible apply And.intro); all_goals first | (with_reducible first | refine OkW.mk ?_ | refine EndW.mk ?_ | apply AskI.id | apply AskGI.id) | (with_reducible apply KOt.mk; kernel_rfl) | exact trivial | rfl | omega | ((try intro _); first | apply R64 <;> omega | apply room_of <;> omega) | skip)); refine Ok.cond rfl (fun _ => ?_) (fun hb => by simp at hb; omega); (refine Ok.skip ?_; (try dsimp only [thenK, blockK, noGotoK])); refine Ok.seq ?_; refine Ok.block ?_
    ((first | refine Ok.seqF rfl rfl ?_ | refine Ok.seqT rfl rfl ?_ | refine Ok.regF rfl rfl ?_ | refine Ok.regT rfl rfl ?_); simp only [go_sem]; (repeat' with_reducible apply And.intro); all_goals first | (with_reducible first | refine OkW.mk ?_ | refine EndW.mk ?_ | apply AskI.id | apply AskGI.id) | (with_reducible apply KOt.mk; kernel_rfl) | exact trivial | rfl | omega | ((try intro _); first | apply R64 <;> omega | apply room_of <;> omega) | skip)
    (refine AskI.ret (c79 _ _ _ _) ?_; simp only [go_sem]; (repeat' with_reducible apply And.intro); all_goals first | (with_reducible first | refine OkW.mk ?_ | refine EndW.mk ?_ | apply AskI.id | apply AskGI.id) | (with_reducible apply KOt.mk; kernel_rfl) | exact trivial | rfl | omega | ((try intro _); first | apply R64 <;> omega | apply room_of <;> omega) | skip)
    (refine AskGI.ret (fun _ => c79 _ _ _ _) ?_; simp only [go_sem]; (repeat' with_reducible apply And.intro); all_goals first | (with_reducible first | refine OkW.mk ?_ | refine EndW.mk ?_ | apply AskI.id | apply AskGI.id) | (with_reducible apply KOt.mk; kernel_rfl) | exact trivial | rfl | omega | ((try intro _); first | apply R64 <;> omega | apply room_of <;> omega) | skip)
    have hcases : blockIn (s.ks.getD i default) s = (spanR (s.ks.getD i default).al (s.ks.getD i default).ah 0 s.len && spanR (s.ks.getD i default).cl (s.ks.getD i default).ch 1 s.wid) := rfl
    refine Ok.cond rfl ?_ ?_
    · intro hx
      have hx' : (!blockIn (s.ks.getD i default) s) = true := by
        rw [hcases]
        revert hx
        cases spanR (s.ks.getD i default).al (s.ks.getD i default).ah 0 s.len <;> cases spanR (s.ks.getD i default).cl (s.ks.getD i default).ch 1 s.wid <;> simp
      ((first | refine Ok.seqF rfl rfl ?_ | refine Ok.seqT rfl rfl ?_ | refine Ok.regF rfl rfl ?_ | refine Ok.regT rfl rfl ?_); simp only [go_sem]; (repeat' with_reducible apply And.intro); all_goals first | (with_reducible first | refine OkW.mk ?_ | refine EndW.mk ?_ | apply AskI.id | apply AskGI.id) | (with_reducible apply KOt.mk; kernel_rfl) | exact trivial | rfl | omega | ((try intro _); first | apply R64 <;> omega | apply room_of <;> omega) | skip)
      (refine Ok.ret ?_; (try dsimp only [thenK, blockK, noGotoK]); simp only [toList_mk, List.toList_toArray, retK_ret, retK_normal, resOK, resV, celV, rowV, frzAll, frzT, subV, subL, go_sem])
      refine DEq.bool ?_
      have : s.ks.any (!blockIn · s) = true := List.any_eq_true.2 ⟨_, getD_mem hi, hx'⟩
      simp [isStreet, this]
    · intro hx
      have hx' : (!blockIn (s.ks.getD i default) s) = false := by
        rw [hcases]
        revert hx
        cases spanR (s.ks.getD i default).al (s.ks.getD i default).ah 0 s.len <;> cases spanR (s.ks.getD i default).cl (s.ks.getD i default).ch 1 s.wid <;> simp
      (refine Ok.skip ?_; (try dsimp only [thenK, blockK, noGotoK]))
      ((first | refine Ok.seqF rfl rfl ?_ | refine Ok.seqT rfl rfl ?_ | refine Ok.regF rfl rfl ?_ | refine Ok.regT rfl rfl ?_); simp only [go_sem]; (repeat' with_reducible apply And.intro); all_goals first | (with_reducible first | refine OkW.mk ?_ | refine EndW.mk ?_ | apply AskI.id | apply AskGI.id) | (with_reducible apply KOt.mk; kernel_rfl) | exact trivial | rfl | omega | ((try intro _); first | apply R64 <;> omega | apply room_of <;> omega) | skip)
      (try dsimp only [thenK, blockK, noGotoK])
      refine ⟨no_step hi h0 hx', ?_⟩
      (refine Sub.of ([0]) ([]) ?_ ?_ ?_ rfl rfl <;> simp only [subB, subB1, subT, subT1, newT, subE, subV, subL, go_sem] <;> (try (repeat' with_reducible apply And.intro)) <;> (try first | exact DEq.refl _ | refine DEq.int ?_ | refine DEq.bool ?_ | omega))
  · intro h0
    have hks : s.ks.any (!blockIn · s) = false := List.any_eq_false.2 (fun x hx => by simp [h0 x (by simpa using hx)])
    refine Ok.seq ?_; (((first | refine Ok.seqF rfl rfl ?_ | refine Ok.seqT rfl rfl ?_ | refine Ok.regF rfl rfl ?_ | refine Ok.regT rfl rfl ?_); simp only [go_sem]; (repeat' with_reducible apply And.intro); all_goals first | (with_reducible first | refine OkW.mk ?_ | refine EndW.mk ?_ | apply AskI.id | apply AskGI.id) | (with_reducible apply KOt.mk; kernel_rfl) | exact trivial | rfl | omega | ((try intro _); first | apply R64 <;> omega | apply room_of <;> omega) | skip)); refine Ok.cond rfl (fun hb => by simp at hb) (fun _ => ?_); (refine Ok.exit ?_; simp only [thenK_exit, blockK_exit, noGotoK_exit, thenK_normal, blockK_normal, noGotoK_normal, ↓reduceIte, Nat.reduceEqDiff])
    ((first | refine Ok.seqF rfl rfl ?_ | refine Ok.seqT rfl rfl ?_ | refine Ok.regF rfl rfl ?_ | refine Ok.regT rfl rfl ?_); simp only [go_sem]; (repeat' with_reducible apply And.intro); all_goals first | (with_reducible first | refine OkW.mk ?_ | refine EndW.mk ?_ | apply AskI.id | apply AskGI.id) | (with_reducible apply KOt.mk; kernel_rfl) | exact trivial | rfl | omega | ((try intro _); first | apply R64 <;> omega | apply room_of <;> omega) | skip)
    (refine Ok.ret ?_; (try dsimp only [thenK, blockK, noGotoK]); simp only [toList_mk, List.toList_toArray, retK_ret, retK_normal, resOK, resV, celV, rowV, frzAll, frzT, subV, subL, go_sem])
    refine DEq.bool ?_
    simp only [isStreet, hb', hbs, hks]
    rfl
def shortS (s : Street) : Bool := !((s.bs.take 6).any (fun b => decide (7 < b.ls.length))) && decide (s.bs.length ≤ 5) && decide (s.ks.length ≤ 6)
theorem short_fit {s : Street} (h : shortS s = true) : s.fit := by
  simp only [shortS, Bool.and_eq_true, Bool.not_eq_true', List.any_eq_false, decide_eq_true_eq] at h
  obtain ⟨⟨h1, h2⟩, h3⟩ := h
  refine ⟨by omega, by omega, fun b hb => ?_⟩
  have := h1 b (by rw [List.take_of_length_le (by omega)]; exact hb)
  omega
def Street.held (s : Street) : Prop := s.bs.length ≤ 9223372036854775807 ∧ s.ks.length ≤ 9223372036854775807 ∧ ∀ b ∈ s.bs, b.ls.length ≤ 9223372036854775807
theorem c28 (s : Street) (hs : s.held) : Ctr Tryz.prog 28 [s.sv] (bS (shortS s)) := by
  have h1 := hs.1
  have h2 := hs.2.1
  (refine Ctr.mk (fn := Tryz.f28) rfl rfl rfl rfl rfl Tryz.results28 ?_; dsimp only [args, List.toList_toArray])
  ((first | refine Ok.seqF rfl rfl ?_ | refine Ok.seqT rfl rfl ?_ | refine Ok.regF rfl rfl ?_ | refine Ok.regT rfl rfl ?_); simp only [go_sem]; (repeat' with_reducible apply And.intro); all_goals first | (with_reducible first | refine OkW.mk ?_ | refine EndW.mk ?_ | apply AskI.id | apply AskGI.id) | (with_reducible apply KOt.mk; kernel_rfl) | exact trivial | rfl | omega | ((try intro _); first | apply R64 <;> omega | apply room_of <;> omega) | skip)
  refine Ok.seq ?_
  ((first | refine Ok.seqF rfl rfl ?_ | refine Ok.seqT rfl rfl ?_ | refine Ok.regF rfl rfl ?_ | refine Ok.regT rfl rfl ?_); simp only [go_sem]; (repeat' with_reducible apply And.intro); all_goals first | (with_reducible first | refine OkW.mk ?_ | refine EndW.mk ?_ | apply AskI.id | apply AskGI.id) | (with_reducible apply KOt.mk; kernel_rfl) | exact trivial | rfl | omega | ((try intro _); first | apply R64 <;> omega | apply room_of <;> omega) | skip)
  refine Ok.block ?_
  refine Ok.count (min s.bs.length 6) (fun i => ⟨[(1, .p 0 0), (3, iS i)], [streetB s], []⟩) (fun i => ∀ b ∈ s.bs.take i, (decide (7 < b.ls.length)) = false) ⟨fun x hx => by simp at hx, ?_⟩ ?_ ?_
  · (refine Sub.of ([0]) ([]) ?_ ?_ ?_ rfl rfl <;> simp only [subB, subB1, subT, subT1, newT, subE, subV, subL, go_sem] <;> (try (repeat' with_reducible apply And.intro)) <;> (try first | exact DEq.refl _ | refine DEq.int ?_ | refine DEq.bool ?_ | omega))
  · intro i hi h0
    have hi1 : i < s.bs.length := by omega
    have hi2 : i < 6 := by omega
    have hl := hs.2.2 _ (getD_mem hi1)
    refine Ok.seq ?_; (((first | refine Ok.seqF rfl rfl ?_ | refine Ok.seqT rfl rfl ?_ | refine Ok.regF rfl rfl ?_ | refine Ok.regT rfl rfl ?_); simp only [go_sem]; (repeat' with_reducible apply And.intro); all_goals first | (with_reducible first | refine OkW.mk ?_ | refine EndW.mk ?_ | apply AskI.id | apply AskGI.id) | (with_reducible apply KOt.mk; kernel_rfl) | exact trivial | rfl | omega | ((try intro _); first | apply R64 <;> omega | apply room_of <;> omega) | skip)); refine Ok.cond rfl (fun _ => ?_) (fun hb => by simp at hb; omega); (refine Ok.skip ?_; (try dsimp only [thenK, blockK, noGotoK])); refine Ok.seq ?_; refine Ok.block ?_
    ((first | refine Ok.seqF rfl rfl ?_ | refine Ok.seqT rfl rfl ?_ | refine Ok.regF rfl rfl ?_ | refine Ok.regT rfl rfl ?_); simp only [go_sem]; (repeat' with_reducible apply And.intro); all_goals first | (with_reducible first | refine OkW.mk ?_ | refine EndW.mk ?_ | apply AskI.id | apply AskGI.id) | (with_reducible apply KOt.mk; kernel_rfl) | exact trivial | rfl | omega | ((try intro _); first | apply R64 <;> omega | apply room_of <;> omega) | skip)
    refine Ok.cond rfl ?_ ?_
    · intro hx
      ((first | refine Ok.seqF rfl rfl ?_ | refine Ok.seqT rfl rfl ?_ | refine Ok.regF rfl rfl ?_ | refine Ok.regT rfl rfl ?_); simp only [go_sem]; (repeat' with_reducible apply And.intro); all_goals first | (with_reducible first | refine OkW.mk ?_ | refine EndW.mk ?_ | apply AskI.id | apply AskGI.id) | (with_reducible apply KOt.mk; kernel_rfl) | exact trivial | rfl | omega | ((try intro _); first | apply R64 <;> omega | apply room_of <;> omega) | skip)
      (refine Ok.ret ?_; (try dsimp only [thenK, blockK, noGotoK]); simp only [toList_mk, List.toList_toArray, retK_ret, retK_normal, resOK, resV, celV, rowV, frzAll, frzT, subV, subL, go_sem])
      refine DEq.bool ?_
      have hx' : decide (7 < (s.bs.getD i default).ls.length) = true := by
        simp only [decide_eq_true_eq] at hx ⊢; omega
      have : (s.bs.take 6).any (fun b => decide (7 < b.ls.length)) = true := List.any_eq_true.2 ⟨_, at_take hi2 hi1, hx'⟩
      simp [shortS, this]
    · intro hx
      have hx' : decide (7 < (s.bs.getD i default).ls.length) = false := by
        simp only [decide_eq_false_iff_not] at hx ⊢; omega
      (refine Ok.skip ?_; (try dsimp only [thenK, blockK, noGotoK]))
      ((first | refine Ok.seqF rfl rfl ?_ | refine Ok.seqT rfl rfl ?_ | refine Ok.regF rfl rfl ?_ | refine Ok.regT rfl rfl ?_); simp only [go_sem]; (repeat' with_reducible apply And.intro); all_goals first | (with_reducible first | refine OkW.mk ?_ | refine EndW.mk ?_ | apply AskI.id | apply AskGI.id) | (with_reducible apply KOt.mk; kernel_rfl) | exact trivial | rfl | omega | ((try intro _); first | apply R64 <;> omega | apply room_of <;> omega) | skip)
      (try dsimp only [thenK, blockK, noGotoK])
      refine ⟨no_step hi1 h0 hx', ?_⟩
      (refine Sub.of ([0]) ([]) ?_ ?_ ?_ rfl rfl <;> simp only [subB, subB1, subT, subT1, newT, subE, subV, subL, go_sem] <;> (try (repeat' with_reducible apply And.intro)) <;> (try first | exact DEq.refl _ | refine DEq.int ?_ | refine DEq.bool ?_ | omega))
  · intro h0
    refine Ok.seq ?_; (((first | refine Ok.seqF rfl rfl ?_ | refine Ok.seqT rfl rfl ?_ | refine Ok.regF rfl rfl ?_ | refine Ok.regT rfl rfl ?_); simp only [go_sem]; (repeat' with_reducible apply And.intro); all_goals first | (with_reducible first | refine OkW.mk ?_ | refine EndW.mk ?_ | apply AskI.id | apply AskGI.id) | (with_reducible apply KOt.mk; kernel_rfl) | exact trivial | rfl | omega | ((try intro _); first | apply R64 <;> omega | apply room_of <;> omega) | skip)); refine Ok.cond rfl (fun hb => by simp at hb; omega) (fun _ => ?_); (refine Ok.exit ?_; simp only [thenK_exit, blockK_exit, noGotoK_exit, thenK_normal, blockK_normal, noGotoK_normal, ↓reduceIte, Nat.reduceEqDiff])
    ((first | refine Ok.seqF rfl rfl ?_ | refine Ok.seqT rfl rfl ?_ | refine Ok.regF rfl rfl ?_ | refine Ok.regT rfl rfl ?_); simp only [go_sem]; (repeat' with_reducible apply And.intro); all_goals first | (with_reducible first | refine OkW.mk ?_ | refine EndW.mk ?_ | apply AskI.id | apply AskGI.id) | (with_reducible apply KOt.mk; kernel_rfl) | exact trivial | rfl | omega | ((try intro _); first | apply R64 <;> omega | apply room_of <;> omega) | skip)
    (refine Ok.ret ?_; (try dsimp only [thenK, blockK, noGotoK]); simp only [toList_mk, List.toList_toArray, retK_ret, retK_normal, resOK, resV, celV, rowV, frzAll, frzT, subV, subL, go_sem])
    refine DEq.bool ?_
    have e1 : (s.bs.take 6).any (fun b => decide (7 < b.ls.length)) = false := by
      rw [List.any_eq_false]
      intro x hx
      have : s.bs.take 6 = s.bs.take (min s.bs.length 6) := by
        rcases Nat.le_total s.bs.length 6 with h | h
        · rw [Nat.min_eq_left h, List.take_of_length_le h, List.take_length]
        · rw [Nat.min_eq_right h]
      rw [this] at hx
      simp [h0 x hx]
    simp only [shortS, e1, Bool.not_false, Bool.true_and]
    by_cases g1 : s.bs.length ≤ 5 <;> by_cases g2 : s.ks.length ≤ 6 <;> simp [g1, g2] <;> omega
def rightS (s : Street) (i : Int) (p : Place) : Bool := shortS s && lookOk s i p
theorem c23 (s : Street) (hs : s.held) (i : Int) (p : Place) : Ctr Tryz.prog 23 [s.sv, iS i, p.sv] (bS (rightS s i p)) := by
  (refine Ctr.mk (fn := Tryz.f23) rfl rfl rfl rfl rfl Tryz.results23 ?_; dsimp only [args, List.toList_toArray])
  ((first | refine Ok.seqF rfl rfl ?_ | refine Ok.seqT rfl rfl ?_ | refine Ok.regF rfl rfl ?_ | refine Ok.regT rfl rfl ?_); simp only [go_sem]; (repeat' with_reducible apply And.intro); all_goals first | (with_reducible first | refine OkW.mk ?_ | refine EndW.mk ?_ | apply AskI.id | apply AskGI.id) | (with_reducible apply KOt.mk; kernel_rfl) | exact trivial | rfl | omega | ((try intro _); first | apply R64 <;> omega | apply room_of <;> omega) | skip)
  ((first | refine Ok.seqF rfl rfl ?_ | refine Ok.seqT rfl rfl ?_ | refine Ok.regF rfl rfl ?_ | refine Ok.regT rfl rfl ?_); simp only [go_sem]; (repeat' with_reducible apply And.intro); all_goals first | (with_reducible first | refine OkW.mk ?_ | refine EndW.mk ?_ | apply AskI.id | apply AskGI.id) | (with_reducible apply KOt.mk; kernel_rfl) | exact trivial | rfl | omega | ((try intro _); first | apply R64 <;> omega | apply room_of <;> omega) | skip)
  (refine AskI.ret (c28 s hs) ?_; simp only [go_sem]; (repeat' with_reducible apply And.intro); all_goals first | (with_reducible first | refine OkW.mk ?_ | refine EndW.mk ?_ | apply AskI.id | apply AskGI.id) | (with_reducible apply KOt.mk; kernel_rfl) | exact trivial | rfl | omega | ((try intro _); first | apply R64 <;> omega | apply room_of <;> omega) | skip)
  (refine AskGI.ret (fun h => c30 s (short_fit (by simpa using h))) ?_; simp only [go_sem]; (repeat' with_reducible apply And.intro); all_goals first | (with_reducible first | refine OkW.mk ?_ | refine EndW.mk ?_ | apply AskI.id | apply AskGI.id) | (with_reducible apply KOt.mk; kernel_rfl) | exact trivial | rfl | omega | ((try intro _); first | apply R64 <;> omega | apply room_of <;> omega) | skip)
  (refine AskGI.ret (fun h => c31 s (short_fit (by revert h; cases shortS s <;> simp)).1 i) ?_; simp only [go_sem]; (repeat' with_reducible apply And.intro); all_goals first | (with_reducible first | refine OkW.mk ?_ | refine EndW.mk ?_ | apply AskI.id | apply AskGI.id) | (with_reducible apply KOt.mk; kernel_rfl) | exact trivial | rfl | omega | ((try intro _); first | apply R64 <;> omega | apply room_of <;> omega) | skip)
  (refine AskGI.ret (fun h => c32 s p) ?_; simp only [go_sem]; (repeat' with_reducible apply And.intro); all_goals first | (with_reducible first | refine OkW.mk ?_ | refine EndW.mk ?_ | apply AskI.id | apply AskGI.id) | (with_reducible apply KOt.mk; kernel_rfl) | exact trivial | rfl | omega | ((try intro _); first | apply R64 <;> omega | apply room_of <;> omega) | skip)
  (refine Ok.ret ?_; (try dsimp only [thenK, blockK, noGotoK]); simp only [toList_mk, List.toList_toArray, retK_ret, retK_normal, resOK, resV, celV, rowV, frzAll, frzT, subV, subL, go_sem])
  refine DEq.bool ?_
  simp only [rightS, lookOk]
  cases shortS s <;> cases isStreet s <;> cases inR i 0 (s.bs.length - 1) <;> simp
end Go.Proofs.Sight
