/-
  A leaf that is cut in two: LeafHalves returns true at every input, and leaves it as it was.
  No condition beside those that the statement itself names.
-/
import Derived.Test.YtojfpogcfpmblaaGreatDoorB30
import Derived.ChangeMaps5
set_option linter.all false
set_option linter.unusedVariables false
set_option linter.unusedSectionVars false
set_option linter.unusedSimpArgs false
set_option linter.unnecessarySimpa false
namespace Go.Proofs.Leaf
open Go Go.RX Go.Proofs
set_option maxRecDepth 10000
variable [Glob]
theorem c_rin (n lo hi : Int) : Ctr Tryz.prog 60 [iS n, iS lo, iS hi] (bS (inB n lo hi)) := by
 (refine Ctr.mk (fn := Tryz.f60) rfl rfl rfl rfl rfl Tryz.results60 ?_; intro _; dsimp only [args, List.toList_toArray])
 (first|refine qE ?_|refine qD ?_);(simp only [go_sem,↓dP,↓reduceIte];with_reducible and_intros;all_goals first|apply qA|exact qC|skip)
 (first|refine qE ?_|refine qD ?_);(simp only [go_sem,↓dP,↓reduceIte];with_reducible and_intros;all_goals first|apply qA|exact qC|skip)
 (refine Ok.ret ?_; (try dsimp only [thenK, blockK, noGotoK]); simp only [toList_mk, List.toList_toArray, retK_ret, retK_normal, resOK, resV, celV, rowV, frzAll, frzT, subV, subL, go_sem,↓dP,↓reduceIte])
 exact .refl _
end Go.Proofs.Leaf
namespace Go.Proofs.Leaf
open Go Go.RX Go.Proofs
set_option maxRecDepth 10000
variable [Glob]
theorem c_rPiece (J : Job) (hh : J.ps.length < 1000000) (n : Int) : Ctr Tryz.prog 33 [J.sv, iS n] (bS (inB n 0 (J.ps.length - 1))) := by
 (refine Ctr.mk (fn := Tryz.f33) rfl rfl rfl rfl rfl Tryz.results33 ?_; intro _; dsimp only [args, List.toList_toArray])
 (first|refine qE ?_|refine qD ?_);(simp only [go_sem,↓dP,↓reduceIte];with_reducible and_intros;all_goals first|apply qA|exact qC|skip)
 (first|refine qE ?_|refine qD ?_);(simp only [go_sem,↓dP,↓reduceIte];with_reducible and_intros;all_goals first|apply qA|exact qC|skip)
 (refine AskI.ret (c_rin _ _ _) ?_; simp only [go_sem,↓dP,↓reduceIte];with_reducible and_intros;all_goals first|apply qA|exact qC|skip)
 (refine Ok.ret ?_; (try dsimp only [thenK, blockK, noGotoK]); simp only [toList_mk, List.toList_toArray, retK_ret, retK_normal, resOK, resV, celV, rowV, frzAll, frzT, subV, subL, go_sem,↓dP,↓reduceIte])
 exact .refl _
theorem c_rSome (J : Job) (hh : J.ps.length < 1000000) (l : List Int) (hl : l.length < 1000000) : Ctr Tryz.prog 16 [J.sv, ilS l] (bS (someB J.ps.length l)) := by
 (refine Ctr.mk (fn := Tryz.f16) rfl rfl rfl rfl rfl Tryz.results16 ?_; intro _; dsimp only [args, List.toList_toArray])
 (first|refine qE ?_|refine qD ?_);(simp only [go_sem,↓dP,↓reduceIte];with_reducible and_intros;all_goals first|apply qA|exact qC|skip)
 refine Ok.seq ?_
 (first|refine qE ?_|refine qD ?_);(simp only [go_sem,↓dP,↓reduceIte];with_reducible and_intros;all_goals first|apply qA|exact qC|skip)
 refine Ok.block ?_
 refine Ok.count l.length (fun i => ⟨[(1, ilS l), (2, .p 0 0), (5, iS i)], [jobC J], []⟩) (fun i => ∀ j, j < i → pieceAt J.ps.length l j = true) ⟨fun j hj => by omega, ?_⟩ ?_ ?_
 ·(refine Sub.of ([0]) ([]) ?_ ?_ ?_ rfl rfl <;> simp only [subB, subB1, subT, subT1, newT, subE, subV, subL, go_sem,↓dP,↓reduceIte] <;> (try (repeat' with_reducible apply And.intro)) <;> (try first | exact DEq.refl _ | refine DEq.int ?_ | refine DEq.bool ?_ | omega))
 ·intro i hi hJ
  have e1 : ((i : Int) - 1).toNat = i - 1 := by omega
  refine Ok.seq ?_; ((first|refine qE ?_|refine qD ?_);(simp only [go_sem,↓dP,↓reduceIte];with_reducible and_intros;all_goals first|apply qA|exact qC|skip)); refine Ok.cond rfl (fun _ => ?_) (fun hb => by simp at hb; omega); (refine Ok.skip ?_; (try dsimp only [thenK, blockK, noGotoK])); refine Ok.seq ?_; refine Ok.block ?_
  (first|refine qE ?_|refine qD ?_);(simp only [go_sem,↓dP,↓reduceIte];with_reducible and_intros;all_goals first|apply qA|exact qC|skip)
  (refine AskI.ret (c_rPiece J hh _) ?_; simp only [go_sem,↓dP,↓reduceIte];with_reducible and_intros;all_goals first|apply qA|exact qC|skip)
  ·intro h
   simp only [Bool.and_eq_true, beq_iff_eq, decide_eq_true_eq] at h
   omega
  have hst : pieceAt J.ps.length l i = (inB (l.getD i default) 0 (J.ps.length - 1) && (decide (i = 0) || decide (l.getD (i - 1) default < l.getD i default))) := rfl
  refine Ok.cond rfl ?_ ?_
  ·intro hx
   have hF : pieceAt J.ps.length l i = false := by
    rw [hst]
    revert hx
    rw [e1]
    cases inB (l.getD i default) 0 (J.ps.length - 1) <;> simp <;> omega
   (first|refine qE ?_|refine qD ?_);(simp only [go_sem,↓dP,↓reduceIte];with_reducible and_intros;all_goals first|apply qA|exact qC|skip)
   (refine Ok.ret ?_; (try dsimp only [thenK, blockK, noGotoK]); simp only [toList_mk, List.toList_toArray, retK_ret, retK_normal, resOK, resV, celV, rowV, frzAll, frzT, subV, subL, go_sem,↓dP,↓reduceIte])
   rw [someB_no hi hF]
   exact .refl _
  ·intro hx
   have hT : pieceAt J.ps.length l i = true := by
    rw [hst]
    revert hx
    rw [e1]
    cases inB (l.getD i default) 0 (J.ps.length - 1) <;> simp <;> omega
   (refine Ok.skip ?_; (try dsimp only [thenK, blockK, noGotoK]))
   (first|refine qE ?_|refine qD ?_);(simp only [go_sem,↓dP,↓reduceIte];with_reducible and_intros;all_goals first|apply qA|exact qC|skip)
   (try dsimp only [thenK, blockK, noGotoK])
   refine ⟨fun j hj => ?_, ?_⟩
   ·by_cases e : j = i
    ·subst e; exact hT
    ·exact hJ j (by omega)
   (refine Sub.of ([0]) ([]) ?_ ?_ ?_ rfl rfl <;> simp only [subB, subB1, subT, subT1, newT, subE, subV, subL, go_sem,↓dP,↓reduceIte] <;> (try (repeat' with_reducible apply And.intro)) <;> (try first | exact DEq.refl _ | refine DEq.int ?_ | refine DEq.bool ?_ | omega))
 ·intro hJ
  refine Ok.seq ?_; ((first|refine qE ?_|refine qD ?_);(simp only [go_sem,↓dP,↓reduceIte];with_reducible and_intros;all_goals first|apply qA|exact qC|skip)); refine Ok.cond rfl (fun hb => by simp at hb) (fun _ => ?_); (refine Ok.exit ?_; simp only [thenK_exit, blockK_exit, noGotoK_exit, thenK_normal, blockK_normal, noGotoK_normal, ↓reduceIte, Nat.reduceEqDiff])
  (first|refine qE ?_|refine qD ?_);(simp only [go_sem,↓dP,↓reduceIte];with_reducible and_intros;all_goals first|apply qA|exact qC|skip)
  (refine Ok.ret ?_; (try dsimp only [thenK, blockK, noGotoK]); simp only [toList_mk, List.toList_toArray, retK_ret, retK_normal, resOK, resV, celV, rowV, frzAll, frzT, subV, subL, go_sem,↓dP,↓reduceIte])
  rw [someB_yes hJ]
  exact .refl _
end Go.Proofs.Leaf
namespace Go.Proofs.Leaf
open Go Go.RX Go.Proofs
set_option maxRecDepth 10000
variable [Glob]
theorem c_tListed (l : List Int) (v : Int) (hl : l.length < 1000000) : Ctr Tryz.prog 19 [ilS l, iS v] (bS (decide (v ∈ l))) := by
 rw [← any_mem]
 (refine Ctr.mk (fn := Tryz.f19) rfl rfl rfl rfl rfl Tryz.results19 ?_; intro _; dsimp only [args, List.toList_toArray])
 (first|refine qE ?_|refine qD ?_);(simp only [go_sem,↓dP,↓reduceIte];with_reducible and_intros;all_goals first|apply qA|exact qC|skip)
 refine Ok.seq ?_
 (first|refine qE ?_|refine qD ?_);(simp only [go_sem,↓dP,↓reduceIte];with_reducible and_intros;all_goals first|apply qA|exact qC|skip)
 refine Ok.block ?_
 refine Ok.count l.length (fun i => ⟨[(0, ilS l), (1, iS v), (5, iS i)], [], []⟩) (fun i => ∀ x ∈ l.take i, (v == x) = false) ⟨fun x hx => by simp at hx, ?_⟩ ?_ ?_
 ·(refine Sub.of ([]) ([]) ?_ ?_ ?_ rfl rfl <;> simp only [subB, subB1, subT, subT1, newT, subE, subV, subL, go_sem,↓dP,↓reduceIte] <;> (try (repeat' with_reducible apply And.intro)) <;> (try first | exact DEq.refl _ | refine DEq.int ?_ | refine DEq.bool ?_ | omega))
 ·intro i hi h0
  have hsw : ((l.getD i default == v) : Bool) = (v == l.getD i default) := by rw [Bool.eq_iff_iff]; simp only [beq_iff_eq]; exact ⟨Eq.symm, Eq.symm⟩
  refine Ok.seq ?_; ((first|refine qE ?_|refine qD ?_);(simp only [go_sem,↓dP,↓reduceIte];with_reducible and_intros;all_goals first|apply qA|exact qC|skip)); refine Ok.cond rfl (fun _ => ?_) (fun hb => by simp at hb; omega); (refine Ok.skip ?_; (try dsimp only [thenK, blockK, noGotoK])); refine Ok.seq ?_; refine Ok.block ?_
  (first|refine qE ?_|refine qD ?_);(simp only [go_sem,↓dP,↓reduceIte];with_reducible and_intros;all_goals first|apply qA|exact qC|skip)
  refine Ok.cond rfl ?_ ?_
  ·intro hp
   rw [hsw] at hp
   (first|refine qE ?_|refine qD ?_);(simp only [go_sem,↓dP,↓reduceIte];with_reducible and_intros;all_goals first|apply qA|exact qC|skip)
   (refine Ok.ret ?_; (try dsimp only [thenK, blockK, noGotoK]); simp only [toList_mk, List.toList_toArray, retK_ret, retK_normal, resOK, resV, celV, rowV, frzAll, frzT, subV, subL, go_sem,↓dP,↓reduceIte])
   refine DEq.bool ?_
   rw [List.any_eq_true.2 ⟨_, getD_mem hi, hp⟩]
  ·intro hp
   rw [hsw] at hp
   (refine Ok.skip ?_; (try dsimp only [thenK, blockK, noGotoK]))
   (first|refine qE ?_|refine qD ?_);(simp only [go_sem,↓dP,↓reduceIte];with_reducible and_intros;all_goals first|apply qA|exact qC|skip)
   (try dsimp only [thenK, blockK, noGotoK])
   refine ⟨no_step hi h0 hp, ?_⟩
   (refine Sub.of ([]) ([]) ?_ ?_ ?_ rfl rfl <;> simp only [subB, subB1, subT, subT1, newT, subE, subV, subL, go_sem,↓dP,↓reduceIte] <;> (try (repeat' with_reducible apply And.intro)) <;> (try first | exact DEq.refl _ | refine DEq.int ?_ | refine DEq.bool ?_ | omega))
 ·intro h0
  refine Ok.seq ?_; ((first|refine qE ?_|refine qD ?_);(simp only [go_sem,↓dP,↓reduceIte];with_reducible and_intros;all_goals first|apply qA|exact qC|skip)); refine Ok.cond rfl (fun hb => by simp at hb) (fun _ => ?_); (refine Ok.exit ?_; simp only [thenK_exit, blockK_exit, noGotoK_exit, thenK_normal, blockK_normal, noGotoK_normal, ↓reduceIte, Nat.reduceEqDiff])
  (first|refine qE ?_|refine qD ?_);(simp only [go_sem,↓dP,↓reduceIte];with_reducible and_intros;all_goals first|apply qA|exact qC|skip)
  (refine Ok.ret ?_; (try dsimp only [thenK, blockK, noGotoK]); simp only [toList_mk, List.toList_toArray, retK_ret, retK_normal, resOK, resV, celV, rowV, frzAll, frzT, subV, subL, go_sem,↓dP,↓reduceIte])
  refine DEq.bool ?_
  rw [List.any_eq_false.2 (fun x hx => by simp [h0 x (by simpa using hx)])]
end Go.Proofs.Leaf
namespace Go.Proofs.Leaf
open Go Go.RX Go.Proofs
set_option maxRecDepth 10000
variable [Glob]
theorem c_rJob (J : Job) (hh : J.held) : Ctr Tryz.prog 24 [J.sv] (bS (jobB J)) := by
 have hh1 := hh.1
 have hh2 := hh.2
 (refine Ctr.mk (fn := Tryz.f24) rfl rfl rfl rfl rfl Tryz.results24 ?_; intro _; dsimp only [args, List.toList_toArray])
 (first|refine qE ?_|refine qD ?_);(simp only [go_sem,↓dP,↓reduceIte];with_reducible and_intros;all_goals first|apply qA|exact qC|skip)
 refine Ok.seq ?_
 (first|refine qE ?_|refine qD ?_);(simp only [go_sem,↓dP,↓reduceIte];with_reducible and_intros;all_goals first|apply qA|exact qC|skip)
 (refine AskI.ret (c_rin _ _ _) ?_; simp only [go_sem,↓dP,↓reduceIte];with_reducible and_intros;all_goals first|apply qA|exact qC|skip)
 (refine AskGI.ret (fun _ => c_rin _ _ _) ?_; simp only [go_sem,↓dP,↓reduceIte];with_reducible and_intros;all_goals first|apply qA|exact qC|skip)
 (refine AskGI.ret (fun _ => c_rin _ _ _) ?_; simp only [go_sem,↓dP,↓reduceIte];with_reducible and_intros;all_goals first|apply qA|exact qC|skip)
 ·intro h
  have : inB J.book 1 25 = true := by revert h; cases inB J.book 1 25 <;> simp
  rw [inB_iff] at this
  exact R64 (by omega) (by omega)
 (refine AskGI.ret (fun _ => c_rin _ _ _) ?_; simp only [go_sem,↓dP,↓reduceIte];with_reducible and_intros;all_goals first|apply qA|exact qC|skip)
 (refine AskGI.ret (fun _ => c_rin _ _ _) ?_; simp only [go_sem,↓dP,↓reduceIte];with_reducible and_intros;all_goals first|apply qA|exact qC|skip)
 (refine AskGI.ret (fun _ => c_rin _ _ _) ?_; simp only [go_sem,↓dP,↓reduceIte];with_reducible and_intros;all_goals first|apply qA|exact qC|skip)
 refine Ok.cond rfl ?_ ?_
 ·intro hb
  (first|refine qE ?_|refine qD ?_);(simp only [go_sem,↓dP,↓reduceIte];with_reducible and_intros;all_goals first|apply qA|exact qC|skip)
  (refine Ok.ret ?_; (try dsimp only [thenK, blockK, noGotoK]); simp only [toList_mk, List.toList_toArray, retK_ret, retK_normal, resOK, resV, celV, rowV, frzAll, frzT, subV, subL, go_sem,↓dP,↓reduceIte])
  refine DEq.bool ?_
  have : headB J = false := by
   revert hb
   unfold headB
   cases inB J.wide 1 6 <;> cases inB J.high 1 6 <;> cases inB J.book 1 25 <;> cases inB J.spoilt 0 (J.book - 1) <;> cases inB J.gs.length 1 3 <;> cases inB J.ps.length 1 5 <;> simp
  simp [jobB, this]
 intro hb
 have hhead : headB J = true := by
  revert hb
  unfold headB
  cases inB J.wide 1 6 <;> cases inB J.high 1 6 <;> cases inB J.book 1 25 <;> cases inB J.spoilt 0 (J.book - 1) <;> cases inB J.gs.length 1 3 <;> cases inB J.ps.length 1 5 <;> simp
 (refine Ok.skip ?_; (try dsimp only [thenK, blockK, noGotoK]))
 refine Ok.seq ?_
 (first|refine qE ?_|refine qD ?_);(simp only [go_sem,↓dP,↓reduceIte];with_reducible and_intros;all_goals first|apply qA|exact qC|skip)
 refine Ok.block ?_
 refine Ok.count J.gs.length (fun i => ⟨[(1, .p 0 0), (3, iS i)], [jobC J], []⟩) (fun i => ∀ x ∈ J.gs.take i, (!groundB x) = false) ⟨fun x hx => by simp at hx, ?_⟩ ?_ ?_
 ·(refine Sub.of ([0]) ([]) ?_ ?_ ?_ rfl rfl <;> simp only [subB, subB1, subT, subT1, newT, subE, subV, subL, go_sem,↓dP,↓reduceIte] <;> (try (repeat' with_reducible apply And.intro)) <;> (try first | exact DEq.refl _ | refine DEq.int ?_ | refine DEq.bool ?_ | omega))
 ·intro i hi h0
  refine Ok.seq ?_; ((first|refine qE ?_|refine qD ?_);(simp only [go_sem,↓dP,↓reduceIte];with_reducible and_intros;all_goals first|apply qA|exact qC|skip)); refine Ok.cond rfl (fun _ => ?_) (fun hb => by simp at hb; omega); (refine Ok.skip ?_; (try dsimp only [thenK, blockK, noGotoK])); refine Ok.seq ?_; refine Ok.block ?_
  (first|refine qE ?_|refine qD ?_);(simp only [go_sem,↓dP,↓reduceIte];with_reducible and_intros;all_goals first|apply qA|exact qC|skip)
  (first|refine qE ?_|refine qD ?_);(simp only [go_sem,↓dP,↓reduceIte];with_reducible and_intros;all_goals first|apply qA|exact qC|skip)
  (refine AskI.ret (c_rin _ _ _) ?_; simp only [go_sem,↓dP,↓reduceIte];with_reducible and_intros;all_goals first|apply qA|exact qC|skip)
  (refine AskGI.ret (fun _ => c_rin _ _ _) ?_; simp only [go_sem,↓dP,↓reduceIte];with_reducible and_intros;all_goals first|apply qA|exact qC|skip)
  (refine AskGI.ret (fun _ => c_rin _ _ _) ?_; simp only [go_sem,↓dP,↓reduceIte];with_reducible and_intros;all_goals first|apply qA|exact qC|skip)
  (refine AskGI.ret (fun _ => c_rin _ _ _) ?_; simp only [go_sem,↓dP,↓reduceIte];with_reducible and_intros;all_goals first|apply qA|exact qC|skip)
  have hg : groundB (J.gs.getD i default) = (inB (J.gs.getD i default).rl 0 12 && inB (J.gs.getD i default).rh (J.gs.getD i default).rl 12 && inB (J.gs.getD i default).ll (J.gs.getD i default).rh 12 && inB (J.gs.getD i default).lh (J.gs.getD i default).ll 12) := rfl
  refine Ok.cond rfl ?_ ?_
  ·intro hx
   have hx' : (!groundB (J.gs.getD i default)) = true := by
    rw [hg]
    revert hx
    cases inB (J.gs.getD i default).rl 0 12 <;> cases inB (J.gs.getD i default).rh (J.gs.getD i default).rl 12 <;> cases inB (J.gs.getD i default).ll (J.gs.getD i default).rh 12 <;> cases inB (J.gs.getD i default).lh (J.gs.getD i default).ll 12 <;> simp
   (first|refine qE ?_|refine qD ?_);(simp only [go_sem,↓dP,↓reduceIte];with_reducible and_intros;all_goals first|apply qA|exact qC|skip)
   (refine Ok.ret ?_; (try dsimp only [thenK, blockK, noGotoK]); simp only [toList_mk, List.toList_toArray, retK_ret, retK_normal, resOK, resV, celV, rowV, frzAll, frzT, subV, subL, go_sem,↓dP,↓reduceIte])
   refine DEq.bool ?_
   have : J.gs.any (fun g => !groundB g) = true := List.any_eq_true.2 ⟨_, getD_mem hi, hx'⟩
   rw [jobB, all_any, this]; simp
  ·intro hx
   have hx' : (!groundB (J.gs.getD i default)) = false := by
    rw [hg]
    revert hx
    cases inB (J.gs.getD i default).rl 0 12 <;> cases inB (J.gs.getD i default).rh (J.gs.getD i default).rl 12 <;> cases inB (J.gs.getD i default).ll (J.gs.getD i default).rh 12 <;> cases inB (J.gs.getD i default).lh (J.gs.getD i default).ll 12 <;> simp
   (refine Ok.skip ?_; (try dsimp only [thenK, blockK, noGotoK]))
   (first|refine qE ?_|refine qD ?_);(simp only [go_sem,↓dP,↓reduceIte];with_reducible and_intros;all_goals first|apply qA|exact qC|skip)
   (try dsimp only [thenK, blockK, noGotoK])
   refine ⟨no_step (q := fun g => !groundB g) hi h0 hx', ?_⟩
   (refine Sub.of ([0]) ([]) ?_ ?_ ?_ rfl rfl <;> simp only [subB, subB1, subT, subT1, newT, subE, subV, subL, go_sem,↓dP,↓reduceIte] <;> (try (repeat' with_reducible apply And.intro)) <;> (try first | exact DEq.refl _ | refine DEq.int ?_ | refine DEq.bool ?_ | omega))
 intro h0
 have hgs : J.gs.any (fun g => !groundB g) = false := List.any_eq_false.2 (fun x hx => by simp [h0 x (by simpa using hx)])
 refine Ok.seq ?_; ((first|refine qE ?_|refine qD ?_);(simp only [go_sem,↓dP,↓reduceIte];with_reducible and_intros;all_goals first|apply qA|exact qC|skip)); refine Ok.cond rfl (fun hb => by simp at hb) (fun _ => ?_); (refine Ok.exit ?_; simp only [thenK_exit, blockK_exit, noGotoK_exit, thenK_normal, blockK_normal, noGotoK_normal, ↓reduceIte, Nat.reduceEqDiff])
 refine Ok.seq ?_
 (first|refine qE ?_|refine qD ?_);(simp only [go_sem,↓dP,↓reduceIte];with_reducible and_intros;all_goals first|apply qA|exact qC|skip)
 refine Ok.block ?_
 refine Ok.count J.ps.length (fun i => ⟨[(1, .p 0 0), (5, iS i)], [jobC J], []⟩) (fun i => ∀ x ∈ J.ps.take i, (!pieceB J.gs.length x) = false) ⟨fun x hx => by simp at hx, ?_⟩ ?_ ?_
 ·(refine Sub.of ([0]) ([]) ?_ ?_ ?_ rfl rfl <;> simp only [subB, subB1, subT, subT1, newT, subE, subV, subL, go_sem,↓dP,↓reduceIte] <;> (try (repeat' with_reducible apply And.intro)) <;> (try first | exact DEq.refl _ | refine DEq.int ?_ | refine DEq.bool ?_ | omega))
 ·intro i hi h0
  refine Ok.seq ?_; ((first|refine qE ?_|refine qD ?_);(simp only [go_sem,↓dP,↓reduceIte];with_reducible and_intros;all_goals first|apply qA|exact qC|skip)); refine Ok.cond rfl (fun _ => ?_) (fun hb => by simp at hb; omega); (refine Ok.skip ?_; (try dsimp only [thenK, blockK, noGotoK])); refine Ok.seq ?_; refine Ok.block ?_
  (first|refine qE ?_|refine qD ?_);(simp only [go_sem,↓dP,↓reduceIte];with_reducible and_intros;all_goals first|apply qA|exact qC|skip)
  (first|refine qE ?_|refine qD ?_);(simp only [go_sem,↓dP,↓reduceIte];with_reducible and_intros;all_goals first|apply qA|exact qC|skip)
  (refine AskI.ret (c_rin _ _ _) ?_; simp only [go_sem,↓dP,↓reduceIte];with_reducible and_intros;all_goals first|apply qA|exact qC|skip)
  (refine AskGI.ret (fun _ => c_rin _ _ _) ?_; simp only [go_sem,↓dP,↓reduceIte];with_reducible and_intros;all_goals first|apply qA|exact qC|skip)
  (refine AskGI.ret (fun _ => c_rin _ _ _) ?_; simp only [go_sem,↓dP,↓reduceIte];with_reducible and_intros;all_goals first|apply qA|exact qC|skip)
  have hg : pieceB J.gs.length (J.ps.getD i default) = (inB (J.ps.getD i default).w 1 6 && inB (J.ps.getD i default).h 1 6 && inB (J.ps.getD i default).g 0 (J.gs.length - 1)) := rfl
  refine Ok.cond rfl ?_ ?_
  ·intro hx
   have hx' : (!pieceB J.gs.length (J.ps.getD i default)) = true := by
    rw [hg]
    revert hx
    cases inB (J.ps.getD i default).w 1 6 <;> cases inB (J.ps.getD i default).h 1 6 <;> cases inB (J.ps.getD i default).g 0 (J.gs.length - 1) <;> simp
   (first|refine qE ?_|refine qD ?_);(simp only [go_sem,↓dP,↓reduceIte];with_reducible and_intros;all_goals first|apply qA|exact qC|skip)
   (refine Ok.ret ?_; (try dsimp only [thenK, blockK, noGotoK]); simp only [toList_mk, List.toList_toArray, retK_ret, retK_normal, resOK, resV, celV, rowV, frzAll, frzT, subV, subL, go_sem,↓dP,↓reduceIte])
   refine DEq.bool ?_
   have : J.ps.any (fun p => !pieceB J.gs.length p) = true := List.any_eq_true.2 ⟨_, getD_mem hi, hx'⟩
   rw [jobB, all_any J.ps, this]; simp
  ·intro hx
   have hx' : (!pieceB J.gs.length (J.ps.getD i default)) = false := by
    rw [hg]
    revert hx
    cases inB (J.ps.getD i default).w 1 6 <;> cases inB (J.ps.getD i default).h 1 6 <;> cases inB (J.ps.getD i default).g 0 (J.gs.length - 1) <;> simp
   (refine Ok.skip ?_; (try dsimp only [thenK, blockK, noGotoK]))
   (first|refine qE ?_|refine qD ?_);(simp only [go_sem,↓dP,↓reduceIte];with_reducible and_intros;all_goals first|apply qA|exact qC|skip)
   (try dsimp only [thenK, blockK, noGotoK])
   refine ⟨no_step (q := fun p => !pieceB J.gs.length p) hi h0 hx', ?_⟩
   (refine Sub.of ([0]) ([]) ?_ ?_ ?_ rfl rfl <;> simp only [subB, subB1, subT, subT1, newT, subE, subV, subL, go_sem,↓dP,↓reduceIte] <;> (try (repeat' with_reducible apply And.intro)) <;> (try first | exact DEq.refl _ | refine DEq.int ?_ | refine DEq.bool ?_ | omega))
 ·intro h0
  have hps : J.ps.any (fun p => !pieceB J.gs.length p) = false := List.any_eq_false.2 (fun x hx => by simp [h0 x (by simpa using hx)])
  refine Ok.seq ?_; ((first|refine qE ?_|refine qD ?_);(simp only [go_sem,↓dP,↓reduceIte];with_reducible and_intros;all_goals first|apply qA|exact qC|skip)); refine Ok.cond rfl (fun hb => by simp at hb) (fun _ => ?_); (refine Ok.exit ?_; simp only [thenK_exit, blockK_exit, noGotoK_exit, thenK_normal, blockK_normal, noGotoK_normal, ↓reduceIte, Nat.reduceEqDiff])
  (first|refine qE ?_|refine qD ?_);(simp only [go_sem,↓dP,↓reduceIte];with_reducible and_intros;all_goals first|apply qA|exact qC|skip)
  (refine Ok.ret ?_; (try dsimp only [thenK, blockK, noGotoK]); simp only [toList_mk, List.toList_toArray, retK_ret, retK_normal, resOK, resV, celV, rowV, frzAll, frzT, subV, subL, go_sem,↓dP,↓reduceIte])
  refine DEq.bool ?_
  rw [jobB, hhead, all_any, all_any, hgs, hps]
  rfl
end Go.Proofs.Leaf
namespace Go.Proofs.Leaf
open Go Go.RX Go.Proofs
set_option maxRecDepth 10000
variable [Glob]
theorem asI_append (L M : List Nat) : asI (L ++ M) = asI L ++ asI M := by simp
theorem setL_bit (L : List Nat) (i : Nat) : (setL (asI L)).testBit i = decide (i ∈ L) := by
 induction L using revRec with
 | nil => simp [setL]
 | append_singleton L x ih =>
  rw [asI_append, show asI [x] = [(x : Int)] from rfl, setL_snoc, Nat.testBit_or, ih, Nat.testBit_two_pow]
  simp only [Int.toNat_natCast, List.mem_append, List.mem_singleton]
  by_cases h1 : i ∈ L <;> by_cases h2 : x = i <;> simp [h1, h2] <;> omega
end Go.Proofs.Leaf
namespace Go.Proofs.Leaf
open Go Go.RX Go.Proofs
set_option maxRecDepth 10000
variable [Glob]
def shortB (J : Job) : Bool := decide (J.gs.length ≤ 5) && decide (J.ps.length ≤ 7)
theorem c_lshort (J : Job) (h : J.far) : Ctr Tryz.prog 21 [J.sv] (bS (shortB J)) := by
 have h1 := h.1
 have h2 := h.2
 (refine Ctr.mk (fn := Tryz.f21) rfl rfl rfl rfl rfl Tryz.results21 ?_; intro _; dsimp only [args, List.toList_toArray])
 (first|refine qE ?_|refine qD ?_);(simp only [go_sem,↓dP,↓reduceIte];with_reducible and_intros;all_goals first|apply qA|exact qC|skip)
 (first|refine qE ?_|refine qD ?_);(simp only [go_sem,↓dP,↓reduceIte];with_reducible and_intros;all_goals first|apply qA|exact qC|skip)
 (refine Ok.ret ?_; (try dsimp only [thenK, blockK, noGotoK]); simp only [toList_mk, List.toList_toArray, retK_ret, retK_normal, resOK, resV, celV, rowV, frzAll, frzT, subV, subL, go_sem,↓dP,↓reduceIte])
 refine DEq.bool ?_
 unfold shortB
 by_cases g1 : J.gs.length ≤ 5 <;> by_cases g2 : J.ps.length ≤ 7 <;> simp [g1, g2] <;> omega
theorem short_held {J : Job} (h : shortB J = true) : J.held := by
 simp only [shortB, Bool.and_eq_true, decide_eq_true_eq] at h
 exact ⟨by omega, by omega⟩
def slimB (l : List Int) : Bool := decide (l.length ≤ 8)
theorem c_lslim (l : List Int) (h : l.length ≤ 9223372036854775807) : Ctr Tryz.prog 15 [ilS l] (bS (slimB l)) := by
 (refine Ctr.mk (fn := Tryz.f15) rfl rfl rfl rfl rfl Tryz.results15 ?_; intro _; dsimp only [args, List.toList_toArray])
 (first|refine qE ?_|refine qD ?_);(simp only [go_sem,↓dP,↓reduceIte];with_reducible and_intros;all_goals first|apply qA|exact qC|skip)
 (first|refine qE ?_|refine qD ?_);(simp only [go_sem,↓dP,↓reduceIte];with_reducible and_intros;all_goals first|apply qA|exact qC|skip)
 (refine Ok.ret ?_; (try dsimp only [thenK, blockK, noGotoK]); simp only [toList_mk, List.toList_toArray, retK_ret, retK_normal, resOK, resV, celV, rowV, frzAll, frzT, subV, subL, go_sem,↓dP,↓reduceIte])
 refine DEq.bool ?_
 unfold slimB
 by_cases g : l.length ≤ 8 <;> simp [g] <;> omega
def rightB (J : Job) : Bool := shortB J && jobB J
theorem c_lright (J : Job) (h : J.far) : Ctr Tryz.prog 14 [J.sv] (bS (rightB J)) := by
 (refine Ctr.mk (fn := Tryz.f14) rfl rfl rfl rfl rfl Tryz.results14 ?_; intro _; dsimp only [args, List.toList_toArray])
 (first|refine qE ?_|refine qD ?_);(simp only [go_sem,↓dP,↓reduceIte];with_reducible and_intros;all_goals first|apply qA|exact qC|skip)
 (first|refine qE ?_|refine qD ?_);(simp only [go_sem,↓dP,↓reduceIte];with_reducible and_intros;all_goals first|apply qA|exact qC|skip)
 (refine AskI.ret (c_lshort J h) ?_; simp only [go_sem,↓dP,↓reduceIte];with_reducible and_intros;all_goals first|apply qA|exact qC|skip)
 (refine AskGI.ret (fun h => c_rJob J (short_held (by simpa using h))) ?_; simp only [go_sem,↓dP,↓reduceIte];with_reducible and_intros;all_goals first|apply qA|exact qC|skip)
 (refine Ok.ret ?_; (try dsimp only [thenK, blockK, noGotoK]); simp only [toList_mk, List.toList_toArray, retK_ret, retK_normal, resOK, resV, celV, rowV, frzAll, frzT, subV, subL, go_sem,↓dP,↓reduceIte])
 refine DEq.bool ?_
 unfold rightB
 cases shortB J <;> simp
def joinK (a b : List Int) (k : Nat) : List Nat := (List.range k).filter (fun i => decide ((i : Int) ∈ a) || decide ((i : Int) ∈ b))
theorem joinK_succ (a b : List Int) (k : Nat) : asI (joinK a b (k + 1)) = asI (joinK a b k) ++ (if (decide ((k : Int) ∈ a) || decide ((k : Int) ∈ b)) = true then [(k : Int)] else []) := by
 unfold joinK
 rw [List.range_succ, List.filter_append, asI_append]
 by_cases h : (decide ((k : Int) ∈ a) || decide ((k : Int) ∈ b)) = true
 ·rw [if_pos h, List.filter_cons, if_pos h, List.filter_nil]; rfl
 ·rw [if_neg h, List.filter_cons, if_neg h, List.filter_nil]; rfl
theorem c_ljoined (J : Job) (hn : J.ps.length ≤ 100) (a b : List Int) (ha : a.length < 1000000) (hb' : b.length < 1000000) : Ctr Tryz.prog 20 [J.sv, ilS a, ilS b] (ilS (asI (joinK a b J.ps.length))) := by
  (refine Ctr.mk (fn := Tryz.f20) rfl rfl rfl rfl rfl Tryz.results20 ?_; intro _; dsimp only [args, List.toList_toArray])
  (first|refine qE ?_|refine qD ?_);(simp only [go_sem,↓dP,↓reduceIte];with_reducible and_intros;all_goals first|apply qA|exact qC|skip)
  (first|refine qE ?_|refine qD ?_);(simp only [go_sem,↓dP,↓reduceIte];with_reducible and_intros;all_goals first|apply qA|exact qC|skip)
  refine Ok.seq ?_
  (first|refine qE ?_|refine qD ?_);(simp only [go_sem,↓dP,↓reduceIte];with_reducible and_intros;all_goals first|apply qA|exact qC|skip)
  refine Ok.block ?_
  refine Ok.count J.ps.length (fun i => ⟨[(1, ilS a), (2, ilS b), (3, .p 0 0), (7, .tk 0), (8, iS i)], [jobC J], [ownD 3 1 intD (asI (joinK a b i))]⟩) (fun _ => True) ⟨trivial, ?_⟩ ?_ ?_
  · (refine Sub.of ([0]) ([none]) ?_ ?_ ?_ rfl rfl <;> simp only [subB, subB1, subT, subT1, newT, subE, subV, subL, go_sem,↓dP,↓reduceIte] <;> (try (repeat' with_reducible apply And.intro)) <;> (try first | exact DEq.refl _ | refine DEq.int ?_ | refine DEq.bool ?_ | omega))
    simp [joinK]
  · intro i hi _
    have hlen : (asI (joinK a b i)).length ≤ i := by
      rw [asI_len]
      exact Nat.le_trans (List.length_filter_le _ _) (by simp)
    have hsn := joinK_succ a b i
    refine Ok.seq ?_; ((first|refine qE ?_|refine qD ?_);(simp only [go_sem,↓dP,↓reduceIte];with_reducible and_intros;all_goals first|apply qA|exact qC|skip)); refine Ok.cond rfl (fun _ => ?_) (fun hb => by simp at hb; omega); (refine Ok.skip ?_; (try dsimp only [thenK, blockK, noGotoK])); refine Ok.seq ?_; refine Ok.block ?_
    (first|refine qE ?_|refine qD ?_);(simp only [go_sem,↓dP,↓reduceIte];with_reducible and_intros;all_goals first|apply qA|exact qC|skip)
    (refine AskI.ret (c_tListed a i ha) ?_; simp only [go_sem,↓dP,↓reduceIte];with_reducible and_intros;all_goals first|apply qA|exact qC|skip)
    (refine AskGI.ret (fun _ => c_tListed b i hb') ?_; simp only [go_sem,↓dP,↓reduceIte];with_reducible and_intros;all_goals first|apply qA|exact qC|skip)
    refine Ok.cond rfl ?_ ?_
    · intro hb
      rw [if_pos hb] at hsn
      (first|refine qE ?_|refine qD ?_);(simp only [go_sem,↓dP,↓reduceIte];with_reducible and_intros;all_goals first|apply qA|exact qC|skip)
      (try dsimp only [thenK, blockK, noGotoK])
      (first|refine qE ?_|refine qD ?_);(simp only [go_sem,↓dP,↓reduceIte];with_reducible and_intros;all_goals first|apply qA|exact qC|skip)
      (try dsimp only [thenK, blockK, noGotoK])
      refine ⟨trivial, ?_⟩
      rw [hsn]
      (refine Sub.of ([0]) ([some 1]) ?_ ?_ ?_ rfl rfl <;> simp only [subB, subB1, subT, subT1, newT, subE, subV, subL, go_sem,↓dP,↓reduceIte] <;> (try (repeat' with_reducible apply And.intro)) <;> (try first | exact DEq.refl _ | refine DEq.int ?_ | refine DEq.bool ?_ | omega))
      · simp
      · exact snoc_D (fun c hc => by have : c = 0 := by omega
                                     subst this; rfl)
    · intro hb
      rw [if_neg (by rw [hb]; simp), List.append_nil] at hsn
      (refine Ok.skip ?_; (try dsimp only [thenK, blockK, noGotoK]))
      (try dsimp only [thenK, blockK, noGotoK])
      (first|refine qE ?_|refine qD ?_);(simp only [go_sem,↓dP,↓reduceIte];with_reducible and_intros;all_goals first|apply qA|exact qC|skip)
      (try dsimp only [thenK, blockK, noGotoK])
      refine ⟨trivial, ?_⟩
      rw [hsn]
      (refine Sub.of ([0]) ([some 0]) ?_ ?_ ?_ rfl rfl <;> simp only [subB, subB1, subT, subT1, newT, subE, subV, subL, go_sem,↓dP,↓reduceIte] <;> (try (repeat' with_reducible apply And.intro)) <;> (try first | exact DEq.refl _ | refine DEq.int ?_ | refine DEq.bool ?_ | omega))
      exact fun _ _ _ _ => DEq.refl _
  · intro _
    refine Ok.seq ?_; ((first|refine qE ?_|refine qD ?_);(simp only [go_sem,↓dP,↓reduceIte];with_reducible and_intros;all_goals first|apply qA|exact qC|skip)); refine Ok.cond rfl (fun hb => by simp at hb) (fun _ => ?_); (refine Ok.exit ?_; simp only [thenK_exit, blockK_exit, noGotoK_exit, thenK_normal, blockK_normal, noGotoK_normal, ↓reduceIte, Nat.reduceEqDiff])
    (first|refine qE ?_|refine qD ?_);(simp only [go_sem,↓dP,↓reduceIte];with_reducible and_intros;all_goals first|apply qA|exact qC|skip)
    (refine Ok.ret ?_; (try dsimp only [thenK, blockK, noGotoK]); simp only [toList_mk, List.toList_toArray, retK_ret, retK_normal, resOK, resV, celV, rowV, frzAll, frzT, subV, subL, go_sem,↓dP,↓reduceIte])
    exact .refl _
end Go.Proofs.Leaf
namespace Go.Proofs.YtojfpogcfpmblaaGreatDoor
open Go Go.RX Go.Proofs.Leaf Go.RowKit Go.ChangeShapes Go.WideShapes Go.ChangeAt
set_option maxRecDepth 100000
section
variable {H : Type} {enc : TypeId × Value → H} {W : World}
end
theorem opensAll_cons {t : TypeId} {ts : List TypeId} {As : List SV} (h : opensAll (t :: ts) As) : ∃ A Bs, As = A :: Bs ∧ opens t A ∧ opensAll ts Bs := by
 cases As with
 | nil => exact h.elim
 | cons A Bs => exact ⟨A, Bs, rfl, h.1, h.2⟩
theorem opensAll_nil {As : List SV} (h : opensAll [] As) : As = [] := by
 cases As with
 | nil => rfl
 | cons A Bs => exact h.elim
end Go.Proofs.YtojfpogcfpmblaaGreatDoor
namespace Go.Proofs.Leaf
open Go Go.RX Go.Proofs Go.RowKit
set_option maxRecDepth 10000
section
instance inst_g0_5:Glob:=g0
theorem ok_good {J : Job} (h : J.ok) : good J.ps := fun p hp => by have := h.ps p hp; omega
end
end Go.Proofs.Leaf
namespace Go.Proofs.Leaf
open Go Go.RX Go.Proofs Go.RowKit
set_option maxRecDepth 100000
section
instance inst_gT_6:Glob:=gT
theorem c_lfits (J : Job) (h : J.ok) (L : List Nat) (hL : rises J.ps.length 0 L) : Ctr Tryz.prog 18 [J.sv, ilS (asI L)] (.tup [bS (J.fit (setL (asI L))), bS true]) := by
 (refine Ctr.mk (fn := Tryz.f18) rfl rfl rfl rfl rfl Tryz.results18 ?_; intro _; dsimp only [args, List.toList_toArray])
 (first|refine qE ?_|refine qD ?_);(simp only [go_sem,↓dP,↓reduceIte];with_reducible and_intros;all_goals first|apply qA|exact qC|skip)
 (first|refine qE ?_|refine qD ?_);(simp only [go_sem,↓dP,↓reduceIte];with_reducible and_intros;all_goals first|apply qA|exact qC|skip)
 (refine AskI.ret (toT (c_Fits J h L hL)) ?_; simp only [go_sem,↓dP,↓reduceIte];with_reducible and_intros;all_goals first|apply qA|exact qC|skip)
 (first|refine qE ?_|refine qD ?_);(simp only [go_sem,↓dP,↓reduceIte];with_reducible and_intros;all_goals first|apply qA|exact qC|skip)
 (refine Ok.ret ?_; (try dsimp only [thenK, blockK, noGotoK]); simp only [toList_mk, List.toList_toArray, retK_ret, retK_normal, resOK, resV, celV, rowV, frzAll, frzT, subV, subL, go_sem,↓dP,↓reduceIte])
 ((repeat' with_reducible apply And.intro) <;> (first | exact DEq.refl _ | refine DEq.int ?_ | refine DEq.bool ?_ | skip))
end
section
instance inst_g0_7:Glob:=g0
theorem joinK_rises (A B : List Nat) (k : Nat) : rises k 0 (joinK (asI A) (asI B) k) := rises_of (List.Pairwise.filter _ List.pairwise_lt_range) (fun x hx => by
 have := List.mem_range.1 (List.mem_filter.1 hx).1
 omega)
theorem joinK_set {A B : List Nat} {k : Nat} (hA : rises k 0 A) (hB : rises k 0 B) : setL (asI (joinK (asI A) (asI B) k)) = setL (asI A) ||| setL (asI B) := by
 apply Nat.eq_of_testBit_eq
 intro i
 rw [Nat.testBit_or, setL_bit, setL_bit, setL_bit, Bool.eq_iff_iff, Bool.or_eq_true, decide_eq_true_iff, decide_eq_true_iff, decide_eq_true_iff]
 unfold joinK
 rw [List.mem_filter, List.mem_range, Bool.or_eq_true, decide_eq_true_iff, decide_eq_true_iff]
 have e : ∀ L : List Nat, ((i : Int) ∈ asI L) ↔ i ∈ L := fun L => by
  rw [List.mem_map]
  exact ⟨fun ⟨a, ha, q⟩ => by rwa [show i = a by omega], fun q => ⟨i, q, rfl⟩⟩
 rw [e, e]
 constructor
 ·exact fun q => q.2
 ·rintro (q | q)
  ·exact ⟨(rises_mem hA _ q).2, .inl q⟩
  ·exact ⟨(rises_mem hB _ q).2, .inr q⟩
theorem set_disj {A B : List Nat} (h : ∀ x ∈ A, x ∉ B) : setL (asI A) &&& setL (asI B) = 0 := by
 apply Nat.eq_of_testBit_eq
 intro i
 rw [Nat.testBit_and, setL_bit, setL_bit, Nat.zero_testBit]
 by_cases q : i ∈ A
 ·simp [q, h i q]
 ·simp [q]
theorem or_parts {a b : Nat} (h : a &&& b = 0) : a &&& (a ||| b) = a ∧ (a ||| b) ^^^ a = b := by
 constructor
 ·apply Nat.eq_of_testBit_eq; intro i; rw [Nat.testBit_and, Nat.testBit_or]; cases a.testBit i <;> simp
 ·apply Nat.eq_of_testBit_eq; intro i
  have : (a &&& b).testBit i = false := by rw [h, Nat.zero_testBit]
  rw [Nat.testBit_and] at this
  rw [Nat.testBit_xor, Nat.testBit_or]
  revert this
  cases a.testBit i <;> cases b.testBit i <;> simp
theorem halves_fit {J : Job} (h : J.ok) {n : Nat} {up : Bool} (h1 : 0 < n) (h2 : (n : Int) < (if up = true then J.high else J.wide)) {A B : List Nat} (hd : ∀ x ∈ A, x ∉ B) {Ja Jb : Job} (ha : Ja = if up = true then { J with high := n } else { J with wide := n }) (hb : Jb = if up = true then { J with high := J.high - n } else { J with wide := J.wide - n })
  (fa : Ja.fit (setL (asI A)) = true) (fb : Jb.fit (setL (asI B)) = true) : J.fit (setL (asI A) ||| setL (asI B)) = true := by
 obtain ⟨p1, p2⟩ := or_parts (set_disj hd)
 subst ha; subst hb
 cases up with
 | true =>
  simp only [if_true] at *
  refine join_l (ok_good h) h1 (n := n) (t := setL (asI A)) (by omega) p1 ?_ ?_
  ·exact fa
  ·rw [p2]
   have : (J.high - (n : Int)).toNat = J.high.toNat - n := by omega
   rw [← this]; exact fb
 | false =>
  simp only [Bool.false_eq_true, if_false] at *
  refine join_u (ok_good h) h1 (n := n) (t := setL (asI A)) (by omega) p1 ?_ ?_
  ·exact fa
  ·rw [p2]
   have : (J.wide - (n : Int)).toNat = J.wide.toNat - n := by omega
   rw [← this]; exact fb
end
section
instance inst_gT_8:Glob:=gT
theorem law_Halves (J : Job) (hf : J.far) (n : Int) (up : Bool) (l : List Int) (hl : l.length ≤ maxLen) (m : List Int) (hm : m.length ≤ maxLen) : Ctr Tryz.prog 4 [J.sv, iS n, bS up, ilS l, ilS m] (bS true) := by
 have hl' : l.length ≤ 9223372036854775807 := Nat.le_trans hl (by decide)
 have hm' : m.length ≤ 9223372036854775807 := Nat.le_trans hm (by decide)
 (refine Ctr.mk (fn := Tryz.f4) rfl rfl rfl rfl rfl Tryz.results4 ?_; intro _; dsimp only [args, List.toList_toArray])
 (first|refine qE ?_|refine qD ?_);(simp only [go_sem,↓dP,↓reduceIte];with_reducible and_intros;all_goals first|apply qA|exact qC|skip)
 refine Ok.seq ?_
 (first|refine qE ?_|refine qD ?_);(simp only [go_sem,↓dP,↓reduceIte];with_reducible and_intros;all_goals first|apply qA|exact qC|skip)
 (refine AskI.ret (c_lright J hf) ?_; simp only [go_sem,↓dP,↓reduceIte];with_reducible and_intros;all_goals first|apply qA|exact qC|skip)
 (refine AskGI.ret (fun _ => c_lslim l hl') ?_; simp only [go_sem,↓dP,↓reduceIte];with_reducible and_intros;all_goals first|apply qA|exact qC|skip)
 (refine AskGI.ret (fun _ => c_lslim m hm') ?_; simp only [go_sem,↓dP,↓reduceIte];with_reducible and_intros;all_goals first|apply qA|exact qC|skip)
 (refine AskGI.ret (fun q => c_rSome J (short_held (by simp [rightB] at q; simp [q])).2 l (by simp [slimB] at q; omega)) ?_; simp only [go_sem,↓dP,↓reduceIte];with_reducible and_intros;all_goals first|apply qA|exact qC|skip)
 (refine AskGI.ret (fun q => c_rSome J (short_held (by simp [rightB] at q; simp [q])).2 m (by simp [slimB] at q; omega)) ?_; simp only [go_sem,↓dP,↓reduceIte];with_reducible and_intros;all_goals first|apply qA|exact qC|skip)
 refine Ok.cond rfl ?_ ?_
 ·intro hs
  (first|refine qE ?_|refine qD ?_);(simp only [go_sem,↓dP,↓reduceIte];with_reducible and_intros;all_goals first|apply qA|exact qC|skip)
  (refine AskI.ret (c_known) ?_; simp only [go_sem,↓dP,↓reduceIte];with_reducible and_intros;all_goals first|apply qA|exact qC|skip)
  (refine Ok.ret ?_; (try dsimp only [thenK, blockK, noGotoK]); simp only [toList_mk, List.toList_toArray, retK_ret, retK_normal, resOK, resV, celV, rowV, frzAll, frzT, subV, subL, go_sem,↓dP,↓reduceIte])
  ((repeat' with_reducible apply And.intro) <;> (first | exact DEq.refl _ | refine DEq.int ?_ | refine DEq.bool ?_ | skip))
 intro hs
 (refine Ok.skip ?_; (try dsimp only [thenK, blockK, noGotoK]))
 obtain ⟨hr, hsl, hsm, hA, hB, hn1, hn2⟩ : rightB J = true ∧ slimB l = true ∧ slimB m = true ∧ someB J.ps.length l = true ∧ someB J.ps.length m = true ∧ 1 ≤ n ∧ n < (if up = true then J.high else J.wide) := by
  revert hs
  cases rightB J <;> cases slimB l <;> cases slimB m <;> cases someB J.ps.length l <;> cases someB J.ps.length m <;> cases up <;> simp <;> intros <;> omega
 simp only [rightB, Bool.and_eq_true] at hr
 obtain ⟨hsh, hj⟩ := hr
 have h := jobB_iff.1 hj
 have hp := h.p1
 obtain ⟨A, rA, rfl⟩ := someB_iff.1 hA
 obtain ⟨B, rB, rfl⟩ := someB_iff.1 hB
 have hAl : (asI A).length ≤ 8 := by simpa [slimB] using hsl
 have hBl : (asI B).length ≤ 8 := by simpa [slimB] using hsm
 have hAn : (asI A).length = A.length := asI_len A
 have hBn : (asI B).length = B.length := asI_len B
 obtain ⟨k, rfl⟩ : ∃ k : Nat, n = k := ⟨n.toNat, by omega⟩
 refine Ok.seq ?_
 (first|refine qE ?_|refine qD ?_);(simp only [go_sem,↓dP,↓reduceIte];with_reducible and_intros;all_goals first|apply qA|exact qC|skip)
 refine Ok.block ?_
 refine Ok.count (asI A).length (fun i => ⟨[(1, iS k), (2, bS up), (3, ilS (asI A)), (4, ilS (asI B)), (5, .p 0 0), (11, iS i)], [jobC J], []⟩) (fun i => ∀ x ∈ (asI A).take i, x ∉ asI B) ⟨fun x hx => by simp at hx, ?_⟩ ?_ ?_
 ·(refine Sub.of ([0]) ([]) ?_ ?_ ?_ rfl rfl <;> simp only [subB, subB1, subT, subT1, newT, subE, subV, subL, go_sem,↓dP,↓reduceIte] <;> (try (repeat' with_reducible apply And.intro)) <;> (try first | exact DEq.refl _ | refine DEq.int ?_ | refine DEq.bool ?_ | omega))
 ·intro i hi h0
  refine Ok.seq ?_; ((first|refine qE ?_|refine qD ?_);(simp only [go_sem,↓dP,↓reduceIte];with_reducible and_intros;all_goals first|apply qA|exact qC|skip)); refine Ok.cond rfl (fun _ => ?_) (fun hb => by simp at hb; omega); (refine Ok.skip ?_; (try dsimp only [thenK, blockK, noGotoK])); refine Ok.seq ?_; refine Ok.block ?_
  (first|refine qE ?_|refine qD ?_);(simp only [go_sem,↓dP,↓reduceIte];with_reducible and_intros;all_goals first|apply qA|exact qC|skip)
  (refine AskI.ret (c_tListed (asI B) ((asI A).getD i default) (by omega)) ?_; simp only [go_sem,↓dP,↓reduceIte];with_reducible and_intros;all_goals first|apply qA|exact qC|skip)
  refine Ok.cond rfl ?_ ?_
  ·intro hq
   (first|refine qE ?_|refine qD ?_);(simp only [go_sem,↓dP,↓reduceIte];with_reducible and_intros;all_goals first|apply qA|exact qC|skip)
   (refine AskI.ret (c_known) ?_; simp only [go_sem,↓dP,↓reduceIte];with_reducible and_intros;all_goals first|apply qA|exact qC|skip)
   (refine Ok.ret ?_; (try dsimp only [thenK, blockK, noGotoK]); simp only [toList_mk, List.toList_toArray, retK_ret, retK_normal, resOK, resV, celV, rowV, frzAll, frzT, subV, subL, go_sem,↓dP,↓reduceIte])
   ((repeat' with_reducible apply And.intro) <;> (first | exact DEq.refl _ | refine DEq.int ?_ | refine DEq.bool ?_ | skip))
  ·intro hq
   (refine Ok.skip ?_; (try dsimp only [thenK, blockK, noGotoK]))
   (first|refine qE ?_|refine qD ?_);(simp only [go_sem,↓dP,↓reduceIte];with_reducible and_intros;all_goals first|apply qA|exact qC|skip)
   (try dsimp only [thenK, blockK, noGotoK])
   refine ⟨fun x hx => ?_, ?_⟩
   ·rw [getD_take hi, List.mem_append, List.mem_singleton] at hx
    rcases hx with hx | rfl
    ·exact h0 x hx
    ·simpa using hq
   ·(refine Sub.of ([0]) ([]) ?_ ?_ ?_ rfl rfl <;> simp only [subB, subB1, subT, subT1, newT, subE, subV, subL, go_sem,↓dP,↓reduceIte] <;> (try (repeat' with_reducible apply And.intro)) <;> (try first | exact DEq.refl _ | refine DEq.int ?_ | refine DEq.bool ?_ | omega))
 ·intro h0
  rw [List.take_length] at h0
  have hd : ∀ x ∈ A, x ∉ B := fun x hx hy => h0 x (List.mem_map.2 ⟨x, hx, rfl⟩) (List.mem_map.2 ⟨x, hy, rfl⟩)
  refine Ok.seq ?_; ((first|refine qE ?_|refine qD ?_);(simp only [go_sem,↓dP,↓reduceIte];with_reducible and_intros;all_goals first|apply qA|exact qC|skip)); refine Ok.cond rfl (fun hb => by simp at hb) (fun _ => ?_); (refine Ok.exit ?_; simp only [thenK_exit, blockK_exit, noGotoK_exit, thenK_normal, blockK_normal, noGotoK_normal, ↓reduceIte, Nat.reduceEqDiff])
  have g1 := h.h1
  have g2 := h.w1
  have g3 := h.h0
  have g4 := h.w0
  have hjo := c_lfits J h (joinK (asI A) (asI B) J.ps.length) (joinK_rises A B _)
  cases up with
  | true =>
   simp only [if_true] at hn2
   have oa : ({ J with high := k } : Job).ok := { h with h0 := by show (1 : Int) ≤ k; omega, h1 := by show (k : Int) ≤ 6; have := h.h1; omega }
   have ob : ({ J with high := J.high - k } : Job).ok := { h with h0 := by show (1 : Int) ≤ J.high - k; omega, h1 := by show J.high - k ≤ 6; have := h.h1; omega }
   have hfit := halves_fit h (n := k) (up := true) (by omega) (by simpa using hn2) hd (Ja := { J with high := k }) (Jb := { J with high := J.high - k }) (by simp) (by simp)
   (first|refine qE ?_|refine qD ?_);(simp only [go_sem,↓dP,↓reduceIte];with_reducible and_intros;all_goals first|apply qA|exact qC|skip)
   refine Ok.seq ?_
   (first|refine qE ?_|refine qD ?_);(simp only [go_sem,↓dP,↓reduceIte];with_reducible and_intros;all_goals first|apply qA|exact qC|skip)
   refine Ok.cond (b := true) (by first | rfl | (simp only [go_sem,↓dP,↓reduceIte]; rfl)) (fun _ => ?_) (fun hb => by cases hb)
   (first|refine qE ?_|refine qD ?_);(simp only [go_sem,↓dP,↓reduceIte];with_reducible and_intros;all_goals first|apply qA|exact qC|skip)
   (try dsimp only [thenK, blockK, noGotoK])
   (first|refine qE ?_|refine qD ?_);(simp only [go_sem,↓dP,↓reduceIte];with_reducible and_intros;all_goals first|apply qA|exact qC|skip)
   (refine AskI.ret (c_lfits { J with high := k } oa A rA) ?_; simp only [go_sem,↓dP,↓reduceIte];with_reducible and_intros;all_goals first|apply qA|exact qC|skip)
   (first|refine qE ?_|refine qD ?_);(simp only [go_sem,↓dP,↓reduceIte];with_reducible and_intros;all_goals first|apply qA|exact qC|skip)
   (refine AskI.ret (c_lfits { J with high := J.high - k } ob B rB) ?_; simp only [go_sem,↓dP,↓reduceIte];with_reducible and_intros;all_goals first|apply qA|exact qC|skip)
   (first|refine qE ?_|refine qD ?_);(simp only [go_sem,↓dP,↓reduceIte];with_reducible and_intros;all_goals first|apply qA|exact qC|skip)
   (refine AskI.ret (c_ljoined J (by omega) (asI A) (asI B) (by omega) (by omega)) ?_; simp only [go_sem,↓dP,↓reduceIte];with_reducible and_intros;all_goals first|apply qA|exact qC|skip)
   (refine AskI.ret (hjo) ?_; simp only [go_sem,↓dP,↓reduceIte];with_reducible and_intros;all_goals first|apply qA|exact qC|skip)
   (first|refine qE ?_|refine qD ?_);(simp only [go_sem,↓dP,↓reduceIte];with_reducible and_intros;all_goals first|apply qA|exact qC|skip)
   (refine AskGI.ret (fun _ => c_known) ?_; simp only [go_sem,↓dP,↓reduceIte];with_reducible and_intros;all_goals first|apply qA|exact qC|skip)
   (refine Ok.ret ?_; (try dsimp only [thenK, blockK, noGotoK]); simp only [toList_mk, List.toList_toArray, retK_ret, retK_normal, resOK, resV, celV, rowV, frzAll, frzT, subV, subL, go_sem,↓dP,↓reduceIte])
   refine DEq.bool ?_
   rw [joinK_set rA rB]
   revert hfit
   cases ({ J with high := k } : Job).fit (setL (asI A)) <;> cases ({ J with high := J.high - k } : Job).fit (setL (asI B)) <;> simp
  | false =>
   simp only [Bool.false_eq_true, if_false] at hn2
   have oa : ({ J with wide := k } : Job).ok := { h with w0 := by show (1 : Int) ≤ k; omega, w1 := by show (k : Int) ≤ 6; omega }
   have ob : ({ J with wide := J.wide - k } : Job).ok := { h with w0 := by show (1 : Int) ≤ J.wide - k; omega, w1 := by show J.wide - k ≤ 6; omega }
   have hfit := halves_fit h (n := k) (up := false) (by omega) (by simpa using hn2) hd (Ja := { J with wide := k }) (Jb := { J with wide := J.wide - k }) (by simp) (by simp)
   (first|refine qE ?_|refine qD ?_);(simp only [go_sem,↓dP,↓reduceIte];with_reducible and_intros;all_goals first|apply qA|exact qC|skip)
   refine Ok.seq ?_
   (first|refine qE ?_|refine qD ?_);(simp only [go_sem,↓dP,↓reduceIte];with_reducible and_intros;all_goals first|apply qA|exact qC|skip)
   refine Ok.cond (b := false) (by first | rfl | (simp only [go_sem,↓dP,↓reduceIte]; rfl)) (fun hb => by cases hb) (fun _ => ?_)
   (first|refine qE ?_|refine qD ?_);(simp only [go_sem,↓dP,↓reduceIte];with_reducible and_intros;all_goals first|apply qA|exact qC|skip)
   (try dsimp only [thenK, blockK, noGotoK])
   (first|refine qE ?_|refine qD ?_);(simp only [go_sem,↓dP,↓reduceIte];with_reducible and_intros;all_goals first|apply qA|exact qC|skip)
   (refine AskI.ret (c_lfits { J with wide := k } oa A rA) ?_; simp only [go_sem,↓dP,↓reduceIte];with_reducible and_intros;all_goals first|apply qA|exact qC|skip)
   (first|refine qE ?_|refine qD ?_);(simp only [go_sem,↓dP,↓reduceIte];with_reducible and_intros;all_goals first|apply qA|exact qC|skip)
   (refine AskI.ret (c_lfits { J with wide := J.wide - k } ob B rB) ?_; simp only [go_sem,↓dP,↓reduceIte];with_reducible and_intros;all_goals first|apply qA|exact qC|skip)
   (first|refine qE ?_|refine qD ?_);(simp only [go_sem,↓dP,↓reduceIte];with_reducible and_intros;all_goals first|apply qA|exact qC|skip)
   (refine AskI.ret (c_ljoined J (by omega) (asI A) (asI B) (by omega) (by omega)) ?_; simp only [go_sem,↓dP,↓reduceIte];with_reducible and_intros;all_goals first|apply qA|exact qC|skip)
   (refine AskI.ret (hjo) ?_; simp only [go_sem,↓dP,↓reduceIte];with_reducible and_intros;all_goals first|apply qA|exact qC|skip)
   (first|refine qE ?_|refine qD ?_);(simp only [go_sem,↓dP,↓reduceIte];with_reducible and_intros;all_goals first|apply qA|exact qC|skip)
   (refine AskGI.ret (fun _ => c_known) ?_; simp only [go_sem,↓dP,↓reduceIte];with_reducible and_intros;all_goals first|apply qA|exact qC|skip)
   (refine Ok.ret ?_; (try dsimp only [thenK, blockK, noGotoK]); simp only [toList_mk, List.toList_toArray, retK_ret, retK_normal, resOK, resV, celV, rowV, frzAll, frzT, subV, subL, go_sem,↓dP,↓reduceIte])
   refine DEq.bool ?_
   rw [joinK_set rA rB]
   revert hfit
   cases ({ J with wide := k } : Job).fit (setL (asI A)) <;> cases ({ J with wide := J.wide - k } : Job).fit (setL (asI B)) <;> simp
end
end Go.Proofs.Leaf
namespace Go.Proofs.YtojfpogcfpmblaaGreatDoor
open Go Go.RX Go.Proofs.Leaf Go.RowKit Go.ChangeShapes Go.WideShapes Go.ChangeAt
set_option maxRecDepth 100000
theorem leafHalves_ctr (As : List SV) (h : opensAll [25, 3, 4, 26, 26] As) : Ctr Tryz.prog 4 As (bS true) := by
 obtain ⟨_, A1, rfl, h0, h⟩ := opensAll_cons h
 obtain ⟨_, A2, rfl, h1, h⟩ := opensAll_cons h
 obtain ⟨_, A3, rfl, h2, h⟩ := opensAll_cons h
 obtain ⟨_, A4, rfl, h3, h⟩ := opensAll_cons h
 obtain ⟨_, A5, rfl, h4, h⟩ := opensAll_cons h
 obtain rfl := opensAll_nil h
 obtain ⟨x0, rfl, y0⟩ := opens_job h0
 obtain ⟨x1, rfl, y1, z1⟩ := opens_int h1
 obtain ⟨x2, rfl⟩ := opens_bool h2
 obtain ⟨x3, rfl, y3⟩ := opens_ints h3
 obtain ⟨x4, rfl, y4⟩ := opens_ints h4
 exact law_Halves x0 y0 x1 x2 x3 y3 x4 y4
theorem leafHalves_facts : joinedFacts Tryz.prog 4 Tryz.f4 Rows.leafHalvesSpec Rows.leafHalvesRow = true := by unfold joinedFacts; rw [enter_is, final_is, make_is]; kernel_rfl
theorem leafHalves_lifted (os : Os) (started : os.Started) (H : Type) (enc : TypeId × Value → H) :
  ReturnsInHanded {} Tryz.checked os 4 .any (fun w args => (Rows.leafHalvesSpec.pre enc Tryz.prog Tryz.f4 [] false w args ∧ laidMetH Tryz.prog laid5 w) ∧ sizedMet enc Tryz.prog Tryz.f4 (OpenSpec.ofChange Rows.leafHalvesSpec) false w args)
   (Rows.leafHalvesSpec.post enc Tryz.prog Tryz.f4 false true false false) := by
 refine law_ctr (ts := [25, 3, 4, 26, 26]) Rows.leafHalvesSpec rfl started (by kernel_rfl) Tryz.func4 (by kernel_rfl) (by rw [Tryz.params4]) (by unfold argT; decide)
  (fun ds hd => ?_)
  (ChangeSpec.witness_shaped (enc := enc) (C := Tryz.checked) (os := os) (X := fun w _ => laidMetH Tryz.prog laid5 w) false (World.laidAll Tryz.prog os laid5) #[zJ, zI, zB, zL, zL] 8 (World.laidAll_os _ _ _)
   (World.shaped_of_ZipB (by kernel_rfl) (by kernel_rfl)) (by kernel_rfl) (by kernel_rfl) (by kernel_rfl)
   (by rw [MakeChecks.laidMetH_plain _ _ _ (by kernel_rfl)]; exact laidMet_laidAll _ (by kernel_rfl) (by kernel_rfl))) leafHalves_ctr
 match ds, hd with
 | [d0, d1, d2, d3, d4], _ => rfl
theorem leafHalves_row : Rows.LeafHalvesSaid :=
 OpenClaim.holds_of_wide 4 Tryz.f4 rfl rfl rfl rfl rfl rfl rfl ⟨rfl, rfl, rfl, rfl, rfl⟩ rfl rfl rfl rfl rfl (by kernel_rfl) Tryz.func4 leafHalves_facts (of_decide_eq_true (by kernel_rfl))
  (by unfold Func.isWrapper; first | (rw [if_pos (by decide +kernel)]; kernel_rfl) | (rw [if_neg (by decide +kernel)]; exact ⟨rfl, rfl⟩)) (fun os started H enc _ => leafHalves_lifted os started H enc)
theorem leafHalves_card : Rows.LeafHalvesCardSaid :=
 Claim7.holds_tied_plain_at .later [] [.data, .data, .data, .data, .pinned] true (true, "b9e665a4b67ae011e5ed22b8eb226cc6d74f55357845231d1045bbc61717fa8c") true leafHalves_row
  (fun _ h => by cases h) (by kernel_rfl) (fun _ h => by cases h) leafHalves_row_tie rfl ⟨rfl, rfl⟩ main_is rfl
  (fun f fn hf hfn => by
   obtain rfl : f = 4 := Option.some.inj ((show Tryz.prog.funcNamed "mahlstick/mahlsticklaw04.LeafHalves" = some 4 by kernel_rfl).symm.trans hf) |>.symm
   obtain rfl : fn = Tryz.f4 := (Option.some.inj (Tryz.func4.symm.trans hfn)).symm
   exact ⟨by kernel_rfl, fun j t ht => by
    rw [Tryz.params4] at ht
    exact law_stand (ts := [25, 3, 4, 26, 26]) (by unfold argT; decide) (by simpa using Array.mem_of_getElem? ht)⟩) (by kernel_rfl)
end Go.Proofs.YtojfpogcfpmblaaGreatDoor
