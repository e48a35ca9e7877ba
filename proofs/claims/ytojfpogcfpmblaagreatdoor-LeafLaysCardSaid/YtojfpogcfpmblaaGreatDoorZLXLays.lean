/-
  When gold can be laid: LeafLays returns true at every input, and leaves it as it was.
  No condition beside those that the statement itself names.
-/
import Derived.Test.YtojfpogcfpmblaaGreatDoorB30
import Derived.ChangeMaps5
set_option linter.all false
set_option linter.unusedVariables false
set_option linter.unusedSectionVars false
set_option linter.unusedSimpArgs false
set_option linter.unnecessarySimpa false
namespace Go.Proofs.Leaf
def firstR : List (Option (Int × Int)) → List Int → Option (List Int)
 | [], now => some now
 | none :: r, now => firstR r (now ++ [-1])
 | some (a, b) :: r, now => (hoursL a b).findSome? (fun h => if h ∈ now then none else firstR r (now ++ [h]))
theorem head_flatMap {α β : Type} (f : α → List β) : ∀ l : List α, (l.flatMap f).head? = l.findSome? (fun x => (f x).head?)
 | [] => rfl
 | a :: l => by
  rw [List.flatMap_cons, List.head?_append, List.findSome?_cons, head_flatMap f l]
  cases (f a).head? <;> rfl
theorem findSome_congr {α β : Type} {f g : α → Option β} : ∀ {l : List α}, (∀ x ∈ l, f x = g x) → l.findSome? f = l.findSome? g
 | [], _ => rfl
 | a :: l, h => by
  rw [List.findSome?_cons, List.findSome?_cons, h a (List.mem_cons_self ..), findSome_congr (fun x hx => h x (List.mem_cons_of_mem _ hx))]
theorem firstR_eq : ∀ (sp : List (Int × Int)) (now : List Int), firstR (sp.map some) now = (planL sp now).head?
 | [], now => rfl
 | (a, b) :: r, now => by
  rw [List.map_cons, firstR, planL, head_flatMap]
  refine findSome_congr (fun h _ => ?_)
  by_cases hm : h ∈ now
  ·rw [if_pos hm, if_pos hm]; rfl
  ·rw [if_neg hm, if_neg hm, firstR_eq r]
end Go.Proofs.Leaf
namespace Go.Proofs.Leaf
open Go Go.RX Go.Proofs
set_option maxRecDepth 10000
variable [Glob]
theorem c_rin (n lo hi : Int) : Ctr Tryz.prog 60 [iS n, iS lo, iS hi] (bS (inB n lo hi)) := by
 (refine Ctr.mk (fn := Tryz.f60) rfl rfl rfl rfl rfl Tryz.results60 ?_; intro _; dsimp only [args, List.toList_toArray])
 (first|refine qE ?_|refine qD ?_);(simp only [go_sem,↓dP,↓reduceIte];with_reducible and_intros;all_goals first|apply qA|exact qC|skip)
 (first|refine qE ?_|refine qD ?_);(simp only [go_sem,↓dP,↓reduceIte];with_reducible and_intros;all_goals first|apply qA|exact qC|skip)
 (refine Ok.ret ?_; (try dsimp only [thenK, blockK, noGotoK]); simp only [toList_mk, List.toList_toArray, retK_ret, retK_normal, resOK, resV, celV, rowV, frzAll, frzT, subV, subL, go_sem,↓dP,↓reduceIte])
 exact .refl _
end Go.Proofs.Leaf
namespace Go.Proofs.Leaf
open Go Go.RX Go.Proofs
set_option maxRecDepth 10000
variable [Glob]
theorem c_rHours (J : Job) (hJ : J.based) (n : Int) (h0 : 0 ≤ n) (h1 : n < J.ps.length) (may : Bool) : Ctr Tryz.prog 90 [J.sv, iS n, bS may] (spS (J.span may n)) := by
 have hm := hJ.at_ _ (getD_mem (l := J.ps) (i := n.toNat) (by omega))
 have g1 := hJ.gl
 have p1 := hJ.pl
 (refine Ctr.mk (fn := Tryz.f90) rfl rfl rfl rfl rfl Tryz.results90 ?_; intro _; dsimp only [args, List.toList_toArray])
 (first|refine qE ?_|refine qD ?_);(simp only [go_sem,↓dP,↓reduceIte];with_reducible and_intros;all_goals first|apply qA|exact qC|skip)
 (first|refine qE ?_|refine qD ?_);(simp only [go_sem,↓dP,↓reduceIte];with_reducible and_intros;all_goals first|apply qA|exact qC|skip)
 refine Ok.seq ?_
 (first|refine qE ?_|refine qD ?_);(simp only [go_sem,↓dP,↓reduceIte];with_reducible and_intros;all_goals first|apply qA|exact qC|skip)
 refine Ok.cond rfl ?_ ?_
 ·intro hb
  subst hb
  (first|refine qE ?_|refine qD ?_);(simp only [go_sem,↓dP,↓reduceIte];with_reducible and_intros;all_goals first|apply qA|exact qC|skip)
  (refine Ok.ret ?_; (try dsimp only [thenK, blockK, noGotoK]); simp only [toList_mk, List.toList_toArray, retK_ret, retK_normal, resOK, resV, celV, rowV, frzAll, frzT, subV, subL, go_sem,↓dP,↓reduceIte])
  ((repeat' with_reducible apply And.intro) <;> (first | exact DEq.refl _ | refine DEq.int ?_ | refine DEq.bool ?_ | skip))
 ·intro hb
  subst hb
  (refine Ok.skip ?_; (try dsimp only [thenK, blockK, noGotoK]))
  (first|refine qE ?_|refine qD ?_);(simp only [go_sem,↓dP,↓reduceIte];with_reducible and_intros;all_goals first|apply qA|exact qC|skip)
  (refine Ok.ret ?_; (try dsimp only [thenK, blockK, noGotoK]); simp only [toList_mk, List.toList_toArray, retK_ret, retK_normal, resOK, resV, celV, rowV, frzAll, frzT, subV, subL, go_sem,↓dP,↓reduceIte])
  ((repeat' with_reducible apply And.intro) <;> (first | exact DEq.refl _ | refine DEq.int ?_ | refine DEq.bool ?_ | skip))
theorem c_tListed (l : List Int) (v : Int) (hl : l.length < 1000000) : Ctr Tryz.prog 19 [ilS l, iS v] (bS (decide (v ∈ l))) := by
 rw [← any_mem]
 (refine Ctr.mk (fn := Tryz.f19) rfl rfl rfl rfl rfl Tryz.results19 ?_; intro _; dsimp only [args, List.toList_toArray])
 (first|refine qE ?_|refine qD ?_);(simp only [go_sem,↓dP,↓reduceIte];with_reducible and_intros;all_goals first|apply qA|exact qC|skip)
 refine Ok.seq ?_
 (first|refine qE ?_|refine qD ?_);(simp only [go_sem,↓dP,↓reduceIte];with_reducible and_intros;all_goals first|apply qA|exact qC|skip)
 refine Ok.block ?_
 refine Ok.count l.length (fun i => ⟨[(0, ilS l), (1, iS v), (5, iS i)], [], []⟩) (fun i => ∀ x ∈ l.take i, (v == x) = false) ⟨fun x hx => by simp at hx, ?_⟩ ?_ ?_
 ·(refine Sub.of ([]) ([]) ?_ ?_ ?_ rfl rfl <;> simp only [subB, subB1, subT, subT1, newT, subE, subV, subL, go_sem,↓dP,↓reduceIte] <;> (try (repeat' with_reducible apply And.intro)) <;> (try first | exact DEq.refl _ | refine DEq.int ?_ | refine DEq.bool ?_ | omega))
 ·intro i hi h0
  have hsw : ((l.getD i default == v) : Bool) = (v == l.getD i default) := by rw [Bool.eq_iff_iff]; simp only [beq_iff_eq]; exact ⟨Eq.symm, Eq.symm⟩
  refine Ok.seq ?_; ((first|refine qE ?_|refine qD ?_);(simp only [go_sem,↓dP,↓reduceIte];with_reducible and_intros;all_goals first|apply qA|exact qC|skip)); refine Ok.cond rfl (fun _ => ?_) (fun hb => by simp at hb; omega); (refine Ok.skip ?_; (try dsimp only [thenK, blockK, noGotoK])); refine Ok.seq ?_; refine Ok.block ?_
  (first|refine qE ?_|refine qD ?_);(simp only [go_sem,↓dP,↓reduceIte];with_reducible and_intros;all_goals first|apply qA|exact qC|skip)
  refine Ok.cond rfl ?_ ?_
  ·intro hp
   rw [hsw] at hp
   (first|refine qE ?_|refine qD ?_);(simp only [go_sem,↓dP,↓reduceIte];with_reducible and_intros;all_goals first|apply qA|exact qC|skip)
   (refine Ok.ret ?_; (try dsimp only [thenK, blockK, noGotoK]); simp only [toList_mk, List.toList_toArray, retK_ret, retK_normal, resOK, resV, celV, rowV, frzAll, frzT, subV, subL, go_sem,↓dP,↓reduceIte])
   refine DEq.bool ?_
   rw [List.any_eq_true.2 ⟨_, getD_mem hi, hp⟩]
  ·intro hp
   rw [hsw] at hp
   (refine Ok.skip ?_; (try dsimp only [thenK, blockK, noGotoK]))
   (first|refine qE ?_|refine qD ?_);(simp only [go_sem,↓dP,↓reduceIte];with_reducible and_intros;all_goals first|apply qA|exact qC|skip)
   (try dsimp only [thenK, blockK, noGotoK])
   refine ⟨no_step hi h0 hp, ?_⟩
   (refine Sub.of ([]) ([]) ?_ ?_ ?_ rfl rfl <;> simp only [subB, subB1, subT, subT1, newT, subE, subV, subL, go_sem,↓dP,↓reduceIte] <;> (try (repeat' with_reducible apply And.intro)) <;> (try first | exact DEq.refl _ | refine DEq.int ?_ | refine DEq.bool ?_ | omega))
 ·intro h0
  refine Ok.seq ?_; ((first|refine qE ?_|refine qD ?_);(simp only [go_sem,↓dP,↓reduceIte];with_reducible and_intros;all_goals first|apply qA|exact qC|skip)); refine Ok.cond rfl (fun hb => by simp at hb) (fun _ => ?_); (refine Ok.exit ?_; simp only [thenK_exit, blockK_exit, noGotoK_exit, thenK_normal, blockK_normal, noGotoK_normal, ↓reduceIte, Nat.reduceEqDiff])
  (first|refine qE ?_|refine qD ?_);(simp only [go_sem,↓dP,↓reduceIte];with_reducible and_intros;all_goals first|apply qA|exact qC|skip)
  (refine Ok.ret ?_; (try dsimp only [thenK, blockK, noGotoK]); simp only [toList_mk, List.toList_toArray, retK_ret, retK_normal, resOK, resV, celV, rowV, frzAll, frzT, subV, subL, go_sem,↓dP,↓reduceIte])
  refine DEq.bool ?_
  rw [List.any_eq_false.2 (fun x hx => by simp [h0 x (by simpa using hx)])]
end Go.Proofs.Leaf
namespace Go.Proofs.Leaf
open Go Go.RX Go.Proofs
set_option maxRecDepth 10000
variable [Glob]
theorem c_rJob (J : Job) (hh : J.held) : Ctr Tryz.prog 24 [J.sv] (bS (jobB J)) := by
 have hh1 := hh.1
 have hh2 := hh.2
 (refine Ctr.mk (fn := Tryz.f24) rfl rfl rfl rfl rfl Tryz.results24 ?_; intro _; dsimp only [args, List.toList_toArray])
 (first|refine qE ?_|refine qD ?_);(simp only [go_sem,↓dP,↓reduceIte];with_reducible and_intros;all_goals first|apply qA|exact qC|skip)
 refine Ok.seq ?_
 (first|refine qE ?_|refine qD ?_);(simp only [go_sem,↓dP,↓reduceIte];with_reducible and_intros;all_goals first|apply qA|exact qC|skip)
 (refine AskI.ret (c_rin _ _ _) ?_; simp only [go_sem,↓dP,↓reduceIte];with_reducible and_intros;all_goals first|apply qA|exact qC|skip)
 (refine AskGI.ret (fun _ => c_rin _ _ _) ?_; simp only [go_sem,↓dP,↓reduceIte];with_reducible and_intros;all_goals first|apply qA|exact qC|skip)
 (refine AskGI.ret (fun _ => c_rin _ _ _) ?_; simp only [go_sem,↓dP,↓reduceIte];with_reducible and_intros;all_goals first|apply qA|exact qC|skip)
 ·intro h
  have : inB J.book 1 25 = true := by revert h; cases inB J.book 1 25 <;> simp
  rw [inB_iff] at this
  exact R64 (by omega) (by omega)
 (refine AskGI.ret (fun _ => c_rin _ _ _) ?_; simp only [go_sem,↓dP,↓reduceIte];with_reducible and_intros;all_goals first|apply qA|exact qC|skip)
 (refine AskGI.ret (fun _ => c_rin _ _ _) ?_; simp only [go_sem,↓dP,↓reduceIte];with_reducible and_intros;all_goals first|apply qA|exact qC|skip)
 (refine AskGI.ret (fun _ => c_rin _ _ _) ?_; simp only [go_sem,↓dP,↓reduceIte];with_reducible and_intros;all_goals first|apply qA|exact qC|skip)
 refine Ok.cond rfl ?_ ?_
 ·intro hb
  (first|refine qE ?_|refine qD ?_);(simp only [go_sem,↓dP,↓reduceIte];with_reducible and_intros;all_goals first|apply qA|exact qC|skip)
  (refine Ok.ret ?_; (try dsimp only [thenK, blockK, noGotoK]); simp only [toList_mk, List.toList_toArray, retK_ret, retK_normal, resOK, resV, celV, rowV, frzAll, frzT, subV, subL, go_sem,↓dP,↓reduceIte])
  refine DEq.bool ?_
  have : headB J = false := by
   revert hb
   unfold headB
   cases inB J.wide 1 6 <;> cases inB J.high 1 6 <;> cases inB J.book 1 25 <;> cases inB J.spoilt 0 (J.book - 1) <;> cases inB J.gs.length 1 3 <;> cases inB J.ps.length 1 5 <;> simp
  simp [jobB, this]
 intro hb
 have hhead : headB J = true := by
  revert hb
  unfold headB
  cases inB J.wide 1 6 <;> cases inB J.high 1 6 <;> cases inB J.book 1 25 <;> cases inB J.spoilt 0 (J.book - 1) <;> cases inB J.gs.length 1 3 <;> cases inB J.ps.length 1 5 <;> simp
 (refine Ok.skip ?_; (try dsimp only [thenK, blockK, noGotoK]))
 refine Ok.seq ?_
 (first|refine qE ?_|refine qD ?_);(simp only [go_sem,↓dP,↓reduceIte];with_reducible and_intros;all_goals first|apply qA|exact qC|skip)
 refine Ok.block ?_
 refine Ok.count J.gs.length (fun i => ⟨[(1, .p 0 0), (3, iS i)], [jobC J], []⟩) (fun i => ∀ x ∈ J.gs.take i, (!groundB x) = false) ⟨fun x hx => by simp at hx, ?_⟩ ?_ ?_
 ·(refine Sub.of ([0]) ([]) ?_ ?_ ?_ rfl rfl <;> simp only [subB, subB1, subT, subT1, newT, subE, subV, subL, go_sem,↓dP,↓reduceIte] <;> (try (repeat' with_reducible apply And.intro)) <;> (try first | exact DEq.refl _ | refine DEq.int ?_ | refine DEq.bool ?_ | omega))
 ·intro i hi h0
  refine Ok.seq ?_; ((first|refine qE ?_|refine qD ?_);(simp only [go_sem,↓dP,↓reduceIte];with_reducible and_intros;all_goals first|apply qA|exact qC|skip)); refine Ok.cond rfl (fun _ => ?_) (fun hb => by simp at hb; omega); (refine Ok.skip ?_; (try dsimp only [thenK, blockK, noGotoK])); refine Ok.seq ?_; refine Ok.block ?_
  (first|refine qE ?_|refine qD ?_);(simp only [go_sem,↓dP,↓reduceIte];with_reducible and_intros;all_goals first|apply qA|exact qC|skip)
  (first|refine qE ?_|refine qD ?_);(simp only [go_sem,↓dP,↓reduceIte];with_reducible and_intros;all_goals first|apply qA|exact qC|skip)
  (refine AskI.ret (c_rin _ _ _) ?_; simp only [go_sem,↓dP,↓reduceIte];with_reducible and_intros;all_goals first|apply qA|exact qC|skip)
  (refine AskGI.ret (fun _ => c_rin _ _ _) ?_; simp only [go_sem,↓dP,↓reduceIte];with_reducible and_intros;all_goals first|apply qA|exact qC|skip)
  (refine AskGI.ret (fun _ => c_rin _ _ _) ?_; simp only [go_sem,↓dP,↓reduceIte];with_reducible and_intros;all_goals first|apply qA|exact qC|skip)
  (refine AskGI.ret (fun _ => c_rin _ _ _) ?_; simp only [go_sem,↓dP,↓reduceIte];with_reducible and_intros;all_goals first|apply qA|exact qC|skip)
  have hg : groundB (J.gs.getD i default) = (inB (J.gs.getD i default).rl 0 12 && inB (J.gs.getD i default).rh (J.gs.getD i default).rl 12 && inB (J.gs.getD i default).ll (J.gs.getD i default).rh 12 && inB (J.gs.getD i default).lh (J.gs.getD i default).ll 12) := rfl
  refine Ok.cond rfl ?_ ?_
  ·intro hx
   have hx' : (!groundB (J.gs.getD i default)) = true := by
    rw [hg]
    revert hx
    cases inB (J.gs.getD i default).rl 0 12 <;> cases inB (J.gs.getD i default).rh (J.gs.getD i default).rl 12 <;> cases inB (J.gs.getD i default).ll (J.gs.getD i default).rh 12 <;> cases inB (J.gs.getD i default).lh (J.gs.getD i default).ll 12 <;> simp
   (first|refine qE ?_|refine qD ?_);(simp only [go_sem,↓dP,↓reduceIte];with_reducible and_intros;all_goals first|apply qA|exact qC|skip)
   (refine Ok.ret ?_; (try dsimp only [thenK, blockK, noGotoK]); simp only [toList_mk, List.toList_toArray, retK_ret, retK_normal, resOK, resV, celV, rowV, frzAll, frzT, subV, subL, go_sem,↓dP,↓reduceIte])
   refine DEq.bool ?_
   have : J.gs.any (fun g => !groundB g) = true := List.any_eq_true.2 ⟨_, getD_mem hi, hx'⟩
   rw [jobB, all_any, this]; simp
  ·intro hx
   have hx' : (!groundB (J.gs.getD i default)) = false := by
    rw [hg]
    revert hx
    cases inB (J.gs.getD i default).rl 0 12 <;> cases inB (J.gs.getD i default).rh (J.gs.getD i default).rl 12 <;> cases inB (J.gs.getD i default).ll (J.gs.getD i default).rh 12 <;> cases inB (J.gs.getD i default).lh (J.gs.getD i default).ll 12 <;> simp
   (refine Ok.skip ?_; (try dsimp only [thenK, blockK, noGotoK]))
   (first|refine qE ?_|refine qD ?_);(simp only [go_sem,↓dP,↓reduceIte];with_reducible and_intros;all_goals first|apply qA|exact qC|skip)
   (try dsimp only [thenK, blockK, noGotoK])
   refine ⟨no_step (q := fun g => !groundB g) hi h0 hx', ?_⟩
   (refine Sub.of ([0]) ([]) ?_ ?_ ?_ rfl rfl <;> simp only [subB, subB1, subT, subT1, newT, subE, subV, subL, go_sem,↓dP,↓reduceIte] <;> (try (repeat' with_reducible apply And.intro)) <;> (try first | exact DEq.refl _ | refine DEq.int ?_ | refine DEq.bool ?_ | omega))
 intro h0
 have hgs : J.gs.any (fun g => !groundB g) = false := List.any_eq_false.2 (fun x hx => by simp [h0 x (by simpa using hx)])
 refine Ok.seq ?_; ((first|refine qE ?_|refine qD ?_);(simp only [go_sem,↓dP,↓reduceIte];with_reducible and_intros;all_goals first|apply qA|exact qC|skip)); refine Ok.cond rfl (fun hb => by simp at hb) (fun _ => ?_); (refine Ok.exit ?_; simp only [thenK_exit, blockK_exit, noGotoK_exit, thenK_normal, blockK_normal, noGotoK_normal, ↓reduceIte, Nat.reduceEqDiff])
 refine Ok.seq ?_
 (first|refine qE ?_|refine qD ?_);(simp only [go_sem,↓dP,↓reduceIte];with_reducible and_intros;all_goals first|apply qA|exact qC|skip)
 refine Ok.block ?_
 refine Ok.count J.ps.length (fun i => ⟨[(1, .p 0 0), (5, iS i)], [jobC J], []⟩) (fun i => ∀ x ∈ J.ps.take i, (!pieceB J.gs.length x) = false) ⟨fun x hx => by simp at hx, ?_⟩ ?_ ?_
 ·(refine Sub.of ([0]) ([]) ?_ ?_ ?_ rfl rfl <;> simp only [subB, subB1, subT, subT1, newT, subE, subV, subL, go_sem,↓dP,↓reduceIte] <;> (try (repeat' with_reducible apply And.intro)) <;> (try first | exact DEq.refl _ | refine DEq.int ?_ | refine DEq.bool ?_ | omega))
 ·intro i hi h0
  refine Ok.seq ?_; ((first|refine qE ?_|refine qD ?_);(simp only [go_sem,↓dP,↓reduceIte];with_reducible and_intros;all_goals first|apply qA|exact qC|skip)); refine Ok.cond rfl (fun _ => ?_) (fun hb => by simp at hb; omega); (refine Ok.skip ?_; (try dsimp only [thenK, blockK, noGotoK])); refine Ok.seq ?_; refine Ok.block ?_
  (first|refine qE ?_|refine qD ?_);(simp only [go_sem,↓dP,↓reduceIte];with_reducible and_intros;all_goals first|apply qA|exact qC|skip)
  (first|refine qE ?_|refine qD ?_);(simp only [go_sem,↓dP,↓reduceIte];with_reducible and_intros;all_goals first|apply qA|exact qC|skip)
  (refine AskI.ret (c_rin _ _ _) ?_; simp only [go_sem,↓dP,↓reduceIte];with_reducible and_intros;all_goals first|apply qA|exact qC|skip)
  (refine AskGI.ret (fun _ => c_rin _ _ _) ?_; simp only [go_sem,↓dP,↓reduceIte];with_reducible and_intros;all_goals first|apply qA|exact qC|skip)
  (refine AskGI.ret (fun _ => c_rin _ _ _) ?_; simp only [go_sem,↓dP,↓reduceIte];with_reducible and_intros;all_goals first|apply qA|exact qC|skip)
  have hg : pieceB J.gs.length (J.ps.getD i default) = (inB (J.ps.getD i default).w 1 6 && inB (J.ps.getD i default).h 1 6 && inB (J.ps.getD i default).g 0 (J.gs.length - 1)) := rfl
  refine Ok.cond rfl ?_ ?_
  ·intro hx
   have hx' : (!pieceB J.gs.length (J.ps.getD i default)) = true := by
    rw [hg]
    revert hx
    cases inB (J.ps.getD i default).w 1 6 <;> cases inB (J.ps.getD i default).h 1 6 <;> cases inB (J.ps.getD i default).g 0 (J.gs.length - 1) <;> simp
   (first|refine qE ?_|refine qD ?_);(simp only [go_sem,↓dP,↓reduceIte];with_reducible and_intros;all_goals first|apply qA|exact qC|skip)
   (refine Ok.ret ?_; (try dsimp only [thenK, blockK, noGotoK]); simp only [toList_mk, List.toList_toArray, retK_ret, retK_normal, resOK, resV, celV, rowV, frzAll, frzT, subV, subL, go_sem,↓dP,↓reduceIte])
   refine DEq.bool ?_
   have : J.ps.any (fun p => !pieceB J.gs.length p) = true := List.any_eq_true.2 ⟨_, getD_mem hi, hx'⟩
   rw [jobB, all_any J.ps, this]; simp
  ·intro hx
   have hx' : (!pieceB J.gs.length (J.ps.getD i default)) = false := by
    rw [hg]
    revert hx
    cases inB (J.ps.getD i default).w 1 6 <;> cases inB (J.ps.getD i default).h 1 6 <;> cases inB (J.ps.getD i default).g 0 (J.gs.length - 1) <;> simp
   (refine Ok.skip ?_; (try dsimp only [thenK, blockK, noGotoK]))
   (first|refine qE ?_|refine qD ?_);(simp only [go_sem,↓dP,↓reduceIte];with_reducible and_intros;all_goals first|apply qA|exact qC|skip)
   (try dsimp only [thenK, blockK, noGotoK])
   refine ⟨no_step (q := fun p => !pieceB J.gs.length p) hi h0 hx', ?_⟩
   (refine Sub.of ([0]) ([]) ?_ ?_ ?_ rfl rfl <;> simp only [subB, subB1, subT, subT1, newT, subE, subV, subL, go_sem,↓dP,↓reduceIte] <;> (try (repeat' with_reducible apply And.intro)) <;> (try first | exact DEq.refl _ | refine DEq.int ?_ | refine DEq.bool ?_ | omega))
 ·intro h0
  have hps : J.ps.any (fun p => !pieceB J.gs.length p) = false := List.any_eq_false.2 (fun x hx => by simp [h0 x (by simpa using hx)])
  refine Ok.seq ?_; ((first|refine qE ?_|refine qD ?_);(simp only [go_sem,↓dP,↓reduceIte];with_reducible and_intros;all_goals first|apply qA|exact qC|skip)); refine Ok.cond rfl (fun hb => by simp at hb) (fun _ => ?_); (refine Ok.exit ?_; simp only [thenK_exit, blockK_exit, noGotoK_exit, thenK_normal, blockK_normal, noGotoK_normal, ↓reduceIte, Nat.reduceEqDiff])
  (first|refine qE ?_|refine qD ?_);(simp only [go_sem,↓dP,↓reduceIte];with_reducible and_intros;all_goals first|apply qA|exact qC|skip)
  (refine Ok.ret ?_; (try dsimp only [thenK, blockK, noGotoK]); simp only [toList_mk, List.toList_toArray, retK_ret, retK_normal, resOK, resV, celV, rowV, frzAll, frzT, subV, subL, go_sem,↓dP,↓reduceIte])
  refine DEq.bool ?_
  rw [jobB, hhead, all_any, all_any, hgs, hps]
  rfl
end Go.Proofs.Leaf
namespace Go.Proofs.Leaf
open Go Go.RX Go.Proofs
set_option maxRecDepth 10000
variable [Glob]
def optS (J : Job) (left : List Int) (may : Bool) (i : Nat) : Option (Int × Int) := if (i : Int) ∈ left then none else some (J.span may i)
def restS (J : Job) (left : List Int) (may : Bool) (i k : Nat) : List (Option (Int × Int)) := (List.range' i k).map (optS J left may)
theorem findSome_no {α β : Type} [Inhabited α] {f : α → Option β} {l : List α} (h0 : ∀ j, j < l.length → f (l.getD j default) = none) : l.findSome? f = none := by
 induction l with
 | nil => rfl
 | cons a l ih =>
  rw [List.findSome?_cons]
  have := h0 0 (by simp)
  simp only [List.getD_cons_zero] at this
  rw [this]
  exact ih (fun j hj => by simpa using h0 (j + 1) (by simpa using hj))
theorem hoursL_len (a b : Int) : (hoursL a b).length = (b + 1 - a).toNat := by simp [hoursL]
theorem hoursL_at {a b : Int} {j : Nat} (h : j < (b + 1 - a).toNat) : (hoursL a b).getD j default = a + j := by
 simp [hoursL, List.getD_eq_getElem?_getD, h]
end Go.Proofs.Leaf
namespace Go.Proofs.Leaf
open Go Go.RX Go.Proofs
set_option maxRecDepth 10000
variable [Glob]
theorem snocI {now : List Int} {n : Int} : DEq (.sl 1 (now.length + 1) (fun i c => if i < now.length then intD (now.getD i default) c else dget [.int .i64 n] ((i - now.length) * 1 + c))) (slD 1 intD (now ++ [n])) :=
  DEq.sl (by simp) (fun i j hi hj => snoc_D (fun c hc => by have : c = 0 := by omega
                                                            subst this; rfl) i j hi hj)
theorem restS_succ (J : Job) (left : List Int) (may : Bool) (i k : Nat) : restS J left may i (k + 1) = optS J left may i :: restS J left may (i + 1) k := by
 unfold restS
 rw [List.range'_succ]; rfl
set_option maxHeartbeats 1000000 in
theorem c_rfirst (J : Job) (hJ : J.based) (ht : J.timed) (hn : J.ps.length ≤ 100) (left : List Int) (hl : left.length < 1000) (may : Bool) : ∀ (k : Nat) (now : List Int), now.length + k = J.ps.length →
  Ctr Tryz.prog 87 [J.sv, ilS now, ilS left, bS may] (optR (firstR (restS J left may now.length k) now))
 | 0, now, hk => by
  have hc : ((now.length : Int) == J.ps.length) = true := by simp; omega
  (refine Ctr.mk (fn := Tryz.f87) rfl rfl rfl rfl rfl Tryz.results87 ?_; intro _; dsimp only [args, List.toList_toArray])
  (first|refine qE ?_|refine qD ?_);(simp only [go_sem,↓dP,↓reduceIte];with_reducible and_intros;all_goals first|apply qA|exact qC|skip)
  (first|refine qE ?_|refine qD ?_);(simp only [go_sem,↓dP,↓reduceIte];with_reducible and_intros;all_goals first|apply qA|exact qC|skip)
  refine Ok.seq ?_
  (first|refine qE ?_|refine qD ?_);(simp only [go_sem,↓dP,↓reduceIte];with_reducible and_intros;all_goals first|apply qA|exact qC|skip)
  rw [hc]
  refine Ok.cond (b := true) (by first | rfl | (simp only [go_sem,↓dP,↓reduceIte]; rfl)) (fun _ => ?_) (fun hb => by cases hb)
  (first|refine qE ?_|refine qD ?_);(simp only [go_sem,↓dP,↓reduceIte];with_reducible and_intros;all_goals first|apply qA|exact qC|skip)
  (refine Ok.ret ?_; (try dsimp only [thenK, blockK, noGotoK]); simp only [toList_mk, List.toList_toArray, retK_ret, retK_normal, resOK, resV, celV, rowV, frzAll, frzT, subV, subL, go_sem,↓dP,↓reduceIte])
  exact ⟨.refl _, .refl _⟩
 | k + 1, now, hk => by
  have hc : ((now.length : Int) == J.ps.length) = false := by simp; omega
  have hlt : now.length < J.ps.length := by omega
  have hpg := J.ps.getD now.length default
  have htm := ht _ (getD_mem hlt) may
  have a1 := c_tListed left (now.length : Int) (by omega)
  have a2 := c_rHours J hJ now.length (by omega) (by omega) may
  have hsp : J.span may (now.length : Int) = spanOf J.gs may (J.ps.getD now.length default) := rfl
  rw [← hsp] at htm
  have a3 : ∀ n : Int, Ctr Tryz.prog 87 [J.sv, .d (.sl 1 (now.length + 1) (fun i c => if i < now.length then intD (now.getD i default) c else dget [.int .i64 n] ((i - now.length) * 1 + c))), ilS left, bS may] (optR (firstR (restS J left may (now.length + 1) k) (now ++ [n]))) := fun n => by
   have ih := c_rfirst J hJ ht hn left hl may k (now ++ [n]) (by simp; omega)
   rw [show (now ++ [n]).length = now.length + 1 by simp] at ih
   exact ih.args ⟨⟨.refl _, .refl _, .refl _, .refl _, .refl _, .refl _, trivial⟩, snocI, .refl _, .refl _, trivial⟩
  rw [restS_succ]
  (refine Ctr.mk (fn := Tryz.f87) rfl rfl rfl rfl rfl Tryz.results87 ?_; intro _; dsimp only [args, List.toList_toArray])
  (first|refine qE ?_|refine qD ?_);(simp only [go_sem,↓dP,↓reduceIte];with_reducible and_intros;all_goals first|apply qA|exact qC|skip)
  (first|refine qE ?_|refine qD ?_);(simp only [go_sem,↓dP,↓reduceIte];with_reducible and_intros;all_goals first|apply qA|exact qC|skip)
  refine Ok.seq ?_
  (first|refine qE ?_|refine qD ?_);(simp only [go_sem,↓dP,↓reduceIte];with_reducible and_intros;all_goals first|apply qA|exact qC|skip)
  rw [hc]
  refine Ok.cond (b := false) (by first | rfl | (simp only [go_sem,↓dP,↓reduceIte]; rfl)) (fun hb => by cases hb) (fun _ => ?_)
  (refine Ok.skip ?_; (try dsimp only [thenK, blockK, noGotoK]))
  refine Ok.seq ?_
  (first|refine qE ?_|refine qD ?_);(simp only [go_sem,↓dP,↓reduceIte];with_reducible and_intros;all_goals first|apply qA|exact qC|skip)
  (refine AskI.ret (a1) ?_; simp only [go_sem,↓dP,↓reduceIte];with_reducible and_intros;all_goals first|apply qA|exact qC|skip)
  refine Ok.cond rfl ?_ ?_
  ·intro hm
   have hm' : (now.length : Int) ∈ left := by simpa using hm
   have ho : optS J left may now.length = none := if_pos hm'
   rw [ho, firstR]
   (first|refine qE ?_|refine qD ?_);(simp only [go_sem,↓dP,↓reduceIte];with_reducible and_intros;all_goals first|apply qA|exact qC|skip)
   (refine AskI.ret (a3 (-1)) ?_; simp only [go_sem,↓dP,↓reduceIte];with_reducible and_intros;all_goals first|apply qA|exact qC|skip)
   (refine Ok.ret ?_; (try dsimp only [thenK, blockK, noGotoK]); simp only [toList_mk, List.toList_toArray, retK_ret, retK_normal, resOK, resV, celV, rowV, frzAll, frzT, subV, subL, go_sem,↓dP,↓reduceIte])
   exact ⟨.refl _, .refl _⟩
  ·intro hm
   have hm' : ¬ (now.length : Int) ∈ left := by simpa using hm
   have ho : optS J left may now.length = some (J.span may (now.length : Int)) := if_neg hm'
   rw [ho]
   generalize J.span may (now.length : Int) = sp at a2 htm
   obtain ⟨lo, hi⟩ := sp
   dsimp only at htm
   rw [firstR]
   generalize hR : restS J left may (now.length + 1) k = R at a3
   have hlh := hoursL_len lo hi
   (refine Ok.skip ?_; (try dsimp only [thenK, blockK, noGotoK]))
   (first|refine qE ?_|refine qD ?_);(simp only [go_sem,↓dP,↓reduceIte];with_reducible and_intros;all_goals first|apply qA|exact qC|skip)
   (refine AskI.ret (a2) ?_; simp only [go_sem,↓dP,↓reduceIte];with_reducible and_intros;all_goals first|apply qA|exact qC|skip)
   refine Ok.seq ?_
   (first|refine qE ?_|refine qD ?_);(simp only [go_sem,↓dP,↓reduceIte];with_reducible and_intros;all_goals first|apply qA|exact qC|skip)
   refine Ok.block ?_
   refine Ok.count (hi + 1 - lo).toNat (fun j => ⟨[(1, ilS now), (2, ilS left), (3, bS may), (4, .p 0 0), (10, iS now.length), (11, .p 1 0), (12, iS (lo + j))], [jobC J, { frz := false, xs := [iS lo, iS hi] }], []⟩) (fun j => ∀ i, i < j → (if (hoursL lo hi).getD i default ∈ now then none else firstR R (now ++ [(hoursL lo hi).getD i default])) = none) ⟨fun i hi => by omega, ?_⟩ ?_ ?_
   ·(refine Sub.of ([0, 1]) ([]) ?_ ?_ ?_ rfl rfl <;> simp only [subB, subB1, subT, subT1, newT, subE, subV, subL, go_sem,↓dP,↓reduceIte] <;> (try (repeat' with_reducible apply And.intro)) <;> (try first | exact DEq.refl _ | refine DEq.int ?_ | refine DEq.bool ?_ | omega))
    simp
   ·intro j hj hJ2
    have hh := hoursL_at hj
    have a4 := c_tListed now (lo + j) (by omega)
    refine Ok.seq ?_; ((first|refine qE ?_|refine qD ?_);(simp only [go_sem,↓dP,↓reduceIte];with_reducible and_intros;all_goals first|apply qA|exact qC|skip)); refine Ok.cond rfl (fun _ => ?_) (fun hb => by simp at hb; omega); (refine Ok.skip ?_; (try dsimp only [thenK, blockK, noGotoK])); refine Ok.seq ?_; refine Ok.block ?_
    refine Ok.seq ?_
    (first|refine qE ?_|refine qD ?_);(simp only [go_sem,↓dP,↓reduceIte];with_reducible and_intros;all_goals first|apply qA|exact qC|skip)
    (refine AskI.ret (a4) ?_; simp only [go_sem,↓dP,↓reduceIte];with_reducible and_intros;all_goals first|apply qA|exact qC|skip)
    refine Ok.cond rfl ?_ ?_
    ·intro hc2
     have hc3 : (lo + (j : Int)) ∈ now := by simpa using hc2
     (refine Ok.exit ?_; simp only [thenK_exit, blockK_exit, noGotoK_exit, thenK_normal, blockK_normal, noGotoK_normal, ↓reduceIte, Nat.reduceEqDiff])
     (first|refine qE ?_|refine qD ?_);(simp only [go_sem,↓dP,↓reduceIte];with_reducible and_intros;all_goals first|apply qA|exact qC|skip)
     (try dsimp only [thenK, blockK, noGotoK])
     refine ⟨fun i hi2 => ?_, ?_⟩
     ·by_cases e : i = j
      ·subst e; rw [hh, if_pos hc3]
      ·exact hJ2 i (by omega)
     (refine Sub.of ([0, 1]) ([]) ?_ ?_ ?_ rfl rfl <;> simp only [subB, subB1, subT, subT1, newT, subE, subV, subL, go_sem,↓dP,↓reduceIte] <;> (try (repeat' with_reducible apply And.intro)) <;> (try first | exact DEq.refl _ | refine DEq.int ?_ | refine DEq.bool ?_ | omega))
     omega
    ·intro hc2
     have hc3 : ¬ (lo + (j : Int)) ∈ now := by simpa using hc2
     (refine Ok.skip ?_; (try dsimp only [thenK, blockK, noGotoK]))
     (first|refine qE ?_|refine qD ?_);(simp only [go_sem,↓dP,↓reduceIte];with_reducible and_intros;all_goals first|apply qA|exact qC|skip)
     (refine AskI.ret (a3 (lo + j)) ?_; simp only [go_sem,↓dP,↓reduceIte];with_reducible and_intros;all_goals first|apply qA|exact qC|skip)
     (first|refine qE ?_|refine qD ?_);(simp only [go_sem,↓dP,↓reduceIte];with_reducible and_intros;all_goals first|apply qA|exact qC|skip)
     refine Ok.cond rfl ?_ ?_
     ·intro hs
      obtain ⟨y, hy⟩ : ∃ y, firstR R (now ++ [lo + (j : Int)]) = some y := Option.isSome_iff_exists.1 (by simpa using hs)
      have hso : (hoursL lo hi).findSome? (fun h => if h ∈ now then none else firstR R (now ++ [h])) = some y := findSome_at (by rw [hlh]; exact hj) hJ2 (by rw [hh, if_neg hc3, hy])
      rw [hso, hy]
      (first|refine qE ?_|refine qD ?_);(simp only [go_sem,↓dP,↓reduceIte];with_reducible and_intros;all_goals first|apply qA|exact qC|skip)
      (refine Ok.ret ?_; (try dsimp only [thenK, blockK, noGotoK]); simp only [toList_mk, List.toList_toArray, retK_ret, retK_normal, resOK, resV, celV, rowV, frzAll, frzT, subV, subL, go_sem,↓dP,↓reduceIte])
      exact ⟨.refl _, .refl _⟩
     ·intro hs
      have hy : firstR R (now ++ [lo + (j : Int)]) = none := by simpa using hs
      (refine Ok.skip ?_; (try dsimp only [thenK, blockK, noGotoK]))
      (first|refine qE ?_|refine qD ?_);(simp only [go_sem,↓dP,↓reduceIte];with_reducible and_intros;all_goals first|apply qA|exact qC|skip)
      (try dsimp only [thenK, blockK, noGotoK])
      refine ⟨fun i hi2 => ?_, ?_⟩
      ·by_cases e : i = j
       ·subst e; rw [hh, if_neg hc3, hy]
       ·exact hJ2 i (by omega)
      (refine Sub.of ([0, 1]) ([]) ?_ ?_ ?_ rfl rfl <;> simp only [subB, subB1, subT, subT1, newT, subE, subV, subL, go_sem,↓dP,↓reduceIte] <;> (try (repeat' with_reducible apply And.intro)) <;> (try first | exact DEq.refl _ | refine DEq.int ?_ | refine DEq.bool ?_ | omega))
      omega
   ·intro hJ2
    have hno : (hoursL lo hi).findSome? (fun h => if h ∈ now then none else firstR R (now ++ [h])) = none := findSome_no (fun j hj => hJ2 j (by omega))
    rw [hno]
    refine Ok.seq ?_; ((first|refine qE ?_|refine qD ?_);(simp only [go_sem,↓dP,↓reduceIte];with_reducible and_intros;all_goals first|apply qA|exact qC|skip)); refine Ok.cond rfl (fun hb => by simp at hb; omega) (fun _ => ?_); (refine Ok.exit ?_; simp only [thenK_exit, blockK_exit, noGotoK_exit, thenK_normal, blockK_normal, noGotoK_normal, ↓reduceIte, Nat.reduceEqDiff])
    (first|refine qE ?_|refine qD ?_);(simp only [go_sem,↓dP,↓reduceIte];with_reducible and_intros;all_goals first|apply qA|exact qC|skip)
    (refine Ok.ret ?_; (try dsimp only [thenK, blockK, noGotoK]); simp only [toList_mk, List.toList_toArray, retK_ret, retK_normal, resOK, resV, celV, rowV, frzAll, frzT, subV, subL, go_sem,↓dP,↓reduceIte])
    exact ⟨DEq.nils rfl, .refl _⟩
end Go.Proofs.Leaf
namespace Go.Proofs.Leaf
open Go Go.RX Go.Proofs
set_option maxRecDepth 10000
variable [Glob]
theorem restS_all (J : Job) (may : Bool) : restS J [] may 0 J.ps.length = (spans J may).map some := by
 unfold restS spans
 apply List.ext_getElem
 ·simp
 ·intro i h1 h2
  simp at h1
  simp [optS, h1]
  show spanOf J.gs may (J.ps.getD (i : Int).toNat default) = _
  rw [Int.toNat_natCast, getD_lt h1]
theorem first_plan (J : Job) (may : Bool) : firstR (restS J [] may 0 J.ps.length) [] = planOf J may := by
 rw [restS_all, firstR_eq]; rfl
theorem c_first0 (J : Job) (hJ : J.based) (ht : J.timed) (hn : J.ps.length ≤ 100) (may : Bool) : Ctr Tryz.prog 87 [J.sv, .d .nils, .d .nils, bS may] (optR (planOf J may)) := by
 have a := c_rfirst J hJ ht hn [] (by simp) may J.ps.length [] (by simp)
 simp only [List.length_nil] at a
 rw [first_plan] at a
 exact a.args ⟨⟨.refl _, .refl _, .refl _, .refl _, .refl _, .refl _, trivial⟩, DEq.nils rfl, DEq.nils rfl, .refl _, trivial⟩
theorem c_rPlan (J : Job) (hJ : J.based) (ht : J.timed) (hn : J.ps.length ≤ 100) : Ctr Tryz.prog 46 [J.sv] (optR (planOf J false)) := by
 (refine Ctr.mk (fn := Tryz.f46) rfl rfl rfl rfl rfl Tryz.results46 ?_; intro _; dsimp only [args, List.toList_toArray])
 (first|refine qE ?_|refine qD ?_);(simp only [go_sem,↓dP,↓reduceIte];with_reducible and_intros;all_goals first|apply qA|exact qC|skip)
 (first|refine qE ?_|refine qD ?_);(simp only [go_sem,↓dP,↓reduceIte];with_reducible and_intros;all_goals first|apply qA|exact qC|skip)
 (refine AskI.ret (c_first0 J hJ ht hn false) ?_; simp only [go_sem,↓dP,↓reduceIte];with_reducible and_intros;all_goals first|apply qA|exact qC|skip)
 (refine Ok.ret ?_; (try dsimp only [thenK, blockK, noGotoK]); simp only [toList_mk, List.toList_toArray, retK_ret, retK_normal, resOK, resV, celV, rowV, frzAll, frzT, subV, subL, go_sem,↓dP,↓reduceIte])
 exact ⟨.refl _, .refl _⟩
theorem c_rLays (J : Job) (hJ : J.based) (ht : J.timed) (hn : J.ps.length ≤ 100) : Ctr Tryz.prog 45 [J.sv] (iS (laysW J)) := by
 unfold laysW
 (refine Ctr.mk (fn := Tryz.f45) rfl rfl rfl rfl rfl Tryz.results45 ?_; intro _; dsimp only [args, List.toList_toArray])
 (first|refine qE ?_|refine qD ?_);(simp only [go_sem,↓dP,↓reduceIte];with_reducible and_intros;all_goals first|apply qA|exact qC|skip)
 refine Ok.seq ?_
 (first|refine qE ?_|refine qD ?_);(simp only [go_sem,↓dP,↓reduceIte];with_reducible and_intros;all_goals first|apply qA|exact qC|skip)
 (refine AskI.ret (c_rPlan J hJ ht hn) ?_; simp only [go_sem,↓dP,↓reduceIte];with_reducible and_intros;all_goals first|apply qA|exact qC|skip)
 (first|refine qE ?_|refine qD ?_);(simp only [go_sem,↓dP,↓reduceIte];with_reducible and_intros;all_goals first|apply qA|exact qC|skip)
 refine Ok.cond rfl ?_ ?_
 ·intro hb
  rw [if_pos hb]
  (first|refine qE ?_|refine qD ?_);(simp only [go_sem,↓dP,↓reduceIte];with_reducible and_intros;all_goals first|apply qA|exact qC|skip)
  (refine Ok.ret ?_; (try dsimp only [thenK, blockK, noGotoK]); simp only [toList_mk, List.toList_toArray, retK_ret, retK_normal, resOK, resV, celV, rowV, frzAll, frzT, subV, subL, go_sem,↓dP,↓reduceIte])
  exact .refl _
 ·intro hb
  rw [if_neg (by rw [hb]; simp)]
  (refine Ok.skip ?_; (try dsimp only [thenK, blockK, noGotoK]))
  refine Ok.seq ?_
  (first|refine qE ?_|refine qD ?_);(simp only [go_sem,↓dP,↓reduceIte];with_reducible and_intros;all_goals first|apply qA|exact qC|skip)
  (refine AskI.ret (c_first0 J hJ ht hn true) ?_; simp only [go_sem,↓dP,↓reduceIte];with_reducible and_intros;all_goals first|apply qA|exact qC|skip)
  (first|refine qE ?_|refine qD ?_);(simp only [go_sem,↓dP,↓reduceIte];with_reducible and_intros;all_goals first|apply qA|exact qC|skip)
  refine Ok.cond rfl ?_ ?_
  ·intro hb
   rw [if_pos hb]
   (first|refine qE ?_|refine qD ?_);(simp only [go_sem,↓dP,↓reduceIte];with_reducible and_intros;all_goals first|apply qA|exact qC|skip)
   (refine Ok.ret ?_; (try dsimp only [thenK, blockK, noGotoK]); simp only [toList_mk, List.toList_toArray, retK_ret, retK_normal, resOK, resV, celV, rowV, frzAll, frzT, subV, subL, go_sem,↓dP,↓reduceIte])
   exact .refl _
  ·intro hb
   rw [if_neg (by rw [hb]; simp)]
   (refine Ok.skip ?_; (try dsimp only [thenK, blockK, noGotoK]))
   (first|refine qE ?_|refine qD ?_);(simp only [go_sem,↓dP,↓reduceIte];with_reducible and_intros;all_goals first|apply qA|exact qC|skip)
   (refine Ok.ret ?_; (try dsimp only [thenK, blockK, noGotoK]); simp only [toList_mk, List.toList_toArray, retK_ret, retK_normal, resOK, resV, celV, rowV, frzAll, frzT, subV, subL, go_sem,↓dP,↓reduceIte])
   exact .refl _
end Go.Proofs.Leaf
namespace Go.Proofs.Leaf
open Go Go.RX Go.Proofs
set_option maxRecDepth 10000
variable [Glob]
def shortB (J : Job) : Bool := decide (J.gs.length ≤ 5) && decide (J.ps.length ≤ 7)
theorem c_lshort (J : Job) (h : J.far) : Ctr Tryz.prog 21 [J.sv] (bS (shortB J)) := by
 have h1 := h.1
 have h2 := h.2
 (refine Ctr.mk (fn := Tryz.f21) rfl rfl rfl rfl rfl Tryz.results21 ?_; intro _; dsimp only [args, List.toList_toArray])
 (first|refine qE ?_|refine qD ?_);(simp only [go_sem,↓dP,↓reduceIte];with_reducible and_intros;all_goals first|apply qA|exact qC|skip)
 (first|refine qE ?_|refine qD ?_);(simp only [go_sem,↓dP,↓reduceIte];with_reducible and_intros;all_goals first|apply qA|exact qC|skip)
 (refine Ok.ret ?_; (try dsimp only [thenK, blockK, noGotoK]); simp only [toList_mk, List.toList_toArray, retK_ret, retK_normal, resOK, resV, celV, rowV, frzAll, frzT, subV, subL, go_sem,↓dP,↓reduceIte])
 refine DEq.bool ?_
 unfold shortB
 by_cases g1 : J.gs.length ≤ 5 <;> by_cases g2 : J.ps.length ≤ 7 <;> simp [g1, g2] <;> omega
theorem short_held {J : Job} (h : shortB J = true) : J.held := by
 simp only [shortB, Bool.and_eq_true, decide_eq_true_eq] at h
 exact ⟨by omega, by omega⟩
end Go.Proofs.Leaf
namespace Go.Proofs.Leaf
open Go Go.RX Go.Proofs
set_option maxRecDepth 10000
variable [Glob]
theorem c_Lays0 (J : Job) (hh : J.held) (hj : jobB J = false) : Ctr Tryz.prog 43 [J.sv] (.tup [iS 0, iS 2]) := by
 (refine Ctr.mk (fn := Tryz.f43) rfl rfl rfl rfl rfl Tryz.results43 ?_; intro _; dsimp only [args, List.toList_toArray])
 (first|refine qE ?_|refine qD ?_);(simp only [go_sem,↓dP,↓reduceIte];with_reducible and_intros;all_goals first|apply qA|exact qC|skip)
 refine Ok.seq ?_
 (first|refine qE ?_|refine qD ?_);(simp only [go_sem,↓dP,↓reduceIte];with_reducible and_intros;all_goals first|apply qA|exact qC|skip)
 (refine AskI.ret (c_isJob J hh) ?_; simp only [go_sem,↓dP,↓reduceIte];with_reducible and_intros;all_goals first|apply qA|exact qC|skip)
 refine Ok.cond rfl (fun _ => ?_) (fun hb => by rw [hj] at hb; cases hb)
 (first|refine qE ?_|refine qD ?_);(simp only [go_sem,↓dP,↓reduceIte];with_reducible and_intros;all_goals first|apply qA|exact qC|skip)
 (refine Ok.ret ?_; (try dsimp only [thenK, blockK, noGotoK]); simp only [toList_mk, List.toList_toArray, retK_ret, retK_normal, resOK, resV, celV, rowV, frzAll, frzT, subV, subL, go_sem,↓dP,↓reduceIte])
 ((repeat' with_reducible apply And.intro) <;> (first | exact DEq.refl _ | refine DEq.int ?_ | refine DEq.bool ?_ | skip))
theorem c_Plan0 (J : Job) (hh : J.held) (hj : jobB J = false) : Ctr Tryz.prog 44 [J.sv] (.tup [.d .nils, iS 2]) := by
 (refine Ctr.mk (fn := Tryz.f44) rfl rfl rfl rfl rfl Tryz.results44 ?_; intro _; dsimp only [args, List.toList_toArray])
 (first|refine qE ?_|refine qD ?_);(simp only [go_sem,↓dP,↓reduceIte];with_reducible and_intros;all_goals first|apply qA|exact qC|skip)
 refine Ok.seq ?_
 (first|refine qE ?_|refine qD ?_);(simp only [go_sem,↓dP,↓reduceIte];with_reducible and_intros;all_goals first|apply qA|exact qC|skip)
 (refine AskI.ret (c_isJob J hh) ?_; simp only [go_sem,↓dP,↓reduceIte];with_reducible and_intros;all_goals first|apply qA|exact qC|skip)
 refine Ok.cond rfl (fun _ => ?_) (fun hb => by rw [hj] at hb; cases hb)
 (first|refine qE ?_|refine qD ?_);(simp only [go_sem,↓dP,↓reduceIte];with_reducible and_intros;all_goals first|apply qA|exact qC|skip)
 (refine Ok.ret ?_; (try dsimp only [thenK, blockK, noGotoK]); simp only [toList_mk, List.toList_toArray, retK_ret, retK_normal, resOK, resV, celV, rowV, frzAll, frzT, subV, subL, go_sem,↓dP,↓reduceIte])
 ((repeat' with_reducible apply And.intro) <;> (first | exact DEq.refl _ | refine DEq.int ?_ | refine DEq.bool ?_ | skip))
end Go.Proofs.Leaf
namespace Go.Proofs.YtojfpogcfpmblaaGreatDoor
open Go Go.RX Go.Proofs.Leaf Go.RowKit Go.ChangeShapes Go.WideShapes Go.ChangeAt
set_option maxRecDepth 100000
section
variable {H : Type} {enc : TypeId × Value → H} {W : World}
end
theorem opensAll_cons {t : TypeId} {ts : List TypeId} {As : List SV} (h : opensAll (t :: ts) As) : ∃ A Bs, As = A :: Bs ∧ opens t A ∧ opensAll ts Bs := by
 cases As with
 | nil => exact h.elim
 | cons A Bs => exact ⟨A, Bs, rfl, h.1, h.2⟩
theorem opensAll_nil {As : List SV} (h : opensAll [] As) : As = [] := by
 cases As with
 | nil => rfl
 | cons A Bs => exact h.elim
end Go.Proofs.YtojfpogcfpmblaaGreatDoor
namespace Go.Proofs.Leaf
open Go Go.RX Go.Proofs Go.RowKit
set_option maxRecDepth 100000
section
theorem law_Lays (J : Job) (hf : J.far) : Ctr Tryz.prog 11 [J.sv] (bS true) := by
 (refine Ctr.mk (fn := Tryz.f11) rfl rfl rfl rfl rfl Tryz.results11 ?_; intro _; dsimp only [args, List.toList_toArray])
 (first|refine qE ?_|refine qD ?_);(simp only [go_sem,↓dP,↓reduceIte];with_reducible and_intros;all_goals first|apply qA|exact qC|skip)
 refine Ok.seq ?_
 (first|refine qE ?_|refine qD ?_);(simp only [go_sem,↓dP,↓reduceIte];with_reducible and_intros;all_goals first|apply qA|exact qC|skip)
 (refine AskI.ret (c_lshort J hf) ?_; simp only [go_sem,↓dP,↓reduceIte];with_reducible and_intros;all_goals first|apply qA|exact qC|skip)
 refine Ok.cond rfl ?_ ?_
 ·intro hs
  (first|refine qE ?_|refine qD ?_);(simp only [go_sem,↓dP,↓reduceIte];with_reducible and_intros;all_goals first|apply qA|exact qC|skip)
  (refine AskI.ret (c_known) ?_; simp only [go_sem,↓dP,↓reduceIte];with_reducible and_intros;all_goals first|apply qA|exact qC|skip)
  (refine Ok.ret ?_; (try dsimp only [thenK, blockK, noGotoK]); simp only [toList_mk, List.toList_toArray, retK_ret, retK_normal, resOK, resV, celV, rowV, frzAll, frzT, subV, subL, go_sem,↓dP,↓reduceIte])
  ((repeat' with_reducible apply And.intro) <;> (first | exact DEq.refl _ | refine DEq.int ?_ | refine DEq.bool ?_ | skip))
 intro hs
 have hh := short_held (by simpa using hs)
 (refine Ok.skip ?_; (try dsimp only [thenK, blockK, noGotoK]))
 cases hj : jobB J
 ·(first|refine qE ?_|refine qD ?_);(simp only [go_sem,↓dP,↓reduceIte];with_reducible and_intros;all_goals first|apply qA|exact qC|skip)
  (refine AskI.ret (c_Lays0 J hh hj) ?_; simp only [go_sem,↓dP,↓reduceIte];with_reducible and_intros;all_goals first|apply qA|exact qC|skip)
  (first|refine qE ?_|refine qD ?_);(simp only [go_sem,↓dP,↓reduceIte];with_reducible and_intros;all_goals first|apply qA|exact qC|skip)
  (refine AskI.ret (c_Plan0 J hh hj) ?_; simp only [go_sem,↓dP,↓reduceIte];with_reducible and_intros;all_goals first|apply qA|exact qC|skip)
  refine Ok.seq ?_
  (first|refine qE ?_|refine qD ?_);(simp only [go_sem,↓dP,↓reduceIte];with_reducible and_intros;all_goals first|apply qA|exact qC|skip)
  (refine AskI.ret (c_rJob J hh) ?_; simp only [go_sem,↓dP,↓reduceIte];with_reducible and_intros;all_goals first|apply qA|exact qC|skip)
  refine Ok.cond rfl (fun _ => ?_) (fun hb => by rw [hj] at hb; cases hb)
  (first|refine qE ?_|refine qD ?_);(simp only [go_sem,↓dP,↓reduceIte];with_reducible and_intros;all_goals first|apply qA|exact qC|skip)
  (refine AskGI.ret (fun _ => c_known) ?_; simp only [go_sem,↓dP,↓reduceIte];with_reducible and_intros;all_goals first|apply qA|exact qC|skip)
  (refine Ok.ret ?_; (try dsimp only [thenK, blockK, noGotoK]); simp only [toList_mk, List.toList_toArray, retK_ret, retK_normal, resOK, resV, celV, rowV, frzAll, frzT, subV, subL, go_sem,↓dP,↓reduceIte])
  ((repeat' with_reducible apply And.intro) <;> (first | exact DEq.refl _ | refine DEq.int ?_ | refine DEq.bool ?_ | skip))
 ·have h := jobB_iff.1 hj
  have hp := h.p1
  (first|refine qE ?_|refine qD ?_);(simp only [go_sem,↓dP,↓reduceIte];with_reducible and_intros;all_goals first|apply qA|exact qC|skip)
  (refine AskI.ret (c_Lays J h.based hh h.timed (by omega) hj) ?_; simp only [go_sem,↓dP,↓reduceIte];with_reducible and_intros;all_goals first|apply qA|exact qC|skip)
  (first|refine qE ?_|refine qD ?_);(simp only [go_sem,↓dP,↓reduceIte];with_reducible and_intros;all_goals first|apply qA|exact qC|skip)
  (refine AskI.ret (c_Plan J h.based hh h.timed (by omega) hj) ?_; simp only [go_sem,↓dP,↓reduceIte];with_reducible and_intros;all_goals first|apply qA|exact qC|skip)
  refine Ok.seq ?_
  (first|refine qE ?_|refine qD ?_);(simp only [go_sem,↓dP,↓reduceIte];with_reducible and_intros;all_goals first|apply qA|exact qC|skip)
  (refine AskI.ret (c_rJob J hh) ?_; simp only [go_sem,↓dP,↓reduceIte];with_reducible and_intros;all_goals first|apply qA|exact qC|skip)
  refine Ok.cond rfl (fun hb => by rw [hj] at hb; cases hb) (fun _ => ?_)
  (refine Ok.skip ?_; (try dsimp only [thenK, blockK, noGotoK]))
  refine Ok.seq ?_
  (first|refine qE ?_|refine qD ?_);(simp only [go_sem,↓dP,↓reduceIte];with_reducible and_intros;all_goals first|apply qA|exact qC|skip)
  (refine AskGI.ret (fun _ => c_rLays J h.based h.timed (by omega)) ?_; simp only [go_sem,↓dP,↓reduceIte];with_reducible and_intros;all_goals first|apply qA|exact qC|skip)
  refine Ok.cond rfl (fun hb => by simp at hb) (fun _ => ?_)
  (refine Ok.skip ?_; (try dsimp only [thenK, blockK, noGotoK]))
  (first|refine qE ?_|refine qD ?_);(simp only [go_sem,↓dP,↓reduceIte];with_reducible and_intros;all_goals first|apply qA|exact qC|skip)
  (refine AskI.ret (c_rPlan J h.based h.timed (by omega)) ?_; simp only [go_sem,↓dP,↓reduceIte];with_reducible and_intros;all_goals first|apply qA|exact qC|skip)
  cases hpl : planOf J false with
  | none =>
   refine Ok.seq ?_
   (first|refine qE ?_|refine qD ?_);(simp only [go_sem,↓dP,↓reduceIte];with_reducible and_intros;all_goals first|apply qA|exact qC|skip)
   refine Ok.cond (b := true) (by first | rfl | (simp only [go_sem,↓dP,↓reduceIte]; rfl)) (fun _ => ?_) (fun hb => by cases hb)
   (first|refine qE ?_|refine qD ?_);(simp only [go_sem,↓dP,↓reduceIte];with_reducible and_intros;all_goals first|apply qA|exact qC|skip)
   (refine AskGI.ret (fun _ => c_known) ?_; simp only [go_sem,↓dP,↓reduceIte];with_reducible and_intros;all_goals first|apply qA|exact qC|skip)
   (refine Ok.ret ?_; (try dsimp only [thenK, blockK, noGotoK]); simp only [toList_mk, List.toList_toArray, retK_ret, retK_normal, resOK, resV, celV, rowV, frzAll, frzT, subV, subL, go_sem,↓dP,↓reduceIte])
   ((repeat' with_reducible apply And.intro) <;> (first | exact DEq.refl _ | refine DEq.int ?_ | refine DEq.bool ?_ | skip))
  | some l =>
   have hl := plan_len hpl
   refine Ok.seq ?_
   (first|refine qE ?_|refine qD ?_);(simp only [go_sem,↓dP,↓reduceIte];with_reducible and_intros;all_goals first|apply qA|exact qC|skip)
   refine Ok.cond (b := false) (by first | rfl | (simp only [go_sem,↓dP,↓reduceIte]; rfl)) (fun hb => by cases hb) (fun _ => ?_)
   (refine Ok.skip ?_; (try dsimp only [thenK, blockK, noGotoK]))
   (first|refine qE ?_|refine qD ?_);(simp only [go_sem,↓dP,↓reduceIte];with_reducible and_intros;all_goals first|apply qA|exact qC|skip)
   (refine AskGI.ret (fun _ => c_tSame l l (by omega) (by omega)) ?_; simp only [go_sem,↓dP,↓reduceIte];with_reducible and_intros;all_goals first|apply qA|exact qC|skip)
   (refine AskGI.ret (fun _ => c_known) ?_; simp only [go_sem,↓dP,↓reduceIte];with_reducible and_intros;all_goals first|apply qA|exact qC|skip)
   (refine Ok.ret ?_; (try dsimp only [thenK, blockK, noGotoK]); simp only [toList_mk, List.toList_toArray, retK_ret, retK_normal, resOK, resV, celV, rowV, frzAll, frzT, subV, subL, go_sem,↓dP,↓reduceIte])
   ((repeat' with_reducible apply And.intro) <;> (first | exact DEq.refl _ | refine DEq.int ?_ | refine DEq.bool ?_ | skip))
end
end Go.Proofs.Leaf
namespace Go.Proofs.YtojfpogcfpmblaaGreatDoor
open Go Go.RX Go.Proofs.Leaf Go.RowKit Go.ChangeShapes Go.WideShapes Go.ChangeAt
set_option maxRecDepth 100000
theorem leafLays_ctr (As : List SV) (h : opensAll [25] As) : Ctr Tryz.prog 11 As (bS true) := by
 obtain ⟨_, A1, rfl, h0, h⟩ := opensAll_cons h
 obtain rfl := opensAll_nil h
 obtain ⟨x0, rfl, y0⟩ := opens_job h0
 exact law_Lays x0 y0
theorem leafLays_facts : joinedFacts Tryz.prog 11 Tryz.f11 Rows.leafLaysSpec Rows.leafLaysRow = true := by unfold joinedFacts; rw [enter_is, final_is, make_is]; kernel_rfl
theorem leafLays_lifted (os : Os) (started : os.Started) (H : Type) (enc : TypeId × Value → H) :
  ReturnsInHanded {} Tryz.checked os 11 .any (fun w args => (Rows.leafLaysSpec.pre enc Tryz.prog Tryz.f11 [] false w args ∧ laidMetH Tryz.prog laid5 w) ∧ sizedMet enc Tryz.prog Tryz.f11 (OpenSpec.ofChange Rows.leafLaysSpec) false w args)
   (Rows.leafLaysSpec.post enc Tryz.prog Tryz.f11 false true false false) := by
 refine law_ctr (ts := [25]) Rows.leafLaysSpec rfl started (by kernel_rfl) Tryz.func11 (by kernel_rfl) (by rw [Tryz.params11]) (by unfold argT; decide)
  (fun ds hd => ?_)
  (ChangeSpec.witness_shaped (enc := enc) (C := Tryz.checked) (os := os) (X := fun w _ => laidMetH Tryz.prog laid5 w) false (World.laidAll Tryz.prog os laid5) #[zJ] 8 (World.laidAll_os _ _ _)
   (World.shaped_of_ZipB (by kernel_rfl) (by kernel_rfl)) (by kernel_rfl) (by kernel_rfl) (by kernel_rfl)
   (by rw [MakeChecks.laidMetH_plain _ _ _ (by kernel_rfl)]; exact laidMet_laidAll _ (by kernel_rfl) (by kernel_rfl))) leafLays_ctr
 match ds, hd with
 | [d0], _ => rfl
theorem leafLays_row : Rows.LeafLaysSaid :=
 OpenClaim.holds_of_wide 11 Tryz.f11 rfl rfl rfl rfl rfl rfl rfl ⟨rfl, rfl, rfl, rfl, rfl⟩ rfl rfl rfl rfl rfl (by kernel_rfl) Tryz.func11 leafLays_facts (of_decide_eq_true (by kernel_rfl))
  (by unfold Func.isWrapper; first | (rw [if_pos (by decide +kernel)]; kernel_rfl) | (rw [if_neg (by decide +kernel)]; exact ⟨rfl, rfl⟩)) (fun os started H enc _ => leafLays_lifted os started H enc)
theorem leafLays_card : Rows.LeafLaysCardSaid :=
 Claim7.holds_tied_plain_at .later [] [.data, .data, .data, .data, .pinned] true (true, "b9e665a4b67ae011e5ed22b8eb226cc6d74f55357845231d1045bbc61717fa8c") true leafLays_row
  (fun _ h => by cases h) (by kernel_rfl) (fun _ h => by cases h) leafLays_row_tie rfl ⟨rfl, rfl⟩ main_is rfl
  (fun f fn hf hfn => by
   obtain rfl : f = 11 := Option.some.inj ((show Tryz.prog.funcNamed "mahlstick/mahlsticklaw04.LeafLays" = some 11 by kernel_rfl).symm.trans hf) |>.symm
   obtain rfl : fn = Tryz.f11 := (Option.some.inj (Tryz.func11.symm.trans hfn)).symm
   exact ⟨by kernel_rfl, fun j t ht => by
    rw [Tryz.params11] at ht
    exact law_stand (ts := [25]) (by unfold argT; decide) (by simpa using Array.mem_of_getElem? ht)⟩) (by kernel_rfl)
end Go.Proofs.YtojfpogcfpmblaaGreatDoor
