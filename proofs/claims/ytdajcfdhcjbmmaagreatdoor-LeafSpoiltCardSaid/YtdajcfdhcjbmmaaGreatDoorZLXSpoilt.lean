/-
  a text of which one digit was changed: LeafSpoilt returns true at every input, and leaves it as it was.
  No condition beside those that the statement itself names.
-/
import Derived.Test.YtdajcfdhcjbmmaaGreatDoorB30
import Derived.Laws.StructEq
import Derived.WalkKit
import Derived.Defers
import Derived.Recover
import Derived.Lib.Join
import Derived.Lib.AppendIntMem
import Derived.Lib.SplitLaws
import Derived.Lib.ItoaLen
import Derived.ChangeMaps5
import Derived.Lib.ConvBytes
set_option linter.all false
namespace Go.Proofs.Leaf
open Go Go.RX Go.Proofs
set_option maxRecDepth 10000
variable [Glob]
theorem c_rin (n lo hi:Int):Ctr Tryz.prog 50 [iS n,iS lo,iS hi] (bS (inB n lo hi)):=by
 (refine Ctr.mk (fn:=Tryz.f50) rfl rfl rfl rfl rfl Tryz.results50 ?_;intro _;dsimp only [args,List.toList_toArray])
 (first|refine qE ?_|refine qD ?_);(simp only [go_sem,↓dP,↓reduceIte];with_reducible and_intros;all_goals first|apply qA|exact qC|skip)
 (first|refine qE ?_|refine qD ?_);(simp only [go_sem,↓dP,↓reduceIte];with_reducible and_intros;all_goals first|apply qA|exact qC|skip)
 (refine Ok.ret ?_;(try dsimp only [thenK,blockK,noGotoK]);simp only [toList_mk,List.toList_toArray,retK_ret,retK_normal,resOK,resV,celV,rowV,frzAll,frzT,subV,subL,go_sem,↓dP,↓reduceIte])
 exact .refl _
end Go.Proofs.Leaf
namespace Go.Proofs.Leaf
open Go Go.RX Go.Proofs
set_option maxRecDepth 10000
variable [Glob]
theorem c_rJob (J:Job) (hh:J.held):Ctr Tryz.prog 26 [J.sv] (bS (jobB J)):=by
 have hh1:=hh.1
 have hh2:=hh.2
 (refine Ctr.mk (fn:=Tryz.f26) rfl rfl rfl rfl rfl Tryz.results26 ?_;intro _;dsimp only [args,List.toList_toArray])
 (first|refine qE ?_|refine qD ?_);(simp only [go_sem,↓dP,↓reduceIte];with_reducible and_intros;all_goals first|apply qA|exact qC|skip)
 refine Ok.seq ?_
 (first|refine qE ?_|refine qD ?_);(simp only [go_sem,↓dP,↓reduceIte];with_reducible and_intros;all_goals first|apply qA|exact qC|skip)
 (refine AskI.ret (c_rin _ _ _) ?_;simp only [go_sem,↓dP,↓reduceIte];with_reducible and_intros;all_goals first|apply qA|exact qC|skip)
 (refine AskGI.ret (fun _ => c_rin _ _ _) ?_;simp only [go_sem,↓dP,↓reduceIte];with_reducible and_intros;all_goals first|apply qA|exact qC|skip)
 (refine AskGI.ret (fun _ => c_rin _ _ _) ?_;simp only [go_sem,↓dP,↓reduceIte];with_reducible and_intros;all_goals first|apply qA|exact qC|skip)
 ·intro h
  have:inB J.book 1 25 = true:=by revert h;cases inB J.book 1 25<;>simp
  rw [inB_iff] at this
  exact R64 (by omega) (by omega)
 (refine AskGI.ret (fun _ => c_rin _ _ _) ?_;simp only [go_sem,↓dP,↓reduceIte];with_reducible and_intros;all_goals first|apply qA|exact qC|skip)
 (refine AskGI.ret (fun _ => c_rin _ _ _) ?_;simp only [go_sem,↓dP,↓reduceIte];with_reducible and_intros;all_goals first|apply qA|exact qC|skip)
 (refine AskGI.ret (fun _ => c_rin _ _ _) ?_;simp only [go_sem,↓dP,↓reduceIte];with_reducible and_intros;all_goals first|apply qA|exact qC|skip)
 refine Ok.cond rfl ?_ ?_
 ·intro hb
  (first|refine qE ?_|refine qD ?_);(simp only [go_sem,↓dP,↓reduceIte];with_reducible and_intros;all_goals first|apply qA|exact qC|skip)
  (refine Ok.ret ?_;(try dsimp only [thenK,blockK,noGotoK]);simp only [toList_mk,List.toList_toArray,retK_ret,retK_normal,resOK,resV,celV,rowV,frzAll,frzT,subV,subL,go_sem,↓dP,↓reduceIte])
  refine DEq.bool ?_
  have:headB J = false:=by
   revert hb
   unfold headB
   cases inB J.wide 1 6<;>cases inB J.high 1 6<;>cases inB J.book 1 25<;>cases inB J.spoilt 0 (J.book - 1)<;>cases inB J.gs.length 1 3<;>cases inB J.ps.length 1 5<;>simp
  simp [jobB,this]
 intro hb
 have hhead:headB J = true:=by
  revert hb
  unfold headB
  cases inB J.wide 1 6<;>cases inB J.high 1 6<;>cases inB J.book 1 25<;>cases inB J.spoilt 0 (J.book - 1)<;>cases inB J.gs.length 1 3<;>cases inB J.ps.length 1 5<;>simp
 (refine Ok.skip ?_;(try dsimp only [thenK,blockK,noGotoK]))
 refine Ok.seq ?_
 (first|refine qE ?_|refine qD ?_);(simp only [go_sem,↓dP,↓reduceIte];with_reducible and_intros;all_goals first|apply qA|exact qC|skip)
 refine Ok.block ?_
 refine Ok.count J.gs.length (fun i => ⟨[(1,.p 0 0),(3,iS i)],[jobC J],[]⟩) (fun i => ∀ x∈J.gs.take i,(!groundB x) = false) ⟨fun x hx => by simp at hx,?_⟩ ?_ ?_
 ·(refine Sub.of ([0]) ([]) ?_ ?_ ?_ rfl rfl<;>simp only [subB,subB1,subT,subT1,newT,subE,subV,subL,go_sem,↓dP,↓reduceIte]<;>(try (repeat' with_reducible apply And.intro))<;>(try first | exact DEq.refl _ | refine DEq.int ?_ | refine DEq.bool ?_ | omega))
 ·intro i hi h0
  refine Ok.seq ?_;((first|refine qE ?_|refine qD ?_);(simp only [go_sem,↓dP,↓reduceIte];with_reducible and_intros;all_goals first|apply qA|exact qC|skip));refine Ok.cond rfl (fun _ => ?_) (fun hb => by simp at hb;omega);(refine Ok.skip ?_;(try dsimp only [thenK,blockK,noGotoK]));refine Ok.seq ?_;refine Ok.block ?_
  (first|refine qE ?_|refine qD ?_);(simp only [go_sem,↓dP,↓reduceIte];with_reducible and_intros;all_goals first|apply qA|exact qC|skip)
  (first|refine qE ?_|refine qD ?_);(simp only [go_sem,↓dP,↓reduceIte];with_reducible and_intros;all_goals first|apply qA|exact qC|skip)
  (refine AskI.ret (c_rin _ _ _) ?_;simp only [go_sem,↓dP,↓reduceIte];with_reducible and_intros;all_goals first|apply qA|exact qC|skip)
  (refine AskGI.ret (fun _ => c_rin _ _ _) ?_;simp only [go_sem,↓dP,↓reduceIte];with_reducible and_intros;all_goals first|apply qA|exact qC|skip)
  (refine AskGI.ret (fun _ => c_rin _ _ _) ?_;simp only [go_sem,↓dP,↓reduceIte];with_reducible and_intros;all_goals first|apply qA|exact qC|skip)
  (refine AskGI.ret (fun _ => c_rin _ _ _) ?_;simp only [go_sem,↓dP,↓reduceIte];with_reducible and_intros;all_goals first|apply qA|exact qC|skip)
  have hg:groundB (J.gs.getD i default) = (inB (J.gs.getD i default).rl 0 12 && inB (J.gs.getD i default).rh (J.gs.getD i default).rl 12 && inB (J.gs.getD i default).ll (J.gs.getD i default).rh 12 && inB (J.gs.getD i default).lh (J.gs.getD i default).ll 12):=rfl
  refine Ok.cond rfl ?_ ?_
  ·intro hx
   have hx':(!groundB (J.gs.getD i default)) = true:=by
    rw [hg]
    revert hx
    cases inB (J.gs.getD i default).rl 0 12<;>cases inB (J.gs.getD i default).rh (J.gs.getD i default).rl 12<;>cases inB (J.gs.getD i default).ll (J.gs.getD i default).rh 12<;>cases inB (J.gs.getD i default).lh (J.gs.getD i default).ll 12<;>simp
   (first|refine qE ?_|refine qD ?_);(simp only [go_sem,↓dP,↓reduceIte];with_reducible and_intros;all_goals first|apply qA|exact qC|skip)
   (refine Ok.ret ?_;(try dsimp only [thenK,blockK,noGotoK]);simp only [toList_mk,List.toList_toArray,retK_ret,retK_normal,resOK,resV,celV,rowV,frzAll,frzT,subV,subL,go_sem,↓dP,↓reduceIte])
   refine DEq.bool ?_
   have:J.gs.any (fun g => !groundB g) = true:=List.any_eq_true.2 ⟨_,getD_mem hi,hx'⟩
   rw [jobB,all_any,this];simp
  ·intro hx
   have hx':(!groundB (J.gs.getD i default)) = false:=by
    rw [hg]
    revert hx
    cases inB (J.gs.getD i default).rl 0 12<;>cases inB (J.gs.getD i default).rh (J.gs.getD i default).rl 12<;>cases inB (J.gs.getD i default).ll (J.gs.getD i default).rh 12<;>cases inB (J.gs.getD i default).lh (J.gs.getD i default).ll 12<;>simp
   (refine Ok.skip ?_;(try dsimp only [thenK,blockK,noGotoK]))
   (first|refine qE ?_|refine qD ?_);(simp only [go_sem,↓dP,↓reduceIte];with_reducible and_intros;all_goals first|apply qA|exact qC|skip)
   (try dsimp only [thenK,blockK,noGotoK])
   refine ⟨no_step (q:=fun g => !groundB g) hi h0 hx',?_⟩
   (refine Sub.of ([0]) ([]) ?_ ?_ ?_ rfl rfl<;>simp only [subB,subB1,subT,subT1,newT,subE,subV,subL,go_sem,↓dP,↓reduceIte]<;>(try (repeat' with_reducible apply And.intro))<;>(try first | exact DEq.refl _ | refine DEq.int ?_ | refine DEq.bool ?_ | omega))
 intro h0
 have hgs:J.gs.any (fun g => !groundB g) = false:=List.any_eq_false.2 (fun x hx => by simp [h0 x (by simpa using hx)])
 refine Ok.seq ?_;((first|refine qE ?_|refine qD ?_);(simp only [go_sem,↓dP,↓reduceIte];with_reducible and_intros;all_goals first|apply qA|exact qC|skip));refine Ok.cond rfl (fun hb => by simp at hb) (fun _ => ?_);(refine Ok.exit ?_;simp only [thenK_exit,blockK_exit,noGotoK_exit,thenK_normal,blockK_normal,noGotoK_normal,↓reduceIte,Nat.reduceEqDiff])
 refine Ok.seq ?_
 (first|refine qE ?_|refine qD ?_);(simp only [go_sem,↓dP,↓reduceIte];with_reducible and_intros;all_goals first|apply qA|exact qC|skip)
 refine Ok.block ?_
 refine Ok.count J.ps.length (fun i => ⟨[(1,.p 0 0),(5,iS i)],[jobC J],[]⟩) (fun i => ∀ x∈J.ps.take i,(!pieceB J.gs.length x) = false) ⟨fun x hx => by simp at hx,?_⟩ ?_ ?_
 ·(refine Sub.of ([0]) ([]) ?_ ?_ ?_ rfl rfl<;>simp only [subB,subB1,subT,subT1,newT,subE,subV,subL,go_sem,↓dP,↓reduceIte]<;>(try (repeat' with_reducible apply And.intro))<;>(try first | exact DEq.refl _ | refine DEq.int ?_ | refine DEq.bool ?_ | omega))
 ·intro i hi h0
  refine Ok.seq ?_;((first|refine qE ?_|refine qD ?_);(simp only [go_sem,↓dP,↓reduceIte];with_reducible and_intros;all_goals first|apply qA|exact qC|skip));refine Ok.cond rfl (fun _ => ?_) (fun hb => by simp at hb;omega);(refine Ok.skip ?_;(try dsimp only [thenK,blockK,noGotoK]));refine Ok.seq ?_;refine Ok.block ?_
  (first|refine qE ?_|refine qD ?_);(simp only [go_sem,↓dP,↓reduceIte];with_reducible and_intros;all_goals first|apply qA|exact qC|skip)
  (first|refine qE ?_|refine qD ?_);(simp only [go_sem,↓dP,↓reduceIte];with_reducible and_intros;all_goals first|apply qA|exact qC|skip)
  (refine AskI.ret (c_rin _ _ _) ?_;simp only [go_sem,↓dP,↓reduceIte];with_reducible and_intros;all_goals first|apply qA|exact qC|skip)
  (refine AskGI.ret (fun _ => c_rin _ _ _) ?_;simp only [go_sem,↓dP,↓reduceIte];with_reducible and_intros;all_goals first|apply qA|exact qC|skip)
  (refine AskGI.ret (fun _ => c_rin _ _ _) ?_;simp only [go_sem,↓dP,↓reduceIte];with_reducible and_intros;all_goals first|apply qA|exact qC|skip)
  have hg:pieceB J.gs.length (J.ps.getD i default) = (inB (J.ps.getD i default).w 1 6 && inB (J.ps.getD i default).h 1 6 && inB (J.ps.getD i default).g 0 (J.gs.length - 1)):=rfl
  refine Ok.cond rfl ?_ ?_
  ·intro hx
   have hx':(!pieceB J.gs.length (J.ps.getD i default)) = true:=by
    rw [hg]
    revert hx
    cases inB (J.ps.getD i default).w 1 6<;>cases inB (J.ps.getD i default).h 1 6<;>cases inB (J.ps.getD i default).g 0 (J.gs.length - 1)<;>simp
   (first|refine qE ?_|refine qD ?_);(simp only [go_sem,↓dP,↓reduceIte];with_reducible and_intros;all_goals first|apply qA|exact qC|skip)
   (refine Ok.ret ?_;(try dsimp only [thenK,blockK,noGotoK]);simp only [toList_mk,List.toList_toArray,retK_ret,retK_normal,resOK,resV,celV,rowV,frzAll,frzT,subV,subL,go_sem,↓dP,↓reduceIte])
   refine DEq.bool ?_
   have:J.ps.any (fun p => !pieceB J.gs.length p) = true:=List.any_eq_true.2 ⟨_,getD_mem hi,hx'⟩
   rw [jobB,all_any J.ps,this];simp
  ·intro hx
   have hx':(!pieceB J.gs.length (J.ps.getD i default)) = false:=by
    rw [hg]
    revert hx
    cases inB (J.ps.getD i default).w 1 6<;>cases inB (J.ps.getD i default).h 1 6<;>cases inB (J.ps.getD i default).g 0 (J.gs.length - 1)<;>simp
   (refine Ok.skip ?_;(try dsimp only [thenK,blockK,noGotoK]))
   (first|refine qE ?_|refine qD ?_);(simp only [go_sem,↓dP,↓reduceIte];with_reducible and_intros;all_goals first|apply qA|exact qC|skip)
   (try dsimp only [thenK,blockK,noGotoK])
   refine ⟨no_step (q:=fun p => !pieceB J.gs.length p) hi h0 hx',?_⟩
   (refine Sub.of ([0]) ([]) ?_ ?_ ?_ rfl rfl<;>simp only [subB,subB1,subT,subT1,newT,subE,subV,subL,go_sem,↓dP,↓reduceIte]<;>(try (repeat' with_reducible apply And.intro))<;>(try first | exact DEq.refl _ | refine DEq.int ?_ | refine DEq.bool ?_ | omega))
 ·intro h0
  have hps:J.ps.any (fun p => !pieceB J.gs.length p) = false:=List.any_eq_false.2 (fun x hx => by simp [h0 x (by simpa using hx)])
  refine Ok.seq ?_;((first|refine qE ?_|refine qD ?_);(simp only [go_sem,↓dP,↓reduceIte];with_reducible and_intros;all_goals first|apply qA|exact qC|skip));refine Ok.cond rfl (fun hb => by simp at hb) (fun _ => ?_);(refine Ok.exit ?_;simp only [thenK_exit,blockK_exit,noGotoK_exit,thenK_normal,blockK_normal,noGotoK_normal,↓reduceIte,Nat.reduceEqDiff])
  (first|refine qE ?_|refine qD ?_);(simp only [go_sem,↓dP,↓reduceIte];with_reducible and_intros;all_goals first|apply qA|exact qC|skip)
  (refine Ok.ret ?_;(try dsimp only [thenK,blockK,noGotoK]);simp only [toList_mk,List.toList_toArray,retK_ret,retK_normal,resOK,resV,celV,rowV,frzAll,frzT,subV,subL,go_sem,↓dP,↓reduceIte])
  refine DEq.bool ?_
  rw [jobB,hhead,all_any,all_any,hgs,hps]
  rfl
end Go.Proofs.Leaf
namespace Go.Proofs.Leaf
open Go Go.RX Go.Proofs
set_option maxRecDepth 10000
variable [Glob]
def shortB (J:Job):Bool:=decide (J.gs.length<=5) && decide (J.ps.length<=7)
theorem c_lshort (J:Job) (h:J.far):Ctr Tryz.prog 23 [J.sv] (bS (shortB J)):=by
 have h1:=h.1
 have h2:=h.2
 (refine Ctr.mk (fn:=Tryz.f23) rfl rfl rfl rfl rfl Tryz.results23 ?_;intro _;dsimp only [args,List.toList_toArray])
 (first|refine qE ?_|refine qD ?_);(simp only [go_sem,↓dP,↓reduceIte];with_reducible and_intros;all_goals first|apply qA|exact qC|skip)
 (first|refine qE ?_|refine qD ?_);(simp only [go_sem,↓dP,↓reduceIte];with_reducible and_intros;all_goals first|apply qA|exact qC|skip)
 (refine Ok.ret ?_;(try dsimp only [thenK,blockK,noGotoK]);simp only [toList_mk,List.toList_toArray,retK_ret,retK_normal,resOK,resV,celV,rowV,frzAll,frzT,subV,subL,go_sem,↓dP,↓reduceIte])
 refine DEq.bool ?_
 unfold shortB
 by_cases g1:J.gs.length<=5<;>by_cases g2:J.ps.length<=7<;>simp [g1,g2]<;>omega
theorem short_held {J:Job} (h:shortB J = true):J.held:=by
 simp only [shortB,Bool.and_eq_true,decide_eq_true_eq] at h
 exact ⟨by omega,by omega⟩
def rightB (J:Job):Bool:=shortB J && jobB J
theorem c_lright (J:Job) (h:J.far):Ctr Tryz.prog 13 [J.sv] (bS (rightB J)):=by
 (refine Ctr.mk (fn:=Tryz.f13) rfl rfl rfl rfl rfl Tryz.results13 ?_;intro _;dsimp only [args,List.toList_toArray])
 (first|refine qE ?_|refine qD ?_);(simp only [go_sem,↓dP,↓reduceIte];with_reducible and_intros;all_goals first|apply qA|exact qC|skip)
 (first|refine qE ?_|refine qD ?_);(simp only [go_sem,↓dP,↓reduceIte];with_reducible and_intros;all_goals first|apply qA|exact qC|skip)
 (refine AskI.ret (c_lshort J h) ?_;simp only [go_sem,↓dP,↓reduceIte];with_reducible and_intros;all_goals first|apply qA|exact qC|skip)
 (refine AskGI.ret (fun h => c_rJob J (short_held (by simpa using h))) ?_;simp only [go_sem,↓dP,↓reduceIte];with_reducible and_intros;all_goals first|apply qA|exact qC|skip)
 (refine Ok.ret ?_;(try dsimp only [thenK,blockK,noGotoK]);simp only [toList_mk,List.toList_toArray,retK_ret,retK_normal,resOK,resV,celV,rowV,frzAll,frzT,subV,subL,go_sem,↓dP,↓reduceIte])
 refine DEq.bool ?_
 unfold rightB
 cases shortB J<;>simp
end Go.Proofs.Leaf
namespace Go.Proofs.Leaf
open Go Go.RX Go.Proofs Go.RowKit
attribute [local go_sem] Oper.semAt_some
set_option maxRecDepth 100000
theorem eqVs_bool {u:Value} {us vs:List Value} {ks:List Bool} {b:Bool} (h:(u :: us).map isB = true :: ks) (he:eqVs (u :: us) vs = some b):∃ x y vs' c,u = .bool x/\vs = .bool y :: vs'/\us.map isB = ks/\eqVs us vs' = some c/\b = ((x == y) && c):=by
 obtain ⟨v,vs',rfl⟩:=eqVs_c he
 simp only [List.map_cons,List.cons.injEq] at h
 rcases eqVs_cons he with ⟨k,x,y,c,rfl,rfl,h3,h4⟩ | ⟨x,y,c,rfl,rfl,h3,h4⟩
 ·simp [isB] at h
 ·exact ⟨x,y,vs',c,rfl,rfl,h.2,h3,h4⟩
theorem four_ints {us vs:Array Value} {b:Bool} (h:us.toList.map isB = [false,false,false,false]) (he:eqVs us.toList vs.toList = some b) :
  ∃ k0 k1 k2 k3 x0 x1 x2 x3 y0 y1 y2 y3,us = #[.int k0 x0,.int k1 x1,.int k2 x2,.int k3 x3]/\vs = #[.int k0 y0,.int k1 y1,.int k2 y2,.int k3 y3]/\b = ((x0 == y0) && ((x1 == y1) && ((x2 == y2) && (x3 == y3)))):=by
 obtain ⟨us⟩:=us
 obtain ⟨vs⟩:=vs
 simp only at h he
 have hl:us.length = 4:=by simpa using congrArg List.length h
 match us,hl,h,he with
 | [u0,u1,u2,u3],_,h,he =>
  obtain ⟨k0,x0,y0,vs1,c1,rfl,rfl,h1,he1,rfl⟩:=eqVs_int h he
  obtain ⟨k1,x1,y1,vs2,c2,rfl,rfl,h2,he2,rfl⟩:=eqVs_int h1 he1
  obtain ⟨k2,x2,y2,vs3,c3,rfl,rfl,h3,he3,rfl⟩:=eqVs_int h2 he2
  obtain ⟨k3,x3,y3,vs4,c4,rfl,rfl,h4,he4,rfl⟩:=eqVs_int h3 he3
  obtain ⟨rfl,rfl⟩:=eqVs_nil he4
  exact ⟨k0,k1,k2,k3,x0,x1,x2,x3,y0,y1,y2,y3,rfl,rfl,by simp⟩
theorem piece_cells {us vs:Array Value} {b:Bool} (h:us.toList.map isB = [false,false,true,false]) (he:eqVs us.toList vs.toList = some b) :
  ∃ k0 k1 k3 x0 x1 x2 x3 y0 y1 y2 y3,us = #[.int k0 x0,.int k1 x1,.bool x2,.int k3 x3]/\vs = #[.int k0 y0,.int k1 y1,.bool y2,.int k3 y3]/\b = ((x0 == y0) && ((x1 == y1) && ((x2 == y2) && (x3 == y3)))):=by
 obtain ⟨us⟩:=us
 obtain ⟨vs⟩:=vs
 simp only at h he
 have hl:us.length = 4:=by simpa using congrArg List.length h
 match us,hl,h,he with
 | [u0,u1,u2,u3],_,h,he =>
  obtain ⟨k0,x0,y0,vs1,c1,rfl,rfl,h1,he1,rfl⟩:=eqVs_int h he
  obtain ⟨k1,x1,y1,vs2,c2,rfl,rfl,h2,he2,rfl⟩:=eqVs_int h1 he1
  obtain ⟨x2,y2,vs3,c3,rfl,rfl,h3,he3,rfl⟩:=eqVs_bool h2 he2
  obtain ⟨k3,x3,y3,vs4,c4,rfl,rfl,h4,he4,rfl⟩:=eqVs_int h3 he3
  obtain ⟨rfl,rfl⟩:=eqVs_nil he4
  exact ⟨k0,k1,k3,x0,x1,x2,x3,y0,y1,y2,y3,rfl,rfl,by simp⟩
theorem stEqPiece:StEq Tryz.prog 54 [false,false,true,false]:=by
 intro us vs w b x y h he
 obtain ⟨k0,k1,k3,x0,x1,x2,x3,y0,y1,y2,y3,rfl,rfl,rfl⟩:=piece_cells h he
 have u3:=Tryz.underlying3
 have a3:=Tryz.isAgg3
 have z3:=Tryz.sizeOf3
 have u4:=Tryz.underlying4
 have a4:=Tryz.isAgg4
 have z4:=Tryz.sizeOf4
 have hS:Tryz.prog.underlying 54 = some (.struct (Tryz.prog.fieldsOf 54)):=by kernel_rfl
 have hp:Tryz.prog.stoodInHeld 54 = false:=by kernel_rfl
 have hg:Tryz.prog.eqGuardType Tryz.prog.depth 54 = false:=by kernel_rfl
 have heq:(Op.equalIn 10000 54 (.agg #[.int k0 x0,.int k1 x1,.bool x2,.int k3 x3]) (.agg #[.int k0 y0,.int k1 y1,.bool y2,.int k3 y3])).run Tryz.prog w = .ok ((x0 == y0) && ((x1 == y1) && ((x2 == y2) && (x3 == y3)))) w:=by
  rw [show (10000:Nat) = 9999 + 1 from rfl,run_equalIn_agg w 9999 54 _ _ hS hp]
  simp only [Program.fieldsOf,Tryz.underlying54]
  go_simp
  by_cases h1:x0 = y0<;>by_cases h2:x1 = y1<;>by_cases h3:x2 = y2<;>by_cases h4:x3 = y3<;>simp [h1,h2,h3,h4]
 refine ⟨?_,?_⟩
 ·simp only [Sem.run_bind,run_eqGuard_agg w _ _ _ _ _ _ hg,Result.andThen_ok,run_eql_struct,heq]
 ·simp only [Sem.run_bind,run_eqGuard_agg w _ _ _ _ _ _ hg,Result.andThen_ok,run_neq_struct,heq]
theorem stEqGround:StEq Tryz.prog 56 [false,false,false,false]:=by
 intro us vs w b x y h he
 obtain ⟨k0,k1,k2,k3,x0,x1,x2,x3,y0,y1,y2,y3,rfl,rfl,rfl⟩:=four_ints h he
 have u3:=Tryz.underlying3
 have a3:=Tryz.isAgg3
 have z3:=Tryz.sizeOf3
 have a23:=Tryz.isAgg38
 have z23:=Tryz.sizeOf38
 have hS3:Tryz.prog.underlying 38 = some (.struct (Tryz.prog.fieldsOf 38)):=by kernel_rfl
 have hp3:Tryz.prog.stoodInHeld 38 = false:=by kernel_rfl
 have hS:Tryz.prog.underlying 56 = some (.struct (Tryz.prog.fieldsOf 56)):=by kernel_rfl
 have hp:Tryz.prog.stoodInHeld 56 = false:=by kernel_rfl
 have hg:Tryz.prog.eqGuardType Tryz.prog.depth 56 = false:=by kernel_rfl
 have hgen:∀ d,(Op.equalIn (d + 1 + 1 + 1) 56 (.agg #[.int k0 x0,.int k1 x1,.int k2 x2,.int k3 x3]) (.agg #[.int k0 y0,.int k1 y1,.int k2 y2,.int k3 y3])).run Tryz.prog w = .ok ((x0 == y0) && ((x1 == y1) && ((x2 == y2) && (x3 == y3)))) w:=by
  intro d
  rw [run_equalIn_agg w (d + 1 + 1) 56 _ _ hS hp]
  simp only [Program.fieldsOf,Tryz.underlying56]
  have h3:∀ a c a' c' k l,(Op.equalIn (d + 1 + 1) 38 (.agg #[.int k a,.int l c]) (.agg #[.int k a',.int l c'])).run Tryz.prog w = .ok ((a == a') && (c == c')) w:=by
   intro a c a' c' k l
   rw [run_equalIn_agg w (d + 1) 38 _ _ hS3 hp3]
   simp only [Program.fieldsOf,Tryz.underlying38]
   go_simp
   by_cases h1:a = a'<;>by_cases h2:c = c'<;>simp [h1,h2]
  clear hS3 hp3
  go_simp
  by_cases h1:x0 = y0<;>by_cases h2:x1 = y1<;>by_cases h3:x2 = y2<;>by_cases h4:x3 = y3<;>simp [h1,h2,h3,h4]
 have heq:(Op.equalIn 10000 56 (.agg #[.int k0 x0,.int k1 x1,.int k2 x2,.int k3 x3]) (.agg #[.int k0 y0,.int k1 y1,.int k2 y2,.int k3 y3])).run Tryz.prog w = .ok ((x0 == y0) && ((x1 == y1) && ((x2 == y2) && (x3 == y3)))) w:=hgen 9997
 refine ⟨?_,?_⟩
 ·simp only [Sem.run_bind,run_eqGuard_agg w _ _ _ _ _ _ hg,Result.andThen_ok,run_eql_struct,heq]
 ·simp only [Sem.run_bind,run_eqGuard_agg w _ _ _ _ _ _ hg,Result.andThen_ok,run_neq_struct,heq]
end Go.Proofs.Leaf
namespace Go.Proofs.Leaf
open Go Go.RX Go.Proofs
set_option maxRecDepth 10000
variable [Glob]
theorem c_rSameJobs (J:Job) (h:J.held):Ctr Tryz.prog 48 [J.sv,J.sv] (bS true):=by
 have h1:=h.1;have h2:=h.2
 (refine Ctr.mk (fn:=Tryz.f48) rfl rfl rfl rfl rfl Tryz.results48 ?_;intro _;dsimp only [args,List.toList_toArray])
 (first|refine qE ?_|refine qD ?_);(simp only [go_sem,↓dP,↓reduceIte];with_reducible and_intros;all_goals first|apply qA|exact qC|skip)
 refine Ok.seq ?_
 (first|refine qE ?_|refine qD ?_);(simp only [go_sem,↓dP,↓reduceIte];with_reducible and_intros;all_goals first|apply qA|exact qC|skip)
 refine Ok.cond rfl ?_ ?_
 ·intro hb
  simp at hb
 intro _
 (refine Ok.skip ?_;(try dsimp only [thenK,blockK,noGotoK]))
 refine Ok.seq ?_
 (first|refine qE ?_|refine qD ?_);(simp only [go_sem,↓dP,↓reduceIte];with_reducible and_intros;all_goals first|apply qA|exact qC|skip)
 refine Ok.block ?_
 refine Ok.count J.gs.length (fun i => ⟨[(2,.p 0 0),(3,.p 1 0),(5,iS i)],[jobC J,jobC J],[]⟩) (fun _ => True) ⟨trivial,?_⟩ ?_ ?_
 ·(refine Sub.of ([0,1]) ([]) ?_ ?_ ?_ rfl rfl<;>simp only [subB,subB1,subT,subT1,newT,subE,subV,subL,go_sem,↓dP,↓reduceIte]<;>(try (repeat' with_reducible apply And.intro))<;>(try first | exact DEq.refl _ | refine DEq.int ?_ | refine DEq.bool ?_ | omega))
 ·intro i hi _
  refine Ok.seq ?_;((first|refine qE ?_|refine qD ?_);(simp only [go_sem,↓dP,↓reduceIte];with_reducible and_intros;all_goals first|apply qA|exact qC|skip));refine Ok.cond rfl (fun _ => ?_) (fun hb => by simp at hb;omega);(refine Ok.skip ?_;(try dsimp only [thenK,blockK,noGotoK]));refine Ok.seq ?_;refine Ok.block ?_
  (first|refine qE ?_|refine qD ?_);(simp only [go_sem,↓dP,↓reduceIte];with_reducible and_intros;all_goals first|apply qA|exact qC|skip)
  ·exact stEqGround
  refine Ok.cond (b:=false) (by first | rfl | (simp only [go_sem,↓dP,↓reduceIte];rfl)) (fun hb => by cases hb) (fun _ => ?_)
  (refine Ok.skip ?_;(try dsimp only [thenK,blockK,noGotoK]))
  (try dsimp only [thenK,blockK,noGotoK])
  (first|refine qE ?_|refine qD ?_);(simp only [go_sem,↓dP,↓reduceIte];with_reducible and_intros;all_goals first|apply qA|exact qC|skip)
  (try dsimp only [thenK,blockK,noGotoK])
  refine ⟨trivial,?_⟩
  (refine Sub.of ([0,1]) ([]) ?_ ?_ ?_ rfl rfl<;>simp only [subB,subB1,subT,subT1,newT,subE,subV,subL,go_sem,↓dP,↓reduceIte]<;>(try (repeat' with_reducible apply And.intro))<;>(try first | exact DEq.refl _ | refine DEq.int ?_ | refine DEq.bool ?_ | omega))
 ·intro _
  refine Ok.seq ?_;((first|refine qE ?_|refine qD ?_);(simp only [go_sem,↓dP,↓reduceIte];with_reducible and_intros;all_goals first|apply qA|exact qC|skip));refine Ok.cond rfl (fun hb => by simp at hb) (fun _ => ?_);(refine Ok.exit ?_;simp only [thenK_exit,blockK_exit,noGotoK_exit,thenK_normal,blockK_normal,noGotoK_normal,↓reduceIte,Nat.reduceEqDiff])
  refine Ok.seq ?_
  (first|refine qE ?_|refine qD ?_);(simp only [go_sem,↓dP,↓reduceIte];with_reducible and_intros;all_goals first|apply qA|exact qC|skip)
  refine Ok.block ?_
  refine Ok.count J.ps.length (fun i => ⟨[(2,.p 0 0),(3,.p 1 0),(6,iS i)],[jobC J,jobC J],[]⟩) (fun _ => True) ⟨trivial,?_⟩ ?_ ?_
  ·(refine Sub.of ([0,1]) ([]) ?_ ?_ ?_ rfl rfl<;>simp only [subB,subB1,subT,subT1,newT,subE,subV,subL,go_sem,↓dP,↓reduceIte]<;>(try (repeat' with_reducible apply And.intro))<;>(try first | exact DEq.refl _ | refine DEq.int ?_ | refine DEq.bool ?_ | omega))
  ·intro i hi _
   refine Ok.seq ?_;((first|refine qE ?_|refine qD ?_);(simp only [go_sem,↓dP,↓reduceIte];with_reducible and_intros;all_goals first|apply qA|exact qC|skip));refine Ok.cond rfl (fun _ => ?_) (fun hb => by simp at hb;omega);(refine Ok.skip ?_;(try dsimp only [thenK,blockK,noGotoK]));refine Ok.seq ?_;refine Ok.block ?_
   (first|refine qE ?_|refine qD ?_);(simp only [go_sem,↓dP,↓reduceIte];with_reducible and_intros;all_goals first|apply qA|exact qC|skip)
   ·exact stEqPiece
   refine Ok.cond (b:=false) (by first | rfl | (simp only [go_sem,↓dP,↓reduceIte];rfl)) (fun hb => by cases hb) (fun _ => ?_)
   (refine Ok.skip ?_;(try dsimp only [thenK,blockK,noGotoK]))
   (try dsimp only [thenK,blockK,noGotoK])
   (first|refine qE ?_|refine qD ?_);(simp only [go_sem,↓dP,↓reduceIte];with_reducible and_intros;all_goals first|apply qA|exact qC|skip)
   (try dsimp only [thenK,blockK,noGotoK])
   refine ⟨trivial,?_⟩
   (refine Sub.of ([0,1]) ([]) ?_ ?_ ?_ rfl rfl<;>simp only [subB,subB1,subT,subT1,newT,subE,subV,subL,go_sem,↓dP,↓reduceIte]<;>(try (repeat' with_reducible apply And.intro))<;>(try first | exact DEq.refl _ | refine DEq.int ?_ | refine DEq.bool ?_ | omega))
  ·intro _
   refine Ok.seq ?_;((first|refine qE ?_|refine qD ?_);(simp only [go_sem,↓dP,↓reduceIte];with_reducible and_intros;all_goals first|apply qA|exact qC|skip));refine Ok.cond rfl (fun hb => by simp at hb) (fun _ => ?_);(refine Ok.exit ?_;simp only [thenK_exit,blockK_exit,noGotoK_exit,thenK_normal,blockK_normal,noGotoK_normal,↓reduceIte,Nat.reduceEqDiff])
   (first|refine qE ?_|refine qD ?_);(simp only [go_sem,↓dP,↓reduceIte];with_reducible and_intros;all_goals first|apply qA|exact qC|skip)
   (refine Ok.ret ?_;(try dsimp only [thenK,blockK,noGotoK]);simp only [toList_mk,List.toList_toArray,retK_ret,retK_normal,resOK,resV,celV,rowV,frzAll,frzT,subV,subL,go_sem,↓dP,↓reduceIte])
   exact .refl _
end Go.Proofs.Leaf
namespace Go.Proofs.Leaf
open Go Go.RX Go.Proofs Go.RowKit
attribute [local go_sem] Oper.semAt_some
set_option maxRecDepth 100000
set_option maxHeartbeats 4000000 in
theorem catch_text (B:Nat) (t:ByteArray) (x:Int) (w:World) (h1:w.heap[B]? = some (.cells #[.int .i64 x] 31)) :
  CallsD Tryz.prog 115 #[.pointer (some ⟨B,0,none⟩)] (.panicking [{ v:=.iface 149 (.agg #[.string t]),recovered:=false }]) w fun e u' w' => e = .returned (.tuple #[])/\settle u' = .returning /\
   w'.heap[B]? = some (.cells #[.int .i64 4] 31)/\But B w w':=by
 refine callsD_of_wpS Tryz.func115 rfl fun c₀ cs hu => ?_
 have hnil:∀ (v:Value) (w:World),(binOp BinOp.eql 20 (.iface 149 v) .nilIface).run Tryz.prog w = .ok (.bool false) w:=fun _ _ => by kernel_rfl
 have htb:∀ (v:Value) (w:World),(Instr.typeAssert (.iface 149 v) 20 147 true).run Tryz.prog w = .ok (.tuple #[.agg #[.int .i64 0],.bool false]) w:=fun _ _ => by kernel_rfl
 have hta:∀ (v:Value) (w:World),(Instr.typeAssert (.iface 149 v) 20 149 true).run Tryz.prog w = .ok (.tuple #[v,.bool true]) w:=fun _ _ => by kernel_rfl
 have hlt:=(Array.getElem?_eq_some_iff.1 h1).1
 have hA1:=al_old (.cells #[.string t] 149) h1
 have g10:=cell_at hA1 0
 simp only [List.getElem?_toArray,List.getElem?_cons_zero,List.getElem?_cons_succ] at g10
 have f10:(w.alloc (.cells #[.string t] 149)).frozen? ⟨B,0,none⟩ = false:=by simp [World.frozen?,hA1]
 simp only [Tryz.ntmps115,List.size_toArray,List.length_cons,List.length_nil,Nat.reduceAdd,Nat.reduceSub,Array.replicate_succ,Array.replicate_zero,List.push_toArray,List.append_toArray,List.nil_append,List.cons_append]
 apply wpS_seq
 apply wpS_region
 simp [wpOpsS,go_sem,recoverD,hu,Exit.thenS]
 refine wpS_of_wp ?_
 go_wp2
 refine ⟨rfl,.panicking [{ v:=.iface 149 (.agg #[.string t]),recovered:=true }],rfl,.tuple #[],results_none rfl _ _ _,rfl,rfl,?_⟩
 have s1:=st_same h1 0 (.int .i64 4)
 refine ⟨al_old _ s1,rfl,rfl,rfl,?_,fun k hk hne => ?_⟩
 ·simp [World.setCell,Array.size_modify]
 ·rw [Below.heap_alloc _ _ k (by simp [World.setCell,Array.size_modify];exact hk),Below.heap_setCell _ _ _ k hne]
set_option maxHeartbeats 4000000 in
theorem att_text (f:Nat) (caps:Array Value) (w:World) (hent:∃ fn,Tryz.prog.funcs[f]? = some fn/\(fn.name == "runtime.NumGoroutine") = false/\fn.body.isNone = false) (R:World->Prop)
  (hf:Calls Tryz.prog f caps (attW w) fun e w1 => ∃ t,e = .panicked [{ v:=.iface 149 (.agg #[.string t]),recovered:=false }]/\w1.heap[w.heap.size]? = some (.cells #[.int .i64 0] 31)/\R w1) :
  Calls Tryz.prog 80 #[.func (.func f) #[] caps] w fun e w' => e = .returned (.int .i64 4)/\∃ w1,R w1/\But w.heap.size w1 w':=by
 have hmf:∀ (fn:Fn) (first cap:Array Value) (w:World),(Instr.makeFunc fn first cap).run Tryz.prog w = .ok (.func fn first cap) w:=fun _ _ _ _ => rfl
 have he:=enters_of' hent
 refine calls_of_wp_defers Tryz.func80 rfl ?_
 simp only [Tryz.ntmps80,List.size_toArray,List.length_cons,List.length_nil,Nat.reduceAdd,Nat.reduceSub,Array.replicate_succ,Array.replicate_zero,List.push_toArray,List.append_toArray,List.nil_append,List.cons_append]
 go_wp2
 refine hf.mono ?_
 rintro e w1 ⟨t,rfl,k1,hR⟩
 refine leaves_cons (f:=115) (args:=#[.pointer (some ⟨w.heap.size,0,none⟩)]) (by simp) (by simp [go_sem]) ?_
 refine (catch_text w.heap.size t 0 _ k1).mono ?_
 rintro e u' w'' ⟨rfl,hset,k2,hB⟩
 have q:=cell_at k2 0
 simp only [List.getElem?_toArray,List.getElem?_cons_zero,List.getElem?_cons_succ] at q
 simp only [hset]
 simp [Leaves,results,Tryz.results80,go_sem,q]
 exact ⟨_,hR,hB⟩
end Go.Proofs.Leaf
namespace Go.Proofs.Leaf
open Go Go.RX Go.Proofs
set_option maxRecDepth 10000
instance inst_g0_5:Glob:=g0
theorem spl_app (c:UInt8):∀ (l r:List UInt8),c ∉ l->spl c (l ++ c :: r) = l :: spl c r
 | [],r,_ => by simp [spl]
 | b :: l,r,h => by
  simp only [List.mem_cons,not_or] at h
  simp only [List.cons_append,spl,if_neg (Ne.symm h.1),spl_app c l r h.2]
theorem ofNat_dig {n:Nat} (h:n < 10):(UInt8.ofNat (48 + n)).toNat = 48 + n:=by
 rw [UInt8.toNat_ofNat'];omega
theorem dec_props (n:Nat):(∀ b∈Lib.decDigits n,digit b = true)/\numL (Lib.decDigits n) = n/\Lib.decDigits n ≠ []:=by
 induction n using Nat.strongRecOn with
 | _ n ih =>
 by_cases h:n < 10
 ·rw [Lib.decDigits_one h]
  have e:=ofNat_dig h
  refine ⟨fun b hb => ?_,?_,by simp⟩
  ·simp only [List.mem_singleton] at hb
   subst hb
   simp only [digit,e,Bool.and_eq_true,decide_eq_true_eq];omega
  ·simp only [numL,List.foldl_cons,List.foldl_nil,e];omega
 ·obtain ⟨h1,h2,h3⟩:=ih (n / 10) (by omega)
  have e:=ofNat_dig (n:=n % 10) (by omega)
  rw [Lib.decDigits,dif_neg h]
  refine ⟨fun b hb => ?_,?_,by simp⟩
  ·simp only [List.mem_append,List.mem_singleton] at hb
   rcases hb with hb | rfl
   ·exact h1 b hb
   ·simp only [digit,e,Bool.and_eq_true,decide_eq_true_eq];omega
  ·rw [numL_snoc,h2,e];omega
theorem dec_len2 {n:Nat} (h:n < 100):(Lib.decDigits n).length<=2:=by
 by_cases h1:n < 10
 ·rw [Lib.decDigits_one h1];simp
 ·rw [Lib.decDigits_two h1 h];simp
theorem flatn_le {α β:Type} (f:α->List β) (B:Nat):∀ (l:List α),(∀ x∈l,(f x).length<=B)->(l.flatMap f).length<=B * l.length
 | [],_ => by simp
 | x :: l,h => by
  have ih:=flatn_le f B l (fun y hy => h y (List.mem_cons_of_mem _ hy))
  have:=h x (List.mem_cons_self ..)
  simp only [List.flatMap_cons,List.length_append,List.length_cons]
  rw [Nat.mul_add]
  omega
theorem flatL_le (B:Nat) (l:List (List UInt8)) (h:∀ r∈l,r.length + 1<=B):(flatL l).length<=B * l.length :=
 flatn_le _ B l (fun r hr => by have:=h r hr;simp;omega)
theorem itoa_len2 {n:Int} (h0:0<=n) (h1:n < 100):(Lib.itoa n).length<=2:=by
 obtain ⟨u,rfl⟩:∃ u:Nat,n = u:=⟨n.toNat,by omega⟩
 rw [Lib.itoa_nonneg]
 exact dec_len2 (by omega)
theorem rowL_len2 (w:List UInt8) (ns:List Int) (h:∀ n∈ns,0<=n/\n < 100):(rowL w ns).length<=w.length + 3 * ns.length:=by
 have:=flatn_le (fun n => 32 :: Lib.itoa n) 3 ns (fun n hn => by
  have:=itoa_len2 (h n hn).1 (h n hn).2
  simp only [List.length_cons];omega)
 simp only [rowL,List.length_append];omega
theorem endL_len7 {c:Nat} (h:c < 191):(endL c).length<=7:=by
 have l1:(Lib.decDigits (c / 100)).length = 1:=by rw [Lib.decDigits_one (by omega)];rfl
 have l2:(Lib.decDigits (c / 10 % 10)).length = 1:=by rw [Lib.decDigits_one (by omega)];rfl
 have l3:(Lib.decDigits (c % 10)).length = 1:=by rw [Lib.decDigits_one (by omega)];rfl
 simp only [endL,List.length_append,List.length_cons,List.length_nil];omega
theorem flatL_app (a b:List (List UInt8)):flatL (a ++ b) = flatL a ++ flatL b:=by simp [flatL]
end Go.Proofs.Leaf
namespace Go.Proofs.Leaf
open Go Go.RX Go.Proofs
set_option maxRecDepth 10000
section
variable {st : PS} {r : List UInt8} {V : List (List UInt8)}
end
theorem num_itoa {n:Int} (h:pl n):isNum (Lib.itoa n)/\((numL (Lib.itoa n):Nat):Int) = n:=by
 obtain ⟨h0,h1⟩:=h
 obtain ⟨u,rfl⟩:∃ u:Nat,n = u:=⟨n.toNat,by omega⟩
 rw [Lib.itoa_nonneg]
 obtain ⟨p1,p2,p3⟩:=dec_props u
 refine ⟨⟨p3,p1,dec_len2 (by omega),?_⟩,by rw [p2]⟩
 rw [p2,Lib.itoa_nonneg]
theorem dig_ne {b:UInt8} (h:digit b = true):b ≠ 32/\b ≠ 10:=by
 simp only [digit,Bool.and_eq_true,decide_eq_true_eq] at h
 constructor
 ·rintro rfl;revert h;decide
 ·rintro rfl;revert h;decide
theorem itoa_no {n:Int} (h:pl n):32 ∉ Lib.itoa n/\10 ∉ Lib.itoa n:=by
 have:=(num_itoa h).1.2.1
 exact ⟨fun q => (dig_ne (this _ q)).1 rfl,fun q => (dig_ne (this _ q)).2 rfl⟩
theorem row_no10:∀ (ns:List Int) (w:List UInt8),(∀ n∈ns,pl n)->10 ∉ w->10 ∉ rowL w ns
 | [],w,_,hw => by rw [rowL_nil];exact hw
 | n :: r,w,h,hw => by
  have e:rowL w (n :: r) = w ++ 32 :: rowL (Lib.itoa n) r:=by simp [rowL]
  rw [e]
  have:=row_no10 r (Lib.itoa n) (fun x hx => h x (List.mem_cons_of_mem _ hx)) (itoa_no (h n (List.mem_cons_self ..))).2
  simp only [List.mem_append,List.mem_cons,not_or]
  exact ⟨hw,by decide,this⟩
theorem kind_no (b:Bool):32 ∉ kindW b/\10 ∉ kindW b:=by cases b<;>decide
theorem Job.plain.no10 {J:Job} (h:J.plain):∀ r∈rowsOf J,10 ∉ r:=by
 intro r hr
 simp only [rowsOf,List.mem_cons,List.mem_append,List.mem_map] at hr
 rcases hr with rfl | ⟨g,hg,rfl⟩ | ⟨p,hp,rfl⟩
 ·exact row_no10 _ _ h.n (by decide)
 ·exact row_no10 _ _ (h.g g hg) (by decide)
 ·exact row_no10 _ _ (h.p p hp) (kind_no _).2
theorem endL_no10 (c:Nat):10 ∉ endL c:=by
 have h:=fun n => (dec_props n).1
 have hn:∀ n,10 ∉ Lib.decDigits n:=fun n q => (dig_ne (h n _ q)).2 rfl
 simp only [endL,List.mem_append,not_or]
 exact ⟨⟨⟨by decide,hn _⟩,hn _⟩,hn _⟩
theorem spl_flat:∀ (l:List (List UInt8)) (x:List UInt8),(∀ r∈l,10 ∉ r)->spl 10 (flatL l ++ x) = l ++ spl 10 x
 | [],x,_ => rfl
 | r :: l,x,h => by
  have e:flatL (r :: l) ++ x = r ++ 10 :: (flatL l ++ x):=by simp [flatL]
  rw [e,spl_app 10 _ _ (h r (List.mem_cons_self ..)),spl_flat l x (fun y hy => h y (List.mem_cons_of_mem _ hy))]
  rfl
theorem spl_sealed {l:List (List UInt8)} (h:∀ r∈l,10 ∉ r):splitL (sealedL l) [10] = l ++ [endL (rowsSum 0 l % 191),[]]:=by
 rw [splitL_spl,sealedL,List.append_assoc,spl_flat _ _ h,spl_app 10 _ _ (endL_no10 _)]
 rfl
section
variable {t : List UInt8} {rows W : List (List UInt8)}
end
theorem parse_some {t:List UInt8} {J:Job} (h:parseP t = some J):J.plain/\sealedL (rowsOf J) = t/\J.gs.length + J.ps.length<=t.length:=by
 have hl:=splitL_len t [10] (by decide)
 unfold parseP at h
 dsimp only at h
 split at h
 ·rename_i h36
  split at h
  ·cases h
  ·rename_i st hst
   split at h
   ·rename_i he
    simp only [Option.some.injEq] at h
    subst h
    obtain ⟨p1,p2⟩:=preL_plain _ _ st (Nat.le_refl _) hst
    refine ⟨mkS_plain h36.2.2 p1,he,?_⟩
    show nrows st<=_
    rw [p2]
    unfold midL
    rw [List.length_take,List.length_drop];omega
   ·cases h
 ·cases h
end Go.Proofs.Leaf
namespace Go.Proofs.Leaf
open Go Go.RX Go.Proofs
set_option maxRecDepth 10000
variable [Glob]
theorem byt_nat (m:Nat):byt (.int .u8 m) = UInt8.ofNat m:=rfl
end Go.Proofs.Leaf
namespace Go.Proofs.Leaf
open Go Go.RX Go.Proofs Go.RowKit
attribute [local go_sem] Oper.semAt_some
set_option maxRecDepth 100000
section
instance inst_gT_6:Glob:=gT
set_option maxHeartbeats 1000000 in
theorem cls_no (t:List UInt8) (hp:CtrN 88 [.d (.str t)]) (B Q:Nat) (W:World) (hG:Glob.G W) (hB:W.heap[B]? = some (.cells #[.string ⟨t.toArray⟩] 9)) :
  Calls Tryz.prog 87 #[.pointer (some ⟨B,0,none⟩),.pointer (some ⟨Q,0,none⟩)] W fun e w1 => ∃ s,e = .panicked [{ v:=.iface 149 (.agg #[.string s]),recovered:=false }]/\Keep W.heap.size W w1:=by
 have hcall:=hp.2 (fun _ => False) W #[.string ⟨t.toArray⟩] hG (fun k hk => hk.elim) (fun k hk => hk.elim) rfl (fun j u y hu hy => by
  cases j with
  | zero => simp at hu hy;subst hu;subst hy;exact repS_str _ _ _
  | succ j => simp at hy)
 have g:=cell_at hB 0
 simp only [List.getElem?_toArray,List.getElem?_cons_zero,List.getElem?_cons_succ] at g
 go_enter Tryz.func87,Tryz.ntmps87
 go_wp2_with (go_at_call 88;refine hcall.mono ?_;rintro e w1 ⟨s,rfl,hW1⟩)
 exact ⟨rfl,s,rfl,hW1⟩
end
end Go.Proofs.Leaf
namespace Go.Proofs.Leaf
open Go Go.RX Go.Proofs Go.RowKit
attribute [local go_sem] Oper.semAt_some
set_option maxRecDepth 100000
section
theorem att_none (t:List UInt8) (hp:CtrN 88 [.d (.str t)]) (w:World) (hG:Glob.G w) :
  Calls Tryz.prog 80 #[.func (.func 87) #[] #[.pointer (some ⟨w.heap.size,0,none⟩),.pointer (some ⟨w.heap.size + 1 + 1,0,none⟩)]] (readW w t) fun e w' => e = .returned (.int .i64 4)/\Below (w.heap.size + 1 + 1 + 1) (readW w t) w':=by
 obtain ⟨k0,k1,k2,hB,hG2,hz2⟩:=read_pre t w hG
 have hz:=readW_size w t
 have h:=cls_no t hp w.heap.size (w.heap.size + 1 + 1) (attW (readW w t)) hG2 (al_old _ k0)
 rw [hz2] at h
 refine (att_text 87 _ (readW w t) ⟨Tryz.f87,rfl,rfl,rfl⟩ (fun w1 => Keep (w.heap.size + 1 + 1 + 1 + 1) (attW (readW w t)) w1) (h.mono ?_)).mono ?_
 ·rintro e w1 ⟨s,rfl,hk⟩
  exact ⟨s,rfl,(hk.block _ (by omega) (fun e => by cases e)).trans (al_new _ rfl),hk⟩
 ·rintro e w' ⟨rfl,w1,hk,hb'⟩
  have hbs:=hk.size
  refine ⟨rfl,⟨hb'.os.trans hk.os,hb'.tape.trans hk.tape,hb'.output.trans hk.output,by have:=hb'.size;omega,fun k hk' => ?_⟩⟩
  rw [hb'.block k (by omega) (by omega),hk.block k (by omega) (fun e => by cases e)]
  exact hold_al _ _ k (by omega)
abbrev noJ:SV:=.agg [iS 0,iS 0,iS 0,iS 0,.d .nils,.d .nils]
theorem noJ_rep (I:Nat->Prop) (w:World):RepS I w (.agg zero6) noJ:=by
 intro Y
 refine .agg rfl (fun j u x hu hx => ?_) (fun u hu => ?_)
 ·rcases j with _ | _ | _ | _ | _ | _ | j<;>simp at hu hx<;>(subst hu;subst hx)
  ·exact .d .int
  ·exact .d .int
  ·exact .d .int
  ·exact .d .int
  ·exact .d .nils
  ·exact .d .nils
 ·simp at hu;rcases hu with rfl | rfl | rfl | rfl | rfl | rfl<;>rfl
set_option maxHeartbeats 1000000 in
theorem c_Read_text (t:List UInt8) (hp:CtrN 88 [.d (.str t)]) (ht:t.length<=180):Ctr Tryz.prog 46 [.d (.str t)] (.tup [noJ,iS 4]):=by
 refine ⟨⟨Tryz.f46,Tryz.func46,rfl,rfl⟩,fun I w vs hG hI hM hsz hrep => ?_⟩
 obtain ⟨v0,rfl⟩:∃ v0,vs = #[v0]:=Array.size_eq_one_iff.1 hsz
 obtain rfl:=str_val (hrep 0 v0 _ rfl rfl)
 have hl:¬ (180:Int) < (t.length:Int):=by omega
 obtain ⟨k0,k1,k2,_,_,_⟩:=read_pre t w hG
 have hz:=readW_size w t
 have hBW:=readW_below w t
 have hmf:∀ (fn:Fn) (first cap:Array Value) (w:World),(Instr.makeFunc fn first cap).run Tryz.prog w = .ok (.func fn first cap) w:=fun _ _ _ _ => rfl
 have hatt:=att_none t hp w hG
 go_enter Tryz.func46,Tryz.ntmps46
 go_wp2_with (go_at_call 80;refine hatt.mono ?_;rintro e w1 ⟨rfl,hX⟩;have hz1:=hX.size;have hR2:=(hX.block _ (by omega)).trans k1;have r:=cell_at hR2;have r0:=r 0;have r1:=r 1;have r2:=r 2;have r3:=r 3;have r4:=r 4;have r5:=r 5;clear r;simp only [zero6,List.getElem?_toArray,List.getElem?_cons_zero,List.getElem?_cons_succ] at r0 r1 r2 r3 r4 r5;have fz:∀ o,w1.frozen? ⟨w.heap.size + 1,o,none⟩ = false:=fun o => by simp [World.frozen?,hR2])
 obtain ⟨W',hW'⟩:∃ W',put6 w1 (w.heap.size + 1) (.int .i64 0) (.int .i64 0) (.int .i64 0) (.int .i64 0) (.slice none 0 0) (.slice none 0 0) = W':=⟨_,rfl⟩
 have hput:=put6_at hR2 (.int .i64 0) (.int .i64 0) (.int .i64 0) (.int .i64 0) (.slice none 0 0) (.slice none 0 0)
 rw [hW'] at hput
 unfold put6 at hW'
 rw [hW']
 obtain ⟨s7,hb,hz'⟩:=hput
 have y:=cell_at s7
 have y0:=y 0
 have y1:=y 1
 have y2:=y 2
 have y3:=y 3
 have y4:=y 4
 have y5:=y 5
 clear y
 simp only [List.getElem?_toArray,List.getElem?_cons_zero,List.getElem?_cons_succ] at y0 y1 y2 y3 y4 y5
 have hB12:Keep w.heap.size w w1:=keepT (hBW.trans (hX.mono (by omega))) (Glob.lo _ hG)
 have hBf:Below w.heap.size w W':=bel_of hB12 hb (Nat.le_refl _) (by omega)
 refine bodyPost_ret (by simp [results,Tryz.results46,go_sem,y0,y1,y2,y3,y4,y5];rfl) rfl ?_
 exact ⟨_,rfl,two_rep (noJ_rep _ _),keepT hBf (Glob.lo _ hG)⟩
end
end Go.Proofs.Leaf
namespace Go.Proofs.YtdajcfdhcjbmmaaGreatDoor
open Go Go.RX Go.Proofs.Leaf Go.RowKit Go.ChangeShapes Go.WideShapes Go.ChangeAt
set_option maxRecDepth 100000
section
variable {H : Type} {enc : TypeId × Value → H} {W : World}
end
theorem opensAll_cons {t:TypeId} {ts:List TypeId} {As:List SV} (h:opensAll (t :: ts) As):∃ A Bs,As = A :: Bs/\opens t A/\opensAll ts Bs:=by
 cases As with
 | nil => exact h.elim
 | cons A Bs => exact ⟨A,Bs,rfl,h.1,h.2⟩
theorem opensAll_nil {As:List SV} (h:opensAll [] As):As = []:=by
 cases As with
 | nil => rfl
 | cons A Bs => exact h.elim
end Go.Proofs.YtdajcfdhcjbmmaaGreatDoor
namespace Go.Proofs.Leaf
open Go Go.RX Go.Proofs
set_option maxRecDepth 10000
theorem ok_plain {J:Job} (h:J.ok):J.plain:=by
 have h1:=h.w0;have h2:=h.w1;have h3:=h.h0;have h4:=h.h1;have h5:=h.b0;have h6:=h.b1;have h7:=h.s0;have h8:=h.s1
 have hg1:=h.g1
 refine ⟨fun n hn => ?_,fun g hg n hn => ?_,fun p hp n hn => ?_⟩
 ·simp only [Job.nums,List.mem_cons,List.not_mem_nil,or_false] at hn
  rcases hn with rfl | rfl | rfl | rfl<;>exact ⟨by omega,by omega⟩
 ·have:=h.gs g hg
  simp only [Ground.nums,List.mem_cons,List.not_mem_nil,or_false] at hn
  rcases hn with rfl | rfl | rfl | rfl<;>exact ⟨by omega,by omega⟩
 ·have:=h.ps p hp
  simp only [Piece.nums,List.mem_cons,List.not_mem_nil,or_false] at hn
  rcases hn with rfl | rfl | rfl<;>exact ⟨by omega,by omega⟩
theorem ok_small [Glob] {J:Job} (h:J.ok):J.small:=(ok_plain h).small (by have:=h.g1;have:=h.p1;omega)
theorem ok_text {J:Job} (h:J.ok):(sealedL (rowsOf J)).length<=180:=by
 have hp:=ok_plain h
 have hg1:=h.g1
 have hp1:=h.p1
 have r0:=rowL_len2 leafW J.nums (fun n hn => hp.n n hn)
 have r1:=flatL_le 19 (J.gs.map groundRow) (fun r hr => by
  obtain ⟨g,hg,rfl⟩:=List.mem_map.1 hr
  have:=rowL_len2 groundW g.nums (fun n hn => hp.g g hg n hn)
  simp only [groundRow,Ground.nums,List.length_cons,List.length_nil] at this ⊢
  have e:groundW.length = 6:=by decide
  omega)
 have r2:=flatL_le 16 (J.ps.map pieceRow) (fun r hr => by
  obtain ⟨p,hp',rfl⟩:=List.mem_map.1 hr
  have:=rowL_len2 (kindW p.turn) p.nums (fun n hn => hp.p p hp' n hn)
  simp only [pieceRow,Piece.nums,List.length_cons,List.length_nil] at this ⊢
  have e:(kindW p.turn).length<=6:=by cases p.turn<;>decide
  omega)
 have r3:=endL_len7 (c:=rowsSum 0 (rowsOf J) % 191) (Nat.mod_lt _ (by decide))
 have e:leafW.length = 4:=by decide
 have e0:flatL (rowsOf J) = rowL leafW J.nums ++ [10] ++ (flatL (J.gs.map groundRow) ++ flatL (J.ps.map pieceRow)):=by
  rw [← flatL_app];simp [rowsOf,flatL]
 have e1:J.nums.length = 4:=rfl
 simp only [List.length_map] at r1 r2
 unfold sealedL
 rw [e0]
 simp only [List.length_append,List.length_cons,List.length_nil]
 omega
end Go.Proofs.Leaf
namespace Go.Proofs.Leaf
open Go Go.RX Go.Proofs Go.RowKit
set_option maxRecDepth 100000
section
theorem c_Print (J:Job) (h:J.ok):Ctr Tryz.prog 45 [J.sv] (.tup [.d (.str (sealedL (rowsOf J))),iS 0]):=by
 have hj:=jobB_iff.2 h
 (refine Ctr.mk (fn:=Tryz.f45) rfl rfl rfl rfl rfl Tryz.results45 ?_;intro _;dsimp only [args,List.toList_toArray])
 (first|refine qE ?_|refine qD ?_);(simp only [go_sem,↓dP,↓reduceIte];with_reducible and_intros;all_goals first|apply qA|exact qC|skip)
 refine Ok.seq ?_
 (first|refine qE ?_|refine qD ?_);(simp only [go_sem,↓dP,↓reduceIte];with_reducible and_intros;all_goals first|apply qA|exact qC|skip)
 (refine AskI.ret (c_isJob J h.held) ?_;simp only [go_sem,↓dP,↓reduceIte];with_reducible and_intros;all_goals first|apply qA|exact qC|skip)
 refine Ok.cond rfl (fun hb => by rw [hj] at hb;cases hb) (fun _ => ?_)
 (refine Ok.skip ?_;(try dsimp only [thenK,blockK,noGotoK]))
 (first|refine qE ?_|refine qD ?_);(simp only [go_sem,↓dP,↓reduceIte];with_reducible and_intros;all_goals first|apply qA|exact qC|skip)
 (refine AskI.ret (c_text J (ok_small h)) ?_;simp only [go_sem,↓dP,↓reduceIte];with_reducible and_intros;all_goals first|apply qA|exact qC|skip)
 (refine Ok.ret ?_;(try dsimp only [thenK,blockK,noGotoK]);simp only [toList_mk,List.toList_toArray,retK_ret,retK_normal,resOK,resV,celV,rowV,frzAll,frzT,subV,subL,go_sem,↓dP,↓reduceIte])
 ((repeat' with_reducible apply And.intro)<;>(first | exact DEq.refl _ | refine DEq.int ?_ | refine DEq.bool ?_ | skip))
end
end Go.Proofs.Leaf
namespace Go.Proofs.Leaf
open Go Go.RX Go.Proofs Go.RowKit
set_option maxRecDepth 100000
section
theorem c_same0:Ctr Tryz.prog 48 [noJ,noJ] (bS true):=by
 have h:=c_rSameJobs ⟨0,0,0,0,[],[]⟩ (by unfold Job.held;decide)
 exact h.args ⟨⟨.refl _,.refl _,.refl _,.refl _,DEq.nils rfl,DEq.nils rfl,trivial⟩,⟨.refl _,.refl _,.refl _,.refl _,DEq.nils rfl,DEq.nils rfl,trivial⟩,trivial⟩
end
end Go.Proofs.Leaf
namespace Go.Proofs.Leaf
open Go Go.RX Go.Proofs
set_option maxRecDepth 10000
theorem spl_set (c b:UInt8) (hb:b ≠ c):∀ (l:List UInt8) (p:Nat),p < l.length->l.getD p 0 ≠ c ->
  ∃ i k,i < (spl c l).length/\k < ((spl c l).getD i []).length/\((spl c l).getD i []).getD k 0 = l.getD p 0/\spl c (l.set p b) = (spl c l).set i (((spl c l).getD i []).set k b)
 | [],p,hp,_ => by simp at hp
 | a :: l,0,_,ha => by
  have ha':a ≠ c:=by simpa using ha
  obtain ⟨x,r,hx⟩:∃ x r,spl c l = x :: r:=by
   cases h:spl c l with
   | nil => exact absurd h (spl_ne c l)
   | cons x r => exact ⟨x,r,rfl⟩
  refine ⟨0,0,?_⟩
  simp only [List.set_cons_zero,spl,if_neg ha',if_neg hb,hx]
  simp
 | a :: l,p + 1,hp,ha => by
  obtain ⟨i,k,h1,h2,h3,h4⟩:=spl_set c b hb l p (by simpa using hp) (by simpa using ha)
  by_cases hac:a = c
  ·refine ⟨i + 1,k,?_⟩
   simp only [List.set_cons_succ,spl,if_pos hac,List.getD_cons_succ,List.length_cons]
   exact ⟨by omega,h2,h3,by rw [h4]⟩
  ·obtain ⟨x,r,hx⟩:∃ x r,spl c l = x :: r:=by
    cases h:spl c l with
    | nil => exact absurd h (spl_ne c l)
    | cons x r => exact ⟨x,r,rfl⟩
   rw [hx] at h1 h2 h3 h4
   cases i with
   | zero =>
    refine ⟨0,k + 1,?_⟩
    simp only [List.getD_cons_zero,List.set_cons_zero] at h2 h3 h4
    simp only [List.set_cons_succ,spl,if_neg hac,hx,h4,List.getD_cons_zero,List.getD_cons_succ,List.length_cons,List.set_cons_zero]
    exact ⟨by omega,by omega,h3,trivial⟩
   | succ i =>
    refine ⟨i + 1,k,?_⟩
    simp only [List.getD_cons_succ,List.set_cons_succ,List.length_cons] at h1 h2 h3 h4
    simp only [List.set_cons_succ,spl,if_neg hac,hx,h4,List.getD_cons_succ,List.length_cons]
    exact ⟨h1,h2,h3,trivial⟩
theorem rowSum_set (i:Nat) (b:UInt8):∀ (r:List UInt8) (k0 k:Nat),k < r.length->rowSum i k0 (r.set k b) + (r.getD k 0).toNat * (k0 + k + 1) * (i + 1) = rowSum i k0 r + b.toNat * (k0 + k + 1) * (i + 1)
 | [],_,_,h => by simp at h
 | a :: r,k0,0,_ => by
  simp only [List.set_cons_zero,rowSum,List.getD_cons_zero,Nat.add_zero]
  omega
 | a :: r,k0,k + 1,h => by
  have ih:=rowSum_set i b r (k0 + 1) k (by simpa using h)
  simp only [List.set_cons_succ,rowSum,List.getD_cons_succ]
  rw [show k0 + (k + 1) + 1 = k0 + 1 + k + 1 by omega]
  omega
theorem rowsSum_set (r':List UInt8):∀ (R:List (List UInt8)) (i0 i:Nat),i < R.length->rowsSum i0 (R.set i r') + rowSum (i0 + i) 0 (R.getD i []) = rowsSum i0 R + rowSum (i0 + i) 0 r'
 | [],_,_,h => by simp at h
 | a :: R,i0,0,_ => by
  simp only [List.set_cons_zero,rowsSum,List.getD_cons_zero,Nat.add_zero]
  omega
 | a :: R,i0,i + 1,h => by
  have ih:=rowsSum_set r' R (i0 + 1) i (by simpa using h)
  simp only [List.set_cons_succ,rowsSum,List.getD_cons_succ]
  rw [show i0 + (i + 1) = i0 + 1 + i by omega]
  omega
theorem endL_inj {c c':Nat} (h:c < 191) (h':c' < 191) (e:endL c = endL c'):c = c':=by
 unfold endL at e
 rw [Lib.decDigits_one (i:=c / 100) (by omega),Lib.decDigits_one (i:=c / 10 % 10) (by omega),Lib.decDigits_one (i:=c % 10) (by omega),Lib.decDigits_one (i:=c' / 100) (by omega),Lib.decDigits_one (i:=c' / 10 % 10) (by omega),Lib.decDigits_one (i:=c' % 10) (by omega)] at e
 simp only [List.cons_append,List.nil_append,List.cons.injEq,and_true,true_and] at e
 obtain ⟨e1,e2,e3⟩:=e
 have f1:=congrArg UInt8.toNat e1
 have f2:=congrArg UInt8.toNat e2
 have f3:=congrArg UInt8.toNat e3
 rw [ofNat_dig (by omega),ofNat_dig (by omega)] at f1 f2 f3
 omega
theorem no191 (d:Nat) (hd:d < 10) (k:Nat) (hk:k < 26) (i:Nat) (hi:i < 24) (d0:0 < d) (k0:0 < k) (i0:0 < i):d * k * i % 191 ≠ 0:=by
 have h:((List.range 10).all fun d => (List.range 26).all fun k => (List.range 24).all fun i => d == 0 || k == 0 || i == 0 || d * k * i % 191 != 0) = true:=by decide +kernel
 simp only [List.all_eq_true,List.mem_range] at h
 have:=h d hd k hk i hi
 simp only [Bool.or_eq_true,beq_iff_eq,bne_iff_ne] at this
 rcases this with ((h | h) | h) | h
 ·omega
 ·omega
 ·omega
 ·exact h
theorem sum_ne {S S' u v k i:Nat} (h:S' + u * k * i = S + v * k * i) (hm:S' % 191 = S % 191) (hne:u ≠ v) (hu:48<=u/\u<=57) (hv:48<=v/\v<=57) (hk:0 < k/\k < 26) (hi:0 < i/\i < 24):False:=by
 rw [Nat.mul_assoc,Nat.mul_assoc] at h
 have hd:∀ d,0 < d->d < 10->d * k * i % 191 ≠ 0:=fun d h0 h1 => no191 d h1 k hk.2 i hi.2 h0 hk.1 hi.1
 rcases Nat.lt_or_gt_of_ne hne with hlt | hgt
 ·obtain ⟨d,rfl⟩:∃ d,v = u + d:=⟨v - u,by omega⟩
  have:=hd d (by omega) (by omega)
  rw [Nat.add_mul] at h
  rw [Nat.mul_assoc] at this
  omega
 ·obtain ⟨d,rfl⟩:∃ d,u = v + d:=⟨u - v,by omega⟩
  have:=hd d (by omega) (by omega)
  rw [Nat.add_mul] at h
  rw [Nat.mul_assoc] at this
  omega
theorem rows_len23 {J:Job} (h:J.ok):(rowsOf J).length<=23:=by
 have:=h.g1
 have:=h.p1
 simp only [rowsOf,List.length_cons,List.length_append,List.length_map]
 omega
theorem rows_25 {J:Job} (h:J.ok):∀ r∈rowsOf J,r.length<=25:=by
 have hp:=ok_plain h
 intro r hr
 simp only [rowsOf,List.mem_cons,List.mem_append,List.mem_map] at hr
 rcases hr with rfl | ⟨g,hg,rfl⟩ | ⟨p,hp',rfl⟩
 ·have:=rowL_len2 leafW J.nums (fun n hn => hp.n n hn)
  have e:leafW.length = 4:=by decide
  have e1:J.nums.length = 4:=rfl
  omega
 ·have:=rowL_len2 groundW g.nums (fun n hn => hp.g g hg n hn)
  have e:groundW.length = 6:=by decide
  have e1:g.nums.length = 4:=rfl
  show (rowL groundW g.nums).length<=25
  omega
 ·have:=rowL_len2 (kindW p.turn) p.nums (fun n hn => hp.p p hp' n hn)
  have e:(kindW p.turn).length<=6:=by cases p.turn<;>decide
  have e1:p.nums.length = 3:=rfl
  show (rowL (kindW p.turn) p.nums).length<=25
  omega
theorem spoilt_none {s:Job} (h:s.ok) {p:Nat} (hp:p < (sealedL (rowsOf s)).length) (hd:digit ((sealedL (rowsOf s)).getD p 0) = true) {b:UInt8} (hb:digit b = true) (hne:b ≠ (sealedL (rowsOf s)).getD p 0):parseP ((sealedL (rowsOf s)).set p b) = none:=by
 cases hx:parseP ((sealedL (rowsOf s)).set p b) with
 | none => rfl
 | some s' =>
  exfalso
  obtain ⟨hpl,htx,_⟩:=parse_some hx
  have e1:=spl_sealed (ok_plain h).no10
  have e2:=spl_sealed hpl.no10
  rw [htx,splitL_spl] at e2
  rw [splitL_spl] at e1
  obtain ⟨i,k,q1,q2,q3,q4⟩:=spl_set 10 b (dig_ne hb).2 (sealedL (rowsOf s)) p hp (dig_ne hd).2
  rw [e1] at q1 q2 q3 q4
  rw [e2] at q4
  have hlen:=congrArg List.length q4
  simp only [List.length_append,List.length_cons,List.length_nil,List.length_set] at hlen q1
  have hRl:=rows_len23 h
  have hR25:=rows_25 h
  generalize rowsOf s = R at *
  generalize rowsOf s' = R' at *
  have hlR:R'.length = R.length:=by omega
  have hc:=Nat.mod_lt (rowsSum 0 R) (y:=191) (by decide)
  have hc':=Nat.mod_lt (rowsSum 0 R') (y:=191) (by decide)
  by_cases hi:i < R.length
  ·have hg:(R ++ [endL (rowsSum 0 R % 191),[]]).getD i [] = R.getD i []:=by
    simp only [List.getD_eq_getElem?_getD,List.getElem?_append_left hi]
   rw [hg] at q2 q3 q4
   rw [List.set_append_left _ _ hi] at q4
   obtain ⟨f1,f2⟩:=List.append_inj q4 (by rw [List.length_set];exact hlR)
   have f3:endL (rowsSum 0 R' % 191) = endL (rowsSum 0 R % 191):=by
    simp only [List.cons.injEq,and_true] at f2
    exact f2
   have f4:=endL_inj hc' hc f3
   have hm:R.getD i []∈R:=by
    have:R.getD i [] = R.getD i default:=rfl
    rw [this];exact getD_mem' hi
   have hk25:=hR25 _ hm
   have s1:=rowsSum_set ((R.getD i []).set k b) R 0 i hi
   have s2:=rowSum_set i b (R.getD i []) 0 k q2
   rw [← f1] at s1
   rw [Nat.zero_add] at s1 s2
   rw [q3] at s2
   simp only [digit,Bool.and_eq_true,decide_eq_true_eq] at hd hb
   exact sum_ne (S:=rowsSum 0 R) (S':=rowsSum 0 R') (u:=((sealedL R).getD p 0).toNat) (v:=b.toNat) (k:=k + 1) (i:=i + 1) (by omega) f4 (fun e => hne (UInt8.toNat_inj.1 e.symm)) hd hb ⟨by omega,by omega⟩ ⟨by omega,by omega⟩
  ·by_cases hi2:i = R.length
   ·subst hi2
    have hg:(R ++ [endL (rowsSum 0 R % 191),[]]).getD R.length [] = endL (rowsSum 0 R % 191):=by
     simp
    rw [hg] at q2 q3 q4
    rw [List.set_append_right _ _ (Nat.le_refl _),Nat.sub_self,List.set_cons_zero] at q4
    obtain ⟨f1,f2⟩:=List.append_inj q4 hlR
    subst f1
    simp only [List.cons.injEq,and_true] at f2
    have f3:(endL (rowsSum 0 R' % 191)).getD k 0 = ((endL (rowsSum 0 R' % 191)).set k b).getD k 0:=congrArg (fun l => l.getD k 0) f2
    rw [q3] at f3
    have:((endL (rowsSum 0 R' % 191)).set k b).getD k 0 = b:=by
     rw [List.getD_eq_getElem?_getD,List.getElem?_set_self q2];rfl
    rw [this] at f3
    exact hne f3.symm
   ·have hi3:i = R.length + 1:=by omega
    subst hi3
    have hg:(R ++ [endL (rowsSum 0 R % 191),[]]).getD (R.length + 1) [] = []:=by
     rw [List.getD_eq_getElem?_getD,List.getElem?_append_right (by omega)]
     simp
    rw [hg] at q2
    simp at q2
end Go.Proofs.Leaf
namespace Go.Proofs.Leaf
open Go Go.RX Go.Proofs Go.RowKit
set_option maxRecDepth 10000
section
variable {P : Program} {ops : Array Oper} {Q : Exit → Act → World → Prop} {a : Act} {w w' : World} {rest : List Oper} {o : Oper}
theorem ev_same {d:Nat} {v:Value} (h:d < a.tmps.size):(a.put (some d) v).eval (.tmp d) = v:=by
 show (a.put (some d) v).tmps.getD d undef = v
 rw [getD_put h,if_pos rfl]
theorem ev_other {d t:Nat} {v:Value} (h:d < a.tmps.size) (hne:t ≠ d):(a.put (some d) v).eval (.tmp t) = a.eval (.tmp t):=by
 show (a.put (some d) v).tmps.getD t undef = a.tmps.getD t undef
 rw [getD_put h,if_neg hne]
end
abbrev bysD (l:List UInt8):DV:=.sl 1 l.length (fun i _ => .int .u8 (l.getD i 0).toNat)
section
section
variable {I : Nat → Prop} {β : Nat → Option Nat} {τ : Nat → Option Value} {Y : Nat → Option Bool} {E : Nat → SV} {B : Nat → Option BC} {K : Nat → Option TC} {I0 : Nat → Prop} {N : Nat} {w0 w : World} {a : Act}
theorem inv_know (h:InvX I β τ Y E B K I0 N w0 a w) {d:Nat} {V:SV} (hv:Mt I β τ Y w (a.tmps.getD d undef) V):InvX I β τ Y (upd E d V) B K I0 N w0 a w :=
 { h with env:=fun t => (by
   by_cases e:t = d
   ·subst e;rw [upd_same];exact .m hv
   ·rw [upd_other _ _ _ _ e];exact h.env t) }
end
theorem st_fr {W:World} {B:Nat} {cs:Array Value} {T:TypeId} {fr:Nat×Nat} (h:W.heap[B]? = some (.cells cs T fr)) (j:Nat) (v:Value):(W.setCell ⟨B,j,none⟩ v).heap[B]? = some (.cells (cs.setIfInBounds j v) T fr):=by
 obtain ⟨hlt,hk⟩:=Array.getElem?_eq_some_iff.1 h
 show (W.heap.modify B _)[B]? = _
 rw [Array.getElem?_eq_getElem (by rw [Array.size_modify];exact hlt),Array.getElem_modify_self,hk]
 rfl
theorem cell_fr {W:World} {B j:Nat} {cs:Array Value} {T:TypeId} {fr:Nat×Nat} (h:W.heap[B]? = some (.cells cs T fr)):W.cell? ⟨B,j,none⟩ = cs[j]?:=by
 simp [World.cell?,h]
theorem cells_set {w:World} (l:List UInt8) (p:Nat) (b:UInt8) (hp:p < l.length) (j:Nat) (hj:j < l.length) :
  ((Lib.bytesWorld w 5 ⟨l.toArray⟩).setCell ⟨w.heap.size,p,none⟩ (.int .u8 b.toNat)).cell? ⟨w.heap.size,j,none⟩ = some (.int .u8 ((l.set p b).getD j 0).toNat):=by
 have hnew:=Lib.bytesWorld_at_new w 5 ⟨l.toArray⟩
 have hold:=Lib.bytesWorld_cell w 5 ⟨l.toArray⟩ j hj
 rw [cell_fr hnew] at hold
 rw [cell_fr (st_fr hnew p _),Array.getElem?_setIfInBounds]
 have hs:(Lib.bytesCells w 5 ⟨l.toArray⟩).size ≥ l.length:=by simp [Lib.bytesCells]
 by_cases e:p = j
 ·subst e
  rw [if_pos rfl,if_pos (by omega)]
  simp [hp]
 ·rw [if_neg e,hold]
  simp [e]
set_option maxHeartbeats 1000000 in
theorem ok_spoil [Rnd] [Bas] {i8 i9:Nat} {c:Code} {σ:Sy} {K:Exit->Sy->Prop} {Kp:DV->Prop} {y1 y2 y3 y4 y5 y6 y7 y8 y9 y10:Nat} {p1 p2 p3 p4 p5 p6 p7 p8 p9 p10:String} {f1 f2 f3 f4 f5 f6 f7 f8 f9 f10:Array Edge}
  (l:List UInt8) (n dg:Int) (h7:lk σ.env 7 = .d (.str l)) (h1:lk σ.env 1 = iS n) (h2:lk σ.env 2 = iS dg) (n0:0<=n) (n1:n < l.length) (d0:0<=dg) (d9:dg<=9)
  (hk:Ok Tryz.prog 85 c { σ with env:=(9,.d (bysD (l.set n.toNat (UInt8.ofNat (48 + dg.toNat))))) :: (68,.any) :: (67,.any) :: (66,.any) :: (65,.any) :: (64,.any) :: (63,.any) :: (9,.any) :: (62,.any) :: (61,.any) :: σ.env } K Kp) (hlen:l.length<=1000000) :
  Ok Tryz.prog 85 (.seq (.region i8 #[⟨some 61,.move (.tmp 7),y1,p1,f1,none⟩,⟨some 62,.convert 9 84 (.tmp 61),y2,p2,f2,none⟩,⟨some 9,.assign (.tmp 62),y3,p3,f3,none⟩] false)
   (.seq (.region i9 #[⟨some 63,.move (.tmp 9),y4,p4,f4,none⟩,⟨some 64,.move (.tmp 1),y5,p5,f5,none⟩,⟨some 65,.move (.tmp 2),y6,p6,f6,none⟩,
    ⟨some 66,.binOp .add 3 (.const (.int .i64 48)) (.tmp 65) 3,y7,p7,f7,none⟩,⟨some 67,.convert 3 5 (.tmp 66),y8,p8,f8,none⟩,⟨some 68,.indexAddr 84 (.tmp 63) (.tmp 64),y9,p9,f9,none⟩,
    ⟨none,.store 5 (.tmp 68) (.tmp 67),y10,p10,f10,none⟩] false) c)) σ K Kp:=by
 intro a w hst
 obtain ⟨I,β,τ,hx⟩:=hst (fun _ => none)
 have q7:=(hx.env 7).un (by rw [h7];intro _ _ _ e;cases e)
 have q1:=(hx.env 1).un (by rw [h1];intro _ _ _ e;cases e)
 have q2:=(hx.env 2).un (by rw [h2];intro _ _ _ e;cases e)
 rw [h7] at q7;rw [h1] at q1;rw [h2] at q2
 have hsz:=hx.sz
 have v7:a.eval (.tmp 7) = .string ⟨l.toArray⟩:=by
  obtain ⟨s,e,hs⟩:=rep_str (mt_d q7)
  obtain ⟨⟨d⟩⟩:=s
  simp at hs;subst hs
  exact e
 have v1:a.eval (.tmp 1) = .int .i64 n:=rep_int (mt_d q1)
 have v2:a.eval (.tmp 2) = .int .i64 dg:=rep_int (mt_d q2)
 have hp:n.toNat < l.length:=by omega
 obtain ⟨cap,hcap⟩:∃ cap,grownCap w (⟨l.toArray⟩:ByteArray).size 0 5 = cap:=⟨_,rfl⟩
 have hconv:=Lib.run_convert_string_bytes (P:=Tryz.prog) w 9 84 5 ⟨l.toArray⟩ Tryz.underlying9 Tryz.underlying84 Tryz.underlying5
 rw [hcap] at hconv
 have hnew:=Lib.bytesWorld_at_new w 5 ⟨l.toArray⟩
 obtain ⟨W2,hW2⟩:∃ W2,Lib.bytesWorld w 5 ⟨l.toArray⟩ = W2:=⟨_,rfl⟩
 rw [hW2] at hconv hnew
 obtain ⟨sl,hsl⟩:∃ sl,Value.slice (some ⟨w.heap.size,0,none⟩) (⟨l.toArray⟩:ByteArray).size cap = sl:=⟨_,rfl⟩
 rw [hsl] at hconv
 obtain ⟨a1,ha1⟩:∃ a1,a.put (some 61) (.string ⟨l.toArray⟩) = a1:=⟨_,rfl⟩
 have z1:a1.tmps.size = 85:=by rw [← ha1,size_put,hsz]
 obtain ⟨a2,ha2⟩:∃ a2,a1.put (some 62) sl = a2:=⟨_,rfl⟩
 have z2:a2.tmps.size = 85:=by rw [← ha2,size_put,z1]
 obtain ⟨a3,ha3⟩:∃ a3,a2.put (some 9) sl = a3:=⟨_,rfl⟩
 have z3:a3.tmps.size = 85:=by rw [← ha3,size_put,z2]
 obtain ⟨a4,ha4⟩:∃ a4,a3.put (some 63) sl = a4:=⟨_,rfl⟩
 have z4:a4.tmps.size = 85:=by rw [← ha4,size_put,z3]
 obtain ⟨a5,ha5⟩:∃ a5,a4.put (some 64) (.int .i64 n) = a5:=⟨_,rfl⟩
 have z5:a5.tmps.size = 85:=by rw [← ha5,size_put,z4]
 obtain ⟨a6,ha6⟩:∃ a6,a5.put (some 65) (.int .i64 dg) = a6:=⟨_,rfl⟩
 have z6:a6.tmps.size = 85:=by rw [← ha6,size_put,z5]
 obtain ⟨a7,ha7⟩:∃ a7,a6.put (some 66) (.int .i64 (48 + dg)) = a7:=⟨_,rfl⟩
 have z7:a7.tmps.size = 85:=by rw [← ha7,size_put,z6]
 obtain ⟨a8,ha8⟩:∃ a8,a7.put (some 67) (.int .u8 (48 + dg)) = a8:=⟨_,rfl⟩
 have z8:a8.tmps.size = 85:=by rw [← ha8,size_put,z7]
 obtain ⟨a9,ha9⟩:∃ a9,a8.put (some 68) (.pointer (some ⟨w.heap.size,n.toNat,none⟩)) = a9:=⟨_,rfl⟩
 have z9:a9.tmps.size = 85:=by rw [← ha9,size_put,z8]
 have o {x y:Act} {d t:Nat} {v:Value} (hz:x.tmps.size = 85) (hd:d < 85) (e:x.put (some d) v = y) (hne:t ≠ d):y.eval (.tmp t) = x.eval (.tmp t):=by
  rw [← e];exact ev_other (by omega) hne
 have m {x y:Act} {d:Nat} {v:Value} (hz:x.tmps.size = 85) (hd:d < 85) (e:x.put (some d) v = y):y.eval (.tmp d) = v:=by
  rw [← e];exact ev_same (by omega)
 have e1x:a1.eval (.tmp 61) = .string ⟨l.toArray⟩:=m hsz (by decide) ha1
 have e2x:a2.eval (.tmp 62) = sl:=m z1 (by decide) ha2
 have e39:a3.eval (.tmp 9) = sl:=m z2 (by decide) ha3
 have e41:a4.eval (.tmp 1) = .int .i64 n:=by rw [o z3 (by decide) ha4 (by decide),o z2 (by decide) ha3 (by decide),o z1 (by decide) ha2 (by decide),o hsz (by decide) ha1 (by decide),v1]
 have e52:a5.eval (.tmp 2) = .int .i64 dg:=by rw [o z4 (by decide) ha5 (by decide),o z3 (by decide) ha4 (by decide),o z2 (by decide) ha3 (by decide),o z1 (by decide) ha2 (by decide),o hsz (by decide) ha1 (by decide),v2]
 have e6x:a6.eval (.tmp 65) = .int .i64 dg:=m z5 (by decide) ha6
 have e7x:a7.eval (.tmp 66) = .int .i64 (48 + dg):=m z6 (by decide) ha7
 have e8x:a8.eval (.tmp 63) = sl:=by rw [o z7 (by decide) ha8 (by decide),o z6 (by decide) ha7 (by decide),o z5 (by decide) ha6 (by decide),o z4 (by decide) ha5 (by decide),m z3 (by decide) ha4]
 have e8y:a8.eval (.tmp 64) = .int .i64 n:=by rw [o z7 (by decide) ha8 (by decide),o z6 (by decide) ha7 (by decide),o z5 (by decide) ha6 (by decide),m z4 (by decide) ha5]
 have e9x:a9.eval (.tmp 68) = .pointer (some ⟨w.heap.size,n.toNat,none⟩):=m z8 (by decide) ha9
 have e9y:a9.eval (.tmp 67) = .int .u8 (48 + dg):=by rw [o z8 (by decide) ha9 (by decide),m z7 (by decide) ha8]
 refine wpIn_seq (wpIn_region (tail_val (m:=0) (k:=2) rfl (fun c e => by cases e) (v:=.string ⟨l.toArray⟩) (w':=w) (by simp [execOp,v7]) ?_))
 try dsimp only
 rw [ha1]
 refine tail_val rfl (fun c e => by cases e) (v:=sl) (w':=W2) (by simp [execOp,e1x,hconv]) ?_
 try dsimp only
 rw [ha2]
 refine tail_val rfl (fun c e => by cases e) (v:=sl) (w':=W2) (by simp [execOp,e2x]) ?_
 try dsimp only
 rw [ha3]
 refine tail_end ?_
 refine wpIn_seq (wpIn_region (tail_val (m:=0) (k:=6) rfl (fun c e => by cases e) (v:=sl) (w':=W2) (by simp [execOp,e39]) ?_))
 try dsimp only
 rw [ha4]
 refine tail_val rfl (fun c e => by cases e) (v:=.int .i64 n) (w':=W2) (by simp [execOp,e41]) ?_
 try dsimp only
 rw [ha5]
 refine tail_val rfl (fun c e => by cases e) (v:=.int .i64 dg) (w':=W2) (by simp [execOp,e52]) ?_
 try dsimp only
 rw [ha6]
 refine tail_val rfl (fun c e => by cases e) (v:=.int .i64 (48 + dg)) (w':=W2) ?_ ?_
 ·have hc:a6.eval (.const (.int .i64 48)) = .int .i64 48:=rfl
  have hr:IntKind.wrap .i64 (48 + dg) = 48 + dg:=R64 (by omega) (by omega)
  simp only [execOp,e6x,hc]
  simp [go_sem,hr]
 try dsimp only
 rw [ha7]
 refine tail_val rfl (fun c e => by cases e) (v:=.int .u8 (48 + dg)) (w':=W2) ?_ ?_
 ·have hr:IntKind.wrap .u8 (48 + dg) = 48 + dg:=R8 (by omega) (by omega)
  simp [execOp,e7x,convert,run_underlying Tryz.underlying3,run_underlying Tryz.underlying5,Conv.intToInt,hr]
 try dsimp only
 rw [ha8]
 refine tail_val rfl (fun c e => by cases e) (v:=.pointer (some ⟨w.heap.size,n.toNat,none⟩)) (w':=W2) ?_ ?_
 ·rw [← hsl] at e8x
  have:=run_index_op (P:=Tryz.prog) (w:=W2) (o:=⟨some 68,.indexAddr 84 (.tmp 63) (.tmp 64),y9,p9,f9,none⟩) (e:=5) (k:=1) (by_:=1) rfl e8x e8y (by kernel_rfl) ⟨n0,by show n < ((l.length:Nat):Int);exact n1⟩
  rw [this,Nat.mul_one]
  have e:(⟨w.heap.size,0,none⟩:Addr).add n.toNat = ⟨w.heap.size,n.toNat,none⟩:=by unfold Addr.add;split<;>simp_all
  rw [e]
 try dsimp only
 rw [ha9]
 refine tail_skp rfl (fun c e => by cases e) (w':=W2.setCell ⟨w.heap.size,n.toNat,none⟩ (.int .u8 (48 + dg))) ?_ ?_
 ·have hz:(Lib.bytesCells w 5 ⟨l.toArray⟩).size ≥ l.length:=by simp [Lib.bytesCells]
  have hfz:W2.frozen? ⟨w.heap.size,n.toNat,none⟩ = false:=by
   simp only [World.frozen?,hnew]
   simp
   omega
  obtain ⟨u,hu⟩:∃ u,W2.cell? ⟨w.heap.size,n.toNat,none⟩ = some u:=by
   rw [cell_fr hnew]
   exact ⟨_,Array.getElem?_eq_getElem (by omega)⟩
  have s5:=Tryz.sizeOf5
  have a5':=Tryz.isAgg5
  simp only [execOp,e9x,e9y]
  simp [go_sem,hfz,hu]
 refine tail_end ?_
 obtain ⟨W3,hW3⟩:∃ W3,W2.setCell ⟨w.heap.size,n.toNat,none⟩ (.int .u8 (48 + dg)) = W3:=⟨_,rfl⟩
 show Code.wpIn fen 0 Tryz.prog c (QK K Kp Bas.I0 85 Bas.w0) a9 (W2.setCell ⟨w.heap.size,n.toNat,none⟩ (.int .u8 (48 + dg)))
 have hcell:=fun j hj => cells_set (w:=w) l n.toNat (UInt8.ofNat (48 + dg.toNat)) hp j hj
 have hb:(((UInt8.ofNat (48 + dg.toNat)).toNat:Nat):Int) = 48 + dg:=by
  rw [UInt8.toNat_ofNat'];omega
 rw [hb,hW2,hW3] at hcell
 have hz2:W2.heap.size = w.heap.size + 1:=by rw [← hW2];exact Lib.bytesWorld_size _ _ _
 have hz3:W3.heap.size = w.heap.size + 1:=by rw [← hW3];simp [World.setCell,Array.size_modify,hz2]
 have hB:Below w.heap.size w W3:=by
  have h1:Below w.heap.size w W2:=⟨by rw [← hW2];rfl,by rw [← hW2];rfl,by rw [← hW2];rfl,by omega,fun k hk => by rw [← hW2];exact Lib.bytesWorld_at_old w 5 _ k hk⟩
  rw [← hW3]
  exact h1.setCell (p:=⟨w.heap.size,n.toNat,none⟩) (Nat.le_refl _) _
 have ht9:a9.eval (.tmp 9) = sl:=by rw [o z8 (by decide) ha9 (by decide),o z7 (by decide) ha8 (by decide),o z6 (by decide) ha7 (by decide),o z5 (by decide) ha6 (by decide),o z4 (by decide) ha5 (by decide),o z3 (by decide) ha4 (by decide),m z2 (by decide) ha3]
 rw [hW3]
 refine hk a9 W3 (fun Y => ?_)
 obtain ⟨I,β,τ,g⟩:=hst Y
 have g1:=g.quiet (w':=W3) (Keep.of (Nat.le_trans (Glob.lo _ g.bs) g.bel.size) hB) (dst:=some 61) (fun d hd => by cases hd;exact ⟨by decide,fun p hp => by cases hp⟩) (v:=.string ⟨l.toArray⟩) (V:=.any) .any
 rw [ha1] at g1
 have g2:=g1.quiet (w':=W3) (Keep.refl _ _) (dst:=some 62) (fun d hd => by cases hd;exact ⟨by decide,fun p hp => by cases hp⟩) (v:=sl) (V:=.any) .any
 rw [ha2] at g2
 have g3:=g2.quiet (w':=W3) (Keep.refl _ _) (dst:=some 9) (fun d hd => by cases hd;exact ⟨by decide,fun p hp => by cases hp⟩) (v:=sl) (V:=.any) .any
 rw [ha3] at g3
 have g4:=g3.quiet (w':=W3) (Keep.refl _ _) (dst:=some 63) (fun d hd => by cases hd;exact ⟨by decide,fun p hp => by cases hp⟩) (v:=sl) (V:=.any) .any
 rw [ha4] at g4
 have g5:=g4.quiet (w':=W3) (Keep.refl _ _) (dst:=some 64) (fun d hd => by cases hd;exact ⟨by decide,fun p hp => by cases hp⟩) (v:=.int .i64 n) (V:=.any) .any
 rw [ha5] at g5
 have g6:=g5.quiet (w':=W3) (Keep.refl _ _) (dst:=some 65) (fun d hd => by cases hd;exact ⟨by decide,fun p hp => by cases hp⟩) (v:=.int .i64 dg) (V:=.any) .any
 rw [ha6] at g6
 have g7:=g6.quiet (w':=W3) (Keep.refl _ _) (dst:=some 66) (fun d hd => by cases hd;exact ⟨by decide,fun p hp => by cases hp⟩) (v:=.int .i64 (48 + dg)) (V:=.any) .any
 rw [ha7] at g7
 have g8:=g7.quiet (w':=W3) (Keep.refl _ _) (dst:=some 67) (fun d hd => by cases hd;exact ⟨by decide,fun p hp => by cases hp⟩) (v:=.int .u8 (48 + dg)) (V:=.any) .any
 rw [ha8] at g8
 have g9:=g8.quiet (w':=W3) (Keep.refl _ _) (dst:=some 68) (fun d hd => by cases hd;exact ⟨by decide,fun p hp => by cases hp⟩) (v:=.pointer (some ⟨w.heap.size,n.toNat,none⟩)) (V:=.any) .any
 rw [ha9,upd_lk,upd_lk,upd_lk,upd_lk,upd_lk,upd_lk,upd_lk,upd_lk,upd_lk] at g9
 have gk:=inv_know g9 (d:=9) (V:=.d (bysD (l.set n.toNat (UInt8.ofNat (48 + dg.toNat))))) (by
  show Mt _ _ _ _ _ (a9.eval (.tmp 9)) _
  rw [ht9,← hsl]
  refine .d ?_
  unfold bysD
  rw [List.length_set]
  refine .sl (fun i _ => .int .u8 ((l.set n.toNat (UInt8.ofNat (48 + dg.toNat))).getD i 0).toNat) ?_ ?_ ?_ (fun i j hi hj => ?_) (fun i j hi hj => .int)
  ·exact .inl (.inl (.inl (.inl (.inl (.inl (.inl (.inl (.inr ⟨Nat.le_refl _,by omega⟩))))))))
  ·rw [← hcap];exact grownCap_ge w _ 0 5
  ·rw [← hcap];exact grownCap_le_maxLen w _ 0 5 (by show l.length<=maxLen;unfold maxLen;omega)
  ·have:j = 0:=by omega
   subst this
   rw [Nat.zero_add,Nat.mul_one,Nat.add_zero]
   exact hcell i hi)
 have e:=upd_lk ((68,.any) :: (67,.any) :: (66,.any) :: (65,.any) :: (64,.any) :: (63,.any) :: (9,.any) :: (62,.any) :: (61,.any) :: σ.env) 9 (.d (bysD (l.set n.toNat (UInt8.ofNat (48 + dg.toNat)))))
 change upd _ _ _ = _ at e
 rw [e] at gk
 exact ⟨_,β,τ,gk⟩
end
end Go.Proofs.Leaf
namespace Go.Proofs.Leaf
open Go Go.RX Go.Proofs Go.RowKit
set_option maxRecDepth 100000
section
theorem bys_map (l:List UInt8):(List.range l.length).map (fun i => byt (.int .u8 (l.getD i 0).toNat)) = l:=by
 refine List.ext_getElem (by simp) (fun i h1 h2 => ?_)
 simp only [List.getElem_map,List.getElem_range,byt_nat]
 rw [getD0,getD_lt h2]
 simp
theorem law_Spoilt (J:Job) (hf:J.far) (n dg:Int):Ctr Tryz.prog 12 [J.sv,iS n,iS dg] (bS true):=by
 (refine Ctr.mk (fn:=Tryz.f12) rfl rfl rfl rfl rfl Tryz.results12 ?_;intro _;dsimp only [args,List.toList_toArray])
 (first|refine qE ?_|refine qD ?_);(simp only [go_sem,↓dP,↓reduceIte];with_reducible and_intros;all_goals first|apply qA|exact qC|skip)
 refine Ok.seq ?_
 (first|refine qE ?_|refine qD ?_);(simp only [go_sem,↓dP,↓reduceIte];with_reducible and_intros;all_goals first|apply qA|exact qC|skip)
 (refine AskI.ret (c_lright J hf) ?_;simp only [go_sem,↓dP,↓reduceIte];with_reducible and_intros;all_goals first|apply qA|exact qC|skip)
 refine Ok.cond rfl ?_ ?_
 ·intro _
  (first|refine qE ?_|refine qD ?_);(simp only [go_sem,↓dP,↓reduceIte];with_reducible and_intros;all_goals first|apply qA|exact qC|skip)
  (refine AskI.ret (c_known) ?_;simp only [go_sem,↓dP,↓reduceIte];with_reducible and_intros;all_goals first|apply qA|exact qC|skip)
  (refine Ok.ret ?_;(try dsimp only [thenK,blockK,noGotoK]);simp only [toList_mk,List.toList_toArray,retK_ret,retK_normal,resOK,resV,celV,rowV,frzAll,frzT,subV,subL,go_sem,↓dP,↓reduceIte])
  ((repeat' with_reducible apply And.intro)<;>(first | exact DEq.refl _ | refine DEq.int ?_ | refine DEq.bool ?_ | skip))
 intro hb
 simp only [Bool.or_eq_false_iff,Bool.not_eq_false',decide_eq_false_iff_not] at hb
 obtain ⟨⟨hr,hd0⟩,hd9⟩:=hb
 simp only [rightB,Bool.and_eq_true] at hr
 obtain ⟨hsh,hj⟩:=hr
 have hh:=short_held hsh
 have hok:=jobB_iff.1 hj
 (refine Ok.skip ?_;(try dsimp only [thenK,blockK,noGotoK]))
 (first|refine qE ?_|refine qD ?_);(simp only [go_sem,↓dP,↓reduceIte];with_reducible and_intros;all_goals first|apply qA|exact qC|skip)
 (refine AskI.ret (c_Print J hok) ?_;simp only [go_sem,↓dP,↓reduceIte];with_reducible and_intros;all_goals first|apply qA|exact qC|skip)
 refine Ok.seq ?_
 (first|refine qE ?_|refine qD ?_);(simp only [go_sem,↓dP,↓reduceIte];with_reducible and_intros;all_goals first|apply qA|exact qC|skip)
 refine Ok.cond (b:=false) (by first | rfl | (simp only [go_sem,↓dP,↓reduceIte];rfl)) (fun hb => by cases hb) (fun _ => ?_)
 (refine Ok.skip ?_;(try dsimp only [thenK,blockK,noGotoK]))
 have htl:=ok_text hok
 have hsp:=fun p hp hd b hb hne => spoilt_none hok (p:=p) hp hd (b:=b) hb hne
 generalize sealedL (rowsOf J) = t at *
 refine Ok.seq ?_
 (first|refine qE ?_|refine qD ?_);(simp only [go_sem,↓dP,↓reduceIte];with_reducible and_intros;all_goals first|apply qA|exact qC|skip)
 ·intro h
  simp only [beq_iff_eq,Bool.or_eq_false_iff,decide_eq_false_iff_not] at h
  omega
 ·intro h
  simp only [beq_iff_eq,Bool.or_eq_false_iff,decide_eq_false_iff_not] at h
  omega
 ·intro h
  simp only [beq_iff_eq,Bool.or_eq_false_iff,decide_eq_false_iff_not] at h
  omega
 ·intro h
  simp only [beq_iff_eq,Bool.or_eq_false_iff,decide_eq_false_iff_not] at h
  exact R8 (by omega) (by omega)
 ·intro h
  simp only [beq_iff_eq,Bool.or_eq_false_iff,decide_eq_false_iff_not] at h
  exact R64 (by omega) (by omega)
 refine Ok.cond rfl ?_ ?_
 ·intro _
  (first|refine qE ?_|refine qD ?_);(simp only [go_sem,↓dP,↓reduceIte];with_reducible and_intros;all_goals first|apply qA|exact qC|skip)
  (refine AskI.ret (c_known) ?_;simp only [go_sem,↓dP,↓reduceIte];with_reducible and_intros;all_goals first|apply qA|exact qC|skip)
  (refine Ok.ret ?_;(try dsimp only [thenK,blockK,noGotoK]);simp only [toList_mk,List.toList_toArray,retK_ret,retK_normal,resOK,resV,celV,rowV,frzAll,frzT,subV,subL,go_sem,↓dP,↓reduceIte])
  ((repeat' with_reducible apply And.intro)<;>(first | exact DEq.refl _ | refine DEq.int ?_ | refine DEq.bool ?_ | skip))
 intro hb
 simp only [Bool.or_eq_false_iff,decide_eq_false_iff_not,beq_eq_false_iff_ne] at hb
 obtain ⟨⟨⟨⟨h1,h2⟩,h3⟩,h4⟩,h5⟩:=hb
 (refine Ok.skip ?_;(try dsimp only [thenK,blockK,noGotoK]))
 have hnone:=hsp n.toNat (by omega) (by simp only [digit,Bool.and_eq_true,decide_eq_true_eq];omega) (UInt8.ofNat (48 + dg.toNat)) (by simp only [digit,ofNat_dig (n:=dg.toNat) (by omega),Bool.and_eq_true,decide_eq_true_eq];omega) (fun e => h5 (by rw [← e,ofNat_dig (n:=dg.toNat) (by omega)];omega))
 refine ok_spoil t n dg rfl rfl rfl (by omega) (by omega) (by omega) (by omega) ?_ (by omega)
 have hxl:(t.set n.toNat (UInt8.ofNat (48 + dg.toNat))).length<=180:=by rw [List.length_set];omega
 have hread:=c_Read_text _ ((parsed_walk _ hxl).2 hnone) hxl
 generalize t.set n.toNat (UInt8.ofNat (48 + dg.toNat)) = x at *
 (first|refine qE ?_|refine qD ?_);(simp only [go_sem,↓dP,↓reduceIte];with_reducible and_intros;all_goals first|apply qA|exact qC|skip)
 ·intro i hi
  rw [byt_nat,UInt8.ofNat_toNat]
 rw [bys_map]
 (refine AskI.ret (hread) ?_;simp only [go_sem,↓dP,↓reduceIte];with_reducible and_intros;all_goals first|apply qA|exact qC|skip)
 (first|refine qE ?_|refine qD ?_);(simp only [go_sem,↓dP,↓reduceIte];with_reducible and_intros;all_goals first|apply qA|exact qC|skip)
 (refine AskGI.ret (fun _ => c_same0) ?_;simp only [go_sem,↓dP,↓reduceIte];with_reducible and_intros;all_goals first|apply qA|exact qC|skip)
 (refine AskGI.ret (fun _ => c_known) ?_;simp only [go_sem,↓dP,↓reduceIte];with_reducible and_intros;all_goals first|apply qA|exact qC|skip)
 (refine Ok.ret ?_;(try dsimp only [thenK,blockK,noGotoK]);simp only [toList_mk,List.toList_toArray,retK_ret,retK_normal,resOK,resV,celV,rowV,frzAll,frzT,subV,subL,go_sem,↓dP,↓reduceIte])
 ((repeat' with_reducible apply And.intro)<;>(first | exact DEq.refl _ | refine DEq.int ?_ | refine DEq.bool ?_ | skip))
end
end Go.Proofs.Leaf
namespace Go.Proofs.YtdajcfdhcjbmmaaGreatDoor
open Go Go.RX Go.Proofs.Leaf Go.RowKit Go.ChangeShapes Go.WideShapes Go.ChangeAt
set_option maxRecDepth 100000
theorem leafSpoilt_ctr (As:List SV) (h:opensAll [25,3,3] As):Ctr Tryz.prog 12 As (bS true):=by
 obtain ⟨_,A1,rfl,h0,h⟩:=opensAll_cons h
 obtain ⟨_,A2,rfl,h1,h⟩:=opensAll_cons h
 obtain ⟨_,A3,rfl,h2,h⟩:=opensAll_cons h
 obtain rfl:=opensAll_nil h
 obtain ⟨x0,rfl,y0⟩:=opens_job h0
 obtain ⟨x1,rfl,y1,z1⟩:=opens_int h1
 obtain ⟨x2,rfl,y2,z2⟩:=opens_int h2
 exact law_Spoilt x0 y0 x1 x2
theorem leafSpoilt_facts:joinedFacts Tryz.prog 12 Tryz.f12 Rows.leafSpoiltSpec Rows.leafSpoiltRow = true:=by unfold joinedFacts;rw [enter_is,final_is,make_is];kernel_rfl
theorem leafSpoilt_lifted (os:Os) (started:os.Started) (H:Type) (enc:TypeId×Value->H) :
  ReturnsInHanded {} Tryz.checked os 12 .any (fun w args => (Rows.leafSpoiltSpec.pre enc Tryz.prog Tryz.f12 [] false w args/\laidMetH Tryz.prog laid5 w)/\sizedMet enc Tryz.prog Tryz.f12 (OpenSpec.ofChange Rows.leafSpoiltSpec) false w args)
   (Rows.leafSpoiltSpec.post enc Tryz.prog Tryz.f12 false true false false):=by
 refine law_ctr (ts:=[25,3,3]) Rows.leafSpoiltSpec rfl started (by kernel_rfl) Tryz.func12 (by kernel_rfl) (by rw [Tryz.params12]) (by unfold argT;decide)
  (fun ds hd => ?_)
  (ChangeSpec.witness_shaped (enc:=enc) (C:=Tryz.checked) (os:=os) (X:=fun w _ => laidMetH Tryz.prog laid5 w) false (World.laidAll Tryz.prog os laid5) #[zJ,zI,zI] 8 (World.laidAll_os _ _ _)
   (World.shaped_of_ZipB (by kernel_rfl) (by kernel_rfl)) (by kernel_rfl) (by kernel_rfl) (by kernel_rfl)
   (by rw [MakeChecks.laidMetH_plain _ _ _ (by kernel_rfl)];exact laidMet_laidAll _ (by kernel_rfl) (by kernel_rfl))) leafSpoilt_ctr
 match ds,hd with
 | [d0,d1,d2],_ => rfl
theorem leafSpoilt_row:Rows.LeafSpoiltSaid :=
 OpenClaim.holds_of_wide 12 Tryz.f12 rfl rfl rfl rfl rfl rfl rfl ⟨rfl,rfl,rfl,rfl,rfl⟩ rfl rfl rfl rfl rfl (by kernel_rfl) Tryz.func12 leafSpoilt_facts (of_decide_eq_true (by kernel_rfl))
  (by unfold Func.isWrapper;first | (rw [if_pos (by decide +kernel)];kernel_rfl) | (rw [if_neg (by decide +kernel)];exact ⟨rfl,rfl⟩)) (fun os started H enc _ => leafSpoilt_lifted os started H enc)
theorem leafSpoilt_card:Rows.LeafSpoiltCardSaid :=
 Claim7.holds_tied_plain_at .later [] [.data,.data,.data,.data,.pinned] true (true,"9e87e616c4e1775f9d0f73ad686290748eaae9f5c03add0b1bcc61ba8396e555") true leafSpoilt_row
  (fun _ h => by cases h) (by kernel_rfl) (fun _ h => by cases h) leafSpoilt_row_tie rfl ⟨rfl,rfl⟩ main_is rfl
  (fun f fn hf hfn => by
   obtain rfl:f = 12:=Option.some.inj ((show Tryz.prog.funcNamed "mahlstick/mahlsticklaw04.LeafSpoilt" = some 12 by kernel_rfl).symm.trans hf) |>.symm
   obtain rfl:fn = Tryz.f12:=(Option.some.inj (Tryz.func12.symm.trans hfn)).symm
   exact ⟨by kernel_rfl,fun j t ht => by
    rw [Tryz.params12] at ht
    exact law_stand (ts:=[25,3,3]) (by unfold argT;decide) (by simpa using Array.mem_of_getElem? ht)⟩) (by kernel_rfl)
end Go.Proofs.YtdajcfdhcjbmmaaGreatDoor
