/-
  the text of a job: LeafPrints returns true at every input, and leaves it as it was.
  No condition beside those that the statement itself names.
-/
import Derived.Test.YtdajcfdhcjbmmaaGreatDoorB30
import Derived.Laws.StructEq
import Derived.WalkKit
import Derived.Lib.Join
import Derived.Lib.AppendIntMem
import Derived.Lib.SplitLaws
import Derived.Lib.ItoaLen
import Derived.ChangeMaps5
set_option linter.all false
namespace Go.Proofs.Leaf
open Go Go.RX Go.Proofs
set_option maxRecDepth 10000
variable [Glob]
theorem c_rin (n lo hi:Int):Ctr Tryz.prog 50 [iS n,iS lo,iS hi] (bS (inB n lo hi)):=by
 (refine Ctr.mk (fn:=Tryz.f50) rfl rfl rfl rfl rfl Tryz.results50 ?_;intro _;dsimp only [args,List.toList_toArray])
 (first|refine qE ?_|refine qD ?_);(simp only [go_sem,↓dP,↓reduceIte];with_reducible and_intros;all_goals first|apply qA|exact qC|skip)
 (first|refine qE ?_|refine qD ?_);(simp only [go_sem,↓dP,↓reduceIte];with_reducible and_intros;all_goals first|apply qA|exact qC|skip)
 (refine Ok.ret ?_;(try dsimp only [thenK,blockK,noGotoK]);simp only [toList_mk,List.toList_toArray,retK_ret,retK_normal,resOK,resV,celV,rowV,frzAll,frzT,subV,subL,go_sem,↓dP,↓reduceIte])
 exact .refl _
end Go.Proofs.Leaf
namespace Go.Proofs.Leaf
open Go Go.RX Go.Proofs
set_option maxRecDepth 10000
variable [Glob]
theorem c_rJob (J:Job) (hh:J.held):Ctr Tryz.prog 26 [J.sv] (bS (jobB J)):=by
 have hh1:=hh.1
 have hh2:=hh.2
 (refine Ctr.mk (fn:=Tryz.f26) rfl rfl rfl rfl rfl Tryz.results26 ?_;intro _;dsimp only [args,List.toList_toArray])
 (first|refine qE ?_|refine qD ?_);(simp only [go_sem,↓dP,↓reduceIte];with_reducible and_intros;all_goals first|apply qA|exact qC|skip)
 refine Ok.seq ?_
 (first|refine qE ?_|refine qD ?_);(simp only [go_sem,↓dP,↓reduceIte];with_reducible and_intros;all_goals first|apply qA|exact qC|skip)
 (refine AskI.ret (c_rin _ _ _) ?_;simp only [go_sem,↓dP,↓reduceIte];with_reducible and_intros;all_goals first|apply qA|exact qC|skip)
 (refine AskGI.ret (fun _ => c_rin _ _ _) ?_;simp only [go_sem,↓dP,↓reduceIte];with_reducible and_intros;all_goals first|apply qA|exact qC|skip)
 (refine AskGI.ret (fun _ => c_rin _ _ _) ?_;simp only [go_sem,↓dP,↓reduceIte];with_reducible and_intros;all_goals first|apply qA|exact qC|skip)
 ·intro h
  have:inB J.book 1 25 = true:=by revert h;cases inB J.book 1 25<;>simp
  rw [inB_iff] at this
  exact R64 (by omega) (by omega)
 (refine AskGI.ret (fun _ => c_rin _ _ _) ?_;simp only [go_sem,↓dP,↓reduceIte];with_reducible and_intros;all_goals first|apply qA|exact qC|skip)
 (refine AskGI.ret (fun _ => c_rin _ _ _) ?_;simp only [go_sem,↓dP,↓reduceIte];with_reducible and_intros;all_goals first|apply qA|exact qC|skip)
 (refine AskGI.ret (fun _ => c_rin _ _ _) ?_;simp only [go_sem,↓dP,↓reduceIte];with_reducible and_intros;all_goals first|apply qA|exact qC|skip)
 refine Ok.cond rfl ?_ ?_
 ·intro hb
  (first|refine qE ?_|refine qD ?_);(simp only [go_sem,↓dP,↓reduceIte];with_reducible and_intros;all_goals first|apply qA|exact qC|skip)
  (refine Ok.ret ?_;(try dsimp only [thenK,blockK,noGotoK]);simp only [toList_mk,List.toList_toArray,retK_ret,retK_normal,resOK,resV,celV,rowV,frzAll,frzT,subV,subL,go_sem,↓dP,↓reduceIte])
  refine DEq.bool ?_
  have:headB J = false:=by
   revert hb
   unfold headB
   cases inB J.wide 1 6<;>cases inB J.high 1 6<;>cases inB J.book 1 25<;>cases inB J.spoilt 0 (J.book - 1)<;>cases inB J.gs.length 1 3<;>cases inB J.ps.length 1 5<;>simp
  simp [jobB,this]
 intro hb
 have hhead:headB J = true:=by
  revert hb
  unfold headB
  cases inB J.wide 1 6<;>cases inB J.high 1 6<;>cases inB J.book 1 25<;>cases inB J.spoilt 0 (J.book - 1)<;>cases inB J.gs.length 1 3<;>cases inB J.ps.length 1 5<;>simp
 (refine Ok.skip ?_;(try dsimp only [thenK,blockK,noGotoK]))
 refine Ok.seq ?_
 (first|refine qE ?_|refine qD ?_);(simp only [go_sem,↓dP,↓reduceIte];with_reducible and_intros;all_goals first|apply qA|exact qC|skip)
 refine Ok.block ?_
 refine Ok.count J.gs.length (fun i => ⟨[(1,.p 0 0),(3,iS i)],[jobC J],[]⟩) (fun i => ∀ x∈J.gs.take i,(!groundB x) = false) ⟨fun x hx => by simp at hx,?_⟩ ?_ ?_
 ·(refine Sub.of ([0]) ([]) ?_ ?_ ?_ rfl rfl<;>simp only [subB,subB1,subT,subT1,newT,subE,subV,subL,go_sem,↓dP,↓reduceIte]<;>(try (repeat' with_reducible apply And.intro))<;>(try first | exact DEq.refl _ | refine DEq.int ?_ | refine DEq.bool ?_ | omega))
 ·intro i hi h0
  refine Ok.seq ?_;((first|refine qE ?_|refine qD ?_);(simp only [go_sem,↓dP,↓reduceIte];with_reducible and_intros;all_goals first|apply qA|exact qC|skip));refine Ok.cond rfl (fun _ => ?_) (fun hb => by simp at hb;omega);(refine Ok.skip ?_;(try dsimp only [thenK,blockK,noGotoK]));refine Ok.seq ?_;refine Ok.block ?_
  (first|refine qE ?_|refine qD ?_);(simp only [go_sem,↓dP,↓reduceIte];with_reducible and_intros;all_goals first|apply qA|exact qC|skip)
  (first|refine qE ?_|refine qD ?_);(simp only [go_sem,↓dP,↓reduceIte];with_reducible and_intros;all_goals first|apply qA|exact qC|skip)
  (refine AskI.ret (c_rin _ _ _) ?_;simp only [go_sem,↓dP,↓reduceIte];with_reducible and_intros;all_goals first|apply qA|exact qC|skip)
  (refine AskGI.ret (fun _ => c_rin _ _ _) ?_;simp only [go_sem,↓dP,↓reduceIte];with_reducible and_intros;all_goals first|apply qA|exact qC|skip)
  (refine AskGI.ret (fun _ => c_rin _ _ _) ?_;simp only [go_sem,↓dP,↓reduceIte];with_reducible and_intros;all_goals first|apply qA|exact qC|skip)
  (refine AskGI.ret (fun _ => c_rin _ _ _) ?_;simp only [go_sem,↓dP,↓reduceIte];with_reducible and_intros;all_goals first|apply qA|exact qC|skip)
  have hg:groundB (J.gs.getD i default) = (inB (J.gs.getD i default).rl 0 12 && inB (J.gs.getD i default).rh (J.gs.getD i default).rl 12 && inB (J.gs.getD i default).ll (J.gs.getD i default).rh 12 && inB (J.gs.getD i default).lh (J.gs.getD i default).ll 12):=rfl
  refine Ok.cond rfl ?_ ?_
  ·intro hx
   have hx':(!groundB (J.gs.getD i default)) = true:=by
    rw [hg]
    revert hx
    cases inB (J.gs.getD i default).rl 0 12<;>cases inB (J.gs.getD i default).rh (J.gs.getD i default).rl 12<;>cases inB (J.gs.getD i default).ll (J.gs.getD i default).rh 12<;>cases inB (J.gs.getD i default).lh (J.gs.getD i default).ll 12<;>simp
   (first|refine qE ?_|refine qD ?_);(simp only [go_sem,↓dP,↓reduceIte];with_reducible and_intros;all_goals first|apply qA|exact qC|skip)
   (refine Ok.ret ?_;(try dsimp only [thenK,blockK,noGotoK]);simp only [toList_mk,List.toList_toArray,retK_ret,retK_normal,resOK,resV,celV,rowV,frzAll,frzT,subV,subL,go_sem,↓dP,↓reduceIte])
   refine DEq.bool ?_
   have:J.gs.any (fun g => !groundB g) = true:=List.any_eq_true.2 ⟨_,getD_mem hi,hx'⟩
   rw [jobB,all_any,this];simp
  ·intro hx
   have hx':(!groundB (J.gs.getD i default)) = false:=by
    rw [hg]
    revert hx
    cases inB (J.gs.getD i default).rl 0 12<;>cases inB (J.gs.getD i default).rh (J.gs.getD i default).rl 12<;>cases inB (J.gs.getD i default).ll (J.gs.getD i default).rh 12<;>cases inB (J.gs.getD i default).lh (J.gs.getD i default).ll 12<;>simp
   (refine Ok.skip ?_;(try dsimp only [thenK,blockK,noGotoK]))
   (first|refine qE ?_|refine qD ?_);(simp only [go_sem,↓dP,↓reduceIte];with_reducible and_intros;all_goals first|apply qA|exact qC|skip)
   (try dsimp only [thenK,blockK,noGotoK])
   refine ⟨no_step (q:=fun g => !groundB g) hi h0 hx',?_⟩
   (refine Sub.of ([0]) ([]) ?_ ?_ ?_ rfl rfl<;>simp only [subB,subB1,subT,subT1,newT,subE,subV,subL,go_sem,↓dP,↓reduceIte]<;>(try (repeat' with_reducible apply And.intro))<;>(try first | exact DEq.refl _ | refine DEq.int ?_ | refine DEq.bool ?_ | omega))
 intro h0
 have hgs:J.gs.any (fun g => !groundB g) = false:=List.any_eq_false.2 (fun x hx => by simp [h0 x (by simpa using hx)])
 refine Ok.seq ?_;((first|refine qE ?_|refine qD ?_);(simp only [go_sem,↓dP,↓reduceIte];with_reducible and_intros;all_goals first|apply qA|exact qC|skip));refine Ok.cond rfl (fun hb => by simp at hb) (fun _ => ?_);(refine Ok.exit ?_;simp only [thenK_exit,blockK_exit,noGotoK_exit,thenK_normal,blockK_normal,noGotoK_normal,↓reduceIte,Nat.reduceEqDiff])
 refine Ok.seq ?_
 (first|refine qE ?_|refine qD ?_);(simp only [go_sem,↓dP,↓reduceIte];with_reducible and_intros;all_goals first|apply qA|exact qC|skip)
 refine Ok.block ?_
 refine Ok.count J.ps.length (fun i => ⟨[(1,.p 0 0),(5,iS i)],[jobC J],[]⟩) (fun i => ∀ x∈J.ps.take i,(!pieceB J.gs.length x) = false) ⟨fun x hx => by simp at hx,?_⟩ ?_ ?_
 ·(refine Sub.of ([0]) ([]) ?_ ?_ ?_ rfl rfl<;>simp only [subB,subB1,subT,subT1,newT,subE,subV,subL,go_sem,↓dP,↓reduceIte]<;>(try (repeat' with_reducible apply And.intro))<;>(try first | exact DEq.refl _ | refine DEq.int ?_ | refine DEq.bool ?_ | omega))
 ·intro i hi h0
  refine Ok.seq ?_;((first|refine qE ?_|refine qD ?_);(simp only [go_sem,↓dP,↓reduceIte];with_reducible and_intros;all_goals first|apply qA|exact qC|skip));refine Ok.cond rfl (fun _ => ?_) (fun hb => by simp at hb;omega);(refine Ok.skip ?_;(try dsimp only [thenK,blockK,noGotoK]));refine Ok.seq ?_;refine Ok.block ?_
  (first|refine qE ?_|refine qD ?_);(simp only [go_sem,↓dP,↓reduceIte];with_reducible and_intros;all_goals first|apply qA|exact qC|skip)
  (first|refine qE ?_|refine qD ?_);(simp only [go_sem,↓dP,↓reduceIte];with_reducible and_intros;all_goals first|apply qA|exact qC|skip)
  (refine AskI.ret (c_rin _ _ _) ?_;simp only [go_sem,↓dP,↓reduceIte];with_reducible and_intros;all_goals first|apply qA|exact qC|skip)
  (refine AskGI.ret (fun _ => c_rin _ _ _) ?_;simp only [go_sem,↓dP,↓reduceIte];with_reducible and_intros;all_goals first|apply qA|exact qC|skip)
  (refine AskGI.ret (fun _ => c_rin _ _ _) ?_;simp only [go_sem,↓dP,↓reduceIte];with_reducible and_intros;all_goals first|apply qA|exact qC|skip)
  have hg:pieceB J.gs.length (J.ps.getD i default) = (inB (J.ps.getD i default).w 1 6 && inB (J.ps.getD i default).h 1 6 && inB (J.ps.getD i default).g 0 (J.gs.length - 1)):=rfl
  refine Ok.cond rfl ?_ ?_
  ·intro hx
   have hx':(!pieceB J.gs.length (J.ps.getD i default)) = true:=by
    rw [hg]
    revert hx
    cases inB (J.ps.getD i default).w 1 6<;>cases inB (J.ps.getD i default).h 1 6<;>cases inB (J.ps.getD i default).g 0 (J.gs.length - 1)<;>simp
   (first|refine qE ?_|refine qD ?_);(simp only [go_sem,↓dP,↓reduceIte];with_reducible and_intros;all_goals first|apply qA|exact qC|skip)
   (refine Ok.ret ?_;(try dsimp only [thenK,blockK,noGotoK]);simp only [toList_mk,List.toList_toArray,retK_ret,retK_normal,resOK,resV,celV,rowV,frzAll,frzT,subV,subL,go_sem,↓dP,↓reduceIte])
   refine DEq.bool ?_
   have:J.ps.any (fun p => !pieceB J.gs.length p) = true:=List.any_eq_true.2 ⟨_,getD_mem hi,hx'⟩
   rw [jobB,all_any J.ps,this];simp
  ·intro hx
   have hx':(!pieceB J.gs.length (J.ps.getD i default)) = false:=by
    rw [hg]
    revert hx
    cases inB (J.ps.getD i default).w 1 6<;>cases inB (J.ps.getD i default).h 1 6<;>cases inB (J.ps.getD i default).g 0 (J.gs.length - 1)<;>simp
   (refine Ok.skip ?_;(try dsimp only [thenK,blockK,noGotoK]))
   (first|refine qE ?_|refine qD ?_);(simp only [go_sem,↓dP,↓reduceIte];with_reducible and_intros;all_goals first|apply qA|exact qC|skip)
   (try dsimp only [thenK,blockK,noGotoK])
   refine ⟨no_step (q:=fun p => !pieceB J.gs.length p) hi h0 hx',?_⟩
   (refine Sub.of ([0]) ([]) ?_ ?_ ?_ rfl rfl<;>simp only [subB,subB1,subT,subT1,newT,subE,subV,subL,go_sem,↓dP,↓reduceIte]<;>(try (repeat' with_reducible apply And.intro))<;>(try first | exact DEq.refl _ | refine DEq.int ?_ | refine DEq.bool ?_ | omega))
 ·intro h0
  have hps:J.ps.any (fun p => !pieceB J.gs.length p) = false:=List.any_eq_false.2 (fun x hx => by simp [h0 x (by simpa using hx)])
  refine Ok.seq ?_;((first|refine qE ?_|refine qD ?_);(simp only [go_sem,↓dP,↓reduceIte];with_reducible and_intros;all_goals first|apply qA|exact qC|skip));refine Ok.cond rfl (fun hb => by simp at hb) (fun _ => ?_);(refine Ok.exit ?_;simp only [thenK_exit,blockK_exit,noGotoK_exit,thenK_normal,blockK_normal,noGotoK_normal,↓reduceIte,Nat.reduceEqDiff])
  (first|refine qE ?_|refine qD ?_);(simp only [go_sem,↓dP,↓reduceIte];with_reducible and_intros;all_goals first|apply qA|exact qC|skip)
  (refine Ok.ret ?_;(try dsimp only [thenK,blockK,noGotoK]);simp only [toList_mk,List.toList_toArray,retK_ret,retK_normal,resOK,resV,celV,rowV,frzAll,frzT,subV,subL,go_sem,↓dP,↓reduceIte])
  refine DEq.bool ?_
  rw [jobB,hhead,all_any,all_any,hgs,hps]
  rfl
end Go.Proofs.Leaf
namespace Go.Proofs.Leaf
open Go Go.RX Go.Proofs
set_option maxRecDepth 10000
variable [Glob]
def shortB (J:Job):Bool:=decide (J.gs.length<=5) && decide (J.ps.length<=7)
theorem c_lshort (J:Job) (h:J.far):Ctr Tryz.prog 23 [J.sv] (bS (shortB J)):=by
 have h1:=h.1
 have h2:=h.2
 (refine Ctr.mk (fn:=Tryz.f23) rfl rfl rfl rfl rfl Tryz.results23 ?_;intro _;dsimp only [args,List.toList_toArray])
 (first|refine qE ?_|refine qD ?_);(simp only [go_sem,↓dP,↓reduceIte];with_reducible and_intros;all_goals first|apply qA|exact qC|skip)
 (first|refine qE ?_|refine qD ?_);(simp only [go_sem,↓dP,↓reduceIte];with_reducible and_intros;all_goals first|apply qA|exact qC|skip)
 (refine Ok.ret ?_;(try dsimp only [thenK,blockK,noGotoK]);simp only [toList_mk,List.toList_toArray,retK_ret,retK_normal,resOK,resV,celV,rowV,frzAll,frzT,subV,subL,go_sem,↓dP,↓reduceIte])
 refine DEq.bool ?_
 unfold shortB
 by_cases g1:J.gs.length<=5<;>by_cases g2:J.ps.length<=7<;>simp [g1,g2]<;>omega
theorem short_held {J:Job} (h:shortB J = true):J.held:=by
 simp only [shortB,Bool.and_eq_true,decide_eq_true_eq] at h
 exact ⟨by omega,by omega⟩
end Go.Proofs.Leaf
namespace Go.Proofs.Leaf
open Go Go.RX Go.Proofs Go.RowKit
attribute [local go_sem] Oper.semAt_some
set_option maxRecDepth 100000
theorem eqVs_bool {u:Value} {us vs:List Value} {ks:List Bool} {b:Bool} (h:(u :: us).map isB = true :: ks) (he:eqVs (u :: us) vs = some b):∃ x y vs' c,u = .bool x/\vs = .bool y :: vs'/\us.map isB = ks/\eqVs us vs' = some c/\b = ((x == y) && c):=by
 obtain ⟨v,vs',rfl⟩:=eqVs_c he
 simp only [List.map_cons,List.cons.injEq] at h
 rcases eqVs_cons he with ⟨k,x,y,c,rfl,rfl,h3,h4⟩ | ⟨x,y,c,rfl,rfl,h3,h4⟩
 ·simp [isB] at h
 ·exact ⟨x,y,vs',c,rfl,rfl,h.2,h3,h4⟩
theorem four_ints {us vs:Array Value} {b:Bool} (h:us.toList.map isB = [false,false,false,false]) (he:eqVs us.toList vs.toList = some b) :
  ∃ k0 k1 k2 k3 x0 x1 x2 x3 y0 y1 y2 y3,us = #[.int k0 x0,.int k1 x1,.int k2 x2,.int k3 x3]/\vs = #[.int k0 y0,.int k1 y1,.int k2 y2,.int k3 y3]/\b = ((x0 == y0) && ((x1 == y1) && ((x2 == y2) && (x3 == y3)))):=by
 obtain ⟨us⟩:=us
 obtain ⟨vs⟩:=vs
 simp only at h he
 have hl:us.length = 4:=by simpa using congrArg List.length h
 match us,hl,h,he with
 | [u0,u1,u2,u3],_,h,he =>
  obtain ⟨k0,x0,y0,vs1,c1,rfl,rfl,h1,he1,rfl⟩:=eqVs_int h he
  obtain ⟨k1,x1,y1,vs2,c2,rfl,rfl,h2,he2,rfl⟩:=eqVs_int h1 he1
  obtain ⟨k2,x2,y2,vs3,c3,rfl,rfl,h3,he3,rfl⟩:=eqVs_int h2 he2
  obtain ⟨k3,x3,y3,vs4,c4,rfl,rfl,h4,he4,rfl⟩:=eqVs_int h3 he3
  obtain ⟨rfl,rfl⟩:=eqVs_nil he4
  exact ⟨k0,k1,k2,k3,x0,x1,x2,x3,y0,y1,y2,y3,rfl,rfl,by simp⟩
theorem piece_cells {us vs:Array Value} {b:Bool} (h:us.toList.map isB = [false,false,true,false]) (he:eqVs us.toList vs.toList = some b) :
  ∃ k0 k1 k3 x0 x1 x2 x3 y0 y1 y2 y3,us = #[.int k0 x0,.int k1 x1,.bool x2,.int k3 x3]/\vs = #[.int k0 y0,.int k1 y1,.bool y2,.int k3 y3]/\b = ((x0 == y0) && ((x1 == y1) && ((x2 == y2) && (x3 == y3)))):=by
 obtain ⟨us⟩:=us
 obtain ⟨vs⟩:=vs
 simp only at h he
 have hl:us.length = 4:=by simpa using congrArg List.length h
 match us,hl,h,he with
 | [u0,u1,u2,u3],_,h,he =>
  obtain ⟨k0,x0,y0,vs1,c1,rfl,rfl,h1,he1,rfl⟩:=eqVs_int h he
  obtain ⟨k1,x1,y1,vs2,c2,rfl,rfl,h2,he2,rfl⟩:=eqVs_int h1 he1
  obtain ⟨x2,y2,vs3,c3,rfl,rfl,h3,he3,rfl⟩:=eqVs_bool h2 he2
  obtain ⟨k3,x3,y3,vs4,c4,rfl,rfl,h4,he4,rfl⟩:=eqVs_int h3 he3
  obtain ⟨rfl,rfl⟩:=eqVs_nil he4
  exact ⟨k0,k1,k3,x0,x1,x2,x3,y0,y1,y2,y3,rfl,rfl,by simp⟩
theorem stEqPiece:StEq Tryz.prog 54 [false,false,true,false]:=by
 intro us vs w b x y h he
 obtain ⟨k0,k1,k3,x0,x1,x2,x3,y0,y1,y2,y3,rfl,rfl,rfl⟩:=piece_cells h he
 have u3:=Tryz.underlying3
 have a3:=Tryz.isAgg3
 have z3:=Tryz.sizeOf3
 have u4:=Tryz.underlying4
 have a4:=Tryz.isAgg4
 have z4:=Tryz.sizeOf4
 have hS:Tryz.prog.underlying 54 = some (.struct (Tryz.prog.fieldsOf 54)):=by kernel_rfl
 have hp:Tryz.prog.stoodInHeld 54 = false:=by kernel_rfl
 have hg:Tryz.prog.eqGuardType Tryz.prog.depth 54 = false:=by kernel_rfl
 have heq:(Op.equalIn 10000 54 (.agg #[.int k0 x0,.int k1 x1,.bool x2,.int k3 x3]) (.agg #[.int k0 y0,.int k1 y1,.bool y2,.int k3 y3])).run Tryz.prog w = .ok ((x0 == y0) && ((x1 == y1) && ((x2 == y2) && (x3 == y3)))) w:=by
  rw [show (10000:Nat) = 9999 + 1 from rfl,run_equalIn_agg w 9999 54 _ _ hS hp]
  simp only [Program.fieldsOf,Tryz.underlying54]
  go_simp
  by_cases h1:x0 = y0<;>by_cases h2:x1 = y1<;>by_cases h3:x2 = y2<;>by_cases h4:x3 = y3<;>simp [h1,h2,h3,h4]
 refine ⟨?_,?_⟩
 ·simp only [Sem.run_bind,run_eqGuard_agg w _ _ _ _ _ _ hg,Result.andThen_ok,run_eql_struct,heq]
 ·simp only [Sem.run_bind,run_eqGuard_agg w _ _ _ _ _ _ hg,Result.andThen_ok,run_neq_struct,heq]
theorem stEqGround:StEq Tryz.prog 56 [false,false,false,false]:=by
 intro us vs w b x y h he
 obtain ⟨k0,k1,k2,k3,x0,x1,x2,x3,y0,y1,y2,y3,rfl,rfl,rfl⟩:=four_ints h he
 have u3:=Tryz.underlying3
 have a3:=Tryz.isAgg3
 have z3:=Tryz.sizeOf3
 have a23:=Tryz.isAgg38
 have z23:=Tryz.sizeOf38
 have hS3:Tryz.prog.underlying 38 = some (.struct (Tryz.prog.fieldsOf 38)):=by kernel_rfl
 have hp3:Tryz.prog.stoodInHeld 38 = false:=by kernel_rfl
 have hS:Tryz.prog.underlying 56 = some (.struct (Tryz.prog.fieldsOf 56)):=by kernel_rfl
 have hp:Tryz.prog.stoodInHeld 56 = false:=by kernel_rfl
 have hg:Tryz.prog.eqGuardType Tryz.prog.depth 56 = false:=by kernel_rfl
 have hgen:∀ d,(Op.equalIn (d + 1 + 1 + 1) 56 (.agg #[.int k0 x0,.int k1 x1,.int k2 x2,.int k3 x3]) (.agg #[.int k0 y0,.int k1 y1,.int k2 y2,.int k3 y3])).run Tryz.prog w = .ok ((x0 == y0) && ((x1 == y1) && ((x2 == y2) && (x3 == y3)))) w:=by
  intro d
  rw [run_equalIn_agg w (d + 1 + 1) 56 _ _ hS hp]
  simp only [Program.fieldsOf,Tryz.underlying56]
  have h3:∀ a c a' c' k l,(Op.equalIn (d + 1 + 1) 38 (.agg #[.int k a,.int l c]) (.agg #[.int k a',.int l c'])).run Tryz.prog w = .ok ((a == a') && (c == c')) w:=by
   intro a c a' c' k l
   rw [run_equalIn_agg w (d + 1) 38 _ _ hS3 hp3]
   simp only [Program.fieldsOf,Tryz.underlying38]
   go_simp
   by_cases h1:a = a'<;>by_cases h2:c = c'<;>simp [h1,h2]
  clear hS3 hp3
  go_simp
  by_cases h1:x0 = y0<;>by_cases h2:x1 = y1<;>by_cases h3:x2 = y2<;>by_cases h4:x3 = y3<;>simp [h1,h2,h3,h4]
 have heq:(Op.equalIn 10000 56 (.agg #[.int k0 x0,.int k1 x1,.int k2 x2,.int k3 x3]) (.agg #[.int k0 y0,.int k1 y1,.int k2 y2,.int k3 y3])).run Tryz.prog w = .ok ((x0 == y0) && ((x1 == y1) && ((x2 == y2) && (x3 == y3)))) w:=hgen 9997
 refine ⟨?_,?_⟩
 ·simp only [Sem.run_bind,run_eqGuard_agg w _ _ _ _ _ _ hg,Result.andThen_ok,run_eql_struct,heq]
 ·simp only [Sem.run_bind,run_eqGuard_agg w _ _ _ _ _ _ hg,Result.andThen_ok,run_neq_struct,heq]
end Go.Proofs.Leaf
namespace Go.Proofs.Leaf
open Go Go.RX Go.Proofs
set_option maxRecDepth 10000
variable [Glob]
theorem c_rSameJobs (J:Job) (h:J.held):Ctr Tryz.prog 48 [J.sv,J.sv] (bS true):=by
 have h1:=h.1;have h2:=h.2
 (refine Ctr.mk (fn:=Tryz.f48) rfl rfl rfl rfl rfl Tryz.results48 ?_;intro _;dsimp only [args,List.toList_toArray])
 (first|refine qE ?_|refine qD ?_);(simp only [go_sem,↓dP,↓reduceIte];with_reducible and_intros;all_goals first|apply qA|exact qC|skip)
 refine Ok.seq ?_
 (first|refine qE ?_|refine qD ?_);(simp only [go_sem,↓dP,↓reduceIte];with_reducible and_intros;all_goals first|apply qA|exact qC|skip)
 refine Ok.cond rfl ?_ ?_
 ·intro hb
  simp at hb
 intro _
 (refine Ok.skip ?_;(try dsimp only [thenK,blockK,noGotoK]))
 refine Ok.seq ?_
 (first|refine qE ?_|refine qD ?_);(simp only [go_sem,↓dP,↓reduceIte];with_reducible and_intros;all_goals first|apply qA|exact qC|skip)
 refine Ok.block ?_
 refine Ok.count J.gs.length (fun i => ⟨[(2,.p 0 0),(3,.p 1 0),(5,iS i)],[jobC J,jobC J],[]⟩) (fun _ => True) ⟨trivial,?_⟩ ?_ ?_
 ·(refine Sub.of ([0,1]) ([]) ?_ ?_ ?_ rfl rfl<;>simp only [subB,subB1,subT,subT1,newT,subE,subV,subL,go_sem,↓dP,↓reduceIte]<;>(try (repeat' with_reducible apply And.intro))<;>(try first | exact DEq.refl _ | refine DEq.int ?_ | refine DEq.bool ?_ | omega))
 ·intro i hi _
  refine Ok.seq ?_;((first|refine qE ?_|refine qD ?_);(simp only [go_sem,↓dP,↓reduceIte];with_reducible and_intros;all_goals first|apply qA|exact qC|skip));refine Ok.cond rfl (fun _ => ?_) (fun hb => by simp at hb;omega);(refine Ok.skip ?_;(try dsimp only [thenK,blockK,noGotoK]));refine Ok.seq ?_;refine Ok.block ?_
  (first|refine qE ?_|refine qD ?_);(simp only [go_sem,↓dP,↓reduceIte];with_reducible and_intros;all_goals first|apply qA|exact qC|skip)
  ·exact stEqGround
  refine Ok.cond (b:=false) (by first | rfl | (simp only [go_sem,↓dP,↓reduceIte];rfl)) (fun hb => by cases hb) (fun _ => ?_)
  (refine Ok.skip ?_;(try dsimp only [thenK,blockK,noGotoK]))
  (try dsimp only [thenK,blockK,noGotoK])
  (first|refine qE ?_|refine qD ?_);(simp only [go_sem,↓dP,↓reduceIte];with_reducible and_intros;all_goals first|apply qA|exact qC|skip)
  (try dsimp only [thenK,blockK,noGotoK])
  refine ⟨trivial,?_⟩
  (refine Sub.of ([0,1]) ([]) ?_ ?_ ?_ rfl rfl<;>simp only [subB,subB1,subT,subT1,newT,subE,subV,subL,go_sem,↓dP,↓reduceIte]<;>(try (repeat' with_reducible apply And.intro))<;>(try first | exact DEq.refl _ | refine DEq.int ?_ | refine DEq.bool ?_ | omega))
 ·intro _
  refine Ok.seq ?_;((first|refine qE ?_|refine qD ?_);(simp only [go_sem,↓dP,↓reduceIte];with_reducible and_intros;all_goals first|apply qA|exact qC|skip));refine Ok.cond rfl (fun hb => by simp at hb) (fun _ => ?_);(refine Ok.exit ?_;simp only [thenK_exit,blockK_exit,noGotoK_exit,thenK_normal,blockK_normal,noGotoK_normal,↓reduceIte,Nat.reduceEqDiff])
  refine Ok.seq ?_
  (first|refine qE ?_|refine qD ?_);(simp only [go_sem,↓dP,↓reduceIte];with_reducible and_intros;all_goals first|apply qA|exact qC|skip)
  refine Ok.block ?_
  refine Ok.count J.ps.length (fun i => ⟨[(2,.p 0 0),(3,.p 1 0),(6,iS i)],[jobC J,jobC J],[]⟩) (fun _ => True) ⟨trivial,?_⟩ ?_ ?_
  ·(refine Sub.of ([0,1]) ([]) ?_ ?_ ?_ rfl rfl<;>simp only [subB,subB1,subT,subT1,newT,subE,subV,subL,go_sem,↓dP,↓reduceIte]<;>(try (repeat' with_reducible apply And.intro))<;>(try first | exact DEq.refl _ | refine DEq.int ?_ | refine DEq.bool ?_ | omega))
  ·intro i hi _
   refine Ok.seq ?_;((first|refine qE ?_|refine qD ?_);(simp only [go_sem,↓dP,↓reduceIte];with_reducible and_intros;all_goals first|apply qA|exact qC|skip));refine Ok.cond rfl (fun _ => ?_) (fun hb => by simp at hb;omega);(refine Ok.skip ?_;(try dsimp only [thenK,blockK,noGotoK]));refine Ok.seq ?_;refine Ok.block ?_
   (first|refine qE ?_|refine qD ?_);(simp only [go_sem,↓dP,↓reduceIte];with_reducible and_intros;all_goals first|apply qA|exact qC|skip)
   ·exact stEqPiece
   refine Ok.cond (b:=false) (by first | rfl | (simp only [go_sem,↓dP,↓reduceIte];rfl)) (fun hb => by cases hb) (fun _ => ?_)
   (refine Ok.skip ?_;(try dsimp only [thenK,blockK,noGotoK]))
   (try dsimp only [thenK,blockK,noGotoK])
   (first|refine qE ?_|refine qD ?_);(simp only [go_sem,↓dP,↓reduceIte];with_reducible and_intros;all_goals first|apply qA|exact qC|skip)
   (try dsimp only [thenK,blockK,noGotoK])
   refine ⟨trivial,?_⟩
   (refine Sub.of ([0,1]) ([]) ?_ ?_ ?_ rfl rfl<;>simp only [subB,subB1,subT,subT1,newT,subE,subV,subL,go_sem,↓dP,↓reduceIte]<;>(try (repeat' with_reducible apply And.intro))<;>(try first | exact DEq.refl _ | refine DEq.int ?_ | refine DEq.bool ?_ | omega))
  ·intro _
   refine Ok.seq ?_;((first|refine qE ?_|refine qD ?_);(simp only [go_sem,↓dP,↓reduceIte];with_reducible and_intros;all_goals first|apply qA|exact qC|skip));refine Ok.cond rfl (fun hb => by simp at hb) (fun _ => ?_);(refine Ok.exit ?_;simp only [thenK_exit,blockK_exit,noGotoK_exit,thenK_normal,blockK_normal,noGotoK_normal,↓reduceIte,Nat.reduceEqDiff])
   (first|refine qE ?_|refine qD ?_);(simp only [go_sem,↓dP,↓reduceIte];with_reducible and_intros;all_goals first|apply qA|exact qC|skip)
   (refine Ok.ret ?_;(try dsimp only [thenK,blockK,noGotoK]);simp only [toList_mk,List.toList_toArray,retK_ret,retK_normal,resOK,resV,celV,rowV,frzAll,frzT,subV,subL,go_sem,↓dP,↓reduceIte])
   exact .refl _
end Go.Proofs.Leaf
namespace Go.Proofs.Leaf
open Go Go.RX Go.Proofs
set_option maxRecDepth 10000
instance inst_g0_5:Glob:=g0
theorem spl_one (c:UInt8):∀ (l:List UInt8),c ∉ l->spl c l = [l]
 | [],_ => rfl
 | b :: l,h => by
  simp only [List.mem_cons,not_or] at h
  simp only [spl,if_neg (Ne.symm h.1),spl_one c l h.2]
theorem spl_app (c:UInt8):∀ (l r:List UInt8),c ∉ l->spl c (l ++ c :: r) = l :: spl c r
 | [],r,_ => by simp [spl]
 | b :: l,r,h => by
  simp only [List.mem_cons,not_or] at h
  simp only [List.cons_append,spl,if_neg (Ne.symm h.1),spl_app c l r h.2]
theorem ofNat_dig {n:Nat} (h:n < 10):(UInt8.ofNat (48 + n)).toNat = 48 + n:=by
 rw [UInt8.toNat_ofNat'];omega
theorem dec_props (n:Nat):(∀ b∈Lib.decDigits n,digit b = true)/\numL (Lib.decDigits n) = n/\Lib.decDigits n ≠ []:=by
 induction n using Nat.strongRecOn with
 | _ n ih =>
 by_cases h:n < 10
 ·rw [Lib.decDigits_one h]
  have e:=ofNat_dig h
  refine ⟨fun b hb => ?_,?_,by simp⟩
  ·simp only [List.mem_singleton] at hb
   subst hb
   simp only [digit,e,Bool.and_eq_true,decide_eq_true_eq];omega
  ·simp only [numL,List.foldl_cons,List.foldl_nil,e];omega
 ·obtain ⟨h1,h2,h3⟩:=ih (n / 10) (by omega)
  have e:=ofNat_dig (n:=n % 10) (by omega)
  rw [Lib.decDigits,dif_neg h]
  refine ⟨fun b hb => ?_,?_,by simp⟩
  ·simp only [List.mem_append,List.mem_singleton] at hb
   rcases hb with hb | rfl
   ·exact h1 b hb
   ·simp only [digit,e,Bool.and_eq_true,decide_eq_true_eq];omega
  ·rw [numL_snoc,h2,e];omega
theorem dec_len2 {n:Nat} (h:n < 100):(Lib.decDigits n).length<=2:=by
 by_cases h1:n < 10
 ·rw [Lib.decDigits_one h1];simp
 ·rw [Lib.decDigits_two h1 h];simp
theorem flatn_le {α β:Type} (f:α->List β) (B:Nat):∀ (l:List α),(∀ x∈l,(f x).length<=B)->(l.flatMap f).length<=B * l.length
 | [],_ => by simp
 | x :: l,h => by
  have ih:=flatn_le f B l (fun y hy => h y (List.mem_cons_of_mem _ hy))
  have:=h x (List.mem_cons_self ..)
  simp only [List.flatMap_cons,List.length_append,List.length_cons]
  rw [Nat.mul_add]
  omega
theorem flatL_le (B:Nat) (l:List (List UInt8)) (h:∀ r∈l,r.length + 1<=B):(flatL l).length<=B * l.length :=
 flatn_le _ B l (fun r hr => by have:=h r hr;simp;omega)
theorem itoa_len2 {n:Int} (h0:0<=n) (h1:n < 100):(Lib.itoa n).length<=2:=by
 obtain ⟨u,rfl⟩:∃ u:Nat,n = u:=⟨n.toNat,by omega⟩
 rw [Lib.itoa_nonneg]
 exact dec_len2 (by omega)
theorem rowL_len2 (w:List UInt8) (ns:List Int) (h:∀ n∈ns,0<=n/\n < 100):(rowL w ns).length<=w.length + 3 * ns.length:=by
 have:=flatn_le (fun n => 32 :: Lib.itoa n) 3 ns (fun n hn => by
  have:=itoa_len2 (h n hn).1 (h n hn).2
  simp only [List.length_cons];omega)
 simp only [rowL,List.length_append];omega
theorem endL_len7 {c:Nat} (h:c < 191):(endL c).length<=7:=by
 have l1:(Lib.decDigits (c / 100)).length = 1:=by rw [Lib.decDigits_one (by omega)];rfl
 have l2:(Lib.decDigits (c / 10 % 10)).length = 1:=by rw [Lib.decDigits_one (by omega)];rfl
 have l3:(Lib.decDigits (c % 10)).length = 1:=by rw [Lib.decDigits_one (by omega)];rfl
 simp only [endL,List.length_append,List.length_cons,List.length_nil];omega
theorem flatL_app (a b:List (List UInt8)):flatL (a ++ b) = flatL a ++ flatL b:=by simp [flatL]
end Go.Proofs.Leaf
namespace Go.Proofs.Leaf
open Go Go.RX Go.Proofs
set_option maxRecDepth 10000
section
variable {st : PS} {r : List UInt8} {V : List (List UInt8)}
end
theorem num_itoa {n:Int} (h:pl n):isNum (Lib.itoa n)/\((numL (Lib.itoa n):Nat):Int) = n:=by
 obtain ⟨h0,h1⟩:=h
 obtain ⟨u,rfl⟩:∃ u:Nat,n = u:=⟨n.toNat,by omega⟩
 rw [Lib.itoa_nonneg]
 obtain ⟨p1,p2,p3⟩:=dec_props u
 refine ⟨⟨p3,p1,dec_len2 (by omega),?_⟩,by rw [p2]⟩
 rw [p2,Lib.itoa_nonneg]
theorem dig_ne {b:UInt8} (h:digit b = true):b ≠ 32/\b ≠ 10:=by
 simp only [digit,Bool.and_eq_true,decide_eq_true_eq] at h
 constructor
 ·rintro rfl;revert h;decide
 ·rintro rfl;revert h;decide
theorem itoa_no {n:Int} (h:pl n):32 ∉ Lib.itoa n/\10 ∉ Lib.itoa n:=by
 have:=(num_itoa h).1.2.1
 exact ⟨fun q => (dig_ne (this _ q)).1 rfl,fun q => (dig_ne (this _ q)).2 rfl⟩
theorem spl_row:∀ (ns:List Int) (w:List UInt8),(∀ n∈ns,pl n)->32 ∉ w->spl 32 (rowL w ns) = w :: ns.map Lib.itoa
 | [],w,_,hw => by rw [rowL_nil,spl_one 32 w hw];rfl
 | n :: r,w,h,hw => by
  have e:rowL w (n :: r) = w ++ 32 :: rowL (Lib.itoa n) r:=by simp [rowL]
  rw [e,spl_app 32 _ _ hw,spl_row r (Lib.itoa n) (fun x hx => h x (List.mem_cons_of_mem _ hx)) (itoa_no (h n (List.mem_cons_self ..))).1]
  rfl
theorem row_no10:∀ (ns:List Int) (w:List UInt8),(∀ n∈ns,pl n)->10 ∉ w->10 ∉ rowL w ns
 | [],w,_,hw => by rw [rowL_nil];exact hw
 | n :: r,w,h,hw => by
  have e:rowL w (n :: r) = w ++ 32 :: rowL (Lib.itoa n) r:=by simp [rowL]
  rw [e]
  have:=row_no10 r (Lib.itoa n) (fun x hx => h x (List.mem_cons_of_mem _ hx)) (itoa_no (h n (List.mem_cons_self ..))).2
  simp only [List.mem_append,List.mem_cons,not_or]
  exact ⟨hw,by decide,this⟩
theorem kind_no (b:Bool):32 ∉ kindW b/\10 ∉ kindW b:=by cases b<;>decide
theorem nums_row (w:List UInt8) (ns:List Int) (h:∀ n∈ns,pl n):∀ x∈(w :: ns.map Lib.itoa).drop 1,isNum x:=by
 intro x hx
 simp only [List.drop_succ_cons,List.drop_zero,List.mem_map] at hx
 obtain ⟨n,hn,rfl⟩:=hx
 exact (num_itoa (h n hn)).1
theorem nth_row (w:List UInt8) (ns:List Int) (h:∀ n∈ns,pl n) {i:Nat} (hi:i < ns.length):nth' (w :: ns.map Lib.itoa) (i + 1) = ns.getD i 0:=by
 unfold nth'
 have e:(w :: ns.map Lib.itoa).getD (i + 1) default = Lib.itoa (ns.getD i 0):=by
  simp [List.getD_eq_getElem?_getD,List.getElem?_eq_getElem hi]
 rw [e]
 have:ns.getD i 0∈ns:=by
  rw [List.getD_eq_getElem?_getD,List.getElem?_eq_getElem hi];exact List.getElem_mem hi
 exact (num_itoa (h _ this)).2
theorem spl_ground {g:Ground} (h:∀ n∈g.nums,pl n):splitL (groundRow g) [32] = groundW :: g.nums.map Lib.itoa:=by
 rw [splitL_spl,groundRow,spl_row _ _ h (by decide)]
theorem spl_piece {p:Piece} (h:∀ n∈p.nums,pl n):splitL (pieceRow p) [32] = kindW p.turn :: p.nums.map Lib.itoa:=by
 rw [splitL_spl,pieceRow,spl_row _ _ h (kind_no _).1]
theorem spl_head {J:Job} (h:∀ n∈J.nums,pl n):splitL (rowL leafW J.nums) [32] = leafW :: J.nums.map Lib.itoa:=by
 rw [splitL_spl,spl_row _ _ h (by decide)]
theorem step_ground {g:Ground} (h:∀ n∈g.nums,pl n) (st:PS):stepP st (groundRow g) = some (st.1 ++ [g],st.2):=by
 rw [stepP_ground (spl_ground h) rfl (nums_row _ _ h),if_pos (by simp [Ground.nums])]
 have e:=fun i hi => nth_row groundW g.nums h (i:=i) hi
 have e0:nth' (groundW :: g.nums.map Lib.itoa) 1 = g.rl:=e 0 (of_decide_eq_true rfl)
 have e1:nth' (groundW :: g.nums.map Lib.itoa) 2 = g.rh:=e 1 (of_decide_eq_true rfl)
 have e2:nth' (groundW :: g.nums.map Lib.itoa) 3 = g.ll:=e 2 (of_decide_eq_true rfl)
 have e3:nth' (groundW :: g.nums.map Lib.itoa) 4 = g.lh:=e 3 (of_decide_eq_true rfl)
 rw [e0,e1,e2,e3]
theorem step_piece {p:Piece} (h:∀ n∈p.nums,pl n) (st:PS):stepP st (pieceRow p) = some (st.1,st.2 ++ [p]):=by
 rw [stepP_piece (spl_piece h) (by show isKind (kindW p.turn);cases p.turn<;>decide) (by show kindW p.turn ≠ groundW;cases p.turn<;>decide) (nums_row _ _ h),if_pos (by simp [Piece.nums])]
 have e:=fun i hi => nth_row (kindW p.turn) p.nums h (i:=i) hi
 have e0:nth' (kindW p.turn :: p.nums.map Lib.itoa) 1 = p.w:=e 0 (of_decide_eq_true rfl)
 have e1:nth' (kindW p.turn :: p.nums.map Lib.itoa) 2 = p.h:=e 1 (of_decide_eq_true rfl)
 have e2:nth' (kindW p.turn :: p.nums.map Lib.itoa) 3 = p.g:=e 2 (of_decide_eq_true rfl)
 have et:((kindW p.turn :: p.nums.map Lib.itoa).getD 0 default == eitherW) = p.turn:=by
  show (kindW p.turn == eitherW) = p.turn
  cases p.turn<;>decide
 rw [e0,e1,e2,et]
theorem fold_grounds:∀ (gs:List Ground) (st:PS),(∀ g∈gs,∀ n∈g.nums,pl n)->(gs.map groundRow).foldlM stepP st = some (st.1 ++ gs,st.2)
 | [],st,_ => by simp
 | g :: gs,st,h => by
  rw [List.map_cons,List.foldlM_cons,step_ground (h g (List.mem_cons_self ..))]
  show (gs.map groundRow).foldlM stepP (st.1 ++ [g],st.2) = _
  rw [fold_grounds gs _ (fun y hy => h y (List.mem_cons_of_mem _ hy))]
  simp
theorem fold_pieces:∀ (ps:List Piece) (st:PS),(∀ p∈ps,∀ n∈p.nums,pl n)->(ps.map pieceRow).foldlM stepP st = some (st.1,st.2 ++ ps)
 | [],st,_ => by simp
 | p :: ps,st,h => by
  rw [List.map_cons,List.foldlM_cons,step_piece (h p (List.mem_cons_self ..))]
  show (ps.map pieceRow).foldlM stepP (st.1,st.2 ++ [p]) = _
  rw [fold_pieces ps _ (fun y hy => h y (List.mem_cons_of_mem _ hy))]
  simp
theorem Job.plain.no10 {J:Job} (h:J.plain):∀ r∈rowsOf J,10 ∉ r:=by
 intro r hr
 simp only [rowsOf,List.mem_cons,List.mem_append,List.mem_map] at hr
 rcases hr with rfl | ⟨g,hg,rfl⟩ | ⟨p,hp,rfl⟩
 ·exact row_no10 _ _ h.n (by decide)
 ·exact row_no10 _ _ (h.g g hg) (by decide)
 ·exact row_no10 _ _ (h.p p hp) (kind_no _).2
theorem endL_no10 (c:Nat):10 ∉ endL c:=by
 have h:=fun n => (dec_props n).1
 have hn:∀ n,10 ∉ Lib.decDigits n:=fun n q => (dig_ne (h n _ q)).2 rfl
 simp only [endL,List.mem_append,not_or]
 exact ⟨⟨⟨by decide,hn _⟩,hn _⟩,hn _⟩
theorem spl_flat:∀ (l:List (List UInt8)) (x:List UInt8),(∀ r∈l,10 ∉ r)->spl 10 (flatL l ++ x) = l ++ spl 10 x
 | [],x,_ => rfl
 | r :: l,x,h => by
  have e:flatL (r :: l) ++ x = r ++ 10 :: (flatL l ++ x):=by simp [flatL]
  rw [e,spl_app 10 _ _ (h r (List.mem_cons_self ..)),spl_flat l x (fun y hy => h y (List.mem_cons_of_mem _ hy))]
  rfl
theorem spl_sealed {l:List (List UInt8)} (h:∀ r∈l,10 ∉ r):splitL (sealedL l) [10] = l ++ [endL (rowsSum 0 l % 191),[]]:=by
 rw [splitL_spl,sealedL,List.append_assoc,spl_flat _ _ h,spl_app 10 _ _ (endL_no10 _)]
 rfl
theorem mid_rows (a:List UInt8) (l:List (List UInt8)) (x y:List UInt8):midL (a :: l ++ [x,y]) = l:=by
 unfold midL
 simp
section
variable {t : List UInt8} {rows W : List (List UInt8)}
end
theorem parse_text {J:Job} (h:J.plain):parseP (sealedL (rowsOf J)) = some J:=by
 have hr:=spl_sealed h.no10
 have hm:midL (rowsOf J ++ [endL (rowsSum 0 (rowsOf J) % 191),[]]) = J.gs.map groundRow ++ J.ps.map pieceRow:=mid_rows _ _ _ _
 have hW:splitL ((rowsOf J ++ [endL (rowsSum 0 (rowsOf J) % 191),[]]).getD 0 default) [32] = leafW :: J.nums.map Lib.itoa:=spl_head h.n
 have hst:preL (midL (rowsOf J ++ [endL (rowsSum 0 (rowsOf J) % 191),[]])) (midL (rowsOf J ++ [endL (rowsSum 0 (rowsOf J) % 191),[]])).length = some (J.gs,J.ps):=by
  rw [hm,preL,List.take_length,List.foldlM_append,fold_grounds J.gs ([],[]) h.g]
  show (J.ps.map pieceRow).foldlM stepP ([] ++ J.gs,[]) = _
  rw [fold_pieces J.ps _ h.p]
  simp
 have h4:nums ((leafW :: J.nums.map Lib.itoa).drop 1) 4:=⟨by simp [Job.nums],nums_row _ _ h.n⟩
 have e:mkS (leafW :: J.nums.map Lib.itoa) (J.gs,J.ps) = J:=by
  have e:=fun i hi => nth_row leafW J.nums h.n (i:=i) hi
  have e0:nth' (leafW :: J.nums.map Lib.itoa) 1 = J.wide:=e 0 (of_decide_eq_true rfl)
  have e1:nth' (leafW :: J.nums.map Lib.itoa) 2 = J.high:=e 1 (of_decide_eq_true rfl)
  have e2:nth' (leafW :: J.nums.map Lib.itoa) 3 = J.book:=e 2 (of_decide_eq_true rfl)
  have e3:nth' (leafW :: J.nums.map Lib.itoa) 4 = J.spoilt:=e 3 (of_decide_eq_true rfl)
  unfold mkS
  rw [e0,e1,e2,e3]
 rw [parse_all hr hW (by rw [List.length_append];simp only [rowsOf,List.length_cons,List.length_nil];omega) (.inl rfl) h4 hst,e,if_pos rfl]
end Go.Proofs.Leaf
namespace Go.Proofs.YtdajcfdhcjbmmaaGreatDoor
open Go Go.RX Go.Proofs.Leaf Go.RowKit Go.ChangeShapes Go.WideShapes Go.ChangeAt
set_option maxRecDepth 100000
instance inst_gT_6:Glob:=gT
section
variable {H : Type} {enc : TypeId × Value → H} {W : World}
end
theorem opensAll_cons {t:TypeId} {ts:List TypeId} {As:List SV} (h:opensAll (t :: ts) As):∃ A Bs,As = A :: Bs/\opens t A/\opensAll ts Bs:=by
 cases As with
 | nil => exact h.elim
 | cons A Bs => exact ⟨A,Bs,rfl,h.1,h.2⟩
theorem opensAll_nil {As:List SV} (h:opensAll [] As):As = []:=by
 cases As with
 | nil => rfl
 | cons A Bs => exact h.elim
end Go.Proofs.YtdajcfdhcjbmmaaGreatDoor
namespace Go.Proofs.Leaf
open Go Go.RX Go.Proofs
set_option maxRecDepth 10000
theorem ok_plain {J:Job} (h:J.ok):J.plain:=by
 have h1:=h.w0;have h2:=h.w1;have h3:=h.h0;have h4:=h.h1;have h5:=h.b0;have h6:=h.b1;have h7:=h.s0;have h8:=h.s1
 have hg1:=h.g1
 refine ⟨fun n hn => ?_,fun g hg n hn => ?_,fun p hp n hn => ?_⟩
 ·simp only [Job.nums,List.mem_cons,List.not_mem_nil,or_false] at hn
  rcases hn with rfl | rfl | rfl | rfl<;>exact ⟨by omega,by omega⟩
 ·have:=h.gs g hg
  simp only [Ground.nums,List.mem_cons,List.not_mem_nil,or_false] at hn
  rcases hn with rfl | rfl | rfl | rfl<;>exact ⟨by omega,by omega⟩
 ·have:=h.ps p hp
  simp only [Piece.nums,List.mem_cons,List.not_mem_nil,or_false] at hn
  rcases hn with rfl | rfl | rfl<;>exact ⟨by omega,by omega⟩
theorem ok_small [Glob] {J:Job} (h:J.ok):J.small:=(ok_plain h).small (by have:=h.g1;have:=h.p1;omega)
theorem ok_text {J:Job} (h:J.ok):(sealedL (rowsOf J)).length<=180:=by
 have hp:=ok_plain h
 have hg1:=h.g1
 have hp1:=h.p1
 have r0:=rowL_len2 leafW J.nums (fun n hn => hp.n n hn)
 have r1:=flatL_le 19 (J.gs.map groundRow) (fun r hr => by
  obtain ⟨g,hg,rfl⟩:=List.mem_map.1 hr
  have:=rowL_len2 groundW g.nums (fun n hn => hp.g g hg n hn)
  simp only [groundRow,Ground.nums,List.length_cons,List.length_nil] at this ⊢
  have e:groundW.length = 6:=by decide
  omega)
 have r2:=flatL_le 16 (J.ps.map pieceRow) (fun r hr => by
  obtain ⟨p,hp',rfl⟩:=List.mem_map.1 hr
  have:=rowL_len2 (kindW p.turn) p.nums (fun n hn => hp.p p hp' n hn)
  simp only [pieceRow,Piece.nums,List.length_cons,List.length_nil] at this ⊢
  have e:(kindW p.turn).length<=6:=by cases p.turn<;>decide
  omega)
 have r3:=endL_len7 (c:=rowsSum 0 (rowsOf J) % 191) (Nat.mod_lt _ (by decide))
 have e:leafW.length = 4:=by decide
 have e0:flatL (rowsOf J) = rowL leafW J.nums ++ [10] ++ (flatL (J.gs.map groundRow) ++ flatL (J.ps.map pieceRow)):=by
  rw [← flatL_app];simp [rowsOf,flatL]
 have e1:J.nums.length = 4:=rfl
 simp only [List.length_map] at r1 r2
 unfold sealedL
 rw [e0]
 simp only [List.length_append,List.length_cons,List.length_nil]
 omega
end Go.Proofs.Leaf
namespace Go.Proofs.Leaf
open Go Go.RX Go.Proofs Go.RowKit
set_option maxRecDepth 100000
section
theorem c_Print (J:Job) (h:J.ok):Ctr Tryz.prog 45 [J.sv] (.tup [.d (.str (sealedL (rowsOf J))),iS 0]):=by
 have hj:=jobB_iff.2 h
 (refine Ctr.mk (fn:=Tryz.f45) rfl rfl rfl rfl rfl Tryz.results45 ?_;intro _;dsimp only [args,List.toList_toArray])
 (first|refine qE ?_|refine qD ?_);(simp only [go_sem,↓dP,↓reduceIte];with_reducible and_intros;all_goals first|apply qA|exact qC|skip)
 refine Ok.seq ?_
 (first|refine qE ?_|refine qD ?_);(simp only [go_sem,↓dP,↓reduceIte];with_reducible and_intros;all_goals first|apply qA|exact qC|skip)
 (refine AskI.ret (c_isJob J h.held) ?_;simp only [go_sem,↓dP,↓reduceIte];with_reducible and_intros;all_goals first|apply qA|exact qC|skip)
 refine Ok.cond rfl (fun hb => by rw [hj] at hb;cases hb) (fun _ => ?_)
 (refine Ok.skip ?_;(try dsimp only [thenK,blockK,noGotoK]))
 (first|refine qE ?_|refine qD ?_);(simp only [go_sem,↓dP,↓reduceIte];with_reducible and_intros;all_goals first|apply qA|exact qC|skip)
 (refine AskI.ret (c_text J (ok_small h)) ?_;simp only [go_sem,↓dP,↓reduceIte];with_reducible and_intros;all_goals first|apply qA|exact qC|skip)
 (refine Ok.ret ?_;(try dsimp only [thenK,blockK,noGotoK]);simp only [toList_mk,List.toList_toArray,retK_ret,retK_normal,resOK,resV,celV,rowV,frzAll,frzT,subV,subL,go_sem,↓dP,↓reduceIte])
 ((repeat' with_reducible apply And.intro)<;>(first | exact DEq.refl _ | refine DEq.int ?_ | refine DEq.bool ?_ | skip))
theorem c_Print0 (J:Job) (hh:J.held) (hj:jobB J = false):Ctr Tryz.prog 45 [J.sv] (.tup [.d (.str []),iS 2]):=by
 (refine Ctr.mk (fn:=Tryz.f45) rfl rfl rfl rfl rfl Tryz.results45 ?_;intro _;dsimp only [args,List.toList_toArray])
 (first|refine qE ?_|refine qD ?_);(simp only [go_sem,↓dP,↓reduceIte];with_reducible and_intros;all_goals first|apply qA|exact qC|skip)
 refine Ok.seq ?_
 (first|refine qE ?_|refine qD ?_);(simp only [go_sem,↓dP,↓reduceIte];with_reducible and_intros;all_goals first|apply qA|exact qC|skip)
 (refine AskI.ret (c_isJob J hh) ?_;simp only [go_sem,↓dP,↓reduceIte];with_reducible and_intros;all_goals first|apply qA|exact qC|skip)
 refine Ok.cond rfl (fun _ => ?_) (fun hb => by rw [hj] at hb;cases hb)
 (first|refine qE ?_|refine qD ?_);(simp only [go_sem,↓dP,↓reduceIte];with_reducible and_intros;all_goals first|apply qA|exact qC|skip)
 (refine Ok.ret ?_;(try dsimp only [thenK,blockK,noGotoK]);simp only [toList_mk,List.toList_toArray,retK_ret,retK_normal,resOK,resV,celV,rowV,frzAll,frzT,subV,subL,go_sem,↓dP,↓reduceIte])
 ((repeat' with_reducible apply And.intro)<;>(first | exact DEq.refl _ | refine DEq.int ?_ | refine DEq.bool ?_ | skip))
theorem law_Prints (J:Job) (hf:J.far):Ctr Tryz.prog 10 [J.sv] (bS true):=by
 (refine Ctr.mk (fn:=Tryz.f10) rfl rfl rfl rfl rfl Tryz.results10 ?_;intro _;dsimp only [args,List.toList_toArray])
 (first|refine qE ?_|refine qD ?_);(simp only [go_sem,↓dP,↓reduceIte];with_reducible and_intros;all_goals first|apply qA|exact qC|skip)
 refine Ok.seq ?_
 (first|refine qE ?_|refine qD ?_);(simp only [go_sem,↓dP,↓reduceIte];with_reducible and_intros;all_goals first|apply qA|exact qC|skip)
 (refine AskI.ret (c_lshort J hf) ?_;simp only [go_sem,↓dP,↓reduceIte];with_reducible and_intros;all_goals first|apply qA|exact qC|skip)
 refine Ok.cond rfl ?_ ?_
 ·intro hs
  (first|refine qE ?_|refine qD ?_);(simp only [go_sem,↓dP,↓reduceIte];with_reducible and_intros;all_goals first|apply qA|exact qC|skip)
  (refine AskI.ret (c_known) ?_;simp only [go_sem,↓dP,↓reduceIte];with_reducible and_intros;all_goals first|apply qA|exact qC|skip)
  (refine Ok.ret ?_;(try dsimp only [thenK,blockK,noGotoK]);simp only [toList_mk,List.toList_toArray,retK_ret,retK_normal,resOK,resV,celV,rowV,frzAll,frzT,subV,subL,go_sem,↓dP,↓reduceIte])
  ((repeat' with_reducible apply And.intro)<;>(first | exact DEq.refl _ | refine DEq.int ?_ | refine DEq.bool ?_ | skip))
 intro hs
 have hh:=short_held (by simpa using hs)
 (refine Ok.skip ?_;(try dsimp only [thenK,blockK,noGotoK]))
 cases hj:jobB J
 ·(first|refine qE ?_|refine qD ?_);(simp only [go_sem,↓dP,↓reduceIte];with_reducible and_intros;all_goals first|apply qA|exact qC|skip)
  (refine AskI.ret (c_Print0 J hh hj) ?_;simp only [go_sem,↓dP,↓reduceIte];with_reducible and_intros;all_goals first|apply qA|exact qC|skip)
  refine Ok.seq ?_
  (first|refine qE ?_|refine qD ?_);(simp only [go_sem,↓dP,↓reduceIte];with_reducible and_intros;all_goals first|apply qA|exact qC|skip)
  (refine AskI.ret (c_rJob J hh) ?_;simp only [go_sem,↓dP,↓reduceIte];with_reducible and_intros;all_goals first|apply qA|exact qC|skip)
  refine Ok.cond rfl (fun _ => ?_) (fun hb => by rw [hj] at hb;cases hb)
  (first|refine qE ?_|refine qD ?_);(simp only [go_sem,↓dP,↓reduceIte];with_reducible and_intros;all_goals first|apply qA|exact qC|skip)
  (refine AskGI.ret (fun _ => c_known) ?_;simp only [go_sem,↓dP,↓reduceIte];with_reducible and_intros;all_goals first|apply qA|exact qC|skip)
  (refine Ok.ret ?_;(try dsimp only [thenK,blockK,noGotoK]);simp only [toList_mk,List.toList_toArray,retK_ret,retK_normal,resOK,resV,celV,rowV,frzAll,frzT,subV,subL,go_sem,↓dP,↓reduceIte])
  ((repeat' with_reducible apply And.intro)<;>(first | exact DEq.refl _ | refine DEq.int ?_ | refine DEq.bool ?_ | skip))
 ·have h:=jobB_iff.1 hj
  have ht:=ok_text h
  have hr:=c_Read_ok _ J ((parsed_walk _ ht).1 J (parse_text (ok_plain h))) ht h.held hj
  have hp:=c_rPrint J (ok_small h)
  (first|refine qE ?_|refine qD ?_);(simp only [go_sem,↓dP,↓reduceIte];with_reducible and_intros;all_goals first|apply qA|exact qC|skip)
  (refine AskI.ret (c_Print J h) ?_;simp only [go_sem,↓dP,↓reduceIte];with_reducible and_intros;all_goals first|apply qA|exact qC|skip)
  refine Ok.seq ?_
  (first|refine qE ?_|refine qD ?_);(simp only [go_sem,↓dP,↓reduceIte];with_reducible and_intros;all_goals first|apply qA|exact qC|skip)
  (refine AskI.ret (c_rJob J hh) ?_;simp only [go_sem,↓dP,↓reduceIte];with_reducible and_intros;all_goals first|apply qA|exact qC|skip)
  refine Ok.cond rfl (fun hb => by rw [hj] at hb;cases hb) (fun _ => ?_)
  (refine Ok.skip ?_;(try dsimp only [thenK,blockK,noGotoK]))
  (first|refine qE ?_|refine qD ?_);(simp only [go_sem,↓dP,↓reduceIte];with_reducible and_intros;all_goals first|apply qA|exact qC|skip)
  (refine AskI.ret (hr) ?_;simp only [go_sem,↓dP,↓reduceIte];with_reducible and_intros;all_goals first|apply qA|exact qC|skip)
  (first|refine qE ?_|refine qD ?_);(simp only [go_sem,↓dP,↓reduceIte];with_reducible and_intros;all_goals first|apply qA|exact qC|skip)
  (refine AskGI.ret (fun _ => hp) ?_;simp only [go_sem,↓dP,↓reduceIte];with_reducible and_intros;all_goals first|apply qA|exact qC|skip)
  (refine AskGI.ret (fun _ => c_rSameJobs J h.held) ?_;simp only [go_sem,↓dP,↓reduceIte];with_reducible and_intros;all_goals first|apply qA|exact qC|skip)
  (refine AskGI.ret (fun _ => c_known) ?_;simp only [go_sem,↓dP,↓reduceIte];with_reducible and_intros;all_goals first|apply qA|exact qC|skip)
  (refine Ok.ret ?_;(try dsimp only [thenK,blockK,noGotoK]);simp only [toList_mk,List.toList_toArray,retK_ret,retK_normal,resOK,resV,celV,rowV,frzAll,frzT,subV,subL,go_sem,↓dP,↓reduceIte])
  ((repeat' with_reducible apply And.intro)<;>(first | exact DEq.refl _ | refine DEq.int ?_ | refine DEq.bool ?_ | skip))
end
end Go.Proofs.Leaf
namespace Go.Proofs.YtdajcfdhcjbmmaaGreatDoor
open Go Go.RX Go.Proofs.Leaf Go.RowKit Go.ChangeShapes Go.WideShapes Go.ChangeAt
set_option maxRecDepth 100000
theorem leafPrints_ctr (As:List SV) (h:opensAll [25] As):Ctr Tryz.prog 10 As (bS true):=by
 obtain ⟨_,A1,rfl,h0,h⟩:=opensAll_cons h
 obtain rfl:=opensAll_nil h
 obtain ⟨x0,rfl,y0⟩:=opens_job h0
 exact law_Prints x0 y0
theorem leafPrints_facts:joinedFacts Tryz.prog 10 Tryz.f10 Rows.leafPrintsSpec Rows.leafPrintsRow = true:=by unfold joinedFacts;rw [enter_is,final_is,make_is];kernel_rfl
theorem leafPrints_lifted (os:Os) (started:os.Started) (H:Type) (enc:TypeId×Value->H) :
  ReturnsInHanded {} Tryz.checked os 10 .any (fun w args => (Rows.leafPrintsSpec.pre enc Tryz.prog Tryz.f10 [] false w args/\laidMetH Tryz.prog laid5 w)/\sizedMet enc Tryz.prog Tryz.f10 (OpenSpec.ofChange Rows.leafPrintsSpec) false w args)
   (Rows.leafPrintsSpec.post enc Tryz.prog Tryz.f10 false true false false):=by
 refine law_ctr (ts:=[25]) Rows.leafPrintsSpec rfl started (by kernel_rfl) Tryz.func10 (by kernel_rfl) (by rw [Tryz.params10]) (by unfold argT;decide)
  (fun ds hd => ?_)
  (ChangeSpec.witness_shaped (enc:=enc) (C:=Tryz.checked) (os:=os) (X:=fun w _ => laidMetH Tryz.prog laid5 w) false (World.laidAll Tryz.prog os laid5) #[zJ] 8 (World.laidAll_os _ _ _)
   (World.shaped_of_ZipB (by kernel_rfl) (by kernel_rfl)) (by kernel_rfl) (by kernel_rfl) (by kernel_rfl)
   (by rw [MakeChecks.laidMetH_plain _ _ _ (by kernel_rfl)];exact laidMet_laidAll _ (by kernel_rfl) (by kernel_rfl))) leafPrints_ctr
 match ds,hd with
 | [d0],_ => rfl
theorem leafPrints_row:Rows.LeafPrintsSaid :=
 OpenClaim.holds_of_wide 10 Tryz.f10 rfl rfl rfl rfl rfl rfl rfl ⟨rfl,rfl,rfl,rfl,rfl⟩ rfl rfl rfl rfl rfl (by kernel_rfl) Tryz.func10 leafPrints_facts (of_decide_eq_true (by kernel_rfl))
  (by unfold Func.isWrapper;first | (rw [if_pos (by decide +kernel)];kernel_rfl) | (rw [if_neg (by decide +kernel)];exact ⟨rfl,rfl⟩)) (fun os started H enc _ => leafPrints_lifted os started H enc)
theorem leafPrints_card:Rows.LeafPrintsCardSaid :=
 Claim7.holds_tied_plain_at .later [] [.data,.data,.data,.data,.pinned] true (true,"9e87e616c4e1775f9d0f73ad686290748eaae9f5c03add0b1bcc61ba8396e555") true leafPrints_row
  (fun _ h => by cases h) (by kernel_rfl) (fun _ h => by cases h) leafPrints_row_tie rfl ⟨rfl,rfl⟩ main_is rfl
  (fun f fn hf hfn => by
   obtain rfl:f = 10:=Option.some.inj ((show Tryz.prog.funcNamed "mahlstick/mahlsticklaw04.LeafPrints" = some 10 by kernel_rfl).symm.trans hf) |>.symm
   obtain rfl:fn = Tryz.f10:=(Option.some.inj (Tryz.func10.symm.trans hfn)).symm
   exact ⟨by kernel_rfl,fun j t ht => by
    rw [Tryz.params10] at ht
    exact law_stand (ts:=[25]) (by unfold argT;decide) (by simpa using Array.mem_of_getElem? ht)⟩) (by kernel_rfl)
end Go.Proofs.YtdajcfdhcjbmmaaGreatDoor
