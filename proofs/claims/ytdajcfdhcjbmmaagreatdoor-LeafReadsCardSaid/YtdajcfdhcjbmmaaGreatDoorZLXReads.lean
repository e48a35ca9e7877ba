/-
  what is read from a text: LeafReads returns true at every input, and leaves it as it was.
  No condition beside those that the statement itself names.
-/
import Derived.Test.YtdajcfdhcjbmmaaGreatDoorB30
import Derived.Laws.StructEq
import Derived.WalkKit
import Derived.Defers
import Derived.Recover
import Derived.Lib.Join
import Derived.Lib.AppendIntMem
import Derived.Lib.SplitLaws
import Derived.Lib.ItoaLen
import Derived.ChangeMaps5
set_option linter.all false
namespace Go.Proofs.Leaf
open Go Go.RX Go.Proofs
set_option maxRecDepth 10000
variable [Glob]
theorem c_rin (n lo hi:Int):Ctr Tryz.prog 50 [iS n,iS lo,iS hi] (bS (inB n lo hi)):=by
 (refine Ctr.mk (fn:=Tryz.f50) rfl rfl rfl rfl rfl Tryz.results50 ?_;intro _;dsimp only [args,List.toList_toArray])
 (first|refine qE ?_|refine qD ?_);(simp only [go_sem,↓dP,↓reduceIte];with_reducible and_intros;all_goals first|apply qA|exact qC|skip)
 (first|refine qE ?_|refine qD ?_);(simp only [go_sem,↓dP,↓reduceIte];with_reducible and_intros;all_goals first|apply qA|exact qC|skip)
 (refine Ok.ret ?_;(try dsimp only [thenK,blockK,noGotoK]);simp only [toList_mk,List.toList_toArray,retK_ret,retK_normal,resOK,resV,celV,rowV,frzAll,frzT,subV,subL,go_sem,↓dP,↓reduceIte])
 exact .refl _
end Go.Proofs.Leaf
namespace Go.Proofs.Leaf
open Go Go.RX Go.Proofs
set_option maxRecDepth 10000
variable [Glob]
theorem c_rJob (J:Job) (hh:J.held):Ctr Tryz.prog 26 [J.sv] (bS (jobB J)):=by
 have hh1:=hh.1
 have hh2:=hh.2
 (refine Ctr.mk (fn:=Tryz.f26) rfl rfl rfl rfl rfl Tryz.results26 ?_;intro _;dsimp only [args,List.toList_toArray])
 (first|refine qE ?_|refine qD ?_);(simp only [go_sem,↓dP,↓reduceIte];with_reducible and_intros;all_goals first|apply qA|exact qC|skip)
 refine Ok.seq ?_
 (first|refine qE ?_|refine qD ?_);(simp only [go_sem,↓dP,↓reduceIte];with_reducible and_intros;all_goals first|apply qA|exact qC|skip)
 (refine AskI.ret (c_rin _ _ _) ?_;simp only [go_sem,↓dP,↓reduceIte];with_reducible and_intros;all_goals first|apply qA|exact qC|skip)
 (refine AskGI.ret (fun _ => c_rin _ _ _) ?_;simp only [go_sem,↓dP,↓reduceIte];with_reducible and_intros;all_goals first|apply qA|exact qC|skip)
 (refine AskGI.ret (fun _ => c_rin _ _ _) ?_;simp only [go_sem,↓dP,↓reduceIte];with_reducible and_intros;all_goals first|apply qA|exact qC|skip)
 ·intro h
  have:inB J.book 1 25 = true:=by revert h;cases inB J.book 1 25<;>simp
  rw [inB_iff] at this
  exact R64 (by omega) (by omega)
 (refine AskGI.ret (fun _ => c_rin _ _ _) ?_;simp only [go_sem,↓dP,↓reduceIte];with_reducible and_intros;all_goals first|apply qA|exact qC|skip)
 (refine AskGI.ret (fun _ => c_rin _ _ _) ?_;simp only [go_sem,↓dP,↓reduceIte];with_reducible and_intros;all_goals first|apply qA|exact qC|skip)
 (refine AskGI.ret (fun _ => c_rin _ _ _) ?_;simp only [go_sem,↓dP,↓reduceIte];with_reducible and_intros;all_goals first|apply qA|exact qC|skip)
 refine Ok.cond rfl ?_ ?_
 ·intro hb
  (first|refine qE ?_|refine qD ?_);(simp only [go_sem,↓dP,↓reduceIte];with_reducible and_intros;all_goals first|apply qA|exact qC|skip)
  (refine Ok.ret ?_;(try dsimp only [thenK,blockK,noGotoK]);simp only [toList_mk,List.toList_toArray,retK_ret,retK_normal,resOK,resV,celV,rowV,frzAll,frzT,subV,subL,go_sem,↓dP,↓reduceIte])
  refine DEq.bool ?_
  have:headB J = false:=by
   revert hb
   unfold headB
   cases inB J.wide 1 6<;>cases inB J.high 1 6<;>cases inB J.book 1 25<;>cases inB J.spoilt 0 (J.book - 1)<;>cases inB J.gs.length 1 3<;>cases inB J.ps.length 1 5<;>simp
  simp [jobB,this]
 intro hb
 have hhead:headB J = true:=by
  revert hb
  unfold headB
  cases inB J.wide 1 6<;>cases inB J.high 1 6<;>cases inB J.book 1 25<;>cases inB J.spoilt 0 (J.book - 1)<;>cases inB J.gs.length 1 3<;>cases inB J.ps.length 1 5<;>simp
 (refine Ok.skip ?_;(try dsimp only [thenK,blockK,noGotoK]))
 refine Ok.seq ?_
 (first|refine qE ?_|refine qD ?_);(simp only [go_sem,↓dP,↓reduceIte];with_reducible and_intros;all_goals first|apply qA|exact qC|skip)
 refine Ok.block ?_
 refine Ok.count J.gs.length (fun i => ⟨[(1,.p 0 0),(3,iS i)],[jobC J],[]⟩) (fun i => ∀ x∈J.gs.take i,(!groundB x) = false) ⟨fun x hx => by simp at hx,?_⟩ ?_ ?_
 ·(refine Sub.of ([0]) ([]) ?_ ?_ ?_ rfl rfl<;>simp only [subB,subB1,subT,subT1,newT,subE,subV,subL,go_sem,↓dP,↓reduceIte]<;>(try (repeat' with_reducible apply And.intro))<;>(try first | exact DEq.refl _ | refine DEq.int ?_ | refine DEq.bool ?_ | omega))
 ·intro i hi h0
  refine Ok.seq ?_;((first|refine qE ?_|refine qD ?_);(simp only [go_sem,↓dP,↓reduceIte];with_reducible and_intros;all_goals first|apply qA|exact qC|skip));refine Ok.cond rfl (fun _ => ?_) (fun hb => by simp at hb;omega);(refine Ok.skip ?_;(try dsimp only [thenK,blockK,noGotoK]));refine Ok.seq ?_;refine Ok.block ?_
  (first|refine qE ?_|refine qD ?_);(simp only [go_sem,↓dP,↓reduceIte];with_reducible and_intros;all_goals first|apply qA|exact qC|skip)
  (first|refine qE ?_|refine qD ?_);(simp only [go_sem,↓dP,↓reduceIte];with_reducible and_intros;all_goals first|apply qA|exact qC|skip)
  (refine AskI.ret (c_rin _ _ _) ?_;simp only [go_sem,↓dP,↓reduceIte];with_reducible and_intros;all_goals first|apply qA|exact qC|skip)
  (refine AskGI.ret (fun _ => c_rin _ _ _) ?_;simp only [go_sem,↓dP,↓reduceIte];with_reducible and_intros;all_goals first|apply qA|exact qC|skip)
  (refine AskGI.ret (fun _ => c_rin _ _ _) ?_;simp only [go_sem,↓dP,↓reduceIte];with_reducible and_intros;all_goals first|apply qA|exact qC|skip)
  (refine AskGI.ret (fun _ => c_rin _ _ _) ?_;simp only [go_sem,↓dP,↓reduceIte];with_reducible and_intros;all_goals first|apply qA|exact qC|skip)
  have hg:groundB (J.gs.getD i default) = (inB (J.gs.getD i default).rl 0 12 && inB (J.gs.getD i default).rh (J.gs.getD i default).rl 12 && inB (J.gs.getD i default).ll (J.gs.getD i default).rh 12 && inB (J.gs.getD i default).lh (J.gs.getD i default).ll 12):=rfl
  refine Ok.cond rfl ?_ ?_
  ·intro hx
   have hx':(!groundB (J.gs.getD i default)) = true:=by
    rw [hg]
    revert hx
    cases inB (J.gs.getD i default).rl 0 12<;>cases inB (J.gs.getD i default).rh (J.gs.getD i default).rl 12<;>cases inB (J.gs.getD i default).ll (J.gs.getD i default).rh 12<;>cases inB (J.gs.getD i default).lh (J.gs.getD i default).ll 12<;>simp
   (first|refine qE ?_|refine qD ?_);(simp only [go_sem,↓dP,↓reduceIte];with_reducible and_intros;all_goals first|apply qA|exact qC|skip)
   (refine Ok.ret ?_;(try dsimp only [thenK,blockK,noGotoK]);simp only [toList_mk,List.toList_toArray,retK_ret,retK_normal,resOK,resV,celV,rowV,frzAll,frzT,subV,subL,go_sem,↓dP,↓reduceIte])
   refine DEq.bool ?_
   have:J.gs.any (fun g => !groundB g) = true:=List.any_eq_true.2 ⟨_,getD_mem hi,hx'⟩
   rw [jobB,all_any,this];simp
  ·intro hx
   have hx':(!groundB (J.gs.getD i default)) = false:=by
    rw [hg]
    revert hx
    cases inB (J.gs.getD i default).rl 0 12<;>cases inB (J.gs.getD i default).rh (J.gs.getD i default).rl 12<;>cases inB (J.gs.getD i default).ll (J.gs.getD i default).rh 12<;>cases inB (J.gs.getD i default).lh (J.gs.getD i default).ll 12<;>simp
   (refine Ok.skip ?_;(try dsimp only [thenK,blockK,noGotoK]))
   (first|refine qE ?_|refine qD ?_);(simp only [go_sem,↓dP,↓reduceIte];with_reducible and_intros;all_goals first|apply qA|exact qC|skip)
   (try dsimp only [thenK,blockK,noGotoK])
   refine ⟨no_step (q:=fun g => !groundB g) hi h0 hx',?_⟩
   (refine Sub.of ([0]) ([]) ?_ ?_ ?_ rfl rfl<;>simp only [subB,subB1,subT,subT1,newT,subE,subV,subL,go_sem,↓dP,↓reduceIte]<;>(try (repeat' with_reducible apply And.intro))<;>(try first | exact DEq.refl _ | refine DEq.int ?_ | refine DEq.bool ?_ | omega))
 intro h0
 have hgs:J.gs.any (fun g => !groundB g) = false:=List.any_eq_false.2 (fun x hx => by simp [h0 x (by simpa using hx)])
 refine Ok.seq ?_;((first|refine qE ?_|refine qD ?_);(simp only [go_sem,↓dP,↓reduceIte];with_reducible and_intros;all_goals first|apply qA|exact qC|skip));refine Ok.cond rfl (fun hb => by simp at hb) (fun _ => ?_);(refine Ok.exit ?_;simp only [thenK_exit,blockK_exit,noGotoK_exit,thenK_normal,blockK_normal,noGotoK_normal,↓reduceIte,Nat.reduceEqDiff])
 refine Ok.seq ?_
 (first|refine qE ?_|refine qD ?_);(simp only [go_sem,↓dP,↓reduceIte];with_reducible and_intros;all_goals first|apply qA|exact qC|skip)
 refine Ok.block ?_
 refine Ok.count J.ps.length (fun i => ⟨[(1,.p 0 0),(5,iS i)],[jobC J],[]⟩) (fun i => ∀ x∈J.ps.take i,(!pieceB J.gs.length x) = false) ⟨fun x hx => by simp at hx,?_⟩ ?_ ?_
 ·(refine Sub.of ([0]) ([]) ?_ ?_ ?_ rfl rfl<;>simp only [subB,subB1,subT,subT1,newT,subE,subV,subL,go_sem,↓dP,↓reduceIte]<;>(try (repeat' with_reducible apply And.intro))<;>(try first | exact DEq.refl _ | refine DEq.int ?_ | refine DEq.bool ?_ | omega))
 ·intro i hi h0
  refine Ok.seq ?_;((first|refine qE ?_|refine qD ?_);(simp only [go_sem,↓dP,↓reduceIte];with_reducible and_intros;all_goals first|apply qA|exact qC|skip));refine Ok.cond rfl (fun _ => ?_) (fun hb => by simp at hb;omega);(refine Ok.skip ?_;(try dsimp only [thenK,blockK,noGotoK]));refine Ok.seq ?_;refine Ok.block ?_
  (first|refine qE ?_|refine qD ?_);(simp only [go_sem,↓dP,↓reduceIte];with_reducible and_intros;all_goals first|apply qA|exact qC|skip)
  (first|refine qE ?_|refine qD ?_);(simp only [go_sem,↓dP,↓reduceIte];with_reducible and_intros;all_goals first|apply qA|exact qC|skip)
  (refine AskI.ret (c_rin _ _ _) ?_;simp only [go_sem,↓dP,↓reduceIte];with_reducible and_intros;all_goals first|apply qA|exact qC|skip)
  (refine AskGI.ret (fun _ => c_rin _ _ _) ?_;simp only [go_sem,↓dP,↓reduceIte];with_reducible and_intros;all_goals first|apply qA|exact qC|skip)
  (refine AskGI.ret (fun _ => c_rin _ _ _) ?_;simp only [go_sem,↓dP,↓reduceIte];with_reducible and_intros;all_goals first|apply qA|exact qC|skip)
  have hg:pieceB J.gs.length (J.ps.getD i default) = (inB (J.ps.getD i default).w 1 6 && inB (J.ps.getD i default).h 1 6 && inB (J.ps.getD i default).g 0 (J.gs.length - 1)):=rfl
  refine Ok.cond rfl ?_ ?_
  ·intro hx
   have hx':(!pieceB J.gs.length (J.ps.getD i default)) = true:=by
    rw [hg]
    revert hx
    cases inB (J.ps.getD i default).w 1 6<;>cases inB (J.ps.getD i default).h 1 6<;>cases inB (J.ps.getD i default).g 0 (J.gs.length - 1)<;>simp
   (first|refine qE ?_|refine qD ?_);(simp only [go_sem,↓dP,↓reduceIte];with_reducible and_intros;all_goals first|apply qA|exact qC|skip)
   (refine Ok.ret ?_;(try dsimp only [thenK,blockK,noGotoK]);simp only [toList_mk,List.toList_toArray,retK_ret,retK_normal,resOK,resV,celV,rowV,frzAll,frzT,subV,subL,go_sem,↓dP,↓reduceIte])
   refine DEq.bool ?_
   have:J.ps.any (fun p => !pieceB J.gs.length p) = true:=List.any_eq_true.2 ⟨_,getD_mem hi,hx'⟩
   rw [jobB,all_any J.ps,this];simp
  ·intro hx
   have hx':(!pieceB J.gs.length (J.ps.getD i default)) = false:=by
    rw [hg]
    revert hx
    cases inB (J.ps.getD i default).w 1 6<;>cases inB (J.ps.getD i default).h 1 6<;>cases inB (J.ps.getD i default).g 0 (J.gs.length - 1)<;>simp
   (refine Ok.skip ?_;(try dsimp only [thenK,blockK,noGotoK]))
   (first|refine qE ?_|refine qD ?_);(simp only [go_sem,↓dP,↓reduceIte];with_reducible and_intros;all_goals first|apply qA|exact qC|skip)
   (try dsimp only [thenK,blockK,noGotoK])
   refine ⟨no_step (q:=fun p => !pieceB J.gs.length p) hi h0 hx',?_⟩
   (refine Sub.of ([0]) ([]) ?_ ?_ ?_ rfl rfl<;>simp only [subB,subB1,subT,subT1,newT,subE,subV,subL,go_sem,↓dP,↓reduceIte]<;>(try (repeat' with_reducible apply And.intro))<;>(try first | exact DEq.refl _ | refine DEq.int ?_ | refine DEq.bool ?_ | omega))
 ·intro h0
  have hps:J.ps.any (fun p => !pieceB J.gs.length p) = false:=List.any_eq_false.2 (fun x hx => by simp [h0 x (by simpa using hx)])
  refine Ok.seq ?_;((first|refine qE ?_|refine qD ?_);(simp only [go_sem,↓dP,↓reduceIte];with_reducible and_intros;all_goals first|apply qA|exact qC|skip));refine Ok.cond rfl (fun hb => by simp at hb) (fun _ => ?_);(refine Ok.exit ?_;simp only [thenK_exit,blockK_exit,noGotoK_exit,thenK_normal,blockK_normal,noGotoK_normal,↓reduceIte,Nat.reduceEqDiff])
  (first|refine qE ?_|refine qD ?_);(simp only [go_sem,↓dP,↓reduceIte];with_reducible and_intros;all_goals first|apply qA|exact qC|skip)
  (refine Ok.ret ?_;(try dsimp only [thenK,blockK,noGotoK]);simp only [toList_mk,List.toList_toArray,retK_ret,retK_normal,resOK,resV,celV,rowV,frzAll,frzT,subV,subL,go_sem,↓dP,↓reduceIte])
  refine DEq.bool ?_
  rw [jobB,hhead,all_any,all_any,hgs,hps]
  rfl
end Go.Proofs.Leaf
namespace Go.Proofs.Leaf
open Go Go.RX Go.Proofs Go.RowKit
attribute [local go_sem] Oper.semAt_some
set_option maxRecDepth 100000
theorem eqVs_bool {u:Value} {us vs:List Value} {ks:List Bool} {b:Bool} (h:(u :: us).map isB = true :: ks) (he:eqVs (u :: us) vs = some b):∃ x y vs' c,u = .bool x/\vs = .bool y :: vs'/\us.map isB = ks/\eqVs us vs' = some c/\b = ((x == y) && c):=by
 obtain ⟨v,vs',rfl⟩:=eqVs_c he
 simp only [List.map_cons,List.cons.injEq] at h
 rcases eqVs_cons he with ⟨k,x,y,c,rfl,rfl,h3,h4⟩ | ⟨x,y,c,rfl,rfl,h3,h4⟩
 ·simp [isB] at h
 ·exact ⟨x,y,vs',c,rfl,rfl,h.2,h3,h4⟩
theorem four_ints {us vs:Array Value} {b:Bool} (h:us.toList.map isB = [false,false,false,false]) (he:eqVs us.toList vs.toList = some b) :
  ∃ k0 k1 k2 k3 x0 x1 x2 x3 y0 y1 y2 y3,us = #[.int k0 x0,.int k1 x1,.int k2 x2,.int k3 x3]/\vs = #[.int k0 y0,.int k1 y1,.int k2 y2,.int k3 y3]/\b = ((x0 == y0) && ((x1 == y1) && ((x2 == y2) && (x3 == y3)))):=by
 obtain ⟨us⟩:=us
 obtain ⟨vs⟩:=vs
 simp only at h he
 have hl:us.length = 4:=by simpa using congrArg List.length h
 match us,hl,h,he with
 | [u0,u1,u2,u3],_,h,he =>
  obtain ⟨k0,x0,y0,vs1,c1,rfl,rfl,h1,he1,rfl⟩:=eqVs_int h he
  obtain ⟨k1,x1,y1,vs2,c2,rfl,rfl,h2,he2,rfl⟩:=eqVs_int h1 he1
  obtain ⟨k2,x2,y2,vs3,c3,rfl,rfl,h3,he3,rfl⟩:=eqVs_int h2 he2
  obtain ⟨k3,x3,y3,vs4,c4,rfl,rfl,h4,he4,rfl⟩:=eqVs_int h3 he3
  obtain ⟨rfl,rfl⟩:=eqVs_nil he4
  exact ⟨k0,k1,k2,k3,x0,x1,x2,x3,y0,y1,y2,y3,rfl,rfl,by simp⟩
theorem piece_cells {us vs:Array Value} {b:Bool} (h:us.toList.map isB = [false,false,true,false]) (he:eqVs us.toList vs.toList = some b) :
  ∃ k0 k1 k3 x0 x1 x2 x3 y0 y1 y2 y3,us = #[.int k0 x0,.int k1 x1,.bool x2,.int k3 x3]/\vs = #[.int k0 y0,.int k1 y1,.bool y2,.int k3 y3]/\b = ((x0 == y0) && ((x1 == y1) && ((x2 == y2) && (x3 == y3)))):=by
 obtain ⟨us⟩:=us
 obtain ⟨vs⟩:=vs
 simp only at h he
 have hl:us.length = 4:=by simpa using congrArg List.length h
 match us,hl,h,he with
 | [u0,u1,u2,u3],_,h,he =>
  obtain ⟨k0,x0,y0,vs1,c1,rfl,rfl,h1,he1,rfl⟩:=eqVs_int h he
  obtain ⟨k1,x1,y1,vs2,c2,rfl,rfl,h2,he2,rfl⟩:=eqVs_int h1 he1
  obtain ⟨x2,y2,vs3,c3,rfl,rfl,h3,he3,rfl⟩:=eqVs_bool h2 he2
  obtain ⟨k3,x3,y3,vs4,c4,rfl,rfl,h4,he4,rfl⟩:=eqVs_int h3 he3
  obtain ⟨rfl,rfl⟩:=eqVs_nil he4
  exact ⟨k0,k1,k3,x0,x1,x2,x3,y0,y1,y2,y3,rfl,rfl,by simp⟩
theorem stEqPiece:StEq Tryz.prog 54 [false,false,true,false]:=by
 intro us vs w b x y h he
 obtain ⟨k0,k1,k3,x0,x1,x2,x3,y0,y1,y2,y3,rfl,rfl,rfl⟩:=piece_cells h he
 have u3:=Tryz.underlying3
 have a3:=Tryz.isAgg3
 have z3:=Tryz.sizeOf3
 have u4:=Tryz.underlying4
 have a4:=Tryz.isAgg4
 have z4:=Tryz.sizeOf4
 have hS:Tryz.prog.underlying 54 = some (.struct (Tryz.prog.fieldsOf 54)):=by kernel_rfl
 have hp:Tryz.prog.stoodInHeld 54 = false:=by kernel_rfl
 have hg:Tryz.prog.eqGuardType Tryz.prog.depth 54 = false:=by kernel_rfl
 have heq:(Op.equalIn 10000 54 (.agg #[.int k0 x0,.int k1 x1,.bool x2,.int k3 x3]) (.agg #[.int k0 y0,.int k1 y1,.bool y2,.int k3 y3])).run Tryz.prog w = .ok ((x0 == y0) && ((x1 == y1) && ((x2 == y2) && (x3 == y3)))) w:=by
  rw [show (10000:Nat) = 9999 + 1 from rfl,run_equalIn_agg w 9999 54 _ _ hS hp]
  simp only [Program.fieldsOf,Tryz.underlying54]
  go_simp
  by_cases h1:x0 = y0<;>by_cases h2:x1 = y1<;>by_cases h3:x2 = y2<;>by_cases h4:x3 = y3<;>simp [h1,h2,h3,h4]
 refine ⟨?_,?_⟩
 ·simp only [Sem.run_bind,run_eqGuard_agg w _ _ _ _ _ _ hg,Result.andThen_ok,run_eql_struct,heq]
 ·simp only [Sem.run_bind,run_eqGuard_agg w _ _ _ _ _ _ hg,Result.andThen_ok,run_neq_struct,heq]
theorem stEqGround:StEq Tryz.prog 56 [false,false,false,false]:=by
 intro us vs w b x y h he
 obtain ⟨k0,k1,k2,k3,x0,x1,x2,x3,y0,y1,y2,y3,rfl,rfl,rfl⟩:=four_ints h he
 have u3:=Tryz.underlying3
 have a3:=Tryz.isAgg3
 have z3:=Tryz.sizeOf3
 have a23:=Tryz.isAgg38
 have z23:=Tryz.sizeOf38
 have hS3:Tryz.prog.underlying 38 = some (.struct (Tryz.prog.fieldsOf 38)):=by kernel_rfl
 have hp3:Tryz.prog.stoodInHeld 38 = false:=by kernel_rfl
 have hS:Tryz.prog.underlying 56 = some (.struct (Tryz.prog.fieldsOf 56)):=by kernel_rfl
 have hp:Tryz.prog.stoodInHeld 56 = false:=by kernel_rfl
 have hg:Tryz.prog.eqGuardType Tryz.prog.depth 56 = false:=by kernel_rfl
 have hgen:∀ d,(Op.equalIn (d + 1 + 1 + 1) 56 (.agg #[.int k0 x0,.int k1 x1,.int k2 x2,.int k3 x3]) (.agg #[.int k0 y0,.int k1 y1,.int k2 y2,.int k3 y3])).run Tryz.prog w = .ok ((x0 == y0) && ((x1 == y1) && ((x2 == y2) && (x3 == y3)))) w:=by
  intro d
  rw [run_equalIn_agg w (d + 1 + 1) 56 _ _ hS hp]
  simp only [Program.fieldsOf,Tryz.underlying56]
  have h3:∀ a c a' c' k l,(Op.equalIn (d + 1 + 1) 38 (.agg #[.int k a,.int l c]) (.agg #[.int k a',.int l c'])).run Tryz.prog w = .ok ((a == a') && (c == c')) w:=by
   intro a c a' c' k l
   rw [run_equalIn_agg w (d + 1) 38 _ _ hS3 hp3]
   simp only [Program.fieldsOf,Tryz.underlying38]
   go_simp
   by_cases h1:a = a'<;>by_cases h2:c = c'<;>simp [h1,h2]
  clear hS3 hp3
  go_simp
  by_cases h1:x0 = y0<;>by_cases h2:x1 = y1<;>by_cases h3:x2 = y2<;>by_cases h4:x3 = y3<;>simp [h1,h2,h3,h4]
 have heq:(Op.equalIn 10000 56 (.agg #[.int k0 x0,.int k1 x1,.int k2 x2,.int k3 x3]) (.agg #[.int k0 y0,.int k1 y1,.int k2 y2,.int k3 y3])).run Tryz.prog w = .ok ((x0 == y0) && ((x1 == y1) && ((x2 == y2) && (x3 == y3)))) w:=hgen 9997
 refine ⟨?_,?_⟩
 ·simp only [Sem.run_bind,run_eqGuard_agg w _ _ _ _ _ _ hg,Result.andThen_ok,run_eql_struct,heq]
 ·simp only [Sem.run_bind,run_eqGuard_agg w _ _ _ _ _ _ hg,Result.andThen_ok,run_neq_struct,heq]
end Go.Proofs.Leaf
namespace Go.Proofs.Leaf
open Go Go.RX Go.Proofs
set_option maxRecDepth 10000
variable [Glob]
theorem c_rSameJobs (J:Job) (h:J.held):Ctr Tryz.prog 48 [J.sv,J.sv] (bS true):=by
 have h1:=h.1;have h2:=h.2
 (refine Ctr.mk (fn:=Tryz.f48) rfl rfl rfl rfl rfl Tryz.results48 ?_;intro _;dsimp only [args,List.toList_toArray])
 (first|refine qE ?_|refine qD ?_);(simp only [go_sem,↓dP,↓reduceIte];with_reducible and_intros;all_goals first|apply qA|exact qC|skip)
 refine Ok.seq ?_
 (first|refine qE ?_|refine qD ?_);(simp only [go_sem,↓dP,↓reduceIte];with_reducible and_intros;all_goals first|apply qA|exact qC|skip)
 refine Ok.cond rfl ?_ ?_
 ·intro hb
  simp at hb
 intro _
 (refine Ok.skip ?_;(try dsimp only [thenK,blockK,noGotoK]))
 refine Ok.seq ?_
 (first|refine qE ?_|refine qD ?_);(simp only [go_sem,↓dP,↓reduceIte];with_reducible and_intros;all_goals first|apply qA|exact qC|skip)
 refine Ok.block ?_
 refine Ok.count J.gs.length (fun i => ⟨[(2,.p 0 0),(3,.p 1 0),(5,iS i)],[jobC J,jobC J],[]⟩) (fun _ => True) ⟨trivial,?_⟩ ?_ ?_
 ·(refine Sub.of ([0,1]) ([]) ?_ ?_ ?_ rfl rfl<;>simp only [subB,subB1,subT,subT1,newT,subE,subV,subL,go_sem,↓dP,↓reduceIte]<;>(try (repeat' with_reducible apply And.intro))<;>(try first | exact DEq.refl _ | refine DEq.int ?_ | refine DEq.bool ?_ | omega))
 ·intro i hi _
  refine Ok.seq ?_;((first|refine qE ?_|refine qD ?_);(simp only [go_sem,↓dP,↓reduceIte];with_reducible and_intros;all_goals first|apply qA|exact qC|skip));refine Ok.cond rfl (fun _ => ?_) (fun hb => by simp at hb;omega);(refine Ok.skip ?_;(try dsimp only [thenK,blockK,noGotoK]));refine Ok.seq ?_;refine Ok.block ?_
  (first|refine qE ?_|refine qD ?_);(simp only [go_sem,↓dP,↓reduceIte];with_reducible and_intros;all_goals first|apply qA|exact qC|skip)
  ·exact stEqGround
  refine Ok.cond (b:=false) (by first | rfl | (simp only [go_sem,↓dP,↓reduceIte];rfl)) (fun hb => by cases hb) (fun _ => ?_)
  (refine Ok.skip ?_;(try dsimp only [thenK,blockK,noGotoK]))
  (try dsimp only [thenK,blockK,noGotoK])
  (first|refine qE ?_|refine qD ?_);(simp only [go_sem,↓dP,↓reduceIte];with_reducible and_intros;all_goals first|apply qA|exact qC|skip)
  (try dsimp only [thenK,blockK,noGotoK])
  refine ⟨trivial,?_⟩
  (refine Sub.of ([0,1]) ([]) ?_ ?_ ?_ rfl rfl<;>simp only [subB,subB1,subT,subT1,newT,subE,subV,subL,go_sem,↓dP,↓reduceIte]<;>(try (repeat' with_reducible apply And.intro))<;>(try first | exact DEq.refl _ | refine DEq.int ?_ | refine DEq.bool ?_ | omega))
 ·intro _
  refine Ok.seq ?_;((first|refine qE ?_|refine qD ?_);(simp only [go_sem,↓dP,↓reduceIte];with_reducible and_intros;all_goals first|apply qA|exact qC|skip));refine Ok.cond rfl (fun hb => by simp at hb) (fun _ => ?_);(refine Ok.exit ?_;simp only [thenK_exit,blockK_exit,noGotoK_exit,thenK_normal,blockK_normal,noGotoK_normal,↓reduceIte,Nat.reduceEqDiff])
  refine Ok.seq ?_
  (first|refine qE ?_|refine qD ?_);(simp only [go_sem,↓dP,↓reduceIte];with_reducible and_intros;all_goals first|apply qA|exact qC|skip)
  refine Ok.block ?_
  refine Ok.count J.ps.length (fun i => ⟨[(2,.p 0 0),(3,.p 1 0),(6,iS i)],[jobC J,jobC J],[]⟩) (fun _ => True) ⟨trivial,?_⟩ ?_ ?_
  ·(refine Sub.of ([0,1]) ([]) ?_ ?_ ?_ rfl rfl<;>simp only [subB,subB1,subT,subT1,newT,subE,subV,subL,go_sem,↓dP,↓reduceIte]<;>(try (repeat' with_reducible apply And.intro))<;>(try first | exact DEq.refl _ | refine DEq.int ?_ | refine DEq.bool ?_ | omega))
  ·intro i hi _
   refine Ok.seq ?_;((first|refine qE ?_|refine qD ?_);(simp only [go_sem,↓dP,↓reduceIte];with_reducible and_intros;all_goals first|apply qA|exact qC|skip));refine Ok.cond rfl (fun _ => ?_) (fun hb => by simp at hb;omega);(refine Ok.skip ?_;(try dsimp only [thenK,blockK,noGotoK]));refine Ok.seq ?_;refine Ok.block ?_
   (first|refine qE ?_|refine qD ?_);(simp only [go_sem,↓dP,↓reduceIte];with_reducible and_intros;all_goals first|apply qA|exact qC|skip)
   ·exact stEqPiece
   refine Ok.cond (b:=false) (by first | rfl | (simp only [go_sem,↓dP,↓reduceIte];rfl)) (fun hb => by cases hb) (fun _ => ?_)
   (refine Ok.skip ?_;(try dsimp only [thenK,blockK,noGotoK]))
   (try dsimp only [thenK,blockK,noGotoK])
   (first|refine qE ?_|refine qD ?_);(simp only [go_sem,↓dP,↓reduceIte];with_reducible and_intros;all_goals first|apply qA|exact qC|skip)
   (try dsimp only [thenK,blockK,noGotoK])
   refine ⟨trivial,?_⟩
   (refine Sub.of ([0,1]) ([]) ?_ ?_ ?_ rfl rfl<;>simp only [subB,subB1,subT,subT1,newT,subE,subV,subL,go_sem,↓dP,↓reduceIte]<;>(try (repeat' with_reducible apply And.intro))<;>(try first | exact DEq.refl _ | refine DEq.int ?_ | refine DEq.bool ?_ | omega))
  ·intro _
   refine Ok.seq ?_;((first|refine qE ?_|refine qD ?_);(simp only [go_sem,↓dP,↓reduceIte];with_reducible and_intros;all_goals first|apply qA|exact qC|skip));refine Ok.cond rfl (fun hb => by simp at hb) (fun _ => ?_);(refine Ok.exit ?_;simp only [thenK_exit,blockK_exit,noGotoK_exit,thenK_normal,blockK_normal,noGotoK_normal,↓reduceIte,Nat.reduceEqDiff])
   (first|refine qE ?_|refine qD ?_);(simp only [go_sem,↓dP,↓reduceIte];with_reducible and_intros;all_goals first|apply qA|exact qC|skip)
   (refine Ok.ret ?_;(try dsimp only [thenK,blockK,noGotoK]);simp only [toList_mk,List.toList_toArray,retK_ret,retK_normal,resOK,resV,celV,rowV,frzAll,frzT,subV,subL,go_sem,↓dP,↓reduceIte])
   exact .refl _
end Go.Proofs.Leaf
namespace Go.Proofs.Leaf
open Go Go.RX Go.Proofs Go.RowKit
attribute [local go_sem] Oper.semAt_some
set_option maxRecDepth 100000
set_option maxHeartbeats 4000000 in
theorem catch_text (B:Nat) (t:ByteArray) (x:Int) (w:World) (h1:w.heap[B]? = some (.cells #[.int .i64 x] 31)) :
  CallsD Tryz.prog 115 #[.pointer (some ⟨B,0,none⟩)] (.panicking [{ v:=.iface 149 (.agg #[.string t]),recovered:=false }]) w fun e u' w' => e = .returned (.tuple #[])/\settle u' = .returning /\
   w'.heap[B]? = some (.cells #[.int .i64 4] 31)/\But B w w':=by
 refine callsD_of_wpS Tryz.func115 rfl fun c₀ cs hu => ?_
 have hnil:∀ (v:Value) (w:World),(binOp BinOp.eql 20 (.iface 149 v) .nilIface).run Tryz.prog w = .ok (.bool false) w:=fun _ _ => by kernel_rfl
 have htb:∀ (v:Value) (w:World),(Instr.typeAssert (.iface 149 v) 20 147 true).run Tryz.prog w = .ok (.tuple #[.agg #[.int .i64 0],.bool false]) w:=fun _ _ => by kernel_rfl
 have hta:∀ (v:Value) (w:World),(Instr.typeAssert (.iface 149 v) 20 149 true).run Tryz.prog w = .ok (.tuple #[v,.bool true]) w:=fun _ _ => by kernel_rfl
 have hlt:=(Array.getElem?_eq_some_iff.1 h1).1
 have hA1:=al_old (.cells #[.string t] 149) h1
 have g10:=cell_at hA1 0
 simp only [List.getElem?_toArray,List.getElem?_cons_zero,List.getElem?_cons_succ] at g10
 have f10:(w.alloc (.cells #[.string t] 149)).frozen? ⟨B,0,none⟩ = false:=by simp [World.frozen?,hA1]
 simp only [Tryz.ntmps115,List.size_toArray,List.length_cons,List.length_nil,Nat.reduceAdd,Nat.reduceSub,Array.replicate_succ,Array.replicate_zero,List.push_toArray,List.append_toArray,List.nil_append,List.cons_append]
 apply wpS_seq
 apply wpS_region
 simp [wpOpsS,go_sem,recoverD,hu,Exit.thenS]
 refine wpS_of_wp ?_
 go_wp2
 refine ⟨rfl,.panicking [{ v:=.iface 149 (.agg #[.string t]),recovered:=true }],rfl,.tuple #[],results_none rfl _ _ _,rfl,rfl,?_⟩
 have s1:=st_same h1 0 (.int .i64 4)
 refine ⟨al_old _ s1,rfl,rfl,rfl,?_,fun k hk hne => ?_⟩
 ·simp [World.setCell,Array.size_modify]
 ·rw [Below.heap_alloc _ _ k (by simp [World.setCell,Array.size_modify];exact hk),Below.heap_setCell _ _ _ k hne]
set_option maxHeartbeats 4000000 in
theorem att_text (f:Nat) (caps:Array Value) (w:World) (hent:∃ fn,Tryz.prog.funcs[f]? = some fn/\(fn.name == "runtime.NumGoroutine") = false/\fn.body.isNone = false) (R:World->Prop)
  (hf:Calls Tryz.prog f caps (attW w) fun e w1 => ∃ t,e = .panicked [{ v:=.iface 149 (.agg #[.string t]),recovered:=false }]/\w1.heap[w.heap.size]? = some (.cells #[.int .i64 0] 31)/\R w1) :
  Calls Tryz.prog 80 #[.func (.func f) #[] caps] w fun e w' => e = .returned (.int .i64 4)/\∃ w1,R w1/\But w.heap.size w1 w':=by
 have hmf:∀ (fn:Fn) (first cap:Array Value) (w:World),(Instr.makeFunc fn first cap).run Tryz.prog w = .ok (.func fn first cap) w:=fun _ _ _ _ => rfl
 have he:=enters_of' hent
 refine calls_of_wp_defers Tryz.func80 rfl ?_
 simp only [Tryz.ntmps80,List.size_toArray,List.length_cons,List.length_nil,Nat.reduceAdd,Nat.reduceSub,Array.replicate_succ,Array.replicate_zero,List.push_toArray,List.append_toArray,List.nil_append,List.cons_append]
 go_wp2
 refine hf.mono ?_
 rintro e w1 ⟨t,rfl,k1,hR⟩
 refine leaves_cons (f:=115) (args:=#[.pointer (some ⟨w.heap.size,0,none⟩)]) (by simp) (by simp [go_sem]) ?_
 refine (catch_text w.heap.size t 0 _ k1).mono ?_
 rintro e u' w'' ⟨rfl,hset,k2,hB⟩
 have q:=cell_at k2 0
 simp only [List.getElem?_toArray,List.getElem?_cons_zero,List.getElem?_cons_succ] at q
 simp only [hset]
 simp [Leaves,results,Tryz.results80,go_sem,q]
 exact ⟨_,hR,hB⟩
end Go.Proofs.Leaf
namespace Go.Proofs.Leaf
open Go Go.RX Go.Proofs
set_option maxRecDepth 10000
instance inst_g0_5:Glob:=g0
theorem spl_snoc (c b:UInt8):∀ (l:List UInt8) (o:List (List UInt8)) (x:List UInt8),spl c l = o ++ [x]->spl c (l ++ [b]) = if b = c then o ++ [x,[]] else o ++ [x ++ [b]]
 | [],o,x,h => by
  simp only [spl] at h
  cases o with
  | nil =>
   simp at h;subst h
   by_cases hb:b = c<;>simp [spl,hb]
  | cons y o => simp at h
 | a :: l,o,x,h => by
  obtain ⟨o',x',h'⟩:∃ o' x',spl c l = o' ++ [x']:=by
   refine ⟨(spl c l).dropLast,(spl c l).getLast (spl_ne c l),(List.dropLast_concat_getLast _).symm⟩
  have ih:=spl_snoc c b l o' x' h'
  simp only [List.cons_append,spl]
  simp only [spl,h'] at h
  rw [ih]
  by_cases ha:a = c
  ·simp only [ha,if_true] at h ⊢
   have h1:([]:List UInt8) :: (o' ++ [x']) = ([] :: o') ++ [x']:=rfl
   rw [h1] at h
   obtain ⟨rfl,h2⟩:=List.append_inj' h rfl
   cases h2
   by_cases hb:b = c<;>simp [hb]
  ·simp only [if_neg ha] at h ⊢
   cases o' with
   | nil =>
    simp only [List.nil_append] at h ⊢
    have:o = []/\x = a :: x':=by
     cases o with
     | nil => simpa [eq_comm] using h
     | cons y o => simp at h
    obtain ⟨rfl,rfl⟩:=this
    by_cases hb:b = c<;>simp [hb]
   | cons y o' =>
    simp only [List.cons_append] at h ⊢
    have h1:(a :: y) :: (o' ++ [x']) = ((a :: y) :: o') ++ [x']:=rfl
    rw [h1] at h
    obtain ⟨rfl,h2⟩:=List.append_inj' h rfl
    cases h2
    by_cases hb:b = c<;>simp [hb]
theorem spl_one (c:UInt8):∀ (l:List UInt8),c ∉ l->spl c l = [l]
 | [],_ => rfl
 | b :: l,h => by
  simp only [List.mem_cons,not_or] at h
  simp only [spl,if_neg (Ne.symm h.1),spl_one c l h.2]
theorem spl_app (c:UInt8):∀ (l r:List UInt8),c ∉ l->spl c (l ++ c :: r) = l :: spl c r
 | [],r,_ => by simp [spl]
 | b :: l,r,h => by
  simp only [List.mem_cons,not_or] at h
  simp only [List.cons_append,spl,if_neg (Ne.symm h.1),spl_app c l r h.2]
theorem ofNat_dig {n:Nat} (h:n < 10):(UInt8.ofNat (48 + n)).toNat = 48 + n:=by
 rw [UInt8.toNat_ofNat'];omega
theorem dec_props (n:Nat):(∀ b∈Lib.decDigits n,digit b = true)/\numL (Lib.decDigits n) = n/\Lib.decDigits n ≠ []:=by
 induction n using Nat.strongRecOn with
 | _ n ih =>
 by_cases h:n < 10
 ·rw [Lib.decDigits_one h]
  have e:=ofNat_dig h
  refine ⟨fun b hb => ?_,?_,by simp⟩
  ·simp only [List.mem_singleton] at hb
   subst hb
   simp only [digit,e,Bool.and_eq_true,decide_eq_true_eq];omega
  ·simp only [numL,List.foldl_cons,List.foldl_nil,e];omega
 ·obtain ⟨h1,h2,h3⟩:=ih (n / 10) (by omega)
  have e:=ofNat_dig (n:=n % 10) (by omega)
  rw [Lib.decDigits,dif_neg h]
  refine ⟨fun b hb => ?_,?_,by simp⟩
  ·simp only [List.mem_append,List.mem_singleton] at hb
   rcases hb with hb | rfl
   ·exact h1 b hb
   ·simp only [digit,e,Bool.and_eq_true,decide_eq_true_eq];omega
  ·rw [numL_snoc,h2,e];omega
theorem dec_len2 {n:Nat} (h:n < 100):(Lib.decDigits n).length<=2:=by
 by_cases h1:n < 10
 ·rw [Lib.decDigits_one h1];simp
 ·rw [Lib.decDigits_two h1 h];simp
end Go.Proofs.Leaf
namespace Go.Proofs.Leaf
open Go Go.RX Go.Proofs
set_option maxRecDepth 10000
section
variable {st : PS} {r : List UInt8} {V : List (List UInt8)}
end
theorem num_itoa {n:Int} (h:pl n):isNum (Lib.itoa n)/\((numL (Lib.itoa n):Nat):Int) = n:=by
 obtain ⟨h0,h1⟩:=h
 obtain ⟨u,rfl⟩:∃ u:Nat,n = u:=⟨n.toNat,by omega⟩
 rw [Lib.itoa_nonneg]
 obtain ⟨p1,p2,p3⟩:=dec_props u
 refine ⟨⟨p3,p1,dec_len2 (by omega),?_⟩,by rw [p2]⟩
 rw [p2,Lib.itoa_nonneg]
theorem dig_ne {b:UInt8} (h:digit b = true):b ≠ 32/\b ≠ 10:=by
 simp only [digit,Bool.and_eq_true,decide_eq_true_eq] at h
 constructor
 ·rintro rfl;revert h;decide
 ·rintro rfl;revert h;decide
theorem itoa_no {n:Int} (h:pl n):32 ∉ Lib.itoa n/\10 ∉ Lib.itoa n:=by
 have:=(num_itoa h).1.2.1
 exact ⟨fun q => (dig_ne (this _ q)).1 rfl,fun q => (dig_ne (this _ q)).2 rfl⟩
theorem spl_row:∀ (ns:List Int) (w:List UInt8),(∀ n∈ns,pl n)->32 ∉ w->spl 32 (rowL w ns) = w :: ns.map Lib.itoa
 | [],w,_,hw => by rw [rowL_nil,spl_one 32 w hw];rfl
 | n :: r,w,h,hw => by
  have e:rowL w (n :: r) = w ++ 32 :: rowL (Lib.itoa n) r:=by simp [rowL]
  rw [e,spl_app 32 _ _ hw,spl_row r (Lib.itoa n) (fun x hx => h x (List.mem_cons_of_mem _ hx)) (itoa_no (h n (List.mem_cons_self ..))).1]
  rfl
theorem row_no10:∀ (ns:List Int) (w:List UInt8),(∀ n∈ns,pl n)->10 ∉ w->10 ∉ rowL w ns
 | [],w,_,hw => by rw [rowL_nil];exact hw
 | n :: r,w,h,hw => by
  have e:rowL w (n :: r) = w ++ 32 :: rowL (Lib.itoa n) r:=by simp [rowL]
  rw [e]
  have:=row_no10 r (Lib.itoa n) (fun x hx => h x (List.mem_cons_of_mem _ hx)) (itoa_no (h n (List.mem_cons_self ..))).2
  simp only [List.mem_append,List.mem_cons,not_or]
  exact ⟨hw,by decide,this⟩
theorem kind_no (b:Bool):32 ∉ kindW b/\10 ∉ kindW b:=by cases b<;>decide
theorem nums_row (w:List UInt8) (ns:List Int) (h:∀ n∈ns,pl n):∀ x∈(w :: ns.map Lib.itoa).drop 1,isNum x:=by
 intro x hx
 simp only [List.drop_succ_cons,List.drop_zero,List.mem_map] at hx
 obtain ⟨n,hn,rfl⟩:=hx
 exact (num_itoa (h n hn)).1
theorem nth_row (w:List UInt8) (ns:List Int) (h:∀ n∈ns,pl n) {i:Nat} (hi:i < ns.length):nth' (w :: ns.map Lib.itoa) (i + 1) = ns.getD i 0:=by
 unfold nth'
 have e:(w :: ns.map Lib.itoa).getD (i + 1) default = Lib.itoa (ns.getD i 0):=by
  simp [List.getD_eq_getElem?_getD,List.getElem?_eq_getElem hi]
 rw [e]
 have:ns.getD i 0∈ns:=by
  rw [List.getD_eq_getElem?_getD,List.getElem?_eq_getElem hi];exact List.getElem_mem hi
 exact (num_itoa (h _ this)).2
theorem spl_ground {g:Ground} (h:∀ n∈g.nums,pl n):splitL (groundRow g) [32] = groundW :: g.nums.map Lib.itoa:=by
 rw [splitL_spl,groundRow,spl_row _ _ h (by decide)]
theorem spl_piece {p:Piece} (h:∀ n∈p.nums,pl n):splitL (pieceRow p) [32] = kindW p.turn :: p.nums.map Lib.itoa:=by
 rw [splitL_spl,pieceRow,spl_row _ _ h (kind_no _).1]
theorem spl_head {J:Job} (h:∀ n∈J.nums,pl n):splitL (rowL leafW J.nums) [32] = leafW :: J.nums.map Lib.itoa:=by
 rw [splitL_spl,spl_row _ _ h (by decide)]
theorem step_ground {g:Ground} (h:∀ n∈g.nums,pl n) (st:PS):stepP st (groundRow g) = some (st.1 ++ [g],st.2):=by
 rw [stepP_ground (spl_ground h) rfl (nums_row _ _ h),if_pos (by simp [Ground.nums])]
 have e:=fun i hi => nth_row groundW g.nums h (i:=i) hi
 have e0:nth' (groundW :: g.nums.map Lib.itoa) 1 = g.rl:=e 0 (of_decide_eq_true rfl)
 have e1:nth' (groundW :: g.nums.map Lib.itoa) 2 = g.rh:=e 1 (of_decide_eq_true rfl)
 have e2:nth' (groundW :: g.nums.map Lib.itoa) 3 = g.ll:=e 2 (of_decide_eq_true rfl)
 have e3:nth' (groundW :: g.nums.map Lib.itoa) 4 = g.lh:=e 3 (of_decide_eq_true rfl)
 rw [e0,e1,e2,e3]
theorem step_piece {p:Piece} (h:∀ n∈p.nums,pl n) (st:PS):stepP st (pieceRow p) = some (st.1,st.2 ++ [p]):=by
 rw [stepP_piece (spl_piece h) (by show isKind (kindW p.turn);cases p.turn<;>decide) (by show kindW p.turn ≠ groundW;cases p.turn<;>decide) (nums_row _ _ h),if_pos (by simp [Piece.nums])]
 have e:=fun i hi => nth_row (kindW p.turn) p.nums h (i:=i) hi
 have e0:nth' (kindW p.turn :: p.nums.map Lib.itoa) 1 = p.w:=e 0 (of_decide_eq_true rfl)
 have e1:nth' (kindW p.turn :: p.nums.map Lib.itoa) 2 = p.h:=e 1 (of_decide_eq_true rfl)
 have e2:nth' (kindW p.turn :: p.nums.map Lib.itoa) 3 = p.g:=e 2 (of_decide_eq_true rfl)
 have et:((kindW p.turn :: p.nums.map Lib.itoa).getD 0 default == eitherW) = p.turn:=by
  show (kindW p.turn == eitherW) = p.turn
  cases p.turn<;>decide
 rw [e0,e1,e2,et]
theorem fold_grounds:∀ (gs:List Ground) (st:PS),(∀ g∈gs,∀ n∈g.nums,pl n)->(gs.map groundRow).foldlM stepP st = some (st.1 ++ gs,st.2)
 | [],st,_ => by simp
 | g :: gs,st,h => by
  rw [List.map_cons,List.foldlM_cons,step_ground (h g (List.mem_cons_self ..))]
  show (gs.map groundRow).foldlM stepP (st.1 ++ [g],st.2) = _
  rw [fold_grounds gs _ (fun y hy => h y (List.mem_cons_of_mem _ hy))]
  simp
theorem fold_pieces:∀ (ps:List Piece) (st:PS),(∀ p∈ps,∀ n∈p.nums,pl n)->(ps.map pieceRow).foldlM stepP st = some (st.1,st.2 ++ ps)
 | [],st,_ => by simp
 | p :: ps,st,h => by
  rw [List.map_cons,List.foldlM_cons,step_piece (h p (List.mem_cons_self ..))]
  show (ps.map pieceRow).foldlM stepP (st.1,st.2 ++ [p]) = _
  rw [fold_pieces ps _ (fun y hy => h y (List.mem_cons_of_mem _ hy))]
  simp
theorem Job.plain.no10 {J:Job} (h:J.plain):∀ r∈rowsOf J,10 ∉ r:=by
 intro r hr
 simp only [rowsOf,List.mem_cons,List.mem_append,List.mem_map] at hr
 rcases hr with rfl | ⟨g,hg,rfl⟩ | ⟨p,hp,rfl⟩
 ·exact row_no10 _ _ h.n (by decide)
 ·exact row_no10 _ _ (h.g g hg) (by decide)
 ·exact row_no10 _ _ (h.p p hp) (kind_no _).2
theorem endL_no10 (c:Nat):10 ∉ endL c:=by
 have h:=fun n => (dec_props n).1
 have hn:∀ n,10 ∉ Lib.decDigits n:=fun n q => (dig_ne (h n _ q)).2 rfl
 simp only [endL,List.mem_append,not_or]
 exact ⟨⟨⟨by decide,hn _⟩,hn _⟩,hn _⟩
theorem spl_flat:∀ (l:List (List UInt8)) (x:List UInt8),(∀ r∈l,10 ∉ r)->spl 10 (flatL l ++ x) = l ++ spl 10 x
 | [],x,_ => rfl
 | r :: l,x,h => by
  have e:flatL (r :: l) ++ x = r ++ 10 :: (flatL l ++ x):=by simp [flatL]
  rw [e,spl_app 10 _ _ (h r (List.mem_cons_self ..)),spl_flat l x (fun y hy => h y (List.mem_cons_of_mem _ hy))]
  rfl
theorem spl_sealed {l:List (List UInt8)} (h:∀ r∈l,10 ∉ r):splitL (sealedL l) [10] = l ++ [endL (rowsSum 0 l % 191),[]]:=by
 rw [splitL_spl,sealedL,List.append_assoc,spl_flat _ _ h,spl_app 10 _ _ (endL_no10 _)]
 rfl
theorem mid_rows (a:List UInt8) (l:List (List UInt8)) (x y:List UInt8):midL (a :: l ++ [x,y]) = l:=by
 unfold midL
 simp
section
variable {t : List UInt8} {rows W : List (List UInt8)}
end
theorem parse_text {J:Job} (h:J.plain):parseP (sealedL (rowsOf J)) = some J:=by
 have hr:=spl_sealed h.no10
 have hm:midL (rowsOf J ++ [endL (rowsSum 0 (rowsOf J) % 191),[]]) = J.gs.map groundRow ++ J.ps.map pieceRow:=mid_rows _ _ _ _
 have hW:splitL ((rowsOf J ++ [endL (rowsSum 0 (rowsOf J) % 191),[]]).getD 0 default) [32] = leafW :: J.nums.map Lib.itoa:=spl_head h.n
 have hst:preL (midL (rowsOf J ++ [endL (rowsSum 0 (rowsOf J) % 191),[]])) (midL (rowsOf J ++ [endL (rowsSum 0 (rowsOf J) % 191),[]])).length = some (J.gs,J.ps):=by
  rw [hm,preL,List.take_length,List.foldlM_append,fold_grounds J.gs ([],[]) h.g]
  show (J.ps.map pieceRow).foldlM stepP ([] ++ J.gs,[]) = _
  rw [fold_pieces J.ps _ h.p]
  simp
 have h4:nums ((leafW :: J.nums.map Lib.itoa).drop 1) 4:=⟨by simp [Job.nums],nums_row _ _ h.n⟩
 have e:mkS (leafW :: J.nums.map Lib.itoa) (J.gs,J.ps) = J:=by
  have e:=fun i hi => nth_row leafW J.nums h.n (i:=i) hi
  have e0:nth' (leafW :: J.nums.map Lib.itoa) 1 = J.wide:=e 0 (of_decide_eq_true rfl)
  have e1:nth' (leafW :: J.nums.map Lib.itoa) 2 = J.high:=e 1 (of_decide_eq_true rfl)
  have e2:nth' (leafW :: J.nums.map Lib.itoa) 3 = J.book:=e 2 (of_decide_eq_true rfl)
  have e3:nth' (leafW :: J.nums.map Lib.itoa) 4 = J.spoilt:=e 3 (of_decide_eq_true rfl)
  unfold mkS
  rw [e0,e1,e2,e3]
 rw [parse_all hr hW (by rw [List.length_append];simp only [rowsOf,List.length_cons,List.length_nil];omega) (.inl rfl) h4 hst,e,if_pos rfl]
theorem parse_some {t:List UInt8} {J:Job} (h:parseP t = some J):J.plain/\sealedL (rowsOf J) = t/\J.gs.length + J.ps.length<=t.length:=by
 have hl:=splitL_len t [10] (by decide)
 unfold parseP at h
 dsimp only at h
 split at h
 ·rename_i h36
  split at h
  ·cases h
  ·rename_i st hst
   split at h
   ·rename_i he
    simp only [Option.some.injEq] at h
    subst h
    obtain ⟨p1,p2⟩:=preL_plain _ _ st (Nat.le_refl _) hst
    refine ⟨mkS_plain h36.2.2 p1,he,?_⟩
    show nrows st<=_
    rw [p2]
    unfold midL
    rw [List.length_take,List.length_drop];omega
   ·cases h
 ·cases h
end Go.Proofs.Leaf
namespace Go.Proofs.Leaf
open Go Go.RX Go.Proofs
set_option maxRecDepth 10000
def fromC (c:UInt8) (l:List UInt8):Nat->Nat
 | 0 => 0
 | i + 1 => if l.getD i 0 = c then i + 1 else fromC c l i
def outC (c:UInt8) (l:List UInt8):Nat->List (List UInt8)
 | 0 => []
 | i + 1 => if l.getD i 0 = c then outC c l i ++ [(l.take i).drop (fromC c l i)] else outC c l i
theorem fromC_succ (c:UInt8) (l:List UInt8) (i:Nat):fromC c l (i + 1) = if l.getD i 0 = c then i + 1 else fromC c l i:=rfl
theorem outC_succ (c:UInt8) (l:List UInt8) (i:Nat):outC c l (i + 1) = if l.getD i 0 = c then outC c l i ++ [(l.take i).drop (fromC c l i)] else outC c l i:=rfl
theorem fromC_le (c:UInt8) (l:List UInt8):∀ i,fromC c l i<=i
 | 0 => Nat.le_refl _
 | i + 1 => by
  have:=fromC_le c l i
  rw [fromC_succ]
  split<;>omega
theorem outC_len (c:UInt8) (l:List UInt8):∀ i,(outC c l i).length<=i
 | 0 => Nat.le_refl _
 | i + 1 => by
  have:=outC_len c l i
  rw [outC_succ]
  split
  ·simp;omega
  ·omega
theorem outC_spl (c:UInt8) (l:List UInt8):∀ i,i<=l.length->spl c (l.take i) = outC c l i ++ [(l.take i).drop (fromC c l i)]
 | 0,_ => rfl
 | i + 1,hi => by
  have ih:=outC_spl c l i (by omega)
  have hf:=fromC_le c l i
  have e:l.take (i + 1) = l.take i ++ [l.getD i 0]:=getD_take (by omega)
  have hl:(l.take i).length = i:=by rw [List.length_take];omega
  rw [e,spl_snoc c _ _ _ _ ih]
  rw [outC_succ,fromC_succ]
  by_cases h:l.getD i 0 = c
  ·simp only [if_pos h]
   have e2:(l.take i ++ [l.getD i 0]).drop (i + 1) = []:=List.drop_of_length_le (by rw [List.length_append,hl];simp)
   rw [e2]
   simp
  ·simp only [if_neg h]
   rw [List.drop_append_of_le_length (by omega)]
theorem tdivM (n:Nat):(-(n:Int)).tdiv 10 = -((n / 10:Nat):Int):=by rw [Int.neg_tdiv,tdivN]
theorem tmodM (n:Nat):(-(n:Int)).tmod 10 = -((n % 10:Nat):Int):=by rw [Int.neg_tmod,tmodN]
def sgnW (w:List UInt8):Int:=if w.getD 0 0 = 45 then -1 else 1
def bodW (w:List UInt8):List UInt8:=if w.getD 0 0 = 45 then w.drop 1 else w
def rnum (w:List UInt8):Int×Bool :=
 if (bodW w).length < 1∨2 < (bodW w).length then (0,false)
 else if (bodW w).all digit then (sgnW w * (numL (bodW w):Nat),Lib.itoa (sgnW w * (numL (bodW w):Nat)) == w)
 else (0,false)
theorem rnum_ok (w:List UInt8):((rnum w).2 = true/\0<=(rnum w).1) ↔ isNum w:=by
 unfold rnum
 constructor
 ·rintro ⟨h,h0⟩
  split at h
  ·cases h
  ·rename_i hl
   rw [if_neg hl] at h0
   split at h
   ·rename_i hd
    rw [if_pos hd] at h0
    simp only [beq_iff_eq] at h
    simp only at h0
    by_cases hm:w.getD 0 0 = 45
    ·simp only [sgnW,if_pos hm] at h h0
     have hz:numL (bodW w) = 0:=by omega
     rw [hz] at h
     have e:(-1:Int) * ((0:Nat):Int) = ((0:Nat):Int):=by decide
     rw [e,Lib.itoa_nonneg,Lib.decDigits_one (by decide)] at h
     rw [← h] at hm
     exact absurd hm (by decide)
    ·simp only [sgnW,bodW,if_neg hm,Int.one_mul] at h hl hd
     refine ⟨fun e => by subst e;simp at hl,fun b hb => ?_,by omega,h⟩
     simp only [List.all_eq_true] at hd
     exact hd b hb
   ·cases h
 ·intro h
  have hm:w.getD 0 0 ≠ 45:=by
   intro e
   obtain ⟨b,r,rfl⟩:∃ b r,w = b :: r:=by
    cases w with
    | nil => exact (h.1 rfl).elim
    | cons b r => exact ⟨b,r,rfl⟩
   have:=h.2.1 b (List.mem_cons_self ..)
   simp at e
   subst e
   revert this;decide
  have hl:¬ ((bodW w).length < 1∨2 < (bodW w).length):=by
   simp only [bodW,if_neg hm]
   have h1:=h.2.2.1
   have h2:0 < w.length:=List.length_pos_iff.2 h.1
   omega
  have hd:(bodW w).all digit = true:=by
   simp only [bodW,if_neg hm,List.all_eq_true]
   exact h.2.1
  rw [if_neg hl,if_pos hd]
  simp only [sgnW,bodW,if_neg hm,Int.one_mul,beq_iff_eq]
  exact ⟨h.2.2.2,by omega⟩
theorem rnum_val {w:List UInt8} (h:isNum w):rnum w = (((numL w:Nat):Int),true):=by
 have hm:w.getD 0 0 ≠ 45:=by
  intro e
  obtain ⟨b,r,rfl⟩:∃ b r,w = b :: r:=by
   cases w with
   | nil => exact (h.1 rfl).elim
   | cons b r => exact ⟨b,r,rfl⟩
  have:=h.2.1 b (List.mem_cons_self ..)
  simp at e
  subst e
  revert this;decide
 have hl:¬ ((bodW w).length < 1∨2 < (bodW w).length):=by
  simp only [bodW,if_neg hm]
  have h1:=h.2.2.1
  have h2:0 < w.length:=List.length_pos_iff.2 h.1
  omega
 have hd:(bodW w).all digit = true:=by
  simp only [bodW,if_neg hm,List.all_eq_true]
  exact h.2.1
 unfold rnum
 rw [if_neg hl,if_pos hd]
 simp only [sgnW,bodW,if_neg hm,Int.one_mul]
 rw [h.2.2.2]
 simp
def rnums (ws:List (List UInt8)):List Int:=ws.map (fun w => (rnum w).1)
def rall (ws:List (List UInt8)):Bool:=ws.all (fun w => (rnum w).2)
def rpl (ws:List (List UInt8)):Bool:=rall ws && (rnums ws).all (fun n => decide (0<=n))
theorem rpl_ok (ws:List (List UInt8)):rpl ws = true ↔ ∀ w∈ws,isNum w:=by
 simp only [rpl,rall,rnums,Bool.and_eq_true,List.all_eq_true,List.mem_map,decide_eq_true_eq]
 constructor
 ·rintro ⟨h1,h2⟩ w hw
  exact (rnum_ok w).1 ⟨h1 w hw,h2 _ ⟨w,hw,rfl⟩⟩
 ·intro h
  refine ⟨fun w hw => ((rnum_ok w).2 (h w hw)).1,?_⟩
  rintro n ⟨w,hw,rfl⟩
  exact ((rnum_ok w).2 (h w hw)).2
def rlist (ws:List (List UInt8)):List Int:=if rall ws then rnums ws else []
theorem rlist_ok {ws:List (List UInt8)} (h:rpl ws = true):rlist ws = ws.map (fun w => ((numL w:Nat):Int)):=by
 have hn:=(rpl_ok ws).1 h
 have ha:rall ws = true:=by
  simp only [rpl,Bool.and_eq_true] at h
  exact h.1
 rw [rlist,if_pos ha,rnums]
 exact List.map_congr_left (fun w hw => by rw [rnum_val (hn w hw)])
theorem rlist_len (ws:List (List UInt8)):(rlist ws).length<=ws.length:=by
 unfold rlist
 split
 ·rw [rnums,List.length_map];omega
 ·simp
def stepR (i:Nat) (st:RS) (r:List UInt8):Option RS :=
 let W:=splitL r [32]
 if rpl (W.drop 1) = true then
  if i = 0/\W.length = 5 then some ([nth' W 1,nth' W 2,nth' W 3,nth' W 4],st.2)
  else if W.length = 5 then some (st.1,st.2.1 ++ [⟨nth' W 1,nth' W 2,nth' W 3,nth' W 4⟩],st.2.2)
  else if W.length = 4 then some (st.1,st.2.1,st.2.2 ++ [⟨nth' W 1,nth' W 2,W.getD 0 default == eitherW,nth' W 3⟩])
  else none
 else none
theorem stepR_pos (i:Nat):stepR (i + 1) = stepR 1:=rfl
def zeroR:RS:=([0,0,0,0],[],[])
def preR (m:List (List UInt8)) (i:Nat):Option RS :=
 match m.take i with
 | [] => some zeroR
 | a :: b => (stepR 0 zeroR a).bind (fun st => b.foldlM (stepR 1) st)
def mkR (st:RS):Job:=⟨st.1.getD 0 0,st.1.getD 1 0,st.1.getD 2 0,st.1.getD 3 0,st.2.1,st.2.2⟩
def parseR (t:List UInt8):Option Job :=
 let m:=splitL t [10]
 match preR m (m.length - 2) with
 | none => none
 | some st => if sealedL (rowsOf (mkR st)) = t then some (mkR st) else none
theorem preR_zero (m:List (List UInt8)):preR m 0 = some zeroR:=rfl
theorem preR_succ (m:List (List UInt8)) {i:Nat} (h:i < m.length):preR m (i + 1) = (preR m i).bind (fun st => stepR i st (m.getD i default)):=by
 cases i with
 | zero =>
  cases m with
  | nil => simp at h
  | cons a b =>
   simp only [preR,List.take_zero,Nat.zero_add,List.take_succ_cons,List.getD_cons_zero,Option.bind_some]
   cases stepR 0 zeroR a<;>rfl
 | succ i =>
  cases m with
  | nil => simp at h
  | cons a b =>
   have hi:i < b.length:=by simpa using h
   have e:(a :: b).getD (i + 1) default = b.getD i default:=by simp
   rw [e,stepR_pos]
   simp only [preR,List.take_succ_cons]
   rw [getD_take hi]
   cases stepR 0 zeroR a with
   | none => rfl
   | some s0 =>
    simp only [Option.bind_some,List.foldlM_append]
    cases (b.take i).foldlM (stepR 1) s0 with
    | none => rfl
    | some s1 =>
     show List.foldlM (stepR 1) s1 [b.getD i default] = stepR 1 s1 (b.getD i default)
     rw [List.foldlM_cons]
     cases stepR 1 s1 (b.getD i default)<;>rfl
theorem preR_none (m:List (List UInt8)) {i:Nat} (h:preR m i = none):∀ n,i + n<=m.length->preR m (i + n) = none
 | 0,_ => h
 | n + 1,hn => by
  rw [← Nat.add_assoc,preR_succ m (by omega),preR_none m h n (by omega)];rfl
theorem preR_fail (m:List (List UInt8)) {i k:Nat} {st:RS} (hi:i < k) (hk:k<=m.length) (h:preR m i = some st) (hs:stepR i st (m.getD i default) = none):preR m k = none:=by
 have h1:preR m (i + 1) = none:=by rw [preR_succ m (by omega),h];exact hs
 have h2:=preR_none m h1 (k - (i + 1)) (by omega)
 rwa [show i + 1 + (k - (i + 1)) = k by omega] at h2
theorem rpl_nums {W:List (List UInt8)} {a:Nat} (h:rpl (W.drop a) = true) {n:Nat} (hl:W.length - a = n):nums (W.drop a) n :=
 ⟨by rw [List.length_drop];exact hl,(rpl_ok _).1 h⟩
section
variable {i : Nat} {st : RS} {r : List UInt8} {V : List (List UInt8)}
theorem stepR_not (hV:splitL r [32] = V) (hp:¬ rpl (V.drop 1) = true):stepR i st r = none:=by
 subst hV;unfold stepR;dsimp only;rw [if_neg hp]
theorem stepR_head (hV:splitL r [32] = V) (hp:rpl (V.drop 1) = true) (h:i = 0/\V.length = 5):stepR i st r = some ([nth' V 1,nth' V 2,nth' V 3,nth' V 4],st.2):=by
 subst hV;unfold stepR;dsimp only;rw [if_pos hp,if_pos h]
theorem stepR_ground (hV:splitL r [32] = V) (hp:rpl (V.drop 1) = true) (h:¬ (i = 0/\V.length = 5)) (h5:V.length = 5):stepR i st r = some (st.1,st.2.1 ++ [⟨nth' V 1,nth' V 2,nth' V 3,nth' V 4⟩],st.2.2):=by
 subst hV;unfold stepR;dsimp only;rw [if_pos hp,if_neg h,if_pos h5]
theorem stepR_piece (hV:splitL r [32] = V) (hp:rpl (V.drop 1) = true) (h4:V.length = 4):stepR i st r = some (st.1,st.2.1,st.2.2 ++ [⟨nth' V 1,nth' V 2,V.getD 0 default == eitherW,nth' V 3⟩]):=by
 subst hV;unfold stepR;dsimp only;rw [if_pos hp,if_neg (by omega),if_neg (by omega),if_pos h4]
theorem stepR_else (hV:splitL r [32] = V) (h5:V.length ≠ 5) (h4:V.length ≠ 4):stepR i st r = none:=by
 subst hV;unfold stepR;dsimp only
 by_cases hp:rpl ((splitL r [32]).drop 1) = true
 ·rw [if_pos hp,if_neg (by omega),if_neg h5,if_neg h4]
 ·rw [if_neg hp]
end
theorem stepR_plain {i:Nat} {st st':RS} {r:List UInt8} (h:stepR i st r = some st') (hp:PlainR st):PlainR st'/\nrows st'.2<=nrows st.2 + 1:=by
 obtain ⟨V,hV⟩:∃ V,splitL r [32] = V:=⟨_,rfl⟩
 by_cases hr:rpl (V.drop 1) = true
 ·by_cases h0:i = 0/\V.length = 5
  ·rw [stepR_head hV hr h0] at h
   cases h
   exact ⟨⟨rfl,pl4 (rpl_nums hr (by omega)),hp.st⟩,by simp only;omega⟩
  ·by_cases h5:V.length = 5
   ·rw [stepR_ground hV hr h0 h5] at h
    cases h
    have:=hp.st.ground (pl4 (rpl_nums hr (n:=4) (by omega)))
    exact ⟨⟨hp.hl,hp.hn,this.1⟩,Nat.le_of_eq this.2⟩
   ·by_cases h4:V.length = 4
    ·rw [stepR_piece hV hr h4] at h
     cases h
     have:=hp.st.piece (pl3 (rpl_nums hr (n:=3) (by omega)) (V.getD 0 default == eitherW))
     exact ⟨⟨hp.hl,hp.hn,this.1⟩,Nat.le_of_eq this.2⟩
    ·rw [stepR_else hV h5 h4] at h;cases h
 ·rw [stepR_not hV hr] at h;cases h
theorem preR_plain (m:List (List UInt8)):∀ (i:Nat) (st:RS),i<=m.length->preR m i = some st->PlainR st/\nrows st.2<=i
 | 0,st,_,h => by
  rw [preR_zero] at h
  cases h
  refine ⟨⟨rfl,fun n hn => ?_,⟨by simp [zeroR],by simp [zeroR]⟩⟩,Nat.le_refl _⟩
  simp [zeroR] at hn
  subst hn
  exact ⟨by decide,by decide⟩
 | i + 1,st,hi,h => by
  rw [preR_succ m (by omega)] at h
  cases hp:preR m i with
  | none => rw [hp] at h;cases h
  | some s0 =>
   rw [hp] at h
   have ⟨h1,h2⟩:=preR_plain m i s0 (by omega) hp
   have ⟨h3,h4⟩:=stepR_plain (show stepR i s0 _ = some st from h) h1
   exact ⟨h3,by omega⟩
theorem getD_pl {l:List Int} {k:Nat} (hl:l.length = 4) (h:∀ n∈l,pl n) (hk:k < 4):pl (l.getD k 0):=by
 have:l.getD k 0 = l.getD k default:=rfl
 rw [this]
 exact h _ (getD_mem (by omega))
theorem mkR_plain {st:RS} (hp:PlainR st):(mkR st).plain:=by
 refine ⟨fun n h => ?_,hp.st.g,hp.st.p⟩
 simp only [Job.nums,mkR,List.mem_cons,List.not_mem_nil,or_false] at h
 rcases h with rfl | rfl | rfl | rfl<;>exact getD_pl hp.hl hp.hn (by decide)
theorem parseR_some {t:List UInt8} {J:Job} (h:parseR t = some J):J.plain/\sealedL (rowsOf J) = t:=by
 unfold parseR at h
 dsimp only at h
 split at h
 ·cases h
 ·rename_i st hst
  split at h
  ·rename_i he
   simp only [Option.some.injEq] at h
   subst h
   exact ⟨mkR_plain (preR_plain _ _ st (by omega) hst).1,he⟩
  ·cases h
theorem rpl_row (w:List UInt8) (ns:List Int) (h:∀ n∈ns,pl n):rpl ((w :: ns.map Lib.itoa).drop 1) = true:=(rpl_ok _).2 (nums_row w ns h)
theorem same_step {J:Job} (h:J.plain) {r:List UInt8} (hr:r∈J.gs.map groundRow ++ J.ps.map pieceRow) (hd:List Int) (st:PS):stepR 1 (hd,st) r = (stepP st r).map (fun x => (hd,x)):=by
 simp only [List.mem_append,List.mem_map] at hr
 rcases hr with ⟨g,hg,rfl⟩ | ⟨p,hp,rfl⟩
 ·have h':=h.g g hg
  rw [stepR_ground (spl_ground h') (rpl_row _ _ h') (by omega) (by simp [Ground.nums]),stepP_ground (spl_ground h') rfl (nums_row _ _ h'),if_pos (by simp [Ground.nums])]
  rfl
 ·have h':=h.p p hp
  rw [stepR_piece (spl_piece h') (rpl_row _ _ h') (by simp [Piece.nums]),stepP_piece (spl_piece h') (by show isKind (kindW p.turn);cases p.turn<;>decide) (by show kindW p.turn ≠ groundW;cases p.turn<;>decide) (nums_row _ _ h'),if_pos (by simp [Piece.nums])]
  rfl
theorem fold_same:∀ (l:List (List UInt8)) (hd:List Int) (st:PS),(∀ r∈l,∀ st,stepR 1 (hd,st) r = (stepP st r).map (fun x => (hd,x)))->l.foldlM (stepR 1) (hd,st) = (l.foldlM stepP st).map (fun x => (hd,x))
 | [],hd,st,_ => rfl
 | r :: l,hd,st,h => by
  rw [List.foldlM_cons,List.foldlM_cons,h r (List.mem_cons_self ..)]
  cases stepP st r with
  | none => rfl
  | some s1 => exact fold_same l hd s1 (fun x hx => h x (List.mem_cons_of_mem _ hx))
theorem parseR_text {J:Job} (h:J.plain):parseR (sealedL (rowsOf J)) = some J:=by
 have hr:=spl_sealed h.no10
 have hbody:(J.gs.map groundRow ++ J.ps.map pieceRow).foldlM stepP ([],[]) = some (J.gs,J.ps):=by
  rw [List.foldlM_append,fold_grounds J.gs ([],[]) h.g]
  show (J.ps.map pieceRow).foldlM stepP ([] ++ J.gs,[]) = _
  rw [fold_pieces J.ps _ h.p]
  simp
 have hhead:stepR 0 zeroR (rowL leafW J.nums) = some (J.nums,[],[]):=by
  rw [stepR_head (spl_head h.n) (rpl_row _ _ h.n) ⟨rfl,by simp [Job.nums]⟩]
  have e:=fun i hi => nth_row leafW J.nums h.n (i:=i) hi
  have e0:nth' (leafW :: J.nums.map Lib.itoa) 1 = J.wide:=e 0 (of_decide_eq_true rfl)
  have e1:nth' (leafW :: J.nums.map Lib.itoa) 2 = J.high:=e 1 (of_decide_eq_true rfl)
  have e2:nth' (leafW :: J.nums.map Lib.itoa) 3 = J.book:=e 2 (of_decide_eq_true rfl)
  have e3:nth' (leafW :: J.nums.map Lib.itoa) 4 = J.spoilt:=e 3 (of_decide_eq_true rfl)
  rw [e0,e1,e2,e3]
  rfl
 have hst:preR (rowsOf J ++ [endL (rowsSum 0 (rowsOf J) % 191),[]]) ((rowsOf J ++ [endL (rowsSum 0 (rowsOf J) % 191),[]]).length - 2) = some (J.nums,J.gs,J.ps):=by
  have hl:(rowsOf J ++ [endL (rowsSum 0 (rowsOf J) % 191),[]]).length - 2 = (rowsOf J).length:=by simp
  rw [hl,preR,List.take_left]
  show (stepR 0 zeroR (rowL leafW J.nums)).bind (fun st => (J.gs.map groundRow ++ J.ps.map pieceRow).foldlM (stepR 1) st) = _
  rw [hhead,Option.bind_some,fold_same _ J.nums ([],[]) (fun r hr st => same_step h hr J.nums st),hbody]
  rfl
 unfold parseR
 dsimp only
 rw [hr,hst]
 dsimp only
 have e:mkR (J.nums,J.gs,J.ps) = J:=rfl
 rw [e,if_pos rfl]
theorem parse_same (t:List UInt8):parseR t = parseP t:=by
 cases hR:parseR t with
 | some J =>
  obtain ⟨h1,h2⟩:=parseR_some hR
  rw [← h2,parse_text h1]
 | none =>
  cases hP:parseP t with
  | none => rfl
  | some J =>
   obtain ⟨h1,h2,_⟩:=parse_some hP
   rw [← h2,parseR_text h1] at hR
   cases hR
end Go.Proofs.Leaf
namespace Go.Proofs.Leaf
open Go Go.RX Go.Proofs Go.RowKit
attribute [local go_sem] Oper.semAt_some
set_option maxRecDepth 100000
section
instance inst_gT_6:Glob:=gT
set_option maxHeartbeats 1000000 in
theorem cls_no (t:List UInt8) (hp:CtrN 88 [.d (.str t)]) (B Q:Nat) (W:World) (hG:Glob.G W) (hB:W.heap[B]? = some (.cells #[.string ⟨t.toArray⟩] 9)) :
  Calls Tryz.prog 87 #[.pointer (some ⟨B,0,none⟩),.pointer (some ⟨Q,0,none⟩)] W fun e w1 => ∃ s,e = .panicked [{ v:=.iface 149 (.agg #[.string s]),recovered:=false }]/\Keep W.heap.size W w1:=by
 have hcall:=hp.2 (fun _ => False) W #[.string ⟨t.toArray⟩] hG (fun k hk => hk.elim) (fun k hk => hk.elim) rfl (fun j u y hu hy => by
  cases j with
  | zero => simp at hu hy;subst hu;subst hy;exact repS_str _ _ _
  | succ j => simp at hy)
 have g:=cell_at hB 0
 simp only [List.getElem?_toArray,List.getElem?_cons_zero,List.getElem?_cons_succ] at g
 go_enter Tryz.func87,Tryz.ntmps87
 go_wp2_with (go_at_call 88;refine hcall.mono ?_;rintro e w1 ⟨s,rfl,hW1⟩)
 exact ⟨rfl,s,rfl,hW1⟩
end
end Go.Proofs.Leaf
namespace Go.Proofs.Leaf
open Go Go.RX Go.Proofs Go.RowKit
attribute [local go_sem] Oper.semAt_some
set_option maxRecDepth 100000
section
theorem att_none (t:List UInt8) (hp:CtrN 88 [.d (.str t)]) (w:World) (hG:Glob.G w) :
  Calls Tryz.prog 80 #[.func (.func 87) #[] #[.pointer (some ⟨w.heap.size,0,none⟩),.pointer (some ⟨w.heap.size + 1 + 1,0,none⟩)]] (readW w t) fun e w' => e = .returned (.int .i64 4)/\Below (w.heap.size + 1 + 1 + 1) (readW w t) w':=by
 obtain ⟨k0,k1,k2,hB,hG2,hz2⟩:=read_pre t w hG
 have hz:=readW_size w t
 have h:=cls_no t hp w.heap.size (w.heap.size + 1 + 1) (attW (readW w t)) hG2 (al_old _ k0)
 rw [hz2] at h
 refine (att_text 87 _ (readW w t) ⟨Tryz.f87,rfl,rfl,rfl⟩ (fun w1 => Keep (w.heap.size + 1 + 1 + 1 + 1) (attW (readW w t)) w1) (h.mono ?_)).mono ?_
 ·rintro e w1 ⟨s,rfl,hk⟩
  exact ⟨s,rfl,(hk.block _ (by omega) (fun e => by cases e)).trans (al_new _ rfl),hk⟩
 ·rintro e w' ⟨rfl,w1,hk,hb'⟩
  have hbs:=hk.size
  refine ⟨rfl,⟨hb'.os.trans hk.os,hb'.tape.trans hk.tape,hb'.output.trans hk.output,by have:=hb'.size;omega,fun k hk' => ?_⟩⟩
  rw [hb'.block k (by omega) (by omega),hk.block k (by omega) (fun e => by cases e)]
  exact hold_al _ _ k (by omega)
abbrev noJ:SV:=.agg [iS 0,iS 0,iS 0,iS 0,.d .nils,.d .nils]
theorem noJ_rep (I:Nat->Prop) (w:World):RepS I w (.agg zero6) noJ:=by
 intro Y
 refine .agg rfl (fun j u x hu hx => ?_) (fun u hu => ?_)
 ·rcases j with _ | _ | _ | _ | _ | _ | j<;>simp at hu hx<;>(subst hu;subst hx)
  ·exact .d .int
  ·exact .d .int
  ·exact .d .int
  ·exact .d .int
  ·exact .d .nils
  ·exact .d .nils
 ·simp at hu;rcases hu with rfl | rfl | rfl | rfl | rfl | rfl<;>rfl
set_option maxHeartbeats 1000000 in
theorem c_Read_no (t:List UInt8) (J:Job) (hp:Ctr Tryz.prog 88 [.d (.str t)] J.sv) (ht:t.length<=180) (hh:J.held) (hj:jobB J = false):Ctr Tryz.prog 46 [.d (.str t)] (.tup [noJ,iS 2]):=by
 refine ⟨⟨Tryz.f46,Tryz.func46,rfl,rfl⟩,fun I w vs hG hI hM hsz hrep => ?_⟩
 obtain ⟨v0,rfl⟩:∃ v0,vs = #[v0]:=Array.size_eq_one_iff.1 hsz
 obtain rfl:=str_val (hrep 0 v0 _ rfl rfl)
 have hl:¬ (180:Int) < (t.length:Int):=by omega
 obtain ⟨k0,k1,k2,_,_,_⟩:=read_pre t w hG
 have hz:=readW_size w t
 have hBW:=readW_below w t
 have hmf:∀ (fn:Fn) (first cap:Array Value) (w:World),(Instr.makeFunc fn first cap).run Tryz.prog w = .ok (.func fn first cap) w:=fun _ _ _ _ => rfl
 have hatt:=att_read t J hp w hG
 go_enter Tryz.func46,Tryz.ntmps46
 go_wp2_with (first | (go_at_call 80;refine hatt.mono ?_;rintro e w1 ⟨rfl,hX,a,b,c,d,p1,l1,c1,p2,l2,c2,h1,N,hN,hF⟩;have hR1:=(hX.block _ (by omega) (by omega)).trans k1;have q:=cell_at h1;have q0:=q 0;have q1:=q 1;have q2:=q 2;have q3:=q 3;have q4:=q 4;have q5:=q 5;clear q;simp only [List.getElem?_toArray,List.getElem?_cons_zero,List.getElem?_cons_succ] at q0 q1 q2 q3 q4 q5) | (go_at_call 57;have hBw1:Below w.heap.size w w1:=below_but hBW hX (by omega);refine ((c_isJob J hh).2 N w1 _ (Glob.st _ _ hG (hBw1.mono (Glob.lo _ hG))) (fun k hk => (hN k hk).2) (fun k hk e => by cases e) rfl (fun j u y hu hy => by cases j with | zero => simp at hu hy;subst hu;subst hy;exact hF | succ j => simp at hy)).mono ?_;rintro e w2 ⟨v,rfl,hv,hK2⟩;obtain rfl:v = .bool false:=(by have:=mt_d (hv (fun _ => none));rw [hj] at this;cases this;rfl);have hz1:=hX.size;have hQ2:=(hK2.block (w.heap.size + 1 + 1) (by omega) (fun e => by cases e)).trans h1;have hR2:=(hK2.block (w.heap.size + 1) (by omega) (fun e => by cases e)).trans hR1;have u:=cell_at hQ2;have u0:=u 0;have u1:=u 1;have u2:=u 2;have u3:=u 3;have u4:=u 4;have u5:=u 5;clear u;have r:=cell_at hR2;have r0:=r 0;have r1:=r 1;have r2:=r 2;have r3:=r 3;have r4:=r 4;have r5:=r 5;clear r;simp only [zero6,List.getElem?_toArray,List.getElem?_cons_zero,List.getElem?_cons_succ] at u0 u1 u2 u3 u4 u5 r0 r1 r2 r3 r4 r5;have fz:∀ o,w2.frozen? ⟨w.heap.size + 1,o,none⟩ = false:=fun o => by simp [World.frozen?,hR2]))
 obtain ⟨W',hW'⟩:∃ W',put6 w2 (w.heap.size + 1) (.int .i64 0) (.int .i64 0) (.int .i64 0) (.int .i64 0) (.slice none 0 0) (.slice none 0 0) = W':=⟨_,rfl⟩
 have hput:=put6_at hR2 (.int .i64 0) (.int .i64 0) (.int .i64 0) (.int .i64 0) (.slice none 0 0) (.slice none 0 0)
 rw [hW'] at hput
 unfold put6 at hW'
 rw [hW']
 obtain ⟨s7,hb,hz'⟩:=hput
 have y:=cell_at s7
 have y0:=y 0
 have y1:=y 1
 have y2:=y 2
 have y3:=y 3
 have y4:=y 4
 have y5:=y 5
 clear y
 simp only [List.getElem?_toArray,List.getElem?_cons_zero,List.getElem?_cons_succ] at y0 y1 y2 y3 y4 y5
 have hB12:Keep w.heap.size w w2:=(keepT hBw1 (Glob.lo _ hG)).trans (hK2.mono hBw1.size)
 have hBf:Below w.heap.size w W':=bel_of hB12 hb (Nat.le_refl _) (by omega)
 refine bodyPost_ret (by simp [results,Tryz.results46,go_sem,y0,y1,y2,y3,y4,y5];rfl) rfl ?_
 refine ⟨_,rfl,?_,keepT hBf (Glob.lo _ hG)⟩
 exact two_rep (noJ_rep _ _)
set_option maxHeartbeats 1000000 in
theorem c_Read_text (t:List UInt8) (hp:CtrN 88 [.d (.str t)]) (ht:t.length<=180):Ctr Tryz.prog 46 [.d (.str t)] (.tup [noJ,iS 4]):=by
 refine ⟨⟨Tryz.f46,Tryz.func46,rfl,rfl⟩,fun I w vs hG hI hM hsz hrep => ?_⟩
 obtain ⟨v0,rfl⟩:∃ v0,vs = #[v0]:=Array.size_eq_one_iff.1 hsz
 obtain rfl:=str_val (hrep 0 v0 _ rfl rfl)
 have hl:¬ (180:Int) < (t.length:Int):=by omega
 obtain ⟨k0,k1,k2,_,_,_⟩:=read_pre t w hG
 have hz:=readW_size w t
 have hBW:=readW_below w t
 have hmf:∀ (fn:Fn) (first cap:Array Value) (w:World),(Instr.makeFunc fn first cap).run Tryz.prog w = .ok (.func fn first cap) w:=fun _ _ _ _ => rfl
 have hatt:=att_none t hp w hG
 go_enter Tryz.func46,Tryz.ntmps46
 go_wp2_with (go_at_call 80;refine hatt.mono ?_;rintro e w1 ⟨rfl,hX⟩;have hz1:=hX.size;have hR2:=(hX.block _ (by omega)).trans k1;have r:=cell_at hR2;have r0:=r 0;have r1:=r 1;have r2:=r 2;have r3:=r 3;have r4:=r 4;have r5:=r 5;clear r;simp only [zero6,List.getElem?_toArray,List.getElem?_cons_zero,List.getElem?_cons_succ] at r0 r1 r2 r3 r4 r5;have fz:∀ o,w1.frozen? ⟨w.heap.size + 1,o,none⟩ = false:=fun o => by simp [World.frozen?,hR2])
 obtain ⟨W',hW'⟩:∃ W',put6 w1 (w.heap.size + 1) (.int .i64 0) (.int .i64 0) (.int .i64 0) (.int .i64 0) (.slice none 0 0) (.slice none 0 0) = W':=⟨_,rfl⟩
 have hput:=put6_at hR2 (.int .i64 0) (.int .i64 0) (.int .i64 0) (.int .i64 0) (.slice none 0 0) (.slice none 0 0)
 rw [hW'] at hput
 unfold put6 at hW'
 rw [hW']
 obtain ⟨s7,hb,hz'⟩:=hput
 have y:=cell_at s7
 have y0:=y 0
 have y1:=y 1
 have y2:=y 2
 have y3:=y 3
 have y4:=y 4
 have y5:=y 5
 clear y
 simp only [List.getElem?_toArray,List.getElem?_cons_zero,List.getElem?_cons_succ] at y0 y1 y2 y3 y4 y5
 have hB12:Keep w.heap.size w w1:=keepT (hBW.trans (hX.mono (by omega))) (Glob.lo _ hG)
 have hBf:Below w.heap.size w W':=bel_of hB12 hb (Nat.le_refl _) (by omega)
 refine bodyPost_ret (by simp [results,Tryz.results46,go_sem,y0,y1,y2,y3,y4,y5];rfl) rfl ?_
 exact ⟨_,rfl,two_rep (noJ_rep _ _),keepT hBf (Glob.lo _ hG)⟩
theorem c_Read_long (t:List UInt8) (ht:180 < t.length):Ctr Tryz.prog 46 [.d (.str t)] (.tup [noJ,iS 3]):=by
 have hl:decide ((180:Int) < (t.length:Int)) = true:=by simp;omega
 (refine Ctr.mk (fn:=Tryz.f46) rfl rfl rfl rfl rfl Tryz.results46 ?_;intro _;dsimp only [args,List.toList_toArray])
 (first|refine qE ?_|refine qD ?_);(simp only [go_sem,↓dP,↓reduceIte];with_reducible and_intros;all_goals first|apply qA|exact qC|skip)
 refine Ok.seq ?_
 (first|refine qE ?_|refine qD ?_);(simp only [go_sem,↓dP,↓reduceIte];with_reducible and_intros;all_goals first|apply qA|exact qC|skip)
 refine Ok.cond rfl (fun _ => ?_) (fun hb => by rw [hl] at hb;cases hb)
 (first|refine qE ?_|refine qD ?_);(simp only [go_sem,↓dP,↓reduceIte];with_reducible and_intros;all_goals first|apply qA|exact qC|skip)
 (refine Ok.ret ?_;(try dsimp only [thenK,blockK,noGotoK]);simp only [toList_mk,List.toList_toArray,retK_ret,retK_normal,resOK,resV,celV,rowV,frzAll,frzT,subV,subL,go_sem,↓dP,↓reduceIte])
 ((repeat' with_reducible apply And.intro)<;>(first | exact DEq.refl _ | refine DEq.int ?_ | refine DEq.bool ?_ | skip))
end
end Go.Proofs.Leaf
namespace Go.Proofs.YtdajcfdhcjbmmaaGreatDoor
open Go Go.RX Go.Proofs.Leaf Go.RowKit Go.ChangeShapes Go.WideShapes Go.ChangeAt
set_option maxRecDepth 100000
section
variable {H : Type} {enc : TypeId × Value → H} {W : World}
end
theorem opensAll_cons {t:TypeId} {ts:List TypeId} {As:List SV} (h:opensAll (t :: ts) As):∃ A Bs,As = A :: Bs/\opens t A/\opensAll ts Bs:=by
 cases As with
 | nil => exact h.elim
 | cons A Bs => exact ⟨A,Bs,rfl,h.1,h.2⟩
theorem opensAll_nil {As:List SV} (h:opensAll [] As):As = []:=by
 cases As with
 | nil => rfl
 | cons A Bs => exact h.elim
end Go.Proofs.YtdajcfdhcjbmmaaGreatDoor
namespace Go.Proofs.Leaf
open Go Go.RX Go.Proofs
set_option maxRecDepth 10000
variable [Glob]
theorem c_tSplit (s:List UInt8) (c:UInt8) (n:Int) (hn:n = (c.toNat:Int)) (hl:s.length<=1000):Ctr Tryz.prog 91 [.d (.str s),.d (.int .u8 n)] (.d (strsD (spl c s))):=by
 (refine Ctr.mk (fn:=Tryz.f91) rfl rfl rfl rfl rfl Tryz.results91 ?_;intro _;dsimp only [args,List.toList_toArray])
 (first|refine qE ?_|refine qD ?_);(simp only [go_sem,↓dP,↓reduceIte];with_reducible and_intros;all_goals first|apply qA|exact qC|skip)
 (first|refine qE ?_|refine qD ?_);(simp only [go_sem,↓dP,↓reduceIte];with_reducible and_intros;all_goals first|apply qA|exact qC|skip)
 (first|refine qE ?_|refine qD ?_);(simp only [go_sem,↓dP,↓reduceIte];with_reducible and_intros;all_goals first|apply qA|exact qC|skip)
 refine Ok.seq ?_
 (first|refine qE ?_|refine qD ?_);(simp only [go_sem,↓dP,↓reduceIte];with_reducible and_intros;all_goals first|apply qA|exact qC|skip)
 refine Ok.block ?_
 refine Ok.count s.length (fun i => ⟨[(0,.d (.str s)),(1,.d (.int .u8 n)),(5,.tk 0),(6,iS (fromC c s i)),(7,iS i)],[],[ownD 9 1 strD (outC c s i)]⟩) (fun _ => True) ⟨trivial,?_⟩ ?_ ?_
 ·(refine Sub.of ([]) ([none]) ?_ ?_ ?_ rfl rfl<;>simp only [subB,subB1,subT,subT1,newT,subE,subV,subL,go_sem,↓dP,↓reduceIte]<;>(try (repeat' with_reducible apply And.intro))<;>(try first | exact DEq.refl _ | refine DEq.int ?_ | refine DEq.bool ?_ | omega))
  rfl
 ·intro i hi _
  have hf:=fromC_le c s i
  have ho:=outC_len c s i
  have hcn:∀ {b:UInt8},((b.toNat:Int) = n) ↔ b = c:=by
   intro b
   subst hn
   exact ⟨fun h => UInt8.toNat_inj.1 (by omega),fun h => by rw [h]⟩
  refine Ok.seq ?_;((first|refine qE ?_|refine qD ?_);(simp only [go_sem,↓dP,↓reduceIte];with_reducible and_intros;all_goals first|apply qA|exact qC|skip));refine Ok.cond rfl (fun _ => ?_) (fun hb => by simp at hb;omega);(refine Ok.skip ?_;(try dsimp only [thenK,blockK,noGotoK]));refine Ok.seq ?_;refine Ok.block ?_
  (first|refine qE ?_|refine qD ?_);(simp only [go_sem,↓dP,↓reduceIte];with_reducible and_intros;all_goals first|apply qA|exact qC|skip)
  refine Ok.cond rfl ?_ ?_
  ·intro hb
   have hb':s.getD i 0 = c:=hcn.1 (by simpa using hb)
   (first|refine qE ?_|refine qD ?_);(simp only [go_sem,↓dP,↓reduceIte];with_reducible and_intros;all_goals first|apply qA|exact qC|skip)
   (first|refine qE ?_|refine qD ?_);(simp only [go_sem,↓dP,↓reduceIte];with_reducible and_intros;all_goals first|apply qA|exact qC|skip)
   (try dsimp only [thenK,blockK,noGotoK])
   (first|refine qE ?_|refine qD ?_);(simp only [go_sem,↓dP,↓reduceIte];with_reducible and_intros;all_goals first|apply qA|exact qC|skip)
   (try dsimp only [thenK,blockK,noGotoK])
   refine ⟨trivial,?_⟩
   rw [fromC_succ,outC_succ,if_pos hb',if_pos hb']
   (refine Sub.of ([]) ([some 2]) ?_ ?_ ?_ rfl rfl<;>simp only [subB,subB1,subT,subT1,newT,subE,subV,subL,go_sem,↓dP,↓reduceIte]<;>(try (repeat' with_reducible apply And.intro))<;>(try first | exact DEq.refl _ | refine DEq.int ?_ | refine DEq.bool ?_ | omega))
   ·simp
   ·exact snoc_D (str_snoc _)
  ·intro hb
   have hb':s.getD i 0 ≠ c:=fun h => by rw [hcn.2 h] at hb;simp at hb
   (refine Ok.skip ?_;(try dsimp only [thenK,blockK,noGotoK]))
   (first|refine qE ?_|refine qD ?_);(simp only [go_sem,↓dP,↓reduceIte];with_reducible and_intros;all_goals first|apply qA|exact qC|skip)
   (try dsimp only [thenK,blockK,noGotoK])
   refine ⟨trivial,?_⟩
   rw [fromC_succ,outC_succ,if_neg hb',if_neg hb']
   (refine Sub.of ([]) ([some 0]) ?_ ?_ ?_ rfl rfl<;>simp only [subB,subB1,subT,subT1,newT,subE,subV,subL,go_sem,↓dP,↓reduceIte]<;>(try (repeat' with_reducible apply And.intro))<;>(try first | exact DEq.refl _ | refine DEq.int ?_ | refine DEq.bool ?_ | omega))
   exact fun _ _ _ _ => DEq.refl _
 ·intro _
  have hf:=fromC_le c s s.length
  have ho:=outC_len c s s.length
  have hsp:=outC_spl c s s.length (Nat.le_refl _)
  rw [List.take_length] at hsp
  refine Ok.seq ?_;((first|refine qE ?_|refine qD ?_);(simp only [go_sem,↓dP,↓reduceIte];with_reducible and_intros;all_goals first|apply qA|exact qC|skip));refine Ok.cond rfl (fun hb => by simp at hb) (fun _ => ?_);(refine Ok.exit ?_;simp only [thenK_exit,blockK_exit,noGotoK_exit,thenK_normal,blockK_normal,noGotoK_normal,↓reduceIte,Nat.reduceEqDiff])
  (first|refine qE ?_|refine qD ?_);(simp only [go_sem,↓dP,↓reduceIte];with_reducible and_intros;all_goals first|apply qA|exact qC|skip)
  (refine Ok.ret ?_;(try dsimp only [thenK,blockK,noGotoK]);simp only [toList_mk,List.toList_toArray,retK_ret,retK_normal,resOK,resV,celV,rowV,frzAll,frzT,subV,subL,go_sem,↓dP,↓reduceIte])
  rw [hsp,List.take_length]
  exact DEq.sl (by simp) (fun i j hi hj => snoc_D (str_snoc _) i j hi hj)
theorem c_tDecimaln:∀ n:Nat,1<=n->n < 1000000->Ctr Tryz.prog 127 [iS (-(n:Int))] (.d (.str (45 :: Lib.decDigits n))):=by
 intro n
 induction n using Nat.strongRecOn with
 | _ n ih =>
 intro h1 hn
 (refine Ctr.mk (fn:=Tryz.f127) rfl rfl rfl rfl rfl Tryz.results127 ?_;intro _;dsimp only [args,List.toList_toArray])
 (first|refine qE ?_|refine qD ?_);(simp only [go_sem,↓dP,↓reduceIte];with_reducible and_intros;all_goals first|apply qA|exact qC|skip)
 refine Ok.seq ?_
 (first|refine qE ?_|refine qD ?_);(simp only [go_sem,↓dP,↓reduceIte];with_reducible and_intros;all_goals first|apply qA|exact qC|skip)
 refine Ok.cond rfl ?_ ?_
 ·intro hb
  have hb':n < 10:=by simp at hb;omega
  (first|refine qE ?_|refine qD ?_);(simp only [go_sem,↓dP,↓reduceIte];with_reducible and_intros;all_goals first|apply qA|exact qC|skip)
  ·exact R8 (by omega) (by omega)
  ·exact byt_p (by omega) (by omega)
  ·rw [byt_s _ (48 + n) (by omega)]
   simp only [strRoom,List.length_cons,List.length_nil]
   omega
  (refine Ok.ret ?_;(try dsimp only [thenK,blockK,noGotoK]);simp only [toList_mk,List.toList_toArray,retK_ret,retK_normal,resOK,resV,celV,rowV,frzAll,frzT,subV,subL,go_sem,↓dP,↓reduceIte])
  refine DEq.str ?_
  rw [byt_s _ (48 + n) (by omega),Lib.decDigits,dif_pos hb']
 ·intro hb
  have hb':¬ n < 10:=fun h => by simp at hb;omega
  (refine Ok.skip ?_;(try dsimp only [thenK,blockK,noGotoK]))
  refine Ok.seq ?_
  (first|refine qE ?_|refine qD ?_);(simp only [go_sem,↓dP,↓reduceIte];with_reducible and_intros;all_goals first|apply qA|exact qC|skip)
  refine Ok.cond rfl (fun _ => ?_) (fun hb => by simp at hb;omega)
  (first|refine qE ?_|refine qD ?_);(simp only [go_sem,↓dP,↓reduceIte];with_reducible and_intros;all_goals first|apply qA|exact qC|skip)
  ·rw [tdivM];exact R64 (by omega) (by omega)
  rw [tdivM]
  (refine AskI.ret (ih (n / 10) (by omega) (by omega) (by omega)) ?_;simp only [go_sem,↓dP,↓reduceIte];with_reducible and_intros;all_goals first|apply qA|exact qC|skip)
  ·rw [tmodM];exact R64 (by omega) (by omega)
  ·rw [tmodM];exact R8 (by omega) (by omega)
  ·rw [tmodM];exact byt_p (by omega) (by omega)
  ·rw [tmodM,byt_s _ (48 + n % 10) (by omega)]
   have:=decLen (n / 10) (by omega)
   simp only [strRoom,List.length_cons,List.length_nil]
   omega
  (refine Ok.ret ?_;(try dsimp only [thenK,blockK,noGotoK]);simp only [toList_mk,List.toList_toArray,retK_ret,retK_normal,resOK,resV,celV,rowV,frzAll,frzT,subV,subL,go_sem,↓dP,↓reduceIte])
  refine DEq.str ?_
  rw [tmodM,byt_s _ (48 + n % 10) (by omega)]
  conv => rhs;rw [Lib.decDigits,dif_neg hb']
theorem c_tDecimalz (z:Int) (h0:-1000 < z) (h1:z < 1000):Ctr Tryz.prog 127 [iS z] (.d (.str (Lib.itoa z))):=by
 by_cases h:z < 0
 ·obtain ⟨u,rfl⟩:∃ u:Nat,z = -(u:Int):=⟨z.natAbs,by omega⟩
  rw [Lib.itoa_neg u (by omega)]
  exact c_tDecimaln u (by omega) (by omega)
 ·obtain ⟨u,rfl⟩:∃ u:Nat,z = (u:Int):=⟨z.toNat,by omega⟩
  rw [Lib.itoa_nonneg]
  exact c_tDecimal u (by omega)
theorem c_tnumber (w:List UInt8) (hw:w.length<=1000):Ctr Tryz.prog 148 [.d (.str w),iS 2] (.tup [iS (rnum w).1,bS (rnum w).2]):=by
 generalize hrn:rnum w = p
 unfold rnum at hrn
 (refine Ctr.mk (fn:=Tryz.f148) rfl rfl rfl rfl rfl Tryz.results148 ?_;intro _;dsimp only [args,List.toList_toArray])
 (first|refine qE ?_|refine qD ?_);(simp only [go_sem,↓dP,↓reduceIte];with_reducible and_intros;all_goals first|apply qA|exact qC|skip)
 (first|refine qE ?_|refine qD ?_);(simp only [go_sem,↓dP,↓reduceIte];with_reducible and_intros;all_goals first|apply qA|exact qC|skip)
 refine Ok.join (σ':=⟨[(0,.d (.str w)),(1,iS 2),(6,iS (sgnW w)),(7,.d (.str (bodW w)))],[],[]⟩) ?_ ?_
 ·(first|refine qE ?_|refine qD ?_);(simp only [go_sem,↓dP,↓reduceIte];with_reducible and_intros;all_goals first|apply qA|exact qC|skip)
  ·intro h;simpa using h
  refine Ok.cond rfl (fun hb => ?_) (fun hb => ?_)
  ·have hb':0 < w.length/\(w.getD 0 0).toNat = 45:=by
    simp only [Bool.and_eq_true,decide_eq_true_eq,beq_iff_eq] at hb
    omega
   have hm:w.getD 0 0 = 45:=UInt8.toNat_inj.1 hb'.2
   (first|refine qE ?_|refine qD ?_);(simp only [go_sem,↓dP,↓reduceIte];with_reducible and_intros;all_goals first|apply qA|exact qC|skip)
   (try dsimp only [thenK,blockK,noGotoK])
   simp only [sgnW,bodW,if_pos hm]
   (refine Sub.of ([]) ([]) ?_ ?_ ?_ rfl rfl<;>simp only [subB,subB1,subT,subT1,newT,subE,subV,subL,go_sem,↓dP,↓reduceIte]<;>(try (repeat' with_reducible apply And.intro))<;>(try first | exact DEq.refl _ | refine DEq.int ?_ | refine DEq.bool ?_ | omega))
   rw [List.take_length]
   exact .refl _
  ·have hm:w.getD 0 0 ≠ 45:=fun e => by
    have h0:0 < w.length:=by
     rcases Nat.eq_zero_or_pos w.length with h | h
     ·rw [List.length_eq_zero_iff.1 h] at e;exact absurd e (by decide)
     ·exact h
    rw [e] at hb
    simp only [Bool.and_eq_false_iff,decide_eq_false_iff_not] at hb
    rcases hb with hb | hb
    ·omega
    ·exact absurd hb (by decide)
   (refine Ok.skip ?_;(try dsimp only [thenK,blockK,noGotoK]))
   simp only [sgnW,bodW,if_neg hm]
   (refine Sub.of ([]) ([]) ?_ ?_ ?_ rfl rfl<;>simp only [subB,subB1,subT,subT1,newT,subE,subV,subL,go_sem,↓dP,↓reduceIte]<;>(try (repeat' with_reducible apply And.intro))<;>(try first | exact DEq.refl _ | refine DEq.int ?_ | refine DEq.bool ?_ | omega))
 have hbl:(bodW w).length<=w.length:=by
  unfold bodW
  split
  ·rw [List.length_drop];omega
  ·omega
 have hsg:sgnW w = 1∨sgnW w = -1:=by unfold sgnW;split<;>simp
 generalize bodW w = b at hbl hrn
 generalize sgnW w = g at hrn hsg
 refine Ok.seq ?_
 (first|refine qE ?_|refine qD ?_);(simp only [go_sem,↓dP,↓reduceIte];with_reducible and_intros;all_goals first|apply qA|exact qC|skip)
 refine Ok.cond rfl (fun hb => ?_) (fun hb => ?_)
 ·have hb':b.length < 1∨2 < b.length:=by
   simp at hb
   omega
  rw [if_pos hb'] at hrn
  (first|refine qE ?_|refine qD ?_);(simp only [go_sem,↓dP,↓reduceIte];with_reducible and_intros;all_goals first|apply qA|exact qC|skip)
  (refine Ok.ret ?_;(try dsimp only [thenK,blockK,noGotoK]);simp only [toList_mk,List.toList_toArray,retK_ret,retK_normal,resOK,resV,celV,rowV,frzAll,frzT,subV,subL,go_sem,↓dP,↓reduceIte])
  subst hrn
  exact ⟨.refl _,.refl _⟩
 have hb':¬ (b.length < 1∨2 < b.length):=by
  simp at hb
  omega
 rw [if_neg hb'] at hrn
 (refine Ok.skip ?_;(try dsimp only [thenK,blockK,noGotoK]))
 (first|refine qE ?_|refine qD ?_);(simp only [go_sem,↓dP,↓reduceIte];with_reducible and_intros;all_goals first|apply qA|exact qC|skip)
 refine Ok.seq ?_
 (first|refine qE ?_|refine qD ?_);(simp only [go_sem,↓dP,↓reduceIte];with_reducible and_intros;all_goals first|apply qA|exact qC|skip)
 refine Ok.block ?_
 refine Ok.count b.length (fun i => ⟨[(0,.d (.str w)),(1,iS 2),(6,iS g),(7,.d (.str b)),(8,iS (numL (b.take i):Nat)),(9,iS i)],[],[]⟩) (fun i => ∀ k,k < i->digit (b.getD k 0) = true) ⟨fun k hk => by omega,?_⟩ ?_ ?_
 ·(refine Sub.of ([]) ([]) ?_ ?_ ?_ rfl rfl<;>simp only [subB,subB1,subT,subT1,newT,subE,subV,subL,go_sem,↓dP,↓reduceIte]<;>(try (repeat' with_reducible apply And.intro))<;>(try first | exact DEq.refl _ | refine DEq.int ?_ | refine DEq.bool ?_ | omega))
 ·intro i hi hj
  refine Ok.seq ?_;((first|refine qE ?_|refine qD ?_);(simp only [go_sem,↓dP,↓reduceIte];with_reducible and_intros;all_goals first|apply qA|exact qC|skip));refine Ok.cond rfl (fun _ => ?_) (fun hb => by simp at hb;omega);(refine Ok.skip ?_;(try dsimp only [thenK,blockK,noGotoK]));refine Ok.seq ?_;refine Ok.block ?_
  refine Ok.seq ?_
  (first|refine qE ?_|refine qD ?_);(simp only [go_sem,↓dP,↓reduceIte];with_reducible and_intros;all_goals first|apply qA|exact qC|skip)
  refine Ok.cond rfl (fun hb => ?_) (fun hb => ?_)
  ·have hd:digit (b.getD i 0) = false:=by
    simp only [digit,Bool.and_eq_false_iff,decide_eq_false_iff_not]
    simp only [Bool.or_eq_true,decide_eq_true_eq] at hb
    omega
   have ha:¬ b.all digit = true:=fun h => by
    rw [List.all_eq_true] at h
    have:=h _ (getD_mem hi)
    rw [← getD0,hd] at this
    cases this
   rw [if_neg ha] at hrn
   (first|refine qE ?_|refine qD ?_);(simp only [go_sem,↓dP,↓reduceIte];with_reducible and_intros;all_goals first|apply qA|exact qC|skip)
   (refine Ok.ret ?_;(try dsimp only [thenK,blockK,noGotoK]);simp only [toList_mk,List.toList_toArray,retK_ret,retK_normal,resOK,resV,celV,rowV,frzAll,frzT,subV,subL,go_sem,↓dP,↓reduceIte])
   subst hrn
   exact ⟨.refl _,.refl _⟩
  ·have hd:48<=(b.getD i 0).toNat/\(b.getD i 0).toNat<=57:=by
    simp only [Bool.or_eq_false_iff,decide_eq_false_iff_not] at hb
    omega
   have hdg:digit (b.getD i 0) = true:=by
    simp only [digit,Bool.and_eq_true,decide_eq_true_eq]
    exact hd
   have hnl:=numL_lt' b i hj (by omega)
   have hpow:10 ^ i<=100:=by
    have:=Nat.pow_le_pow_right (n:=10) (by decide) (show i<=2 by omega)
    simpa using this
   have hns:numL (b.take (i + 1)) = 10 * numL (b.take i) + ((b.getD i 0).toNat - 48):=by rw [getD_take hi,numL_snoc];rfl
   generalize hB:(b.getD i 0).toNat = q at hd hns
   (refine Ok.skip ?_;(try dsimp only [thenK,blockK,noGotoK]))
   (first|refine qE ?_|refine qD ?_);(simp only [go_sem,↓dP,↓reduceIte];with_reducible and_intros;all_goals first|apply qA|exact qC|skip)
   ·exact R8 (by omega) (by omega)
   (try dsimp only [thenK,blockK,noGotoK])
   (first|refine qE ?_|refine qD ?_);(simp only [go_sem,↓dP,↓reduceIte];with_reducible and_intros;all_goals first|apply qA|exact qC|skip)
   (try dsimp only [thenK,blockK,noGotoK])
   refine ⟨fun k hk => ?_,?_⟩
   ·by_cases h:k < i
    ·exact hj k h
    ·have:k = i:=by omega
     subst this
     exact hdg
   ·(refine Sub.of ([]) ([]) ?_ ?_ ?_ rfl rfl<;>simp only [subB,subB1,subT,subT1,newT,subE,subV,subL,go_sem,↓dP,↓reduceIte]<;>(try (repeat' with_reducible apply And.intro))<;>(try first | exact DEq.refl _ | refine DEq.int ?_ | refine DEq.bool ?_ | omega))
    rw [hns];omega
 ·intro hj
  have ha:b.all digit = true:=by
   rw [List.all_eq_true]
   intro x hx
   obtain ⟨k,hk,rfl⟩:=List.mem_iff_getElem.1 hx
   have:=hj k hk
   rw [getD0,getD_lt hk] at this
   exact this
  rw [if_pos ha] at hrn
  have hnl:=numL_lt' b b.length hj (Nat.le_refl _)
  rw [List.take_length] at hnl
  have hpow:10 ^ b.length<=10 ^ 3:=Nat.pow_le_pow_right (n:=10) (by decide) (by omega)
  refine Ok.seq ?_;((first|refine qE ?_|refine qD ?_);(simp only [go_sem,↓dP,↓reduceIte];with_reducible and_intros;all_goals first|apply qA|exact qC|skip));refine Ok.cond rfl (fun hb => by simp at hb) (fun _ => ?_);(refine Ok.exit ?_;simp only [thenK_exit,blockK_exit,noGotoK_exit,thenK_normal,blockK_normal,noGotoK_normal,↓reduceIte,Nat.reduceEqDiff])
  rw [List.take_length]
  have hgn:-1000 < g * (numL b:Nat)/\g * (numL b:Nat) < 1000:=by
   rcases hsg with rfl | rfl<;>omega
  (first|refine qE ?_|refine qD ?_);(simp only [go_sem,↓dP,↓reduceIte];with_reducible and_intros;all_goals first|apply qA|exact qC|skip)
  (refine AskI.ret (c_tDecimalz _ hgn.1 hgn.2) ?_;simp only [go_sem,↓dP,↓reduceIte];with_reducible and_intros;all_goals first|apply qA|exact qC|skip)
  (refine Ok.ret ?_;(try dsimp only [thenK,blockK,noGotoK]);simp only [toList_mk,List.toList_toArray,retK_ret,retK_normal,resOK,resV,celV,rowV,frzAll,frzT,subV,subL,go_sem,↓dP,↓reduceIte])
  subst hrn
  exact ⟨.refl _,.refl _⟩
theorem c_tNumbers (ws : List (List UInt8)) (hl : ws.length ≤ 1000) (hw : ∀ w ∈ ws, w.length ≤ 1000) : Ctr Tryz.prog 128 [.d (strsD ws), iS 2] (.tup [.d (slD 1 intD (if rall ws then rnums ws else [])), bS (rall ws)]) := by
  (refine Ctr.mk (fn := Tryz.f128) rfl rfl rfl rfl rfl Tryz.results128 ?_; intro _; dsimp only [args, List.toList_toArray])
  (first|refine qE ?_|refine qD ?_);(simp only [go_sem,↓dP,↓reduceIte];with_reducible and_intros;all_goals first|apply qA|exact qC|skip)
  (first|refine qE ?_|refine qD ?_);(simp only [go_sem,↓dP,↓reduceIte];with_reducible and_intros;all_goals first|apply qA|exact qC|skip)
  refine Ok.seq ?_
  (first|refine qE ?_|refine qD ?_);(simp only [go_sem,↓dP,↓reduceIte];with_reducible and_intros;all_goals first|apply qA|exact qC|skip)
  refine Ok.block ?_
  refine Ok.count ws.length (fun i => ⟨[(0, .d (strsD ws)), (1, iS 2), (6, .tk 0), (7, iS i)], [], [ownD 3 1 intD (rnums (ws.take i))]⟩) (fun i => ∀ k, k < i → (rnum (ws.getD k default)).2 = true) ⟨fun k hk => by omega, ?_⟩ ?_ ?_
  · (refine Sub.of ([]) ([none]) ?_ ?_ ?_ rfl rfl <;> simp only [subB, subB1, subT, subT1, newT, subE, subV, subL, go_sem,↓dP,↓reduceIte] <;> (try (repeat' with_reducible apply And.intro)) <;> (try first | exact DEq.refl _ | refine DEq.int ?_ | refine DEq.bool ?_ | omega))
    rfl
  · intro i hi hj
    have hlen : (rnums (ws.take i)).length = i := by rw [rnums, List.length_map, List.length_take]; omega
    have hsn : rnums (ws.take (i + 1)) = rnums (ws.take i) ++ [(rnum (ws.getD i default)).1] := by rw [rnums, rnums, getD_take hi, List.map_append]; rfl
    refine Ok.seq ?_; ((first|refine qE ?_|refine qD ?_);(simp only [go_sem,↓dP,↓reduceIte];with_reducible and_intros;all_goals first|apply qA|exact qC|skip)); refine Ok.cond rfl (fun _ => ?_) (fun hb => by simp at hb; omega); (refine Ok.skip ?_; (try dsimp only [thenK, blockK, noGotoK])); refine Ok.seq ?_; refine Ok.block ?_
    (first|refine qE ?_|refine qD ?_);(simp only [go_sem,↓dP,↓reduceIte];with_reducible and_intros;all_goals first|apply qA|exact qC|skip)
    (refine AskI.ret (c_tnumber (ws.getD i default) (hw _ (getD_mem hi))) ?_; simp only [go_sem,↓dP,↓reduceIte];with_reducible and_intros;all_goals first|apply qA|exact qC|skip)
    refine Ok.seq ?_
    (first|refine qE ?_|refine qD ?_);(simp only [go_sem,↓dP,↓reduceIte];with_reducible and_intros;all_goals first|apply qA|exact qC|skip)
    refine Ok.cond rfl ?_ ?_
    · intro hb
      have hf : rall ws = false := by
        rw [Bool.eq_false_iff]
        intro h
        rw [rall, List.all_eq_true] at h
        have := h _ (getD_mem hi)
        rw [this] at hb
        simp at hb
      rw [hf]
      (first|refine qE ?_|refine qD ?_);(simp only [go_sem,↓dP,↓reduceIte];with_reducible and_intros;all_goals first|apply qA|exact qC|skip)
      (refine Ok.ret ?_; (try dsimp only [thenK, blockK, noGotoK]); simp only [toList_mk, List.toList_toArray, retK_ret, retK_normal, resOK, resV, celV, rowV, frzAll, frzT, subV, subL, go_sem,↓dP,↓reduceIte])
      exact ⟨DEq.nils rfl, .refl _⟩
    · intro hb
      have hok : (rnum (ws.getD i default)).2 = true := by simpa using hb
      (refine Ok.skip ?_; (try dsimp only [thenK, blockK, noGotoK]))
      (first|refine qE ?_|refine qD ?_);(simp only [go_sem,↓dP,↓reduceIte];with_reducible and_intros;all_goals first|apply qA|exact qC|skip)
      (try dsimp only [thenK, blockK, noGotoK])
      (first|refine qE ?_|refine qD ?_);(simp only [go_sem,↓dP,↓reduceIte];with_reducible and_intros;all_goals first|apply qA|exact qC|skip)
      (try dsimp only [thenK, blockK, noGotoK])
      refine ⟨fun k hk => ?_, ?_⟩
      · by_cases h : k < i
        · exact hj k h
        · have : k = i := by omega
          subst this
          exact hok
      · (refine Sub.of ([]) ([some 1]) ?_ ?_ ?_ rfl rfl <;> simp only [subB, subB1, subT, subT1, newT, subE, subV, subL, go_sem,↓dP,↓reduceIte] <;> (try (repeat' with_reducible apply And.intro)) <;> (try first | exact DEq.refl _ | refine DEq.int ?_ | refine DEq.bool ?_ | omega))
        · rw [hsn]; simp
        · rw [hsn]
          exact snoc_D (fun c hc => by have : c = 0 := by omega
                                       subst this; rfl)
  · intro hj
    have ht : rall ws = true := by
      rw [rall, List.all_eq_true]
      intro x hx
      obtain ⟨k, hk, rfl⟩ := List.mem_iff_getElem.1 hx
      have := hj k hk
      rw [getD_lt hk] at this
      exact this
    rw [ht]
    refine Ok.seq ?_; ((first|refine qE ?_|refine qD ?_);(simp only [go_sem,↓dP,↓reduceIte];with_reducible and_intros;all_goals first|apply qA|exact qC|skip)); refine Ok.cond rfl (fun hb => by simp at hb) (fun _ => ?_); (refine Ok.exit ?_; simp only [thenK_exit, blockK_exit, noGotoK_exit, thenK_normal, blockK_normal, noGotoK_normal, ↓reduceIte, Nat.reduceEqDiff])
    (first|refine qE ?_|refine qD ?_);(simp only [go_sem,↓dP,↓reduceIte];with_reducible and_intros;all_goals first|apply qA|exact qC|skip)
    (refine Ok.ret ?_; (try dsimp only [thenK, blockK, noGotoK]); simp only [toList_mk, List.toList_toArray, retK_ret, retK_normal, resOK, resV, celV, rowV, frzAll, frzT, subV, subL, go_sem,↓dP,↓reduceIte])
    rw [List.take_length]
    exact ⟨.refl _, .refl _⟩
theorem c_tPlain (ws:List (List UInt8)) (hl:ws.length<=1000) (hw:∀ w∈ws,w.length<=1000):Ctr Tryz.prog 92 [.d (strsD ws),iS 2] (.tup [.d (slD 1 intD (rlist ws)),bS (rpl ws)]):=by
 have h_tNumbers:=c_tNumbers ws hl hw
 have hll:=rlist_len ws
 have hpl:rpl ws = (rall ws && (rlist ws).all (fun n => decide (0<=n))):=by
  unfold rpl rlist
  cases h:rall ws<;>simp
 rw [show (if rall ws then rnums ws else []) = rlist ws from rfl] at h_tNumbers
 rw [hpl]
 generalize rlist ws = l at *
 generalize rall ws = a at *
 (refine Ctr.mk (fn:=Tryz.f92) rfl rfl rfl rfl rfl Tryz.results92 ?_;intro _;dsimp only [args,List.toList_toArray])
 (first|refine qE ?_|refine qD ?_);(simp only [go_sem,↓dP,↓reduceIte];with_reducible and_intros;all_goals first|apply qA|exact qC|skip)
 (first|refine qE ?_|refine qD ?_);(simp only [go_sem,↓dP,↓reduceIte];with_reducible and_intros;all_goals first|apply qA|exact qC|skip)
 (refine AskI.ret (h_tNumbers) ?_;simp only [go_sem,↓dP,↓reduceIte];with_reducible and_intros;all_goals first|apply qA|exact qC|skip)
 refine Ok.seq ?_
 (first|refine qE ?_|refine qD ?_);(simp only [go_sem,↓dP,↓reduceIte];with_reducible and_intros;all_goals first|apply qA|exact qC|skip)
 refine Ok.block ?_
 refine Ok.count l.length (fun i => ⟨[(6,.d (slD 1 intD l)),(7,bS (a && (l.take i).all (fun n => decide (0<=n)))),(8,iS i)],[],[]⟩) (fun i => True) ⟨trivial,?_⟩ ?_ ?_
 ·(refine Sub.of ([]) ([]) ?_ ?_ ?_ rfl rfl<;>simp only [subB,subB1,subT,subT1,newT,subE,subV,subL,go_sem,↓dP,↓reduceIte]<;>(try (repeat' with_reducible apply And.intro))<;>(try first | exact DEq.refl _ | refine DEq.int ?_ | refine DEq.bool ?_ | omega))
 ·intro i hi _
  refine Ok.seq ?_;((first|refine qE ?_|refine qD ?_);(simp only [go_sem,↓dP,↓reduceIte];with_reducible and_intros;all_goals first|apply qA|exact qC|skip));refine Ok.cond rfl (fun _ => ?_) (fun hb => by simp at hb;omega);(refine Ok.skip ?_;(try dsimp only [thenK,blockK,noGotoK]));refine Ok.seq ?_;refine Ok.block ?_
  (first|refine qE ?_|refine qD ?_);(simp only [go_sem,↓dP,↓reduceIte];with_reducible and_intros;all_goals first|apply qA|exact qC|skip)
  (try dsimp only [thenK,blockK,noGotoK])
  (first|refine qE ?_|refine qD ?_);(simp only [go_sem,↓dP,↓reduceIte];with_reducible and_intros;all_goals first|apply qA|exact qC|skip)
  (try dsimp only [thenK,blockK,noGotoK])
  refine ⟨trivial,?_⟩
  (refine Sub.of ([]) ([]) ?_ ?_ ?_ rfl rfl<;>simp only [subB,subB1,subT,subT1,newT,subE,subV,subL,go_sem,↓dP,↓reduceIte]<;>(try (repeat' with_reducible apply And.intro))<;>(try first | exact DEq.refl _ | refine DEq.int ?_ | refine DEq.bool ?_ | omega))
  rw [getD_take hi,List.all_append]
  simp [Bool.and_assoc]
 ·intro _
  rw [List.take_length]
  refine Ok.seq ?_;((first|refine qE ?_|refine qD ?_);(simp only [go_sem,↓dP,↓reduceIte];with_reducible and_intros;all_goals first|apply qA|exact qC|skip));refine Ok.cond rfl (fun hb => by simp at hb) (fun _ => ?_);(refine Ok.exit ?_;simp only [thenK_exit,blockK_exit,noGotoK_exit,thenK_normal,blockK_normal,noGotoK_normal,↓reduceIte,Nat.reduceEqDiff])
  (first|refine qE ?_|refine qD ?_);(simp only [go_sem,↓dP,↓reduceIte];with_reducible and_intros;all_goals first|apply qA|exact qC|skip)
  (refine Ok.ret ?_;(try dsimp only [thenK,blockK,noGotoK]);simp only [toList_mk,List.toList_toArray,retK_ret,retK_normal,resOK,resV,celV,rowV,frzAll,frzT,subV,subL,go_sem,↓dP,↓reduceIte])
  exact ⟨.refl _,.refl _⟩
end Go.Proofs.Leaf
namespace Go.Proofs.Leaf
open Go Go.RX Go.Proofs Go.RowKit
set_option maxRecDepth 10000
section
theorem plain_drop (W:List (List UInt8)) (a m:Nat) (ha:a<=W.length) (hm:m = W.length - a) (hl:W.length<=1000) (hw:∀ w∈W,w.length<=1000) :
  Ctr Tryz.prog 92 [.d (.sl 1 m (fun i j => strD (W.getD (a + i) default) j)),iS 2] (.tup [.d (slD 1 intD (rlist (W.drop a))),bS (rpl (W.drop a))]):=by
 have hd:=slice_D (k:=1) (n:=m) (m:=W.length - a) (a:=a) (f:=strD) (l:=W) hm (by omega)
 rw [List.take_of_length_le (by rw [List.length_drop];omega)] at hd
 exact (c_tPlain (W.drop a) (by rw [List.length_drop];omega) (fun w hw' => hw w (List.mem_of_mem_drop hw'))).args ⟨hd,.refl _,trivial⟩
theorem rl_list {W:List (List UInt8)} {a n:Nat} (h:rpl (W.drop a) = true) (hl:W.length - a = n):rlist (W.drop a) = (List.range n).map (fun i => nth' W (a + i)):=by
 rw [rlist_ok h]
 apply List.ext_getElem
 ·simp;omega
 ·intro i h1 h2
  have h3:a + i < W.length:=by simp at h1;omega
  rw [List.getElem_map,List.getElem_map,List.getElem_range,List.getElem_drop]
  unfold nth'
  rw [getD_lt h3]
def resR:Option Job->SV
 | none => .tup [noJ,bS false]
 | some J => .tup [J.sv,bS true]
theorem resR_none:resR none = .tup [noJ,bS false]:=Eq.trans rfl rfl
theorem resR_some (J:Job):resR (some J) = .tup [J.sv,bS true]:=Eq.trans rfl rfl
def redSt (t:List UInt8) (m:List (List UInt8)) (i:Nat) (st:RS):Sy :=
 ⟨[(0,.d (.str t)),(2,.p 0 0),(4,.p 1 0),(5,.d (strsD m)),(6,iS i)],
  [{ frz:=false,xs:=[iS 0,iS 0,iS 0,iS 0,.d .nils,.d .nils] },{ frz:=false,xs:=[iS (st.1.getD 0 0),iS (st.1.getD 1 0),iS (st.1.getD 2 0),iS (st.1.getD 3 0),.tk 0,.tk 1] }],
  [ownD 56 4 groD st.2.1,ownD 54 4 pieD st.2.2]⟩
theorem c_rRead (t:List UInt8) (ht:t.length<=550):Ctr Tryz.prog 49 [.d (.str t)] (resR (parseR t)):=by
 generalize hp:parseR t = o
 unfold parseR at hp
 dsimp only at hp
 have hrl:=splitL_len t [10] (by decide)
 have hr0:=splitL_pos t [10] (by decide)
 have hrs:=splitL_short 10 t
 have c110r:=c_tSplit t 10 10 rfl (by omega)
 rw [← splitL_spl] at c110r
 obtain ⟨m,hm⟩:∃ rows,splitL t [10] = rows:=⟨_,rfl⟩
 rw [hm] at hrl hr0 hrs c110r hp
 (refine Ctr.mk (fn:=Tryz.f49) rfl rfl rfl rfl rfl Tryz.results49 ?_;intro _;dsimp only [args,List.toList_toArray])
 (first|refine qE ?_|refine qD ?_);(simp only [go_sem,↓dP,↓reduceIte];with_reducible and_intros;all_goals first|apply qA|exact qC|skip)
 (first|refine qE ?_|refine qD ?_);(simp only [go_sem,↓dP,↓reduceIte];with_reducible and_intros;all_goals first|apply qA|exact qC|skip)
 (first|refine qE ?_|refine qD ?_);(simp only [go_sem,↓dP,↓reduceIte];with_reducible and_intros;all_goals first|apply qA|exact qC|skip)
 (refine AskI.ret (c110r) ?_;simp only [go_sem,↓dP,↓reduceIte];with_reducible and_intros;all_goals first|apply qA|exact qC|skip)
 refine Ok.seq ?_
 (first|refine qE ?_|refine qD ?_);(simp only [go_sem,↓dP,↓reduceIte];with_reducible and_intros;all_goals first|apply qA|exact qC|skip)
 refine Ok.block ?_
 refine Ok.count (m.length - 2) (fun i => redSt t m i ((preR m i).getD zeroR)) (fun i => ∃ st,preR m i = some st) ⟨⟨_,preR_zero _⟩,?_⟩ ?_ ?_
 ·simp only [preR_zero,Option.getD_some,redSt,zeroR]
  (refine Sub.of ([0,1]) ([none,none]) ?_ ?_ ?_ rfl rfl<;>simp only [subB,subB1,subT,subT1,newT,subE,subV,subL,go_sem,↓dP,↓reduceIte]<;>(try (repeat' with_reducible apply And.intro))<;>(try first | exact DEq.refl _ | refine DEq.int ?_ | refine DEq.bool ?_ | omega))
  all_goals first | exact DEq.nils rfl | rfl
 ·rintro i hi ⟨⟨hd,gs,ps⟩,hst⟩
  obtain ⟨hpl,hnr⟩:=preR_plain m i _ (by omega) hst
  have hbl:gs.length + ps.length<=600:=by simp only [nrows] at hnr;omega
  have hpf:stepR i (hd,gs,ps) (m.getD i default) = none->none = o:=fun q => by
   rw [preR_fail m hi (by omega) hst q] at hp
   exact hp
  simp only [hst,Option.getD_some,redSt]
  have hLr:=hrs i
  obtain ⟨r,hrow⟩:∃ r,m.getD i default = r:=⟨_,rfl⟩
  rw [hrow] at hLr hpf
  have hV0:=splitL_pos r [32] (by decide)
  have hVl:=splitL_len r [32] (by decide)
  have hVs:=spl_short 32 r
  have c110v:=c_tSplit r 32 32 rfl (by omega)
  rw [← splitL_spl] at c110v hVs
  obtain ⟨V,hV⟩:∃ V,splitL r [32] = V:=⟨_,rfl⟩
  rw [hV] at hV0 hVl c110v hVs
  have h1:=plain_drop V 1 ((V.length:Int) - 1).toNat hV0 (by omega) (by omega) (fun w hw => by have:=hVs w hw;omega)
  refine Ok.seq ?_;((first|refine qE ?_|refine qD ?_);(simp only [go_sem,↓dP,↓reduceIte];with_reducible and_intros;all_goals first|apply qA|exact qC|skip));refine Ok.cond rfl (fun _ => ?_) (fun hb => by simp at hb;omega);(refine Ok.skip ?_;(try dsimp only [thenK,blockK,noGotoK]));refine Ok.seq ?_;refine Ok.block ?_
  (first|refine qE ?_|refine qD ?_);(simp only [go_sem,↓dP,↓reduceIte];with_reducible and_intros;all_goals first|apply qA|exact qC|skip)
  rw [hrow]
  (refine AskI.ret (c110v) ?_;simp only [go_sem,↓dP,↓reduceIte];with_reducible and_intros;all_goals first|apply qA|exact qC|skip)
  (first|refine qE ?_|refine qD ?_);(simp only [go_sem,↓dP,↓reduceIte];with_reducible and_intros;all_goals first|apply qA|exact qC|skip)
  (refine AskI.ret (h1) ?_;simp only [go_sem,↓dP,↓reduceIte];with_reducible and_intros;all_goals first|apply qA|exact qC|skip)
  by_cases hpr:rpl (V.drop 1) = true
  ·have hll:(rlist (V.drop 1)).length = V.length - 1:=by rw [rl_list hpr rfl];simp
   rw [hpr]
   (first|refine qE ?_|refine qD ?_);(simp only [go_sem,↓dP,↓reduceIte];with_reducible and_intros;all_goals first|apply qA|exact qC|skip)
   by_cases h7:i = 0/\V.length = 5
   ·have hc7:((i:Int) == 0 && ((rlist (V.drop 1)).length:Int) == 4) = true:=by
     simp only [Bool.and_eq_true,beq_iff_eq]
     omega
    have hls:rlist (V.drop 1) = [nth' V 1,nth' V 2,nth' V 3,nth' V 4]:=(rl_list hpr (n:=4) (by omega)).trans rfl
    rw [hc7]
    refine Ok.cond (b:=true) (by first | rfl | (simp only [go_sem,↓dP,↓reduceIte];rfl)) (fun _ => ?_) (fun hb => by cases hb)
    rw [hls]
    (first|refine qE ?_|refine qD ?_);(simp only [go_sem,↓dP,↓reduceIte];with_reducible and_intros;all_goals first|apply qA|exact qC|skip)
    (try dsimp only [thenK,blockK,noGotoK])
    (first|refine qE ?_|refine qD ?_);(simp only [go_sem,↓dP,↓reduceIte];with_reducible and_intros;all_goals first|apply qA|exact qC|skip)
    (try dsimp only [thenK,blockK,noGotoK])
    have hnx:preR m (i + 1) = some ([nth' V 1,nth' V 2,nth' V 3,nth' V 4],gs,ps):=by
     rw [preR_succ m (by omega),hst,hrow]
     exact stepR_head hV hpr h7
    refine ⟨⟨_,hnx⟩,?_⟩
    simp only [hnx,Option.getD_some]
    (refine Sub.of ([0,1]) ([some 0,some 1]) ?_ ?_ ?_ rfl rfl<;>simp only [subB,subB1,subT,subT1,newT,subE,subV,subL,go_sem,↓dP,↓reduceIte]<;>(try (repeat' with_reducible apply And.intro))<;>(try first | exact DEq.refl _ | refine DEq.int ?_ | refine DEq.bool ?_ | omega))
    all_goals exact fun _ _ _ _ => DEq.refl _
   ·have hc7:((i:Int) == 0 && ((rlist (V.drop 1)).length:Int) == 4) = false:=by
     rw [Bool.eq_false_iff]
     intro h
     simp only [Bool.and_eq_true,beq_iff_eq] at h
     exact h7 (by omega)
    rw [hc7]
    refine Ok.cond (b:=false) (by first | rfl | (simp only [go_sem,↓dP,↓reduceIte];rfl)) (fun hb => by cases hb) (fun _ => ?_)
    (first|refine qE ?_|refine qD ?_);(simp only [go_sem,↓dP,↓reduceIte];with_reducible and_intros;all_goals first|apply qA|exact qC|skip)
    by_cases h5:V.length = 5
    ·have hb5:(((rlist (V.drop 1)).length:Int) == 4) = true:=by
      simp only [beq_iff_eq];omega
     have hls:rlist (V.drop 1) = [nth' V 1,nth' V 2,nth' V 3,nth' V 4]:=(rl_list hpr (n:=4) (by omega)).trans rfl
     rw [hb5]
     refine Ok.cond (b:=true) (by first | rfl | (simp only [go_sem,↓dP,↓reduceIte];rfl)) (fun _ => ?_) (fun hb => by cases hb)
     rw [hls]
     (first|refine qE ?_|refine qD ?_);(simp only [go_sem,↓dP,↓reduceIte];with_reducible and_intros;all_goals first|apply qA|exact qC|skip)
     (try dsimp only [thenK,blockK,noGotoK])
     (first|refine qE ?_|refine qD ?_);(simp only [go_sem,↓dP,↓reduceIte];with_reducible and_intros;all_goals first|apply qA|exact qC|skip)
     (try dsimp only [thenK,blockK,noGotoK])
     have hnx:preR m (i + 1) = some (hd,gs ++ [⟨nth' V 1,nth' V 2,nth' V 3,nth' V 4⟩],ps):=by
      rw [preR_succ m (by omega),hst,hrow]
      exact stepR_ground hV hpr h7 h5
     refine ⟨⟨_,hnx⟩,?_⟩
     simp only [hnx,Option.getD_some]
     (refine Sub.of ([0,1]) ([some 2,some 1]) ?_ ?_ ?_ rfl rfl<;>simp only [subB,subB1,subT,subT1,newT,subE,subV,subL,go_sem,↓dP,↓reduceIte]<;>(try (repeat' with_reducible apply And.intro))<;>(try first | exact DEq.refl _ | refine DEq.int ?_ | refine DEq.bool ?_ | omega))
     all_goals first
      | exact fun _ _ _ _ => DEq.refl _
      | exact snoc_D (fun c hc => by match c,hc with | 0,_ | 1,_ | 2,_ | 3,_ => rfl)
      | simp
    ·have hb5:(((rlist (V.drop 1)).length:Int) == 4) = false:=by
      rw [Bool.eq_false_iff]
      intro h
      simp only [beq_iff_eq] at h
      omega
     rw [hb5]
     refine Ok.cond (b:=false) (by first | rfl | (simp only [go_sem,↓dP,↓reduceIte];rfl)) (fun hb => by cases hb) (fun _ => ?_)
     (first|refine qE ?_|refine qD ?_);(simp only [go_sem,↓dP,↓reduceIte];with_reducible and_intros;all_goals first|apply qA|exact qC|skip)
     by_cases h4:V.length = 4
     ·have hb4:(((rlist (V.drop 1)).length:Int) == 3) = true:=by
       simp only [beq_iff_eq];omega
      have hls:rlist (V.drop 1) = [nth' V 1,nth' V 2,nth' V 3]:=(rl_list hpr (n:=3) (by omega)).trans rfl
      rw [hb4]
      refine Ok.cond (b:=true) (by first | rfl | (simp only [go_sem,↓dP,↓reduceIte];rfl)) (fun _ => ?_) (fun hb => by cases hb)
      rw [hls]
      (first|refine qE ?_|refine qD ?_);(simp only [go_sem,↓dP,↓reduceIte];with_reducible and_intros;all_goals first|apply qA|exact qC|skip)
      (try dsimp only [thenK,blockK,noGotoK])
      (first|refine qE ?_|refine qD ?_);(simp only [go_sem,↓dP,↓reduceIte];with_reducible and_intros;all_goals first|apply qA|exact qC|skip)
      (try dsimp only [thenK,blockK,noGotoK])
      have hnx:preR m (i + 1) = some (hd,gs,ps ++ [⟨nth' V 1,nth' V 2,V.getD 0 default == eitherW,nth' V 3⟩]):=by
       rw [preR_succ m (by omega),hst,hrow]
       exact stepR_piece hV hpr h4
      refine ⟨⟨_,hnx⟩,?_⟩
      simp only [hnx,Option.getD_some]
      (refine Sub.of ([0,1]) ([some 0,some 2]) ?_ ?_ ?_ rfl rfl<;>simp only [subB,subB1,subT,subT1,newT,subE,subV,subL,go_sem,↓dP,↓reduceIte]<;>(try (repeat' with_reducible apply And.intro))<;>(try first | exact DEq.refl _ | refine DEq.int ?_ | refine DEq.bool ?_ | omega))
      all_goals first
       | exact fun _ _ _ _ => DEq.refl _
       | exact snoc_D (fun c hc => by match c,hc with | 0,_ | 1,_ | 2,_ | 3,_ => rfl)
       | simp
     ·have hb4:(((rlist (V.drop 1)).length:Int) == 3) = false:=by
       rw [Bool.eq_false_iff]
       intro h
       simp only [beq_iff_eq] at h
       omega
      rw [hb4]
      refine Ok.cond (b:=false) (by first | rfl | (simp only [go_sem,↓dP,↓reduceIte];rfl)) (fun hb => by cases hb) (fun _ => ?_)
      have hno:=hpf (stepR_else hV h5 h4)
      subst hno
      rw [resR_none]
      (first|refine qE ?_|refine qD ?_);(simp only [go_sem,↓dP,↓reduceIte];with_reducible and_intros;all_goals first|apply qA|exact qC|skip)
      (refine Ok.ret ?_;(try dsimp only [thenK,blockK,noGotoK]);simp only [toList_mk,List.toList_toArray,retK_ret,retK_normal,resOK,resV,celV,rowV,frzAll,frzT,subV,subL,go_sem,↓dP,↓reduceIte])
      and_intros<;>exact .refl _
  ·have hpr':rpl (V.drop 1) = false:=by simpa using hpr
   rw [hpr']
   (first|refine qE ?_|refine qD ?_);(simp only [go_sem,↓dP,↓reduceIte];with_reducible and_intros;all_goals first|apply qA|exact qC|skip)
   refine Ok.cond (b:=false) (by first | rfl | (simp only [go_sem,↓dP,↓reduceIte];rfl)) (fun hb => by cases hb) (fun _ => ?_)
   (first|refine qE ?_|refine qD ?_);(simp only [go_sem,↓dP,↓reduceIte];with_reducible and_intros;all_goals first|apply qA|exact qC|skip)
   refine Ok.cond (b:=false) (by first | rfl | (simp only [go_sem,↓dP,↓reduceIte];rfl)) (fun hb => by cases hb) (fun _ => ?_)
   (first|refine qE ?_|refine qD ?_);(simp only [go_sem,↓dP,↓reduceIte];with_reducible and_intros;all_goals first|apply qA|exact qC|skip)
   refine Ok.cond (b:=false) (by first | rfl | (simp only [go_sem,↓dP,↓reduceIte];rfl)) (fun hb => by cases hb) (fun _ => ?_)
   have hno:=hpf (stepR_not hV hpr)
   subst hno
   rw [resR_none]
   (first|refine qE ?_|refine qD ?_);(simp only [go_sem,↓dP,↓reduceIte];with_reducible and_intros;all_goals first|apply qA|exact qC|skip)
   (refine Ok.ret ?_;(try dsimp only [thenK,blockK,noGotoK]);simp only [toList_mk,List.toList_toArray,retK_ret,retK_normal,resOK,resV,celV,rowV,frzAll,frzT,subV,subL,go_sem,↓dP,↓reduceIte])
   and_intros<;>exact .refl _
 ·rintro ⟨⟨hd,gs,ps⟩,hst⟩
  obtain ⟨hpl,hnr⟩:=preR_plain m _ _ (by omega) hst
  rw [hst] at hp
  dsimp only at hp
  have hsm:(mkR (hd,gs,ps)).small:=(mkR_plain hpl).small (by simp only [nrows] at hnr;show gs.length + ps.length<=600;omega)
  simp only [hst,Option.getD_some,redSt]
  refine Ok.seq ?_;((first|refine qE ?_|refine qD ?_);(simp only [go_sem,↓dP,↓reduceIte];with_reducible and_intros;all_goals first|apply qA|exact qC|skip));refine Ok.cond rfl (fun hb => by simp at hb;omega) (fun _ => ?_);(refine Ok.exit ?_;simp only [thenK_exit,blockK_exit,noGotoK_exit,thenK_normal,blockK_normal,noGotoK_normal,↓reduceIte,Nat.reduceEqDiff])
  refine Ok.sub (σ':=⟨[(0,.d (.str t)),(2,.p 0 0),(4,.p 1 0)],
   [{ frz:=false,xs:=[iS 0,iS 0,iS 0,iS 0,.d .nils,.d .nils] },{ frz:=false,xs:=[iS (hd.getD 0 0),iS (hd.getD 1 0),iS (hd.getD 2 0),iS (hd.getD 3 0),.tk 0,.tk 1] }],
   [ownD 56 4 groD gs,ownD 54 4 pieD ps]⟩) ?_ ?_
  ·(refine Sub.of ([0,1]) ([some 0,some 1]) ?_ ?_ ?_ rfl rfl<;>simp only [subB,subB1,subT,subT1,newT,subE,subV,subL,go_sem,↓dP,↓reduceIte]<;>(try (repeat' with_reducible apply And.intro))<;>(try first | exact DEq.refl _ | refine DEq.int ?_ | refine DEq.bool ?_ | omega))
   all_goals exact fun _ _ _ _ => DEq.refl _
  refine Ok.seq ?_
  (first|refine qE ?_|refine qD ?_);(simp only [go_sem,↓dP,↓reduceIte];with_reducible and_intros;all_goals first|apply qA|exact qC|skip)
  (refine AskI.ret (c_rPrint (mkR (hd,gs,ps)) hsm) ?_;simp only [go_sem,↓dP,↓reduceIte];with_reducible and_intros;all_goals first|apply qA|exact qC|skip)
  by_cases heq:sealedL (rowsOf (mkR (hd,gs,ps))) = t
  ·rw [if_pos heq] at hp
   subst hp
   rw [resR_some]
   have hq:(sealedL (rowsOf (mkR (hd,gs,ps))) != t) = false:=by simpa using heq
   rw [hq]
   refine Ok.cond (b:=false) (by first | rfl | (simp only [go_sem,↓dP,↓reduceIte];rfl)) (fun hb => by cases hb) (fun _ => ?_)
   (refine Ok.skip ?_;(try dsimp only [thenK,blockK,noGotoK]))
   (first|refine qE ?_|refine qD ?_);(simp only [go_sem,↓dP,↓reduceIte];with_reducible and_intros;all_goals first|apply qA|exact qC|skip)
   (refine Ok.ret ?_;(try dsimp only [thenK,blockK,noGotoK]);simp only [toList_mk,List.toList_toArray,retK_ret,retK_normal,resOK,resV,celV,rowV,frzAll,frzT,subV,subL,go_sem,↓dP,↓reduceIte])
   refine ⟨⟨.refl _,.refl _,.refl _,.refl _,.refl _,.refl _⟩,.refl _⟩
  ·rw [if_neg heq] at hp
   subst hp
   rw [resR_none]
   have hq:(sealedL (rowsOf (mkR (hd,gs,ps))) != t) = true:=by simpa using heq
   rw [hq]
   refine Ok.cond (b:=true) (by first | rfl | (simp only [go_sem,↓dP,↓reduceIte];rfl)) (fun _ => ?_) (fun hb => by cases hb)
   (first|refine qE ?_|refine qD ?_);(simp only [go_sem,↓dP,↓reduceIte];with_reducible and_intros;all_goals first|apply qA|exact qC|skip)
   (refine Ok.ret ?_;(try dsimp only [thenK,blockK,noGotoK]);simp only [toList_mk,List.toList_toArray,retK_ret,retK_normal,resOK,resV,celV,rowV,frzAll,frzT,subV,subL,go_sem,↓dP,↓reduceIte])
   and_intros<;>exact .refl _
end
end Go.Proofs.Leaf
namespace Go.Proofs.Leaf
open Go Go.RX Go.Proofs
set_option maxRecDepth 10000
theorem ok_plain {J:Job} (h:J.ok):J.plain:=by
 have h1:=h.w0;have h2:=h.w1;have h3:=h.h0;have h4:=h.h1;have h5:=h.b0;have h6:=h.b1;have h7:=h.s0;have h8:=h.s1
 have hg1:=h.g1
 refine ⟨fun n hn => ?_,fun g hg n hn => ?_,fun p hp n hn => ?_⟩
 ·simp only [Job.nums,List.mem_cons,List.not_mem_nil,or_false] at hn
  rcases hn with rfl | rfl | rfl | rfl<;>exact ⟨by omega,by omega⟩
 ·have:=h.gs g hg
  simp only [Ground.nums,List.mem_cons,List.not_mem_nil,or_false] at hn
  rcases hn with rfl | rfl | rfl | rfl<;>exact ⟨by omega,by omega⟩
 ·have:=h.ps p hp
  simp only [Piece.nums,List.mem_cons,List.not_mem_nil,or_false] at hn
  rcases hn with rfl | rfl | rfl<;>exact ⟨by omega,by omega⟩
theorem ok_small [Glob] {J:Job} (h:J.ok):J.small:=(ok_plain h).small (by have:=h.g1;have:=h.p1;omega)
end Go.Proofs.Leaf
namespace Go.Proofs.Leaf
open Go Go.RX Go.Proofs Go.RowKit
set_option maxRecDepth 100000
section
theorem c_Print (J:Job) (h:J.ok):Ctr Tryz.prog 45 [J.sv] (.tup [.d (.str (sealedL (rowsOf J))),iS 0]):=by
 have hj:=jobB_iff.2 h
 (refine Ctr.mk (fn:=Tryz.f45) rfl rfl rfl rfl rfl Tryz.results45 ?_;intro _;dsimp only [args,List.toList_toArray])
 (first|refine qE ?_|refine qD ?_);(simp only [go_sem,↓dP,↓reduceIte];with_reducible and_intros;all_goals first|apply qA|exact qC|skip)
 refine Ok.seq ?_
 (first|refine qE ?_|refine qD ?_);(simp only [go_sem,↓dP,↓reduceIte];with_reducible and_intros;all_goals first|apply qA|exact qC|skip)
 (refine AskI.ret (c_isJob J h.held) ?_;simp only [go_sem,↓dP,↓reduceIte];with_reducible and_intros;all_goals first|apply qA|exact qC|skip)
 refine Ok.cond rfl (fun hb => by rw [hj] at hb;cases hb) (fun _ => ?_)
 (refine Ok.skip ?_;(try dsimp only [thenK,blockK,noGotoK]))
 (first|refine qE ?_|refine qD ?_);(simp only [go_sem,↓dP,↓reduceIte];with_reducible and_intros;all_goals first|apply qA|exact qC|skip)
 (refine AskI.ret (c_text J (ok_small h)) ?_;simp only [go_sem,↓dP,↓reduceIte];with_reducible and_intros;all_goals first|apply qA|exact qC|skip)
 (refine Ok.ret ?_;(try dsimp only [thenK,blockK,noGotoK]);simp only [toList_mk,List.toList_toArray,retK_ret,retK_normal,resOK,resV,celV,rowV,frzAll,frzT,subV,subL,go_sem,↓dP,↓reduceIte])
 ((repeat' with_reducible apply And.intro)<;>(first | exact DEq.refl _ | refine DEq.int ?_ | refine DEq.bool ?_ | skip))
end
end Go.Proofs.Leaf
namespace Go.Proofs.Leaf
open Go Go.RX Go.Proofs Go.RowKit
set_option maxRecDepth 100000
section
theorem c_same0:Ctr Tryz.prog 48 [noJ,noJ] (bS true):=by
 have h:=c_rSameJobs ⟨0,0,0,0,[],[]⟩ (by unfold Job.held;decide)
 exact h.args ⟨⟨.refl _,.refl _,.refl _,.refl _,DEq.nils rfl,DEq.nils rfl,trivial⟩,⟨.refl _,.refl _,.refl _,.refl _,DEq.nils rfl,DEq.nils rfl,trivial⟩,trivial⟩
theorem law_Reads (t:List UInt8) (hl:t.length<=maxLen):Ctr Tryz.prog 11 [.d (.str t)] (bS true):=by
 have hl':t.length<=9223372036854775807:=Nat.le_trans hl (by decide)
 (refine Ctr.mk (fn:=Tryz.f11) rfl rfl rfl rfl rfl Tryz.results11 ?_;intro _;dsimp only [args,List.toList_toArray])
 (first|refine qE ?_|refine qD ?_);(simp only [go_sem,↓dP,↓reduceIte];with_reducible and_intros;all_goals first|apply qA|exact qC|skip)
 refine Ok.seq ?_
 (first|refine qE ?_|refine qD ?_);(simp only [go_sem,↓dP,↓reduceIte];with_reducible and_intros;all_goals first|apply qA|exact qC|skip)
 refine Ok.cond rfl (fun hb => ?_) (fun hb => ?_)
 ·(first|refine qE ?_|refine qD ?_);(simp only [go_sem,↓dP,↓reduceIte];with_reducible and_intros;all_goals first|apply qA|exact qC|skip)
  (refine AskI.ret (c_known) ?_;simp only [go_sem,↓dP,↓reduceIte];with_reducible and_intros;all_goals first|apply qA|exact qC|skip)
  (refine Ok.ret ?_;(try dsimp only [thenK,blockK,noGotoK]);simp only [toList_mk,List.toList_toArray,retK_ret,retK_normal,resOK,resV,celV,rowV,frzAll,frzT,subV,subL,go_sem,↓dP,↓reduceIte])
  ((repeat' with_reducible apply And.intro)<;>(first | exact DEq.refl _ | refine DEq.int ?_ | refine DEq.bool ?_ | skip))
 have ht:t.length<=280:=by simp only [decide_eq_false_iff_not] at hb;omega
 (refine Ok.skip ?_;(try dsimp only [thenK,blockK,noGotoK]))
 have hR:=c_rRead t (by omega)
 rw [parse_same] at hR
 by_cases h180:t.length<=180
 rotate_left
 ·have hlong:=c_Read_long t (by omega)
  (first|refine qE ?_|refine qD ?_);(simp only [go_sem,↓dP,↓reduceIte];with_reducible and_intros;all_goals first|apply qA|exact qC|skip)
  (refine AskI.ret (hlong) ?_;simp only [go_sem,↓dP,↓reduceIte];with_reducible and_intros;all_goals first|apply qA|exact qC|skip)
  cases hp:parseP t with
  | none =>
   rw [hp,resR_none] at hR
   (first|refine qE ?_|refine qD ?_);(simp only [go_sem,↓dP,↓reduceIte];with_reducible and_intros;all_goals first|apply qA|exact qC|skip)
   (refine AskI.ret (hR) ?_;simp only [go_sem,↓dP,↓reduceIte];with_reducible and_intros;all_goals first|apply qA|exact qC|skip)
   (first|refine qE ?_|refine qD ?_);(simp only [go_sem,↓dP,↓reduceIte];with_reducible and_intros;all_goals first|apply qA|exact qC|skip)
   refine Ok.seq ?_
   (first|refine qE ?_|refine qD ?_);(simp only [go_sem,↓dP,↓reduceIte];with_reducible and_intros;all_goals first|apply qA|exact qC|skip)
   refine Ok.cond rfl (fun _ => ?_) (fun hb => by simp at hb;omega)
   (first|refine qE ?_|refine qD ?_);(simp only [go_sem,↓dP,↓reduceIte];with_reducible and_intros;all_goals first|apply qA|exact qC|skip)
   (try dsimp only [thenK,blockK,noGotoK])
   refine Ok.seq ?_
   (first|refine qE ?_|refine qD ?_);(simp only [go_sem,↓dP,↓reduceIte];with_reducible and_intros;all_goals first|apply qA|exact qC|skip)
   refine Ok.cond (b:=true) (by first | rfl | (simp only [go_sem,↓dP,↓reduceIte];rfl)) (fun _ => ?_) (fun hb => by cases hb)
   (first|refine qE ?_|refine qD ?_);(simp only [go_sem,↓dP,↓reduceIte];with_reducible and_intros;all_goals first|apply qA|exact qC|skip)
   (refine AskGI.ret (fun _ => c_same0) ?_;simp only [go_sem,↓dP,↓reduceIte];with_reducible and_intros;all_goals first|apply qA|exact qC|skip)
   (refine AskGI.ret (fun _ => c_known) ?_;simp only [go_sem,↓dP,↓reduceIte];with_reducible and_intros;all_goals first|apply qA|exact qC|skip)
   (refine Ok.ret ?_;(try dsimp only [thenK,blockK,noGotoK]);simp only [toList_mk,List.toList_toArray,retK_ret,retK_normal,resOK,resV,celV,rowV,frzAll,frzT,subV,subL,go_sem,↓dP,↓reduceIte])
   ((repeat' with_reducible apply And.intro)<;>(first | exact DEq.refl _ | refine DEq.int ?_ | refine DEq.bool ?_ | skip))
  | some J =>
   rw [hp,resR_some] at hR
   (first|refine qE ?_|refine qD ?_);(simp only [go_sem,↓dP,↓reduceIte];with_reducible and_intros;all_goals first|apply qA|exact qC|skip)
   (refine AskI.ret (hR) ?_;simp only [go_sem,↓dP,↓reduceIte];with_reducible and_intros;all_goals first|apply qA|exact qC|skip)
   (first|refine qE ?_|refine qD ?_);(simp only [go_sem,↓dP,↓reduceIte];with_reducible and_intros;all_goals first|apply qA|exact qC|skip)
   refine Ok.seq ?_
   (first|refine qE ?_|refine qD ?_);(simp only [go_sem,↓dP,↓reduceIte];with_reducible and_intros;all_goals first|apply qA|exact qC|skip)
   refine Ok.cond rfl (fun _ => ?_) (fun hb => by simp at hb;omega)
   (first|refine qE ?_|refine qD ?_);(simp only [go_sem,↓dP,↓reduceIte];with_reducible and_intros;all_goals first|apply qA|exact qC|skip)
   (try dsimp only [thenK,blockK,noGotoK])
   refine Ok.seq ?_
   (first|refine qE ?_|refine qD ?_);(simp only [go_sem,↓dP,↓reduceIte];with_reducible and_intros;all_goals first|apply qA|exact qC|skip)
   refine Ok.cond (b:=true) (by first | rfl | (simp only [go_sem,↓dP,↓reduceIte];rfl)) (fun _ => ?_) (fun hb => by cases hb)
   (first|refine qE ?_|refine qD ?_);(simp only [go_sem,↓dP,↓reduceIte];with_reducible and_intros;all_goals first|apply qA|exact qC|skip)
   (refine AskGI.ret (fun _ => c_same0) ?_;simp only [go_sem,↓dP,↓reduceIte];with_reducible and_intros;all_goals first|apply qA|exact qC|skip)
   (refine AskGI.ret (fun _ => c_known) ?_;simp only [go_sem,↓dP,↓reduceIte];with_reducible and_intros;all_goals first|apply qA|exact qC|skip)
   (refine Ok.ret ?_;(try dsimp only [thenK,blockK,noGotoK]);simp only [toList_mk,List.toList_toArray,retK_ret,retK_normal,resOK,resV,celV,rowV,frzAll,frzT,subV,subL,go_sem,↓dP,↓reduceIte])
   ((repeat' with_reducible apply And.intro)<;>(first | exact DEq.refl _ | refine DEq.int ?_ | refine DEq.bool ?_ | skip))
 ·cases hp:parseP t with
  | none =>
   rw [hp,resR_none] at hR
   have hN:=c_Read_text t ((parsed_walk t h180).2 hp) h180
   (first|refine qE ?_|refine qD ?_);(simp only [go_sem,↓dP,↓reduceIte];with_reducible and_intros;all_goals first|apply qA|exact qC|skip)
   (refine AskI.ret (hN) ?_;simp only [go_sem,↓dP,↓reduceIte];with_reducible and_intros;all_goals first|apply qA|exact qC|skip)
   (first|refine qE ?_|refine qD ?_);(simp only [go_sem,↓dP,↓reduceIte];with_reducible and_intros;all_goals first|apply qA|exact qC|skip)
   (refine AskI.ret (hR) ?_;simp only [go_sem,↓dP,↓reduceIte];with_reducible and_intros;all_goals first|apply qA|exact qC|skip)
   (first|refine qE ?_|refine qD ?_);(simp only [go_sem,↓dP,↓reduceIte];with_reducible and_intros;all_goals first|apply qA|exact qC|skip)
   refine Ok.seq ?_
   (first|refine qE ?_|refine qD ?_);(simp only [go_sem,↓dP,↓reduceIte];with_reducible and_intros;all_goals first|apply qA|exact qC|skip)
   refine Ok.cond rfl (fun hb => by simp at hb;omega) (fun _ => ?_)
   (first|refine qE ?_|refine qD ?_);(simp only [go_sem,↓dP,↓reduceIte];with_reducible and_intros;all_goals first|apply qA|exact qC|skip)
   refine Ok.cond (b:=true) (by first | rfl | (simp only [go_sem,↓dP,↓reduceIte];rfl)) (fun _ => ?_) (fun hb => by cases hb)
   (first|refine qE ?_|refine qD ?_);(simp only [go_sem,↓dP,↓reduceIte];with_reducible and_intros;all_goals first|apply qA|exact qC|skip)
   (try dsimp only [thenK,blockK,noGotoK])
   refine Ok.seq ?_
   (first|refine qE ?_|refine qD ?_);(simp only [go_sem,↓dP,↓reduceIte];with_reducible and_intros;all_goals first|apply qA|exact qC|skip)
   refine Ok.cond (b:=true) (by first | rfl | (simp only [go_sem,↓dP,↓reduceIte];rfl)) (fun _ => ?_) (fun hb => by cases hb)
   (first|refine qE ?_|refine qD ?_);(simp only [go_sem,↓dP,↓reduceIte];with_reducible and_intros;all_goals first|apply qA|exact qC|skip)
   (refine AskGI.ret (fun _ => c_same0) ?_;simp only [go_sem,↓dP,↓reduceIte];with_reducible and_intros;all_goals first|apply qA|exact qC|skip)
   (refine AskGI.ret (fun _ => c_known) ?_;simp only [go_sem,↓dP,↓reduceIte];with_reducible and_intros;all_goals first|apply qA|exact qC|skip)
   (refine Ok.ret ?_;(try dsimp only [thenK,blockK,noGotoK]);simp only [toList_mk,List.toList_toArray,retK_ret,retK_normal,resOK,resV,celV,rowV,frzAll,frzT,subV,subL,go_sem,↓dP,↓reduceIte])
   ((repeat' with_reducible apply And.intro)<;>(first | exact DEq.refl _ | refine DEq.int ?_ | refine DEq.bool ?_ | skip))
  | some J =>
   rw [hp,resR_some] at hR
   obtain ⟨hpl,htx,hrw⟩:=parse_some hp
   have hh:J.held:=⟨by omega,by omega⟩
   have hw:=(parsed_walk t h180).1 J hp
   have hjc:=c_rJob J hh
   cases hj:jobB J with
   | true =>
    have hok:=c_Read_ok t J hw h180 hh hj
    have hPr:=c_Print J (jobB_iff.1 hj)
    rw [htx] at hPr
    rw [hj] at hjc
    (first|refine qE ?_|refine qD ?_);(simp only [go_sem,↓dP,↓reduceIte];with_reducible and_intros;all_goals first|apply qA|exact qC|skip)
    (refine AskI.ret (hok) ?_;simp only [go_sem,↓dP,↓reduceIte];with_reducible and_intros;all_goals first|apply qA|exact qC|skip)
    (first|refine qE ?_|refine qD ?_);(simp only [go_sem,↓dP,↓reduceIte];with_reducible and_intros;all_goals first|apply qA|exact qC|skip)
    (refine AskI.ret (hR) ?_;simp only [go_sem,↓dP,↓reduceIte];with_reducible and_intros;all_goals first|apply qA|exact qC|skip)
    (first|refine qE ?_|refine qD ?_);(simp only [go_sem,↓dP,↓reduceIte];with_reducible and_intros;all_goals first|apply qA|exact qC|skip)
    refine Ok.seq ?_
    (first|refine qE ?_|refine qD ?_);(simp only [go_sem,↓dP,↓reduceIte];with_reducible and_intros;all_goals first|apply qA|exact qC|skip)
    refine Ok.cond rfl (fun hb => by simp at hb;omega) (fun _ => ?_)
    (first|refine qE ?_|refine qD ?_);(simp only [go_sem,↓dP,↓reduceIte];with_reducible and_intros;all_goals first|apply qA|exact qC|skip)
    refine Ok.cond (b:=false) (by first | rfl | (simp only [go_sem,↓dP,↓reduceIte];rfl)) (fun hb => by cases hb) (fun _ => ?_)
    (first|refine qE ?_|refine qD ?_);(simp only [go_sem,↓dP,↓reduceIte];with_reducible and_intros;all_goals first|apply qA|exact qC|skip)
    (refine AskI.ret (hjc) ?_;simp only [go_sem,↓dP,↓reduceIte];with_reducible and_intros;all_goals first|apply qA|exact qC|skip)
    refine Ok.cond (b:=false) (by first | rfl | (simp only [go_sem,↓dP,↓reduceIte];rfl)) (fun hb => by cases hb) (fun _ => ?_)
    (refine Ok.skip ?_;(try dsimp only [thenK,blockK,noGotoK]))
    refine Ok.seq ?_
    (first|refine qE ?_|refine qD ?_);(simp only [go_sem,↓dP,↓reduceIte];with_reducible and_intros;all_goals first|apply qA|exact qC|skip)
    refine Ok.cond (b:=false) (by first | rfl | (simp only [go_sem,↓dP,↓reduceIte];rfl)) (fun hb => by cases hb) (fun _ => ?_)
    (refine Ok.skip ?_;(try dsimp only [thenK,blockK,noGotoK]))
    (first|refine qE ?_|refine qD ?_);(simp only [go_sem,↓dP,↓reduceIte];with_reducible and_intros;all_goals first|apply qA|exact qC|skip)
    (refine AskI.ret (hPr) ?_;simp only [go_sem,↓dP,↓reduceIte];with_reducible and_intros;all_goals first|apply qA|exact qC|skip)
    (first|refine qE ?_|refine qD ?_);(simp only [go_sem,↓dP,↓reduceIte];with_reducible and_intros;all_goals first|apply qA|exact qC|skip)
    (refine AskGI.ret (fun _ => c_rSameJobs J hh) ?_;simp only [go_sem,↓dP,↓reduceIte];with_reducible and_intros;all_goals first|apply qA|exact qC|skip)
    (refine AskGI.ret (fun _ => c_known) ?_;simp only [go_sem,↓dP,↓reduceIte];with_reducible and_intros;all_goals first|apply qA|exact qC|skip)
    (refine Ok.ret ?_;(try dsimp only [thenK,blockK,noGotoK]);simp only [toList_mk,List.toList_toArray,retK_ret,retK_normal,resOK,resV,celV,rowV,frzAll,frzT,subV,subL,go_sem,↓dP,↓reduceIte])
    ((repeat' with_reducible apply And.intro)<;>(first | exact DEq.refl _ | refine DEq.int ?_ | refine DEq.bool ?_ | skip))
   | false =>
    have hno:=c_Read_no t J hw h180 hh hj
    rw [hj] at hjc
    (first|refine qE ?_|refine qD ?_);(simp only [go_sem,↓dP,↓reduceIte];with_reducible and_intros;all_goals first|apply qA|exact qC|skip)
    (refine AskI.ret (hno) ?_;simp only [go_sem,↓dP,↓reduceIte];with_reducible and_intros;all_goals first|apply qA|exact qC|skip)
    (first|refine qE ?_|refine qD ?_);(simp only [go_sem,↓dP,↓reduceIte];with_reducible and_intros;all_goals first|apply qA|exact qC|skip)
    (refine AskI.ret (hR) ?_;simp only [go_sem,↓dP,↓reduceIte];with_reducible and_intros;all_goals first|apply qA|exact qC|skip)
    (first|refine qE ?_|refine qD ?_);(simp only [go_sem,↓dP,↓reduceIte];with_reducible and_intros;all_goals first|apply qA|exact qC|skip)
    refine Ok.seq ?_
    (first|refine qE ?_|refine qD ?_);(simp only [go_sem,↓dP,↓reduceIte];with_reducible and_intros;all_goals first|apply qA|exact qC|skip)
    refine Ok.cond rfl (fun hb => by simp at hb;omega) (fun _ => ?_)
    (first|refine qE ?_|refine qD ?_);(simp only [go_sem,↓dP,↓reduceIte];with_reducible and_intros;all_goals first|apply qA|exact qC|skip)
    refine Ok.cond (b:=false) (by first | rfl | (simp only [go_sem,↓dP,↓reduceIte];rfl)) (fun hb => by cases hb) (fun _ => ?_)
    (first|refine qE ?_|refine qD ?_);(simp only [go_sem,↓dP,↓reduceIte];with_reducible and_intros;all_goals first|apply qA|exact qC|skip)
    (refine AskI.ret (hjc) ?_;simp only [go_sem,↓dP,↓reduceIte];with_reducible and_intros;all_goals first|apply qA|exact qC|skip)
    refine Ok.cond (b:=true) (by first | rfl | (simp only [go_sem,↓dP,↓reduceIte];rfl)) (fun _ => ?_) (fun hb => by cases hb)
    (first|refine qE ?_|refine qD ?_);(simp only [go_sem,↓dP,↓reduceIte];with_reducible and_intros;all_goals first|apply qA|exact qC|skip)
    (try dsimp only [thenK,blockK,noGotoK])
    refine Ok.seq ?_
    (first|refine qE ?_|refine qD ?_);(simp only [go_sem,↓dP,↓reduceIte];with_reducible and_intros;all_goals first|apply qA|exact qC|skip)
    refine Ok.cond (b:=true) (by first | rfl | (simp only [go_sem,↓dP,↓reduceIte];rfl)) (fun _ => ?_) (fun hb => by cases hb)
    (first|refine qE ?_|refine qD ?_);(simp only [go_sem,↓dP,↓reduceIte];with_reducible and_intros;all_goals first|apply qA|exact qC|skip)
    (refine AskGI.ret (fun _ => c_same0) ?_;simp only [go_sem,↓dP,↓reduceIte];with_reducible and_intros;all_goals first|apply qA|exact qC|skip)
    (refine AskGI.ret (fun _ => c_known) ?_;simp only [go_sem,↓dP,↓reduceIte];with_reducible and_intros;all_goals first|apply qA|exact qC|skip)
    (refine Ok.ret ?_;(try dsimp only [thenK,blockK,noGotoK]);simp only [toList_mk,List.toList_toArray,retK_ret,retK_normal,resOK,resV,celV,rowV,frzAll,frzT,subV,subL,go_sem,↓dP,↓reduceIte])
    ((repeat' with_reducible apply And.intro)<;>(first | exact DEq.refl _ | refine DEq.int ?_ | refine DEq.bool ?_ | skip))
end
end Go.Proofs.Leaf
namespace Go.Proofs.YtdajcfdhcjbmmaaGreatDoor
open Go Go.RX Go.Proofs.Leaf Go.RowKit Go.ChangeShapes Go.WideShapes Go.ChangeAt
set_option maxRecDepth 100000
theorem leafReads_ctr (As:List SV) (h:opensAll [9] As):Ctr Tryz.prog 11 As (bS true):=by
 obtain ⟨_,A1,rfl,h0,h⟩:=opensAll_cons h
 obtain rfl:=opensAll_nil h
 obtain ⟨x0,rfl,y0⟩:=opens_text h0
 exact law_Reads x0 y0
theorem leafReads_facts:joinedFacts Tryz.prog 11 Tryz.f11 Rows.leafReadsSpec Rows.leafReadsRow = true:=by unfold joinedFacts;rw [enter_is,final_is,make_is];kernel_rfl
theorem leafReads_lifted (os:Os) (started:os.Started) (H:Type) (enc:TypeId×Value->H) :
  ReturnsInHanded {} Tryz.checked os 11 .any (fun w args => (Rows.leafReadsSpec.pre enc Tryz.prog Tryz.f11 [] false w args/\laidMetH Tryz.prog laid5 w)/\sizedMet enc Tryz.prog Tryz.f11 (OpenSpec.ofChange Rows.leafReadsSpec) false w args)
   (Rows.leafReadsSpec.post enc Tryz.prog Tryz.f11 false true false false):=by
 refine law_ctr (ts:=[9]) Rows.leafReadsSpec rfl started (by kernel_rfl) Tryz.func11 (by kernel_rfl) (by rw [Tryz.params11]) (by unfold argT;decide)
  (fun ds hd => ?_)
  (ChangeSpec.witness_shaped (enc:=enc) (C:=Tryz.checked) (os:=os) (X:=fun w _ => laidMetH Tryz.prog laid5 w) false (World.laidAll Tryz.prog os laid5) #[zT] 8 (World.laidAll_os _ _ _)
   (World.shaped_of_ZipB (by kernel_rfl) (by kernel_rfl)) (by kernel_rfl) (by kernel_rfl) (by kernel_rfl)
   (by rw [MakeChecks.laidMetH_plain _ _ _ (by kernel_rfl)];exact laidMet_laidAll _ (by kernel_rfl) (by kernel_rfl))) leafReads_ctr
 match ds,hd with
 | [d0],_ => rfl
theorem leafReads_row:Rows.LeafReadsSaid :=
 OpenClaim.holds_of_wide 11 Tryz.f11 rfl rfl rfl rfl rfl rfl rfl ⟨rfl,rfl,rfl,rfl,rfl⟩ rfl rfl rfl rfl rfl (by kernel_rfl) Tryz.func11 leafReads_facts (of_decide_eq_true (by kernel_rfl))
  (by unfold Func.isWrapper;first | (rw [if_pos (by decide +kernel)];kernel_rfl) | (rw [if_neg (by decide +kernel)];exact ⟨rfl,rfl⟩)) (fun os started H enc _ => leafReads_lifted os started H enc)
theorem leafReads_card:Rows.LeafReadsCardSaid :=
 Claim7.holds_tied_plain_at .later [] [.data,.data,.data,.data,.pinned] true (true,"9e87e616c4e1775f9d0f73ad686290748eaae9f5c03add0b1bcc61ba8396e555") true leafReads_row
  (fun _ h => by cases h) (by kernel_rfl) (fun _ h => by cases h) leafReads_row_tie rfl ⟨rfl,rfl⟩ main_is rfl
  (fun f fn hf hfn => by
   obtain rfl:f = 11:=Option.some.inj ((show Tryz.prog.funcNamed "mahlstick/mahlsticklaw04.LeafReads" = some 11 by kernel_rfl).symm.trans hf) |>.symm
   obtain rfl:fn = Tryz.f11:=(Option.some.inj (Tryz.func11.symm.trans hfn)).symm
   exact ⟨by kernel_rfl,fun j t ht => by
    rw [Tryz.params11] at ht
    exact law_stand (ts:=[9]) (by unfold argT;decide) (by simpa using Array.mem_of_getElem? ht)⟩) (by kernel_rfl)
end Go.Proofs.YtdajcfdhcjbmmaaGreatDoor
