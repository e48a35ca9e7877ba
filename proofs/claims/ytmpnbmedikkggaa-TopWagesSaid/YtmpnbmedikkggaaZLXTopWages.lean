/-
  The theorem of wages: TopWages returns true at every input, and leaves it as it was.
  No condition beside those that the statement itself names.
-/
import Derived.Test.YtmpnbmedikkggaaB34
import Derived.ChangeMaps5
import Derived.Laws.StructEq
import Derived.WalkKit
set_option linter.all false
namespace Go.Proofs.Ytmpnbmedikkggaa
open Go Go.RX Go.Proofs.Leaf Go.RowKit Go.ChangeShapes Go.WideShapes Go.ChangeAt
set_option maxRecDepth 100000
section
variable {H : Type} {enc : TypeId × Value → H} {W : World}
end
theorem opensAll_cons {t:TypeId} {ts:List TypeId} {As:List SV} (h:opensAll (t :: ts) As):∃ A Bs,As = A :: Bs/\opens t A/\opensAll ts Bs:=by
 cases As with
 | nil => exact h.elim
 | cons A Bs => exact ⟨A,Bs,rfl,h.1,h.2⟩
theorem opensAll_nil {As:List SV} (h:opensAll [] As):As = []:=by
 cases As with
 | nil => rfl
 | cons A Bs => exact h.elim
end Go.Proofs.Ytmpnbmedikkggaa
namespace Go.Proofs.Leaf
open Go Go.RX Go.Proofs Go.RowKit
attribute [local go_sem] Oper.semAt_some
set_option maxRecDepth 100000
theorem eqVs_cons {u v:Value} {us vs:List Value} {b:Bool} (h:eqVs (u :: us) (v :: vs) = some b):(∃ k x y c,u = .int k x/\v = .int k y/\eqVs us vs = some c/\b = ((x == y) && c))∨(∃ x y c,u = .bool x/\v = .bool y/\eqVs us vs = some c/\b = ((x == y) && c)):=by
 unfold eqVs at h
 split at h
 ·rename_i e1 e2;cases e1
 ·rename_i e1 e2;cases e1;cases e2
  split at h
  ·rename_i hk
   subst hk
   split at h
   ·rename_i c hc
    simp only [Option.some.injEq] at h
    exact .inl ⟨_,_,_,_,rfl,rfl,hc,h.symm⟩
   ·cases h
  ·cases h
 ·rename_i e1 e2;cases e1;cases e2
  split at h
  ·rename_i c hc
   simp only [Option.some.injEq] at h
   exact .inr ⟨_,_,_,rfl,rfl,hc,h.symm⟩
  ·cases h
 ·cases h
theorem eqVs_nil {vs:List Value} {b:Bool} (h:eqVs [] vs = some b):vs = []/\b = true:=by
 cases vs with
 | nil => simp [eqVs] at h;exact ⟨rfl,by simp [h]⟩
 | cons v vs => simp [eqVs] at h
theorem eqVs_c {u:Value} {us vs:List Value} {b:Bool} (h:eqVs (u :: us) vs = some b):∃ v vs',vs = v :: vs':=by
 cases vs with
 | nil => cases u<;>simp [eqVs] at h
 | cons v vs => exact ⟨_,_,rfl⟩
theorem eqVs_int {u:Value} {us vs:List Value} {ks:List Bool} {b:Bool} (h:(u :: us).map isB = false :: ks) (he:eqVs (u :: us) vs = some b):∃ k x y vs' c,u = .int k x/\vs = .int k y :: vs'/\us.map isB = ks/\eqVs us vs' = some c/\b = ((x == y) && c):=by
 obtain ⟨v,vs',rfl⟩:=eqVs_c he
 simp only [List.map_cons,List.cons.injEq] at h
 rcases eqVs_cons he with ⟨k,x,y,c,rfl,rfl,h3,h4⟩ | ⟨x,y,c,rfl,rfl,h3,h4⟩
 ·exact ⟨k,x,y,vs',c,rfl,rfl,h.2,h3,h4⟩
 ·simp [isB] at h
theorem two_ints {us vs:Array Value} {b:Bool} (h:us.toList.map isB = [false,false]) (he:eqVs us.toList vs.toList = some b) :
  ∃ k l x y x' y',us = #[.int k x,.int l y]/\vs = #[.int k x',.int l y']/\b = ((x == x') && (y == y')):=by
 obtain ⟨us⟩:=us
 obtain ⟨vs⟩:=vs
 simp only at h he
 have hl:us.length = 2:=by simpa using congrArg List.length h
 match us,hl,h,he with
 | [u0,u1],_,h,he =>
  obtain ⟨k,x,x',vs1,c1,rfl,rfl,h1,he1,rfl⟩:=eqVs_int h he
  obtain ⟨l,y,y',vs2,c2,rfl,rfl,h2,he2,rfl⟩:=eqVs_int h1 he1
  obtain ⟨rfl,rfl⟩:=eqVs_nil he2
  exact ⟨k,l,x,y,x',y',rfl,rfl,by simp⟩
theorem stEqSpan:StEq Try.prog 24 [false,false]:=by
 intro us vs w b x y h he
 obtain ⟨k,l,a,c,a',c',rfl,rfl,rfl⟩:=two_ints h he
 have u3:=Try.underlying3
 have a3:=Try.isAgg3
 have z3:=Try.sizeOf3
 have hS:Try.prog.underlying 24 = some (.struct (Try.prog.fieldsOf 24)):=by kernel_rfl
 have hp:Try.prog.stoodInHeld 24 = false:=by kernel_rfl
 have hg:Try.prog.eqGuardType Try.prog.depth 24 = false:=by kernel_rfl
 have heq:(Op.equalIn 10000 24 (.agg #[.int k a,.int l c]) (.agg #[.int k a',.int l c'])).run Try.prog w = .ok ((a == a') && (c == c')) w:=by
  rw [show (10000:Nat) = 9999 + 1 from rfl,run_equalIn_agg w 9999 24 _ _ hS hp]
  simp only [Program.fieldsOf,Try.underlying24]
  go_simp
  by_cases h1:a = a'<;>by_cases h2:c = c'<;>simp [h1,h2]
 refine ⟨?_,?_⟩
 ·simp only [Sem.run_bind,run_eqGuard_agg w _ _ _ _ _ _ hg,Result.andThen_ok,run_eql_struct,heq]
 ·simp only [Sem.run_bind,run_eqGuard_agg w _ _ _ _ _ _ hg,Result.andThen_ok,run_neq_struct,heq]
end Go.Proofs.Leaf
namespace Go.Proofs.Leaf
open Go Go.RX Go.Proofs Go.RowKit
set_option maxRecDepth 100000
variable [Glob]
theorem c_Best (B:Bk) (hB:B.ok) (p:List Int) (h:(bestsB B).head? = some p):Ctr Try.prog 10 [B.sv] (.tup [ilS p,iS (longB B p),iS 0]):=by
 have hb:Ctr Try.prog 32 [B.sv] (.d (slD 2 tmD (bstT (timsB B)))):=Ctr.any (c_bbests B hB)
 rw [best_tims] at hb
 obtain ⟨r,hr⟩:∃ r,bestsB B = p :: r:=by
  cases hq:bestsB B with
  | nil => rw [hq] at h;cases h
  | cons x r => rw [hq] at h;cases h;exact ⟨r,rfl⟩
 rw [hr,List.map_cons] at hb
 have hl:(((longB B p).toNat:Nat):Int) = longB B p:=by have:=longB_nn B p;omega
 (refine Ctr.mk (fn:=Try.f10) rfl rfl rfl rfl rfl Try.results10 ?_;intro _;dsimp only [args,List.toList_toArray])
 (first|refine qE ?_|refine qD ?_);(simp only [go_sem,↓dP,↓reduceIte];with_reducible and_intros;all_goals first|apply qA|exact qC|skip)
 refine Ok.seq ?_
 (first|refine qE ?_|refine qD ?_);(simp only [go_sem,↓dP,↓reduceIte];with_reducible and_intros;all_goals first|apply qA|exact qC|skip)
 (refine AskI.ret (c_isBench B hB) ?_;simp only [go_sem,↓dP,↓reduceIte];with_reducible and_intros;all_goals first|apply qA|exact qC|skip)
 refine Ok.cond (b:=false) (by first | rfl | (simp only [go_sem,↓dP,↓reduceIte];rfl)) (fun hb => by cases hb) (fun _ => ?_)
 (refine Ok.skip ?_;(try dsimp only [thenK,blockK,noGotoK]))
 (first|refine qE ?_|refine qD ?_);(simp only [go_sem,↓dP,↓reduceIte];with_reducible and_intros;all_goals first|apply qA|exact qC|skip)
 (refine AskI.ret (hb) ?_;simp only [go_sem,↓dP,↓reduceIte];with_reducible and_intros;all_goals first|apply qA|exact qC|skip)
 (first|refine qE ?_|refine qD ?_);(simp only [go_sem,↓dP,↓reduceIte];with_reducible and_intros;all_goals first|apply qA|exact qC|skip)
 (refine Ok.ret ?_;(try dsimp only [thenK,blockK,noGotoK]);simp only [toList_mk,List.toList_toArray,retK_ret,retK_normal,resOK,resV,celV,rowV,frzAll,frzT,subV,subL,go_sem,↓dP,↓reduceIte])
 ((repeat' with_reducible apply And.intro)<;>(first | exact DEq.refl _ | refine DEq.int ?_ | refine DEq.bool ?_ | skip))
 exact hl
theorem c_one20 (n:Int):Ctr Try.prog 6 [iS n] (spS (n,n)):=by
 (refine Ctr.mk (fn:=Try.f6) rfl rfl rfl rfl rfl Try.results6 ?_;intro _;dsimp only [args,List.toList_toArray])
 (first|refine qE ?_|refine qD ?_);(simp only [go_sem,↓dP,↓reduceIte];with_reducible and_intros;all_goals first|apply qA|exact qC|skip)
 (first|refine qE ?_|refine qD ?_);(simp only [go_sem,↓dP,↓reduceIte];with_reducible and_intros;all_goals first|apply qA|exact qC|skip)
 (refine Ok.ret ?_;(try dsimp only [thenK,blockK,noGotoK]);simp only [toList_mk,List.toList_toArray,retK_ret,retK_normal,resOK,resV,celV,rowV,frzAll,frzT,subV,subL,go_sem,↓dP,↓reduceIte])
 ((repeat' with_reducible apply And.intro)<;>(first | exact DEq.refl _ | refine DEq.int ?_ | refine DEq.bool ?_ | skip))
end Go.Proofs.Leaf
namespace Go.Proofs.Leaf
open Go Go.RX Go.Proofs
set_option maxRecDepth 10000
variable [Glob]
structure Pb where
 le:Int
 ft:Int
 lo:Int
 hi:Int
 ow:Int
 deriving Inhabited
def pbD (b:Pb):Nat->DV
 | 0 => iD b.le | 1 => iD b.ft | 2 => iD b.lo | 3 => iD b.hi | 4 => iD b.ow | _ => .nilI
abbrev Pb.sv (b:Pb):SV:=.agg [iS b.le,iS b.ft,iS b.lo,iS b.hi,iS b.ow]
def taD (_:Unit):Nat->DV
 | 0 => iD 3 | 1 => iD 1 | 2 => iD 1 | 3 => iD 1 | 4 => .bool false | _ => .nilI
abbrev taS:SV:=.agg [iS 3,iS 1,iS 1,iS 1,bS false]
abbrev shX (L:List Pb):List SV:=[ilS [0],.d (slD 5 pbD L),.d (slD 5 taD [()])]
abbrev shS (L:List Pb):SV:=.agg (shX L)
abbrev shC (L:List Pb):BC:={ frz:=false,xs:=shX L }
abbrev shK (L:List Pb):List DV:=[slD 1 intD [0],slD 5 pbD L,slD 5 taD [()]]
def pbOk (b:Pb):Prop:=b.le = 0/\b.ft = 0/\0<=b.lo/\b.lo<=b.hi/\b.hi<=6/\b.ow = 0
theorem c_pin (n lo hi:Int):Ctr Try.prog 70 [iS n,iS lo,iS hi] (bS (inB n lo hi)):=by
 (refine Ctr.mk (fn:=Try.f70) rfl rfl rfl rfl rfl Try.results70 ?_;intro _;dsimp only [args,List.toList_toArray])
 (first|refine qE ?_|refine qD ?_);(simp only [go_sem,↓dP,↓reduceIte];with_reducible and_intros;all_goals first|apply qA|exact qC|skip)
 (first|refine qE ?_|refine qD ?_);(simp only [go_sem,↓dP,↓reduceIte];with_reducible and_intros;all_goals first|apply qA|exact qC|skip)
 (refine Ok.ret ?_;(try dsimp only [thenK,blockK,noGotoK]);simp only [toList_mk,List.toList_toArray,retK_ret,retK_normal,resOK,resV,celV,rowV,frzAll,frzT,subV,subL,go_sem,↓dP,↓reduceIte])
 exact .refl _
theorem c_pisBoard (L:List Pb) (b:Pb) (h:pbOk b):Ctr Try.prog 89 [shS L,b.sv] (bS true):=by
 obtain ⟨h1,h2,h3,h4,h5,h6⟩:=h
 (refine Ctr.mk (fn:=Try.f89) rfl rfl rfl rfl rfl Try.results89 ?_;intro _;dsimp only [args,List.toList_toArray])
 (first|refine qE ?_|refine qD ?_);(simp only [go_sem,↓dP,↓reduceIte];with_reducible and_intros;all_goals first|apply qA|exact qC|skip)
 (first|refine qE ?_|refine qD ?_);(simp only [go_sem,↓dP,↓reduceIte];with_reducible and_intros;all_goals first|apply qA|exact qC|skip)
 (refine AskI.ret (c_pin _ _ _) ?_;simp only [go_sem,↓dP,↓reduceIte];with_reducible and_intros;all_goals first|apply qA|exact qC|skip)
 (refine AskGI.ret (fun _ => c_pin _ _ _) ?_;simp only [go_sem,↓dP,↓reduceIte];with_reducible and_intros;all_goals first|apply qA|exact qC|skip)
 (refine AskGI.ret (fun _ => c_pin _ _ _) ?_;simp only [go_sem,↓dP,↓reduceIte];with_reducible and_intros;all_goals first|apply qA|exact qC|skip)
 (refine AskGI.ret (fun _ => c_pin _ _ _) ?_;simp only [go_sem,↓dP,↓reduceIte];with_reducible and_intros;all_goals first|apply qA|exact qC|skip)
 all_goals try (intro q;apply qB;simp [inB] at q;omega)
 (refine AskGI.ret (fun _ => c_pin _ _ _) ?_;simp only [go_sem,↓dP,↓reduceIte];with_reducible and_intros;all_goals first|apply qA|exact qC|skip)
 (refine Ok.ret ?_;(try dsimp only [thenK,blockK,noGotoK]);simp only [toList_mk,List.toList_toArray,retK_ret,retK_normal,resOK,resV,celV,rowV,frzAll,frzT,subV,subL,go_sem,↓dP,↓reduceIte])
 refine DEq.bool ?_
 simp [inB]
 omega
theorem c_pisTariff:Ctr Try.prog 92 [taS] (bS true):=by
 (refine Ctr.mk (fn:=Try.f92) rfl rfl rfl rfl rfl Try.results92 ?_;intro _;dsimp only [args,List.toList_toArray])
 (first|refine qE ?_|refine qD ?_);(simp only [go_sem,↓dP,↓reduceIte];with_reducible and_intros;all_goals first|apply qA|exact qC|skip)
 (first|refine qE ?_|refine qD ?_);(simp only [go_sem,↓dP,↓reduceIte];with_reducible and_intros;all_goals first|apply qA|exact qC|skip)
 (refine AskGI.ret (fun _ => c_pin _ _ _) ?_;simp only [go_sem,↓dP,↓reduceIte];with_reducible and_intros;all_goals first|apply qA|exact qC|skip)
 (refine AskGI.ret (fun _ => c_pin _ _ _) ?_;simp only [go_sem,↓dP,↓reduceIte];with_reducible and_intros;all_goals first|apply qA|exact qC|skip)
 (refine Ok.ret ?_;(try dsimp only [thenK,blockK,noGotoK]);simp only [toList_mk,List.toList_toArray,retK_ret,retK_normal,resOK,resV,celV,rowV,frzAll,frzT,subV,subL,go_sem,↓dP,↓reduceIte])
 exact .refl _
end Go.Proofs.Leaf
namespace Go.Proofs.Leaf
open Go Go.RX Go.Proofs
set_option maxRecDepth 10000
variable [Glob]
theorem c_IndexFunc_PriceBoard (l:List Pb) (f m:Nat) (c:Nat->DV) (q:Pb->Bool) (hn:l.length < 1000000) (hf:∀ x∈l,Ctr Try.prog f (x.sv :: take c 0 m) (bS (q x))) :
  Ctr Try.prog 101 [.d (slD 5 pbD l),.d (.clo f m c)] (iS (ixL q l)):=by
 (refine Ctr.mk (fn:=Try.f101) rfl rfl rfl rfl rfl Try.results101 ?_;intro _;dsimp only [args,List.toList_toArray])
 (first|refine qE ?_|refine qD ?_);(simp only [go_sem,↓dP,↓reduceIte];with_reducible and_intros;all_goals first|apply qA|exact qC|skip)
 refine Ok.seq ?_
 (first|refine qE ?_|refine qD ?_);(simp only [go_sem,↓dP,↓reduceIte];with_reducible and_intros;all_goals first|apply qA|exact qC|skip)
 refine Ok.block ?_
 refine Ok.count l.length (fun i => ⟨[(0,.d (slD 5 pbD l)),(1,.d (.clo f m c)),(7,iS l.length),(8,iS i)],[],[]⟩) (fun i => ∀ x∈l.take i,q x = false) ⟨fun x hx => by simp at hx,?_⟩ ?_ ?_
 ·(refine Sub.of ([]) ([]) ?_ ?_ ?_ rfl rfl<;>simp only [subB,subB1,subT,subT1,newT,subE,subV,subL,go_sem,↓dP,↓reduceIte]<;>(try (repeat' with_reducible apply And.intro))<;>(try first | exact DEq.refl _ | refine DEq.int ?_ | refine DEq.bool ?_ | omega))
 ·intro i hi h0
  (first|refine qE ?_|refine qD ?_);(simp only [go_sem,↓dP,↓reduceIte];with_reducible and_intros;all_goals first|apply qA|exact qC|skip)
  refine Ok.seq ?_
  refine Ok.cond rfl (fun _ => ?_) (fun hb => by simp at hb;omega)
  (refine Ok.skip ?_;(try dsimp only [thenK,blockK,noGotoK]))
  refine Ok.seq ?_
  refine Ok.block ?_
  (first|refine qE ?_|refine qD ?_);(simp only [go_sem,↓dP,↓reduceIte];with_reducible and_intros;all_goals first|apply qA|exact qC|skip)
  (first|refine qE ?_|refine qD ?_);(simp only [go_sem,↓dP,↓reduceIte];with_reducible and_intros;all_goals first|apply qA|exact qC|skip)
  (refine AskI.ret (hf (l.getD i default) (getD_mem hi)) ?_;simp only [go_sem,↓dP,↓reduceIte];with_reducible and_intros;all_goals first|apply qA|exact qC|skip)
  refine Ok.cond rfl ?_ ?_
  ·intro hp
   (first|refine qE ?_|refine qD ?_);(simp only [go_sem,↓dP,↓reduceIte];with_reducible and_intros;all_goals first|apply qA|exact qC|skip)
   (refine Ok.ret ?_;(try dsimp only [thenK,blockK,noGotoK]);simp only [toList_mk,List.toList_toArray,retK_ret,retK_normal,resOK,resV,celV,rowV,frzAll,frzT,subV,subL,go_sem,↓dP,↓reduceIte])
   refine DEq.int ?_
   rw [ixL_at hi hp h0]
  ·intro hp
   (refine Ok.skip ?_;(try dsimp only [thenK,blockK,noGotoK]))
   (first|refine qE ?_|refine qD ?_);(simp only [go_sem,↓dP,↓reduceIte];with_reducible and_intros;all_goals first|apply qA|exact qC|skip)
   (try dsimp only [thenK,blockK,noGotoK])
   refine ⟨no_step hi h0 hp,?_⟩
   (refine Sub.of ([]) ([]) ?_ ?_ ?_ rfl rfl<;>simp only [subB,subB1,subT,subT1,newT,subE,subV,subL,go_sem,↓dP,↓reduceIte]<;>(try (repeat' with_reducible apply And.intro))<;>(try first | exact DEq.refl _ | refine DEq.int ?_ | refine DEq.bool ?_ | omega))
 ·intro h0
  (first|refine qE ?_|refine qD ?_);(simp only [go_sem,↓dP,↓reduceIte];with_reducible and_intros;all_goals first|apply qA|exact qC|skip)
  refine Ok.seq ?_
  refine Ok.cond rfl (fun hb => by simp at hb) (fun _ => ?_)
  (refine Ok.exit ?_;simp only [thenK_exit,blockK_exit,noGotoK_exit,thenK_normal,blockK_normal,noGotoK_normal,↓reduceIte,Nat.reduceEqDiff])
  (first|refine qE ?_|refine qD ?_);(simp only [go_sem,↓dP,↓reduceIte];with_reducible and_intros;all_goals first|apply qA|exact qC|skip)
  (refine Ok.ret ?_;(try dsimp only [thenK,blockK,noGotoK]);simp only [toList_mk,List.toList_toArray,retK_ret,retK_normal,resOK,resV,celV,rowV,frzAll,frzT,subV,subL,go_sem,↓dP,↓reduceIte])
  refine DEq.int ?_
  rw [ixL_no (fun x hx => h0 x (by simpa using hx))]
theorem c_ContainsFunc_PriceBoard (l:List Pb) (f m:Nat) (c:Nat->DV) (q:Pb->Bool) (hn:l.length < 1000000) (hf:∀ x∈l,Ctr Try.prog f (x.sv :: take c 0 m) (bS (q x))) :
  Ctr Try.prog 87 [.d (slD 5 pbD l),.d (.clo f m c)] (bS (l.any q)):=by
 (refine Ctr.mk (fn:=Try.f87) rfl rfl rfl rfl rfl Try.results87 ?_;intro _;dsimp only [args,List.toList_toArray])
 (first|refine qE ?_|refine qD ?_);(simp only [go_sem,↓dP,↓reduceIte];with_reducible and_intros;all_goals first|apply qA|exact qC|skip)
 (first|refine qE ?_|refine qD ?_);(simp only [go_sem,↓dP,↓reduceIte];with_reducible and_intros;all_goals first|apply qA|exact qC|skip)
 (refine AskI.ret (c_IndexFunc_PriceBoard l f m c q hn hf) ?_;simp only [go_sem,↓dP,↓reduceIte];with_reducible and_intros;all_goals first|apply qA|exact qC|skip)
 (refine Ok.ret ?_;(try dsimp only [thenK,blockK,noGotoK]);simp only [toList_mk,List.toList_toArray,retK_ret,retK_normal,resOK,resV,celV,rowV,frzAll,frzT,subV,subL,go_sem,↓dP,↓reduceIte])
 rw [ixL_any]
 exact .refl _
theorem c_IndexFunc_PriceTariff (l:List Unit) (f m:Nat) (c:Nat->DV) (q:Unit->Bool) (hn:l.length < 1000000) (hf:∀ x∈l,Ctr Try.prog f (taS :: take c 0 m) (bS (q x))) :
  Ctr Try.prog 102 [.d (slD 5 taD l),.d (.clo f m c)] (iS (ixL q l)):=by
 (refine Ctr.mk (fn:=Try.f102) rfl rfl rfl rfl rfl Try.results102 ?_;intro _;dsimp only [args,List.toList_toArray])
 (first|refine qE ?_|refine qD ?_);(simp only [go_sem,↓dP,↓reduceIte];with_reducible and_intros;all_goals first|apply qA|exact qC|skip)
 refine Ok.seq ?_
 (first|refine qE ?_|refine qD ?_);(simp only [go_sem,↓dP,↓reduceIte];with_reducible and_intros;all_goals first|apply qA|exact qC|skip)
 refine Ok.block ?_
 refine Ok.count l.length (fun i => ⟨[(0,.d (slD 5 taD l)),(1,.d (.clo f m c)),(7,iS l.length),(8,iS i)],[],[]⟩) (fun i => ∀ x∈l.take i,q x = false) ⟨fun x hx => by simp at hx,?_⟩ ?_ ?_
 ·(refine Sub.of ([]) ([]) ?_ ?_ ?_ rfl rfl<;>simp only [subB,subB1,subT,subT1,newT,subE,subV,subL,go_sem,↓dP,↓reduceIte]<;>(try (repeat' with_reducible apply And.intro))<;>(try first | exact DEq.refl _ | refine DEq.int ?_ | refine DEq.bool ?_ | omega))
 ·intro i hi h0
  (first|refine qE ?_|refine qD ?_);(simp only [go_sem,↓dP,↓reduceIte];with_reducible and_intros;all_goals first|apply qA|exact qC|skip)
  refine Ok.seq ?_
  refine Ok.cond rfl (fun _ => ?_) (fun hb => by simp at hb;omega)
  (refine Ok.skip ?_;(try dsimp only [thenK,blockK,noGotoK]))
  refine Ok.seq ?_
  refine Ok.block ?_
  (first|refine qE ?_|refine qD ?_);(simp only [go_sem,↓dP,↓reduceIte];with_reducible and_intros;all_goals first|apply qA|exact qC|skip)
  (first|refine qE ?_|refine qD ?_);(simp only [go_sem,↓dP,↓reduceIte];with_reducible and_intros;all_goals first|apply qA|exact qC|skip)
  (refine AskI.ret (hf (l.getD i default) (getD_mem hi)) ?_;simp only [go_sem,↓dP,↓reduceIte];with_reducible and_intros;all_goals first|apply qA|exact qC|skip)
  refine Ok.cond rfl ?_ ?_
  ·intro hp
   (first|refine qE ?_|refine qD ?_);(simp only [go_sem,↓dP,↓reduceIte];with_reducible and_intros;all_goals first|apply qA|exact qC|skip)
   (refine Ok.ret ?_;(try dsimp only [thenK,blockK,noGotoK]);simp only [toList_mk,List.toList_toArray,retK_ret,retK_normal,resOK,resV,celV,rowV,frzAll,frzT,subV,subL,go_sem,↓dP,↓reduceIte])
   refine DEq.int ?_
   rw [ixL_at hi hp h0]
  ·intro hp
   (refine Ok.skip ?_;(try dsimp only [thenK,blockK,noGotoK]))
   (first|refine qE ?_|refine qD ?_);(simp only [go_sem,↓dP,↓reduceIte];with_reducible and_intros;all_goals first|apply qA|exact qC|skip)
   (try dsimp only [thenK,blockK,noGotoK])
   refine ⟨no_step hi h0 hp,?_⟩
   (refine Sub.of ([]) ([]) ?_ ?_ ?_ rfl rfl<;>simp only [subB,subB1,subT,subT1,newT,subE,subV,subL,go_sem,↓dP,↓reduceIte]<;>(try (repeat' with_reducible apply And.intro))<;>(try first | exact DEq.refl _ | refine DEq.int ?_ | refine DEq.bool ?_ | omega))
 ·intro h0
  (first|refine qE ?_|refine qD ?_);(simp only [go_sem,↓dP,↓reduceIte];with_reducible and_intros;all_goals first|apply qA|exact qC|skip)
  refine Ok.seq ?_
  refine Ok.cond rfl (fun hb => by simp at hb) (fun _ => ?_)
  (refine Ok.exit ?_;simp only [thenK_exit,blockK_exit,noGotoK_exit,thenK_normal,blockK_normal,noGotoK_normal,↓reduceIte,Nat.reduceEqDiff])
  (first|refine qE ?_|refine qD ?_);(simp only [go_sem,↓dP,↓reduceIte];with_reducible and_intros;all_goals first|apply qA|exact qC|skip)
  (refine Ok.ret ?_;(try dsimp only [thenK,blockK,noGotoK]);simp only [toList_mk,List.toList_toArray,retK_ret,retK_normal,resOK,resV,celV,rowV,frzAll,frzT,subV,subL,go_sem,↓dP,↓reduceIte])
  refine DEq.int ?_
  rw [ixL_no (fun x hx => h0 x (by simpa using hx))]
theorem c_ContainsFunc_PriceTariff (l:List Unit) (f m:Nat) (c:Nat->DV) (q:Unit->Bool) (hn:l.length < 1000000) (hf:∀ x∈l,Ctr Try.prog f (taS :: take c 0 m) (bS (q x))) :
  Ctr Try.prog 90 [.d (slD 5 taD l),.d (.clo f m c)] (bS (l.any q)):=by
 (refine Ctr.mk (fn:=Try.f90) rfl rfl rfl rfl rfl Try.results90 ?_;intro _;dsimp only [args,List.toList_toArray])
 (first|refine qE ?_|refine qD ?_);(simp only [go_sem,↓dP,↓reduceIte];with_reducible and_intros;all_goals first|apply qA|exact qC|skip)
 (first|refine qE ?_|refine qD ?_);(simp only [go_sem,↓dP,↓reduceIte];with_reducible and_intros;all_goals first|apply qA|exact qC|skip)
 (refine AskI.ret (c_IndexFunc_PriceTariff l f m c q hn hf) ?_;simp only [go_sem,↓dP,↓reduceIte];with_reducible and_intros;all_goals first|apply qA|exact qC|skip)
 (refine Ok.ret ?_;(try dsimp only [thenK,blockK,noGotoK]);simp only [toList_mk,List.toList_toArray,retK_ret,retK_normal,resOK,resV,celV,rowV,frzAll,frzT,subV,subL,go_sem,↓dP,↓reduceIte])
 rw [ixL_any]
 exact .refl _
theorem c_pisSheet_1 (x:Int):Ctr Try.prog 86 [iS x] (bS (!inB x 0 100)):=by
 (refine Ctr.mk (fn:=Try.f86) rfl rfl rfl rfl rfl Try.results86 ?_;intro _;dsimp only [args,List.toList_toArray])
 (first|refine qE ?_|refine qD ?_);(simp only [go_sem,↓dP,↓reduceIte];with_reducible and_intros;all_goals first|apply qA|exact qC|skip)
 (first|refine qE ?_|refine qD ?_);(simp only [go_sem,↓dP,↓reduceIte];with_reducible and_intros;all_goals first|apply qA|exact qC|skip)
 (refine AskI.ret (c_pin _ _ _) ?_;simp only [go_sem,↓dP,↓reduceIte];with_reducible and_intros;all_goals first|apply qA|exact qC|skip)
 (refine Ok.ret ?_;(try dsimp only [thenK,blockK,noGotoK]);simp only [toList_mk,List.toList_toArray,retK_ret,retK_normal,resOK,resV,celV,rowV,frzAll,frzT,subV,subL,go_sem,↓dP,↓reduceIte])
 exact .refl _
theorem c_pisSheet_2 (L:List Pb) (b:Pb) (h:pbOk b):Ctr Try.prog 88 [b.sv,.d (.ref 3 (dget (shK L)))] (bS false):=by
 (refine Ctr.mk (fn:=Try.f88) rfl rfl rfl rfl rfl Try.results88 ?_;intro _;dsimp only [args,List.toList_toArray])
 (first|refine qE ?_|refine qD ?_);(simp only [go_sem,↓dP,↓reduceIte];with_reducible and_intros;all_goals first|apply qA|exact qC|skip)
 (first|refine qE ?_|refine qD ?_);(simp only [go_sem,↓dP,↓reduceIte];with_reducible and_intros;all_goals first|apply qA|exact qC|skip)
 (refine AskI.ret (c_pisBoard L b h) ?_;simp only [go_sem,↓dP,↓reduceIte];with_reducible and_intros;all_goals first|apply qA|exact qC|skip)
 (refine Ok.ret ?_;(try dsimp only [thenK,blockK,noGotoK]);simp only [toList_mk,List.toList_toArray,retK_ret,retK_normal,resOK,resV,celV,rowV,frzAll,frzT,subV,subL,go_sem,↓dP,↓reduceIte])
 exact .refl _
theorem c_pisSheet_3:Ctr Try.prog 91 [taS] (bS false):=by
 (refine Ctr.mk (fn:=Try.f91) rfl rfl rfl rfl rfl Try.results91 ?_;intro _;dsimp only [args,List.toList_toArray])
 (first|refine qE ?_|refine qD ?_);(simp only [go_sem,↓dP,↓reduceIte];with_reducible and_intros;all_goals first|apply qA|exact qC|skip)
 (first|refine qE ?_|refine qD ?_);(simp only [go_sem,↓dP,↓reduceIte];with_reducible and_intros;all_goals first|apply qA|exact qC|skip)
 (refine AskI.ret (c_pisTariff) ?_;simp only [go_sem,↓dP,↓reduceIte];with_reducible and_intros;all_goals first|apply qA|exact qC|skip)
 (refine Ok.ret ?_;(try dsimp only [thenK,blockK,noGotoK]);simp only [toList_mk,List.toList_toArray,retK_ret,retK_normal,resOK,resV,celV,rowV,frzAll,frzT,subV,subL,go_sem,↓dP,↓reduceIte])
 exact .refl _
theorem c_pisSheet (L:List Pb) (h1:1<=L.length) (h4:L.length<=4) (h:∀ b∈L,pbOk b):Ctr Try.prog 69 [shS L] (bS true):=by
 (refine Ctr.mk (fn:=Try.f69) rfl rfl rfl rfl rfl Try.results69 ?_;intro _;dsimp only [args,List.toList_toArray])
 (first|refine qE ?_|refine qD ?_);(simp only [go_sem,↓dP,↓reduceIte];with_reducible and_intros;all_goals first|apply qA|exact qC|skip)
 refine Ok.seq ?_
 (first|refine qE ?_|refine qD ?_);(simp only [go_sem,↓dP,↓reduceIte];with_reducible and_intros;all_goals first|apply qA|exact qC|skip)
 (refine AskI.ret (c_pin _ _ _) ?_;simp only [go_sem,↓dP,↓reduceIte];with_reducible and_intros;all_goals first|apply qA|exact qC|skip)
 (refine AskGI.ret (fun _ => c_pin _ _ _) ?_;simp only [go_sem,↓dP,↓reduceIte];with_reducible and_intros;all_goals first|apply qA|exact qC|skip)
 (refine AskGI.ret (fun _ => c_pin _ _ _) ?_;simp only [go_sem,↓dP,↓reduceIte];with_reducible and_intros;all_goals first|apply qA|exact qC|skip)
 refine Ok.cond rfl (fun hb => ?_) (fun _ => ?_)
 ·exfalso
  simp [inB] at hb
  omega
 (refine Ok.skip ?_;(try dsimp only [thenK,blockK,noGotoK]))
 refine Ok.sub (Sub.frzB (b:=0) rfl rfl) ?_
 simp only [setN]
 (first|refine qE ?_|refine qD ?_);(simp only [go_sem,↓dP,↓reduceIte];with_reducible and_intros;all_goals first|apply qA|exact qC|skip)
 (refine AskI.ret (c_ContainsFunc_int [0] 86 0 _ (fun x => !inB x 0 100) (by simp) (fun x _ => c_pisSheet_1 x)) ?_;simp only [go_sem,↓dP,↓reduceIte];with_reducible and_intros;all_goals first|apply qA|exact qC|skip)
 (refine AskGI.ret (fun _ => c_ContainsFunc_PriceBoard L 88 1 _ (fun _ => false) (by omega) (fun b hb => c_pisSheet_2 L b (h b hb))) ?_;simp only [go_sem,↓dP,↓reduceIte];with_reducible and_intros;all_goals first|apply qA|exact qC|skip)
 (refine AskGI.ret (fun _ => c_ContainsFunc_PriceTariff [()] 91 0 _ (fun _ => false) (by simp) (fun _ _ => c_pisSheet_3)) ?_;simp only [go_sem,↓dP,↓reduceIte];with_reducible and_intros;all_goals first|apply qA|exact qC|skip)
 (refine Ok.ret ?_;(try dsimp only [thenK,blockK,noGotoK]);simp only [toList_mk,List.toList_toArray,retK_ret,retK_normal,resOK,resV,celV,rowV,frzAll,frzT,subV,subL,go_sem,↓dP,↓reduceIte])
 refine DEq.bool ?_
 simp [inB]
theorem c_pisOne (L:List Pb) (h1:1<=L.length) (h4:L.length<=4) (h:∀ b∈L,pbOk b):Ctr Try.prog 37 [shS L,iS 0] (bS true):=by
 (refine Ctr.mk (fn:=Try.f37) rfl rfl rfl rfl rfl Try.results37 ?_;intro _;dsimp only [args,List.toList_toArray])
 (first|refine qE ?_|refine qD ?_);(simp only [go_sem,↓dP,↓reduceIte];with_reducible and_intros;all_goals first|apply qA|exact qC|skip)
 (first|refine qE ?_|refine qD ?_);(simp only [go_sem,↓dP,↓reduceIte];with_reducible and_intros;all_goals first|apply qA|exact qC|skip)
 (refine AskI.ret (c_pisSheet L h1 h4 h) ?_;simp only [go_sem,↓dP,↓reduceIte];with_reducible and_intros;all_goals first|apply qA|exact qC|skip)
 (refine AskGI.ret (fun _ => c_pin _ _ _) ?_;simp only [go_sem,↓dP,↓reduceIte];with_reducible and_intros;all_goals first|apply qA|exact qC|skip)
 (refine Ok.ret ?_;(try dsimp only [thenK,blockK,noGotoK]);simp only [toList_mk,List.toList_toArray,retK_ret,retK_normal,resOK,resV,celV,rowV,frzAll,frzT,subV,subL,go_sem,↓dP,↓reduceIte])
 exact .refl _
theorem c_areHours (L:List Pb) (H:List Int) (hl:H.length = L.length) (h4:L.length<=4) (h:∀ i,i < H.length->(L.getD i default).lo<=H.getD i default/\H.getD i default<=(L.getD i default).hi):Ctr Try.prog 41 [shS L,ilS H] (bS true):=by
 (refine Ctr.mk (fn:=Try.f41) rfl rfl rfl rfl rfl Try.results41 ?_;intro _;dsimp only [args,List.toList_toArray])
 (first|refine qE ?_|refine qD ?_);(simp only [go_sem,↓dP,↓reduceIte];with_reducible and_intros;all_goals first|apply qA|exact qC|skip)
 refine Ok.seq ?_
 (first|refine qE ?_|refine qD ?_);(simp only [go_sem,↓dP,↓reduceIte];with_reducible and_intros;all_goals first|apply qA|exact qC|skip)
 refine Ok.block ?_
 refine Ok.count H.length (fun i => ⟨[(1,ilS H),(2,.p 0 0),(7,ilS H),(8,iS H.length),(9,iS i)],[shC L],[]⟩) (fun _ => True) ⟨trivial,?_⟩ ?_ ?_
 ·(refine Sub.of ([0]) ([]) ?_ ?_ ?_ rfl rfl<;>simp only [subB,subB1,subT,subT1,newT,subE,subV,subL,go_sem,↓dP,↓reduceIte]<;>(try (repeat' with_reducible apply And.intro))<;>(try first | exact DEq.refl _ | refine DEq.int ?_ | refine DEq.bool ?_ | omega))
 ·intro i hi _
  obtain ⟨q1,q2⟩:=h i hi
  have hi2:i < L.length:=by omega
  ((first|refine qE ?_|refine qD ?_);(simp only [go_sem,↓dP,↓reduceIte];with_reducible and_intros;all_goals first|apply qA|exact qC|skip));refine Ok.seq ?_;refine Ok.cond rfl (fun _ => ?_) (fun hb => by simp at hb;omega);(refine Ok.skip ?_;(try dsimp only [thenK,blockK,noGotoK]));refine Ok.seq ?_;refine Ok.block ?_
  (first|refine qE ?_|refine qD ?_);(simp only [go_sem,↓dP,↓reduceIte];with_reducible and_intros;all_goals first|apply qA|exact qC|skip)
  (first|refine qE ?_|refine qD ?_);(simp only [go_sem,↓dP,↓reduceIte];with_reducible and_intros;all_goals first|apply qA|exact qC|skip)
  all_goals try (intro q;omega)
  (refine AskGI.ret (fun _ => c_pin _ _ _) ?_;simp only [go_sem,↓dP,↓reduceIte];with_reducible and_intros;all_goals first|apply qA|exact qC|skip)
  refine Ok.cond rfl (fun hb => ?_) (fun _ => ?_)
  ·exfalso
   simp only [inB] at hb
   rw [decide_eq_true q1,decide_eq_true q2] at hb
   simp at hb
   omega
  (refine Ok.skip ?_;(try dsimp only [thenK,blockK,noGotoK]))
  (try dsimp only [thenK,blockK,noGotoK])
  (first|refine qE ?_|refine qD ?_);(simp only [go_sem,↓dP,↓reduceIte];with_reducible and_intros;all_goals first|apply qA|exact qC|skip)
  (try dsimp only [thenK,blockK,noGotoK])
  refine ⟨trivial,?_⟩
  (refine Sub.of ([0]) ([]) ?_ ?_ ?_ rfl rfl<;>simp only [subB,subB1,subT,subT1,newT,subE,subV,subL,go_sem,↓dP,↓reduceIte]<;>(try (repeat' with_reducible apply And.intro))<;>(try first | exact DEq.refl _ | refine DEq.int ?_ | refine DEq.bool ?_ | omega))
 ·intro _
  ((first|refine qE ?_|refine qD ?_);(simp only [go_sem,↓dP,↓reduceIte];with_reducible and_intros;all_goals first|apply qA|exact qC|skip));refine Ok.seq ?_;refine Ok.cond rfl (fun hb => by simp at hb) (fun _ => ?_);(refine Ok.exit ?_;simp only [thenK_exit,blockK_exit,noGotoK_exit,thenK_normal,blockK_normal,noGotoK_normal,↓reduceIte,Nat.reduceEqDiff])
  (first|refine qE ?_|refine qD ?_);(simp only [go_sem,↓dP,↓reduceIte];with_reducible and_intros;all_goals first|apply qA|exact qC|skip)
  (refine Ok.ret ?_;(try dsimp only [thenK,blockK,noGotoK]);simp only [toList_mk,List.toList_toArray,retK_ret,retK_normal,resOK,resV,celV,rowV,frzAll,frzT,subV,subL,go_sem,↓dP,↓reduceIte])
  refine DEq.bool ?_
  rw [hl];simp
def sumI (l:List Int):Int:=l.foldl (fun s x => s + x) 0
theorem sumI_snoc (l:List Int) (x:Int):sumI (l ++ [x]) = sumI l + x:=by simp [sumI,List.foldl_append]
theorem sumI_bd {l:List Int} {k:Int} (h0:0<=k) (h:∀ x∈l,0<=x/\x<=k):0<=sumI l/\sumI l<=k * l.length:=by
 induction l using revRec with
 | nil => simp [sumI]
 | append_singleton l x ih =>
  have h1:=ih (fun y hy => h y (by simp [hy]))
  have h2:=h x (by simp)
  rw [sumI_snoc,List.length_append]
  simp only [List.length_singleton,Int.natCast_add,Int.mul_add]
  omega
theorem c_psum (l:List Int) (hl:l.length<=10) (h:∀ x∈l,0<=x/\x<=6):Ctr Try.prog 71 [ilS l] (iS (sumI l)):=by
 (refine Ctr.mk (fn:=Try.f71) rfl rfl rfl rfl rfl Try.results71 ?_;intro _;dsimp only [args,List.toList_toArray])
 (first|refine qE ?_|refine qD ?_);(simp only [go_sem,↓dP,↓reduceIte];with_reducible and_intros;all_goals first|apply qA|exact qC|skip)
 (first|refine qE ?_|refine qD ?_);(simp only [go_sem,↓dP,↓reduceIte];with_reducible and_intros;all_goals first|apply qA|exact qC|skip)
 refine Ok.seq ?_
 (first|refine qE ?_|refine qD ?_);(simp only [go_sem,↓dP,↓reduceIte];with_reducible and_intros;all_goals first|apply qA|exact qC|skip)
 refine Ok.block ?_
 refine Ok.count l.length (fun i => ⟨[(3,iS (sumI (l.take i))),(6,ilS l),(7,iS l.length),(8,iS i)],[],[]⟩) (fun _ => True) ⟨trivial,?_⟩ ?_ ?_
 ·(refine Sub.of ([]) ([]) ?_ ?_ ?_ rfl rfl<;>simp only [subB,subB1,subT,subT1,newT,subE,subV,subL,go_sem,↓dP,↓reduceIte]<;>(try (repeat' with_reducible apply And.intro))<;>(try first | exact DEq.refl _ | refine DEq.int ?_ | refine DEq.bool ?_ | omega))
 ·intro i hi _
  have e:sumI (l.take (i + 1)) = sumI (l.take i) + l.getD i default:=by rw [getD_take hi,sumI_snoc]
  have hb:=sumI_bd (l:=l.take i) (k:=6) (by decide) (fun x hx => h x (List.mem_of_mem_take hx))
  have hlt:((l.take i).length:Int)<=10:=by rw [List.length_take];omega
  have hx:=h _ (getD_mem hi)
  ((first|refine qE ?_|refine qD ?_);(simp only [go_sem,↓dP,↓reduceIte];with_reducible and_intros;all_goals first|apply qA|exact qC|skip));refine Ok.seq ?_;refine Ok.cond rfl (fun _ => ?_) (fun hb => by simp at hb;omega);(refine Ok.skip ?_;(try dsimp only [thenK,blockK,noGotoK]));refine Ok.seq ?_;refine Ok.block ?_
  (first|refine qE ?_|refine qD ?_);(simp only [go_sem,↓dP,↓reduceIte];with_reducible and_intros;all_goals first|apply qA|exact qC|skip)
  (first|refine qE ?_|refine qD ?_);(simp only [go_sem,↓dP,↓reduceIte];with_reducible and_intros;all_goals first|apply qA|exact qC|skip)
  (try dsimp only [thenK,blockK,noGotoK])
  (first|refine qE ?_|refine qD ?_);(simp only [go_sem,↓dP,↓reduceIte];with_reducible and_intros;all_goals first|apply qA|exact qC|skip)
  (try dsimp only [thenK,blockK,noGotoK])
  refine ⟨trivial,?_⟩
  (refine Sub.of ([]) ([]) ?_ ?_ ?_ rfl rfl<;>simp only [subB,subB1,subT,subT1,newT,subE,subV,subL,go_sem,↓dP,↓reduceIte]<;>(try (repeat' with_reducible apply And.intro))<;>(try first | exact DEq.refl _ | refine DEq.int ?_ | refine DEq.bool ?_ | omega))
  rw [e]
 ·intro _
  ((first|refine qE ?_|refine qD ?_);(simp only [go_sem,↓dP,↓reduceIte];with_reducible and_intros;all_goals first|apply qA|exact qC|skip));refine Ok.seq ?_;refine Ok.cond rfl (fun hb => by simp at hb) (fun _ => ?_);(refine Ok.exit ?_;simp only [thenK_exit,blockK_exit,noGotoK_exit,thenK_normal,blockK_normal,noGotoK_normal,↓reduceIte,Nat.reduceEqDiff])
  (first|refine qE ?_|refine qD ?_);(simp only [go_sem,↓dP,↓reduceIte];with_reducible and_intros;all_goals first|apply qA|exact qC|skip)
  (refine Ok.ret ?_;(try dsimp only [thenK,blockK,noGotoK]);simp only [toList_mk,List.toList_toArray,retK_ret,retK_normal,resOK,resV,celV,rowV,frzAll,frzT,subV,subL,go_sem,↓dP,↓reduceIte])
  rw [List.take_length]
  exact .refl _
theorem c_place:Ctr Try.prog 94 [iS 1] (iS 0):=by
 (refine Ctr.mk (fn:=Try.f94) rfl rfl rfl rfl rfl Try.results94 ?_;intro _;dsimp only [args,List.toList_toArray])
 (first|refine qE ?_|refine qD ?_);(simp only [go_sem,↓dP,↓reduceIte];with_reducible and_intros;all_goals first|apply qA|exact qC|skip)
 (first|refine qE ?_|refine qD ?_);(simp only [go_sem,↓dP,↓reduceIte];with_reducible and_intros;all_goals first|apply qA|exact qC|skip)
 (refine Ok.ret ?_;(try dsimp only [thenK,blockK,noGotoK]);simp only [toList_mk,List.toList_toArray,retK_ret,retK_normal,resOK,resV,celV,rowV,frzAll,frzT,subV,subL,go_sem,↓dP,↓reduceIte])
 exact .refl _
end Go.Proofs.Leaf
namespace Go.Proofs.Leaf
open Go Go.RX Go.Proofs
set_option maxRecDepth 10000
variable [Glob]
abbrev timI:DV:=.raw (.iface 171 (.agg #[]))
theorem met_time:metT Try.prog 171 "mahlstick/price.quantity" = some 134:=by kernel_rfl
attribute [go_sem] met_time
abbrev blX (L:List Pb) (H:List Int) (m:Nat):List SV:=[ilS [0],.d (slD 5 pbD L),.d (slD 5 taD [()]),ilS H,.d (.raw (.map (some m)))]
abbrev blS (L:List Pb) (H:List Int) (m:Nat):SV:=.agg (blX L H m)
abbrev blC (L:List Pb) (H:List Int) (m:Nat):BC:={ frz:=false,xs:=blX L H m }
theorem ifc_raw {t:TypeId} {c:Nat->DV}:DEq (.ifc t 0 c) (.raw (.iface t (.agg #[]))):=by
 intro I w v h
 cases h with
 | ifc hl hr =>
  rename_i us
  obtain rfl:us = #[]:=Array.eq_empty_of_size_eq_zero hl
  exact .raw rfl
theorem c_kindOf:Ctr Try.prog 95 [taS] (.d timI):=by
 (refine Ctr.mk (fn:=Try.f95) rfl rfl rfl rfl rfl Try.results95 ?_;intro _;dsimp only [args,List.toList_toArray])
 (first|refine qE ?_|refine qD ?_);(simp only [go_sem,↓dP,↓reduceIte];with_reducible and_intros;all_goals first|apply qA|exact qC|skip)
 (first|refine qE ?_|refine qD ?_);(simp only [go_sem,↓dP,↓reduceIte];with_reducible and_intros;all_goals first|apply qA|exact qC|skip)
 (refine Ok.ret ?_;(try dsimp only [thenK,blockK,noGotoK]);simp only [toList_mk,List.toList_toArray,retK_ret,retK_normal,resOK,resV,celV,rowV,frzAll,frzT,subV,subL,go_sem,↓dP,↓reduceIte])
 exact ifc_raw
theorem c_ptime (b:Pb) (h:Int):Ctr Try.prog 134 [.agg [],b.sv,iS h] (iS h):=by
 (refine Ctr.mk (fn:=Try.f134) rfl rfl rfl rfl rfl Try.results134 ?_;intro _;dsimp only [args,List.toList_toArray])
 (first|refine qE ?_|refine qD ?_);(simp only [go_sem,↓dP,↓reduceIte];with_reducible and_intros;all_goals first|apply qA|exact qC|skip)
 (first|refine qE ?_|refine qD ?_);(simp only [go_sem,↓dP,↓reduceIte];with_reducible and_intros;all_goals first|apply qA|exact qC|skip)
 (refine Ok.ret ?_;(try dsimp only [thenK,blockK,noGotoK]);simp only [toList_mk,List.toList_toArray,retK_ret,retK_normal,resOK,resV,celV,rowV,frzAll,frzT,subV,subL,go_sem,↓dP,↓reduceIte])
 exact .refl _
theorem c_quantities (L : List Pb) (H : List Int) (m : Nat) (hl : H.length = L.length) (h4 : L.length ≤ 4) : Ctr Try.prog 74 [blS L H m, taS] (ilS H) := by
  (refine Ctr.mk (fn := Try.f74) rfl rfl rfl rfl rfl Try.results74 ?_; intro _; dsimp only [args, List.toList_toArray])
  (first|refine qE ?_|refine qD ?_);(simp only [go_sem,↓dP,↓reduceIte];with_reducible and_intros;all_goals first|apply qA|exact qC|skip)
  (first|refine qE ?_|refine qD ?_);(simp only [go_sem,↓dP,↓reduceIte];with_reducible and_intros;all_goals first|apply qA|exact qC|skip)
  (first|refine qE ?_|refine qD ?_);(simp only [go_sem,↓dP,↓reduceIte];with_reducible and_intros;all_goals first|apply qA|exact qC|skip)
  (refine AskI.ret (c_kindOf) ?_; simp only [go_sem,↓dP,↓reduceIte];with_reducible and_intros;all_goals first|apply qA|exact qC|skip)
  refine Ok.seq ?_
  (first|refine qE ?_|refine qD ?_);(simp only [go_sem,↓dP,↓reduceIte];with_reducible and_intros;all_goals first|apply qA|exact qC|skip)
  refine Ok.block ?_
  refine Ok.count L.length (fun i => ⟨[(2, .p 0 0), (5, .tk 0), (6, .d timI), (13, .d (slD 5 pbD L)), (14, iS L.length), (15, iS i)], [blC L H m], [ownD 3 1 intD (H.take i)]⟩) (fun _ => True) ⟨trivial, ?_⟩ ?_ ?_
  · (refine Sub.of ([0]) ([none]) ?_ ?_ ?_ rfl rfl <;> simp only [subB, subB1, subT, subT1, newT, subE, subV, subL, go_sem,↓dP,↓reduceIte] <;> (try (repeat' with_reducible apply And.intro)) <;> (try first | exact DEq.refl _ | refine DEq.int ?_ | refine DEq.bool ?_ | omega))
    all_goals rfl
  · intro i hi _
    have hlen : (H.take i).length = i := by rw [List.length_take]; omega
    have hsn : H.take (i + 1) = H.take i ++ [H.getD i default] := getD_take (by omega)
    ((first|refine qE ?_|refine qD ?_);(simp only [go_sem,↓dP,↓reduceIte];with_reducible and_intros;all_goals first|apply qA|exact qC|skip)); refine Ok.seq ?_; refine Ok.cond rfl (fun _ => ?_) (fun hb => by simp at hb; omega); (refine Ok.skip ?_; (try dsimp only [thenK, blockK, noGotoK])); refine Ok.seq ?_; refine Ok.block ?_
    (first|refine qE ?_|refine qD ?_);(simp only [go_sem,↓dP,↓reduceIte];with_reducible and_intros;all_goals first|apply qA|exact qC|skip)
    (first|refine qE ?_|refine qD ?_);(simp only [go_sem,↓dP,↓reduceIte];with_reducible and_intros;all_goals first|apply qA|exact qC|skip)
    (refine AskI.ret (c_ptime (L.getD i default) (H.getD i default)) ?_; simp only [go_sem,↓dP,↓reduceIte];with_reducible and_intros;all_goals first|apply qA|exact qC|skip)
    (try dsimp only [thenK, blockK, noGotoK])
    (first|refine qE ?_|refine qD ?_);(simp only [go_sem,↓dP,↓reduceIte];with_reducible and_intros;all_goals first|apply qA|exact qC|skip)
    (try dsimp only [thenK, blockK, noGotoK])
    refine ⟨trivial, ?_⟩
    (refine Sub.of ([0]) ([some 1]) ?_ ?_ ?_ rfl rfl <;> simp only [subB, subB1, subT, subT1, newT, subE, subV, subL, go_sem,↓dP,↓reduceIte] <;> (try (repeat' with_reducible apply And.intro)) <;> (try first | exact DEq.refl _ | refine DEq.int ?_ | refine DEq.bool ?_ | omega))
    · rw [hsn]; simp
    · rw [hsn]
      exact snoc_D (fun c hc => by have : c = 0 := by omega
                                   subst this; rfl)
  · intro _
    ((first|refine qE ?_|refine qD ?_);(simp only [go_sem,↓dP,↓reduceIte];with_reducible and_intros;all_goals first|apply qA|exact qC|skip)); refine Ok.seq ?_; refine Ok.cond rfl (fun hb => by simp at hb) (fun _ => ?_); (refine Ok.exit ?_; simp only [thenK_exit, blockK_exit, noGotoK_exit, thenK_normal, blockK_normal, noGotoK_normal, ↓reduceIte, Nat.reduceEqDiff])
    (first|refine qE ?_|refine qD ?_);(simp only [go_sem,↓dP,↓reduceIte];with_reducible and_intros;all_goals first|apply qA|exact qC|skip)
    (refine Ok.ret ?_; (try dsimp only [thenK, blockK, noGotoK]); simp only [toList_mk, List.toList_toArray, retK_ret, retK_normal, resOK, resV, celV, rowV, frzAll, frzT, subV, subL, go_sem,↓dP,↓reduceIte])
    rw [List.take_of_length_le (by omega)]
    exact .refl _
theorem c_bounds (L : List Pb) (h4 : L.length ≤ 4) : Ctr Try.prog 38 [shS L] (.tup [ilS (L.map Pb.lo), ilS (L.map Pb.hi)]) := by
  (refine Ctr.mk (fn := Try.f38) rfl rfl rfl rfl rfl Try.results38 ?_; intro _; dsimp only [args, List.toList_toArray])
  (first|refine qE ?_|refine qD ?_);(simp only [go_sem,↓dP,↓reduceIte];with_reducible and_intros;all_goals first|apply qA|exact qC|skip)
  (first|refine qE ?_|refine qD ?_);(simp only [go_sem,↓dP,↓reduceIte];with_reducible and_intros;all_goals first|apply qA|exact qC|skip)
  refine Ok.seq ?_
  (first|refine qE ?_|refine qD ?_);(simp only [go_sem,↓dP,↓reduceIte];with_reducible and_intros;all_goals first|apply qA|exact qC|skip)
  refine Ok.block ?_
  refine Ok.count L.length (fun i => ⟨[(1, .p 0 0), (4, .tk 0), (5, .tk 1), (9, .d (slD 5 pbD L)), (10, iS L.length), (11, iS i)], [shC L], [ownD 3 1 intD ((L.take i).map Pb.lo), ownD 3 1 intD ((L.take i).map Pb.hi)]⟩) (fun _ => True) ⟨trivial, ?_⟩ ?_ ?_
  · (refine Sub.of ([0]) ([none, none]) ?_ ?_ ?_ rfl rfl <;> simp only [subB, subB1, subT, subT1, newT, subE, subV, subL, go_sem,↓dP,↓reduceIte] <;> (try (repeat' with_reducible apply And.intro)) <;> (try first | exact DEq.refl _ | refine DEq.int ?_ | refine DEq.bool ?_ | omega))
    all_goals rfl
  · intro i hi _
    obtain ⟨A, hA⟩ : ∃ A, (L.take i).map Pb.lo = A := ⟨_, rfl⟩
    obtain ⟨C, hC⟩ : ∃ C, (L.take i).map Pb.hi = C := ⟨_, rfl⟩
    have hlA : A.length = i := by rw [← hA, List.length_map, List.length_take]; omega
    have hlC : C.length = i := by rw [← hC, List.length_map, List.length_take]; omega
    have hs1 : (L.take (i + 1)).map Pb.lo = A ++ [(L.getD i default).lo] := by rw [getD_take hi, List.map_append, hA]; rfl
    have hs2 : (L.take (i + 1)).map Pb.hi = C ++ [(L.getD i default).hi] := by rw [getD_take hi, List.map_append, hC]; rfl
    rw [hA, hC]
    ((first|refine qE ?_|refine qD ?_);(simp only [go_sem,↓dP,↓reduceIte];with_reducible and_intros;all_goals first|apply qA|exact qC|skip)); refine Ok.seq ?_; refine Ok.cond rfl (fun _ => ?_) (fun hb => by simp at hb; omega); (refine Ok.skip ?_; (try dsimp only [thenK, blockK, noGotoK])); refine Ok.seq ?_; refine Ok.block ?_
    (first|refine qE ?_|refine qD ?_);(simp only [go_sem,↓dP,↓reduceIte];with_reducible and_intros;all_goals first|apply qA|exact qC|skip)
    (first|refine qE ?_|refine qD ?_);(simp only [go_sem,↓dP,↓reduceIte];with_reducible and_intros;all_goals first|apply qA|exact qC|skip)
    (try dsimp only [thenK, blockK, noGotoK])
    (first|refine qE ?_|refine qD ?_);(simp only [go_sem,↓dP,↓reduceIte];with_reducible and_intros;all_goals first|apply qA|exact qC|skip)
    (try dsimp only [thenK, blockK, noGotoK])
    refine ⟨trivial, ?_⟩
    rw [hs1, hs2]
    (refine Sub.of ([0]) ([some 2, some 3]) ?_ ?_ ?_ rfl rfl <;> simp only [subB, subB1, subT, subT1, newT, subE, subV, subL, go_sem,↓dP,↓reduceIte] <;> (try (repeat' with_reducible apply And.intro)) <;> (try first | exact DEq.refl _ | refine DEq.int ?_ | refine DEq.bool ?_ | omega))
    · simp
    · exact snoc_D (fun c hc => by have : c = 0 := by omega
                                   subst this; rfl)
    · simp
    · exact snoc_D (fun c hc => by have : c = 0 := by omega
                                   subst this; rfl)
  · intro _
    ((first|refine qE ?_|refine qD ?_);(simp only [go_sem,↓dP,↓reduceIte];with_reducible and_intros;all_goals first|apply qA|exact qC|skip)); refine Ok.seq ?_; refine Ok.cond rfl (fun hb => by simp at hb) (fun _ => ?_); (refine Ok.exit ?_; simp only [thenK_exit, blockK_exit, noGotoK_exit, thenK_normal, blockK_normal, noGotoK_normal, ↓reduceIte, Nat.reduceEqDiff])
    (first|refine qE ?_|refine qD ?_);(simp only [go_sem,↓dP,↓reduceIte];with_reducible and_intros;all_goals first|apply qA|exact qC|skip)
    (refine Ok.ret ?_; (try dsimp only [thenK, blockK, noGotoK]); simp only [toList_mk, List.toList_toArray, retK_ret, retK_normal, resOK, resV, celV, rowV, frzAll, frzT, subV, subL, go_sem,↓dP,↓reduceIte])
    rw [List.take_length]
    ((repeat' with_reducible apply And.intro) <;> (first | exact DEq.refl _ | refine DEq.int ?_ | refine DEq.bool ?_ | skip))
theorem c_down (q:Int) (h0:0<=q) (h1:q<=1000):Ctr Try.prog 103 [.agg [iS q,iS 1]] (iS q):=by
 (refine Ctr.mk (fn:=Try.f103) rfl rfl rfl rfl rfl Try.results103 ?_;intro _;dsimp only [args,List.toList_toArray])
 (first|refine qE ?_|refine qD ?_);(simp only [go_sem,↓dP,↓reduceIte];with_reducible and_intros;all_goals first|apply qA|exact qC|skip)
 (first|refine qE ?_|refine qD ?_);(simp only [go_sem,↓dP,↓reduceIte];with_reducible and_intros;all_goals first|apply qA|exact qC|skip)
 ·rw [Int.tdiv_one];exact R64 (by omega) (by omega)
 (refine Ok.ret ?_;(try dsimp only [thenK,blockK,noGotoK]);simp only [toList_mk,List.toList_toArray,retK_ret,retK_normal,resOK,resV,celV,rowV,frzAll,frzT,subV,subL,go_sem,↓dP,↓reduceIte])
 refine DEq.int ?_
 simp
theorem c_rounded (q:Int) (h0:0<=q) (h1:q<=1000):Ctr Try.prog 93 [.agg [iS q,iS 1],iS 0] (iS q):=by
 (refine Ctr.mk (fn:=Try.f93) rfl rfl rfl rfl rfl Try.results93 ?_;intro _;dsimp only [args,List.toList_toArray])
 (first|refine qE ?_|refine qD ?_);(simp only [go_sem,↓dP,↓reduceIte];with_reducible and_intros;all_goals first|apply qA|exact qC|skip)
 (first|refine qE ?_|refine qD ?_);(simp only [go_sem,↓dP,↓reduceIte];with_reducible and_intros;all_goals first|apply qA|exact qC|skip)
 (first|refine qE ?_|refine qD ?_);(simp only [go_sem,↓dP,↓reduceIte];with_reducible and_intros;all_goals first|apply qA|exact qC|skip)
 (refine AskI.ret (c_down q h0 h1) ?_;simp only [go_sem,↓dP,↓reduceIte];with_reducible and_intros;all_goals first|apply qA|exact qC|skip)
 (refine Ok.ret ?_;(try dsimp only [thenK,blockK,noGotoK]);simp only [toList_mk,List.toList_toArray,retK_ret,retK_normal,resOK,resV,celV,rowV,frzAll,frzT,subV,subL,go_sem,↓dP,↓reduceIte])
 exact .refl _
end Go.Proofs.Leaf
namespace Go.Proofs.Leaf
open Go Go.RX Go.Proofs Go.RowKit Go.Shelf
set_option maxRecDepth 100000
def amtV (q:Nat):Value:=.agg #[.int .i64 3,.int .i64 1,.int .i64 1,.int .i64 1,.bool false,.int .i64 q]
theorem keyedA:Maps.Keyed Try.prog 151:=Maps.Keyed.of_law (deep_law_laid laidOut (m:=3) (by omega) (of_decide_eq_true (by kernel_rfl)) (by kernel_rfl) (by kernel_rfl))
theorem keyOf_amt {q:Nat} (hq:q < 1024):∃ l,keyOf Try.prog 151 (amtV q) = some l:=by
 have h1:Try.prog.keyType 151 = true:=by kernel_rfl
 have h2:Try.prog.cellsOf 151 = 6:=by kernel_rfl
 have h5:Try.prog.cellsOf 55 = 5:=by kernel_rfl
 have h4:Try.prog.cellsOf 3 = 1:=by kernel_rfl
 have h6:Try.prog.cellsOf 52 = 1:=by kernel_rfl
 have h7:Try.prog.cellsOf 53 = 1:=by kernel_rfl
 have h8:Try.prog.cellsOf 4 = 1:=by kernel_rfl
 have h3:(amtV q).formed Try.prog 151 = true:=by simp [amtV,Value.formed,Try.underlying151,h2]
 have wf:∀ n:Nat,n < 1024->(Lit.int .i64 (n:Int)).wf = true:=by
  intro n hn
  have h:=wrap64_wf (n:Int)
  rwa [IntWalk.wrap64_in _ (by omega)] at h
 have w1:=wf q hq
 have w3:(Lit.int .i64 3).wf = true:=by decide
 have w4:(Lit.int .i64 1).wf = true:=by decide
 obtain ⟨z,hz⟩:∃ z,Try.prog.types.size = z + 2:=⟨Try.prog.types.size - 2,by kernel_rfl⟩
 unfold keyOf
 rw [Try.underlying151]
 simp only [h1,h3,Bool.and_self,if_true,hz,Program.keyLits,Try.underlying151,h2,h4]
 simp [amtV,Value.cells,Program.keyLits,Try.underlying3,Try.underlying55,Try.underlying52,Try.underlying53,Try.underlying4,h4,h5,h6,h7,h8,w1,w3,w4]
 rw [if_pos (by decide)]
 exact ⟨_,rfl⟩
theorem amtV_inj {a b:Nat} (h:amtV a = amtV b):a = b:=by
 simp only [amtV,Value.agg.injEq,Array.mk.injEq,List.cons.injEq,Value.int.injEq,true_and,and_true] at h
 omega
def MemoA (W:World) (m:Nat):Prop:=∃ es clk,W.heap[m]? = some (.map es clk)/\∀ e∈es.toList,∃ q:Nat,q < 1024/\e.key = amtV q/\e.val = .int .i64 q
theorem MemoA.look {W:World} {m:Nat} (h:MemoA W m) {q:Nat} (hn:q < 1024) :
  ∃ met:Bool,(Instr.lookup 101 (.map (some m)) (amtV q) true).run Try.prog W = .ok (.tuple #[.int .i64 (if met then (q:Int) else 0),.bool met]) W:=by
 obtain ⟨es,clk,hm,hk⟩:=h
 obtain ⟨lx,hx⟩:=keyOf_amt hn
 have hes:∀ e∈es.toList,∃ l,keyOf Try.prog 151 e.key = some l:=by
  intro e he
  obtain ⟨a',q1,q4,_⟩:=hk e he
  rw [q4];exact keyOf_amt q1
 have hz:(zeroValue 3).run Try.prog W = .ok (.int .i64 0) W:=by kernel_rfl
 rcases keyedA.find W hx es.toList hes with ⟨h1,h2⟩ | ⟨j,e0,h1,h2,h3⟩
 ·exact ⟨false,by simp [Instr.lookup,run_underlying Try.underlying101,MapKept.run_getObj_map hm,keyedA.check W _ hx,h1,hz,Result.andThen]⟩
 ·obtain ⟨a',_,q4,q5⟩:=hk e0 (List.mem_of_getElem? h2)
  rw [h3] at q4
  obtain rfl:=amtV_inj q4
  exact ⟨true,by simp [Instr.lookup,run_underlying Try.underlying101,MapKept.run_getObj_map hm,keyedA.check W _ hx,h1,q5,Result.andThen]⟩
theorem MemoA.update {W:World} {m:Nat} (h:MemoA W m) {q:Nat} (hn:q < 1024) :
  ∃ o,(Instr.mapUpdate 101 (.map (some m)) (amtV q) (.int .i64 ((q:Int)))).run Try.prog W = .ok () (W.putObj m o)/\MemoA (W.putObj m o) m:=by
 obtain ⟨es,clk,hm,hk⟩:=h
 obtain ⟨lx,hx⟩:=keyOf_amt hn
 have hlt:m < W.heap.size:=(Array.getElem?_eq_some_iff.1 hm).1
 have hes:∀ e∈es.toList,∃ l,keyOf Try.prog 151 e.key = some l:=by
  intro e he
  obtain ⟨a',q1,q4,_⟩:=hk e he
  rw [q4];exact keyOf_amt q1
 have hset:∀ o,(setObj m o).run Try.prog W = .ok () (W.putObj m o):=fun o => MapKept.run_setObj_map (P:=Try.prog) o hm
 rcases keyedA.find W hx es.toList hes with ⟨h1,h2⟩ | ⟨j,e0,h1,h2,h3⟩
 ·refine ⟨.map (es.push ⟨amtV q,.int .i64 ((q:Int)),clk⟩) (clk + 1),?_,⟨_,_,World.putObj_heap_same hlt,?_⟩⟩
  ·simp [Instr.mapUpdate,run_underlying Try.underlying101,MapKept.run_getObj_map hm,keyedA.check W false hx,h1,hset,Result.andThen]
  ·intro e he
   rw [Array.toList_push,List.mem_append] at he
   rcases he with he | he
   ·exact hk e he
   ·simp at he;subst he
    exact ⟨q,hn,rfl,rfl⟩
 ·have h2':es[j]? = some e0:=by simpa using h2
  have hst:=keyedA.stays W hx
  refine ⟨.map (es.modify j fun e => { e with key:=amtV q,val:=.int .i64 ((q:Int)) }) clk,?_,⟨_,_,World.putObj_heap_same hlt,?_⟩⟩
  ·simp [Instr.mapUpdate,run_underlying Try.underlying101,MapKept.run_getObj_map hm,keyedA.check W false hx,h1,h2',h3,hst,hset,Result.andThen]
  ·intro e he
   obtain ⟨i,hi⟩:=List.getElem?_of_mem he
   rw [Array.getElem?_toList,Array.getElem?_modify] at hi
   split at hi
   ·rw [Option.map_eq_some_iff] at hi
    obtain ⟨e',_,rfl⟩:=hi
    exact ⟨q,hn,rfl,rfl⟩
   ·exact hk e (List.mem_of_getElem? (by rw [Array.getElem?_toList];exact hi))
abbrev memoA (m:Nat):Glob where
 G:=fun w => MemoA w m
 M:=some m
 F:=m + 1
 lo:=fun _ ⟨_,_,h,_⟩ => (Array.getElem?_eq_some_iff.1 h).1
 st:=fun _ _ ⟨es,clk,h,k⟩ hb => ⟨es,clk,(hb.block m (by omega)).trans h,k⟩
 mF:=fun m' e => by cases e;omega
variable [Glob]
structure IsMemoA (m:Nat):Prop where
 G:∀ w,Glob.G w->MemoA w m
 G':∀ w w',Glob.G w->MemoA w' m->w'.heap.size = w.heap.size->(∀ k,k ≠ m->w'.heap[k]? = w.heap[k]?)->Glob.G w'
 M:Glob.M = some m
end Go.Proofs.Leaf
namespace Go.Proofs.Leaf
open Go Go.RX Go.Proofs Go.RowKit
set_option maxRecDepth 100000
section
variable [Glob]
theorem St.amtV [Rnd] {N:Nat} {σ:Sy} {I:Nat->Prop} {w0 w:World} {a:Act} {t q:Nat} (hs:St σ I N w0 a w) (hl:lk σ.env t = .agg [iS 3,iS 1,iS 1,iS 1,bS false,iS q]):a.tmps.getD t undef = Leaf.amtV q:=by
 obtain ⟨_,_,_,_,h⟩:=hs.val hl (fun _ _ _ e => by cases e)
 generalize a.tmps.getD t undef = u at h
 cases h with
 | @agg cs xs hl0 h1 h2 =>
  obtain ⟨l⟩:=cs
  match l,hl0 with
  | [x0,x1,x2,x3,x4,x5],_ =>
   have e0:=mt_d (h1 0 x0 _ rfl rfl)
   have e1:=mt_d (h1 1 x1 _ rfl rfl)
   have e2:=mt_d (h1 2 x2 _ rfl rfl)
   have e3:=mt_d (h1 3 x3 _ rfl rfl)
   have e4:=mt_d (h1 4 x4 _ rfl rfl)
   have e5:=mt_d (h1 5 x5 _ rfl rfl)
   cases e0;cases e1;cases e2;cases e3;cases e4;cases e5;rfl
theorem c_price (L:List Pb) (H:List Int) (m:Nat) (hK:IsMemoA m) (q:Nat) (hq:q < 1000):Ctr Try.prog 73 [blS L H m,taS,iS q] (iS q):=by
 (refine Ctr.mk (fn:=Try.f73) rfl rfl rfl rfl rfl Try.results73 ?_;intro _;dsimp only [args,List.toList_toArray])
 (first|refine qE ?_|refine qD ?_);(simp only [go_sem,↓dP,↓reduceIte];with_reducible and_intros;all_goals first|apply qA|exact qC|skip)
 refine Ok.seq ?_
 (first|refine qE ?_|refine qD ?_);(simp only [go_sem,↓dP,↓reduceIte];with_reducible and_intros;all_goals first|apply qA|exact qC|skip)
 refine Ok.seq ?_
 ((first | refine RX.qT 3 ?h1 ?h2 ?h3 ?h4 ?_ | refine RX.qU 3 ?h1 ?h2 ?h3 ?h4 ?_);(case h1 => rfl);(case h2 => rfl);(case h3 => rfl);(case h4 => rfl);simp only [go_sem,↓dP,↓reduceIte];with_reducible and_intros;all_goals first|apply qA|exact qC|skip)
 intro Y a w0 hinv
 have hst:=St.of hinv rfl
 have e16:a.eval (.tmp 16) = .map (some m):=hst.raw rfl
 have e17:a.eval (.tmp 17) = amtV q:=St.amtV hst rfl
 obtain ⟨I1,β1,τ1,hx⟩:=hinv
 obtain ⟨met,hlook⟩:=(hK.G _ (hx.bel.gl hx.bs)).look (q:=q) (by omega)
 refine tail_val (v:=.tuple #[.int .i64 (if met then (q:Int) else 0),.bool met]) rfl (fun c e => by cases e) (by simp only [execOp,e16,e17,Sem.run_bind,hlook,Result.andThen_ok];rfl) ?_
 have hst2:=hst.putV (d:=18) (v:=.tuple #[.int .i64 (if met then (q:Int) else 0),.bool met]) (V:=.tup [iS (if met then (q:Int) else 0),bS met]) (by decide) (fun I β τ Y => .tup rfl (fun j u y hu hy => by
  match j with
  | 0 => simp at hu hy;subst hu;subst hy;exact .d .int
  | 1 => simp at hu hy;subst hu;subst hy;exact .d .bool
  | j + 2 => simp at hu))
 (refine Ok.rest hst2 ?h1 ?h2 ?h3 ?_;(case h1 => rfl);(case h2 => rfl);(case h3 => rfl);simp only [go_sem,↓dP,↓reduceIte,bare];with_reducible and_intros;all_goals first|apply qA|exact qC|skip;(try dsimp only [thenK,blockK,noGotoK]))
 (first|refine qE ?_|refine qD ?_);(simp only [go_sem,↓dP,↓reduceIte];with_reducible and_intros;all_goals first|apply qA|exact qC|skip)
 refine Ok.cond rfl ?_ ?_
 ·intro hmet
  subst hmet
  (first|refine qE ?_|refine qD ?_);(simp only [go_sem,↓dP,↓reduceIte];with_reducible and_intros;all_goals first|apply qA|exact qC|skip)
  (refine Ok.ret ?_;(try dsimp only [thenK,blockK,noGotoK]);simp only [toList_mk,List.toList_toArray,retK_ret,retK_normal,resOK,resV,celV,rowV,frzAll,frzT,subV,subL,go_sem,↓dP,↓reduceIte])
  exact .refl _
 ·intro hmet
  subst hmet
  (refine Ok.skip ?_;(try dsimp only [thenK,blockK,noGotoK]))
  (first|refine qE ?_|refine qD ?_);(simp only [go_sem,↓dP,↓reduceIte];with_reducible and_intros;all_goals first|apply qA|exact qC|skip)
  (refine AskI.ret (c_place) ?_;simp only [go_sem,↓dP,↓reduceIte];with_reducible and_intros;all_goals first|apply qA|exact qC|skip)
  rw [Int.mul_one]
  (refine AskI.ret (c_rounded q (by omega) (by omega)) ?_;simp only [go_sem,↓dP,↓reduceIte];with_reducible and_intros;all_goals first|apply qA|exact qC|skip)
  refine Ok.seq ?_
  ((first | refine RX.qT 4 ?h1 ?h2 ?h3 ?h4 ?_ | refine RX.qU 4 ?h1 ?h2 ?h3 ?h4 ?_);(case h1 => rfl);(case h2 => rfl);(case h3 => rfl);(case h4 => rfl);simp only [go_sem,↓dP,↓reduceIte];with_reducible and_intros;all_goals first|apply qA|exact qC|skip)
  intro Y a w0 hinv
  have hst:=St.of hinv rfl
  have e35:a.eval (.tmp 35) = .map (some m):=hst.raw rfl
  have e36:a.eval (.tmp 36) = amtV q:=St.amtV hst rfl
  have e37:a.eval (.tmp 37) = .int .i64 (q:Int):=rep_int (mt_d (hst.val (t:=37) rfl (fun _ _ _ e => by cases e)).choose_spec.choose_spec.choose_spec.2)
  obtain ⟨I1,β1,τ1,hx⟩:=hinv
  have hG:=hx.bel.gl hx.bs
  obtain ⟨o,hup,hok⟩:=(hK.G _ hG).update (q:=q) (by omega)
  have hkeep:Keep w0.heap.size w0 (w0.putObj m o):=⟨rfl,rfl,rfl,by simp,fun k _ hk => putObj_other (fun e => hk (by rw [hK.M,e])),fun hG => hK.G' _ _ hG hok (by simp) (fun k hk => putObj_other hk)⟩
  refine tail_skp (w':=w0.putObj m o) rfl (fun c e => by cases e) (by simp only [execOp,e35,e36,e37,Sem.run_bind,hup,Result.andThen_ok];rfl) ?_
  refine tail_end ⟨_,?_,hst.quiet hkeep⟩
  (try dsimp only [thenK,blockK,noGotoK])
  (first|refine qE ?_|refine qD ?_);(simp only [go_sem,↓dP,↓reduceIte];with_reducible and_intros;all_goals first|apply qA|exact qC|skip)
  (refine Ok.ret ?_;(try dsimp only [thenK,blockK,noGotoK]);simp only [toList_mk,List.toList_toArray,retK_ret,retK_normal,resOK,resV,celV,rowV,frzAll,frzT,subV,subL,go_sem,↓dP,↓reduceIte])
  exact .refl _
theorem c_paid (L:List Pb) (H:List Int) (m:Nat) (hK:IsMemoA m) (hl:H.length = L.length) (h4:L.length<=4) (hH:∀ x∈H,0<=x/\x<=6):Ctr Try.prog 40 [blS L H m,taS] (iS (sumI H)):=by
 have hb:=sumI_bd (k:=6) (by decide) hH
 obtain ⟨q,hq⟩:∃ q:Nat,sumI H = q:=⟨(sumI H).toNat,by omega⟩
 have hp:=c_price L H m hK q (by omega)
 have hs:=c_psum H (by omega) hH
 rw [hq] at hs ⊢
 (refine Ctr.mk (fn:=Try.f40) rfl rfl rfl rfl rfl Try.results40 ?_;intro _;dsimp only [args,List.toList_toArray])
 (first|refine qE ?_|refine qD ?_);(simp only [go_sem,↓dP,↓reduceIte];with_reducible and_intros;all_goals first|apply qA|exact qC|skip)
 refine Ok.seq ?_
 (first|refine qE ?_|refine qD ?_);(simp only [go_sem,↓dP,↓reduceIte];with_reducible and_intros;all_goals first|apply qA|exact qC|skip)
 refine Ok.cond (b:=false) (by first | rfl | (simp only [go_sem,↓dP,↓reduceIte];rfl)) (fun hb => by cases hb) (fun _ => ?_)
 (refine Ok.skip ?_;(try dsimp only [thenK,blockK,noGotoK]))
 (first|refine qE ?_|refine qD ?_);(simp only [go_sem,↓dP,↓reduceIte];with_reducible and_intros;all_goals first|apply qA|exact qC|skip)
 (refine AskI.ret (c_quantities L H m hl h4) ?_;simp only [go_sem,↓dP,↓reduceIte];with_reducible and_intros;all_goals first|apply qA|exact qC|skip)
 (refine AskI.ret (hs) ?_;simp only [go_sem,↓dP,↓reduceIte];with_reducible and_intros;all_goals first|apply qA|exact qC|skip)
 (refine AskI.ret (hp) ?_;simp only [go_sem,↓dP,↓reduceIte];with_reducible and_intros;all_goals first|apply qA|exact qC|skip)
 (refine Ok.ret ?_;(try dsimp only [thenK,blockK,noGotoK]);simp only [toList_mk,List.toList_toArray,retK_ret,retK_normal,resOK,resV,celV,rowV,frzAll,frzT,subV,subL,go_sem,↓dP,↓reduceIte])
 exact .refl _
end
section
abbrev blD (L:List Pb) (H:List Int) (m:Nat):List DV:=[slD 1 intD [0],slD 5 pbD L,slD 5 taD [()],slD 1 intD H,.raw (.map (some m))]
abbrev bl0 (L:List Pb) (H:List Int):SV:=.agg [ilS [0],.d (slD 5 pbD L),.d (slD 5 taD [()]),ilS H,.d (.mp 0 0 (fun _ _ => .nilI))]
theorem c_billOf (L:List Pb) (H:List Int):Ctr Try.prog 39 [shS L,ilS H] (bl0 L H):=by
 (refine Ctr.mk (fn:=Try.f39) rfl rfl rfl rfl rfl Try.results39 ?_;intro _;dsimp only [args,List.toList_toArray])
 (first|refine qE ?_|refine qD ?_);(simp only [go_sem,↓dP,↓reduceIte];with_reducible and_intros;all_goals first|apply qA|exact qC|skip)
 (first|refine qE ?_|refine qD ?_);(simp only [go_sem,↓dP,↓reduceIte];with_reducible and_intros;all_goals first|apply qA|exact qC|skip)
 (refine Ok.ret ?_;(try dsimp only [thenK,blockK,noGotoK]);simp only [toList_mk,List.toList_toArray,retK_ret,retK_normal,resOK,resV,celV,rowV,frzAll,frzT,subV,subL,go_sem,↓dP,↓reduceIte])
 ((repeat' with_reducible apply And.intro)<;>(first | exact DEq.refl _ | refine DEq.int ?_ | refine DEq.bool ?_ | skip))
theorem flat_pb (b:Pb) (j:Nat):flatD (pbD b j):=by
 rcases j with _ | _ | _ | _ | _ | j
 ·exact .int
 ·exact .int
 ·exact .int
 ·exact .int
 ·exact .int
 ·exact .nilI
theorem flat_ta (b:Unit) (j:Nat):flatD (taD b j):=by
 rcases j with _ | _ | _ | _ | _ | j
 ·exact .int
 ·exact .int
 ·exact .int
 ·exact .int
 ·exact .bool
 ·exact .nilI
theorem mkBill (L:List Pb) (H:List Int) (I:Nat->Prop) (w:World) (vs:Array Value) (hI:∀ b,I b->b < w.heap.size) (hlv:vs.size = 2) (hA:∀ (j:Nat) (u:Value) (s:SV),vs[j]? = some u->[shS L,ilS H][j]? = some s->RepS I w u s) :
  Calls Try.prog 39 vs w (fun e w' => ∃ v m I',e = .returned v/\Keep w.heap.size w w'/\(∀ b,I b->I' b)/\(∀ b,I' b->I b∨(w.heap.size<=b/\b < w'.heap.size))/\¬ I' m/\w.heap.size<=m/\m < w'.heap.size/\(∃ clk,w'.heap[m]? = some (.map #[] clk))/\RepS I' w' v (blS L H m)):=by
 refine ((c_billOf L H).2 (cO I w) w vs trivial (fun b hb => hI b hb.1) (fun b _ e => by cases e) hlv (fun j u s hu hs => ?_)).mono (fun e w' hq => ?_)
 ·have h:=hA j u s hu hs
  rcases j with _ | _ | j
  ·cases hs
   refine agg_turn (ds:=shK L) (ds':=shK L) h rfl (fun cs _ i u x y _ hx hy hr => ?_)
   rw [hx] at hy;cases hy
   rcases i with _ | _ | _ | i<;>cases hx
   ·exact rep_ints hr
   ·exact rep_sl_cells hr (by decide) (fun _ _ _ _ => flat_pb _ _)
   ·exact rep_sl_cells hr (by decide) (fun _ _ _ _ => flat_ta _ _)
  ·cases hs;exact fun Y => .d (rep_ints (mt_d (h (fun _ => none))))
  ·simp at hs
 ·obtain ⟨v,rfl,hr,hk⟩:=hq
  have hr':RepS (fun b => cO I w b∨(w.heap.size<=b/\b < w'.heap.size)) w' v (.agg (([slD 1 intD [0],slD 5 pbD L,slD 5 taD [()],slD 1 intD H,.mp 0 0 (fun _ _ => .nilI)]:List DV).map .d)):=hr
  have h0:=hr' (fun _ => none)
  obtain ⟨cs,rfl,hcs,r,es,clk,h6,hIr,hm,hn⟩:∃ cs,v = .agg cs/\cs.size = 5/\∃ r es clk,cs[4]? = some (.map (some r))/\(cO I w r∨(w.heap.size<=r/\r < w'.heap.size))/\w'.heap[r]? = some (.map es clk)/\es.size = 0:=by
   cases h0 with
   | agg hl0 h1 h2 =>
    rename_i cs
    have h7:cs.size = 5:=by rw [hl0];rfl
    have h6:cs[4]? = some (cs[4]'(by omega)):=Array.getElem?_eq_getElem _
    have:=mt_d (h1 4 _ (.d (.mp 0 0 (fun _ _ => .nilI))) h6 rfl)
    refine ⟨cs,rfl,h7,?_⟩
    rw [h6]
    generalize cs[4]'(by omega) = u at this
    cases this with
    | mp es clk us hI' hm hn => exact ⟨_,es,clk,rfl,hI',hm,hn⟩
  have hrn:w.heap.size<=r/\r < w'.heap.size:=by
   rcases hIr with ⟨hi,c1,T1,f1,hc1⟩ | q
   ·have hlt:=hI r hi
    have:=hk.block r hlt (fun e => by cases e)
    rw [hc1,hm] at this;cases this
   ·exact q
  obtain rfl:es = #[]:=Array.eq_empty_of_size_eq_zero hn
  have hcr:∀ b,cO (fun b => cO I w b∨(w.heap.size<=b/\b < w'.heap.size)) w' b->(I b∨(w.heap.size<=b/\b < w'.heap.size))/\b ≠ r:=by
   rintro b ⟨hb,c1,T1,f1,hc1⟩
   exact ⟨hb.imp (fun q => q.1) (fun q => q),fun e => by subst e;rw [hm] at hc1;cases hc1⟩
  refine ⟨_,r,fun b => (I b∨(w.heap.size<=b/\b < w'.heap.size))/\b ≠ r,rfl,hk,fun b hb => ⟨.inl hb,fun e => by have:=hI b hb;omega⟩,fun b hb => hb.1,fun h => h.2 rfl,hrn.1,hrn.2,⟨clk,hm⟩,?_⟩
  refine agg_turn (ds':=blD L H r) hr' rfl (fun cs' he i u x y hu hx hy hr => ?_)
  cases he
  rcases i with _ | _ | _ | _ | _ | i<;>cases hx<;>cases hy
  ·exact (rep_ints hr).mono hcr (fun _ _ => rfl)
  ·exact (rep_sl_cells hr (by decide) (fun _ _ _ _ => flat_pb _ _)).mono hcr (fun _ _ => rfl)
  ·exact (rep_sl_cells hr (by decide) (fun _ _ _ _ => flat_ta _ _)).mono hcr (fun _ _ => rfl)
  ·exact (rep_ints hr).mono hcr (fun _ _ => rfl)
  ·rw [h6] at hu;cases hu;exact .raw rfl
theorem isMemoA_memo (m:Nat):@IsMemoA (memoA m) m:=@IsMemoA.mk (memoA m) m (fun w h => h) (fun w w' _ h _ _ => h) rfl
abbrev taV:Value:=.agg #[.int .i64 3,.int .i64 1,.int .i64 1,.int .i64 1,.bool false]
theorem taV_rep {I:Nat->Prop} {w:World}:RepS I w taV taS:=fun Y => .agg rfl (fun j u s hu hs => by
 rcases j with _ | _ | _ | _ | _ | j
 ·cases hu;cases hs;exact .d .int
 ·cases hu;cases hs;exact .d .int
 ·cases hu;cases hs;exact .d .int
 ·cases hu;cases hs;exact .d .int
 ·cases hu;cases hs;exact .d .bool
 ·simp at hu) (fun u hu => by simp at hu;rcases hu with rfl | rfl | rfl | rfl | rfl<;>rfl)
def NewB (L:List Pb) (H:List Int) (n:Nat) (v:Value) (w:World):Prop:=∃ m I3,n<=m/\(∀ c,I3 c->c < w.heap.size)/\¬ I3 m/\(∃ clk,w.heap[m]? = some (.map #[] clk))/\RepS I3 w v (blS L H m)
theorem keep_memoA {m n:Nat} {w w':World} (h:@Keep (memoA m) w.heap.size w w') (hn:n<=m) (hnw:n<=w.heap.size):Keep n w w':=by
 obtain ⟨h1,h2,h3,h4,h5,_⟩:=h
 exact ⟨h1,h2,h3,h4,fun k hk _ => h5 k (by omega) (fun e => by cases e;omega),fun _ => trivial⟩
theorem paid_calls (L:List Pb) (H:List Int) (hl:H.length = L.length) (h4:L.length<=4) (hH:∀ x∈H,0<=x/\x<=6) {n:Nat} {w:World} {v:Value} (h:NewB L H n v w) (hn:n<=w.heap.size) :
  Calls Try.prog 40 #[v,taV] w (fun e w' => e = .returned (.int .i64 (sumI H))/\Keep n w w'):=by
 obtain ⟨m,I,hnm,hI,hmI,⟨clk,hm⟩,hv⟩:=h
 letI GM:Glob:=memoA m
 have hmM:MemoA w m:=⟨#[],clk,hm,fun e he => by simp at he⟩
 have hc:=@c_paid GM L H m (isMemoA_memo _) hl h4 hH
 refine (hc.2 I w #[v,taV] hmM hI (fun b hb e => by cases e;exact hmI hb) rfl (fun j u s hu hs => ?_)).mono (fun e w' hq => ?_)
 ·rcases j with _ | _ | j
  ·cases hu;cases hs;exact hv
  ·cases hu;cases hs;exact taV_rep
  ·simp at hs
 ·obtain ⟨u,rfl,hr,hk⟩:=hq
  refine ⟨?_,keep_memoA hk hnm hn⟩
  rw [rep_int (mt_d (hr (fun _ => none)))]
end
end Go.Proofs.Leaf
namespace Go.Proofs.Leaf
open Go Go.RX Go.Proofs Go.RowKit
set_option maxRecDepth 100000
section
variable [Glob]
theorem c_isPlan (B:Bk) (plan:List Int) (hp:plan.length = B.ss.length) (hs:B.ss.length<=6) (h:∀ i,i < plan.length->0<=plan.getD i default/\plan.getD i default<=B.ap/\(B.ss.getD i default).rd = false) :
  Ctr Try.prog 33 [B.sv,ilS plan] (bS true):=by
 (refine Ctr.mk (fn:=Try.f33) rfl rfl rfl rfl rfl Try.results33 ?_;intro _;dsimp only [args,List.toList_toArray])
 (first|refine qE ?_|refine qD ?_);(simp only [go_sem,↓dP,↓reduceIte];with_reducible and_intros;all_goals first|apply qA|exact qC|skip)
 refine Ok.seq ?_
 (first|refine qE ?_|refine qD ?_);(simp only [go_sem,↓dP,↓reduceIte];with_reducible and_intros;all_goals first|apply qA|exact qC|skip)
 refine Ok.cond rfl (fun hb => by rw [hp] at hb;simp at hb) (fun _ => ?_)
 (refine Ok.skip ?_;(try dsimp only [thenK,blockK,noGotoK]))
 refine Ok.seq ?_
 (first|refine qE ?_|refine qD ?_);(simp only [go_sem,↓dP,↓reduceIte];with_reducible and_intros;all_goals first|apply qA|exact qC|skip)
 refine Ok.block ?_
 refine Ok.count plan.length (fun i => ⟨[(2,.p 0 0),(13,ilS plan),(14,iS plan.length),(15,iS i)],[bkC B],[]⟩) (fun _ => True) ⟨trivial,?_⟩ ?_ ?_
 ·(refine Sub.of ([0]) ([]) ?_ ?_ ?_ rfl rfl<;>simp only [subB,subB1,subT,subT1,newT,subE,subV,subL,go_sem,↓dP,↓reduceIte]<;>(try (repeat' with_reducible apply And.intro))<;>(try first | exact DEq.refl _ | refine DEq.int ?_ | refine DEq.bool ?_ | omega))
 ·intro i hi _
  obtain ⟨h1,h2,h3⟩:=h i hi
  ((first|refine qE ?_|refine qD ?_);(simp only [go_sem,↓dP,↓reduceIte];with_reducible and_intros;all_goals first|apply qA|exact qC|skip));refine Ok.seq ?_;refine Ok.cond rfl (fun _ => ?_) (fun hb => by simp at hb;omega);(refine Ok.skip ?_;(try dsimp only [thenK,blockK,noGotoK]));refine Ok.seq ?_;refine Ok.block ?_
  (first|refine qE ?_|refine qD ?_);(simp only [go_sem,↓dP,↓reduceIte];with_reducible and_intros;all_goals first|apply qA|exact qC|skip)
  (first|refine qE ?_|refine qD ?_);(simp only [go_sem,↓dP,↓reduceIte];with_reducible and_intros;all_goals first|apply qA|exact qC|skip)
  (refine AskI.ret (c_bin _ _ _) ?_;simp only [go_sem,↓dP,↓reduceIte];with_reducible and_intros;all_goals first|apply qA|exact qC|skip)
  refine Ok.cond rfl (fun hb => ?_) (fun _ => ?_)
  ·exfalso
   rw [h3] at hb
   simp only [inB] at hb
   rw [decide_eq_true h1,decide_eq_true h2] at hb
   simp at hb
  (refine Ok.skip ?_;(try dsimp only [thenK,blockK,noGotoK]))
  (try dsimp only [thenK,blockK,noGotoK])
  (first|refine qE ?_|refine qD ?_);(simp only [go_sem,↓dP,↓reduceIte];with_reducible and_intros;all_goals first|apply qA|exact qC|skip)
  (try dsimp only [thenK,blockK,noGotoK])
  refine ⟨trivial,?_⟩
  (refine Sub.of ([0]) ([]) ?_ ?_ ?_ rfl rfl<;>simp only [subB,subB1,subT,subT1,newT,subE,subV,subL,go_sem,↓dP,↓reduceIte]<;>(try (repeat' with_reducible apply And.intro))<;>(try first | exact DEq.refl _ | refine DEq.int ?_ | refine DEq.bool ?_ | omega))
 ·intro _
  ((first|refine qE ?_|refine qD ?_);(simp only [go_sem,↓dP,↓reduceIte];with_reducible and_intros;all_goals first|apply qA|exact qC|skip));refine Ok.seq ?_;refine Ok.cond rfl (fun hb => by simp at hb) (fun _ => ?_);(refine Ok.exit ?_;simp only [thenK_exit,blockK_exit,noGotoK_exit,thenK_normal,blockK_normal,noGotoK_normal,↓reduceIte,Nat.reduceEqDiff])
  (first|refine qE ?_|refine qD ?_);(simp only [go_sem,↓dP,↓reduceIte];with_reducible and_intros;all_goals first|apply qA|exact qC|skip)
  (refine Ok.ret ?_;(try dsimp only [thenK,blockK,noGotoK]);simp only [toList_mk,List.toList_toArray,retK_ret,retK_normal,resOK,resV,celV,rowV,frzAll,frzT,subV,subL,go_sem,↓dP,↓reduceIte])
  ((repeat' with_reducible apply And.intro)<;>(first | exact DEq.refl _ | refine DEq.int ?_ | refine DEq.bool ?_ | skip))
theorem c_bdone (B : Bk) (plan : List Int) (m : Nat) (hK : IsMemoE (endF B plan) m) (hB : B.ok) (hp : plan.length = B.ss.length) (h0 : ∀ i, i < B.ss.length → (B.ss.getD i default).bd = 0) (k : Nat) (hk : k < 2) :
    Ctr Try.prog 36 [wkS B plan m, iS 0, iS k] (iS (lastB (endsB B plan (decide (k = 1)) B.ss.length))) := by
  have hs6 := hB.s6
  (refine Ctr.mk (fn := Try.f36) rfl rfl rfl rfl rfl Try.results36 ?_; intro _; dsimp only [args, List.toList_toArray])
  (first|refine qE ?_|refine qD ?_);(simp only [go_sem,↓dP,↓reduceIte];with_reducible and_intros;all_goals first|apply qA|exact qC|skip)
  (first|refine qE ?_|refine qD ?_);(simp only [go_sem,↓dP,↓reduceIte];with_reducible and_intros;all_goals first|apply qA|exact qC|skip)
  refine Ok.seq ?_
  (first|refine qE ?_|refine qD ?_);(simp only [go_sem,↓dP,↓reduceIte];with_reducible and_intros;all_goals first|apply qA|exact qC|skip)
  refine Ok.block ?_
  refine Ok.count B.ss.length (fun i => ⟨[(1, iS 0), (2, iS k), (3, .p 0 0), (7, .tk 0), (12, .d (slD 5 stkD B.ss)), (13, iS B.ss.length), (14, iS i)], [wkC B plan m], [ownD 3 1 intD (endsB B plan (decide (k = 1)) i)]⟩) (fun _ => True) ⟨trivial, ?_⟩ ?_ ?_
  · (refine Sub.of ([0]) ([none]) ?_ ?_ ?_ rfl rfl <;> simp only [subB, subB1, subT, subT1, newT, subE, subV, subL, go_sem,↓dP,↓reduceIte] <;> (try (repeat' with_reducible apply And.intro)) <;> (try first | exact DEq.refl _ | refine DEq.int ?_ | refine DEq.bool ?_ | omega))
    rfl
  · intro i hi _
    have hlen := endsB_len B plan (decide (k = 1)) i
    have hsn := endsB_succ B plan (decide (k = 1)) i
    have hc : Ctr Try.prog 67 [wkS B plan m, iS i, iS k] (iS (endB B plan (decide (k = 1)) i)) := c_end B plan m hK hB hp k hk i hi
    have hb0 := h0 i hi
    ((first|refine qE ?_|refine qD ?_);(simp only [go_sem,↓dP,↓reduceIte];with_reducible and_intros;all_goals first|apply qA|exact qC|skip)); refine Ok.seq ?_; refine Ok.cond rfl (fun _ => ?_) (fun hb => by simp at hb; omega); (refine Ok.skip ?_; (try dsimp only [thenK, blockK, noGotoK])); refine Ok.seq ?_; refine Ok.block ?_
    (first|refine qE ?_|refine qD ?_);(simp only [go_sem,↓dP,↓reduceIte];with_reducible and_intros;all_goals first|apply qA|exact qC|skip)
    refine Ok.seq ?_
    (first|refine qE ?_|refine qD ?_);(simp only [go_sem,↓dP,↓reduceIte];with_reducible and_intros;all_goals first|apply qA|exact qC|skip)
    rw [hb0]
    refine Ok.cond (b := true) (by first | rfl | (simp only [go_sem,↓dP,↓reduceIte]; rfl)) (fun _ => ?_) (fun hb => by cases hb)
    (first|refine qE ?_|refine qD ?_);(simp only [go_sem,↓dP,↓reduceIte];with_reducible and_intros;all_goals first|apply qA|exact qC|skip)
    (refine AskI.ret (hc) ?_; simp only [go_sem,↓dP,↓reduceIte];with_reducible and_intros;all_goals first|apply qA|exact qC|skip)
    (try dsimp only [thenK, blockK, noGotoK])
    (first|refine qE ?_|refine qD ?_);(simp only [go_sem,↓dP,↓reduceIte];with_reducible and_intros;all_goals first|apply qA|exact qC|skip)
    (try dsimp only [thenK, blockK, noGotoK])
    refine ⟨trivial, ?_⟩
    (refine Sub.of ([0]) ([some 1]) ?_ ?_ ?_ rfl rfl <;> simp only [subB, subB1, subT, subT1, newT, subE, subV, subL, go_sem,↓dP,↓reduceIte] <;> (try (repeat' with_reducible apply And.intro)) <;> (try first | exact DEq.refl _ | refine DEq.int ?_ | refine DEq.bool ?_ | omega))
    · rw [hsn]; simp
    · rw [hsn]
      exact snoc_D (fun c hc => by have : c = 0 := by omega
                                   subst this; rfl)
  · intro _
    have hlen := endsB_len B plan (decide (k = 1)) B.ss.length
    ((first|refine qE ?_|refine qD ?_);(simp only [go_sem,↓dP,↓reduceIte];with_reducible and_intros;all_goals first|apply qA|exact qC|skip)); refine Ok.seq ?_; refine Ok.cond rfl (fun hb => by simp at hb) (fun _ => ?_); (refine Ok.exit ?_; simp only [thenK_exit, blockK_exit, noGotoK_exit, thenK_normal, blockK_normal, noGotoK_normal, ↓reduceIte, Nat.reduceEqDiff])
    (first|refine qE ?_|refine qD ?_);(simp only [go_sem,↓dP,↓reduceIte];with_reducible and_intros;all_goals first|apply qA|exact qC|skip)
    (refine AskI.ret (c_last (endsB B plan (decide (k = 1)) B.ss.length) (by omega)) ?_; simp only [go_sem,↓dP,↓reduceIte];with_reducible and_intros;all_goals first|apply qA|exact qC|skip)
    (refine Ok.ret ?_; (try dsimp only [thenK, blockK, noGotoK]); simp only [toList_mk, List.toList_toArray, retK_ret, retK_normal, resOK, resV, celV, rowV, frzAll, frzT, subV, subL, go_sem,↓dP,↓reduceIte])
    exact .refl _
end
end Go.Proofs.Leaf
namespace Go.Proofs.Leaf
open Go Go.RX Go.Proofs Go.RowKit
set_option maxRecDepth 100000
section
abbrev doneB (B:Bk) (plan:List Int) (k:Nat):Int:=lastB (endsB B plan (decide (k = 1)) B.ss.length)
theorem c_Done (B:Bk) (hB:B.ok) (plan:List Int) (hp:plan.length = B.ss.length) (h:∀ i,i < plan.length->0<=plan.getD i default/\plan.getD i default<=B.ap/\(B.ss.getD i default).rd = false) (h0:∀ i,i < B.ss.length->(B.ss.getD i default).bd = 0) :
  Ctr Try.prog 11 [B.sv,ilS plan,iS 0] (.tup [spS (doneB B plan 0,doneB B plan 1),iS 0]):=by
 have hs6:=hB.s6
 have hb1:=hB.b1
 have hb3:=hB.b3
 refine Ctr.marks (fn:=Try.f11) rfl rfl rfl rfl rfl rfl (fun I w a _ hI _ hst => ?_)
 dsimp only [args] at hst
 letI:Bas:=⟨I,w⟩
 refine Ok.first hst ?_
 (first|refine qE ?_|refine qD ?_);(simp only [go_sem,↓dP,↓reduceIte];with_reducible and_intros;all_goals first|apply qA|exact qC|skip)
 intro a w1 hst
 show Code.wpIn _ _ _ _ _ _ _
 refine wpIn_seq ?_
 refine Ok.first hst ?_
 (first|refine qE ?_|refine qD ?_);(simp only [go_sem,↓dP,↓reduceIte];with_reducible and_intros;all_goals first|apply qA|exact qC|skip)
 (refine AskI.ret (c_isBench B hB) ?_;simp only [go_sem,↓dP,↓reduceIte];with_reducible and_intros;all_goals first|apply qA|exact qC|skip)
 (refine AskGI.ret (fun _ => c_isPlan B plan hp hs6 h) ?_;simp only [go_sem,↓dP,↓reduceIte];with_reducible and_intros;all_goals first|apply qA|exact qC|skip)
 (refine AskGI.ret (fun _ => c_bin _ _ _) ?_;simp only [go_sem,↓dP,↓reduceIte];with_reducible and_intros;all_goals first|apply qA|exact qC|skip)
 intro a w1 hst
 show Code.wpIn _ _ _ _ _ _ _
 refine hand_cond hst rfl (fun hb => ?_) (fun _ => ?_)
 ·exfalso
  simp [inB] at hb
  omega
 refine wpIn_skip ?_
 show Code.wpIn _ _ _ _ _ _ _
 have hst:=hst.sealt 3 0 rfl rfl rfl
 obtain ⟨I1,bl,i1,i2,i3,_,hkeep,hdf,hsz,hdat,_,hptr,hbox⟩:=hst.parked rfl hI
 obtain ⟨n6,l6,o6,cs6,T6,hc6,s6,o61,_⟩:=hbox 1 _ rfl rfl rfl
 have hp6:a.tmps.getD 6 undef = outP (bl 1):=hptr 6 1 0 rfl
 have hdf:a.defers = []:=hdf
 generalize bl 1 = b at *
 have g3:RepS I1 w1 (a.tmps.getD 3 undef) (.d B.ref):=hdat 3 _ rfl
 have g1:RepS I1 w1 (a.tmps.getD 1 undef) (ilS plan):=hdat 1 _ rfl
 have g2:RepS I1 w1 (a.tmps.getD 2 undef) (iS 0):=hdat 2 _ rfl
 obtain ⟨v1,hv1⟩:∃ v1,a.tmps.getD 3 undef = v1:=⟨_,rfl⟩
 obtain ⟨vp,hvp⟩:∃ vp,a.tmps.getD 1 undef = vp:=⟨_,rfl⟩
 rw [hv1] at g3
 rw [hvp] at g1
 obtain ⟨b1,o1,us1,e1,hI1,hc1,hr1⟩:∃ (b1 o1:Nat) (us:Nat->Value),v1 = .pointer (some ⟨b1,o1,none⟩)/\I1 b1/\(∀ j,j < 3->w1.cell? ⟨b1,o1 + j,none⟩ = some (us j))/\∀ j,j < 3->Rep I1 w1 (us j) (dget B.cells j):=by
  have hm:=mt_d (g3 (fun _ => none))
  generalize v1 = u at hm
  cases hm with
  | ref us q1 q2 q3 => exact ⟨_,_,us,rfl,q1,q2,q3⟩
 have hvb:RepS I1 w1 (.agg #[us1 0,us1 1,us1 2]) B.sv:=fun Y => .agg rfl (fun j u s hu hs => by
  rcases j with _ | _ | _ | j
  ·cases hu;cases hs;exact .d (hr1 0 (by decide))
  ·cases hu;cases hs;exact .d (hr1 1 (by decide))
  ·cases hu;cases hs;exact .d (hr1 2 (by decide))
  ·simp at hu) (fun u hu => by
  simp at hu
  rcases hu with rfl | rfl | rfl
  ·exact (hr1 0 (by decide)).one
  ·exact (hr1 1 (by decide)).one
  ·exact (hr1 2 (by decide)).one)
 refine wpIn_seq (wpIn_region ?_)
 refine tail_val (m:=0) (k:=4) (v:=.agg #[us1 0,us1 1,us1 2]) rfl (fun c e => by cases e) (run_load_op rfl (hv1.trans e1) (run_load_row (ag:=true) (n:=3) Tryz_ldT_35 (us:=[us1 0,us1 1,us1 2]) rfl (fun k u hk => ?_))) ?_
 ·rcases k with _ | _ | _ | k
  ·cases hk;exact hc1 0 (by decide)
  ·cases hk;exact hc1 1 (by decide)
  ·cases hk;exact hc1 2 (by decide)
  ·simp at hk
 refine tail_val (v:=vp) rfl (fun c e => by cases e) (run_move (.inl rfl) ((put_ne (by decide)).trans hvp)) ?_
 have hx31:(#[Operand.tmp 30,Operand.tmp 31]:Array Operand).map ((a.put (some 30) (.agg #[us1 0,us1 1,us1 2])).put (some 31) vp).eval = #[.agg #[us1 0,us1 1,us1 2],vp]:=by
  have q1:((a.put (some 30) (.agg #[us1 0,us1 1,us1 2])).put (some 31) vp).eval (.tmp 30) = .agg #[us1 0,us1 1,us1 2]:=(put_ne (by decide)).trans (put_eq (by rw [hsz];decide))
  have q2:((a.put (some 30) (.agg #[us1 0,us1 1,us1 2])).put (some 31) vp).eval (.tmp 31) = vp:=put_eq (by rw [put_sz,hsz];decide)
  simp only [List.map_toArray,List.map_cons,List.map_nil,q1,q2]
 refine tail_callFn (fn:=Try.f35) rfl rfl rfl rfl hx31 (mkWork B plan I1 w1 _ i3 rfl (fun k u s hu hs => ?_)) (fun e w2 hq => ?_)
 ·rcases k with _ | _ | k
  ·cases hu;cases hs;exact hvb
  ·cases hu;cases hs;exact g1
  ·simp at hs
 obtain ⟨u,m,I3,rfl,hk2,j1,j2,hmI,hm1,hm2,⟨clk,hmm⟩,hru⟩:=hq
 refine ⟨u,rfl,?_⟩
 have hs1:=hkeep.size
 have hs2:=hk2.size
 have j3:∀ c,I3 c->c < w2.heap.size:=fun c hc => by
  rcases j2 c hc with q | q
  ·have:=i3 c q;omega
  ·exact q.2
 have hz2:(((a.put (some 30) (.agg #[us1 0,us1 1,us1 2])).put (some 31) vp).put (some 32) u).tmps.size = Try.f11.ntmps:=by rw [put_sz,put_sz,put_sz];exact hsz
 have hst2:St { env:=[(32,wkS B plan m),(2,iS 0),(6,.d (.raw (outP b)))],bx:=[],tk:=[] } I3 Try.f11.ntmps w2 (((a.put (some 30) (.agg #[us1 0,us1 1,us1 2])).put (some 31) vp).put (some 32) u) w2:=by
  refine St.data (β:=fun _ => none) (τ:=fun _ => none) (Y:=fun _ => none) hz2 hdf j3 (fun b _ e => by cases e) trivial (dat_cons ?_ (dat_cons ?_ (dat_cons (repS_raw ?_ rfl) dat_nil)))
  ·rw [put_eq (by rw [put_sz,put_sz,hsz];decide)];exact hru
  ·rw [put_ne (by decide),put_ne (by decide),put_ne (by decide)]
   exact g2.kept ⟨hk2.size,j1,fun c hc => hk2.block c (i3 c hc) (fun e => by cases e)⟩
  ·rw [put_ne (by decide),put_ne (by decide),put_ne (by decide)];exact hp6
 letI:Bas:=⟨I3,w2⟩
 (refine RX.hrest hst2 ?h1 ?h2 ?h3 ?_;(case h1 => rfl);(case h2 => rfl);(case h3 => rfl);simp only [go_sem,↓dP,↓reduceIte,bare];with_reducible and_intros;all_goals first|apply qA|exact qC|skip)
 intro a3 w3 hst3
 have hst3:=(hst3.sealt 8 0 rfl rfl rfl).only [(8,.d (.ref 7 (dget (wkD B plan m)))),(2,iS 0),(6,.d (.raw (outP b)))] (by
  simp only [subE,subV,subL,go_sem,↓dP,↓reduceIte]
  ((repeat' with_reducible apply And.intro)<;>(first | exact DEq.refl _ | refine DEq.int ?_ | refine DEq.bool ?_ | skip)))
 obtain ⟨I4,hst3,k1,k2,k3,_,hk3,_,hd3⟩:=hst3.rebase rfl rfl rfl j3
 have hr3:=hst3.reps rfl rfl rfl
 have hz3:a3.tmps.size = Try.f11.ntmps:=by obtain ⟨_,_,_,hx⟩:=hst3 (fun _ => none);exact hx.sz
 have hs3:=hk3.size
 have hmI4:¬ I4 m:=fun hc => by
  rcases k2 m hc with q | q
  ·exact hmI q
  ·omega
 have hmm3:w3.heap[m]? = some (.map #[] clk):=(hk3.block m hm2 (fun e => by cases e)).trans hmm
 have hfin:∀ (a5:Act) (w5:World),a5.tmps.size = Try.f11.ntmps->a5.defers = []->a5.tmps.getD 6 undef = outP b->a5.tmps.getD 9 undef = .int .i64 (doneB B plan 0)->a5.tmps.getD 10 undef = .int .i64 (doneB B plan 1)->w5.os = w3.os->w5.tape = w3.tape->w5.output = w3.output->w3.heap.size<=w5.heap.size->(∀ k,k < w3.heap.size->k ≠ m->w5.heap[k]? = w3.heap[k]?) ->
   @St g0 _ { env:=[(9,iS (doneB B plan 0)),(10,iS (doneB B plan 1)),(6,.p 0 0)],bx:=[{ frz:=false,xs:=[.any,.any] }],tk:=[] } I Try.f11.ntmps w a5 w5:=by
  intro a5 w5 z1 z2 z3 z4 z5 z6 z7 z8 z9 z10
  have hKw:Keep w.heap.size w w3:=hkeep.trans ((hk2.mono (by omega)).trans (hk3.mono (by omega)))
  refine @St.boxes g0 _ _ (fun _ => False) _ _ _ _ _ _ [b] z1 z2 (fun c hc => hc.elim) (fun b _ e => by cases e) trivial (fun c hc => hc.elim) ⟨z6.trans hKw.os,z7.trans hKw.tape,z8.trans hKw.output,by have:=hKw.size;omega,fun k hk hm => (z10 k (by have:=hKw.size;omega) (by omega)).trans (hKw.block k hk hm),fun _ => trivial⟩ rfl (fun i i' b hi hi' => ?_) (fun i blk c hi hc => ?_) (bat_cons (.inl ?_) (bat_cons (.inl ?_) (bat_cons (.inr ⟨0,b,rfl,rfl,z3⟩) bat_nil))) (fun p hp => by cases hp)
  ·rcases i with _ | i<;>rcases i' with _ | i'<;>simp at hi hi'<;>rfl
  ·rcases i with _ | i
   ·cases hi;cases hc
    refine ⟨rfl,rfl,n6,fun hc => hc.elim,cs6,T6,?_,s6,fun j u x hu hx => .inl ?_,o61⟩
    ·rw [z10 b (by omega) (by omega),hk3.block b (by omega) (fun e => by cases e),hk2.block b l6 (fun e => by cases e)];exact hc6
    ·rcases j with _ | _ | j<;>simp at hx<;>exact hx.symm
   ·simp at hi
  ·rw [z4];exact fun Y => .d .int
  ·rw [z5];exact fun Y => .d .int
 show Code.wpIn _ _ _ _ _ _ _
 letI GM:Glob:=memoE (endF B plan) m
 have hmM:MemoE (endF B plan) w3 m:=⟨#[],clk,hmm3,fun e he => by simp at he⟩
 have hstG:@St GM _ { env:=[(8,.d (.ref 7 (dget (wkD B plan m)))),(2,iS 0),(6,.d (.raw (outP b)))],bx:=[],tk:=[] } I4 Try.f11.ntmps w3 a3 w3 :=
  @St.data GM _ _ _ _ _ _ (fun _ => none) (fun _ => none) (fun _ => none) hz3 hd3 k3 (fun b hb e => by cases e;exact hmI4 hb) hmM (dat_cons (hr3 8) (dat_cons (hr3 2) (dat_cons (hr3 6) dat_nil))) (fun p hp => by cases hp)
 letI:Bas:=⟨I4,w3⟩
 have hcd:=fun k hk => c_bdone B plan m (isMemoE_memo _ _) hB hp h0 k hk
 refine Ok.first hstG ?_
 (first|refine qE ?_|refine qD ?_);(simp only [go_sem,↓dP,↓reduceIte];with_reducible and_intros;all_goals first|apply qA|exact qC|skip)
 (refine AskI.ret (hcd 0 (by decide)) ?_;simp only [go_sem,↓dP,↓reduceIte];with_reducible and_intros;all_goals first|apply qA|exact qC|skip)
 (refine AskI.ret (hcd 1 (by decide)) ?_;simp only [go_sem,↓dP,↓reduceIte];with_reducible and_intros;all_goals first|apply qA|exact qC|skip)
 intro a5 w5 hst5
 have e6:a5.tmps.getD 6 undef = outP b:=hst5.raw (t:=6) rfl
 have e9:a5.tmps.getD 9 undef = .int .i64 (doneB B plan 0):=rep_int (mt_d (hst5.val (t:=9) rfl (fun _ _ _ e => by cases e)).choose_spec.choose_spec.choose_spec.2)
 have e10:a5.tmps.getD 10 undef = .int .i64 (doneB B plan 1):=rep_int (mt_d (hst5.val (t:=10) rfl (fun _ _ _ e => by cases e)).choose_spec.choose_spec.choose_spec.2)
 obtain ⟨_,_,_,hx5⟩:=hst5 (fun _ => none)
 have hk5:=hx5.bel
 have hstF:=hfin a5 w5 hx5.sz hx5.df e6 e9 e10 hk5.os hk5.tape hk5.output hk5.size (fun k hk hm => hk5.block k hk (fun e => hm (by cases e;rfl)))
 letI:Glob:=g0
 letI:Bas:=⟨I,w⟩
 show Code.wpIn _ _ _ _ _ _ _
 refine Ok.first hstF ?_
 (first|refine qE ?_|refine qD ?_);(simp only [go_sem,↓dP,↓reduceIte];with_reducible and_intros;all_goals first|apply qA|exact qC|skip)
 intro a6 w6 hst6
 refine wpIn_ret ?_
 refine ⟨.inl rfl,.inl ⟨_,?_,hst6⟩⟩
 show resOK Try.prog [.cell 6 24,.tmp 7] _ _
 ((try dsimp only [thenK,blockK,noGotoK]);simp only [toList_mk,List.toList_toArray,retK_ret,retK_normal,resOK,resV,celV,rowV,frzAll,frzT,subV,subL,go_sem,↓dP,↓reduceIte])
 ((repeat' with_reducible apply And.intro)<;>(first | exact DEq.refl _ | refine DEq.int ?_ | refine DEq.bool ?_ | skip))
end
end Go.Proofs.Leaf
namespace Go.Proofs.Leaf
open Go Go.RX Go.Proofs Go.RowKit
set_option maxRecDepth 10000
section
structure RndT (L:List Pb) (H:List Int) (v3 vh vs v21 v22 v24:Value) (n:Nat) (W0:World) (N:Nat) (D:Nat->Bool) (a:Act) (w:World):Prop where
 sz:a.tmps.size = N
 df:a.defers = []
 t1:a.tmps.getD 1 undef = .int .i64 0
 t2:a.tmps.getD 2 undef = vh
 t3:a.tmps.getD 3 undef = v3
 kp:Keep W0.heap.size W0 w
 e8:D 8 = true->D 2 = true
 i0:D 0 = true->a.tmps.getD 18 undef = vs
 i1:D 1 = true->a.tmps.getD 19 undef = vh
 i3:D 3 = true->a.tmps.getD 21 undef = v21
 i4:D 4 = true->a.tmps.getD 22 undef = v22
 i5:D 5 = true->a.tmps.getD 23 undef = (.int .i64 0)
 i6:D 6 = true->a.tmps.getD 24 undef = v24
 i7:D 7 = true->a.tmps.getD 25 undef = taV
 c2:D 2 = true->D 8 = false->NewB L H W0.heap.size (a.tmps.getD 20 undef) w
 c8:D 8 = true->a.tmps.getD 26 undef = .int .i64 (sumI H)
theorem rndt_0 {L:List Pb} {H:List Int} {v3 vh vs v21 v22 v24:Value} {n N:Nat} {W0:World} {D:Nat->Bool} {a:Act} {w:World} (h:RndT L H v3 vh vs v21 v22 v24 n W0 N D a w) (hN:18 < N) (hD:D 0 = false):RndT L H v3 vh vs v21 v22 v24 n W0 N (fun j => D j || decide (j = 0)) (a.put (some 18) vs) w where
 sz:=put_sz.trans h.sz
 df:=h.df
 t1:=(put_ne (by decide)).trans h.t1
 t2:=(put_ne (by decide)).trans h.t2
 t3:=(put_ne (by decide)).trans h.t3
 kp:=h.kp
 e8:=fun q => by have:=h.e8 (by simpa using q);simp [this]
 i0:=fun _ => put_eq (by rw [h.sz];omega)
 i1:=fun q => (put_ne (by decide)).trans (h.i1 (by simpa using q))
 i3:=fun q => (put_ne (by decide)).trans (h.i3 (by simpa using q))
 i4:=fun q => (put_ne (by decide)).trans (h.i4 (by simpa using q))
 i5:=fun q => (put_ne (by decide)).trans (h.i5 (by simpa using q))
 i6:=fun q => (put_ne (by decide)).trans (h.i6 (by simpa using q))
 i7:=fun q => (put_ne (by decide)).trans (h.i7 (by simpa using q))
 c2:=fun q r => by rw [put_ne (by decide)];exact h.c2 (by simpa using q) (by simpa using r)
 c8:=fun q => (put_ne (by decide)).trans (h.c8 (by simpa using q))
theorem rndt_1 {L:List Pb} {H:List Int} {v3 vh vs v21 v22 v24:Value} {n N:Nat} {W0:World} {D:Nat->Bool} {a:Act} {w:World} (h:RndT L H v3 vh vs v21 v22 v24 n W0 N D a w) (hN:19 < N) (hD:D 1 = false):RndT L H v3 vh vs v21 v22 v24 n W0 N (fun j => D j || decide (j = 1)) (a.put (some 19) vh) w where
 sz:=put_sz.trans h.sz
 df:=h.df
 t1:=(put_ne (by decide)).trans h.t1
 t2:=(put_ne (by decide)).trans h.t2
 t3:=(put_ne (by decide)).trans h.t3
 kp:=h.kp
 e8:=fun q => by have:=h.e8 (by simpa using q);simp [this]
 i0:=fun q => (put_ne (by decide)).trans (h.i0 (by simpa using q))
 i1:=fun _ => put_eq (by rw [h.sz];omega)
 i3:=fun q => (put_ne (by decide)).trans (h.i3 (by simpa using q))
 i4:=fun q => (put_ne (by decide)).trans (h.i4 (by simpa using q))
 i5:=fun q => (put_ne (by decide)).trans (h.i5 (by simpa using q))
 i6:=fun q => (put_ne (by decide)).trans (h.i6 (by simpa using q))
 i7:=fun q => (put_ne (by decide)).trans (h.i7 (by simpa using q))
 c2:=fun q r => by rw [put_ne (by decide)];exact h.c2 (by simpa using q) (by simpa using r)
 c8:=fun q => (put_ne (by decide)).trans (h.c8 (by simpa using q))
theorem rndt_3 {L:List Pb} {H:List Int} {v3 vh vs v21 v22 v24:Value} {n N:Nat} {W0:World} {D:Nat->Bool} {a:Act} {w:World} (h:RndT L H v3 vh vs v21 v22 v24 n W0 N D a w) (hN:21 < N) (hD:D 3 = false):RndT L H v3 vh vs v21 v22 v24 n W0 N (fun j => D j || decide (j = 3)) (a.put (some 21) v21) w where
 sz:=put_sz.trans h.sz
 df:=h.df
 t1:=(put_ne (by decide)).trans h.t1
 t2:=(put_ne (by decide)).trans h.t2
 t3:=(put_ne (by decide)).trans h.t3
 kp:=h.kp
 e8:=fun q => by have:=h.e8 (by simpa using q);simp [this]
 i0:=fun q => (put_ne (by decide)).trans (h.i0 (by simpa using q))
 i1:=fun q => (put_ne (by decide)).trans (h.i1 (by simpa using q))
 i3:=fun _ => put_eq (by rw [h.sz];omega)
 i4:=fun q => (put_ne (by decide)).trans (h.i4 (by simpa using q))
 i5:=fun q => (put_ne (by decide)).trans (h.i5 (by simpa using q))
 i6:=fun q => (put_ne (by decide)).trans (h.i6 (by simpa using q))
 i7:=fun q => (put_ne (by decide)).trans (h.i7 (by simpa using q))
 c2:=fun q r => by rw [put_ne (by decide)];exact h.c2 (by simpa using q) (by simpa using r)
 c8:=fun q => (put_ne (by decide)).trans (h.c8 (by simpa using q))
theorem rndt_4 {L:List Pb} {H:List Int} {v3 vh vs v21 v22 v24:Value} {n N:Nat} {W0:World} {D:Nat->Bool} {a:Act} {w:World} (h:RndT L H v3 vh vs v21 v22 v24 n W0 N D a w) (hN:22 < N) (hD:D 4 = false):RndT L H v3 vh vs v21 v22 v24 n W0 N (fun j => D j || decide (j = 4)) (a.put (some 22) v22) w where
 sz:=put_sz.trans h.sz
 df:=h.df
 t1:=(put_ne (by decide)).trans h.t1
 t2:=(put_ne (by decide)).trans h.t2
 t3:=(put_ne (by decide)).trans h.t3
 kp:=h.kp
 e8:=fun q => by have:=h.e8 (by simpa using q);simp [this]
 i0:=fun q => (put_ne (by decide)).trans (h.i0 (by simpa using q))
 i1:=fun q => (put_ne (by decide)).trans (h.i1 (by simpa using q))
 i3:=fun q => (put_ne (by decide)).trans (h.i3 (by simpa using q))
 i4:=fun _ => put_eq (by rw [h.sz];omega)
 i5:=fun q => (put_ne (by decide)).trans (h.i5 (by simpa using q))
 i6:=fun q => (put_ne (by decide)).trans (h.i6 (by simpa using q))
 i7:=fun q => (put_ne (by decide)).trans (h.i7 (by simpa using q))
 c2:=fun q r => by rw [put_ne (by decide)];exact h.c2 (by simpa using q) (by simpa using r)
 c8:=fun q => (put_ne (by decide)).trans (h.c8 (by simpa using q))
theorem rndt_5 {L:List Pb} {H:List Int} {v3 vh vs v21 v22 v24:Value} {n N:Nat} {W0:World} {D:Nat->Bool} {a:Act} {w:World} (h:RndT L H v3 vh vs v21 v22 v24 n W0 N D a w) (hN:23 < N) (hD:D 5 = false):RndT L H v3 vh vs v21 v22 v24 n W0 N (fun j => D j || decide (j = 5)) (a.put (some 23) (.int .i64 0)) w where
 sz:=put_sz.trans h.sz
 df:=h.df
 t1:=(put_ne (by decide)).trans h.t1
 t2:=(put_ne (by decide)).trans h.t2
 t3:=(put_ne (by decide)).trans h.t3
 kp:=h.kp
 e8:=fun q => by have:=h.e8 (by simpa using q);simp [this]
 i0:=fun q => (put_ne (by decide)).trans (h.i0 (by simpa using q))
 i1:=fun q => (put_ne (by decide)).trans (h.i1 (by simpa using q))
 i3:=fun q => (put_ne (by decide)).trans (h.i3 (by simpa using q))
 i4:=fun q => (put_ne (by decide)).trans (h.i4 (by simpa using q))
 i5:=fun _ => put_eq (by rw [h.sz];omega)
 i6:=fun q => (put_ne (by decide)).trans (h.i6 (by simpa using q))
 i7:=fun q => (put_ne (by decide)).trans (h.i7 (by simpa using q))
 c2:=fun q r => by rw [put_ne (by decide)];exact h.c2 (by simpa using q) (by simpa using r)
 c8:=fun q => (put_ne (by decide)).trans (h.c8 (by simpa using q))
theorem rndt_6 {L:List Pb} {H:List Int} {v3 vh vs v21 v22 v24:Value} {n N:Nat} {W0:World} {D:Nat->Bool} {a:Act} {w:World} (h:RndT L H v3 vh vs v21 v22 v24 n W0 N D a w) (hN:24 < N) (hD:D 6 = false):RndT L H v3 vh vs v21 v22 v24 n W0 N (fun j => D j || decide (j = 6)) (a.put (some 24) v24) w where
 sz:=put_sz.trans h.sz
 df:=h.df
 t1:=(put_ne (by decide)).trans h.t1
 t2:=(put_ne (by decide)).trans h.t2
 t3:=(put_ne (by decide)).trans h.t3
 kp:=h.kp
 e8:=fun q => by have:=h.e8 (by simpa using q);simp [this]
 i0:=fun q => (put_ne (by decide)).trans (h.i0 (by simpa using q))
 i1:=fun q => (put_ne (by decide)).trans (h.i1 (by simpa using q))
 i3:=fun q => (put_ne (by decide)).trans (h.i3 (by simpa using q))
 i4:=fun q => (put_ne (by decide)).trans (h.i4 (by simpa using q))
 i5:=fun q => (put_ne (by decide)).trans (h.i5 (by simpa using q))
 i6:=fun _ => put_eq (by rw [h.sz];omega)
 i7:=fun q => (put_ne (by decide)).trans (h.i7 (by simpa using q))
 c2:=fun q r => by rw [put_ne (by decide)];exact h.c2 (by simpa using q) (by simpa using r)
 c8:=fun q => (put_ne (by decide)).trans (h.c8 (by simpa using q))
theorem rndt_7 {L:List Pb} {H:List Int} {v3 vh vs v21 v22 v24:Value} {n N:Nat} {W0:World} {D:Nat->Bool} {a:Act} {w:World} (h:RndT L H v3 vh vs v21 v22 v24 n W0 N D a w) (hN:25 < N) (hD:D 7 = false):RndT L H v3 vh vs v21 v22 v24 n W0 N (fun j => D j || decide (j = 7)) (a.put (some 25) taV) w where
 sz:=put_sz.trans h.sz
 df:=h.df
 t1:=(put_ne (by decide)).trans h.t1
 t2:=(put_ne (by decide)).trans h.t2
 t3:=(put_ne (by decide)).trans h.t3
 kp:=h.kp
 e8:=fun q => by have:=h.e8 (by simpa using q);simp [this]
 i0:=fun q => (put_ne (by decide)).trans (h.i0 (by simpa using q))
 i1:=fun q => (put_ne (by decide)).trans (h.i1 (by simpa using q))
 i3:=fun q => (put_ne (by decide)).trans (h.i3 (by simpa using q))
 i4:=fun q => (put_ne (by decide)).trans (h.i4 (by simpa using q))
 i5:=fun q => (put_ne (by decide)).trans (h.i5 (by simpa using q))
 i6:=fun q => (put_ne (by decide)).trans (h.i6 (by simpa using q))
 i7:=fun _ => put_eq (by rw [h.sz];omega)
 c2:=fun q r => by rw [put_ne (by decide)];exact h.c2 (by simpa using q) (by simpa using r)
 c8:=fun q => (put_ne (by decide)).trans (h.c8 (by simpa using q))
theorem rndt_2 {L:List Pb} {H:List Int} {v3 vh vs v21 v22 v24:Value} {n N:Nat} {W0:World} {D:Nat->Bool} {a:Act} {w w':World} {u:Value} (h:RndT L H v3 vh vs v21 v22 v24 n W0 N D a w) (hN:20 < N) (hD:D 2 = false) (hk:Keep W0.heap.size W0 w') (hm:NewB L H W0.heap.size u w'):RndT L H v3 vh vs v21 v22 v24 n W0 N (fun j => D j || decide (j = 2)) (a.put (some 20) u) w' where
 sz:=put_sz.trans h.sz
 df:=h.df
 t1:=(put_ne (by decide)).trans h.t1
 t2:=(put_ne (by decide)).trans h.t2
 t3:=(put_ne (by decide)).trans h.t3
 kp:=hk
 e8:=fun q => by simp
 i0:=fun q => (put_ne (by decide)).trans (h.i0 (by simpa using q))
 i1:=fun q => (put_ne (by decide)).trans (h.i1 (by simpa using q))
 i3:=fun q => (put_ne (by decide)).trans (h.i3 (by simpa using q))
 i4:=fun q => (put_ne (by decide)).trans (h.i4 (by simpa using q))
 i5:=fun q => (put_ne (by decide)).trans (h.i5 (by simpa using q))
 i6:=fun q => (put_ne (by decide)).trans (h.i6 (by simpa using q))
 i7:=fun q => (put_ne (by decide)).trans (h.i7 (by simpa using q))
 c2:=fun q r => by rw [put_eq (by rw [h.sz];omega)];exact hm
 c8:=fun q => (put_ne (by decide)).trans (h.c8 (by simpa using q))
theorem rndt_8 {L:List Pb} {H:List Int} {v3 vh vs v21 v22 v24:Value} {n N:Nat} {W0:World} {D:Nat->Bool} {a:Act} {w w':World} (h:RndT L H v3 vh vs v21 v22 v24 n W0 N D a w) (hN:26 < N) (hD:D 8 = false) (hp:D 2 = true) (hk:Keep W0.heap.size W0 w'):RndT L H v3 vh vs v21 v22 v24 n W0 N (fun j => D j || decide (j = 8)) (a.put (some 26) (.int .i64 (sumI H))) w' where
 sz:=put_sz.trans h.sz
 df:=h.df
 t1:=(put_ne (by decide)).trans h.t1
 t2:=(put_ne (by decide)).trans h.t2
 t3:=(put_ne (by decide)).trans h.t3
 kp:=hk
 e8:=fun _ => by simp [hp]
 i0:=fun q => (put_ne (by decide)).trans (h.i0 (by simpa using q))
 i1:=fun q => (put_ne (by decide)).trans (h.i1 (by simpa using q))
 i3:=fun q => (put_ne (by decide)).trans (h.i3 (by simpa using q))
 i4:=fun q => (put_ne (by decide)).trans (h.i4 (by simpa using q))
 i5:=fun q => (put_ne (by decide)).trans (h.i5 (by simpa using q))
 i6:=fun q => (put_ne (by decide)).trans (h.i6 (by simpa using q))
 i7:=fun q => (put_ne (by decide)).trans (h.i7 (by simpa using q))
 c2:=fun q r => by simp at r
 c8:=fun _ => put_eq (by rw [h.sz];omega)
structure RndP (L:List Pb) (A C:List Int) (b:Nat) (v2 v8 va vc vs:Value) (n:Nat) (W0:World) (N:Nat) (D:Nat->Bool) (a:Act) (w:World):Prop where
 sz:a.tmps.size = N
 df:a.defers = []
 t2:a.tmps.getD 2 undef = v2
 t4:a.tmps.getD 4 undef = outP b
 t6:a.tmps.getD 6 undef = va
 t7:a.tmps.getD 7 undef = vc
 t8:a.tmps.getD 8 undef = v8
 kp:Keep W0.heap.size W0 w
 e4:D 4 = true->D 2 = true
 e7:D 7 = true->D 4 = true
 e9:D 9 = true->D 7 = true
 i0:D 0 = true->a.tmps.getD 24 undef = vs
 i1:D 1 = true->a.tmps.getD 25 undef = va
 i3:D 3 = true->a.tmps.getD 27 undef = taV
 i5:D 5 = true->a.tmps.getD 29 undef = vs
 i6:D 6 = true->a.tmps.getD 30 undef = vc
 i8:D 8 = true->a.tmps.getD 32 undef = taV
 c2:D 2 = true->D 4 = false->NewB L A W0.heap.size (a.tmps.getD 26 undef) w
 c4:D 4 = true->a.tmps.getD 28 undef = .int .i64 (sumI A)
 c7:D 7 = true->D 9 = false->NewB L C W0.heap.size (a.tmps.getD 31 undef) w
 c9:D 9 = true->a.tmps.getD 33 undef = .int .i64 (sumI C)
theorem rndp_0 {L:List Pb} {A C:List Int} {b:Nat} {v2 v8 va vc vs:Value} {n N:Nat} {W0:World} {D:Nat->Bool} {a:Act} {w:World} (h:RndP L A C b v2 v8 va vc vs n W0 N D a w) (hN:24 < N) (hD:D 0 = false):RndP L A C b v2 v8 va vc vs n W0 N (fun j => D j || decide (j = 0)) (a.put (some 24) vs) w where
 sz:=put_sz.trans h.sz
 df:=h.df
 t2:=(put_ne (by decide)).trans h.t2
 t4:=(put_ne (by decide)).trans h.t4
 t6:=(put_ne (by decide)).trans h.t6
 t7:=(put_ne (by decide)).trans h.t7
 t8:=(put_ne (by decide)).trans h.t8
 kp:=h.kp
 e4:=fun q => by have:=h.e4 (by simpa using q);simp [this]
 e7:=fun q => by have:=h.e7 (by simpa using q);simp [this]
 e9:=fun q => by have:=h.e9 (by simpa using q);simp [this]
 i0:=fun _ => put_eq (by rw [h.sz];omega)
 i1:=fun q => (put_ne (by decide)).trans (h.i1 (by simpa using q))
 i3:=fun q => (put_ne (by decide)).trans (h.i3 (by simpa using q))
 i5:=fun q => (put_ne (by decide)).trans (h.i5 (by simpa using q))
 i6:=fun q => (put_ne (by decide)).trans (h.i6 (by simpa using q))
 i8:=fun q => (put_ne (by decide)).trans (h.i8 (by simpa using q))
 c2:=fun q r => by rw [put_ne (by decide)];exact h.c2 (by simpa using q) (by simpa using r)
 c4:=fun q => (put_ne (by decide)).trans (h.c4 (by simpa using q))
 c7:=fun q r => by rw [put_ne (by decide)];exact h.c7 (by simpa using q) (by simpa using r)
 c9:=fun q => (put_ne (by decide)).trans (h.c9 (by simpa using q))
theorem rndp_1 {L:List Pb} {A C:List Int} {b:Nat} {v2 v8 va vc vs:Value} {n N:Nat} {W0:World} {D:Nat->Bool} {a:Act} {w:World} (h:RndP L A C b v2 v8 va vc vs n W0 N D a w) (hN:25 < N) (hD:D 1 = false):RndP L A C b v2 v8 va vc vs n W0 N (fun j => D j || decide (j = 1)) (a.put (some 25) va) w where
 sz:=put_sz.trans h.sz
 df:=h.df
 t2:=(put_ne (by decide)).trans h.t2
 t4:=(put_ne (by decide)).trans h.t4
 t6:=(put_ne (by decide)).trans h.t6
 t7:=(put_ne (by decide)).trans h.t7
 t8:=(put_ne (by decide)).trans h.t8
 kp:=h.kp
 e4:=fun q => by have:=h.e4 (by simpa using q);simp [this]
 e7:=fun q => by have:=h.e7 (by simpa using q);simp [this]
 e9:=fun q => by have:=h.e9 (by simpa using q);simp [this]
 i0:=fun q => (put_ne (by decide)).trans (h.i0 (by simpa using q))
 i1:=fun _ => put_eq (by rw [h.sz];omega)
 i3:=fun q => (put_ne (by decide)).trans (h.i3 (by simpa using q))
 i5:=fun q => (put_ne (by decide)).trans (h.i5 (by simpa using q))
 i6:=fun q => (put_ne (by decide)).trans (h.i6 (by simpa using q))
 i8:=fun q => (put_ne (by decide)).trans (h.i8 (by simpa using q))
 c2:=fun q r => by rw [put_ne (by decide)];exact h.c2 (by simpa using q) (by simpa using r)
 c4:=fun q => (put_ne (by decide)).trans (h.c4 (by simpa using q))
 c7:=fun q r => by rw [put_ne (by decide)];exact h.c7 (by simpa using q) (by simpa using r)
 c9:=fun q => (put_ne (by decide)).trans (h.c9 (by simpa using q))
theorem rndp_3 {L:List Pb} {A C:List Int} {b:Nat} {v2 v8 va vc vs:Value} {n N:Nat} {W0:World} {D:Nat->Bool} {a:Act} {w:World} (h:RndP L A C b v2 v8 va vc vs n W0 N D a w) (hN:27 < N) (hD:D 3 = false):RndP L A C b v2 v8 va vc vs n W0 N (fun j => D j || decide (j = 3)) (a.put (some 27) taV) w where
 sz:=put_sz.trans h.sz
 df:=h.df
 t2:=(put_ne (by decide)).trans h.t2
 t4:=(put_ne (by decide)).trans h.t4
 t6:=(put_ne (by decide)).trans h.t6
 t7:=(put_ne (by decide)).trans h.t7
 t8:=(put_ne (by decide)).trans h.t8
 kp:=h.kp
 e4:=fun q => by have:=h.e4 (by simpa using q);simp [this]
 e7:=fun q => by have:=h.e7 (by simpa using q);simp [this]
 e9:=fun q => by have:=h.e9 (by simpa using q);simp [this]
 i0:=fun q => (put_ne (by decide)).trans (h.i0 (by simpa using q))
 i1:=fun q => (put_ne (by decide)).trans (h.i1 (by simpa using q))
 i3:=fun _ => put_eq (by rw [h.sz];omega)
 i5:=fun q => (put_ne (by decide)).trans (h.i5 (by simpa using q))
 i6:=fun q => (put_ne (by decide)).trans (h.i6 (by simpa using q))
 i8:=fun q => (put_ne (by decide)).trans (h.i8 (by simpa using q))
 c2:=fun q r => by rw [put_ne (by decide)];exact h.c2 (by simpa using q) (by simpa using r)
 c4:=fun q => (put_ne (by decide)).trans (h.c4 (by simpa using q))
 c7:=fun q r => by rw [put_ne (by decide)];exact h.c7 (by simpa using q) (by simpa using r)
 c9:=fun q => (put_ne (by decide)).trans (h.c9 (by simpa using q))
theorem rndp_5 {L:List Pb} {A C:List Int} {b:Nat} {v2 v8 va vc vs:Value} {n N:Nat} {W0:World} {D:Nat->Bool} {a:Act} {w:World} (h:RndP L A C b v2 v8 va vc vs n W0 N D a w) (hN:29 < N) (hD:D 5 = false):RndP L A C b v2 v8 va vc vs n W0 N (fun j => D j || decide (j = 5)) (a.put (some 29) vs) w where
 sz:=put_sz.trans h.sz
 df:=h.df
 t2:=(put_ne (by decide)).trans h.t2
 t4:=(put_ne (by decide)).trans h.t4
 t6:=(put_ne (by decide)).trans h.t6
 t7:=(put_ne (by decide)).trans h.t7
 t8:=(put_ne (by decide)).trans h.t8
 kp:=h.kp
 e4:=fun q => by have:=h.e4 (by simpa using q);simp [this]
 e7:=fun q => by have:=h.e7 (by simpa using q);simp [this]
 e9:=fun q => by have:=h.e9 (by simpa using q);simp [this]
 i0:=fun q => (put_ne (by decide)).trans (h.i0 (by simpa using q))
 i1:=fun q => (put_ne (by decide)).trans (h.i1 (by simpa using q))
 i3:=fun q => (put_ne (by decide)).trans (h.i3 (by simpa using q))
 i5:=fun _ => put_eq (by rw [h.sz];omega)
 i6:=fun q => (put_ne (by decide)).trans (h.i6 (by simpa using q))
 i8:=fun q => (put_ne (by decide)).trans (h.i8 (by simpa using q))
 c2:=fun q r => by rw [put_ne (by decide)];exact h.c2 (by simpa using q) (by simpa using r)
 c4:=fun q => (put_ne (by decide)).trans (h.c4 (by simpa using q))
 c7:=fun q r => by rw [put_ne (by decide)];exact h.c7 (by simpa using q) (by simpa using r)
 c9:=fun q => (put_ne (by decide)).trans (h.c9 (by simpa using q))
theorem rndp_6 {L:List Pb} {A C:List Int} {b:Nat} {v2 v8 va vc vs:Value} {n N:Nat} {W0:World} {D:Nat->Bool} {a:Act} {w:World} (h:RndP L A C b v2 v8 va vc vs n W0 N D a w) (hN:30 < N) (hD:D 6 = false):RndP L A C b v2 v8 va vc vs n W0 N (fun j => D j || decide (j = 6)) (a.put (some 30) vc) w where
 sz:=put_sz.trans h.sz
 df:=h.df
 t2:=(put_ne (by decide)).trans h.t2
 t4:=(put_ne (by decide)).trans h.t4
 t6:=(put_ne (by decide)).trans h.t6
 t7:=(put_ne (by decide)).trans h.t7
 t8:=(put_ne (by decide)).trans h.t8
 kp:=h.kp
 e4:=fun q => by have:=h.e4 (by simpa using q);simp [this]
 e7:=fun q => by have:=h.e7 (by simpa using q);simp [this]
 e9:=fun q => by have:=h.e9 (by simpa using q);simp [this]
 i0:=fun q => (put_ne (by decide)).trans (h.i0 (by simpa using q))
 i1:=fun q => (put_ne (by decide)).trans (h.i1 (by simpa using q))
 i3:=fun q => (put_ne (by decide)).trans (h.i3 (by simpa using q))
 i5:=fun q => (put_ne (by decide)).trans (h.i5 (by simpa using q))
 i6:=fun _ => put_eq (by rw [h.sz];omega)
 i8:=fun q => (put_ne (by decide)).trans (h.i8 (by simpa using q))
 c2:=fun q r => by rw [put_ne (by decide)];exact h.c2 (by simpa using q) (by simpa using r)
 c4:=fun q => (put_ne (by decide)).trans (h.c4 (by simpa using q))
 c7:=fun q r => by rw [put_ne (by decide)];exact h.c7 (by simpa using q) (by simpa using r)
 c9:=fun q => (put_ne (by decide)).trans (h.c9 (by simpa using q))
theorem rndp_8 {L:List Pb} {A C:List Int} {b:Nat} {v2 v8 va vc vs:Value} {n N:Nat} {W0:World} {D:Nat->Bool} {a:Act} {w:World} (h:RndP L A C b v2 v8 va vc vs n W0 N D a w) (hN:32 < N) (hD:D 8 = false):RndP L A C b v2 v8 va vc vs n W0 N (fun j => D j || decide (j = 8)) (a.put (some 32) taV) w where
 sz:=put_sz.trans h.sz
 df:=h.df
 t2:=(put_ne (by decide)).trans h.t2
 t4:=(put_ne (by decide)).trans h.t4
 t6:=(put_ne (by decide)).trans h.t6
 t7:=(put_ne (by decide)).trans h.t7
 t8:=(put_ne (by decide)).trans h.t8
 kp:=h.kp
 e4:=fun q => by have:=h.e4 (by simpa using q);simp [this]
 e7:=fun q => by have:=h.e7 (by simpa using q);simp [this]
 e9:=fun q => by have:=h.e9 (by simpa using q);simp [this]
 i0:=fun q => (put_ne (by decide)).trans (h.i0 (by simpa using q))
 i1:=fun q => (put_ne (by decide)).trans (h.i1 (by simpa using q))
 i3:=fun q => (put_ne (by decide)).trans (h.i3 (by simpa using q))
 i5:=fun q => (put_ne (by decide)).trans (h.i5 (by simpa using q))
 i6:=fun q => (put_ne (by decide)).trans (h.i6 (by simpa using q))
 i8:=fun _ => put_eq (by rw [h.sz];omega)
 c2:=fun q r => by rw [put_ne (by decide)];exact h.c2 (by simpa using q) (by simpa using r)
 c4:=fun q => (put_ne (by decide)).trans (h.c4 (by simpa using q))
 c7:=fun q r => by rw [put_ne (by decide)];exact h.c7 (by simpa using q) (by simpa using r)
 c9:=fun q => (put_ne (by decide)).trans (h.c9 (by simpa using q))
theorem rndp_2 {L:List Pb} {A C:List Int} {b:Nat} {v2 v8 va vc vs:Value} {n N:Nat} {W0:World} {D:Nat->Bool} {a:Act} {w w':World} {u:Value} (h:RndP L A C b v2 v8 va vc vs n W0 N D a w) (hN:26 < N) (hD:D 2 = false) (hk:Keep W0.heap.size W0 w') (hm:NewB L A W0.heap.size u w'):RndP L A C b v2 v8 va vc vs n W0 N (fun j => D j || decide (j = 2)) (a.put (some 26) u) w' where
 sz:=put_sz.trans h.sz
 df:=h.df
 t2:=(put_ne (by decide)).trans h.t2
 t4:=(put_ne (by decide)).trans h.t4
 t6:=(put_ne (by decide)).trans h.t6
 t7:=(put_ne (by decide)).trans h.t7
 t8:=(put_ne (by decide)).trans h.t8
 kp:=hk
 e4:=fun q => by simp
 e7:=fun q => by have:=h.e7 (by simpa using q);simp [this]
 e9:=fun q => by have:=h.e9 (by simpa using q);simp [this]
 i0:=fun q => (put_ne (by decide)).trans (h.i0 (by simpa using q))
 i1:=fun q => (put_ne (by decide)).trans (h.i1 (by simpa using q))
 i3:=fun q => (put_ne (by decide)).trans (h.i3 (by simpa using q))
 i5:=fun q => (put_ne (by decide)).trans (h.i5 (by simpa using q))
 i6:=fun q => (put_ne (by decide)).trans (h.i6 (by simpa using q))
 i8:=fun q => (put_ne (by decide)).trans (h.i8 (by simpa using q))
 c2:=fun q r => by rw [put_eq (by rw [h.sz];omega)];exact hm
 c4:=fun q => (put_ne (by decide)).trans (h.c4 (by simpa using q))
 c7:=fun q r => by (have q:D 7 = true:=by simpa using q);rw [h.e4 (h.e7 (q))] at hD;cases hD
 c9:=fun q => (put_ne (by decide)).trans (h.c9 (by simpa using q))
theorem rndp_4 {L:List Pb} {A C:List Int} {b:Nat} {v2 v8 va vc vs:Value} {n N:Nat} {W0:World} {D:Nat->Bool} {a:Act} {w w':World} (h:RndP L A C b v2 v8 va vc vs n W0 N D a w) (hN:28 < N) (hD:D 4 = false) (hp:D 2 = true) (hk:Keep W0.heap.size W0 w'):RndP L A C b v2 v8 va vc vs n W0 N (fun j => D j || decide (j = 4)) (a.put (some 28) (.int .i64 (sumI A))) w' where
 sz:=put_sz.trans h.sz
 df:=h.df
 t2:=(put_ne (by decide)).trans h.t2
 t4:=(put_ne (by decide)).trans h.t4
 t6:=(put_ne (by decide)).trans h.t6
 t7:=(put_ne (by decide)).trans h.t7
 t8:=(put_ne (by decide)).trans h.t8
 kp:=hk
 e4:=fun _ => by simp [hp]
 e7:=fun q => by simp
 e9:=fun q => by have:=h.e9 (by simpa using q);simp [this]
 i0:=fun q => (put_ne (by decide)).trans (h.i0 (by simpa using q))
 i1:=fun q => (put_ne (by decide)).trans (h.i1 (by simpa using q))
 i3:=fun q => (put_ne (by decide)).trans (h.i3 (by simpa using q))
 i5:=fun q => (put_ne (by decide)).trans (h.i5 (by simpa using q))
 i6:=fun q => (put_ne (by decide)).trans (h.i6 (by simpa using q))
 i8:=fun q => (put_ne (by decide)).trans (h.i8 (by simpa using q))
 c2:=fun q r => by simp at r
 c4:=fun _ => put_eq (by rw [h.sz];omega)
 c7:=fun q r => by (have q:D 7 = true:=by simpa using q);rw [h.e7 (q)] at hD;cases hD
 c9:=fun q => (put_ne (by decide)).trans (h.c9 (by simpa using q))
theorem rndp_7 {L:List Pb} {A C:List Int} {b:Nat} {v2 v8 va vc vs:Value} {n N:Nat} {W0:World} {D:Nat->Bool} {a:Act} {w w':World} {u:Value} (h:RndP L A C b v2 v8 va vc vs n W0 N D a w) (hN:31 < N) (hD:D 7 = false) (hp:D 4 = true) (hk:Keep W0.heap.size W0 w') (hm:NewB L C W0.heap.size u w'):RndP L A C b v2 v8 va vc vs n W0 N (fun j => D j || decide (j = 7)) (a.put (some 31) u) w' where
 sz:=put_sz.trans h.sz
 df:=h.df
 t2:=(put_ne (by decide)).trans h.t2
 t4:=(put_ne (by decide)).trans h.t4
 t6:=(put_ne (by decide)).trans h.t6
 t7:=(put_ne (by decide)).trans h.t7
 t8:=(put_ne (by decide)).trans h.t8
 kp:=hk
 e4:=fun q => by have:=h.e4 (by simpa using q);simp [this]
 e7:=fun _ => by simp [hp]
 e9:=fun q => by simp
 i0:=fun q => (put_ne (by decide)).trans (h.i0 (by simpa using q))
 i1:=fun q => (put_ne (by decide)).trans (h.i1 (by simpa using q))
 i3:=fun q => (put_ne (by decide)).trans (h.i3 (by simpa using q))
 i5:=fun q => (put_ne (by decide)).trans (h.i5 (by simpa using q))
 i6:=fun q => (put_ne (by decide)).trans (h.i6 (by simpa using q))
 i8:=fun q => (put_ne (by decide)).trans (h.i8 (by simpa using q))
 c2:=fun q r => by (have z:D 4 = true:=hp);simp [z] at r
 c4:=fun q => (put_ne (by decide)).trans (h.c4 (by simpa using q))
 c7:=fun q r => by rw [put_eq (by rw [h.sz];omega)];exact hm
 c9:=fun q => (put_ne (by decide)).trans (h.c9 (by simpa using q))
theorem rndp_9 {L:List Pb} {A C:List Int} {b:Nat} {v2 v8 va vc vs:Value} {n N:Nat} {W0:World} {D:Nat->Bool} {a:Act} {w w':World} (h:RndP L A C b v2 v8 va vc vs n W0 N D a w) (hN:33 < N) (hD:D 9 = false) (hp:D 7 = true) (hk:Keep W0.heap.size W0 w'):RndP L A C b v2 v8 va vc vs n W0 N (fun j => D j || decide (j = 9)) (a.put (some 33) (.int .i64 (sumI C))) w' where
 sz:=put_sz.trans h.sz
 df:=h.df
 t2:=(put_ne (by decide)).trans h.t2
 t4:=(put_ne (by decide)).trans h.t4
 t6:=(put_ne (by decide)).trans h.t6
 t7:=(put_ne (by decide)).trans h.t7
 t8:=(put_ne (by decide)).trans h.t8
 kp:=hk
 e4:=fun q => by have:=h.e4 (by simpa using q);simp [this]
 e7:=fun q => by have:=h.e7 (by simpa using q);simp [this]
 e9:=fun _ => by simp [hp]
 i0:=fun q => (put_ne (by decide)).trans (h.i0 (by simpa using q))
 i1:=fun q => (put_ne (by decide)).trans (h.i1 (by simpa using q))
 i3:=fun q => (put_ne (by decide)).trans (h.i3 (by simpa using q))
 i5:=fun q => (put_ne (by decide)).trans (h.i5 (by simpa using q))
 i6:=fun q => (put_ne (by decide)).trans (h.i6 (by simpa using q))
 i8:=fun q => (put_ne (by decide)).trans (h.i8 (by simpa using q))
 c2:=fun q r => by (have z:D 4 = true:=h.e7 (hp));simp [z] at r
 c4:=fun q => (put_ne (by decide)).trans (h.c4 (by simpa using q))
 c7:=fun q r => by simp at r
 c9:=fun _ => put_eq (by rw [h.sz];omega)
end
end Go.Proofs.Leaf
namespace Go.Proofs.Leaf
open Go Go.RX Go.Proofs Go.RowKit
set_option maxRecDepth 10000
section
theorem sheet_at {I:Nat->Prop} {w:World} {v:Value} {L:List Pb} (h:RepS I w v (.d (.ref 3 (dget (shK L))))):∃ (b1 o1:Nat) (us:Nat->Value),v = .pointer (some ⟨b1,o1,none⟩)/\I b1/\(∀ j,j < 3->w.cell? ⟨b1,o1 + j,none⟩ = some (us j))/\RepS I w (.agg #[us 0,us 1,us 2]) (shS L)/\Rep I w (us 2) (slD 5 taD [()]):=by
 have hm:=mt_d (h (fun _ => none))
 cases hm with
 | ref us q1 q2 q3 =>
  refine ⟨_,_,us,rfl,q1,q2,fun Y => .agg rfl (fun j u s hu hs => ?_) (fun u hu => ?_),q3 2 (by decide)⟩
  ·rcases j with _ | _ | _ | j
   ·cases hu;cases hs;exact .d (q3 0 (by decide))
   ·cases hu;cases hs;exact .d (q3 1 (by decide))
   ·cases hu;cases hs;exact .d (q3 2 (by decide))
   ·simp at hu
  ·simp at hu
   rcases hu with rfl | rfl | rfl
   ·exact (q3 0 (by decide)).one
   ·exact (q3 1 (by decide)).one
   ·exact (q3 2 (by decide)).one
theorem cell_keep {n:Nat} {w w':World} {b o:Nat} (hk:Keep n w w') (hb:b < n):w'.cell? ⟨b,o,none⟩ = w.cell? ⟨b,o,none⟩:=by
 unfold World.cell?
 rw [hk.block b hb (fun e => by cases e)]
theorem three_row {w:World} {b o:Nat} {us:Nat->Value} (h:∀ j,j < 3->w.cell? ⟨b,o + j,none⟩ = some (us j)):w.rangeAt b o [us 0,us 1,us 2]:=fun k u hk => by
 rcases k with _ | _ | _ | k
 ·cases hk;exact h 0 (by decide)
 ·cases hk;exact h 1 (by decide)
 ·cases hk;exact h 2 (by decide)
 ·simp at hk
theorem tariff_at {I:Nat->Prop} {w:World} {v:Value} (h:Rep I w v (slD 5 taD [()])):∃ (b o c:Nat),v = .slice (some ⟨b,o,none⟩) 1 c/\I b/\w.rangeAt b o [.int .i64 3,.int .i64 1,.int .i64 1,.int .i64 1,.bool false]:=by
 change Rep I w v (.sl 5 1 _) at h
 cases h with
 | sl us h1 h2 h3 h4 h5 =>
  rename_i b o c
  refine ⟨b,o,c,rfl,h1,fun k u hk => ?_⟩
  have g:∀ j,j < 5->w.cell? ⟨b,o + j,none⟩ = some (us 0 j):=fun j hj => by have:=h4 0 j (by decide) hj;rwa [Nat.zero_mul,Nat.zero_add] at this
  have e0:=h5 0 0 (by decide) (by decide)
  have e1:=h5 0 1 (by decide) (by decide)
  have e2:=h5 0 2 (by decide) (by decide)
  have e3:=h5 0 3 (by decide) (by decide)
  have e4:=h5 0 4 (by decide) (by decide)
  rcases k with _ | _ | _ | _ | _ | k
  ·cases hk;rw [g 0 (by decide)];congr 1;exact rep_int e0
  ·cases hk;rw [g 1 (by decide)];congr 1;exact rep_int e1
  ·cases hk;rw [g 2 (by decide)];congr 1;exact rep_int e2
  ·cases hk;rw [g 3 (by decide)];congr 1;exact rep_int e3
  ·cases hk;rw [g 4 (by decide)];congr 1
   generalize us 0 4 = u at e4
   change Rep I w u (.bool false) at e4
   cases e4;rfl
  ·simp at hk
theorem c_Total (L:List Pb) (H:List Int) (h1:1<=L.length) (h4:L.length<=4) (hb:∀ b∈L,pbOk b) (hl:H.length = L.length) (hr:∀ i,i < H.length->(L.getD i default).lo<=H.getD i default/\H.getD i default<=(L.getD i default).hi) (hH:∀ x∈H,0<=x/\x<=6) :
  Ctr Try.prog 13 [shS L,iS 0,ilS H] (.tup [iS (sumI H),iS 0]):=by
 refine Ctr.marks (fn:=Try.f13) rfl rfl rfl rfl rfl rfl (fun I w a _ hI _ hst => ?_)
 dsimp only [args] at hst
 letI:Bas:=⟨I,w⟩
 refine Ok.first hst ?_
 (first|refine qE ?_|refine qD ?_);(simp only [go_sem,↓dP,↓reduceIte];with_reducible and_intros;all_goals first|apply qA|exact qC|skip)
 intro a w1 hst
 show Code.wpIn _ _ _ _ _ _ _
 refine wpIn_seq ?_
 refine Ok.first hst ?_
 (first|refine qE ?_|refine qD ?_);(simp only [go_sem,↓dP,↓reduceIte];with_reducible and_intros;all_goals first|apply qA|exact qC|skip)
 (refine AskI.ret (c_pisOne L h1 h4 hb) ?_;simp only [go_sem,↓dP,↓reduceIte];with_reducible and_intros;all_goals first|apply qA|exact qC|skip)
 (refine AskGI.ret (fun _ => c_areHours L H hl h4 hr) ?_;simp only [go_sem,↓dP,↓reduceIte];with_reducible and_intros;all_goals first|apply qA|exact qC|skip)
 intro a w1 hst
 show Code.wpIn _ _ _ _ _ _ _
 refine hand_cond hst rfl (fun hb => by simp at hb) (fun _ => ?_)
 refine wpIn_skip ?_
 show Code.wpIn _ _ _ _ _ _ _
 have hst:=hst.sealt 3 0 rfl rfl rfl
 obtain ⟨I1,bl,i1,i2,i3,_,hkeep,hdf,hsz,hdat,_,hptr,hbox⟩:=hst.parked rfl hI
 have hdf:a.defers = []:=hdf
 have g3:RepS I1 w1 (a.tmps.getD 3 undef) (.d (.ref 3 (dget (shK L)))):=hdat 3 _ rfl
 have g2:RepS I1 w1 (a.tmps.getD 2 undef) (ilS H):=hdat 2 _ rfl
 have g1:a.tmps.getD 1 undef = .int .i64 0:=rep_int (mt_d ((hdat 1 _ rfl) (fun _ => none)))
 obtain ⟨v3,hv3⟩:∃ v3,a.tmps.getD 3 undef = v3:=⟨_,rfl⟩
 obtain ⟨vh,hvh⟩:∃ vh,a.tmps.getD 2 undef = vh:=⟨_,rfl⟩
 rw [hv3] at g3
 rw [hvh] at g2
 obtain ⟨b1,o1,us1,e1,hI1,hc1,hvs,ht2⟩:=sheet_at g3
 obtain ⟨bt,ot,ct,et,hIt,hct⟩:=tariff_at ht2
 refine wpIn_seq ?_
 obtain ⟨W0,hW0⟩:∃ W0,W0 = { w1 with drawn:=w1.drawn + 1 }:=⟨_,rfl⟩
 have hk0:Keep w1.heap.size w1 W0:=by rw [hW0];exact ⟨rfl,rfl,rfl,Nat.le_refl _,fun _ _ _ => rfl,fun h => h⟩
 have hsz0:W0.heap.size = w1.heap.size:=by rw [hW0]
 refine region_inv 9 rfl (by decide) rfl (RndT L H v3 vh (.agg #[us1 0,us1 1,us1 2]) (.pointer (some ⟨b1,o1 + 2,none⟩)) (us1 2) (.pointer (some ⟨bt,ot,none⟩)) 0 W0 Try.f13.ntmps) ?hV ?hQ ?h0
 case h0 =>
  rw [← hW0]
  exact ⟨hsz,hdf,g1,hvh,hv3,Keep.refl _ _,(fun q => by cases q),(fun q => by cases q),(fun q => by cases q),(fun q => by cases q),(fun q => by cases q),(fun q => by cases q),(fun q => by cases q),(fun q => by cases q),(fun q => by cases q),(fun q => by cases q)⟩
 case hV =>
  intro D j o hj hD ho hr a3 W3 hv
  have hkw:Keep w1.heap.size w1 W3:=hk0.trans (hsz0 ▸ hv.kp)
  rcases j with _ | _ | _ | _ | _ | _ | _ | _ | _ | j
  ·cases ho
   refine op_val (v:=.agg #[us1 0,us1 1,us1 2]) (w':=W3) rfl (fun c e => by cases e) (run_load_op rfl (hv.t3.trans e1) (run_load_row (ag:=true) (n:=3) Tryz_ldT_59 (us:=[us1 0,us1 1,us1 2]) rfl (three_row (fun k hk => ?_)))) (rndt_0 hv (by decide) hD)
   rw [cell_keep hkw (i3 b1 hI1)];exact hc1 k hk
  ·cases ho
   exact op_val (w':=W3) rfl (fun c e => by cases e) (run_move (.inl rfl) hv.t2) (rndt_1 hv (by decide) hD)
  ·cases ho
   have d0:D 0 = true:=hr { on:=0,ground:=.data } (by simp) rfl
   have d1:D 1 = true:=hr { on:=1,ground:=.data } (by simp) rfl
   have hx:(#[Operand.tmp 18,Operand.tmp 19]:Array Operand).map a3.eval = #[.agg #[us1 0,us1 1,us1 2],vh]:=by
    have q1:a3.eval (.tmp 18) = _:=hv.i0 d0
    have q2:a3.eval (.tmp 19) = _:=hv.i1 d1
    simp only [List.map_toArray,List.map_cons,List.map_nil,q1,q2]
   have hs3:=hkw.size
   refine op_callFn (fn:=Try.f39) rfl rfl rfl rfl hx (mkBill L H I1 W3 _ (fun c hc => by have:=i3 c hc;omega) rfl (fun k u s hu hs => ?_)) (fun e w2 hq => ?_)
   ·rcases k with _ | _ | k
    ·cases hu;cases hs;exact hvs.same i3 hkw
    ·cases hu;cases hs;exact g2.same i3 hkw
    ·simp at hs
   ·obtain ⟨u,m,I3,rfl,hk2,j1,j2,hmI,hm1,hm2,hmm,hru⟩:=hq
    have hkp:=hv.kp.size
    refine ⟨u,rfl,rndt_2 hv (by decide) hD (hv.kp.trans (hk2.mono hkp)) ⟨m,I3,by omega,fun c hc => ?_,hmI,hmm,hru⟩⟩
    rcases j2 c hc with q | q
    ·have:=i3 c q;have:=hk2.size;omega
    ·exact q.2
  ·cases ho
   exact op_val (w':=W3) rfl (fun c e => by cases e) (run_field_op (b:=b1) (p:=o1) rfl (hv.t3.trans e1) Tryz_fldT_59_2) (rndt_3 hv (by decide) hD)
  ·cases ho
   have d3:D 3 = true:=hr { on:=3,ground:=.data } (by simp) rfl
   refine op_val (v:=us1 2) (w':=W3) rfl (fun c e => by cases e) (run_load_op rfl (hv.i3 d3) (run_load_row (ag:=false) (n:=1) Tryz_ldT_56 (us:=[us1 2]) rfl (fun k u hk => ?_))) (rndt_4 hv (by decide) hD)
   rcases k with _ | k
   ·cases hk;rw [cell_keep hkw (i3 b1 hI1)];exact hc1 2 (by decide)
   ·simp at hk
  ·cases ho
   exact op_val (w':=W3) rfl (fun c e => by cases e) (run_move (.inl rfl) hv.t1) (rndt_5 hv (by decide) hD)
  ·cases ho
   have d4:D 4 = true:=hr { on:=4,ground:=.data } (by simp) rfl
   have d5:D 5 = true:=hr { on:=5,ground:=.data } (by simp) rfl
   refine op_val (w':=W3) rfl (fun c e => by cases e) (run_index_op rfl ((hv.i4 d4).trans et) (hv.i5 d5) Tryz_elT_56 (by decide)) ?_
   rw [add_plain]
   exact rndt_6 hv (by decide) hD
  ·cases ho
   have d6:D 6 = true:=hr { on:=6,ground:=.data } (by simp) rfl
   refine op_val (v:=taV) (w':=W3) rfl (fun c e => by cases e) (run_load_op rfl (hv.i6 d6) (run_load_row (ag:=true) (n:=5) Tryz_ldT_55 (us:=[.int .i64 3,.int .i64 1,.int .i64 1,.int .i64 1,.bool false]) rfl (fun k u hk => ?_))) (rndt_7 hv (by decide) hD)
   rw [cell_keep hkw (i3 bt hIt)];exact hct k u hk
  ·cases ho
   have d2:D 2 = true:=hr { on:=2,ground:=.data } (by simp) rfl
   have d7:D 7 = true:=hr { on:=7,ground:=.data } (by simp) rfl
   have hx:(#[Operand.tmp 20,Operand.tmp 25]:Array Operand).map a3.eval = #[a3.tmps.getD 20 undef,taV]:=by
    have q2:a3.eval (.tmp 25) = _:=hv.i7 d7
    simp only [List.map_toArray,List.map_cons,List.map_nil,q2];rfl
   refine op_callFn (fn:=Try.f40) rfl rfl rfl rfl hx (paid_calls L H hl h4 hH (hv.c2 d2 hD) hv.kp.size) (fun e w2 hq => ?_)
   obtain ⟨rfl,hk2⟩:=hq
   exact ⟨_,rfl,rndt_8 hv (by decide) hD d2 (hv.kp.trans hk2)⟩
  ·omega
 case hQ =>
  intro a3 W3 hv
  have hkw:Keep w.heap.size w W3:=hkeep.trans ((hk0.trans (hsz0 ▸ hv.kp)).mono hkeep.size)
  have hst5:St { env:=[(26,iS (sumI H))],bx:=[],tk:=[] } I Try.f13.ntmps w a3 W3:=by
   refine St.boxes (I:=fun _ => False) [] hv.sz hv.df (fun c hc => hc.elim) (fun b _ e => by cases e) trivial (fun c hc => hc.elim) hkw rfl (fun i i' b hi => by simp at hi) (fun i blk c hi => by simp at hi) (bat_cons (.inl ?_) bat_nil)
   rw [hv.c8 rfl];exact fun Y => .d .int
  (refine RX.hrest hst5 ?h1 ?h2 ?h3 ?_;(case h1 => rfl);(case h2 => rfl);(case h3 => rfl);simp only [go_sem,↓dP,↓reduceIte,bare];with_reducible and_intros;all_goals first|apply qA|exact qC|skip)
  intro a6 w6 hst6
  refine wpIn_ret ?_
  refine ⟨.inl rfl,.inl ⟨_,?_,hst6⟩⟩
  show resOK Try.prog [.tmp 6,.tmp 7] _ _
  ((try dsimp only [thenK,blockK,noGotoK]);simp only [toList_mk,List.toList_toArray,retK_ret,retK_normal,resOK,resV,celV,rowV,frzAll,frzT,subV,subL,go_sem,↓dP,↓reduceIte])
  ((repeat' with_reducible apply And.intro)<;>(first | exact DEq.refl _ | refine DEq.int ?_ | refine DEq.bool ?_ | skip))
end
end Go.Proofs.Leaf
namespace Go.Proofs.Leaf
open Go Go.RX Go.Proofs Go.RowKit
set_option maxRecDepth 10000
section
theorem taref_at {I:Nat->Prop} {w:World} {v:Value} (h:RepS I w v (.d (.ref 5 (dget [iD 3,iD 1,iD 1,iD 1,.bool false])))):∃ (b o:Nat),v = .pointer (some ⟨b,o,none⟩)/\I b/\w.rangeAt b o [.int .i64 3,.int .i64 1,.int .i64 1,.int .i64 1,.bool false]:=by
 have hm:=mt_d (h (fun _ => none))
 cases hm with
 | ref us q1 q2 q3 =>
  refine ⟨_,_,rfl,q1,fun k u hk => ?_⟩
  rcases k with _ | _ | _ | _ | _ | k
  ·cases hk;rw [q2 0 (by decide)];congr 1;exact rep_int (q3 0 (by decide))
  ·cases hk;rw [q2 1 (by decide)];congr 1;exact rep_int (q3 1 (by decide))
  ·cases hk;rw [q2 2 (by decide)];congr 1;exact rep_int (q3 2 (by decide))
  ·cases hk;rw [q2 3 (by decide)];congr 1;exact rep_int (q3 3 (by decide))
  ·cases hk;rw [q2 4 (by decide)];congr 1
   have e4:=q3 4 (by decide)
   generalize us 4 = u at e4
   change Rep I w u (.bool false) at e4
   cases e4;rfl
  ·simp at hk
theorem c_Paid (L:List Pb) (h1:1<=L.length) (h4:L.length<=4) (hb:∀ b∈L,pbOk b):Ctr Try.prog 12 [shS L,iS 0] (.tup [spS (sumI (L.map Pb.lo),sumI (L.map Pb.hi)),iS 0]):=by
 have hA:∀ x∈L.map Pb.lo,0<=x/\x<=6:=fun x hx => by
  obtain ⟨b,hbm,rfl⟩:=List.mem_map.1 hx
  obtain ⟨_,_,q1,q2,q3,_⟩:=hb b hbm
  omega
 have hC:∀ x∈L.map Pb.hi,0<=x/\x<=6:=fun x hx => by
  obtain ⟨b,hbm,rfl⟩:=List.mem_map.1 hx
  obtain ⟨_,_,q1,q2,q3,_⟩:=hb b hbm
  omega
 have hlA:(L.map Pb.lo).length = L.length:=List.length_map ..
 have hlC:(L.map Pb.hi).length = L.length:=List.length_map ..
 have hbo:=c_bounds L h4
 obtain ⟨A,eA⟩:∃ A,L.map Pb.lo = A:=⟨_,rfl⟩
 obtain ⟨C,eC⟩:∃ C,L.map Pb.hi = C:=⟨_,rfl⟩
 rw [eA] at hA hlA hbo ⊢
 rw [eC] at hC hlC hbo ⊢
 refine Ctr.marks (fn:=Try.f12) rfl rfl rfl rfl rfl rfl (fun I w a _ hI _ hst => ?_)
 dsimp only [args] at hst
 letI:Bas:=⟨I,w⟩
 refine Ok.first hst ?_
 (first|refine qE ?_|refine qD ?_);(simp only [go_sem,↓dP,↓reduceIte];with_reducible and_intros;all_goals first|apply qA|exact qC|skip)
 intro a w1 hst
 show Code.wpIn _ _ _ _ _ _ _
 refine wpIn_seq ?_
 refine Ok.first hst ?_
 (first|refine qE ?_|refine qD ?_);(simp only [go_sem,↓dP,↓reduceIte];with_reducible and_intros;all_goals first|apply qA|exact qC|skip)
 (refine AskI.ret (c_pisOne L h1 h4 hb) ?_;simp only [go_sem,↓dP,↓reduceIte];with_reducible and_intros;all_goals first|apply qA|exact qC|skip)
 intro a w1 hst
 show Code.wpIn _ _ _ _ _ _ _
 refine hand_cond hst rfl (fun hb => by simp at hb) (fun _ => ?_)
 refine wpIn_skip ?_
 show Code.wpIn _ _ _ _ _ _ _
 refine Ok.first hst ?_
 (first|refine qE ?_|refine qD ?_);(simp only [go_sem,↓dP,↓reduceIte];with_reducible and_intros;all_goals first|apply qA|exact qC|skip)
 (refine AskI.ret (hbo) ?_;simp only [go_sem,↓dP,↓reduceIte];with_reducible and_intros;all_goals first|apply qA|exact qC|skip)
 intro a w1 hst
 show Code.wpIn _ _ _ _ _ _ _
 refine Ok.first hst ?_
 (first|refine qE ?_|refine qD ?_);(simp only [go_sem,↓dP,↓reduceIte];with_reducible and_intros;all_goals first|apply qA|exact qC|skip)
 intro a w1 hst
 show Code.wpIn _ _ _ _ _ _ _
 have hst:=(hst.sealt 2 0 rfl rfl rfl).sealt 8 2 rfl rfl rfl
 obtain ⟨I1,bl,i1,i2,i3,_,hkeep,hdf,hsz,hdat,_,hptr,hbox⟩:=hst.parked rfl hI
 obtain ⟨n4,l4,o4,cs4,T4,hc4,s4,o41,_⟩:=hbox 1 _ rfl rfl rfl
 have hp4:a.tmps.getD 4 undef = outP (bl 1):=hptr 4 1 0 rfl
 have hdf:a.defers = []:=hdf
 generalize bl 1 = b at *
 have g2:RepS I1 w1 (a.tmps.getD 2 undef) (.d (.ref 3 (dget (shK L)))):=hdat 2 _ rfl
 have g8:RepS I1 w1 (a.tmps.getD 8 undef) (.d (.ref 5 (dget [iD 3,iD 1,iD 1,iD 1,.bool false]))):=hdat 8 _ rfl
 have g6:RepS I1 w1 (a.tmps.getD 6 undef) (ilS A):=hdat 6 _ rfl
 have g7:RepS I1 w1 (a.tmps.getD 7 undef) (ilS C):=hdat 7 _ rfl
 obtain ⟨v2,hv2⟩:∃ v2,a.tmps.getD 2 undef = v2:=⟨_,rfl⟩
 obtain ⟨v8,hv8⟩:∃ v8,a.tmps.getD 8 undef = v8:=⟨_,rfl⟩
 obtain ⟨va,hva⟩:∃ va,a.tmps.getD 6 undef = va:=⟨_,rfl⟩
 obtain ⟨vc,hvc⟩:∃ vc,a.tmps.getD 7 undef = vc:=⟨_,rfl⟩
 rw [hv2] at g2
 rw [hv8] at g8
 rw [hva] at g6
 rw [hvc] at g7
 obtain ⟨b1,o1,us1,e1,hI1,hc1,hvs,_⟩:=sheet_at g2
 obtain ⟨b8,o8,e8,hI8,hc8⟩:=taref_at g8
 refine wpIn_seq ?_
 obtain ⟨W0,hW0⟩:∃ W0,W0 = { w1 with drawn:=w1.drawn + 1 }:=⟨_,rfl⟩
 have hk0:Keep w1.heap.size w1 W0:=by rw [hW0];exact ⟨rfl,rfl,rfl,Nat.le_refl _,fun _ _ _ => rfl,fun h => h⟩
 have hsz0:W0.heap.size = w1.heap.size:=by rw [hW0]
 refine region_inv 10 rfl (by decide) rfl (RndP L A C b v2 v8 va vc (.agg #[us1 0,us1 1,us1 2]) 0 W0 Try.f12.ntmps) ?hV ?hQ ?h0
 case h0 =>
  rw [← hW0]
  exact ⟨hsz,hdf,hv2,hp4,hva,hvc,hv8,Keep.refl _ _,(fun q => by cases q),(fun q => by cases q),(fun q => by cases q),(fun q => by cases q),(fun q => by cases q),(fun q => by cases q),(fun q => by cases q),(fun q => by cases q),(fun q => by cases q),(fun q => by cases q),(fun q => by cases q),(fun q => by cases q),(fun q => by cases q)⟩
 case hV =>
  intro D j o hj hD ho hr a3 W3 hv
  have hkw:Keep w1.heap.size w1 W3:=hk0.trans (hsz0 ▸ hv.kp)
  have hs3:=hkw.size
  have hkp:=hv.kp.size
  have hsheet:∀ k,k < 3->W3.cell? ⟨b1,o1 + k,none⟩ = some (us1 k):=fun k hk => by rw [cell_keep hkw (i3 b1 hI1)];exact hc1 k hk
  have htar:W3.rangeAt b8 o8 [.int .i64 3,.int .i64 1,.int .i64 1,.int .i64 1,.bool false]:=fun k u hk => by rw [cell_keep hkw (i3 b8 hI8)];exact hc8 k u hk
  have hmk:∀ (H:List Int) (vh:Value),RepS I1 w1 vh (ilS H)->Calls Try.prog 39 #[.agg #[us1 0,us1 1,us1 2],vh] W3 (fun e w' => ∃ u,e = .returned u/\Keep W0.heap.size W0 w'/\NewB L H W0.heap.size u w'):=fun H vh hh => by
   refine (mkBill L H I1 W3 _ (fun c hc => by have:=i3 c hc;omega) rfl (fun k u s hu hs => ?_)).mono (fun e w2 hq => ?_)
   ·rcases k with _ | _ | k
    ·cases hu;cases hs;exact hvs.same i3 hkw
    ·cases hu;cases hs;exact hh.same i3 hkw
    ·simp at hs
   ·obtain ⟨u,m,I3,rfl,hk2,j1,j2,hmI,hm1,hm2,hmm,hru⟩:=hq
    refine ⟨u,rfl,hv.kp.trans (hk2.mono hkp),m,I3,by omega,fun c hc => ?_,hmI,hmm,hru⟩
    rcases j2 c hc with q | q
    ·have:=i3 c q;have:=hk2.size;omega
    ·exact q.2
  rcases j with _ | _ | _ | _ | _ | _ | _ | _ | _ | _ | j
  ·cases ho
   exact op_val (v:=.agg #[us1 0,us1 1,us1 2]) (w':=W3) rfl (fun c e => by cases e) (run_load_op rfl (hv.t2.trans e1) (run_load_row (ag:=true) (n:=3) Tryz_ldT_59 (us:=[us1 0,us1 1,us1 2]) rfl (three_row hsheet))) (rndp_0 hv (by decide) hD)
  ·cases ho
   exact op_val (w':=W3) rfl (fun c e => by cases e) (run_move (.inl rfl) hv.t6) (rndp_1 hv (by decide) hD)
  ·cases ho
   have d0:D 0 = true:=hr { on:=0,ground:=.data } (by simp) rfl
   have d1:D 1 = true:=hr { on:=1,ground:=.data } (by simp) rfl
   have hx:(#[Operand.tmp 24,Operand.tmp 25]:Array Operand).map a3.eval = #[.agg #[us1 0,us1 1,us1 2],va]:=by
    have q1:a3.eval (.tmp 24) = _:=hv.i0 d0
    have q2:a3.eval (.tmp 25) = _:=hv.i1 d1
    simp only [List.map_toArray,List.map_cons,List.map_nil,q1,q2]
   refine op_callFn (fn:=Try.f39) rfl rfl rfl rfl hx (hmk A va g6) (fun e w2 hq => ?_)
   obtain ⟨u,rfl,q1,q2⟩:=hq
   exact ⟨u,rfl,rndp_2 hv (by decide) hD q1 q2⟩
  ·cases ho
   exact op_val (v:=taV) (w':=W3) rfl (fun c e => by cases e) (run_load_op rfl (hv.t8.trans e8) (run_load_row (ag:=true) (n:=5) Tryz_ldT_55 (us:=[.int .i64 3,.int .i64 1,.int .i64 1,.int .i64 1,.bool false]) rfl htar)) (rndp_3 hv (by decide) hD)
  ·cases ho
   have d2:D 2 = true:=hr { on:=2,ground:=.data } (by simp) rfl
   have d3:D 3 = true:=hr { on:=3,ground:=.data } (by simp) rfl
   have hx:(#[Operand.tmp 26,Operand.tmp 27]:Array Operand).map a3.eval = #[a3.tmps.getD 26 undef,taV]:=by
    have q2:a3.eval (.tmp 27) = _:=hv.i3 d3
    simp only [List.map_toArray,List.map_cons,List.map_nil,q2];rfl
   refine op_callFn (fn:=Try.f40) rfl rfl rfl rfl hx (paid_calls L A hlA h4 hA (hv.c2 d2 hD) hkp) (fun e w2 hq => ?_)
   obtain ⟨rfl,hk2⟩:=hq
   exact ⟨_,rfl,rndp_4 hv (by decide) hD d2 (hv.kp.trans hk2)⟩
  ·cases ho
   exact op_val (v:=.agg #[us1 0,us1 1,us1 2]) (w':=W3) rfl (fun c e => by cases e) (run_load_op rfl (hv.t2.trans e1) (run_load_row (ag:=true) (n:=3) Tryz_ldT_59 (us:=[us1 0,us1 1,us1 2]) rfl (three_row hsheet))) (rndp_5 hv (by decide) hD)
  ·cases ho
   exact op_val (w':=W3) rfl (fun c e => by cases e) (run_move (.inl rfl) hv.t7) (rndp_6 hv (by decide) hD)
  ·cases ho
   have d5:D 5 = true:=hr { on:=5,ground:=.data } (by simp) rfl
   have d6:D 6 = true:=hr { on:=6,ground:=.data } (by simp) rfl
   have d4:D 4 = true:=hr { on:=4,ground:=.chain } (by simp) rfl
   have hx:(#[Operand.tmp 29,Operand.tmp 30]:Array Operand).map a3.eval = #[.agg #[us1 0,us1 1,us1 2],vc]:=by
    have q1:a3.eval (.tmp 29) = _:=hv.i5 d5
    have q2:a3.eval (.tmp 30) = _:=hv.i6 d6
    simp only [List.map_toArray,List.map_cons,List.map_nil,q1,q2]
   refine op_callFn (fn:=Try.f39) rfl rfl rfl rfl hx (hmk C vc g7) (fun e w2 hq => ?_)
   obtain ⟨u,rfl,q1,q2⟩:=hq
   exact ⟨u,rfl,rndp_7 hv (by decide) hD d4 q1 q2⟩
  ·cases ho
   exact op_val (v:=taV) (w':=W3) rfl (fun c e => by cases e) (run_load_op rfl (hv.t8.trans e8) (run_load_row (ag:=true) (n:=5) Tryz_ldT_55 (us:=[.int .i64 3,.int .i64 1,.int .i64 1,.int .i64 1,.bool false]) rfl htar)) (rndp_8 hv (by decide) hD)
  ·cases ho
   have d7:D 7 = true:=hr { on:=7,ground:=.data } (by simp) rfl
   have d8:D 8 = true:=hr { on:=8,ground:=.data } (by simp) rfl
   have hx:(#[Operand.tmp 31,Operand.tmp 32]:Array Operand).map a3.eval = #[a3.tmps.getD 31 undef,taV]:=by
    have q2:a3.eval (.tmp 32) = _:=hv.i8 d8
    simp only [List.map_toArray,List.map_cons,List.map_nil,q2];rfl
   refine op_callFn (fn:=Try.f40) rfl rfl rfl rfl hx (paid_calls L C hlC h4 hC (hv.c7 d7 hD) hkp) (fun e w2 hq => ?_)
   obtain ⟨rfl,hk2⟩:=hq
   exact ⟨_,rfl,rndp_9 hv (by decide) hD d7 (hv.kp.trans hk2)⟩
  ·omega
 case hQ =>
  intro a3 W3 hv
  have hk13:Keep w1.heap.size w1 W3:=hk0.trans (hsz0 ▸ hv.kp)
  have hkw:Keep w.heap.size w W3:=hkeep.trans (hk13.mono hkeep.size)
  have hst5:St { env:=[(28,iS (sumI A)),(33,iS (sumI C)),(4,.p 0 0)],bx:=[{ frz:=false,xs:=[.any,.any] }],tk:=[] } I Try.f12.ntmps w a3 W3:=by
   refine St.boxes (I:=fun _ => False) [b] hv.sz hv.df (fun c hc => hc.elim) (fun b _ e => by cases e) trivial (fun c hc => hc.elim) hkw rfl (fun i i' b hi hi' => ?_) (fun i blk c hi hc => ?_) (bat_cons (.inl ?_) (bat_cons (.inl ?_) (bat_cons (.inr ⟨0,b,rfl,rfl,hv.t4⟩) bat_nil)))
   ·rcases i with _ | i<;>rcases i' with _ | i'<;>simp at hi hi'<;>rfl
   ·rcases i with _ | i
    ·cases hi;cases hc
     refine ⟨rfl,rfl,n4,fun hc => hc.elim,cs4,T4,?_,s4,fun j u x hu hx => .inl ?_,o41⟩
     ·rw [hk13.block b l4 (fun e => by cases e)];exact hc4
     ·rcases j with _ | _ | j<;>simp at hx<;>exact hx.symm
    ·simp at hi
   ·rw [hv.c4 rfl];exact fun Y => .d .int
   ·rw [hv.c9 rfl];exact fun Y => .d .int
  (refine RX.hrest hst5 ?h1 ?h2 ?h3 ?_;(case h1 => rfl);(case h2 => rfl);(case h3 => rfl);simp only [go_sem,↓dP,↓reduceIte,bare];with_reducible and_intros;all_goals first|apply qA|exact qC|skip)
  intro a6 w6 hst6
  refine wpIn_ret ?_
  refine ⟨.inl rfl,.inl ⟨_,?_,hst6⟩⟩
  show resOK Try.prog [.cell 4 24,.tmp 5] _ _
  ((try dsimp only [thenK,blockK,noGotoK]);simp only [toList_mk,List.toList_toArray,retK_ret,retK_normal,resOK,resV,celV,rowV,frzAll,frzT,subV,subL,go_sem,↓dP,↓reduceIte])
  ((repeat' with_reducible apply And.intro)<;>(first | exact DEq.refl _ | refine DEq.int ?_ | refine DEq.bool ?_ | skip))
end
end Go.Proofs.Leaf
namespace Go.Proofs.Leaf
open Go Go.RX Go.Proofs
set_option maxRecDepth 10000
section
def stOf (s:Int×Int):Stk:=⟨0,false,s.1,s.2,[]⟩
def pbOf (s:Int×Int):Pb:=⟨0,0,s.1,s.2,0⟩
def spB (S:List (Int×Int)):Bk:=⟨0,[0],S.map stOf⟩
def spOk (s:Int×Int):Prop:=1<=s.1/\s.1<=s.2/\s.2<=6
theorem spB_at {S:List (Int×Int)} {i:Nat} (h:i < S.length):(spB S).ss.getD i default = stOf (S.getD i default):=by
 simp [spB,List.getD_eq_getElem?_getD,h]
theorem spB_ok {S:List (Int×Int)} (h1:1<=S.length) (h4:S.length<=4) (h:∀ s∈S,spOk s):(spB S).ok:=by
 have hl:(spB S).ss.length = S.length:=by simp [spB]
 refine ⟨by simp [spB],by simp [spB],by simp [spB],by simp [spB],by omega,by omega,fun k hk => ?_,by simp [spB]⟩
 rw [spB_at (by omega)]
 obtain ⟨q1,q2,q3⟩:=h _ (getD_mem (i:=k) (by omega))
 exact ⟨by simp [stOf],by simp [stOf,spB],by simp only [stOf];omega,by simp only [stOf];omega,by simp only [stOf];omega,by simp only [stOf];omega,by simp [stOf],fun i hi => by simp [stOf] at hi,fun i hi => by simp [stOf] at hi⟩
theorem zero_plans:∀ (ss:List Stk) (now:List Int),plansB 0 ss now = [now ++ List.replicate ss.length 0]
 | [],now => by simp [plansB]
 | s :: r,now => by
  rw [plansB]
  have e:(List.range (if s.rd then 1 else ((0:Int) + 1).toNat)).map (fun (i:Nat) => (i:Int)) = [0]:=by cases s.rd<;>decide
  rw [e,List.flatMap_cons,List.flatMap_nil,List.append_nil,zero_plans r (now ++ [0]),List.length_cons,List.replicate_succ]
  simp
theorem spB_bests (S:List (Int×Int)):bestsB (spB S) = [List.replicate S.length 0]:=by
 unfold bestsB
 have e:plansB (spB S).ap (spB S).ss [] = [List.replicate S.length 0]:=by
  show plansB 0 (S.map stOf) [] = _
  rw [zero_plans,List.length_map];rfl
 rw [e]
 simp
def tmOf (most:Bool) (S:List (Int×Int)):List Int:=S.map (fun s => if most then s.2 else s.1)
theorem tmOf_len (most:Bool) (S:List (Int×Int)):(tmOf most S).length = S.length:=by simp [tmOf]
theorem zero_at (n i:Nat):(List.replicate n (0:Int)).getD i 0 = 0:=by
 rw [List.getD_eq_getElem?_getD,List.getElem?_replicate]
 split<;>rfl
theorem zero_bef (n:Nat):∀ i,befB (List.replicate n 0) i = if i = 0 then none else some (i - 1)
 | 0 => rfl
 | i + 1 => by
  rw [if_neg (by omega)]
  exact rev_find (p:=fun j => (List.replicate n (0:Int)).getD j 0 == (List.replicate n (0:Int)).getD (i + 1) 0) (by rw [zero_at,zero_at];rfl) (by omega) (fun k h1 h2 => by omega)
theorem sumI_nn {l:List Int} (h:∀ x∈l,0<=x):0<=sumI l:=by
 induction l using revRec with
 | nil => simp [sumI]
 | append_singleton l x ih =>
  have h1:=ih (fun y hy => h y (by simp [hy]))
  have h2:=h x (by simp)
  rw [sumI_snoc];omega
theorem spB_ends {S:List (Int×Int)} (h:∀ s∈S,spOk s) (most:Bool):∀ k,k<=S.length->endsB (spB S) (List.replicate S.length 0) most k = (List.range k).map (fun i => sumI ((tmOf most S).take (i + 1)))
 | 0,_ => rfl
 | k + 1,hk => by
  have ih:=spB_ends h most k (by omega)
  have hk':k < S.length:=by omega
  have hpos:∀ x∈tmOf most S,0<=x:=fun x hx => by
   obtain ⟨s,hs,rfl⟩:=List.mem_map.1 hx
   obtain ⟨q1,q2,q3⟩:=h s hs
   cases most
   ·simp;omega
   ·simp;omega
  rw [endsB,List.range_succ,List.map_append,← ih]
  congr 1
  show [stepE _ _ _ _ _] = [_]
  congr 1
  unfold stepE
  rw [spB_at hk',zero_bef,ih]
  have ht:(tmOf most S).getD k default = if most then (S.getD k default).2 else (S.getD k default).1:=by
   simp [tmOf,List.getD_eq_getElem?_getD,hk']
  have htk:sumI ((tmOf most S).take (k + 1)) = sumI ((tmOf most S).take k) + (tmOf most S).getD k default:=by
   rw [getD_take (by rw [tmOf_len];exact hk'),sumI_snoc]
  have hnn:0<=sumI ((tmOf most S).take k):=sumI_nn (fun x hx => hpos x (List.mem_of_mem_take hx))
  have hprev:(match (if k = 0 then none else some (k - 1)) with | some i => ((List.range k).map (fun i => sumI ((tmOf most S).take (i + 1)))).getD i 0 | none => 0) = sumI ((tmOf most S).take k):=by
   by_cases h0:k = 0
   ·subst h0;simp [sumI]
   ·rw [if_neg h0]
    dsimp only
    rw [List.getD_eq_getElem?_getD,List.getElem?_map,List.getElem?_range (by omega)]
    simp only [Option.map_some,Option.getD_some]
    rw [show k - 1 + 1 = k by omega]
  have hprev2:=hprev
  show _ = sumI (List.take (k + 1) (tmOf most S))
  rw [htk,ht]
  simp only [stOf,List.map_nil]
  by_cases h0:k = 0
  ·subst h0
   cases most<;>simp [lastB,sumI]
  ·rw [if_neg h0] at hprev ⊢
   dsimp only at hprev ⊢
   rw [hprev]
   show lastB [_] + _ = _
   have:lastB [sumI ((tmOf most S).take k)] = sumI ((tmOf most S).take k):=by simp [lastB];omega
   rw [this]
theorem spB_last {S:List (Int×Int)} (h:∀ s∈S,spOk s) (most:Bool):lastB (endsB (spB S) (List.replicate S.length 0) most S.length) = sumI (tmOf most S):=by
 rw [spB_ends h most S.length (Nat.le_refl _)]
 have hpos:∀ x∈tmOf most S,0<=x:=fun x hx => by
  obtain ⟨s,hs,rfl⟩:=List.mem_map.1 hx
  obtain ⟨q1,q2,q3⟩:=h s hs
  cases most
  ·simp;omega
  ·simp;omega
 have key:∀ k,k<=S.length->lastB ((List.range k).map (fun i => sumI ((tmOf most S).take (i + 1)))) = sumI ((tmOf most S).take k):=by
  intro k
  induction k with
  | zero => intro _;rfl
  | succ k ih =>
   intro hk
   rw [List.range_succ,List.map_append,List.map_singleton,lastB_snoc,ih (by omega)]
   have htk:sumI ((tmOf most S).take (k + 1)) = sumI ((tmOf most S).take k) + (tmOf most S).getD k default:=by
    rw [getD_take (by rw [tmOf_len];omega),sumI_snoc]
   have:=hpos _ (getD_mem (i:=k) (l:=tmOf most S) (by rw [tmOf_len];omega))
   omega
 have:=key S.length (Nat.le_refl _)
 rwa [List.take_of_length_le (by rw [tmOf_len];exact Nat.le_refl _)] at this
end
end Go.Proofs.Leaf
namespace Go.Proofs.Leaf
open Go Go.RX Go.Proofs Go.RowKit
set_option maxRecDepth 100000
def sts (n:Nat):List Stk:=List.replicate n ⟨0,false,1,1,[]⟩
section
theorem snoc_E {α:Type} [Inhabited α] {f:α->Nat->DV} {o:List α} {x:α} {k:Nat} {ys:List DV} (h:∀ c,c < k->DEq (dget ys c) (f x c)):∀ a c,a < o.length + 1->c < k ->
  DEq (if a < o.length then f (o.getD a default) c else dget ys ((a - o.length) * k + c)) (f ((o ++ [x]).getD a default) c):=by
 intro a c ha hc
 by_cases e:a < o.length
 ·rw [if_pos e,List.getD_eq_getElem?_getD (l:=o ++ [x]),List.getElem?_append_left e,← List.getD_eq_getElem?_getD]
  exact .refl _
 ·have e2:a = o.length:=by omega
  subst e2
  rw [if_neg e,Nat.sub_self,Nat.zero_mul,Nat.zero_add,List.getD_eq_getElem?_getD (l:=o ++ [x]),List.getElem?_append_right (Nat.le_refl _),Nat.sub_self]
  exact h c hc
end
end Go.Proofs.Leaf
namespace Go.Proofs.Leaf
open Go Go.RX Go.Proofs Go.RowKit
set_option maxRecDepth 100000
section
theorem run_zeros {n:Nat} (hn:n<=1000) (w:World):∃ cs:Array Value,(Instr.makeSlice 32 (.int .i64 n) (.int .i64 n)).run Try.prog w = .ok (.slice (some ⟨w.heap.size,0,none⟩) n n) (w.alloc (.cells cs 3))/\∀ j,j < n->cs[j]? = some (.int .i64 0):=by
 obtain ⟨ie,hie,hz,hs,hb⟩:∃ ie,Try.prog.info? 3 = some ie/\ie.zero = some (.int .i64 0)/\ie.size = 1/\ie.bytes = 8:=⟨_,rfl,by kernel_rfl,by kernel_rfl,by kernel_rfl⟩
 have h:=run_makeSlice (w:=w) 32 3 ie (.int .i64 0) Try.underlying32 hie hz .i64 .i64 n n (by omega) (Int.le_refl _) (by rw [hs];omega) (by rw [hb];omega) (by omega)
 rw [Int.toNat_natCast,hs,Nat.mul_one] at h
 refine ⟨_,h,fun j hj => ?_⟩
 have e:(Value.int .i64 0).cells = #[Value.int .i64 0]:=rfl
 rw [e]
 unfold madeCells
 simp [hj]
 have:j % 1 = 0:=Nat.mod_one j
 simp [this]
theorem St.zeros [Rnd] {N:Nat} {σ:Sy} {I0:Nat->Prop} {w0 w:World} {a:Act} {d n:Nat} {cs:Array Value} (hs:St σ I0 N w0 a w) (hd:d < N) (hn:n<=1000) (hc:∀ j,j < n->cs[j]? = some (.int .i64 0)) (hfr:∀ p∈Dfr.fr,p.1 ≠ d:=by exact fun p hp => by cases hp) :
  St { env:=(d,ilS (List.replicate n 0)) :: σ.env,bx:=σ.bx,tk:=σ.tk } I0 N w0 (a.put (some d) (.slice (some ⟨w.heap.size,0,none⟩) n n)) (w.alloc (.cells cs 3)):=by
 intro Y
 obtain ⟨I,β,τ,h⟩:=hs Y
 have hq:=h.quiet (w':=w.alloc (.cells cs 3)) (dst:=some d) (h.keep ((Below.refl _ w).alloc (Nat.le_refl _) _)) (fun d' e => by cases e;exact ⟨hd,hfr⟩) (v:=.slice (some ⟨w.heap.size,0,none⟩) n n) (V:=ilS (List.replicate n 0)) ?_
 ·refine ⟨fun b => I b∨(w.heap.size<=b/\b < (w.alloc (.cells cs 3)).heap.size),β,τ,?_⟩
  rwa [upd_lk] at hq
 ·have hl:(List.replicate n (0:Int)).length = n:=by simp
  refine .d ?_
  show Rep _ _ _ (.sl 1 (List.replicate n (0:Int)).length _)
  rw [hl]
  refine .sl (fun i j => .int .i64 0) (.inr ⟨Nat.le_refl _,by simp⟩) (Nat.le_refl _) (by simp only [maxLen];omega) (fun i j hi hj => ?_) (fun i j hi hj => ?_)
  ·have:j = 0:=by omega
   subst this
   rw [Nat.mul_one,Nat.add_zero,Nat.zero_add,World.cell?_alloc_new]
   exact hc i hi
  ·have:j = 0:=by omega
   subst this
   have e:(List.replicate n (0:Int)).getD i default = 0:=zero_at n i
   rw [e]
   exact .int
abbrev hrOf (h:Int):Int×Int:=(h,h)
theorem hr_tm (most:Bool) (H:List Int):tmOf most (H.map hrOf) = H:=by
 unfold tmOf
 rw [List.map_map]
 cases most<;>simp [Function.comp_def]
theorem law_Wages (S:List (Int×Int)) (hS:S.length<=maxLen) (H:List Int) (hHl:H.length<=maxLen):Ctr Try.prog 4 [.d (slD 2 spnD S),ilS H] (bS true):=by
 have hmx:maxLen<=9223372036854775807:=by decide
 (refine Ctr.mk (fn:=Try.f4) rfl rfl rfl rfl rfl Try.results4 ?_;intro _;dsimp only [args,List.toList_toArray])
 (first|refine qE ?_|refine qD ?_);(simp only [go_sem,↓dP,↓reduceIte];with_reducible and_intros;all_goals first|apply qA|exact qC|skip)
 (first|refine qE ?_|refine qD ?_);(simp only [go_sem,↓dP,↓reduceIte];with_reducible and_intros;all_goals first|apply qA|exact qC|skip)
 refine Ok.seq ?_
 (first|refine qE ?_|refine qD ?_);(simp only [go_sem,↓dP,↓reduceIte];with_reducible and_intros;all_goals first|apply qA|exact qC|skip)
 refine Ok.cond rfl ?_ ?_
 ·intro _
  (first|refine qE ?_|refine qD ?_);(simp only [go_sem,↓dP,↓reduceIte];with_reducible and_intros;all_goals first|apply qA|exact qC|skip)
  (refine AskI.ret (c_known) ?_;simp only [go_sem,↓dP,↓reduceIte];with_reducible and_intros;all_goals first|apply qA|exact qC|skip)
  (refine Ok.ret ?_;(try dsimp only [thenK,blockK,noGotoK]);simp only [toList_mk,List.toList_toArray,retK_ret,retK_normal,resOK,resV,celV,rowV,frzAll,frzT,subV,subL,go_sem,↓dP,↓reduceIte])
  ((repeat' with_reducible apply And.intro)<;>(first | exact DEq.refl _ | refine DEq.int ?_ | refine DEq.bool ?_ | skip))
 intro hs
 (refine Ok.skip ?_;(try dsimp only [thenK,blockK,noGotoK]))
 simp only [Bool.or_eq_false_iff,decide_eq_false_iff_not] at hs
 obtain ⟨⟨a1,a2⟩,a3⟩:=hs
 obtain ⟨n,hn⟩:∃ n,S.length = n:=⟨_,rfl⟩
 have a3:H.length = n:=by
  have:¬ (H.length:Int) ≠ (S.length:Int):=by simpa using a3
  omega
 rw [hn] at a1 a2 ⊢
 (first|refine qE ?_|refine qD ?_);(simp only [go_sem,↓dP,↓reduceIte];with_reducible and_intros;all_goals first|apply qA|exact qC|skip)
 (first|refine qE ?_|refine qD ?_);(simp only [go_sem,↓dP,↓reduceIte];with_reducible and_intros;all_goals first|apply qA|exact qC|skip)
 (first|refine qE ?_|refine qD ?_);(simp only [go_sem,↓dP,↓reduceIte];with_reducible and_intros;all_goals first|apply qA|exact qC|skip)
 refine Ok.seq ?_
 (first|refine qE ?_|refine qD ?_);(simp only [go_sem,↓dP,↓reduceIte];with_reducible and_intros;all_goals first|apply qA|exact qC|skip)
 refine Ok.block ?_
 obtain ⟨sts,hsts⟩:∃ f:Nat->List Stk,f = fun i => (S.take i).map stOf:=⟨_,rfl⟩
 obtain ⟨hts,hhts⟩:∃ f:Nat->List Stk,f = fun i => ((H.take i).map hrOf).map stOf:=⟨_,rfl⟩
 obtain ⟨pbs,hpbs⟩:∃ f:Nat->List Pb,f = fun i => (S.take i).map pbOf:=⟨_,rfl⟩
 refine Ok.count n (fun i => ⟨[(0,.d (slD 2 spnD S)),(1,ilS H),(5,iS n),(6,.p 0 0),(7,.p 1 0),(8,.p 2 0),(9,iS i)],
   [{ frz:=false,xs:=[iS 0,ilS [0],.tk 0] },{ frz:=false,xs:=[iS 0,ilS [0],.tk 1] },{ frz:=false,xs:=[ilS [0],.tk 2,.d (slD 5 taD [()])] }],
   [ownD 39 5 stkD (sts i),ownD 39 5 stkD (hts i),ownD 61 5 pbD (pbs i)]⟩) (fun i => ∀ j,j < i->spOk (S.getD j default)/\(S.getD j default).1<=H.getD j default/\H.getD j default<=(S.getD j default).2) ⟨fun j hj => by omega,?_⟩ ?_ ?_
 ·(refine Sub.of ([0,1,2]) ([none,none,none]) ?_ ?_ ?_ rfl rfl<;>simp only [subB,subB1,subT,subT1,newT,subE,subV,subL,go_sem,↓dP,↓reduceIte]<;>(try (repeat' with_reducible apply And.intro))<;>(try first | exact DEq.refl _ | refine DEq.int ?_ | refine DEq.bool ?_ | omega))
  ·exact litD [0]
  ·exact litD [0]
  ·exact litD [0]
  ·exact sl_list (f:=taD) (l:=[()]) (d:=()) rfl (fun i j hi hj => by
    match i,j,hi,hj with
    | 0,0,_,_ | 0,1,_,_ | 0,2,_,_ | 0,3,_,_ | 0,4,_,_ => exact .refl _)
  ·rw [hsts];rfl
  ·rw [hhts];rfl
  ·rw [hpbs];rfl
 ·intro i hi hv
  have hiS:i < S.length:=by omega
  have hiH:i < H.length:=by omega
  have l1:(sts i).length = i:=by rw [hsts];simp;omega
  have l2:(hts i).length = i:=by rw [hhts];simp;omega
  have l3:(pbs i).length = i:=by rw [hpbs];simp;omega
  have s1:sts (i + 1) = sts i ++ [stOf (S.getD i default)]:=by rw [hsts];dsimp only;rw [getD_take hiS,List.map_append];rfl
  have s2:hts (i + 1) = hts i ++ [stOf (hrOf (H.getD i default))]:=by rw [hhts];dsimp only;rw [getD_take hiH,List.map_append,List.map_append];rfl
  have s3:pbs (i + 1) = pbs i ++ [pbOf (S.getD i default)]:=by rw [hpbs];dsimp only;rw [getD_take hiS,List.map_append];rfl
  obtain ⟨s,hse⟩:∃ s,S.getD i default = s:=⟨_,rfl⟩
  obtain ⟨h,hhe⟩:∃ h,H.getD i default = h:=⟨_,rfl⟩
  rw [hse] at s1 s3
  rw [hhe] at s2
  refine Ok.seq ?_;((first|refine qE ?_|refine qD ?_);(simp only [go_sem,↓dP,↓reduceIte];with_reducible and_intros;all_goals first|apply qA|exact qC|skip));refine Ok.cond rfl (fun _ => ?_) (fun hb => by simp at hb;omega);(refine Ok.skip ?_;(try dsimp only [thenK,blockK,noGotoK]));refine Ok.seq ?_;refine Ok.block ?_
  refine Ok.seq ?_
  (first|refine qE ?_|refine qD ?_);(simp only [go_sem,↓dP,↓reduceIte];with_reducible and_intros;all_goals first|apply qA|exact qC|skip)
  refine Ok.cond rfl ?_ ?_
  ·intro _
   (first|refine qE ?_|refine qD ?_);(simp only [go_sem,↓dP,↓reduceIte];with_reducible and_intros;all_goals first|apply qA|exact qC|skip)
   (refine AskI.ret (c_known) ?_;simp only [go_sem,↓dP,↓reduceIte];with_reducible and_intros;all_goals first|apply qA|exact qC|skip)
   (refine Ok.ret ?_;(try dsimp only [thenK,blockK,noGotoK]);simp only [toList_mk,List.toList_toArray,retK_ret,retK_normal,resOK,resV,celV,rowV,frzAll,frzT,subV,subL,go_sem,↓dP,↓reduceIte])
   ((repeat' with_reducible apply And.intro)<;>(first | exact DEq.refl _ | refine DEq.int ?_ | refine DEq.bool ?_ | skip))
  intro hs
  rw [hse,hhe] at hs
  simp only [Bool.or_eq_false_iff,decide_eq_false_iff_not] at hs
  obtain ⟨⟨⟨⟨b1,b2⟩,b3⟩,b4⟩,b5⟩:=hs
  (refine Ok.skip ?_;(try dsimp only [thenK,blockK,noGotoK]))
  (first|refine qE ?_|refine qD ?_);(simp only [go_sem,↓dP,↓reduceIte];with_reducible and_intros;all_goals first|apply qA|exact qC|skip)
  rw [hse]
  (first|refine qE ?_|refine qD ?_);(simp only [go_sem,↓dP,↓reduceIte];with_reducible and_intros;all_goals first|apply qA|exact qC|skip)
  rw [hhe]
  (refine AskI.ret (c_one20 h) ?_;simp only [go_sem,↓dP,↓reduceIte];with_reducible and_intros;all_goals first|apply qA|exact qC|skip)
  (first|refine qE ?_|refine qD ?_);(simp only [go_sem,↓dP,↓reduceIte];with_reducible and_intros;all_goals first|apply qA|exact qC|skip)
  rw [hse]
  (try dsimp only [thenK,blockK,noGotoK])
  (first|refine qE ?_|refine qD ?_);(simp only [go_sem,↓dP,↓reduceIte];with_reducible and_intros;all_goals first|apply qA|exact qC|skip)
  (try dsimp only [thenK,blockK,noGotoK])
  refine ⟨fun j hj => ?_,?_⟩
  ·by_cases q:j = i
   ·subst q
    rw [hse,hhe]
    exact ⟨⟨by omega,by omega,by omega⟩,by omega,by omega⟩
   ·exact hv j (by omega)
  ·(refine Sub.of ([0,1,2]) ([some 3,some 4,some 5]) ?_ ?_ ?_ rfl rfl<;>simp only [subB,subB1,subT,subT1,newT,subE,subV,subL,go_sem,↓dP,↓reduceIte]<;>(try (repeat' with_reducible apply And.intro))<;>(try first | exact DEq.refl _ | refine DEq.int ?_ | refine DEq.bool ?_ | omega))
   ·rw [s1];simp
   ·rw [s1]
    exact snoc_E (fun c hc => by
     match c,hc with
     | 0,_ | 1,_ | 2,_ | 3,_ => exact .refl _
     | 4,_ => exact DEq.nils rfl)
   ·rw [s2];simp
   ·rw [s2]
    exact snoc_E (fun c hc => by
     match c,hc with
     | 0,_ | 1,_ | 2,_ | 3,_ => exact .refl _
     | 4,_ => exact DEq.nils rfl)
   ·rw [s3];simp
   ·rw [s3]
    exact snoc_D (fun c hc => by
     match c,hc with
     | 0,_ | 1,_ | 2,_ | 3,_ | 4,_ => rfl)
 ·intro hv
  have t1:sts n = S.map stOf:=by rw [hsts];dsimp only;rw [List.take_of_length_le (by omega)]
  have t2:hts n = (H.map hrOf).map stOf:=by rw [hhts];dsimp only;rw [List.take_of_length_le (by omega)]
  have t3:pbs n = S.map pbOf:=by rw [hpbs];dsimp only;rw [List.take_of_length_le (by omega)]
  rw [t1,t2,t3]
  have vS:∀ s∈S,spOk s:=fun s hs => by
   obtain ⟨j,hj,rfl⟩:=List.mem_iff_getElem.1 hs
   have:=(hv j (by omega)).1
   rwa [getD_lt hj] at this
  have vH:∀ s∈H.map hrOf,spOk s:=fun s hs => by
   obtain ⟨x,hx,rfl⟩:=List.mem_map.1 hs
   obtain ⟨j,hj,rfl⟩:=List.mem_iff_getElem.1 hx
   have:=hv j (by omega)
   rw [getD_lt (l:=H) hj] at this
   obtain ⟨⟨q1,q2,q3⟩,q4,q5⟩:=this
   exact ⟨by show 1<=H[j];omega,Int.le_refl _,by show H[j]<=6;omega⟩
  have hlH:(H.map hrOf).length = n:=by rw [List.length_map];exact a3
  have hB:=spB_ok (S:=S) (by omega) (by omega) vS
  have hX:=spB_ok (S:=H.map hrOf) (by omega) (by omega) vH
  have zr:∀ i,(List.replicate n (0:Int)).getD i default = 0:=zero_at n
  have hbl:(spB S).ss.length = n:=by simp [spB,hn]
  have hxl:(spB (H.map hrOf)).ss.length = n:=by simp [spB,a3]
  have hD:=c_Done (spB S) hB (List.replicate n 0) (by rw [List.length_replicate,hbl]) (fun i hi => by rw [List.length_replicate] at hi;rw [zr,spB_at (by omega)];exact ⟨Int.le_refl _,Int.le_refl _,rfl⟩) (fun i hi => by rw [spB_at (by omega)];rfl)
  have hE:=c_Done (spB (H.map hrOf)) hX (List.replicate n 0) (by rw [List.length_replicate,hxl]) (fun i hi => by rw [List.length_replicate] at hi;rw [zr,spB_at (by omega)];exact ⟨Int.le_refl _,Int.le_refl _,rfl⟩) (fun i hi => by rw [spB_at (by omega)];rfl)
  have m0:doneB (spB S) (List.replicate n 0) 0 = sumI (tmOf false S):=by unfold doneB;rw [hbl,← hn];exact spB_last vS false
  have m1:doneB (spB S) (List.replicate n 0) 1 = sumI (tmOf true S):=by unfold doneB;rw [hbl,← hn];exact spB_last vS true
  have x0:doneB (spB (H.map hrOf)) (List.replicate n 0) 0 = sumI H:=by
   have:=spB_last vH false
   rw [hr_tm,hlH] at this
   unfold doneB;rw [hxl];exact this
  have x1:doneB (spB (H.map hrOf)) (List.replicate n 0) 1 = sumI H:=by
   have:=spB_last vH true
   rw [hr_tm,hlH] at this
   unfold doneB;rw [hxl];exact this
  rw [m0,m1] at hD
  rw [x0,x1] at hE
  have hpb:∀ b∈S.map pbOf,pbOk b:=fun b hb => by
   obtain ⟨s,hs,rfl⟩:=List.mem_map.1 hb
   obtain ⟨q1,q2,q3⟩:=vS s hs
   exact ⟨rfl,rfl,by show 0<=s.1;omega,q2,q3,rfl⟩
  have hpl:(S.map pbOf).length = n:=by rw [List.length_map];exact hn
  have hP:=c_Paid (S.map pbOf) (by omega) (by omega) hpb
  have p0:(S.map pbOf).map Pb.lo = tmOf false S:=by unfold tmOf;rw [List.map_map];rfl
  have p1:(S.map pbOf).map Pb.hi = tmOf true S:=by unfold tmOf;rw [List.map_map];rfl
  rw [p0,p1] at hP
  have hT:=c_Total (S.map pbOf) H (by omega) (by omega) hpb (by omega) (fun i hi => by
   have e:(S.map pbOf).getD i default = pbOf (S.getD i default):=by simp [List.getD_eq_getElem?_getD,show i < S.length by omega]
   rw [e]
   exact (hv i (by omega)).2) (fun x hx => by
   obtain ⟨q1,q2,q3⟩:=vH (hrOf x) (List.mem_map_of_mem hx)
   exact ⟨by have:1<=x:=q1;omega,q3⟩)
  have hBst:=c_Best (spB S) hB (List.replicate n 0) (by rw [spB_bests,hn];rfl)
  have hlg:longB (spB S) (List.replicate n 0) = sumI (tmOf true S):=by
   unfold longB;rw [hbl,← hn];exact spB_last vS true
  rw [hlg] at hBst
  generalize sumI (tmOf false S) = u at *
  generalize sumI (tmOf true S) = v at *
  generalize sumI H = t at *
  refine Ok.seq ?_;((first|refine qE ?_|refine qD ?_);(simp only [go_sem,↓dP,↓reduceIte];with_reducible and_intros;all_goals first|apply qA|exact qC|skip));refine Ok.cond rfl (fun hb => by simp at hb) (fun _ => ?_);(refine Ok.exit ?_;simp only [thenK_exit,blockK_exit,noGotoK_exit,thenK_normal,blockK_normal,noGotoK_normal,↓reduceIte,Nat.reduceEqDiff])
  refine Ok.seq ?_
  ((first | refine RX.qT 1 ?h1 ?h2 ?h3 ?h4 ?_ | refine RX.qU 1 ?h1 ?h2 ?h3 ?h4 ?_);(case h1 => rfl);(case h2 => rfl);(case h3 => rfl);(case h4 => rfl);simp only [go_sem,↓dP,↓reduceIte];with_reducible and_intros;all_goals first|apply qA|exact qC|skip)
  intro Y a w hinv
  have hst1:=St.of hinv rfl
  obtain ⟨cs,hrun,hcs⟩:=run_zeros (n:=n) (by omega) w
  have e133:a.eval (.tmp 133) = .int .i64 (n:Int):=rep_int (mt_d (hst1.val (t:=133) rfl (fun _ _ _ e => by cases e)).choose_spec.choose_spec.choose_spec.2)
  refine tail_val (v:=.slice (some ⟨w.heap.size,0,none⟩) n n) (w':=w.alloc (.cells cs 3)) rfl (fun c e => by cases e) (by simp only [execOp,e133,Sem.run_bind,hrun,Result.andThen_ok];rfl) ?_
  have hst2:=St.zeros hst1 (d:=134) (n:=n) (by decide) (by omega) hcs
  (refine Ok.rest hst2 ?h1 ?h2 ?h3 ?_;(case h1 => rfl);(case h2 => rfl);(case h3 => rfl);simp only [go_sem,↓dP,↓reduceIte,bare];with_reducible and_intros;all_goals first|apply qA|exact qC|skip;(try dsimp only [thenK,blockK,noGotoK]))
  (first|refine qE ?_|refine qD ?_);(simp only [go_sem,↓dP,↓reduceIte];with_reducible and_intros;all_goals first|apply qA|exact qC|skip)
  (refine AskI.ret (hD) ?_;simp only [go_sem,↓dP,↓reduceIte];with_reducible and_intros;all_goals first|apply qA|exact qC|skip)
  (first|refine qE ?_|refine qD ?_);(simp only [go_sem,↓dP,↓reduceIte];with_reducible and_intros;all_goals first|apply qA|exact qC|skip)
  (refine AskI.ret (hE) ?_;simp only [go_sem,↓dP,↓reduceIte];with_reducible and_intros;all_goals first|apply qA|exact qC|skip)
  (first|refine qE ?_|refine qD ?_);(simp only [go_sem,↓dP,↓reduceIte];with_reducible and_intros;all_goals first|apply qA|exact qC|skip)
  (refine AskI.ret (hP) ?_;simp only [go_sem,↓dP,↓reduceIte];with_reducible and_intros;all_goals first|apply qA|exact qC|skip)
  (first|refine qE ?_|refine qD ?_);(simp only [go_sem,↓dP,↓reduceIte];with_reducible and_intros;all_goals first|apply qA|exact qC|skip)
  (refine AskI.ret (hT) ?_;simp only [go_sem,↓dP,↓reduceIte];with_reducible and_intros;all_goals first|apply qA|exact qC|skip)
  (first|refine qE ?_|refine qD ?_);(simp only [go_sem,↓dP,↓reduceIte];with_reducible and_intros;all_goals first|apply qA|exact qC|skip)
  (refine AskI.ret (hBst) ?_;simp only [go_sem,↓dP,↓reduceIte];with_reducible and_intros;all_goals first|apply qA|exact qC|skip)
  (first|refine qE ?_|refine qD ?_);(simp only [go_sem,↓dP,↓reduceIte];with_reducible and_intros;all_goals first|apply qA|exact qC|skip)
  ·exact stEqSpan
  (refine AskGI.ret (fun _ => c_one20 t) ?_;simp only [go_sem,↓dP,↓reduceIte];with_reducible and_intros;all_goals first|apply qA|exact qC|skip)
  ·exact stEqSpan
  (refine AskGI.ret (fun _ => c_known) ?_;simp only [go_sem,↓dP,↓reduceIte];with_reducible and_intros;all_goals first|apply qA|exact qC|skip)
  (refine Ok.ret ?_;(try dsimp only [thenK,blockK,noGotoK]);simp only [toList_mk,List.toList_toArray,retK_ret,retK_normal,resOK,resV,celV,rowV,frzAll,frzT,subV,subL,go_sem,↓dP,↓reduceIte])
  refine DEq.bool ?_
  simp
end
end Go.Proofs.Leaf
namespace Go.Proofs.Ytmpnbmedikkggaa
open Go Go.RX Go.Proofs.Leaf Go.RowKit Go.ChangeShapes Go.WideShapes Go.ChangeAt
set_option maxRecDepth 100000
theorem topWages_ctr (As:List SV) (h:opensAll [51,32] As):Ctr Try.prog 4 As (bS true):=by
 obtain ⟨_,A1,rfl,h0,h⟩:=opensAll_cons h
 obtain ⟨_,A2,rfl,h1,h⟩:=opensAll_cons h
 obtain rfl:=opensAll_nil h
 obtain ⟨x0,rfl,y0⟩:=opens_spns h0
 obtain ⟨x1,rfl,y1⟩:=opens_ints h1
 exact law_Wages x0 y0 x1 y1
theorem topWages_facts:joinedFacts Try.prog 4 Try.f4 Rows.topWagesSpec Rows.topWagesRow = true:=by unfold joinedFacts;rw [enter_is,final_is,make_is];kernel_rfl
theorem topWages_lifted (os:Os) (started:os.Started) (H:Type) (enc:TypeId×Value->H) :
  ReturnsInHanded {} Try.checked os 4 .any (fun w args => Rows.topWagesSpec.pre enc Try.prog Try.f4 [] false w args/\sizedMet enc Try.prog Try.f4 (OpenSpec.ofChange Rows.topWagesSpec) false w args)
   (Rows.topWagesSpec.post enc Try.prog Try.f4 false true false false):=by
 refine law_ctr (ts:=[51,32]) Rows.topWagesSpec rfl started (by kernel_rfl) Try.func4 (by kernel_rfl) (by rw [Try.params4]) (by unfold argT;decide)
  (fun ds hd => ?_)
  (ChangeSpec.witness_shaped (enc:=enc) (C:=Try.checked) (os:=os) (X:=fun _ _ => True) false (World.laidAll Try.prog os []) #[zL,zL] 8 (World.laidAll_os _ _ _)
   (World.shaped_of_ZipB (by kernel_rfl) (by kernel_rfl)) (by kernel_rfl) (by kernel_rfl) (by kernel_rfl)
   trivial) topWages_ctr
 match ds,hd with
 | [d0,d1],_ => rfl
theorem topWages_row:Rows.TopWagesSaid :=
 OpenClaim.holds_of_wide 4 Try.f4 rfl rfl rfl rfl rfl rfl rfl ⟨rfl,rfl,rfl,rfl,rfl⟩ rfl rfl rfl rfl rfl (by kernel_rfl) Try.func4 topWages_facts (of_decide_eq_true (by kernel_rfl))
  (by unfold Func.isWrapper;first | (rw [if_pos (by decide +kernel)];kernel_rfl) | (rw [if_neg (by decide +kernel)];exact ⟨rfl,rfl⟩)) (fun os started H enc _ => topWages_lifted os started H enc)
end Go.Proofs.Ytmpnbmedikkggaa
