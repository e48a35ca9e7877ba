/-
  leaves that are turned: LeafTurned returns true at every input, and leaves it as it was.
  No condition beside those that the statement itself names.
-/
import Derived.Test.YtdajcfdhcjbmmaaGreatDoorB30
import Derived.ChangeMaps5
set_option linter.all false
namespace Go.Proofs.Leaf
def turnP (p:Piece):Piece:={ p with w:=p.h,h:=p.w }
theorem area_turn:∀ (ps:List Piece) (s:Nat),area (ps.map turnP) s = area ps s
 | [],_ => rfl
 | p :: ps,s => by
  rw [List.map_cons,area,area,area_turn ps]
  show (if s % 2 = 1 then p.h * p.w else 0) + _ = _
  rw [Int.mul_comm p.h p.w]
theorem can_turn {ps:List Piece}:∀ (k w h s:Nat),w + h<=k->can ps w h s = true->can (ps.map turnP) h w s = true:=by
 intro k
 have one:∀ (w h s:Nat),s ≠ 0->single s = true->can ps w h s = true->can (ps.map turnP) h w s = true:=by
  intro w h s h0 h1 hc
  obtain ⟨n,hn,e,ha⟩:=(can_one h0 h1).1 hc
  refine (can_one h0 h1).2 ⟨n,by simpa using hn,e,?_⟩
  have hg:(ps.map turnP).getD n default = turnP (ps.getD n default):=by
   rw [List.getD_eq_getElem?_getD,List.getElem?_map,List.getElem?_eq_getElem hn]
   simp [List.getD_eq_getElem?_getD,hn]
  rw [hg]
  generalize ps.getD n default = p at ha ⊢
  simp only [alone,turnP,Bool.or_eq_true,Bool.and_eq_true,decide_eq_true_eq] at ha ⊢
  rcases ha with ⟨h1,h2⟩ | ⟨⟨h0,h1⟩,h2⟩
  ·exact .inl ⟨decide_eq_true h2,decide_eq_true h1⟩
  ·exact .inr ⟨⟨h0,decide_eq_true h2⟩,decide_eq_true h1⟩
 induction k with
 | zero =>
  intro w h s hk hc
  by_cases h0:s = 0
  ·subst h0;exact can_zero ..
  ·cases h1:single s with
   | true => exact one w h s h0 h1 hc
   | false => obtain ⟨_,⟨n,_,_,hn,_⟩ | ⟨n,_,_,hn,_⟩⟩:=(can_more h0 h1).1 hc<;>omega
 | succ k ih =>
  intro w h s hk hc
  by_cases h0:s = 0
  ·subst h0;exact can_zero ..
  ·cases h1:single s with
   | true => exact one w h s h0 h1 hc
   | false =>
    obtain ⟨ha,hx⟩:=(can_more h0 h1).1 hc
    refine (can_more h0 h1).2 ⟨by rw [area_turn,Int.mul_comm];exact ha,?_⟩
    rcases hx with ⟨n,t,q1,q2,q3,q4,q5⟩ | ⟨n,t,q1,q2,q3,q4,q5⟩
    ·exact .inr ⟨n,t,q1,q2,q3,ih n h t (by omega) q4,ih (w - n) h _ (by omega) q5⟩
    ·exact .inl ⟨n,t,q1,q2,q3,ih w n t (by omega) q4,ih w (h - n) _ (by omega) q5⟩
theorem turn_turn (ps:List Piece):(ps.map turnP).map turnP = ps:=by
 rw [List.map_map]
 have:turnP ∘ turnP = id:=by funext p;rfl
 rw [this,List.map_id]
theorem can_turned (ps:List Piece) (w h s:Nat):can (ps.map turnP) h w s = can ps w h s:=by
 rw [Bool.eq_iff_iff]
 constructor
 ·intro hc
  have:=can_turn (h + w) h w s (Nat.le_refl _) hc
  rwa [turn_turn] at this
 ·exact can_turn (w + h) w h s (Nat.le_refl _)
end Go.Proofs.Leaf
namespace Go.Proofs.Leaf
theorem sizesA_sorted (w h a:Nat):(sizesA w h a).Pairwise larger:=by
 rw [sizesA,List.pairwise_filterMap]
 refine List.pairwise_lt_range.imp_of_mem (fun {i j} hi hj hlt x hx y hy => ?_)
 have hj:=List.mem_range.1 hj
 simp only [Option.ite_none_right_eq_some,Option.some.injEq] at hx hy
 obtain ⟨⟨h1,_⟩,rfl⟩:=hx
 obtain ⟨⟨h2,_⟩,rfl⟩:=hy
 refine .inr ⟨?_,?_⟩
 ·show (w - i) * (a / (w - i)) = (w - j) * (a / (w - j))
  rw [Nat.mul_comm,h1,Nat.mul_comm,h2]
 ·show w - j < w - i
  omega
theorem sizes_sorted (w h:Nat):(sizesL w h).Pairwise larger:=by
 rw [sizesL,List.pairwise_flatMap]
 refine ⟨fun i _ => sizesA_sorted _ _ _,List.pairwise_lt_range.imp_of_mem (fun {i j} hi hj hlt x hx y hy => ?_)⟩
 have hj:=List.mem_range.1 hj
 have h1:=(mem_sizesA.1 hx).2.2.2
 have h2:=(mem_sizesA.1 hy).2.2.2
 rw [Nat.mul_comm] at h1 h2
 exact .inl (by omega)
theorem find_sorted {α:Type} {r:α->α->Prop} {L:List α} {q:α->Bool} (hs:L.Pairwise r) {x:α} (hx:L.find? q = some x) {y:α} (hy:y∈L) (hq:q y = true):y = x∨r x y:=by
 rw [List.find?_eq_some_iff_append] at hx
 obtain ⟨_,as1,bs,rfl,hno⟩:=hx
 rcases List.mem_append.1 hy with h1 | h1
 ·have:=hno y h1
  rw [hq] at this;cases this
 ·rcases List.mem_cons.1 h1 with rfl | h1
  ·exact .inl rfl
  ·exact .inr ((List.pairwise_cons.1 (List.pairwise_append.1 hs).2.1).1 y h1)
end Go.Proofs.Leaf
namespace Go.Proofs.Leaf
open Go Go.RX Go.Proofs
set_option maxRecDepth 10000
variable [Glob]
theorem c_rin (n lo hi:Int):Ctr Tryz.prog 50 [iS n,iS lo,iS hi] (bS (inB n lo hi)):=by
 (refine Ctr.mk (fn:=Tryz.f50) rfl rfl rfl rfl rfl Tryz.results50 ?_;intro _;dsimp only [args,List.toList_toArray])
 (first|refine qE ?_|refine qD ?_);(simp only [go_sem,↓dP,↓reduceIte];with_reducible and_intros;all_goals first|apply qA|exact qC|skip)
 (first|refine qE ?_|refine qD ?_);(simp only [go_sem,↓dP,↓reduceIte];with_reducible and_intros;all_goals first|apply qA|exact qC|skip)
 (refine Ok.ret ?_;(try dsimp only [thenK,blockK,noGotoK]);simp only [toList_mk,List.toList_toArray,retK_ret,retK_normal,resOK,resV,celV,rowV,frzAll,frzT,subV,subL,go_sem,↓dP,↓reduceIte])
 exact .refl _
end Go.Proofs.Leaf
namespace Go.Proofs.Leaf
open Go Go.RX Go.Proofs
set_option maxRecDepth 10000
variable [Glob]
theorem c_rPiece (J:Job) (hh:J.ps.length < 1000000) (n:Int):Ctr Tryz.prog 15 [J.sv,iS n] (bS (inB n 0 (J.ps.length - 1))):=by
 (refine Ctr.mk (fn:=Tryz.f15) rfl rfl rfl rfl rfl Tryz.results15 ?_;intro _;dsimp only [args,List.toList_toArray])
 (first|refine qE ?_|refine qD ?_);(simp only [go_sem,↓dP,↓reduceIte];with_reducible and_intros;all_goals first|apply qA|exact qC|skip)
 (first|refine qE ?_|refine qD ?_);(simp only [go_sem,↓dP,↓reduceIte];with_reducible and_intros;all_goals first|apply qA|exact qC|skip)
 (refine AskI.ret (c_rin _ _ _) ?_;simp only [go_sem,↓dP,↓reduceIte];with_reducible and_intros;all_goals first|apply qA|exact qC|skip)
 (refine Ok.ret ?_;(try dsimp only [thenK,blockK,noGotoK]);simp only [toList_mk,List.toList_toArray,retK_ret,retK_normal,resOK,resV,celV,rowV,frzAll,frzT,subV,subL,go_sem,↓dP,↓reduceIte])
 exact .refl _
theorem c_rSome (J:Job) (hh:J.ps.length < 1000000) (l:List Int) (hl:l.length < 1000000):Ctr Tryz.prog 31 [J.sv,ilS l] (bS (someB J.ps.length l)):=by
 (refine Ctr.mk (fn:=Tryz.f31) rfl rfl rfl rfl rfl Tryz.results31 ?_;intro _;dsimp only [args,List.toList_toArray])
 (first|refine qE ?_|refine qD ?_);(simp only [go_sem,↓dP,↓reduceIte];with_reducible and_intros;all_goals first|apply qA|exact qC|skip)
 refine Ok.seq ?_
 (first|refine qE ?_|refine qD ?_);(simp only [go_sem,↓dP,↓reduceIte];with_reducible and_intros;all_goals first|apply qA|exact qC|skip)
 refine Ok.block ?_
 refine Ok.count l.length (fun i => ⟨[(1,ilS l),(2,.p 0 0),(5,iS i)],[jobC J],[]⟩) (fun i => ∀ j,j < i->pieceAt J.ps.length l j = true) ⟨fun j hj => by omega,?_⟩ ?_ ?_
 ·(refine Sub.of ([0]) ([]) ?_ ?_ ?_ rfl rfl<;>simp only [subB,subB1,subT,subT1,newT,subE,subV,subL,go_sem,↓dP,↓reduceIte]<;>(try (repeat' with_reducible apply And.intro))<;>(try first | exact DEq.refl _ | refine DEq.int ?_ | refine DEq.bool ?_ | omega))
 ·intro i hi hJ
  have e1:((i:Int) - 1).toNat = i - 1:=by omega
  refine Ok.seq ?_;((first|refine qE ?_|refine qD ?_);(simp only [go_sem,↓dP,↓reduceIte];with_reducible and_intros;all_goals first|apply qA|exact qC|skip));refine Ok.cond rfl (fun _ => ?_) (fun hb => by simp at hb;omega);(refine Ok.skip ?_;(try dsimp only [thenK,blockK,noGotoK]));refine Ok.seq ?_;refine Ok.block ?_
  (first|refine qE ?_|refine qD ?_);(simp only [go_sem,↓dP,↓reduceIte];with_reducible and_intros;all_goals first|apply qA|exact qC|skip)
  (refine AskI.ret (c_rPiece J hh _) ?_;simp only [go_sem,↓dP,↓reduceIte];with_reducible and_intros;all_goals first|apply qA|exact qC|skip)
  ·intro h
   simp only [Bool.and_eq_true,beq_iff_eq,decide_eq_true_eq] at h
   omega
  have hst:pieceAt J.ps.length l i = (inB (l.getD i default) 0 (J.ps.length - 1) && (decide (i = 0) || decide (l.getD (i - 1) default < l.getD i default))):=rfl
  refine Ok.cond rfl ?_ ?_
  ·intro hx
   have hF:pieceAt J.ps.length l i = false:=by
    rw [hst]
    revert hx
    rw [e1]
    cases inB (l.getD i default) 0 (J.ps.length - 1)<;>simp<;>omega
   (first|refine qE ?_|refine qD ?_);(simp only [go_sem,↓dP,↓reduceIte];with_reducible and_intros;all_goals first|apply qA|exact qC|skip)
   (refine Ok.ret ?_;(try dsimp only [thenK,blockK,noGotoK]);simp only [toList_mk,List.toList_toArray,retK_ret,retK_normal,resOK,resV,celV,rowV,frzAll,frzT,subV,subL,go_sem,↓dP,↓reduceIte])
   rw [someB_no hi hF]
   exact .refl _
  ·intro hx
   have hT:pieceAt J.ps.length l i = true:=by
    rw [hst]
    revert hx
    rw [e1]
    cases inB (l.getD i default) 0 (J.ps.length - 1)<;>simp<;>omega
   (refine Ok.skip ?_;(try dsimp only [thenK,blockK,noGotoK]))
   (first|refine qE ?_|refine qD ?_);(simp only [go_sem,↓dP,↓reduceIte];with_reducible and_intros;all_goals first|apply qA|exact qC|skip)
   (try dsimp only [thenK,blockK,noGotoK])
   refine ⟨fun j hj => ?_,?_⟩
   ·by_cases e:j = i
    ·subst e;exact hT
    ·exact hJ j (by omega)
   (refine Sub.of ([0]) ([]) ?_ ?_ ?_ rfl rfl<;>simp only [subB,subB1,subT,subT1,newT,subE,subV,subL,go_sem,↓dP,↓reduceIte]<;>(try (repeat' with_reducible apply And.intro))<;>(try first | exact DEq.refl _ | refine DEq.int ?_ | refine DEq.bool ?_ | omega))
 ·intro hJ
  refine Ok.seq ?_;((first|refine qE ?_|refine qD ?_);(simp only [go_sem,↓dP,↓reduceIte];with_reducible and_intros;all_goals first|apply qA|exact qC|skip));refine Ok.cond rfl (fun hb => by simp at hb) (fun _ => ?_);(refine Ok.exit ?_;simp only [thenK_exit,blockK_exit,noGotoK_exit,thenK_normal,blockK_normal,noGotoK_normal,↓reduceIte,Nat.reduceEqDiff])
  (first|refine qE ?_|refine qD ?_);(simp only [go_sem,↓dP,↓reduceIte];with_reducible and_intros;all_goals first|apply qA|exact qC|skip)
  (refine Ok.ret ?_;(try dsimp only [thenK,blockK,noGotoK]);simp only [toList_mk,List.toList_toArray,retK_ret,retK_normal,resOK,resV,celV,rowV,frzAll,frzT,subV,subL,go_sem,↓dP,↓reduceIte])
  rw [someB_yes hJ]
  exact .refl _
end Go.Proofs.Leaf
namespace Go.Proofs.Leaf
open Go Go.RX Go.Proofs
set_option maxRecDepth 10000
variable [Glob]
theorem c_rJob (J:Job) (hh:J.held):Ctr Tryz.prog 26 [J.sv] (bS (jobB J)):=by
 have hh1:=hh.1
 have hh2:=hh.2
 (refine Ctr.mk (fn:=Tryz.f26) rfl rfl rfl rfl rfl Tryz.results26 ?_;intro _;dsimp only [args,List.toList_toArray])
 (first|refine qE ?_|refine qD ?_);(simp only [go_sem,↓dP,↓reduceIte];with_reducible and_intros;all_goals first|apply qA|exact qC|skip)
 refine Ok.seq ?_
 (first|refine qE ?_|refine qD ?_);(simp only [go_sem,↓dP,↓reduceIte];with_reducible and_intros;all_goals first|apply qA|exact qC|skip)
 (refine AskI.ret (c_rin _ _ _) ?_;simp only [go_sem,↓dP,↓reduceIte];with_reducible and_intros;all_goals first|apply qA|exact qC|skip)
 (refine AskGI.ret (fun _ => c_rin _ _ _) ?_;simp only [go_sem,↓dP,↓reduceIte];with_reducible and_intros;all_goals first|apply qA|exact qC|skip)
 (refine AskGI.ret (fun _ => c_rin _ _ _) ?_;simp only [go_sem,↓dP,↓reduceIte];with_reducible and_intros;all_goals first|apply qA|exact qC|skip)
 ·intro h
  have:inB J.book 1 25 = true:=by revert h;cases inB J.book 1 25<;>simp
  rw [inB_iff] at this
  exact R64 (by omega) (by omega)
 (refine AskGI.ret (fun _ => c_rin _ _ _) ?_;simp only [go_sem,↓dP,↓reduceIte];with_reducible and_intros;all_goals first|apply qA|exact qC|skip)
 (refine AskGI.ret (fun _ => c_rin _ _ _) ?_;simp only [go_sem,↓dP,↓reduceIte];with_reducible and_intros;all_goals first|apply qA|exact qC|skip)
 (refine AskGI.ret (fun _ => c_rin _ _ _) ?_;simp only [go_sem,↓dP,↓reduceIte];with_reducible and_intros;all_goals first|apply qA|exact qC|skip)
 refine Ok.cond rfl ?_ ?_
 ·intro hb
  (first|refine qE ?_|refine qD ?_);(simp only [go_sem,↓dP,↓reduceIte];with_reducible and_intros;all_goals first|apply qA|exact qC|skip)
  (refine Ok.ret ?_;(try dsimp only [thenK,blockK,noGotoK]);simp only [toList_mk,List.toList_toArray,retK_ret,retK_normal,resOK,resV,celV,rowV,frzAll,frzT,subV,subL,go_sem,↓dP,↓reduceIte])
  refine DEq.bool ?_
  have:headB J = false:=by
   revert hb
   unfold headB
   cases inB J.wide 1 6<;>cases inB J.high 1 6<;>cases inB J.book 1 25<;>cases inB J.spoilt 0 (J.book - 1)<;>cases inB J.gs.length 1 3<;>cases inB J.ps.length 1 5<;>simp
  simp [jobB,this]
 intro hb
 have hhead:headB J = true:=by
  revert hb
  unfold headB
  cases inB J.wide 1 6<;>cases inB J.high 1 6<;>cases inB J.book 1 25<;>cases inB J.spoilt 0 (J.book - 1)<;>cases inB J.gs.length 1 3<;>cases inB J.ps.length 1 5<;>simp
 (refine Ok.skip ?_;(try dsimp only [thenK,blockK,noGotoK]))
 refine Ok.seq ?_
 (first|refine qE ?_|refine qD ?_);(simp only [go_sem,↓dP,↓reduceIte];with_reducible and_intros;all_goals first|apply qA|exact qC|skip)
 refine Ok.block ?_
 refine Ok.count J.gs.length (fun i => ⟨[(1,.p 0 0),(3,iS i)],[jobC J],[]⟩) (fun i => ∀ x∈J.gs.take i,(!groundB x) = false) ⟨fun x hx => by simp at hx,?_⟩ ?_ ?_
 ·(refine Sub.of ([0]) ([]) ?_ ?_ ?_ rfl rfl<;>simp only [subB,subB1,subT,subT1,newT,subE,subV,subL,go_sem,↓dP,↓reduceIte]<;>(try (repeat' with_reducible apply And.intro))<;>(try first | exact DEq.refl _ | refine DEq.int ?_ | refine DEq.bool ?_ | omega))
 ·intro i hi h0
  refine Ok.seq ?_;((first|refine qE ?_|refine qD ?_);(simp only [go_sem,↓dP,↓reduceIte];with_reducible and_intros;all_goals first|apply qA|exact qC|skip));refine Ok.cond rfl (fun _ => ?_) (fun hb => by simp at hb;omega);(refine Ok.skip ?_;(try dsimp only [thenK,blockK,noGotoK]));refine Ok.seq ?_;refine Ok.block ?_
  (first|refine qE ?_|refine qD ?_);(simp only [go_sem,↓dP,↓reduceIte];with_reducible and_intros;all_goals first|apply qA|exact qC|skip)
  (first|refine qE ?_|refine qD ?_);(simp only [go_sem,↓dP,↓reduceIte];with_reducible and_intros;all_goals first|apply qA|exact qC|skip)
  (refine AskI.ret (c_rin _ _ _) ?_;simp only [go_sem,↓dP,↓reduceIte];with_reducible and_intros;all_goals first|apply qA|exact qC|skip)
  (refine AskGI.ret (fun _ => c_rin _ _ _) ?_;simp only [go_sem,↓dP,↓reduceIte];with_reducible and_intros;all_goals first|apply qA|exact qC|skip)
  (refine AskGI.ret (fun _ => c_rin _ _ _) ?_;simp only [go_sem,↓dP,↓reduceIte];with_reducible and_intros;all_goals first|apply qA|exact qC|skip)
  (refine AskGI.ret (fun _ => c_rin _ _ _) ?_;simp only [go_sem,↓dP,↓reduceIte];with_reducible and_intros;all_goals first|apply qA|exact qC|skip)
  have hg:groundB (J.gs.getD i default) = (inB (J.gs.getD i default).rl 0 12 && inB (J.gs.getD i default).rh (J.gs.getD i default).rl 12 && inB (J.gs.getD i default).ll (J.gs.getD i default).rh 12 && inB (J.gs.getD i default).lh (J.gs.getD i default).ll 12):=rfl
  refine Ok.cond rfl ?_ ?_
  ·intro hx
   have hx':(!groundB (J.gs.getD i default)) = true:=by
    rw [hg]
    revert hx
    cases inB (J.gs.getD i default).rl 0 12<;>cases inB (J.gs.getD i default).rh (J.gs.getD i default).rl 12<;>cases inB (J.gs.getD i default).ll (J.gs.getD i default).rh 12<;>cases inB (J.gs.getD i default).lh (J.gs.getD i default).ll 12<;>simp
   (first|refine qE ?_|refine qD ?_);(simp only [go_sem,↓dP,↓reduceIte];with_reducible and_intros;all_goals first|apply qA|exact qC|skip)
   (refine Ok.ret ?_;(try dsimp only [thenK,blockK,noGotoK]);simp only [toList_mk,List.toList_toArray,retK_ret,retK_normal,resOK,resV,celV,rowV,frzAll,frzT,subV,subL,go_sem,↓dP,↓reduceIte])
   refine DEq.bool ?_
   have:J.gs.any (fun g => !groundB g) = true:=List.any_eq_true.2 ⟨_,getD_mem hi,hx'⟩
   rw [jobB,all_any,this];simp
  ·intro hx
   have hx':(!groundB (J.gs.getD i default)) = false:=by
    rw [hg]
    revert hx
    cases inB (J.gs.getD i default).rl 0 12<;>cases inB (J.gs.getD i default).rh (J.gs.getD i default).rl 12<;>cases inB (J.gs.getD i default).ll (J.gs.getD i default).rh 12<;>cases inB (J.gs.getD i default).lh (J.gs.getD i default).ll 12<;>simp
   (refine Ok.skip ?_;(try dsimp only [thenK,blockK,noGotoK]))
   (first|refine qE ?_|refine qD ?_);(simp only [go_sem,↓dP,↓reduceIte];with_reducible and_intros;all_goals first|apply qA|exact qC|skip)
   (try dsimp only [thenK,blockK,noGotoK])
   refine ⟨no_step (q:=fun g => !groundB g) hi h0 hx',?_⟩
   (refine Sub.of ([0]) ([]) ?_ ?_ ?_ rfl rfl<;>simp only [subB,subB1,subT,subT1,newT,subE,subV,subL,go_sem,↓dP,↓reduceIte]<;>(try (repeat' with_reducible apply And.intro))<;>(try first | exact DEq.refl _ | refine DEq.int ?_ | refine DEq.bool ?_ | omega))
 intro h0
 have hgs:J.gs.any (fun g => !groundB g) = false:=List.any_eq_false.2 (fun x hx => by simp [h0 x (by simpa using hx)])
 refine Ok.seq ?_;((first|refine qE ?_|refine qD ?_);(simp only [go_sem,↓dP,↓reduceIte];with_reducible and_intros;all_goals first|apply qA|exact qC|skip));refine Ok.cond rfl (fun hb => by simp at hb) (fun _ => ?_);(refine Ok.exit ?_;simp only [thenK_exit,blockK_exit,noGotoK_exit,thenK_normal,blockK_normal,noGotoK_normal,↓reduceIte,Nat.reduceEqDiff])
 refine Ok.seq ?_
 (first|refine qE ?_|refine qD ?_);(simp only [go_sem,↓dP,↓reduceIte];with_reducible and_intros;all_goals first|apply qA|exact qC|skip)
 refine Ok.block ?_
 refine Ok.count J.ps.length (fun i => ⟨[(1,.p 0 0),(5,iS i)],[jobC J],[]⟩) (fun i => ∀ x∈J.ps.take i,(!pieceB J.gs.length x) = false) ⟨fun x hx => by simp at hx,?_⟩ ?_ ?_
 ·(refine Sub.of ([0]) ([]) ?_ ?_ ?_ rfl rfl<;>simp only [subB,subB1,subT,subT1,newT,subE,subV,subL,go_sem,↓dP,↓reduceIte]<;>(try (repeat' with_reducible apply And.intro))<;>(try first | exact DEq.refl _ | refine DEq.int ?_ | refine DEq.bool ?_ | omega))
 ·intro i hi h0
  refine Ok.seq ?_;((first|refine qE ?_|refine qD ?_);(simp only [go_sem,↓dP,↓reduceIte];with_reducible and_intros;all_goals first|apply qA|exact qC|skip));refine Ok.cond rfl (fun _ => ?_) (fun hb => by simp at hb;omega);(refine Ok.skip ?_;(try dsimp only [thenK,blockK,noGotoK]));refine Ok.seq ?_;refine Ok.block ?_
  (first|refine qE ?_|refine qD ?_);(simp only [go_sem,↓dP,↓reduceIte];with_reducible and_intros;all_goals first|apply qA|exact qC|skip)
  (first|refine qE ?_|refine qD ?_);(simp only [go_sem,↓dP,↓reduceIte];with_reducible and_intros;all_goals first|apply qA|exact qC|skip)
  (refine AskI.ret (c_rin _ _ _) ?_;simp only [go_sem,↓dP,↓reduceIte];with_reducible and_intros;all_goals first|apply qA|exact qC|skip)
  (refine AskGI.ret (fun _ => c_rin _ _ _) ?_;simp only [go_sem,↓dP,↓reduceIte];with_reducible and_intros;all_goals first|apply qA|exact qC|skip)
  (refine AskGI.ret (fun _ => c_rin _ _ _) ?_;simp only [go_sem,↓dP,↓reduceIte];with_reducible and_intros;all_goals first|apply qA|exact qC|skip)
  have hg:pieceB J.gs.length (J.ps.getD i default) = (inB (J.ps.getD i default).w 1 6 && inB (J.ps.getD i default).h 1 6 && inB (J.ps.getD i default).g 0 (J.gs.length - 1)):=rfl
  refine Ok.cond rfl ?_ ?_
  ·intro hx
   have hx':(!pieceB J.gs.length (J.ps.getD i default)) = true:=by
    rw [hg]
    revert hx
    cases inB (J.ps.getD i default).w 1 6<;>cases inB (J.ps.getD i default).h 1 6<;>cases inB (J.ps.getD i default).g 0 (J.gs.length - 1)<;>simp
   (first|refine qE ?_|refine qD ?_);(simp only [go_sem,↓dP,↓reduceIte];with_reducible and_intros;all_goals first|apply qA|exact qC|skip)
   (refine Ok.ret ?_;(try dsimp only [thenK,blockK,noGotoK]);simp only [toList_mk,List.toList_toArray,retK_ret,retK_normal,resOK,resV,celV,rowV,frzAll,frzT,subV,subL,go_sem,↓dP,↓reduceIte])
   refine DEq.bool ?_
   have:J.ps.any (fun p => !pieceB J.gs.length p) = true:=List.any_eq_true.2 ⟨_,getD_mem hi,hx'⟩
   rw [jobB,all_any J.ps,this];simp
  ·intro hx
   have hx':(!pieceB J.gs.length (J.ps.getD i default)) = false:=by
    rw [hg]
    revert hx
    cases inB (J.ps.getD i default).w 1 6<;>cases inB (J.ps.getD i default).h 1 6<;>cases inB (J.ps.getD i default).g 0 (J.gs.length - 1)<;>simp
   (refine Ok.skip ?_;(try dsimp only [thenK,blockK,noGotoK]))
   (first|refine qE ?_|refine qD ?_);(simp only [go_sem,↓dP,↓reduceIte];with_reducible and_intros;all_goals first|apply qA|exact qC|skip)
   (try dsimp only [thenK,blockK,noGotoK])
   refine ⟨no_step (q:=fun p => !pieceB J.gs.length p) hi h0 hx',?_⟩
   (refine Sub.of ([0]) ([]) ?_ ?_ ?_ rfl rfl<;>simp only [subB,subB1,subT,subT1,newT,subE,subV,subL,go_sem,↓dP,↓reduceIte]<;>(try (repeat' with_reducible apply And.intro))<;>(try first | exact DEq.refl _ | refine DEq.int ?_ | refine DEq.bool ?_ | omega))
 ·intro h0
  have hps:J.ps.any (fun p => !pieceB J.gs.length p) = false:=List.any_eq_false.2 (fun x hx => by simp [h0 x (by simpa using hx)])
  refine Ok.seq ?_;((first|refine qE ?_|refine qD ?_);(simp only [go_sem,↓dP,↓reduceIte];with_reducible and_intros;all_goals first|apply qA|exact qC|skip));refine Ok.cond rfl (fun hb => by simp at hb) (fun _ => ?_);(refine Ok.exit ?_;simp only [thenK_exit,blockK_exit,noGotoK_exit,thenK_normal,blockK_normal,noGotoK_normal,↓reduceIte,Nat.reduceEqDiff])
  (first|refine qE ?_|refine qD ?_);(simp only [go_sem,↓dP,↓reduceIte];with_reducible and_intros;all_goals first|apply qA|exact qC|skip)
  (refine Ok.ret ?_;(try dsimp only [thenK,blockK,noGotoK]);simp only [toList_mk,List.toList_toArray,retK_ret,retK_normal,resOK,resV,celV,rowV,frzAll,frzT,subV,subL,go_sem,↓dP,↓reduceIte])
  refine DEq.bool ?_
  rw [jobB,hhead,all_any,all_any,hgs,hps]
  rfl
end Go.Proofs.Leaf
namespace Go.Proofs.Leaf
open Go Go.RX Go.Proofs
set_option maxRecDepth 10000
variable [Glob]
def shortB (J:Job):Bool:=decide (J.gs.length<=5) && decide (J.ps.length<=7)
theorem c_lshort (J:Job) (h:J.far):Ctr Tryz.prog 23 [J.sv] (bS (shortB J)):=by
 have h1:=h.1
 have h2:=h.2
 (refine Ctr.mk (fn:=Tryz.f23) rfl rfl rfl rfl rfl Tryz.results23 ?_;intro _;dsimp only [args,List.toList_toArray])
 (first|refine qE ?_|refine qD ?_);(simp only [go_sem,↓dP,↓reduceIte];with_reducible and_intros;all_goals first|apply qA|exact qC|skip)
 (first|refine qE ?_|refine qD ?_);(simp only [go_sem,↓dP,↓reduceIte];with_reducible and_intros;all_goals first|apply qA|exact qC|skip)
 (refine Ok.ret ?_;(try dsimp only [thenK,blockK,noGotoK]);simp only [toList_mk,List.toList_toArray,retK_ret,retK_normal,resOK,resV,celV,rowV,frzAll,frzT,subV,subL,go_sem,↓dP,↓reduceIte])
 refine DEq.bool ?_
 unfold shortB
 by_cases g1:J.gs.length<=5<;>by_cases g2:J.ps.length<=7<;>simp [g1,g2]<;>omega
theorem short_held {J:Job} (h:shortB J = true):J.held:=by
 simp only [shortB,Bool.and_eq_true,decide_eq_true_eq] at h
 exact ⟨by omega,by omega⟩
def slimB (l:List Int):Bool:=decide (l.length<=8)
theorem c_lslim (l:List Int) (h:l.length<=9223372036854775807):Ctr Tryz.prog 14 [ilS l] (bS (slimB l)):=by
 (refine Ctr.mk (fn:=Tryz.f14) rfl rfl rfl rfl rfl Tryz.results14 ?_;intro _;dsimp only [args,List.toList_toArray])
 (first|refine qE ?_|refine qD ?_);(simp only [go_sem,↓dP,↓reduceIte];with_reducible and_intros;all_goals first|apply qA|exact qC|skip)
 (first|refine qE ?_|refine qD ?_);(simp only [go_sem,↓dP,↓reduceIte];with_reducible and_intros;all_goals first|apply qA|exact qC|skip)
 (refine Ok.ret ?_;(try dsimp only [thenK,blockK,noGotoK]);simp only [toList_mk,List.toList_toArray,retK_ret,retK_normal,resOK,resV,celV,rowV,frzAll,frzT,subV,subL,go_sem,↓dP,↓reduceIte])
 refine DEq.bool ?_
 unfold slimB
 by_cases g:l.length<=8<;>simp [g]<;>omega
def rightB (J:Job):Bool:=shortB J && jobB J
theorem c_lright (J:Job) (h:J.far):Ctr Tryz.prog 13 [J.sv] (bS (rightB J)):=by
 (refine Ctr.mk (fn:=Tryz.f13) rfl rfl rfl rfl rfl Tryz.results13 ?_;intro _;dsimp only [args,List.toList_toArray])
 (first|refine qE ?_|refine qD ?_);(simp only [go_sem,↓dP,↓reduceIte];with_reducible and_intros;all_goals first|apply qA|exact qC|skip)
 (first|refine qE ?_|refine qD ?_);(simp only [go_sem,↓dP,↓reduceIte];with_reducible and_intros;all_goals first|apply qA|exact qC|skip)
 (refine AskI.ret (c_lshort J h) ?_;simp only [go_sem,↓dP,↓reduceIte];with_reducible and_intros;all_goals first|apply qA|exact qC|skip)
 (refine AskGI.ret (fun h => c_rJob J (short_held (by simpa using h))) ?_;simp only [go_sem,↓dP,↓reduceIte];with_reducible and_intros;all_goals first|apply qA|exact qC|skip)
 (refine Ok.ret ?_;(try dsimp only [thenK,blockK,noGotoK]);simp only [toList_mk,List.toList_toArray,retK_ret,retK_normal,resOK,resV,celV,rowV,frzAll,frzT,subV,subL,go_sem,↓dP,↓reduceIte])
 refine DEq.bool ?_
 unfold rightB
 cases shortB J<;>simp
end Go.Proofs.Leaf
namespace Go.Proofs.Leaf
open Go Go.RX Go.Proofs
set_option maxRecDepth 10000
variable [Glob]
abbrev withJ (J:Job) (w h:Int):Job:={ J with ps:=J.ps ++ [⟨w,h,false,0⟩] }
end Go.Proofs.Leaf
namespace Go.Proofs.Leaf
open Go Go.RX Go.Proofs
set_option maxRecDepth 10000
variable [Glob]
def turnN (ps:List Piece) (i:Nat):List Piece:=(ps.take i).map turnP ++ ps.drop i
theorem turnN_len (ps:List Piece) {i:Nat} (hi:i<=ps.length):(turnN ps i).length = ps.length:=by
 unfold turnN;simp;omega
theorem turnN_at (ps:List Piece) {i a:Nat} (hi:i<=ps.length) (ha:a < ps.length):(turnN ps i).getD a default = if a < i then turnP (ps.getD a default) else ps.getD a default:=by
 unfold turnN
 have hl:((ps.take i).map turnP).length = i:=by simp;omega
 by_cases h:a < i
 ·rw [if_pos h,List.getD_eq_getElem?_getD,List.getElem?_append_left (by omega),List.getElem?_map,List.getElem?_take_of_lt h,List.getElem?_eq_getElem ha]
  simp [List.getD_eq_getElem?_getD,ha]
 ·rw [if_neg h,List.getD_eq_getElem?_getD,List.getElem?_append_right (by omega),hl,List.getElem?_drop,show i + (a - i) = a by omega,← List.getD_eq_getElem?_getD]
theorem turnN_all (ps:List Piece):turnN ps ps.length = ps.map turnP:=by simp [turnN]
abbrev turnJ (J:Job):Job:={ J with wide:=J.high,high:=J.wide,ps:=J.ps.map turnP }
theorem c_rTurned (J:Job) (hn:J.ps.length<=100):Ctr Tryz.prog 39 [J.sv] (turnJ J).sv:=by
 (refine Ctr.mk (fn:=Tryz.f39) rfl rfl rfl rfl rfl Tryz.results39 ?_;intro _;dsimp only [args,List.toList_toArray])
 (first|refine qE ?_|refine qD ?_);(simp only [go_sem,↓dP,↓reduceIte];with_reducible and_intros;all_goals first|apply qA|exact qC|skip)
 (first|refine qE ?_|refine qD ?_);(simp only [go_sem,↓dP,↓reduceIte];with_reducible and_intros;all_goals first|apply qA|exact qC|skip)
 (first|refine qE ?_|refine qD ?_);(simp only [go_sem,↓dP,↓reduceIte];with_reducible and_intros;all_goals first|apply qA|exact qC|skip)
 (first|refine qE ?_|refine qD ?_);(simp only [go_sem,↓dP,↓reduceIte];with_reducible and_intros;all_goals first|apply qA|exact qC|skip)
 refine Ok.seq ?_
 (first|refine qE ?_|refine qD ?_);(simp only [go_sem,↓dP,↓reduceIte];with_reducible and_intros;all_goals first|apply qA|exact qC|skip)
 refine Ok.block ?_
 refine Ok.count J.ps.length (fun i => ⟨[(1,.p 0 0),(2,.p 1 0),(3,.p 2 0),(4,iS i)],[jobC J,{ frz:=false,xs:=[iS 0,iS 0,iS 0,iS 0,.d .nils,.d .nils] },{ frz:=false,xs:=[iS J.high,iS J.wide,iS J.book,iS J.spoilt,.d (slD 4 groD J.gs),.tk 0] }],[ownD 54 4 pieD (turnN J.ps i)]⟩) (fun _ => True) ⟨trivial,?_⟩ ?_ ?_
 ·(refine Sub.of ([0,1,2]) ([some 0]) ?_ ?_ ?_ rfl rfl<;>simp only [subB,subB1,subT,subT1,newT,subE,subV,subL,go_sem,↓dP,↓reduceIte]<;>(try (repeat' with_reducible apply And.intro))<;>(try first | exact DEq.refl _ | refine DEq.int ?_ | refine DEq.bool ?_ | omega))
  ·simp [turnN]
  ·intro a c _ _
   rw [show turnN J.ps 0 = J.ps by simp [turnN]]
   exact .refl _
 ·intro i hi _
  have hl:=turnN_len J.ps (Nat.le_of_lt hi)
  have hl2:=turnN_len J.ps (i:=i + 1) (by omega)
  refine Ok.seq ?_;((first|refine qE ?_|refine qD ?_);(simp only [go_sem,↓dP,↓reduceIte];with_reducible and_intros;all_goals first|apply qA|exact qC|skip));refine Ok.cond rfl (fun _ => ?_) (fun hb => by simp at hb;omega);(refine Ok.skip ?_;(try dsimp only [thenK,blockK,noGotoK]));refine Ok.seq ?_;refine Ok.block ?_
  (first|refine qE ?_|refine qD ?_);(simp only [go_sem,↓dP,↓reduceIte];with_reducible and_intros;all_goals first|apply qA|exact qC|skip)
  (first|refine qE ?_|refine qD ?_);(simp only [go_sem,↓dP,↓reduceIte];with_reducible and_intros;all_goals first|apply qA|exact qC|skip)
  (try dsimp only [thenK,blockK,noGotoK])
  (first|refine qE ?_|refine qD ?_);(simp only [go_sem,↓dP,↓reduceIte];with_reducible and_intros;all_goals first|apply qA|exact qC|skip)
  (try dsimp only [thenK,blockK,noGotoK])
  refine ⟨trivial,?_⟩
  (refine Sub.of ([0,1,2]) ([some 0]) ?_ ?_ ?_ rfl rfl<;>simp only [subB,subB1,subT,subT1,newT,subE,subV,subL,go_sem,↓dP,↓reduceIte]<;>(try (repeat' with_reducible apply And.intro))<;>(try first | exact DEq.refl _ | refine DEq.int ?_ | refine DEq.bool ?_ | omega))
  intro a c ha hc
  rw [hl] at ha
  rw [turnN_at J.ps (by omega) ha,turnN_at J.ps (by omega) ha]
  by_cases e:a = i
  ·subst e
   rw [if_neg (show ¬ a < a by omega),if_pos (show a < a + 1 by omega)]
   match c,hc with
   | 0,_ => rw [if_neg (by omega),if_pos (by omega)];exact .refl _
   | 1,_ => rw [if_pos (by omega)];exact .refl _
   | 2,_ => rw [if_neg (by omega),if_neg (by omega)];exact .refl _
   | 3,_ => rw [if_neg (by omega),if_neg (by omega)];exact .refl _
  ·rw [if_neg (fun q => e q.1),if_neg (fun q => e q.1)]
   by_cases h:a < i
   ·rw [if_pos h,if_pos (by omega)];exact .refl _
   ·rw [if_neg h,if_neg (by omega)];exact .refl _
 ·intro _
  refine Ok.seq ?_;((first|refine qE ?_|refine qD ?_);(simp only [go_sem,↓dP,↓reduceIte];with_reducible and_intros;all_goals first|apply qA|exact qC|skip));refine Ok.cond rfl (fun hb => by simp at hb) (fun _ => ?_);(refine Ok.exit ?_;simp only [thenK_exit,blockK_exit,noGotoK_exit,thenK_normal,blockK_normal,noGotoK_normal,↓reduceIte,Nat.reduceEqDiff])
  (first|refine qE ?_|refine qD ?_);(simp only [go_sem,↓dP,↓reduceIte];with_reducible and_intros;all_goals first|apply qA|exact qC|skip)
  (refine Ok.ret ?_;(try dsimp only [thenK,blockK,noGotoK]);simp only [toList_mk,List.toList_toArray,retK_ret,retK_normal,resOK,resV,celV,rowV,frzAll,frzT,subV,subL,go_sem,↓dP,↓reduceIte])
  rw [turnN_all]
  exact ⟨.refl _,.refl _,.refl _,.refl _,.refl _,.refl _⟩
end Go.Proofs.Leaf
namespace Go.Proofs.Leaf
open Go Go.RX Go.Proofs Go.RowKit
set_option maxRecDepth 10000
section
variable [Glob]
end
section
instance inst_g0_5:Glob:=g0
theorem must_newp {I I0:Nat->Prop} {w0 w:World} {v:Value} {J:Job} (hJ:J.sized) (s:Nat) (hs:s < 1024) (h:RepS I w v (kn0 J)) (hlt:∀ b,I b->b < w.heap.size) (hi:∀ b,I b->I0 b∨w0.heap.size<=b) (hk:Keep w0.heap.size w0 w) (h0:∀ b,I0 b->b < w0.heap.size) (hc:∀ b,I0 b->∃ cs T fz,w0.heap[b]? = some (.cells cs T fz)) (hfit:J.fit s = false) :
  Calls Tryz.prog 82 #[v,.int .i64 s] w (fun e w' => e = .panicked [{ v:=.iface 147 (.agg #[.int .i64 s]),recovered:=false }]/\Keep w0.heap.size w w'):=by
 obtain ⟨m,clk,hIm,hm,hr⟩:=kn0_memo h
 have hnew:=memo_new hm hIm hi hk h0 hc
 have hmM:MemoOK J.ps w m:=⟨#[],clk,hm,fun e he => by simp at he⟩
 have hctr:=@c_knife_must_p (memo J.ps m) J m (isMemo_memo J.ps m) hJ s hs hfit
 refine (hctr.2 (fun b => I b/\b ≠ m) w #[v,.int .i64 s] hmM (fun b hb => hlt b hb.1) (fun b hb e => by cases e;exact hb.2 rfl) rfl (fun j u y hu hy => ?_)).mono ?_
 ·rcases j with _ | _ | j
  ·cases hu;cases hy;exact hr
  ·cases hu;cases hy;exact fun Y => .d .int
  ·simp at hu
 ·rintro e w' ⟨u,I',rfl,_,_,hu,hk'⟩
  refine ⟨?_,keep_memo hk' hnew hk.size⟩
  have:u = .iface 147 (.agg #[.int .i64 s]):=by
   cases hu with
   | ifc hl hr =>
    rename_i us
    obtain ⟨x,rfl⟩:∃ x,us = #[x]:=Array.size_eq_one_iff.1 hl
    have:=hr 0 x rfl
    change Rep I' w' x (iD s) at this
    cases this;rfl
  rw [this]
end
end Go.Proofs.Leaf
namespace Go.Proofs.Leaf
open Go Go.RX Go.Proofs Go.RowKit
set_option maxRecDepth 10000
section
theorem c_Rest_1p (J:Job) (hJ:J.sized) (s:Nat) (hs:s < 1024) (hf:J.fit s = false):CtrP Tryz.prog 81 [.d J.ref,.d (.ref 1 (dget [iD s]))] (apartD s):=by
 have hn:=hJ.n
 refine ⟨⟨Tryz.f81,rfl,rfl,rfl⟩,fun I' w vs _ hI' _ hl hA => ?_⟩
 have hA':∀ (j:Nat) (u:Value) (s':SV),vs[j]? = some u->[.d J.ref,.d (.ref 1 (dget [iD s]))][j]? = some s'->RepS (cO I' w) w u s':=fun j u s' hu hs' => by
  have:=hA j u s' hu hs'
  rcases j with _ | _ | j
  ·cases hs';exact cells_jref J _ _ _ this
  ·cases hs';exact cells_flat1 .int _ _ _ this
  ·simp at hs'
 have hI:∀ b,cO I' w b->b < w.heap.size:=fun b hb => hI' b hb.1
 refine calls_of_wp (fn:=Tryz.f81) rfl rfl ?_
 have hst:=St.start (N:=Tryz.f81.ntmps) (I:=cO I' w) (w:=w) (vs:=vs) trivial hI (fun b _ e => by cases e) hl (Nat.le_of_ble_eq_true rfl) hA'
 refine (wpIn_wide (n:=0)).1 ?_
 letI:Bas:=⟨cO I' w,w⟩
 dsimp only [RX.start,args] at hst
 (refine hT 3 ?h1 ?h2 ?h3 ?h4 hst ?_;(case h1 => rfl);(case h2 => rfl);(case h3 => rfl);(case h4 => rfl);simp only [go_sem,↓dP,↓reduceIte];with_reducible and_intros;all_goals first|apply qA|exact qC|skip)
 (refine AskI.ret (c_knifeOf0 J (by omega)) ?_;simp only [go_sem,↓dP,↓reduceIte];with_reducible and_intros;all_goals first|apply qA|exact qC|skip)
 intro Y a w3 hinv
 have hst:=St.of hinv rfl
 obtain ⟨I3,β,τ,hx⟩:=hst (fun _ => none)
 have k3:RepS I3 w3 (a.tmps.getD 3 undef) (kn0 J):=mt_aggd (ds:=[iD J.wide,iD J.high,iD J.book,iD J.spoilt,slD 4 groD J.gs,slD 4 pieD J.ps,.mp 0 0 (fun _ _ => .nilI)]) ((hx.env 3).un (fun _ _ _ e => by cases e))
 have k4:a.tmps.getD 4 undef = .int .i64 s:=by
  have:=mt_d ((hx.env 4).un (fun _ _ _ e => by cases e))
  generalize a.tmps.getD 4 undef = u at this
  cases this;rfl
 have hk:Keep w.heap.size w w3:=hx.bel
 have hdf:a.defers = []:=hx.df
 have hm:=must_newp hJ s hs k3 hx.hI hx.i0 hk hI (fun b hb => hb.2) hf
 refine tail_callP (fn:=Tryz.f82) rfl rfl rfl rfl (by rw [map2];show #[a.tmps.getD 3 undef,a.tmps.getD 4 undef] = _;rw [k4]) hm (fun e w4 hq => ?_)
 obtain ⟨rfl,hk4⟩:=hq
 refine ⟨_,rfl,?_⟩
 refine ⟨hdf,_,fun _ => False,rfl,fun _ h => h.elim,fun _ h => h.elim,?_,hk.trans hk4⟩
 refine .ifc rfl (fun j u hu => ?_)
 rcases j with _ | j
 ·cases hu;exact .int
 ·simp at hu
end
end Go.Proofs.Leaf
namespace Go.Proofs.Leaf
open Go Go.RX Go.Proofs Go.RowKit
set_option maxRecDepth 10000
section
theorem c_RestNo (J:Job) (h:J.ok) (L:List Nat) (hL:rises J.ps.length 0 L) (hf:J.fit (setL (asI L)) = false):Ctr Tryz.prog 42 [J.sv,ilS (asI L)] (.tup [spS (0,0),iS 7]):=by
 obtain ⟨s1,s2,s3,s4⟩:=rises_set h hL
 have hsm:someB J.ps.length (asI L) = true:=someB_iff.2 ⟨L,hL,rfl⟩
 have hl:(asI L).length < 1000000:=by rw [asI_len];omega
 have hatt:=c_att_apart 81 2 (dget [J.ref,.ref 1 (dget [iD (setL (asI L))])]) _ (c_Rest_1p J h.sized (setL (asI L)) (by omega) hf)
 (refine Ctr.mk (fn:=Tryz.f42) rfl rfl rfl rfl rfl Tryz.results42 ?_;intro _;dsimp only [args,List.toList_toArray])
 (first|refine qE ?_|refine qD ?_);(simp only [go_sem,↓dP,↓reduceIte];with_reducible and_intros;all_goals first|apply qA|exact qC|skip)
 refine Ok.seq ?_
 (first|refine qE ?_|refine qD ?_);(simp only [go_sem,↓dP,↓reduceIte];with_reducible and_intros;all_goals first|apply qA|exact qC|skip)
 (refine AskI.ret (c_isJob J h.held) ?_;simp only [go_sem,↓dP,↓reduceIte];with_reducible and_intros;all_goals first|apply qA|exact qC|skip)
 (refine AskGI.ret (fun _ => c_arePieces J h.held.2 (asI L) hl) ?_;simp only [go_sem,↓dP,↓reduceIte];with_reducible and_intros;all_goals first|apply qA|exact qC|skip)
 refine Ok.cond rfl (fun hb => by rw [jobB_iff.2 h,hsm] at hb;simp at hb) (fun _ => ?_)
 (refine Ok.skip ?_;(try dsimp only [thenK,blockK,noGotoK]))
 (first|refine qE ?_|refine qD ?_);(simp only [go_sem,↓dP,↓reduceIte];with_reducible and_intros;all_goals first|apply qA|exact qC|skip)
 (refine AskI.ret (c_bits (asI L) hl s3) ?_;simp only [go_sem,↓dP,↓reduceIte];with_reducible and_intros;all_goals first|apply qA|exact qC|skip)
 refine Ok.sub ((Sub.frzB (b:=0) rfl rfl).trans (Sub.frzB (b:=3) rfl rfl)) ?_
 refine Ok.seq ?_
 (first|refine qE ?_|refine qD ?_);(simp only [go_sem,↓dP,↓reduceIte];with_reducible and_intros;all_goals first|apply qA|exact qC|skip)
 (refine AskI.ret (hatt) ?_;simp only [go_sem,↓dP,↓reduceIte];with_reducible and_intros;all_goals first|apply qA|exact qC|skip)
 (first|refine qE ?_|refine qD ?_);(simp only [go_sem,↓dP,↓reduceIte];with_reducible and_intros;all_goals first|apply qA|exact qC|skip)
 refine Ok.cond (b:=true) (by first | rfl | (simp only [go_sem,↓dP,↓reduceIte];rfl)) (fun _ => ?_) (fun hb => by cases hb)
 (first|refine qE ?_|refine qD ?_);(simp only [go_sem,↓dP,↓reduceIte];with_reducible and_intros;all_goals first|apply qA|exact qC|skip)
 (refine Ok.ret ?_;(try dsimp only [thenK,blockK,noGotoK]);simp only [toList_mk,List.toList_toArray,retK_ret,retK_normal,resOK,resV,celV,rowV,frzAll,frzT,subV,subL,go_sem,↓dP,↓reduceIte])
 ((repeat' with_reducible apply And.intro)<;>(first | exact DEq.refl _ | refine DEq.int ?_ | refine DEq.bool ?_ | skip))
end
end Go.Proofs.Leaf
namespace Go.Proofs.YtdajcfdhcjbmmaaGreatDoor
open Go Go.RX Go.Proofs.Leaf Go.RowKit Go.ChangeShapes Go.WideShapes Go.ChangeAt
set_option maxRecDepth 100000
instance inst_gT_6:Glob:=gT
section
variable {H : Type} {enc : TypeId × Value → H} {W : World}
end
theorem opensAll_cons {t:TypeId} {ts:List TypeId} {As:List SV} (h:opensAll (t :: ts) As):∃ A Bs,As = A :: Bs/\opens t A/\opensAll ts Bs:=by
 cases As with
 | nil => exact h.elim
 | cons A Bs => exact ⟨A,Bs,rfl,h.1,h.2⟩
theorem opensAll_nil {As:List SV} (h:opensAll [] As):As = []:=by
 cases As with
 | nil => rfl
 | cons A Bs => exact h.elim
end Go.Proofs.YtdajcfdhcjbmmaaGreatDoor
namespace Go.Proofs.Leaf
open Go Go.RX Go.Proofs Go.RowKit
set_option maxRecDepth 10000
section
instance inst_g0_7:Glob:=g0
def fitW (J:Job) (s:Nat) (w h:Int):Bool:=(withJ J w h).fit (s ||| 2 ^ J.ps.length)
theorem rest_some {J:Job} {s:Nat} {r:Nat×Nat} (h:restF J s = some r):0 < r.1/\r.1<=J.wide.toNat/\0 < r.2/\r.2<=J.high.toNat/\fitW J s r.1 r.2 = true :=
 have h1:=mem_sizesL.1 (List.mem_of_find?_eq_some h)
 ⟨h1.1,h1.2.1,h1.2.2.1,h1.2.2.2,show restQ J s r = true from List.find?_some h⟩
end
end Go.Proofs.Leaf
namespace Go.Proofs.Leaf
open Go Go.RX Go.Proofs Go.RowKit
set_option maxRecDepth 10000
section
theorem turn_fit (J:Job) (s:Nat):(turnJ J).fit s = J.fit s:=can_turned _ _ _ _
theorem turn_bests (J:Job):bsts (turnJ J) = bsts J:=by
 unfold bsts
 rw [show (turnJ J).fit = J.fit from funext (turn_fit J),show (turnJ J).ps.length = J.ps.length by simp]
theorem turn_ok {J:Job} (h:J.ok):(turnJ J).ok:=by
 refine { w0:=h.h0,w1:=h.h1,h0:=h.w0,h1:=h.w1,b0:=h.b0,b1:=h.b1,s0:=h.s0,s1:=h.s1,g0:=h.g0,g1:=h.g1,p0:=by simpa using h.p0,p1:=by simpa using h.p1,gs:=h.gs,ps:=fun p hp => ?_ }
 obtain ⟨q,hq,rfl⟩:=List.mem_map.1 hp
 have:=h.ps q hq
 exact ⟨this.2.2.1,this.2.2.2.1,this.1,this.2.1,this.2.2.2.2⟩
theorem turn_restQ (J:Job) (s:Nat) (x:Nat×Nat):restQ (turnJ J) s (x.2,x.1) = restQ J s x:=by
 have e:(moreJ (turnJ J) (x.2,x.1)).ps = (moreJ J x).ps.map turnP:=by
  show J.ps.map turnP ++ [_] = (J.ps ++ [_]).map turnP
  rw [List.map_append];rfl
 unfold restQ Job.fit
 rw [e,show (turnJ J).ps.length = J.ps.length by simp]
 exact can_turned _ _ _ _
theorem turn_best {J:Job} {s:Nat} {r:Nat×Nat} (hr:restF J s = some r) {q:Nat×Nat} (hq:restF (turnJ J) s = some q):r.1 * r.2 = q.1 * q.2:=by
 have h1:=mem_sizesL.1 (List.mem_of_find?_eq_some hr)
 have h2:=mem_sizesL.1 (List.mem_of_find?_eq_some hq)
 have f1:restQ J s r = true:=List.find?_some hr
 have f2:restQ (turnJ J) s q = true:=List.find?_some hq
 have m1:(r.2,r.1)∈sizX (turnJ J):=mem_sizesL.2 ⟨h1.2.2.1,h1.2.2.2,h1.1,h1.2.1⟩
 have m2:(q.2,q.1)∈sizX J:=mem_sizesL.2 ⟨h2.2.2.1,h2.2.2.2,h2.1,h2.2.1⟩
 have a1:=find_sorted (sizes_sorted _ _) hq m1 (by rw [turn_restQ];exact f1)
 have a2:=find_sorted (sizes_sorted _ _) hr m2 (by have:=turn_restQ J s (q.2,q.1);rw [← this];exact f2)
 have e1:r.1 * r.2<=q.1 * q.2:=by
  rcases a1 with e | e
  ·rw [← e,Nat.mul_comm];exact Nat.le_refl _
  ·unfold larger at e;simp only at e;rw [Nat.mul_comm r.1];omega
 have e2:q.1 * q.2<=r.1 * r.2:=by
  rcases a2 with e | e
  ·rw [← e,Nat.mul_comm];exact Nat.le_refl _
  ·unfold larger at e;simp only at e;rw [Nat.mul_comm q.1];omega
 omega
theorem turn_some {J:Job} (s:Nat):(restF (turnJ J) s).isSome = (restF J s).isSome:=by
 have key:∀ (K M:Job),(∀ x:Nat×Nat,x∈sizX K->(x.2,x.1)∈sizX M)->(∀ x:Nat×Nat,restQ M s (x.2,x.1) = restQ K s x)->(restF K s).isSome = true->(restF M s).isSome = true:=by
  intro K M h1 h2 h3
  obtain ⟨r,hr⟩:=Option.isSome_iff_exists.1 h3
  have hm:=List.mem_of_find?_eq_some hr
  have hq:restQ K s r = true:=List.find?_some hr
  unfold restF
  rw [List.find?_isSome]
  exact ⟨(r.2,r.1),h1 r hm,by rw [h2];exact hq⟩
 rw [Bool.eq_iff_iff]
 constructor
 ·refine key _ _ (fun x hx => ?_) (fun x => (turn_restQ J s (x.2,x.1)).symm)
  have:=mem_sizesL.1 hx
  exact mem_sizesL.2 ⟨this.2.2.1,this.2.2.2,this.1,this.2.1⟩
 ·refine key _ _ (fun x hx => ?_) (fun x => turn_restQ J s x)
  have:=mem_sizesL.1 hx
  exact mem_sizesL.2 ⟨this.2.2.1,this.2.2.2,this.1,this.2.1⟩
end
end Go.Proofs.Leaf
namespace Go.Proofs.Leaf
open Go Go.RX Go.Proofs Go.RowKit
set_option maxRecDepth 100000
section
instance inst_gT_8:Glob:=gT
theorem law_Turned (J:Job) (hf:J.far) (l:List Int) (hl:l.length<=maxLen):Ctr Tryz.prog 8 [J.sv,ilS l] (bS true):=by
 have hl':l.length<=9223372036854775807:=Nat.le_trans hl (by decide)
 (refine Ctr.mk (fn:=Tryz.f8) rfl rfl rfl rfl rfl Tryz.results8 ?_;intro _;dsimp only [args,List.toList_toArray])
 (first|refine qE ?_|refine qD ?_);(simp only [go_sem,↓dP,↓reduceIte];with_reducible and_intros;all_goals first|apply qA|exact qC|skip)
 refine Ok.seq ?_
 (first|refine qE ?_|refine qD ?_);(simp only [go_sem,↓dP,↓reduceIte];with_reducible and_intros;all_goals first|apply qA|exact qC|skip)
 (refine AskI.ret (c_lright J hf) ?_;simp only [go_sem,↓dP,↓reduceIte];with_reducible and_intros;all_goals first|apply qA|exact qC|skip)
 (refine AskGI.ret (fun _ => c_lslim l hl') ?_;simp only [go_sem,↓dP,↓reduceIte];with_reducible and_intros;all_goals first|apply qA|exact qC|skip)
 (refine AskGI.ret (fun q => c_rSome J (short_held (by simp [rightB] at q;simp [q])).2 l (by simp [slimB] at q;omega)) ?_;simp only [go_sem,↓dP,↓reduceIte];with_reducible and_intros;all_goals first|apply qA|exact qC|skip)
 refine Ok.cond rfl ?_ ?_
 ·intro hs
  (first|refine qE ?_|refine qD ?_);(simp only [go_sem,↓dP,↓reduceIte];with_reducible and_intros;all_goals first|apply qA|exact qC|skip)
  (refine AskI.ret (c_known) ?_;simp only [go_sem,↓dP,↓reduceIte];with_reducible and_intros;all_goals first|apply qA|exact qC|skip)
  (refine Ok.ret ?_;(try dsimp only [thenK,blockK,noGotoK]);simp only [toList_mk,List.toList_toArray,retK_ret,retK_normal,resOK,resV,celV,rowV,frzAll,frzT,subV,subL,go_sem,↓dP,↓reduceIte])
  ((repeat' with_reducible apply And.intro)<;>(first | exact DEq.refl _ | refine DEq.int ?_ | refine DEq.bool ?_ | skip))
 intro hs
 (refine Ok.skip ?_;(try dsimp only [thenK,blockK,noGotoK]))
 obtain ⟨hr,hsl,hA⟩:rightB J = true/\slimB l = true/\someB J.ps.length l = true:=by
  revert hs
  cases rightB J<;>cases slimB l<;>cases someB J.ps.length l<;>simp
 simp only [rightB,Bool.and_eq_true] at hr
 obtain ⟨hsh,hj⟩:=hr
 have hh:=short_held hsh
 have h:=jobB_iff.1 hj
 have hT:=turn_ok h
 have hp:=h.p1
 have hlen:=bsts_len (J:=J) hp
 obtain ⟨L,hL,rfl⟩:=someB_iff.1 hA
 have hsl':(asI L).length<=8:=by simpa [slimB] using hsl
 have hLl:=asI_len L
 have hL2:rises (turnJ J).ps.length 0 L:=by rw [show (turnJ J).ps.length = J.ps.length by simp];exact hL
 have hF1:=toT (c_Fits J h L hL)
 have hF2:=toT (c_Fits (turnJ J) hT L hL2)
 rw [turn_fit] at hF2
 have hC1:=c_Cut J h
 have hC2:=c_Cut (turnJ J) hT
 have hW1:=c_Ways J h
 have hW2:=c_Ways (turnJ J) hT
 rw [turn_bests] at hC2 hW2
 have hmem:∀ m∈bsts J,m.length = J.ps.length/\grows m 0 = true:=fun m hm => bsts_mem hm
 have hxl:(asI ((bsts J).head?.getD [])).length<=100:=by
  cases hq:bsts J with
  | nil => simp
  | cons x B => have:=hmem x (by rw [hq];simp);simp;omega
 generalize bsts J = B at hC1 hC2 hW1 hW2 hlen hxl
 have hs1:=c_tSame (asI (B.head?.getD [])) (asI (B.head?.getD [])) (by omega) (by omega)
 cases hfit:J.fit (setL (asI L)) with
 | false =>
  have hR1:=toT (c_RestNo J h L hL hfit)
  have hR2:=toT (c_RestNo (turnJ J) hT L hL2 (by rw [turn_fit];exact hfit))
  rw [hfit] at hF1 hF2
  (first|refine qE ?_|refine qD ?_);(simp only [go_sem,↓dP,↓reduceIte];with_reducible and_intros;all_goals first|apply qA|exact qC|skip)
  (refine AskI.ret (c_rTurned J (by omega)) ?_;simp only [go_sem,↓dP,↓reduceIte];with_reducible and_intros;all_goals first|apply qA|exact qC|skip)
  (first|refine qE ?_|refine qD ?_);(simp only [go_sem,↓dP,↓reduceIte];with_reducible and_intros;all_goals first|apply qA|exact qC|skip)
  (refine AskI.ret (hF1) ?_;simp only [go_sem,↓dP,↓reduceIte];with_reducible and_intros;all_goals first|apply qA|exact qC|skip)
  (first|refine qE ?_|refine qD ?_);(simp only [go_sem,↓dP,↓reduceIte];with_reducible and_intros;all_goals first|apply qA|exact qC|skip)
  (refine AskI.ret (hF2) ?_;simp only [go_sem,↓dP,↓reduceIte];with_reducible and_intros;all_goals first|apply qA|exact qC|skip)
  (first|refine qE ?_|refine qD ?_);(simp only [go_sem,↓dP,↓reduceIte];with_reducible and_intros;all_goals first|apply qA|exact qC|skip)
  (refine AskI.ret (hC1) ?_;simp only [go_sem,↓dP,↓reduceIte];with_reducible and_intros;all_goals first|apply qA|exact qC|skip)
  (first|refine qE ?_|refine qD ?_);(simp only [go_sem,↓dP,↓reduceIte];with_reducible and_intros;all_goals first|apply qA|exact qC|skip)
  (refine AskI.ret (hC2) ?_;simp only [go_sem,↓dP,↓reduceIte];with_reducible and_intros;all_goals first|apply qA|exact qC|skip)
  (first|refine qE ?_|refine qD ?_);(simp only [go_sem,↓dP,↓reduceIte];with_reducible and_intros;all_goals first|apply qA|exact qC|skip)
  (refine AskI.ret (hW1) ?_;simp only [go_sem,↓dP,↓reduceIte];with_reducible and_intros;all_goals first|apply qA|exact qC|skip)
  (first|refine qE ?_|refine qD ?_);(simp only [go_sem,↓dP,↓reduceIte];with_reducible and_intros;all_goals first|apply qA|exact qC|skip)
  (refine AskI.ret (hW2) ?_;simp only [go_sem,↓dP,↓reduceIte];with_reducible and_intros;all_goals first|apply qA|exact qC|skip)
  (first|refine qE ?_|refine qD ?_);(simp only [go_sem,↓dP,↓reduceIte];with_reducible and_intros;all_goals first|apply qA|exact qC|skip)
  (refine AskI.ret (hR1) ?_;simp only [go_sem,↓dP,↓reduceIte];with_reducible and_intros;all_goals first|apply qA|exact qC|skip)
  (first|refine qE ?_|refine qD ?_);(simp only [go_sem,↓dP,↓reduceIte];with_reducible and_intros;all_goals first|apply qA|exact qC|skip)
  (refine AskI.ret (hR2) ?_;simp only [go_sem,↓dP,↓reduceIte];with_reducible and_intros;all_goals first|apply qA|exact qC|skip)
  refine Ok.seq ?_
  (first|refine qE ?_|refine qD ?_);(simp only [go_sem,↓dP,↓reduceIte];with_reducible and_intros;all_goals first|apply qA|exact qC|skip)
  (refine AskGI.ret (fun _ => hs1) ?_;simp only [go_sem,↓dP,↓reduceIte];with_reducible and_intros;all_goals first|apply qA|exact qC|skip)
  refine Ok.cond rfl (fun hb => by simp at hb) (fun _ => ?_)
  (refine Ok.skip ?_;(try dsimp only [thenK,blockK,noGotoK]))
  refine Ok.seq ?_
  (first|refine qE ?_|refine qD ?_);(simp only [go_sem,↓dP,↓reduceIte];with_reducible and_intros;all_goals first|apply qA|exact qC|skip)
  refine Ok.cond (b:=false) (by first | rfl | (simp only [go_sem,↓dP,↓reduceIte];rfl)) (fun hb => by cases hb) (fun _ => ?_)
  (refine Ok.skip ?_;(try dsimp only [thenK,blockK,noGotoK]))
  (first|refine qE ?_|refine qD ?_);(simp only [go_sem,↓dP,↓reduceIte];with_reducible and_intros;all_goals first|apply qA|exact qC|skip)
  (refine AskGI.ret (fun _ => c_known) ?_;simp only [go_sem,↓dP,↓reduceIte];with_reducible and_intros;all_goals first|apply qA|exact qC|skip)
  (refine Ok.ret ?_;(try dsimp only [thenK,blockK,noGotoK]);simp only [toList_mk,List.toList_toArray,retK_ret,retK_normal,resOK,resV,celV,rowV,frzAll,frzT,subV,subL,go_sem,↓dP,↓reduceIte])
  ((repeat' with_reducible apply And.intro)<;>(first | exact DEq.refl _ | refine DEq.int ?_ | refine DEq.bool ?_ | skip))
 | true =>
  have hR1:=toT (c_Rest J h L hL hfit)
  have hR2:=toT (c_Rest (turnJ J) hT L hL2 (by rw [turn_fit];exact hfit))
  rw [hfit] at hF1 hF2
  have hts:=turn_some (J:=J) (setL (asI L))
  cases hr:restF J (setL (asI L)) with
  | none =>
   rw [hr] at hts
   have hr2:restF (turnJ J) (setL (asI L)) = none:=by simpa using hts
   rw [hr] at hR1
   rw [hr2] at hR2
   simp only [Option.getD_none,Option.isSome_none,Bool.false_eq_true,if_false] at hR1 hR2
   (first|refine qE ?_|refine qD ?_);(simp only [go_sem,↓dP,↓reduceIte];with_reducible and_intros;all_goals first|apply qA|exact qC|skip)
   (refine AskI.ret (c_rTurned J (by omega)) ?_;simp only [go_sem,↓dP,↓reduceIte];with_reducible and_intros;all_goals first|apply qA|exact qC|skip)
   (first|refine qE ?_|refine qD ?_);(simp only [go_sem,↓dP,↓reduceIte];with_reducible and_intros;all_goals first|apply qA|exact qC|skip)
   (refine AskI.ret (hF1) ?_;simp only [go_sem,↓dP,↓reduceIte];with_reducible and_intros;all_goals first|apply qA|exact qC|skip)
   (first|refine qE ?_|refine qD ?_);(simp only [go_sem,↓dP,↓reduceIte];with_reducible and_intros;all_goals first|apply qA|exact qC|skip)
   (refine AskI.ret (hF2) ?_;simp only [go_sem,↓dP,↓reduceIte];with_reducible and_intros;all_goals first|apply qA|exact qC|skip)
   (first|refine qE ?_|refine qD ?_);(simp only [go_sem,↓dP,↓reduceIte];with_reducible and_intros;all_goals first|apply qA|exact qC|skip)
   (refine AskI.ret (hC1) ?_;simp only [go_sem,↓dP,↓reduceIte];with_reducible and_intros;all_goals first|apply qA|exact qC|skip)
   (first|refine qE ?_|refine qD ?_);(simp only [go_sem,↓dP,↓reduceIte];with_reducible and_intros;all_goals first|apply qA|exact qC|skip)
   (refine AskI.ret (hC2) ?_;simp only [go_sem,↓dP,↓reduceIte];with_reducible and_intros;all_goals first|apply qA|exact qC|skip)
   (first|refine qE ?_|refine qD ?_);(simp only [go_sem,↓dP,↓reduceIte];with_reducible and_intros;all_goals first|apply qA|exact qC|skip)
   (refine AskI.ret (hW1) ?_;simp only [go_sem,↓dP,↓reduceIte];with_reducible and_intros;all_goals first|apply qA|exact qC|skip)
   (first|refine qE ?_|refine qD ?_);(simp only [go_sem,↓dP,↓reduceIte];with_reducible and_intros;all_goals first|apply qA|exact qC|skip)
   (refine AskI.ret (hW2) ?_;simp only [go_sem,↓dP,↓reduceIte];with_reducible and_intros;all_goals first|apply qA|exact qC|skip)
   (first|refine qE ?_|refine qD ?_);(simp only [go_sem,↓dP,↓reduceIte];with_reducible and_intros;all_goals first|apply qA|exact qC|skip)
   (refine AskI.ret (hR1) ?_;simp only [go_sem,↓dP,↓reduceIte];with_reducible and_intros;all_goals first|apply qA|exact qC|skip)
   (first|refine qE ?_|refine qD ?_);(simp only [go_sem,↓dP,↓reduceIte];with_reducible and_intros;all_goals first|apply qA|exact qC|skip)
   (refine AskI.ret (hR2) ?_;simp only [go_sem,↓dP,↓reduceIte];with_reducible and_intros;all_goals first|apply qA|exact qC|skip)
   refine Ok.seq ?_
   (first|refine qE ?_|refine qD ?_);(simp only [go_sem,↓dP,↓reduceIte];with_reducible and_intros;all_goals first|apply qA|exact qC|skip)
   (refine AskGI.ret (fun _ => hs1) ?_;simp only [go_sem,↓dP,↓reduceIte];with_reducible and_intros;all_goals first|apply qA|exact qC|skip)
   refine Ok.cond rfl (fun hb => by simp at hb) (fun _ => ?_)
   (refine Ok.skip ?_;(try dsimp only [thenK,blockK,noGotoK]))
   refine Ok.seq ?_
   (first|refine qE ?_|refine qD ?_);(simp only [go_sem,↓dP,↓reduceIte];with_reducible and_intros;all_goals first|apply qA|exact qC|skip)
   refine Ok.cond (b:=false) (by first | rfl | (simp only [go_sem,↓dP,↓reduceIte];rfl)) (fun hb => by cases hb) (fun _ => ?_)
   (refine Ok.skip ?_;(try dsimp only [thenK,blockK,noGotoK]))
   (first|refine qE ?_|refine qD ?_);(simp only [go_sem,↓dP,↓reduceIte];with_reducible and_intros;all_goals first|apply qA|exact qC|skip)
   (refine AskGI.ret (fun _ => c_known) ?_;simp only [go_sem,↓dP,↓reduceIte];with_reducible and_intros;all_goals first|apply qA|exact qC|skip)
   (refine Ok.ret ?_;(try dsimp only [thenK,blockK,noGotoK]);simp only [toList_mk,List.toList_toArray,retK_ret,retK_normal,resOK,resV,celV,rowV,frzAll,frzT,subV,subL,go_sem,↓dP,↓reduceIte])
   ((repeat' with_reducible apply And.intro)<;>(first | exact DEq.refl _ | refine DEq.int ?_ | refine DEq.bool ?_ | skip))
  | some r =>
   rw [hr] at hts
   obtain ⟨q,hq⟩:=Option.isSome_iff_exists.1 hts
   have hbest:=turn_best hr hq
   obtain ⟨a1,a2,a3,a4,_⟩:=rest_some hr
   obtain ⟨b1,b2,b3,b4,_⟩:=rest_some hq
   rw [hr] at hR1
   rw [hq] at hR2
   simp only [Option.getD_some,Option.isSome_some,if_true] at hR1 hR2
   have hw0:=h.w0
   have hw1:=h.w1
   have hh0:=h.h0
   have hh1:=h.h1
   have b2':q.1<=J.high.toNat:=b2
   have b4':q.2<=J.wide.toNat:=b4
   obtain ⟨m1,m2⟩:=mul36 (a:=(r.1:Int)) (b:=(r.2:Int)) (by omega) (by omega) (by omega) (by omega)
   obtain ⟨n1,n2⟩:=mul36 (a:=(q.1:Int)) (b:=(q.2:Int)) (by omega) (by omega) (by omega) (by omega)
   have he:(r.1:Int) * (r.2:Int) = (q.1:Int) * (q.2:Int):=by rw [← Int.natCast_mul,← Int.natCast_mul,hbest]
   have c1:(r.1:Int)<=J.wide:=by omega
   have c2:(r.2:Int)<=J.high:=by omega
   have c3:(q.1:Int)<=J.high:=by omega
   have c4:(q.2:Int)<=J.wide:=by omega
   (first|refine qE ?_|refine qD ?_);(simp only [go_sem,↓dP,↓reduceIte];with_reducible and_intros;all_goals first|apply qA|exact qC|skip)
   (refine AskI.ret (c_rTurned J (by omega)) ?_;simp only [go_sem,↓dP,↓reduceIte];with_reducible and_intros;all_goals first|apply qA|exact qC|skip)
   (first|refine qE ?_|refine qD ?_);(simp only [go_sem,↓dP,↓reduceIte];with_reducible and_intros;all_goals first|apply qA|exact qC|skip)
   (refine AskI.ret (hF1) ?_;simp only [go_sem,↓dP,↓reduceIte];with_reducible and_intros;all_goals first|apply qA|exact qC|skip)
   (first|refine qE ?_|refine qD ?_);(simp only [go_sem,↓dP,↓reduceIte];with_reducible and_intros;all_goals first|apply qA|exact qC|skip)
   (refine AskI.ret (hF2) ?_;simp only [go_sem,↓dP,↓reduceIte];with_reducible and_intros;all_goals first|apply qA|exact qC|skip)
   (first|refine qE ?_|refine qD ?_);(simp only [go_sem,↓dP,↓reduceIte];with_reducible and_intros;all_goals first|apply qA|exact qC|skip)
   (refine AskI.ret (hC1) ?_;simp only [go_sem,↓dP,↓reduceIte];with_reducible and_intros;all_goals first|apply qA|exact qC|skip)
   (first|refine qE ?_|refine qD ?_);(simp only [go_sem,↓dP,↓reduceIte];with_reducible and_intros;all_goals first|apply qA|exact qC|skip)
   (refine AskI.ret (hC2) ?_;simp only [go_sem,↓dP,↓reduceIte];with_reducible and_intros;all_goals first|apply qA|exact qC|skip)
   (first|refine qE ?_|refine qD ?_);(simp only [go_sem,↓dP,↓reduceIte];with_reducible and_intros;all_goals first|apply qA|exact qC|skip)
   (refine AskI.ret (hW1) ?_;simp only [go_sem,↓dP,↓reduceIte];with_reducible and_intros;all_goals first|apply qA|exact qC|skip)
   (first|refine qE ?_|refine qD ?_);(simp only [go_sem,↓dP,↓reduceIte];with_reducible and_intros;all_goals first|apply qA|exact qC|skip)
   (refine AskI.ret (hW2) ?_;simp only [go_sem,↓dP,↓reduceIte];with_reducible and_intros;all_goals first|apply qA|exact qC|skip)
   (first|refine qE ?_|refine qD ?_);(simp only [go_sem,↓dP,↓reduceIte];with_reducible and_intros;all_goals first|apply qA|exact qC|skip)
   (refine AskI.ret (hR1) ?_;simp only [go_sem,↓dP,↓reduceIte];with_reducible and_intros;all_goals first|apply qA|exact qC|skip)
   (first|refine qE ?_|refine qD ?_);(simp only [go_sem,↓dP,↓reduceIte];with_reducible and_intros;all_goals first|apply qA|exact qC|skip)
   (refine AskI.ret (hR2) ?_;simp only [go_sem,↓dP,↓reduceIte];with_reducible and_intros;all_goals first|apply qA|exact qC|skip)
   refine Ok.seq ?_
   (first|refine qE ?_|refine qD ?_);(simp only [go_sem,↓dP,↓reduceIte];with_reducible and_intros;all_goals first|apply qA|exact qC|skip)
   (refine AskGI.ret (fun _ => hs1) ?_;simp only [go_sem,↓dP,↓reduceIte];with_reducible and_intros;all_goals first|apply qA|exact qC|skip)
   refine Ok.cond rfl (fun hb => by simp at hb) (fun _ => ?_)
   (refine Ok.skip ?_;(try dsimp only [thenK,blockK,noGotoK]))
   refine Ok.seq ?_
   (first|refine qE ?_|refine qD ?_);(simp only [go_sem,↓dP,↓reduceIte];with_reducible and_intros;all_goals first|apply qA|exact qC|skip)
   refine Ok.cond rfl (fun hb => by simp only [Bool.or_eq_true,decide_eq_true_eq] at hb;omega) (fun _ => ?_)
   (refine Ok.skip ?_;(try dsimp only [thenK,blockK,noGotoK]))
   (first|refine qE ?_|refine qD ?_);(simp only [go_sem,↓dP,↓reduceIte];with_reducible and_intros;all_goals first|apply qA|exact qC|skip)
   (refine AskGI.ret (fun _ => c_known) ?_;simp only [go_sem,↓dP,↓reduceIte];with_reducible and_intros;all_goals first|apply qA|exact qC|skip)
   (refine Ok.ret ?_;(try dsimp only [thenK,blockK,noGotoK]);simp only [toList_mk,List.toList_toArray,retK_ret,retK_normal,resOK,resV,celV,rowV,frzAll,frzT,subV,subL,go_sem,↓dP,↓reduceIte])
   ((repeat' with_reducible apply And.intro)<;>(first | exact DEq.refl _ | refine DEq.int ?_ | refine DEq.bool ?_ | skip))
   exact beq_iff_eq.2 he
end
end Go.Proofs.Leaf
namespace Go.Proofs.YtdajcfdhcjbmmaaGreatDoor
open Go Go.RX Go.Proofs.Leaf Go.RowKit Go.ChangeShapes Go.WideShapes Go.ChangeAt
set_option maxRecDepth 100000
theorem leafTurned_ctr (As:List SV) (h:opensAll [25,26] As):Ctr Tryz.prog 8 As (bS true):=by
 obtain ⟨_,A1,rfl,h0,h⟩:=opensAll_cons h
 obtain ⟨_,A2,rfl,h1,h⟩:=opensAll_cons h
 obtain rfl:=opensAll_nil h
 obtain ⟨x0,rfl,y0⟩:=opens_job h0
 obtain ⟨x1,rfl,y1⟩:=opens_ints h1
 exact law_Turned x0 y0 x1 y1
theorem leafTurned_facts:joinedFacts Tryz.prog 8 Tryz.f8 Rows.leafTurnedSpec Rows.leafTurnedRow = true:=by unfold joinedFacts;rw [enter_is,final_is,make_is];kernel_rfl
theorem leafTurned_lifted (os:Os) (started:os.Started) (H:Type) (enc:TypeId×Value->H) :
  ReturnsInHanded {} Tryz.checked os 8 .any (fun w args => (Rows.leafTurnedSpec.pre enc Tryz.prog Tryz.f8 [] false w args/\laidMetH Tryz.prog laid5 w)/\sizedMet enc Tryz.prog Tryz.f8 (OpenSpec.ofChange Rows.leafTurnedSpec) false w args)
   (Rows.leafTurnedSpec.post enc Tryz.prog Tryz.f8 false true false false):=by
 refine law_ctr (ts:=[25,26]) Rows.leafTurnedSpec rfl started (by kernel_rfl) Tryz.func8 (by kernel_rfl) (by rw [Tryz.params8]) (by unfold argT;decide)
  (fun ds hd => ?_)
  (ChangeSpec.witness_shaped (enc:=enc) (C:=Tryz.checked) (os:=os) (X:=fun w _ => laidMetH Tryz.prog laid5 w) false (World.laidAll Tryz.prog os laid5) #[zJ,zL] 8 (World.laidAll_os _ _ _)
   (World.shaped_of_ZipB (by kernel_rfl) (by kernel_rfl)) (by kernel_rfl) (by kernel_rfl) (by kernel_rfl)
   (by rw [MakeChecks.laidMetH_plain _ _ _ (by kernel_rfl)];exact laidMet_laidAll _ (by kernel_rfl) (by kernel_rfl))) leafTurned_ctr
 match ds,hd with
 | [d0,d1],_ => rfl
theorem leafTurned_row:Rows.LeafTurnedSaid :=
 OpenClaim.holds_of_wide 8 Tryz.f8 rfl rfl rfl rfl rfl rfl rfl ⟨rfl,rfl,rfl,rfl,rfl⟩ rfl rfl rfl rfl rfl (by kernel_rfl) Tryz.func8 leafTurned_facts (of_decide_eq_true (by kernel_rfl))
  (by unfold Func.isWrapper;first | (rw [if_pos (by decide +kernel)];kernel_rfl) | (rw [if_neg (by decide +kernel)];exact ⟨rfl,rfl⟩)) (fun os started H enc _ => leafTurned_lifted os started H enc)
theorem leafTurned_card:Rows.LeafTurnedCardSaid :=
 Claim7.holds_tied_plain_at .later [] [.data,.data,.data,.data,.pinned] true (true,"9e87e616c4e1775f9d0f73ad686290748eaae9f5c03add0b1bcc61ba8396e555") true leafTurned_row
  (fun _ h => by cases h) (by kernel_rfl) (fun _ h => by cases h) leafTurned_row_tie rfl ⟨rfl,rfl⟩ main_is rfl
  (fun f fn hf hfn => by
   obtain rfl:f = 8:=Option.some.inj ((show Tryz.prog.funcNamed "mahlstick/mahlsticklaw04.LeafTurned" = some 8 by kernel_rfl).symm.trans hf) |>.symm
   obtain rfl:fn = Tryz.f8:=(Option.some.inj (Tryz.func8.symm.trans hfn)).symm
   exact ⟨by kernel_rfl,fun j t ht => by
    rw [Tryz.params8] at ht
    exact law_stand (ts:=[25,26]) (by unfold argT;decide) (by simpa using Array.mem_of_getElem? ht)⟩) (by kernel_rfl)
end Go.Proofs.YtdajcfdhcjbmmaaGreatDoor
