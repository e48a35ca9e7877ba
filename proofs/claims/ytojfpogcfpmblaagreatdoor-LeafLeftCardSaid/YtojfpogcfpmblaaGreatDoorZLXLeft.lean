/-
  What is left: LeafLeft returns true at every input, and leaves it as it was.
  No condition beside those that the statement itself names.
-/
import Derived.Test.YtojfpogcfpmblaaGreatDoorB30
import Derived.ChangeMaps5
set_option linter.all false
namespace Go.Proofs.Leaf
theorem single_pow (n:Nat):single (2 ^ n) = true:=by
 unfold single
 rw [decide_eq_true_eq]
 induction n with
 | zero => rfl
 | succ n ih =>
  have h0:0 < 2 ^ n:=Nat.pow_pos (by decide)
  have e1:2 ^ (n + 1) / 2 = 2 ^ n:=by rw [Nat.pow_succ];omega
  have e2:(2 ^ (n + 1) - 1) / 2 = 2 ^ n - 1:=by rw [Nat.pow_succ];omega
  have hd:=and_div (2 ^ (n + 1)) (2 ^ (n + 1) - 1)
  rw [e1,e2,ih] at hd
  have hb:((2 ^ (n + 1)) &&& (2 ^ (n + 1) - 1)).testBit 0 = false:=by
   rw [Nat.testBit_and,Nat.testBit_zero]
   have:2 ^ (n + 1) % 2 = 0:=by rw [Nat.pow_succ];omega
   rw [this];rfl
  rw [Nat.testBit_zero] at hb
  simp only [decide_eq_false_iff_not] at hb
  omega
end Go.Proofs.Leaf
namespace Go.Proofs.Leaf
theorem can_piece {ps ps':List Piece} (hl:ps'.length = ps.length) (hp:∀ n,n < ps.length->∀ w h,alone (ps.getD n default) w h = true->alone (ps'.getD n default) w h = true) (ha:∀ s,area ps' s<=area ps s) :
  ∀ (k w h s:Nat),w + h<=k->can ps w h s = true->can ps' w h s = true:=by
 intro k
 have one:∀ (w h s:Nat),s ≠ 0->single s = true->can ps w h s = true->can ps' w h s = true:=by
  intro w h s h0 h1 hc
  obtain ⟨n,hn,e,ha⟩:=(can_one h0 h1).1 hc
  exact (can_one h0 h1).2 ⟨n,by omega,e,hp n hn w h ha⟩
 induction k with
 | zero =>
  intro w h s hk hc
  by_cases h0:s = 0
  ·subst h0;exact can_zero ..
  ·cases h1:single s with
   | true => exact one w h s h0 h1 hc
   | false => obtain ⟨_,⟨n,_,_,hn,_⟩ | ⟨n,_,_,hn,_⟩⟩:=(can_more h0 h1).1 hc<;>omega
 | succ k ih =>
  intro w h s hk hc
  by_cases h0:s = 0
  ·subst h0;exact can_zero ..
  ·cases h1:single s with
   | true => exact one w h s h0 h1 hc
   | false =>
    obtain ⟨hle,hx⟩:=(can_more h0 h1).1 hc
    refine (can_more h0 h1).2 ⟨Int.le_trans (ha s) hle,?_⟩
    rcases hx with ⟨n,t,q1,q2,q3,q4,q5⟩ | ⟨n,t,q1,q2,q3,q4,q5⟩
    ·exact .inl ⟨n,t,q1,q2,q3,ih n h t (by omega) q4,ih (w - n) h _ (by omega) q5⟩
    ·exact .inr ⟨n,t,q1,q2,q3,ih w n t (by omega) q4,ih w (h - n) _ (by omega) q5⟩
theorem area_mono:∀ (ps ps':List Piece) (s:Nat),ps'.length = ps.length->(∀ n,n < ps.length->(ps'.getD n default).w * (ps'.getD n default).h<=(ps.getD n default).w * (ps.getD n default).h)->area ps' s<=area ps s
 | [],[],_,_,_ => Int.le_refl _
 | p :: ps,q :: ps',s,hl,h => by
  have ih:=area_mono ps ps' (s / 2) (by simpa using hl) (fun n hn => by simpa using h (n + 1) (by simpa using hn))
  have h0:=h 0 (by simp)
  simp only [List.getD_cons_zero] at h0
  simp only [area]
  split<;>omega
 | [],_ :: _,_,hl,_ => by simp at hl
 | _ :: _,[],_,hl,_ => by simp at hl
theorem sizesA_sorted (w h a:Nat):(sizesA w h a).Pairwise larger:=by
 rw [sizesA,List.pairwise_filterMap]
 refine List.pairwise_lt_range.imp_of_mem (fun {i j} hi hj hlt x hx y hy => ?_)
 have hj:=List.mem_range.1 hj
 simp only [Option.ite_none_right_eq_some,Option.some.injEq] at hx hy
 obtain ⟨⟨h1,_⟩,rfl⟩:=hx
 obtain ⟨⟨h2,_⟩,rfl⟩:=hy
 refine .inr ⟨?_,?_⟩
 ·show (w - i) * (a / (w - i)) = (w - j) * (a / (w - j))
  rw [Nat.mul_comm,h1,Nat.mul_comm,h2]
 ·show w - j < w - i
  omega
theorem sizes_sorted (w h:Nat):(sizesL w h).Pairwise larger:=by
 rw [sizesL,List.pairwise_flatMap]
 refine ⟨fun i _ => sizesA_sorted _ _ _,List.pairwise_lt_range.imp_of_mem (fun {i j} hi hj hlt x hx y hy => ?_)⟩
 have hj:=List.mem_range.1 hj
 have h1:=(mem_sizesA.1 hx).2.2.2
 have h2:=(mem_sizesA.1 hy).2.2.2
 rw [Nat.mul_comm] at h1 h2
 exact .inl (by omega)
theorem find_sorted {α:Type} {r:α->α->Prop} {L:List α} {q:α->Bool} (hs:L.Pairwise r) {x:α} (hx:L.find? q = some x) {y:α} (hy:y∈L) (hq:q y = true):y = x∨r x y:=by
 rw [List.find?_eq_some_iff_append] at hx
 obtain ⟨_,as1,bs,rfl,hno⟩:=hx
 rcases List.mem_append.1 hy with h1 | h1
 ·have:=hno y h1
  rw [hq] at this;cases this
 ·rcases List.mem_cons.1 h1 with rfl | h1
  ·exact .inl rfl
  ·exact .inr ((List.pairwise_cons.1 (List.pairwise_append.1 hs).2.1).1 y h1)
end Go.Proofs.Leaf
namespace Go.Proofs.Leaf
open Go Go.RX Go.Proofs
set_option maxRecDepth 10000
variable [Glob]
theorem c_rin (n lo hi:Int):Ctr Tryz.prog 60 [iS n,iS lo,iS hi] (bS (inB n lo hi)):=by
 (refine Ctr.mk (fn:=Tryz.f60) rfl rfl rfl rfl rfl Tryz.results60 ?_;intro _;dsimp only [args,List.toList_toArray])
 (first|refine qE ?_|refine qD ?_);(simp only [go_sem,↓dP,↓reduceIte];with_reducible and_intros;all_goals first|apply qA|exact qC|skip)
 (first|refine qE ?_|refine qD ?_);(simp only [go_sem,↓dP,↓reduceIte];with_reducible and_intros;all_goals first|apply qA|exact qC|skip)
 (refine Ok.ret ?_;(try dsimp only [thenK,blockK,noGotoK]);simp only [toList_mk,List.toList_toArray,retK_ret,retK_normal,resOK,resV,celV,rowV,frzAll,frzT,subV,subL,go_sem,↓dP,↓reduceIte])
 exact .refl _
end Go.Proofs.Leaf
namespace Go.Proofs.Leaf
open Go Go.RX Go.Proofs
set_option maxRecDepth 10000
variable [Glob]
theorem c_rPiece (J:Job) (hh:J.ps.length < 1000000) (n:Int):Ctr Tryz.prog 33 [J.sv,iS n] (bS (inB n 0 (J.ps.length - 1))):=by
 (refine Ctr.mk (fn:=Tryz.f33) rfl rfl rfl rfl rfl Tryz.results33 ?_;intro _;dsimp only [args,List.toList_toArray])
 (first|refine qE ?_|refine qD ?_);(simp only [go_sem,↓dP,↓reduceIte];with_reducible and_intros;all_goals first|apply qA|exact qC|skip)
 (first|refine qE ?_|refine qD ?_);(simp only [go_sem,↓dP,↓reduceIte];with_reducible and_intros;all_goals first|apply qA|exact qC|skip)
 (refine AskI.ret (c_rin _ _ _) ?_;simp only [go_sem,↓dP,↓reduceIte];with_reducible and_intros;all_goals first|apply qA|exact qC|skip)
 (refine Ok.ret ?_;(try dsimp only [thenK,blockK,noGotoK]);simp only [toList_mk,List.toList_toArray,retK_ret,retK_normal,resOK,resV,celV,rowV,frzAll,frzT,subV,subL,go_sem,↓dP,↓reduceIte])
 exact .refl _
theorem c_rSome (J:Job) (hh:J.ps.length < 1000000) (l:List Int) (hl:l.length < 1000000):Ctr Tryz.prog 16 [J.sv,ilS l] (bS (someB J.ps.length l)):=by
 (refine Ctr.mk (fn:=Tryz.f16) rfl rfl rfl rfl rfl Tryz.results16 ?_;intro _;dsimp only [args,List.toList_toArray])
 (first|refine qE ?_|refine qD ?_);(simp only [go_sem,↓dP,↓reduceIte];with_reducible and_intros;all_goals first|apply qA|exact qC|skip)
 refine Ok.seq ?_
 (first|refine qE ?_|refine qD ?_);(simp only [go_sem,↓dP,↓reduceIte];with_reducible and_intros;all_goals first|apply qA|exact qC|skip)
 refine Ok.block ?_
 refine Ok.count l.length (fun i => ⟨[(1,ilS l),(2,.p 0 0),(5,iS i)],[jobC J],[]⟩) (fun i => ∀ j,j < i->pieceAt J.ps.length l j = true) ⟨fun j hj => by omega,?_⟩ ?_ ?_
 ·(refine Sub.of ([0]) ([]) ?_ ?_ ?_ rfl rfl<;>simp only [subB,subB1,subT,subT1,newT,subE,subV,subL,go_sem,↓dP,↓reduceIte]<;>(try (repeat' with_reducible apply And.intro))<;>(try first | exact DEq.refl _ | refine DEq.int ?_ | refine DEq.bool ?_ | omega))
 ·intro i hi hJ
  have e1:((i:Int) - 1).toNat = i - 1:=by omega
  refine Ok.seq ?_;((first|refine qE ?_|refine qD ?_);(simp only [go_sem,↓dP,↓reduceIte];with_reducible and_intros;all_goals first|apply qA|exact qC|skip));refine Ok.cond rfl (fun _ => ?_) (fun hb => by simp at hb;omega);(refine Ok.skip ?_;(try dsimp only [thenK,blockK,noGotoK]));refine Ok.seq ?_;refine Ok.block ?_
  (first|refine qE ?_|refine qD ?_);(simp only [go_sem,↓dP,↓reduceIte];with_reducible and_intros;all_goals first|apply qA|exact qC|skip)
  (refine AskI.ret (c_rPiece J hh _) ?_;simp only [go_sem,↓dP,↓reduceIte];with_reducible and_intros;all_goals first|apply qA|exact qC|skip)
  ·intro h
   simp only [Bool.and_eq_true,beq_iff_eq,decide_eq_true_eq] at h
   omega
  have hst:pieceAt J.ps.length l i = (inB (l.getD i default) 0 (J.ps.length - 1) && (decide (i = 0) || decide (l.getD (i - 1) default < l.getD i default))):=rfl
  refine Ok.cond rfl ?_ ?_
  ·intro hx
   have hF:pieceAt J.ps.length l i = false:=by
    rw [hst]
    revert hx
    rw [e1]
    cases inB (l.getD i default) 0 (J.ps.length - 1)<;>simp<;>omega
   (first|refine qE ?_|refine qD ?_);(simp only [go_sem,↓dP,↓reduceIte];with_reducible and_intros;all_goals first|apply qA|exact qC|skip)
   (refine Ok.ret ?_;(try dsimp only [thenK,blockK,noGotoK]);simp only [toList_mk,List.toList_toArray,retK_ret,retK_normal,resOK,resV,celV,rowV,frzAll,frzT,subV,subL,go_sem,↓dP,↓reduceIte])
   rw [someB_no hi hF]
   exact .refl _
  ·intro hx
   have hT:pieceAt J.ps.length l i = true:=by
    rw [hst]
    revert hx
    rw [e1]
    cases inB (l.getD i default) 0 (J.ps.length - 1)<;>simp<;>omega
   (refine Ok.skip ?_;(try dsimp only [thenK,blockK,noGotoK]))
   (first|refine qE ?_|refine qD ?_);(simp only [go_sem,↓dP,↓reduceIte];with_reducible and_intros;all_goals first|apply qA|exact qC|skip)
   (try dsimp only [thenK,blockK,noGotoK])
   refine ⟨fun j hj => ?_,?_⟩
   ·by_cases e:j = i
    ·subst e;exact hT
    ·exact hJ j (by omega)
   (refine Sub.of ([0]) ([]) ?_ ?_ ?_ rfl rfl<;>simp only [subB,subB1,subT,subT1,newT,subE,subV,subL,go_sem,↓dP,↓reduceIte]<;>(try (repeat' with_reducible apply And.intro))<;>(try first | exact DEq.refl _ | refine DEq.int ?_ | refine DEq.bool ?_ | omega))
 ·intro hJ
  refine Ok.seq ?_;((first|refine qE ?_|refine qD ?_);(simp only [go_sem,↓dP,↓reduceIte];with_reducible and_intros;all_goals first|apply qA|exact qC|skip));refine Ok.cond rfl (fun hb => by simp at hb) (fun _ => ?_);(refine Ok.exit ?_;simp only [thenK_exit,blockK_exit,noGotoK_exit,thenK_normal,blockK_normal,noGotoK_normal,↓reduceIte,Nat.reduceEqDiff])
  (first|refine qE ?_|refine qD ?_);(simp only [go_sem,↓dP,↓reduceIte];with_reducible and_intros;all_goals first|apply qA|exact qC|skip)
  (refine Ok.ret ?_;(try dsimp only [thenK,blockK,noGotoK]);simp only [toList_mk,List.toList_toArray,retK_ret,retK_normal,resOK,resV,celV,rowV,frzAll,frzT,subV,subL,go_sem,↓dP,↓reduceIte])
  rw [someB_yes hJ]
  exact .refl _
end Go.Proofs.Leaf
namespace Go.Proofs.Leaf
open Go Go.RX Go.Proofs
set_option maxRecDepth 10000
variable [Glob]
theorem c_tListed (l:List Int) (v:Int) (hl:l.length < 1000000):Ctr Tryz.prog 19 [ilS l,iS v] (bS (decide (v∈l))):=by
 rw [← any_mem]
 (refine Ctr.mk (fn:=Tryz.f19) rfl rfl rfl rfl rfl Tryz.results19 ?_;intro _;dsimp only [args,List.toList_toArray])
 (first|refine qE ?_|refine qD ?_);(simp only [go_sem,↓dP,↓reduceIte];with_reducible and_intros;all_goals first|apply qA|exact qC|skip)
 refine Ok.seq ?_
 (first|refine qE ?_|refine qD ?_);(simp only [go_sem,↓dP,↓reduceIte];with_reducible and_intros;all_goals first|apply qA|exact qC|skip)
 refine Ok.block ?_
 refine Ok.count l.length (fun i => ⟨[(0,ilS l),(1,iS v),(5,iS i)],[],[]⟩) (fun i => ∀ x∈l.take i,(v == x) = false) ⟨fun x hx => by simp at hx,?_⟩ ?_ ?_
 ·(refine Sub.of ([]) ([]) ?_ ?_ ?_ rfl rfl<;>simp only [subB,subB1,subT,subT1,newT,subE,subV,subL,go_sem,↓dP,↓reduceIte]<;>(try (repeat' with_reducible apply And.intro))<;>(try first | exact DEq.refl _ | refine DEq.int ?_ | refine DEq.bool ?_ | omega))
 ·intro i hi h0
  have hsw:((l.getD i default == v):Bool) = (v == l.getD i default):=by rw [Bool.eq_iff_iff];simp only [beq_iff_eq];exact ⟨Eq.symm,Eq.symm⟩
  refine Ok.seq ?_;((first|refine qE ?_|refine qD ?_);(simp only [go_sem,↓dP,↓reduceIte];with_reducible and_intros;all_goals first|apply qA|exact qC|skip));refine Ok.cond rfl (fun _ => ?_) (fun hb => by simp at hb;omega);(refine Ok.skip ?_;(try dsimp only [thenK,blockK,noGotoK]));refine Ok.seq ?_;refine Ok.block ?_
  (first|refine qE ?_|refine qD ?_);(simp only [go_sem,↓dP,↓reduceIte];with_reducible and_intros;all_goals first|apply qA|exact qC|skip)
  refine Ok.cond rfl ?_ ?_
  ·intro hp
   rw [hsw] at hp
   (first|refine qE ?_|refine qD ?_);(simp only [go_sem,↓dP,↓reduceIte];with_reducible and_intros;all_goals first|apply qA|exact qC|skip)
   (refine Ok.ret ?_;(try dsimp only [thenK,blockK,noGotoK]);simp only [toList_mk,List.toList_toArray,retK_ret,retK_normal,resOK,resV,celV,rowV,frzAll,frzT,subV,subL,go_sem,↓dP,↓reduceIte])
   refine DEq.bool ?_
   rw [List.any_eq_true.2 ⟨_,getD_mem hi,hp⟩]
  ·intro hp
   rw [hsw] at hp
   (refine Ok.skip ?_;(try dsimp only [thenK,blockK,noGotoK]))
   (first|refine qE ?_|refine qD ?_);(simp only [go_sem,↓dP,↓reduceIte];with_reducible and_intros;all_goals first|apply qA|exact qC|skip)
   (try dsimp only [thenK,blockK,noGotoK])
   refine ⟨no_step hi h0 hp,?_⟩
   (refine Sub.of ([]) ([]) ?_ ?_ ?_ rfl rfl<;>simp only [subB,subB1,subT,subT1,newT,subE,subV,subL,go_sem,↓dP,↓reduceIte]<;>(try (repeat' with_reducible apply And.intro))<;>(try first | exact DEq.refl _ | refine DEq.int ?_ | refine DEq.bool ?_ | omega))
 ·intro h0
  refine Ok.seq ?_;((first|refine qE ?_|refine qD ?_);(simp only [go_sem,↓dP,↓reduceIte];with_reducible and_intros;all_goals first|apply qA|exact qC|skip));refine Ok.cond rfl (fun hb => by simp at hb) (fun _ => ?_);(refine Ok.exit ?_;simp only [thenK_exit,blockK_exit,noGotoK_exit,thenK_normal,blockK_normal,noGotoK_normal,↓reduceIte,Nat.reduceEqDiff])
  (first|refine qE ?_|refine qD ?_);(simp only [go_sem,↓dP,↓reduceIte];with_reducible and_intros;all_goals first|apply qA|exact qC|skip)
  (refine Ok.ret ?_;(try dsimp only [thenK,blockK,noGotoK]);simp only [toList_mk,List.toList_toArray,retK_ret,retK_normal,resOK,resV,celV,rowV,frzAll,frzT,subV,subL,go_sem,↓dP,↓reduceIte])
  refine DEq.bool ?_
  rw [List.any_eq_false.2 (fun x hx => by simp [h0 x (by simpa using hx)])]
end Go.Proofs.Leaf
namespace Go.Proofs.Leaf
open Go Go.RX Go.Proofs
set_option maxRecDepth 10000
variable [Glob]
theorem c_rJob (J:Job) (hh:J.held):Ctr Tryz.prog 24 [J.sv] (bS (jobB J)):=by
 have hh1:=hh.1
 have hh2:=hh.2
 (refine Ctr.mk (fn:=Tryz.f24) rfl rfl rfl rfl rfl Tryz.results24 ?_;intro _;dsimp only [args,List.toList_toArray])
 (first|refine qE ?_|refine qD ?_);(simp only [go_sem,↓dP,↓reduceIte];with_reducible and_intros;all_goals first|apply qA|exact qC|skip)
 refine Ok.seq ?_
 (first|refine qE ?_|refine qD ?_);(simp only [go_sem,↓dP,↓reduceIte];with_reducible and_intros;all_goals first|apply qA|exact qC|skip)
 (refine AskI.ret (c_rin _ _ _) ?_;simp only [go_sem,↓dP,↓reduceIte];with_reducible and_intros;all_goals first|apply qA|exact qC|skip)
 (refine AskGI.ret (fun _ => c_rin _ _ _) ?_;simp only [go_sem,↓dP,↓reduceIte];with_reducible and_intros;all_goals first|apply qA|exact qC|skip)
 (refine AskGI.ret (fun _ => c_rin _ _ _) ?_;simp only [go_sem,↓dP,↓reduceIte];with_reducible and_intros;all_goals first|apply qA|exact qC|skip)
 ·intro h
  have:inB J.book 1 25 = true:=by revert h;cases inB J.book 1 25<;>simp
  rw [inB_iff] at this
  exact R64 (by omega) (by omega)
 (refine AskGI.ret (fun _ => c_rin _ _ _) ?_;simp only [go_sem,↓dP,↓reduceIte];with_reducible and_intros;all_goals first|apply qA|exact qC|skip)
 (refine AskGI.ret (fun _ => c_rin _ _ _) ?_;simp only [go_sem,↓dP,↓reduceIte];with_reducible and_intros;all_goals first|apply qA|exact qC|skip)
 (refine AskGI.ret (fun _ => c_rin _ _ _) ?_;simp only [go_sem,↓dP,↓reduceIte];with_reducible and_intros;all_goals first|apply qA|exact qC|skip)
 refine Ok.cond rfl ?_ ?_
 ·intro hb
  (first|refine qE ?_|refine qD ?_);(simp only [go_sem,↓dP,↓reduceIte];with_reducible and_intros;all_goals first|apply qA|exact qC|skip)
  (refine Ok.ret ?_;(try dsimp only [thenK,blockK,noGotoK]);simp only [toList_mk,List.toList_toArray,retK_ret,retK_normal,resOK,resV,celV,rowV,frzAll,frzT,subV,subL,go_sem,↓dP,↓reduceIte])
  refine DEq.bool ?_
  have:headB J = false:=by
   revert hb
   unfold headB
   cases inB J.wide 1 6<;>cases inB J.high 1 6<;>cases inB J.book 1 25<;>cases inB J.spoilt 0 (J.book - 1)<;>cases inB J.gs.length 1 3<;>cases inB J.ps.length 1 5<;>simp
  simp [jobB,this]
 intro hb
 have hhead:headB J = true:=by
  revert hb
  unfold headB
  cases inB J.wide 1 6<;>cases inB J.high 1 6<;>cases inB J.book 1 25<;>cases inB J.spoilt 0 (J.book - 1)<;>cases inB J.gs.length 1 3<;>cases inB J.ps.length 1 5<;>simp
 (refine Ok.skip ?_;(try dsimp only [thenK,blockK,noGotoK]))
 refine Ok.seq ?_
 (first|refine qE ?_|refine qD ?_);(simp only [go_sem,↓dP,↓reduceIte];with_reducible and_intros;all_goals first|apply qA|exact qC|skip)
 refine Ok.block ?_
 refine Ok.count J.gs.length (fun i => ⟨[(1,.p 0 0),(3,iS i)],[jobC J],[]⟩) (fun i => ∀ x∈J.gs.take i,(!groundB x) = false) ⟨fun x hx => by simp at hx,?_⟩ ?_ ?_
 ·(refine Sub.of ([0]) ([]) ?_ ?_ ?_ rfl rfl<;>simp only [subB,subB1,subT,subT1,newT,subE,subV,subL,go_sem,↓dP,↓reduceIte]<;>(try (repeat' with_reducible apply And.intro))<;>(try first | exact DEq.refl _ | refine DEq.int ?_ | refine DEq.bool ?_ | omega))
 ·intro i hi h0
  refine Ok.seq ?_;((first|refine qE ?_|refine qD ?_);(simp only [go_sem,↓dP,↓reduceIte];with_reducible and_intros;all_goals first|apply qA|exact qC|skip));refine Ok.cond rfl (fun _ => ?_) (fun hb => by simp at hb;omega);(refine Ok.skip ?_;(try dsimp only [thenK,blockK,noGotoK]));refine Ok.seq ?_;refine Ok.block ?_
  (first|refine qE ?_|refine qD ?_);(simp only [go_sem,↓dP,↓reduceIte];with_reducible and_intros;all_goals first|apply qA|exact qC|skip)
  (first|refine qE ?_|refine qD ?_);(simp only [go_sem,↓dP,↓reduceIte];with_reducible and_intros;all_goals first|apply qA|exact qC|skip)
  (refine AskI.ret (c_rin _ _ _) ?_;simp only [go_sem,↓dP,↓reduceIte];with_reducible and_intros;all_goals first|apply qA|exact qC|skip)
  (refine AskGI.ret (fun _ => c_rin _ _ _) ?_;simp only [go_sem,↓dP,↓reduceIte];with_reducible and_intros;all_goals first|apply qA|exact qC|skip)
  (refine AskGI.ret (fun _ => c_rin _ _ _) ?_;simp only [go_sem,↓dP,↓reduceIte];with_reducible and_intros;all_goals first|apply qA|exact qC|skip)
  (refine AskGI.ret (fun _ => c_rin _ _ _) ?_;simp only [go_sem,↓dP,↓reduceIte];with_reducible and_intros;all_goals first|apply qA|exact qC|skip)
  have hg:groundB (J.gs.getD i default) = (inB (J.gs.getD i default).rl 0 12 && inB (J.gs.getD i default).rh (J.gs.getD i default).rl 12 && inB (J.gs.getD i default).ll (J.gs.getD i default).rh 12 && inB (J.gs.getD i default).lh (J.gs.getD i default).ll 12):=rfl
  refine Ok.cond rfl ?_ ?_
  ·intro hx
   have hx':(!groundB (J.gs.getD i default)) = true:=by
    rw [hg]
    revert hx
    cases inB (J.gs.getD i default).rl 0 12<;>cases inB (J.gs.getD i default).rh (J.gs.getD i default).rl 12<;>cases inB (J.gs.getD i default).ll (J.gs.getD i default).rh 12<;>cases inB (J.gs.getD i default).lh (J.gs.getD i default).ll 12<;>simp
   (first|refine qE ?_|refine qD ?_);(simp only [go_sem,↓dP,↓reduceIte];with_reducible and_intros;all_goals first|apply qA|exact qC|skip)
   (refine Ok.ret ?_;(try dsimp only [thenK,blockK,noGotoK]);simp only [toList_mk,List.toList_toArray,retK_ret,retK_normal,resOK,resV,celV,rowV,frzAll,frzT,subV,subL,go_sem,↓dP,↓reduceIte])
   refine DEq.bool ?_
   have:J.gs.any (fun g => !groundB g) = true:=List.any_eq_true.2 ⟨_,getD_mem hi,hx'⟩
   rw [jobB,all_any,this];simp
  ·intro hx
   have hx':(!groundB (J.gs.getD i default)) = false:=by
    rw [hg]
    revert hx
    cases inB (J.gs.getD i default).rl 0 12<;>cases inB (J.gs.getD i default).rh (J.gs.getD i default).rl 12<;>cases inB (J.gs.getD i default).ll (J.gs.getD i default).rh 12<;>cases inB (J.gs.getD i default).lh (J.gs.getD i default).ll 12<;>simp
   (refine Ok.skip ?_;(try dsimp only [thenK,blockK,noGotoK]))
   (first|refine qE ?_|refine qD ?_);(simp only [go_sem,↓dP,↓reduceIte];with_reducible and_intros;all_goals first|apply qA|exact qC|skip)
   (try dsimp only [thenK,blockK,noGotoK])
   refine ⟨no_step (q:=fun g => !groundB g) hi h0 hx',?_⟩
   (refine Sub.of ([0]) ([]) ?_ ?_ ?_ rfl rfl<;>simp only [subB,subB1,subT,subT1,newT,subE,subV,subL,go_sem,↓dP,↓reduceIte]<;>(try (repeat' with_reducible apply And.intro))<;>(try first | exact DEq.refl _ | refine DEq.int ?_ | refine DEq.bool ?_ | omega))
 intro h0
 have hgs:J.gs.any (fun g => !groundB g) = false:=List.any_eq_false.2 (fun x hx => by simp [h0 x (by simpa using hx)])
 refine Ok.seq ?_;((first|refine qE ?_|refine qD ?_);(simp only [go_sem,↓dP,↓reduceIte];with_reducible and_intros;all_goals first|apply qA|exact qC|skip));refine Ok.cond rfl (fun hb => by simp at hb) (fun _ => ?_);(refine Ok.exit ?_;simp only [thenK_exit,blockK_exit,noGotoK_exit,thenK_normal,blockK_normal,noGotoK_normal,↓reduceIte,Nat.reduceEqDiff])
 refine Ok.seq ?_
 (first|refine qE ?_|refine qD ?_);(simp only [go_sem,↓dP,↓reduceIte];with_reducible and_intros;all_goals first|apply qA|exact qC|skip)
 refine Ok.block ?_
 refine Ok.count J.ps.length (fun i => ⟨[(1,.p 0 0),(5,iS i)],[jobC J],[]⟩) (fun i => ∀ x∈J.ps.take i,(!pieceB J.gs.length x) = false) ⟨fun x hx => by simp at hx,?_⟩ ?_ ?_
 ·(refine Sub.of ([0]) ([]) ?_ ?_ ?_ rfl rfl<;>simp only [subB,subB1,subT,subT1,newT,subE,subV,subL,go_sem,↓dP,↓reduceIte]<;>(try (repeat' with_reducible apply And.intro))<;>(try first | exact DEq.refl _ | refine DEq.int ?_ | refine DEq.bool ?_ | omega))
 ·intro i hi h0
  refine Ok.seq ?_;((first|refine qE ?_|refine qD ?_);(simp only [go_sem,↓dP,↓reduceIte];with_reducible and_intros;all_goals first|apply qA|exact qC|skip));refine Ok.cond rfl (fun _ => ?_) (fun hb => by simp at hb;omega);(refine Ok.skip ?_;(try dsimp only [thenK,blockK,noGotoK]));refine Ok.seq ?_;refine Ok.block ?_
  (first|refine qE ?_|refine qD ?_);(simp only [go_sem,↓dP,↓reduceIte];with_reducible and_intros;all_goals first|apply qA|exact qC|skip)
  (first|refine qE ?_|refine qD ?_);(simp only [go_sem,↓dP,↓reduceIte];with_reducible and_intros;all_goals first|apply qA|exact qC|skip)
  (refine AskI.ret (c_rin _ _ _) ?_;simp only [go_sem,↓dP,↓reduceIte];with_reducible and_intros;all_goals first|apply qA|exact qC|skip)
  (refine AskGI.ret (fun _ => c_rin _ _ _) ?_;simp only [go_sem,↓dP,↓reduceIte];with_reducible and_intros;all_goals first|apply qA|exact qC|skip)
  (refine AskGI.ret (fun _ => c_rin _ _ _) ?_;simp only [go_sem,↓dP,↓reduceIte];with_reducible and_intros;all_goals first|apply qA|exact qC|skip)
  have hg:pieceB J.gs.length (J.ps.getD i default) = (inB (J.ps.getD i default).w 1 6 && inB (J.ps.getD i default).h 1 6 && inB (J.ps.getD i default).g 0 (J.gs.length - 1)):=rfl
  refine Ok.cond rfl ?_ ?_
  ·intro hx
   have hx':(!pieceB J.gs.length (J.ps.getD i default)) = true:=by
    rw [hg]
    revert hx
    cases inB (J.ps.getD i default).w 1 6<;>cases inB (J.ps.getD i default).h 1 6<;>cases inB (J.ps.getD i default).g 0 (J.gs.length - 1)<;>simp
   (first|refine qE ?_|refine qD ?_);(simp only [go_sem,↓dP,↓reduceIte];with_reducible and_intros;all_goals first|apply qA|exact qC|skip)
   (refine Ok.ret ?_;(try dsimp only [thenK,blockK,noGotoK]);simp only [toList_mk,List.toList_toArray,retK_ret,retK_normal,resOK,resV,celV,rowV,frzAll,frzT,subV,subL,go_sem,↓dP,↓reduceIte])
   refine DEq.bool ?_
   have:J.ps.any (fun p => !pieceB J.gs.length p) = true:=List.any_eq_true.2 ⟨_,getD_mem hi,hx'⟩
   rw [jobB,all_any J.ps,this];simp
  ·intro hx
   have hx':(!pieceB J.gs.length (J.ps.getD i default)) = false:=by
    rw [hg]
    revert hx
    cases inB (J.ps.getD i default).w 1 6<;>cases inB (J.ps.getD i default).h 1 6<;>cases inB (J.ps.getD i default).g 0 (J.gs.length - 1)<;>simp
   (refine Ok.skip ?_;(try dsimp only [thenK,blockK,noGotoK]))
   (first|refine qE ?_|refine qD ?_);(simp only [go_sem,↓dP,↓reduceIte];with_reducible and_intros;all_goals first|apply qA|exact qC|skip)
   (try dsimp only [thenK,blockK,noGotoK])
   refine ⟨no_step (q:=fun p => !pieceB J.gs.length p) hi h0 hx',?_⟩
   (refine Sub.of ([0]) ([]) ?_ ?_ ?_ rfl rfl<;>simp only [subB,subB1,subT,subT1,newT,subE,subV,subL,go_sem,↓dP,↓reduceIte]<;>(try (repeat' with_reducible apply And.intro))<;>(try first | exact DEq.refl _ | refine DEq.int ?_ | refine DEq.bool ?_ | omega))
 ·intro h0
  have hps:J.ps.any (fun p => !pieceB J.gs.length p) = false:=List.any_eq_false.2 (fun x hx => by simp [h0 x (by simpa using hx)])
  refine Ok.seq ?_;((first|refine qE ?_|refine qD ?_);(simp only [go_sem,↓dP,↓reduceIte];with_reducible and_intros;all_goals first|apply qA|exact qC|skip));refine Ok.cond rfl (fun hb => by simp at hb) (fun _ => ?_);(refine Ok.exit ?_;simp only [thenK_exit,blockK_exit,noGotoK_exit,thenK_normal,blockK_normal,noGotoK_normal,↓reduceIte,Nat.reduceEqDiff])
  (first|refine qE ?_|refine qD ?_);(simp only [go_sem,↓dP,↓reduceIte];with_reducible and_intros;all_goals first|apply qA|exact qC|skip)
  (refine Ok.ret ?_;(try dsimp only [thenK,blockK,noGotoK]);simp only [toList_mk,List.toList_toArray,retK_ret,retK_normal,resOK,resV,celV,rowV,frzAll,frzT,subV,subL,go_sem,↓dP,↓reduceIte])
  refine DEq.bool ?_
  rw [jobB,hhead,all_any,all_any,hgs,hps]
  rfl
end Go.Proofs.Leaf
namespace Go.Proofs.Leaf
open Go Go.RX Go.Proofs
set_option maxRecDepth 10000
variable [Glob]
theorem asI_append (L M:List Nat):asI (L ++ M) = asI L ++ asI M:=by simp
theorem setL_bit (L:List Nat) (i:Nat):(setL (asI L)).testBit i = decide (i∈L):=by
 induction L using revRec with
 | nil => simp [setL]
 | append_singleton L x ih =>
  rw [asI_append,show asI [x] = [(x:Int)] from rfl,setL_snoc,Nat.testBit_or,ih,Nat.testBit_two_pow]
  simp only [Int.toNat_natCast,List.mem_append,List.mem_singleton]
  by_cases h1:i∈L<;>by_cases h2:x = i<;>simp [h1,h2]<;>omega
end Go.Proofs.Leaf
namespace Go.Proofs.Leaf
open Go Go.RX Go.Proofs
set_option maxRecDepth 10000
variable [Glob]
def alsoL (J:Job) (L:List Nat) (k:Nat):List Nat:=(List.range k).filter (fun i => !decide (i∈L) && J.fit (setL (asI L) ||| 2 ^ i))
end Go.Proofs.Leaf
namespace Go.Proofs.Leaf
open Go Go.RX Go.Proofs
set_option maxRecDepth 10000
variable [Glob]
theorem snocI {now : List Int} {n : Int} : DEq (.sl 1 (now.length + 1) (fun i c => if i < now.length then intD (now.getD i default) c else dget [.int .i64 n] ((i - now.length) * 1 + c))) (slD 1 intD (now ++ [n])) :=
  DEq.sl (by simp) (fun i j hi hj => snoc_D (fun c hc => by have : c = 0 := by omega
                                                            subst this; rfl) i j hi hj)
end Go.Proofs.Leaf
namespace Go.Proofs.Leaf
open Go Go.RX Go.Proofs
set_option maxRecDepth 10000
variable [Glob]
def shortB (J:Job):Bool:=decide (J.gs.length<=5) && decide (J.ps.length<=7)
theorem c_lshort (J:Job) (h:J.far):Ctr Tryz.prog 21 [J.sv] (bS (shortB J)):=by
 have h1:=h.1
 have h2:=h.2
 (refine Ctr.mk (fn:=Tryz.f21) rfl rfl rfl rfl rfl Tryz.results21 ?_;intro _;dsimp only [args,List.toList_toArray])
 (first|refine qE ?_|refine qD ?_);(simp only [go_sem,↓dP,↓reduceIte];with_reducible and_intros;all_goals first|apply qA|exact qC|skip)
 (first|refine qE ?_|refine qD ?_);(simp only [go_sem,↓dP,↓reduceIte];with_reducible and_intros;all_goals first|apply qA|exact qC|skip)
 (refine Ok.ret ?_;(try dsimp only [thenK,blockK,noGotoK]);simp only [toList_mk,List.toList_toArray,retK_ret,retK_normal,resOK,resV,celV,rowV,frzAll,frzT,subV,subL,go_sem,↓dP,↓reduceIte])
 refine DEq.bool ?_
 unfold shortB
 by_cases g1:J.gs.length<=5<;>by_cases g2:J.ps.length<=7<;>simp [g1,g2]<;>omega
theorem short_held {J:Job} (h:shortB J = true):J.held:=by
 simp only [shortB,Bool.and_eq_true,decide_eq_true_eq] at h
 exact ⟨by omega,by omega⟩
def slimB (l:List Int):Bool:=decide (l.length<=8)
theorem c_lslim (l:List Int) (h:l.length<=9223372036854775807):Ctr Tryz.prog 15 [ilS l] (bS (slimB l)):=by
 (refine Ctr.mk (fn:=Tryz.f15) rfl rfl rfl rfl rfl Tryz.results15 ?_;intro _;dsimp only [args,List.toList_toArray])
 (first|refine qE ?_|refine qD ?_);(simp only [go_sem,↓dP,↓reduceIte];with_reducible and_intros;all_goals first|apply qA|exact qC|skip)
 (first|refine qE ?_|refine qD ?_);(simp only [go_sem,↓dP,↓reduceIte];with_reducible and_intros;all_goals first|apply qA|exact qC|skip)
 (refine Ok.ret ?_;(try dsimp only [thenK,blockK,noGotoK]);simp only [toList_mk,List.toList_toArray,retK_ret,retK_normal,resOK,resV,celV,rowV,frzAll,frzT,subV,subL,go_sem,↓dP,↓reduceIte])
 refine DEq.bool ?_
 unfold slimB
 by_cases g:l.length<=8<;>simp [g]<;>omega
def rightB (J:Job):Bool:=shortB J && jobB J
theorem c_lright (J:Job) (h:J.far):Ctr Tryz.prog 14 [J.sv] (bS (rightB J)):=by
 (refine Ctr.mk (fn:=Tryz.f14) rfl rfl rfl rfl rfl Tryz.results14 ?_;intro _;dsimp only [args,List.toList_toArray])
 (first|refine qE ?_|refine qD ?_);(simp only [go_sem,↓dP,↓reduceIte];with_reducible and_intros;all_goals first|apply qA|exact qC|skip)
 (first|refine qE ?_|refine qD ?_);(simp only [go_sem,↓dP,↓reduceIte];with_reducible and_intros;all_goals first|apply qA|exact qC|skip)
 (refine AskI.ret (c_lshort J h) ?_;simp only [go_sem,↓dP,↓reduceIte];with_reducible and_intros;all_goals first|apply qA|exact qC|skip)
 (refine AskGI.ret (fun h => c_rJob J (short_held (by simpa using h))) ?_;simp only [go_sem,↓dP,↓reduceIte];with_reducible and_intros;all_goals first|apply qA|exact qC|skip)
 (refine Ok.ret ?_;(try dsimp only [thenK,blockK,noGotoK]);simp only [toList_mk,List.toList_toArray,retK_ret,retK_normal,resOK,resV,celV,rowV,frzAll,frzT,subV,subL,go_sem,↓dP,↓reduceIte])
 refine DEq.bool ?_
 unfold rightB
 cases shortB J<;>simp
def joinK (a b:List Int) (k:Nat):List Nat:=(List.range k).filter (fun i => decide ((i:Int)∈a) || decide ((i:Int)∈b))
theorem joinK_succ (a b:List Int) (k:Nat):asI (joinK a b (k + 1)) = asI (joinK a b k) ++ (if (decide ((k:Int)∈a) || decide ((k:Int)∈b)) = true then [(k:Int)] else []):=by
 unfold joinK
 rw [List.range_succ,List.filter_append,asI_append]
 by_cases h:(decide ((k:Int)∈a) || decide ((k:Int)∈b)) = true
 ·rw [if_pos h,List.filter_cons,if_pos h,List.filter_nil];rfl
 ·rw [if_neg h,List.filter_cons,if_neg h,List.filter_nil];rfl
theorem c_ljoined (J : Job) (hn : J.ps.length ≤ 100) (a b : List Int) (ha : a.length < 1000000) (hb' : b.length < 1000000) : Ctr Tryz.prog 20 [J.sv, ilS a, ilS b] (ilS (asI (joinK a b J.ps.length))) := by
  (refine Ctr.mk (fn := Tryz.f20) rfl rfl rfl rfl rfl Tryz.results20 ?_; intro _; dsimp only [args, List.toList_toArray])
  (first|refine qE ?_|refine qD ?_);(simp only [go_sem,↓dP,↓reduceIte];with_reducible and_intros;all_goals first|apply qA|exact qC|skip)
  (first|refine qE ?_|refine qD ?_);(simp only [go_sem,↓dP,↓reduceIte];with_reducible and_intros;all_goals first|apply qA|exact qC|skip)
  refine Ok.seq ?_
  (first|refine qE ?_|refine qD ?_);(simp only [go_sem,↓dP,↓reduceIte];with_reducible and_intros;all_goals first|apply qA|exact qC|skip)
  refine Ok.block ?_
  refine Ok.count J.ps.length (fun i => ⟨[(1, ilS a), (2, ilS b), (3, .p 0 0), (7, .tk 0), (8, iS i)], [jobC J], [ownD 3 1 intD (asI (joinK a b i))]⟩) (fun _ => True) ⟨trivial, ?_⟩ ?_ ?_
  · (refine Sub.of ([0]) ([none]) ?_ ?_ ?_ rfl rfl <;> simp only [subB, subB1, subT, subT1, newT, subE, subV, subL, go_sem,↓dP,↓reduceIte] <;> (try (repeat' with_reducible apply And.intro)) <;> (try first | exact DEq.refl _ | refine DEq.int ?_ | refine DEq.bool ?_ | omega))
    simp [joinK]
  · intro i hi _
    have hlen : (asI (joinK a b i)).length ≤ i := by
      rw [asI_len]
      exact Nat.le_trans (List.length_filter_le _ _) (by simp)
    have hsn := joinK_succ a b i
    refine Ok.seq ?_; ((first|refine qE ?_|refine qD ?_);(simp only [go_sem,↓dP,↓reduceIte];with_reducible and_intros;all_goals first|apply qA|exact qC|skip)); refine Ok.cond rfl (fun _ => ?_) (fun hb => by simp at hb; omega); (refine Ok.skip ?_; (try dsimp only [thenK, blockK, noGotoK])); refine Ok.seq ?_; refine Ok.block ?_
    (first|refine qE ?_|refine qD ?_);(simp only [go_sem,↓dP,↓reduceIte];with_reducible and_intros;all_goals first|apply qA|exact qC|skip)
    (refine AskI.ret (c_tListed a i ha) ?_; simp only [go_sem,↓dP,↓reduceIte];with_reducible and_intros;all_goals first|apply qA|exact qC|skip)
    (refine AskGI.ret (fun _ => c_tListed b i hb') ?_; simp only [go_sem,↓dP,↓reduceIte];with_reducible and_intros;all_goals first|apply qA|exact qC|skip)
    refine Ok.cond rfl ?_ ?_
    · intro hb
      rw [if_pos hb] at hsn
      (first|refine qE ?_|refine qD ?_);(simp only [go_sem,↓dP,↓reduceIte];with_reducible and_intros;all_goals first|apply qA|exact qC|skip)
      (try dsimp only [thenK, blockK, noGotoK])
      (first|refine qE ?_|refine qD ?_);(simp only [go_sem,↓dP,↓reduceIte];with_reducible and_intros;all_goals first|apply qA|exact qC|skip)
      (try dsimp only [thenK, blockK, noGotoK])
      refine ⟨trivial, ?_⟩
      rw [hsn]
      (refine Sub.of ([0]) ([some 1]) ?_ ?_ ?_ rfl rfl <;> simp only [subB, subB1, subT, subT1, newT, subE, subV, subL, go_sem,↓dP,↓reduceIte] <;> (try (repeat' with_reducible apply And.intro)) <;> (try first | exact DEq.refl _ | refine DEq.int ?_ | refine DEq.bool ?_ | omega))
      · simp
      · exact snoc_D (fun c hc => by have : c = 0 := by omega
                                     subst this; rfl)
    · intro hb
      rw [if_neg (by rw [hb]; simp), List.append_nil] at hsn
      (refine Ok.skip ?_; (try dsimp only [thenK, blockK, noGotoK]))
      (try dsimp only [thenK, blockK, noGotoK])
      (first|refine qE ?_|refine qD ?_);(simp only [go_sem,↓dP,↓reduceIte];with_reducible and_intros;all_goals first|apply qA|exact qC|skip)
      (try dsimp only [thenK, blockK, noGotoK])
      refine ⟨trivial, ?_⟩
      rw [hsn]
      (refine Sub.of ([0]) ([some 0]) ?_ ?_ ?_ rfl rfl <;> simp only [subB, subB1, subT, subT1, newT, subE, subV, subL, go_sem,↓dP,↓reduceIte] <;> (try (repeat' with_reducible apply And.intro)) <;> (try first | exact DEq.refl _ | refine DEq.int ?_ | refine DEq.bool ?_ | omega))
      exact fun _ _ _ _ => DEq.refl _
  · intro _
    refine Ok.seq ?_; ((first|refine qE ?_|refine qD ?_);(simp only [go_sem,↓dP,↓reduceIte];with_reducible and_intros;all_goals first|apply qA|exact qC|skip)); refine Ok.cond rfl (fun hb => by simp at hb) (fun _ => ?_); (refine Ok.exit ?_; simp only [thenK_exit, blockK_exit, noGotoK_exit, thenK_normal, blockK_normal, noGotoK_normal, ↓reduceIte, Nat.reduceEqDiff])
    (first|refine qE ?_|refine qD ?_);(simp only [go_sem,↓dP,↓reduceIte];with_reducible and_intros;all_goals first|apply qA|exact qC|skip)
    (refine Ok.ret ?_; (try dsimp only [thenK, blockK, noGotoK]); simp only [toList_mk, List.toList_toArray, retK_ret, retK_normal, resOK, resV, celV, rowV, frzAll, frzT, subV, subL, go_sem,↓dP,↓reduceIte])
    exact .refl _
end Go.Proofs.Leaf
namespace Go.Proofs.Leaf
open Go Go.RX Go.Proofs
set_option maxRecDepth 10000
variable [Glob]
abbrev withJ (J:Job) (w h:Int):Job:={ J with ps:=J.ps ++ [⟨w,h,false,0⟩] }
theorem pieD_cells (p:Piece):∀ c,c < 4->dget [iD p.w,iD p.h,.bool p.turn,iD p.g] c = pieD p c:=fun c hc => by
 match c,hc with
 | 0,_ => rfl
 | 1,_ => rfl
 | 2,_ => rfl
 | 3,_ => rfl
theorem c_lwith (J:Job) (hn:J.ps.length<=1000) (w h:Int):Ctr Tryz.prog 41 [J.sv,spS (w,h)] (withJ J w h).sv:=by
 (refine Ctr.mk (fn:=Tryz.f41) rfl rfl rfl rfl rfl Tryz.results41 ?_;intro _;dsimp only [args,List.toList_toArray])
 (first|refine qE ?_|refine qD ?_);(simp only [go_sem,↓dP,↓reduceIte];with_reducible and_intros;all_goals first|apply qA|exact qC|skip)
 (first|refine qE ?_|refine qD ?_);(simp only [go_sem,↓dP,↓reduceIte];with_reducible and_intros;all_goals first|apply qA|exact qC|skip)
 (first|refine qE ?_|refine qD ?_);(simp only [go_sem,↓dP,↓reduceIte];with_reducible and_intros;all_goals first|apply qA|exact qC|skip)
 (first|refine qE ?_|refine qD ?_);(simp only [go_sem,↓dP,↓reduceIte];with_reducible and_intros;all_goals first|apply qA|exact qC|skip)
 (refine Ok.ret ?_;(try dsimp only [thenK,blockK,noGotoK]);simp only [toList_mk,List.toList_toArray,retK_ret,retK_normal,resOK,resV,celV,rowV,frzAll,frzT,subV,subL,go_sem,↓dP,↓reduceIte])
 refine ⟨.refl _,.refl _,.refl _,.refl _,.refl _,?_⟩
 exact DEq.sl (by simp) (fun i j hi hj => snoc_D (pieD_cells ⟨w,h,false,0⟩) i j hi hj)
end Go.Proofs.Leaf
namespace Go.Proofs.Leaf
open Go Go.RX Go.Proofs Go.RowKit
set_option maxRecDepth 10000
section
variable [Glob]
end
section
instance inst_g0_5:Glob:=g0
theorem must_newp {I I0:Nat->Prop} {w0 w:World} {v:Value} {J:Job} (hJ:J.sized) (s:Nat) (hs:s < 1024) (h:RepS I w v (kn0 J)) (hlt:∀ b,I b->b < w.heap.size) (hi:∀ b,I b->I0 b∨w0.heap.size<=b) (hk:Keep w0.heap.size w0 w) (h0:∀ b,I0 b->b < w0.heap.size) (hc:∀ b,I0 b->∃ cs T fz,w0.heap[b]? = some (.cells cs T fz)) (hfit:J.fit s = false) :
  Calls Tryz.prog 72 #[v,.int .i64 s] w (fun e w' => e = .panicked [{ v:=.iface 146 (.agg #[.int .i64 s]),recovered:=false }]/\Keep w0.heap.size w w'):=by
 obtain ⟨m,clk,hIm,hm,hr⟩:=kn0_memo h
 have hnew:=memo_new hm hIm hi hk h0 hc
 have hmM:MemoOK J.ps w m:=⟨#[],clk,hm,fun e he => by simp at he⟩
 have hctr:=@c_knife_must_p (memo J.ps m) J m (isMemo_memo J.ps m) hJ s hs hfit
 refine (hctr.2 (fun b => I b/\b ≠ m) w #[v,.int .i64 s] hmM (fun b hb => hlt b hb.1) (fun b hb e => by cases e;exact hb.2 rfl) rfl (fun j u y hu hy => ?_)).mono ?_
 ·rcases j with _ | _ | j
  ·cases hu;cases hy;exact hr
  ·cases hu;cases hy;exact fun Y => .d .int
  ·simp at hu
 ·rintro e w' ⟨u,I',rfl,_,_,hu,hk'⟩
  refine ⟨?_,keep_memo hk' hnew hk.size⟩
  have:u = .iface 146 (.agg #[.int .i64 s]):=by
   cases hu with
   | ifc hl hr =>
    rename_i us
    obtain ⟨x,rfl⟩:∃ x,us = #[x]:=Array.size_eq_one_iff.1 hl
    have:=hr 0 x rfl
    change Rep I' w' x (iD s) at this
    cases this;rfl
  rw [this]
end
end Go.Proofs.Leaf
namespace Go.Proofs.Leaf
open Go Go.RX Go.Proofs Go.RowKit
set_option maxRecDepth 10000
section
theorem c_Rest_1p (J:Job) (hJ:J.sized) (s:Nat) (hs:s < 1024) (hf:J.fit s = false):CtrP Tryz.prog 70 [.d J.ref,.d (.ref 1 (dget [iD s]))] (apartD s):=by
 have hn:=hJ.n
 refine ⟨⟨Tryz.f70,rfl,rfl,rfl⟩,fun I' w vs _ hI' _ hl hA => ?_⟩
 have hA':∀ (j:Nat) (u:Value) (s':SV),vs[j]? = some u->[.d J.ref,.d (.ref 1 (dget [iD s]))][j]? = some s'->RepS (cO I' w) w u s':=fun j u s' hu hs' => by
  have:=hA j u s' hu hs'
  rcases j with _ | _ | j
  ·cases hs';exact cells_jref J _ _ _ this
  ·cases hs';exact cells_flat1 .int _ _ _ this
  ·simp at hs'
 have hI:∀ b,cO I' w b->b < w.heap.size:=fun b hb => hI' b hb.1
 refine calls_of_wp (fn:=Tryz.f70) rfl rfl ?_
 have hst:=St.start (N:=Tryz.f70.ntmps) (I:=cO I' w) (w:=w) (vs:=vs) trivial hI (fun b _ e => by cases e) hl (Nat.le_of_ble_eq_true rfl) hA'
 refine (wpIn_wide (n:=0)).1 ?_
 letI:Bas:=⟨cO I' w,w⟩
 dsimp only [RX.start,args] at hst
 (refine hT 3 ?h1 ?h2 ?h3 ?h4 hst ?_;(case h1 => rfl);(case h2 => rfl);(case h3 => rfl);(case h4 => rfl);simp only [go_sem,↓dP,↓reduceIte];with_reducible and_intros;all_goals first|apply qA|exact qC|skip)
 (refine AskI.ret (c_knifeOf0 J (by omega)) ?_;simp only [go_sem,↓dP,↓reduceIte];with_reducible and_intros;all_goals first|apply qA|exact qC|skip)
 intro Y a w3 hinv
 have hst:=St.of hinv rfl
 obtain ⟨I3,β,τ,hx⟩:=hst (fun _ => none)
 have k3:RepS I3 w3 (a.tmps.getD 3 undef) (kn0 J):=mt_aggd (ds:=[iD J.wide,iD J.high,iD J.book,iD J.spoilt,slD 4 groD J.gs,slD 4 pieD J.ps,.mp 0 0 (fun _ _ => .nilI)]) ((hx.env 3).un (fun _ _ _ e => by cases e))
 have k4:a.tmps.getD 4 undef = .int .i64 s:=by
  have:=mt_d ((hx.env 4).un (fun _ _ _ e => by cases e))
  generalize a.tmps.getD 4 undef = u at this
  cases this;rfl
 have hk:Keep w.heap.size w w3:=hx.bel
 have hdf:a.defers = []:=hx.df
 have hm:=must_newp hJ s hs k3 hx.hI hx.i0 hk hI (fun b hb => hb.2) hf
 refine tail_callP (fn:=Tryz.f72) rfl rfl rfl rfl (by rw [map2];show #[a.tmps.getD 3 undef,a.tmps.getD 4 undef] = _;rw [k4]) hm (fun e w4 hq => ?_)
 obtain ⟨rfl,hk4⟩:=hq
 refine ⟨_,rfl,?_⟩
 refine ⟨hdf,_,fun _ => False,rfl,fun _ h => h.elim,fun _ h => h.elim,?_,hk.trans hk4⟩
 refine .ifc rfl (fun j u hu => ?_)
 rcases j with _ | j
 ·cases hu;exact .int
 ·simp at hu
end
end Go.Proofs.Leaf
namespace Go.Proofs.Leaf
open Go Go.RX Go.Proofs Go.RowKit
set_option maxRecDepth 10000
section
theorem c_RestNo (J:Job) (h:J.ok) (L:List Nat) (hL:rises J.ps.length 0 L) (hf:J.fit (setL (asI L)) = false):Ctr Tryz.prog 36 [J.sv,ilS (asI L)] (.tup [spS (0,0),iS 7]):=by
 obtain ⟨s1,s2,s3,s4⟩:=rises_set h hL
 have hsm:someB J.ps.length (asI L) = true:=someB_iff.2 ⟨L,hL,rfl⟩
 have hl:(asI L).length < 1000000:=by rw [asI_len];omega
 have hatt:=c_att_apart 70 2 (dget [J.ref,.ref 1 (dget [iD (setL (asI L))])]) _ (c_Rest_1p J h.sized (setL (asI L)) (by omega) hf)
 (refine Ctr.mk (fn:=Tryz.f36) rfl rfl rfl rfl rfl Tryz.results36 ?_;intro _;dsimp only [args,List.toList_toArray])
 (first|refine qE ?_|refine qD ?_);(simp only [go_sem,↓dP,↓reduceIte];with_reducible and_intros;all_goals first|apply qA|exact qC|skip)
 refine Ok.seq ?_
 (first|refine qE ?_|refine qD ?_);(simp only [go_sem,↓dP,↓reduceIte];with_reducible and_intros;all_goals first|apply qA|exact qC|skip)
 (refine AskI.ret (c_isJob J h.held) ?_;simp only [go_sem,↓dP,↓reduceIte];with_reducible and_intros;all_goals first|apply qA|exact qC|skip)
 (refine AskGI.ret (fun _ => c_arePieces J h.held.2 (asI L) hl) ?_;simp only [go_sem,↓dP,↓reduceIte];with_reducible and_intros;all_goals first|apply qA|exact qC|skip)
 refine Ok.cond rfl (fun hb => by rw [jobB_iff.2 h,hsm] at hb;simp at hb) (fun _ => ?_)
 (refine Ok.skip ?_;(try dsimp only [thenK,blockK,noGotoK]))
 (first|refine qE ?_|refine qD ?_);(simp only [go_sem,↓dP,↓reduceIte];with_reducible and_intros;all_goals first|apply qA|exact qC|skip)
 (refine AskI.ret (c_bits (asI L) hl s3) ?_;simp only [go_sem,↓dP,↓reduceIte];with_reducible and_intros;all_goals first|apply qA|exact qC|skip)
 refine Ok.sub ((Sub.frzB (b:=0) rfl rfl).trans (Sub.frzB (b:=3) rfl rfl)) ?_
 refine Ok.seq ?_
 (first|refine qE ?_|refine qD ?_);(simp only [go_sem,↓dP,↓reduceIte];with_reducible and_intros;all_goals first|apply qA|exact qC|skip)
 (refine AskI.ret (hatt) ?_;simp only [go_sem,↓dP,↓reduceIte];with_reducible and_intros;all_goals first|apply qA|exact qC|skip)
 (first|refine qE ?_|refine qD ?_);(simp only [go_sem,↓dP,↓reduceIte];with_reducible and_intros;all_goals first|apply qA|exact qC|skip)
 refine Ok.cond (b:=true) (by first | rfl | (simp only [go_sem,↓dP,↓reduceIte];rfl)) (fun _ => ?_) (fun hb => by cases hb)
 (first|refine qE ?_|refine qD ?_);(simp only [go_sem,↓dP,↓reduceIte];with_reducible and_intros;all_goals first|apply qA|exact qC|skip)
 (refine Ok.ret ?_;(try dsimp only [thenK,blockK,noGotoK]);simp only [toList_mk,List.toList_toArray,retK_ret,retK_normal,resOK,resV,celV,rowV,frzAll,frzT,subV,subL,go_sem,↓dP,↓reduceIte])
 ((repeat' with_reducible apply And.intro)<;>(first | exact DEq.refl _ | refine DEq.int ?_ | refine DEq.bool ?_ | skip))
end
end Go.Proofs.Leaf
namespace Go.Proofs.YtojfpogcfpmblaaGreatDoor
open Go Go.RX Go.Proofs.Leaf Go.RowKit Go.ChangeShapes Go.WideShapes Go.ChangeAt
set_option maxRecDepth 100000
instance inst_gT_6:Glob:=gT
section
variable {H : Type} {enc : TypeId × Value → H} {W : World}
end
theorem opensAll_cons {t:TypeId} {ts:List TypeId} {As:List SV} (h:opensAll (t :: ts) As):∃ A Bs,As = A :: Bs/\opens t A/\opensAll ts Bs:=by
 cases As with
 | nil => exact h.elim
 | cons A Bs => exact ⟨A,Bs,rfl,h.1,h.2⟩
theorem opensAll_nil {As:List SV} (h:opensAll [] As):As = []:=by
 cases As with
 | nil => rfl
 | cons A Bs => exact h.elim
end Go.Proofs.YtojfpogcfpmblaaGreatDoor
namespace Go.Proofs.Leaf
open Go Go.RX Go.Proofs Go.RowKit
set_option maxRecDepth 100000
section
theorem c_lfits (J:Job) (h:J.ok) (L:List Nat) (hL:rises J.ps.length 0 L):Ctr Tryz.prog 18 [J.sv,ilS (asI L)] (.tup [bS (J.fit (setL (asI L))),bS true]):=by
 (refine Ctr.mk (fn:=Tryz.f18) rfl rfl rfl rfl rfl Tryz.results18 ?_;intro _;dsimp only [args,List.toList_toArray])
 (first|refine qE ?_|refine qD ?_);(simp only [go_sem,↓dP,↓reduceIte];with_reducible and_intros;all_goals first|apply qA|exact qC|skip)
 (first|refine qE ?_|refine qD ?_);(simp only [go_sem,↓dP,↓reduceIte];with_reducible and_intros;all_goals first|apply qA|exact qC|skip)
 (refine AskI.ret (toT (c_Fits J h L hL)) ?_;simp only [go_sem,↓dP,↓reduceIte];with_reducible and_intros;all_goals first|apply qA|exact qC|skip)
 (first|refine qE ?_|refine qD ?_);(simp only [go_sem,↓dP,↓reduceIte];with_reducible and_intros;all_goals first|apply qA|exact qC|skip)
 (refine Ok.ret ?_;(try dsimp only [thenK,blockK,noGotoK]);simp only [toList_mk,List.toList_toArray,retK_ret,retK_normal,resOK,resV,celV,rowV,frzAll,frzT,subV,subL,go_sem,↓dP,↓reduceIte])
 ((repeat' with_reducible apply And.intro)<;>(first | exact DEq.refl _ | refine DEq.int ?_ | refine DEq.bool ?_ | skip))
end
section
instance inst_g0_7:Glob:=g0
theorem joinK_rises (A B:List Nat) (k:Nat):rises k 0 (joinK (asI A) (asI B) k):=rises_of (List.Pairwise.filter _ List.pairwise_lt_range) (fun x hx => by
 have:=List.mem_range.1 (List.mem_filter.1 hx).1
 omega)
theorem joinK_set {A B:List Nat} {k:Nat} (hA:rises k 0 A) (hB:rises k 0 B):setL (asI (joinK (asI A) (asI B) k)) = setL (asI A) ||| setL (asI B):=by
 apply Nat.eq_of_testBit_eq
 intro i
 rw [Nat.testBit_or,setL_bit,setL_bit,setL_bit,Bool.eq_iff_iff,Bool.or_eq_true,decide_eq_true_iff,decide_eq_true_iff,decide_eq_true_iff]
 unfold joinK
 rw [List.mem_filter,List.mem_range,Bool.or_eq_true,decide_eq_true_iff,decide_eq_true_iff]
 have e:∀ L:List Nat,((i:Int)∈asI L) ↔ i∈L:=fun L => by
  rw [List.mem_map]
  exact ⟨fun ⟨a,ha,q⟩ => by rwa [show i = a by omega],fun q => ⟨i,q,rfl⟩⟩
 rw [e,e]
 constructor
 ·exact fun q => q.2
 ·rintro (q | q)
  ·exact ⟨(rises_mem hA _ q).2,.inl q⟩
  ·exact ⟨(rises_mem hB _ q).2,.inr q⟩
end
section
instance inst_gT_8:Glob:=gT
end
end Go.Proofs.Leaf
namespace Go.Proofs.Leaf
open Go Go.RX Go.Proofs Go.RowKit
set_option maxRecDepth 100000
section
instance inst_g0_9:Glob:=g0
theorem fit_one {J:Job} (h:J.ok) {n:Nat} (hn:n < J.ps.length):J.fit (setL (asI [n])) = alone (J.ps.getD n default) J.wide.toNat J.high.toNat:=by
 have e:setL (asI [n]) = 2 ^ n:=by simp [setL]
 have h0:(2 ^ n:Nat) ≠ 0:=Nat.pos_iff_ne_zero.1 (Nat.pow_pos (by decide))
 unfold Job.fit
 rw [e,Bool.eq_iff_iff,can_one h0 (single_pow n)]
 constructor
 ·rintro ⟨m,_,hm,ha⟩
  rwa [(Nat.pow_right_inj (by decide)).1 hm]
 ·exact fun ha => ⟨n,hn,rfl,ha⟩
end
section
instance inst_gT_10:Glob:=gT
end
end Go.Proofs.Leaf
namespace Go.Proofs.Leaf
open Go Go.RX Go.Proofs Go.RowKit
set_option maxRecDepth 100000
section
instance inst_g0_11:Glob:=g0
theorem also_eq (J:Job) (L:List Nat):alsoX J (setL (asI L)) = asI (alsoL J L J.ps.length):=by
 unfold alsoX keptL alsoL upI
 rw [List.filter_map]
 refine congrArg (List.map _) (List.filter_congr (fun i _ => ?_))
 show (!(((setL (asI L)).testBit ((i:Int)).toNat) || !J.fit (setL (asI L) ||| 2 ^ ((i:Int)).toNat))) = _
 rw [Int.toNat_natCast,setL_bit]
 cases decide (i∈L)<;>simp
theorem alsoL_len (J:Job) (L:List Nat) (k:Nat):(asI (alsoL J L k)).length<=k:=by
 rw [asI_len]
 exact Nat.le_trans (List.length_filter_le _ _) (by simp)
end
section
instance inst_gT_12:Glob:=gT
end
end Go.Proofs.Leaf
namespace Go.Proofs.Leaf
open Go Go.RX Go.Proofs Go.RowKit
set_option maxRecDepth 10000
section
instance inst_g0_13:Glob:=g0
def fitW (J:Job) (s:Nat) (w h:Int):Bool:=(withJ J w h).fit (s ||| 2 ^ J.ps.length)
theorem withJ_ok {J:Job} (h:J.ok) (hn:J.ps.length < 5) {w k:Int} (h1:1<=w) (h2:w<=6) (h3:1<=k) (h4:k<=6):(withJ J w k).ok:=by
 have g0:=h.g0
 refine { h with p0:=by simp,p1:=by simp;omega,ps:=fun p hp => ?_ }
 rcases List.mem_append.1 (show p∈J.ps ++ [(⟨w,k,false,0⟩:Piece)] from hp) with hp | hp
 ·exact h.ps p hp
 ·simp at hp;subst hp;exact ⟨h1,h2,h3,h4,Int.le_refl 0,by show (0:Int)<=(J.gs.length:Int) - 1;omega⟩
theorem withJ_at {J:Job} {w k:Int} {i:Nat} (hi:i < J.ps.length):(withJ J w k).ps.getD i default = J.ps.getD i default:=by
 show (J.ps ++ [_]).getD i default = _
 rw [List.getD_eq_getElem?_getD,List.getElem?_append_left hi,← List.getD_eq_getElem?_getD]
theorem withJ_last {J:Job} {w k:Int}:(withJ J w k).ps.getD J.ps.length default = ⟨w,k,false,0⟩:=by
 show (J.ps ++ [_]).getD J.ps.length default = _
 rw [List.getD_eq_getElem?_getD,List.getElem?_append_right (Nat.le_refl _),Nat.sub_self];rfl
theorem withJ_len {J:Job} {w k:Int}:(withJ J w k).ps.length = J.ps.length + 1:=by simp
theorem fitW_mono {J:Job} {s:Nat} {w k w' k':Int} (h0:0<=w') (h1:w'<=w) (h2:0<=k') (h3:k'<=k) (hf:fitW J s w k = true):fitW J s w' k' = true:=by
 refine can_piece (ps:=(withJ J w k).ps) (ps':=(withJ J w' k').ps) (by simp) (fun n hn x y ha => ?_) (fun t => area_mono _ _ t (by simp) (fun n hn => ?_)) (J.wide.toNat + J.high.toNat) _ _ _ (Nat.le_refl _) hf
 ·rw [withJ_len] at hn
  by_cases e:n = J.ps.length
  ·subst e
   rw [withJ_last] at ha ⊢
   simp only [alone,Bool.false_and,Bool.or_false,Bool.and_eq_true,decide_eq_true_eq] at ha ⊢
   omega
  ·rw [withJ_at (by omega)] at ha ⊢;exact ha
 ·rw [withJ_len] at hn
  by_cases e:n = J.ps.length
  ·subst e
   rw [withJ_last,withJ_last]
   exact Int.mul_le_mul h1 h3 h2 (Int.le_trans h0 h1)
  ·rw [withJ_at (by omega),withJ_at (by omega)];exact Int.le_refl _
theorem fitW_in {J:Job} (h:J.ok) (hn:J.ps.length < 5) {s:Nat} {w k:Int} (h1:1<=w) (h2:w<=6) (h3:1<=k) (h4:k<=6) (hf:fitW J s w k = true):w<=J.wide/\k<=J.high:=by
 have ho:=withJ_ok h hn h1 h2 h3 h4
 have h5:(withJ J w k).fit (setL (asI [J.ps.length])) = true:=fit_sub ho.sized _ _ (by
  rw [show setL (asI [J.ps.length]) = 2 ^ J.ps.length by simp [setL]]
  apply Nat.eq_of_testBit_eq
  intro i
  rw [Nat.testBit_and,Nat.testBit_or]
  cases (2 ^ J.ps.length).testBit i<;>simp) hf
 rw [fit_one ho (by rw [withJ_len];omega),withJ_last] at h5
 have g1:=h.w0
 have g2:=h.h0
 simp only [alone,Bool.false_and,Bool.or_false,Bool.and_eq_true,decide_eq_true_eq] at h5
 have e1:((withJ J w k).wide.toNat:Int) = J.wide:=Int.toNat_of_nonneg (by show 0<=J.wide;omega)
 have e2:((withJ J w k).high.toNat:Int) = J.high:=Int.toNat_of_nonneg (by show 0<=J.high;omega)
 rw [e1,e2] at h5
 exact h5
theorem fitW_rest {J:Job} {s:Nat} {x:Nat×Nat}:fitW J s x.1 x.2 = restQ J s x:=rfl
theorem rest_some {J:Job} {s:Nat} {r:Nat×Nat} (h:restF J s = some r):0 < r.1/\r.1<=J.wide.toNat/\0 < r.2/\r.2<=J.high.toNat/\fitW J s r.1 r.2 = true :=
 have h1:=mem_sizesL.1 (List.mem_of_find?_eq_some h)
 ⟨h1.1,h1.2.1,h1.2.2.1,h1.2.2.2,show restQ J s r = true from List.find?_some h⟩
theorem rest_isSome {J:Job} (h:J.ok) {s:Nat}:(restF J s).isSome = fitW J s 1 1:=by
 have g1:=h.w0
 have g2:=h.h0
 cases hr:restF J s with
 | some r =>
  obtain ⟨a1,a2,a3,a4,a5⟩:=rest_some hr
  rw [fitW_mono (by omega) (by omega) (by omega) (by omega) a5];rfl
 | none =>
  have:=(List.find?_eq_none.1 hr) (1,1) (mem_sizesL.2 ⟨by simp,by simp;omega,by simp,by simp;omega⟩)
  rw [← fitW_rest] at this
  have e:fitW J s 1 1 = false:=by simpa using this
  rw [e];rfl
theorem rest_best {J:Job} (h:J.ok) (hn:J.ps.length < 5) {s:Nat} {r:Nat×Nat} (hr:restF J s = some r) {w k:Int} (h1:1<=w) (h2:w<=6) (h3:1<=k) (h4:k<=6) (hf:fitW J s w k = true):w * k < (r.1:Int) * r.2∨(w * k = (r.1:Int) * r.2/\w<=r.1):=by
 obtain ⟨b1,b2⟩:=fitW_in h hn h1 h2 h3 h4 hf
 obtain ⟨m,rfl⟩:∃ m:Nat,w = m:=⟨w.toNat,by omega⟩
 obtain ⟨n,rfl⟩:∃ n:Nat,k = n:=⟨k.toNat,by omega⟩
 have hm:(m,n)∈sizX J:=mem_sizesL.2 ⟨by show 0 < m;omega,by show m<=_;omega,by show 0 < n;omega,by show n<=_;omega⟩
 have e:((m:Int) * n) = ((m * n:Nat):Int):=by push_cast;rfl
 have e2:((r.1:Int) * r.2) = ((r.1 * r.2:Nat):Int):=by push_cast;rfl
 rw [e,e2]
 rcases find_sorted (sizes_sorted _ _) hr hm (show restQ J s (m,n) = true from hf) with q | q
 ·subst q;exact .inr ⟨rfl,Int.le_refl _⟩
 ·unfold larger at q
  simp only at q
  rcases q with q | ⟨q1,q2⟩
  ·exact .inl (by omega)
  ·exact .inr ⟨by omega,by omega⟩
end
end Go.Proofs.Leaf
namespace Go.Proofs.Leaf
open Go Go.RX Go.Proofs Go.RowKit
set_option maxRecDepth 100000
section
instance inst_gT_14:Glob:=gT
theorem law_Left (J:Job) (hf:J.far) (l:List Int) (hl:l.length<=maxLen) (sw sh:Int) (n:Int):Ctr Tryz.prog 10 [J.sv,ilS l,spS (sw,sh),iS n] (bS true):=by
 have hl':l.length<=9223372036854775807:=Nat.le_trans hl (by decide)
 have hf2:=hf.2
 (refine Ctr.mk (fn:=Tryz.f10) rfl rfl rfl rfl rfl Tryz.results10 ?_;intro _;dsimp only [args,List.toList_toArray])
 (first|refine qE ?_|refine qD ?_);(simp only [go_sem,↓dP,↓reduceIte];with_reducible and_intros;all_goals first|apply qA|exact qC|skip)
 refine Ok.seq ?_
 (first|refine qE ?_|refine qD ?_);(simp only [go_sem,↓dP,↓reduceIte];with_reducible and_intros;all_goals first|apply qA|exact qC|skip)
 (refine AskI.ret (c_lright J hf) ?_;simp only [go_sem,↓dP,↓reduceIte];with_reducible and_intros;all_goals first|apply qA|exact qC|skip)
 (refine AskGI.ret (fun _ => c_lslim l hl') ?_;simp only [go_sem,↓dP,↓reduceIte];with_reducible and_intros;all_goals first|apply qA|exact qC|skip)
 (refine AskGI.ret (fun q => c_rSome J (short_held (by simp [rightB] at q;simp [q])).2 l (by simp [slimB] at q;omega)) ?_;simp only [go_sem,↓dP,↓reduceIte];with_reducible and_intros;all_goals first|apply qA|exact qC|skip)
 (refine AskGI.ret (fun q => c_rPiece J (short_held (by simp [rightB] at q;simp [q])).2 n) ?_;simp only [go_sem,↓dP,↓reduceIte];with_reducible and_intros;all_goals first|apply qA|exact qC|skip)
 (refine AskGI.ret (fun q => c_tListed l n (by simp [slimB] at q;omega)) ?_;simp only [go_sem,↓dP,↓reduceIte];with_reducible and_intros;all_goals first|apply qA|exact qC|skip)
 refine Ok.cond rfl ?_ ?_
 ·intro hs
  (first|refine qE ?_|refine qD ?_);(simp only [go_sem,↓dP,↓reduceIte];with_reducible and_intros;all_goals first|apply qA|exact qC|skip)
  (refine AskI.ret (c_known) ?_;simp only [go_sem,↓dP,↓reduceIte];with_reducible and_intros;all_goals first|apply qA|exact qC|skip)
  (refine Ok.ret ?_;(try dsimp only [thenK,blockK,noGotoK]);simp only [toList_mk,List.toList_toArray,retK_ret,retK_normal,resOK,resV,celV,rowV,frzAll,frzT,subV,subL,go_sem,↓dP,↓reduceIte])
  ((repeat' with_reducible apply And.intro)<;>(first | exact DEq.refl _ | refine DEq.int ?_ | refine DEq.bool ?_ | skip))
 intro hs
 (refine Ok.skip ?_;(try dsimp only [thenK,blockK,noGotoK]))
 obtain ⟨hr,hsl,hA,h5,hw1,hw6,hh1,hh6,hpn,hnl⟩:rightB J = true/\slimB l = true/\someB J.ps.length l = true/\J.ps.length < 5/\1<=sw/\sw<=6/\1<=sh/\sh<=6/\inB n 0 (J.ps.length - 1) = true/\n ∉ l:=by
  simp only [Bool.or_eq_false_iff,Bool.not_eq_false',decide_eq_false_iff_not] at hs
  obtain ⟨⟨⟨⟨⟨⟨⟨⟨⟨a1,a2⟩,a3⟩,a4⟩,a5⟩,a6⟩,a7⟩,a8⟩,a9⟩,a10⟩:=hs
  exact ⟨a1,a2,a3,by omega,by omega,by omega,by omega,by omega,a9,a10⟩
 simp only [rightB,Bool.and_eq_true] at hr
 obtain ⟨hsh,hj⟩:=hr
 have hh:=short_held hsh
 have h:=jobB_iff.1 hj
 obtain ⟨L,hL,rfl⟩:=someB_iff.1 hA
 have hsl':(asI L).length<=8:=by simpa [slimB] using hsl
 have hLl:=asI_len L
 rw [inB_iff] at hpn
 obtain ⟨n,rfl⟩:∃ k:Nat,n = k:=⟨n.toNat,by omega⟩
 have hn:n < J.ps.length:=by omega
 have hnL:n ∉ L:=fun q => hnl (List.mem_map.2 ⟨n,q,rfl⟩)
 have hA:=toT (c_Also J h L hL)
 rw [also_eq] at hA
 have hal:=alsoL_len J L J.ps.length
 have hF:=c_lfits J h L hL
 cases hfit:J.fit (setL (asI L)) with
 | false =>
  rw [hfit] at hA hF
  simp only [Bool.false_eq_true,if_false] at hA
  (first|refine qE ?_|refine qD ?_);(simp only [go_sem,↓dP,↓reduceIte];with_reducible and_intros;all_goals first|apply qA|exact qC|skip)
  (refine AskI.ret (toT (c_RestNo J h L hL hfit)) ?_;simp only [go_sem,↓dP,↓reduceIte];with_reducible and_intros;all_goals first|apply qA|exact qC|skip)
  (first|refine qE ?_|refine qD ?_);(simp only [go_sem,↓dP,↓reduceIte];with_reducible and_intros;all_goals first|apply qA|exact qC|skip)
  (refine AskI.ret (hA) ?_;simp only [go_sem,↓dP,↓reduceIte];with_reducible and_intros;all_goals first|apply qA|exact qC|skip)
  (first|refine qE ?_|refine qD ?_);(simp only [go_sem,↓dP,↓reduceIte];with_reducible and_intros;all_goals first|apply qA|exact qC|skip)
  (refine AskI.ret (hF) ?_;simp only [go_sem,↓dP,↓reduceIte];with_reducible and_intros;all_goals first|apply qA|exact qC|skip)
  refine Ok.seq ?_
  (first|refine qE ?_|refine qD ?_);(simp only [go_sem,↓dP,↓reduceIte];with_reducible and_intros;all_goals first|apply qA|exact qC|skip)
  refine Ok.cond (b:=false) (by first | rfl | (simp only [go_sem,↓dP,↓reduceIte];rfl)) (fun hb => by cases hb) (fun _ => ?_)
  (refine Ok.skip ?_;(try dsimp only [thenK,blockK,noGotoK]))
  refine Ok.seq ?_
  (first|refine qE ?_|refine qD ?_);(simp only [go_sem,↓dP,↓reduceIte];with_reducible and_intros;all_goals first|apply qA|exact qC|skip)
  refine Ok.cond (b:=true) (by first | rfl | (simp only [go_sem,↓dP,↓reduceIte];rfl)) (fun _ => ?_) (fun hb => by cases hb)
  (first|refine qE ?_|refine qD ?_);(simp only [go_sem,↓dP,↓reduceIte];with_reducible and_intros;all_goals first|apply qA|exact qC|skip)
  (refine AskGI.ret (fun _ => c_known) ?_;simp only [go_sem,↓dP,↓reduceIte];with_reducible and_intros;all_goals first|apply qA|exact qC|skip)
  (refine Ok.ret ?_;(try dsimp only [thenK,blockK,noGotoK]);simp only [toList_mk,List.toList_toArray,retK_ret,retK_normal,resOK,resV,celV,rowV,frzAll,frzT,subV,subL,go_sem,↓dP,↓reduceIte])
  ((repeat' with_reducible apply And.intro)<;>(first | exact DEq.refl _ | refine DEq.int ?_ | refine DEq.bool ?_ | skip))
 | true =>
  rw [hfit] at hA hF
  simp only [if_true] at hA
  have hR:=toT (c_Rest J h L hL hfit)
  have hiS:=rest_isSome h (s:=setL (asI L))
  have hbe:=fun r (q:restF J (setL (asI L)) = some r) => rest_best h h5 q hw1 hw6 hh1 hh6
  have hso:=fun r (q:restF J (setL (asI L)) = some r) => rest_some q
  have hL':rises (J.ps.length + 1) 0 (L ++ [J.ps.length]):=rises_of (by
   rw [List.pairwise_append]
   exact ⟨rises_pw hL,by simp,fun a ha b hb => by simp at hb;subst hb;exact (rises_mem hL a ha).2⟩) (fun y hy => by
   rcases List.mem_append.1 hy with hy | hy
   ·have:=(rises_mem hL y hy).2;omega
   ·simp at hy;omega)
  have hset:setL (asI (L ++ [J.ps.length])) = setL (asI L) ||| 2 ^ J.ps.length:=by rw [asI_append,show asI [J.ps.length] = [(J.ps.length:Int)] from rfl,setL_snoc];simp
  have hW:∀ w k:Int,1<=w->w<=6->1<=k->k<=6->Ctr Tryz.prog 18 [(withJ J w k).sv,ilS (asI (L ++ [J.ps.length]))] (.tup [bS (fitW J (setL (asI L)) w k),bS true]):=fun w k q1 q2 q3 q4 => by
   have:=c_lfits (withJ J w k) (withJ_ok h h5 q1 q2 q3 q4) (L ++ [J.ps.length]) (by rw [withJ_len];exact hL')
   rw [hset] at this
   exact this
  have hjk:=c_lfits J h (joinK (asI L) (asI [n]) J.ps.length) (joinK_rises L [n] _)
  rw [joinK_set hL (show rises J.ps.length 0 [n] from ⟨Nat.zero_le _,hn,trivial⟩)] at hjk
  have hjoin:Ctr Tryz.prog 20 [J.sv,ilS (asI L),litS [(n:Int)]] (ilS (asI (joinK (asI L) (asI [n]) J.ps.length))):=(c_ljoined J (by omega) (asI L) (asI [n]) (by omega) (by simp)).args ⟨⟨.refl _,.refl _,.refl _,.refl _,.refl _,.refl _,trivial⟩,.refl _,litD _,trivial⟩
  have hlist:=c_tListed (asI (alsoL J L J.ps.length)) n (by omega)
  have hln:decide ((n:Int)∈asI (alsoL J L J.ps.length)) = J.fit (setL (asI L) ||| setL (asI [n])):=by
   rw [show setL (asI [n]) = 2 ^ n by simp [setL],Bool.eq_iff_iff,decide_eq_true_iff,List.mem_map]
   constructor
   ·rintro ⟨m,hm,e⟩
    obtain rfl:m = n:=by omega
    have:=(List.mem_filter.1 hm).2
    simp only [Bool.and_eq_true] at this
    exact this.2
   ·intro q
    refine ⟨n,List.mem_filter.2 ⟨List.mem_range.2 hn,?_⟩,rfl⟩
    rw [q];simp [hnL]
  rw [hln] at hlist
  have e1:asI (L ++ [J.ps.length]) = asI L ++ [(J.ps.length:Int)]:=asI_append _ _
  rw [e1] at hW
  have hX:∀ w k:Int,1<=w->w<=6->1<=k->k<=6->Ctr Tryz.prog 18 [(withJ J w k).sv,.d (.sl 1 ((asI L).length + 1) (fun i c => if i < (asI L).length then intD ((asI L).getD i default) c else dget [.int .i64 (J.ps.length:Int)] ((i - (asI L).length) * 1 + c)))] (.tup [bS (fitW J (setL (asI L)) w k),bS true]):=fun w k q1 q2 q3 q4 =>
   (hW w k q1 q2 q3 q4).args ⟨⟨.refl _,.refl _,.refl _,.refl _,.refl _,.refl _,trivial⟩,snocI,trivial⟩
  (first|refine qE ?_|refine qD ?_);(simp only [go_sem,↓dP,↓reduceIte];with_reducible and_intros;all_goals first|apply qA|exact qC|skip)
  (refine AskI.ret (hR) ?_;simp only [go_sem,↓dP,↓reduceIte];with_reducible and_intros;all_goals first|apply qA|exact qC|skip)
  (first|refine qE ?_|refine qD ?_);(simp only [go_sem,↓dP,↓reduceIte];with_reducible and_intros;all_goals first|apply qA|exact qC|skip)
  (refine AskI.ret (hA) ?_;simp only [go_sem,↓dP,↓reduceIte];with_reducible and_intros;all_goals first|apply qA|exact qC|skip)
  (first|refine qE ?_|refine qD ?_);(simp only [go_sem,↓dP,↓reduceIte];with_reducible and_intros;all_goals first|apply qA|exact qC|skip)
  (refine AskI.ret (hF) ?_;simp only [go_sem,↓dP,↓reduceIte];with_reducible and_intros;all_goals first|apply qA|exact qC|skip)
  refine Ok.seq ?_
  (first|refine qE ?_|refine qD ?_);(simp only [go_sem,↓dP,↓reduceIte];with_reducible and_intros;all_goals first|apply qA|exact qC|skip)
  refine Ok.cond (b:=false) (by first | rfl | (simp only [go_sem,↓dP,↓reduceIte];rfl)) (fun hb => by cases hb) (fun _ => ?_)
  (refine Ok.skip ?_;(try dsimp only [thenK,blockK,noGotoK]))
  refine Ok.seq ?_
  (first|refine qE ?_|refine qD ?_);(simp only [go_sem,↓dP,↓reduceIte];with_reducible and_intros;all_goals first|apply qA|exact qC|skip)
  refine Ok.cond (b:=false) (by first | rfl | (simp only [go_sem,↓dP,↓reduceIte];rfl)) (fun hb => by cases hb) (fun _ => ?_)
  (refine Ok.skip ?_;(try dsimp only [thenK,blockK,noGotoK]))
  (first|refine qE ?_|refine qD ?_);(simp only [go_sem,↓dP,↓reduceIte];with_reducible and_intros;all_goals first|apply qA|exact qC|skip)
  (first|refine qE ?_|refine qD ?_);(simp only [go_sem,↓dP,↓reduceIte];with_reducible and_intros;all_goals first|apply qA|exact qC|skip)
  (refine AskI.ret (c_lwith J (by omega) sw sh) ?_;simp only [go_sem,↓dP,↓reduceIte];with_reducible and_intros;all_goals first|apply qA|exact qC|skip)
  (refine AskI.ret (hX sw sh hw1 hw6 hh1 hh6) ?_;simp only [go_sem,↓dP,↓reduceIte];with_reducible and_intros;all_goals first|apply qA|exact qC|skip)
  (first|refine qE ?_|refine qD ?_);(simp only [go_sem,↓dP,↓reduceIte];with_reducible and_intros;all_goals first|apply qA|exact qC|skip)
  (refine AskI.ret (c_lsize 1 1) ?_;simp only [go_sem,↓dP,↓reduceIte];with_reducible and_intros;all_goals first|apply qA|exact qC|skip)
  (refine AskI.ret (c_lwith J (by omega) 1 1) ?_;simp only [go_sem,↓dP,↓reduceIte];with_reducible and_intros;all_goals first|apply qA|exact qC|skip)
  (refine AskI.ret (hX 1 1 (by decide) (by decide) (by decide) (by decide)) ?_;simp only [go_sem,↓dP,↓reduceIte];with_reducible and_intros;all_goals first|apply qA|exact qC|skip)
  (first|refine qE ?_|refine qD ?_);(simp only [go_sem,↓dP,↓reduceIte];with_reducible and_intros;all_goals first|apply qA|exact qC|skip)
  (refine AskI.ret (hjoin) ?_;simp only [go_sem,↓dP,↓reduceIte];with_reducible and_intros;all_goals first|apply qA|exact qC|skip)
  (refine AskI.ret (hjk) ?_;simp only [go_sem,↓dP,↓reduceIte];with_reducible and_intros;all_goals first|apply qA|exact qC|skip)
  refine Ok.seq ?_
  (first|refine qE ?_|refine qD ?_);(simp only [go_sem,↓dP,↓reduceIte];with_reducible and_intros;all_goals first|apply qA|exact qC|skip)
  (refine AskGI.ret (fun _ => hlist) ?_;simp only [go_sem,↓dP,↓reduceIte];with_reducible and_intros;all_goals first|apply qA|exact qC|skip)
  have g1:=h.w1
  have g2:=h.h1
  have g3:=h.w0
  have g4:=h.h0
  cases hRR:restF J (setL (asI L)) with
  | none =>
   rw [hRR] at hiS
   have e11:fitW J (setL (asI L)) 1 1 = false:=hiS.symm
   have esw:fitW J (setL (asI L)) sw sh = false:=by
    rw [Bool.eq_false_iff]
    intro q
    rw [fitW_mono (by decide) hw1 (by decide) hh1 q] at e11;cases e11
   refine Ok.cond rfl (fun hb => by exfalso;revert hb;rw [e11];simp) (fun _ => ?_)
   (refine Ok.skip ?_;(try dsimp only [thenK,blockK,noGotoK]))
   refine Ok.seq ?_
   (first|refine qE ?_|refine qD ?_);(simp only [go_sem,↓dP,↓reduceIte];with_reducible and_intros;all_goals first|apply qA|exact qC|skip)
   refine Ok.cond (b:=true) (by first | rfl | (simp only [go_sem,↓dP,↓reduceIte];rfl)) (fun _ => ?_) (fun hb => by cases hb)
   (first|refine qE ?_|refine qD ?_);(simp only [go_sem,↓dP,↓reduceIte];with_reducible and_intros;all_goals first|apply qA|exact qC|skip)
   (refine AskGI.ret (fun _ => c_known) ?_;simp only [go_sem,↓dP,↓reduceIte];with_reducible and_intros;all_goals first|apply qA|exact qC|skip)
   (refine Ok.ret ?_;(try dsimp only [thenK,blockK,noGotoK]);simp only [toList_mk,List.toList_toArray,retK_ret,retK_normal,resOK,resV,celV,rowV,frzAll,frzT,subV,subL,go_sem,↓dP,↓reduceIte])
   rw [esw]
   ((repeat' with_reducible apply And.intro)<;>(first | exact DEq.refl _ | refine DEq.int ?_ | refine DEq.bool ?_ | skip))
  | some r =>
   rw [hRR] at hiS
   have e11:fitW J (setL (asI L)) 1 1 = true:=hiS.symm
   obtain ⟨a1,a2,a3,a4,a5⟩:=hso r hRR
   have hbr:=hbe r hRR
   have m1:=mul36 (a:=sw) (b:=sh) (by omega) hw6 (by omega) hh6
   have m2:=mul36 (a:=(r.1:Int)) (b:=(r.2:Int)) (by omega) (by omega) (by omega) (by omega)
   have hXr:=hX r.1 r.2 (by omega) (by omega) (by omega) (by omega)
   rw [a5] at hXr
   refine Ok.cond rfl (fun hb => by exfalso;revert hb;rw [e11];simp) (fun _ => ?_)
   (refine Ok.skip ?_;(try dsimp only [thenK,blockK,noGotoK]))
   refine Ok.seq ?_
   (first|refine qE ?_|refine qD ?_);(simp only [go_sem,↓dP,↓reduceIte];with_reducible and_intros;all_goals first|apply qA|exact qC|skip)
   refine Ok.cond (b:=false) (by first | rfl | (simp only [go_sem,↓dP,↓reduceIte];rfl)) (fun hb => by cases hb) (fun _ => ?_)
   (refine Ok.skip ?_;(try dsimp only [thenK,blockK,noGotoK]))
   refine Ok.seq ?_
   (first|refine qE ?_|refine qD ?_);(simp only [go_sem,↓dP,↓reduceIte];with_reducible and_intros;all_goals first|apply qA|exact qC|skip)
   refine Ok.cond rfl (fun hb => by exfalso;revert hb;simp;omega) (fun _ => ?_)
   (refine Ok.skip ?_;(try dsimp only [thenK,blockK,noGotoK]))
   (first|refine qE ?_|refine qD ?_);(simp only [go_sem,↓dP,↓reduceIte];with_reducible and_intros;all_goals first|apply qA|exact qC|skip)
   (refine AskI.ret (c_lwith J (by omega) r.1 r.2) ?_;simp only [go_sem,↓dP,↓reduceIte];with_reducible and_intros;all_goals first|apply qA|exact qC|skip)
   (refine AskI.ret (hXr) ?_;simp only [go_sem,↓dP,↓reduceIte];with_reducible and_intros;all_goals first|apply qA|exact qC|skip)
   (first|refine qE ?_|refine qD ?_);(simp only [go_sem,↓dP,↓reduceIte];with_reducible and_intros;all_goals first|apply qA|exact qC|skip)
   (first|refine qE ?_|refine qD ?_);(simp only [go_sem,↓dP,↓reduceIte];with_reducible and_intros;all_goals first|apply qA|exact qC|skip)
   (refine AskGI.ret (fun _ => c_known) ?_;simp only [go_sem,↓dP,↓reduceIte];with_reducible and_intros;all_goals first|apply qA|exact qC|skip)
   (refine Ok.ret ?_;(try dsimp only [thenK,blockK,noGotoK]);simp only [toList_mk,List.toList_toArray,retK_ret,retK_normal,resOK,resV,celV,rowV,frzAll,frzT,subV,subL,go_sem,↓dP,↓reduceIte])
   refine DEq.bool ?_
   cases hq:fitW J (setL (asI L)) sw sh with
   | false => rfl
   | true =>
    rcases hbr hq with q | ⟨q1,q2⟩
    ·rw [decide_eq_true q];rfl
    ·rw [q1,decide_eq_true q2];simp
end
end Go.Proofs.Leaf
namespace Go.Proofs.YtojfpogcfpmblaaGreatDoor
open Go Go.RX Go.Proofs.Leaf Go.RowKit Go.ChangeShapes Go.WideShapes Go.ChangeAt
set_option maxRecDepth 100000
theorem leafLeft_ctr (As:List SV) (h:opensAll [25,26,62,3] As):Ctr Tryz.prog 10 As (bS true):=by
 obtain ⟨_,A1,rfl,h0,h⟩:=opensAll_cons h
 obtain ⟨_,A2,rfl,h1,h⟩:=opensAll_cons h
 obtain ⟨_,A3,rfl,h2,h⟩:=opensAll_cons h
 obtain ⟨_,A4,rfl,h3,h⟩:=opensAll_cons h
 obtain rfl:=opensAll_nil h
 obtain ⟨x0,rfl,y0⟩:=opens_job h0
 obtain ⟨x1,rfl,y1⟩:=opens_ints h1
 obtain ⟨x2,y2,rfl⟩:=opens_size h2
 obtain ⟨x3,rfl,y3,z3⟩:=opens_int h3
 exact law_Left x0 y0 x1 y1 x2 y2 x3
theorem leafLeft_facts:joinedFacts Tryz.prog 10 Tryz.f10 Rows.leafLeftSpec Rows.leafLeftRow = true:=by unfold joinedFacts;rw [enter_is,final_is,make_is];kernel_rfl
theorem leafLeft_lifted (os:Os) (started:os.Started) (H:Type) (enc:TypeId×Value->H) :
  ReturnsInHanded {} Tryz.checked os 10 .any (fun w args => (Rows.leafLeftSpec.pre enc Tryz.prog Tryz.f10 [] false w args/\laidMetH Tryz.prog laid5 w)/\sizedMet enc Tryz.prog Tryz.f10 (OpenSpec.ofChange Rows.leafLeftSpec) false w args)
   (Rows.leafLeftSpec.post enc Tryz.prog Tryz.f10 false true false false):=by
 refine law_ctr (ts:=[25,26,62,3]) Rows.leafLeftSpec rfl started (by kernel_rfl) Tryz.func10 (by kernel_rfl) (by rw [Tryz.params10]) (by unfold argT;decide)
  (fun ds hd => ?_)
  (ChangeSpec.witness_shaped (enc:=enc) (C:=Tryz.checked) (os:=os) (X:=fun w _ => laidMetH Tryz.prog laid5 w) false (World.laidAll Tryz.prog os laid5) #[zJ,zL,zZ,zI] 8 (World.laidAll_os _ _ _)
   (World.shaped_of_ZipB (by kernel_rfl) (by kernel_rfl)) (by kernel_rfl) (by kernel_rfl) (by kernel_rfl)
   (by rw [MakeChecks.laidMetH_plain _ _ _ (by kernel_rfl)];exact laidMet_laidAll _ (by kernel_rfl) (by kernel_rfl))) leafLeft_ctr
 match ds,hd with
 | [d0,d1,d2,d3],_ => rfl
theorem leafLeft_row:Rows.LeafLeftSaid :=
 OpenClaim.holds_of_wide 10 Tryz.f10 rfl rfl rfl rfl rfl rfl rfl ⟨rfl,rfl,rfl,rfl,rfl⟩ rfl rfl rfl rfl rfl (by kernel_rfl) Tryz.func10 leafLeft_facts (of_decide_eq_true (by kernel_rfl))
  (by unfold Func.isWrapper;first | (rw [if_pos (by decide +kernel)];kernel_rfl) | (rw [if_neg (by decide +kernel)];exact ⟨rfl,rfl⟩)) (fun os started H enc _ => leafLeft_lifted os started H enc)
theorem leafLeft_card:Rows.LeafLeftCardSaid :=
 Claim7.holds_tied_plain_at .later [] [.data,.data,.data,.data,.pinned] true (true,"b9e665a4b67ae011e5ed22b8eb226cc6d74f55357845231d1045bbc61717fa8c") true leafLeft_row
  (fun _ h => by cases h) (by kernel_rfl) (fun _ h => by cases h) leafLeft_row_tie rfl ⟨rfl,rfl⟩ main_is rfl
  (fun f fn hf hfn => by
   obtain rfl:f = 10:=Option.some.inj ((show Tryz.prog.funcNamed "mahlstick/mahlsticklaw04.LeafLeft" = some 10 by kernel_rfl).symm.trans hf) |>.symm
   obtain rfl:fn = Tryz.f10:=(Option.some.inj (Tryz.func10.symm.trans hfn)).symm
   exact ⟨by kernel_rfl,fun j t ht => by
    rw [Tryz.params10] at ht
    exact law_stand (ts:=[25,26,62,3]) (by unfold argT;decide) (by simpa using Array.mem_of_getElem? ht)⟩) (by kernel_rfl)
end Go.Proofs.YtojfpogcfpmblaaGreatDoor
