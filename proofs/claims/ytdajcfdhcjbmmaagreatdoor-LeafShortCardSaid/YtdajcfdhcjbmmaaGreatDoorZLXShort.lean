/-
  hours that are too few: the theorem: LeafShort returns true at every input, and leaves it as it was.
  No condition beside those that the statement itself names.
-/
import Derived.Test.YtdajcfdhcjbmmaaGreatDoorB30
import Derived.ChangeMaps5
set_option linter.all false
namespace Go.Proofs.Leaf
theorem nodup_bound:∀ (n:Nat) (lo:Int) (l:List Int),l.Nodup->(∀ x∈l,lo<=x/\x < lo + n)->l.length<=n
 | 0,lo,l,_,h => by
  cases l with
  | nil => exact Nat.le_refl _
  | cons x l => have:=h x (List.mem_cons_self ..);omega
 | n + 1,lo,l,hd,h => by
  by_cases hm:lo + (n:Int)∈l
  ·have h1:=nodup_bound n lo (l.erase (lo + n)) (hd.erase _) (fun x hx => by
    have:=(hd.mem_erase_iff).1 hx
    have:=h x this.2
    omega)
   rw [List.length_erase_of_mem hm] at h1
   omega
  ·have:=nodup_bound n lo l hd (fun x hx => by
    have h1:=h x hx
    have:x ≠ lo + n:=fun e => hm (e ▸ hx)
    omega)
   omega
theorem cnt_within:∀ (sp:List (Int×Int)) (l:List Int),within l sp->∀ lo hi,cnt sp lo hi<=(l.filter (fun x => decide (lo<=x) && decide (x<=hi))).length
 | [],[],_,lo,hi => Nat.le_refl _
 | (a,b) :: sp,x :: l,h,lo,hi => by
  have ih:=cnt_within sp l h.2.2 lo hi
  rw [cnt_cons,List.filter_cons]
  have h1:=h.1
  have h2:=h.2.1
  by_cases hc:lo<=a/\b<=hi
  ·rw [if_pos hc,if_pos (by simp;omega)];simp;omega
  ·rw [if_neg hc]
   split
   ·simp;omega
   ·omega
 | [],_ :: _,h,_,_ => h.elim
 | _ :: _,[],h,_,_ => h.elim
theorem plan_room {sp:List (Int×Int)} {l:List Int} (h:l∈planL sp []) {lo hi:Int} (hlh:lo<=hi + 1):(cnt sp lo hi:Int)<=hi - lo + 1:=by
 obtain ⟨h1,h2⟩:=plan_iff.1 h
 have h3:=cnt_within sp l h1 lo hi
 have h4:=nodup_bound (hi - lo + 1).toNat lo (l.filter (fun x => decide (lo<=x) && decide (x<=hi))) (h2.sublist List.filter_sublist) (fun x hx => by
  have:=(List.mem_filter.1 hx).2
  simp only [Bool.and_eq_true,decide_eq_true_eq] at this
  omega)
 omega
end Go.Proofs.Leaf
namespace Go.Proofs.Leaf
theorem find_sorted {α:Type} {r:α->α->Prop} {L:List α} {q:α->Bool} (hs:L.Pairwise r) {x:α} (hx:L.find? q = some x) {y:α} (hy:y∈L) (hq:q y = true):y = x∨r x y:=by
 rw [List.find?_eq_some_iff_append] at hx
 obtain ⟨_,as1,bs,rfl,hno⟩:=hx
 rcases List.mem_append.1 hy with h1 | h1
 ·have:=hno y h1
  rw [hq] at this;cases this
 ·rcases List.mem_cons.1 h1 with rfl | h1
  ·exact .inl rfl
  ·exact .inr ((List.pairwise_cons.1 (List.pairwise_append.1 hs).2.1).1 y h1)
end Go.Proofs.Leaf
namespace Go.Proofs.Leaf
theorem head_some {α:Type} {L:List α}:L.head?.isSome = true ↔ ∃ x,x∈L:=by
 cases L with
 | nil => simp
 | cons a L => simp only [List.head?_cons,Option.isSome_some,true_iff];exact ⟨a,List.mem_cons_self ..⟩
theorem boundL_len:∀ (sp:List (Int×Int)) (lo hi:Int),(boundL sp lo hi).length = cnt sp lo hi
 | [],_,_ => rfl
 | p :: sp,lo,hi => by
  have ih:=boundL_len sp lo hi
  rw [cnt_cons,← ih]
  unfold boundL
  rw [List.length_cons,List.range_succ_eq_map,List.filter_cons,List.filter_map,List.getD_cons_zero]
  have e:((fun i => decide (lo<=((p :: sp).getD i default).1) && decide (((p :: sp).getD i default).2<=hi)) ∘ Nat.succ) = (fun i => decide (lo<=(sp.getD i default).1) && decide ((sp.getD i default).2<=hi)):=by
   funext i;simp
  rw [e]
  by_cases h:lo<=p.1/\p.2<=hi
  ·rw [if_pos h,if_pos (by simp [h.1,h.2])];simp;omega
  ·rw [if_neg h,if_neg (by simpa using h)];simp
theorem spansL_sorted:spansL.Pairwise (fun x y => x.2 - x.1 < y.2 - y.1∨(x.2 - x.1 = y.2 - y.1/\x.1 < y.1)):=by
 rw [spansL,List.pairwise_flatMap]
 refine ⟨fun m _ => ?_,List.pairwise_lt_range.imp (fun {i j} hlt x hx y hy => .inl ?_)⟩
 ·rw [List.pairwise_map]
  exact List.pairwise_lt_range.imp (fun {i j} hlt => .inr ⟨by dsimp only;omega,by dsimp only;omega⟩)
 ·obtain ⟨k,_,rfl⟩:=List.mem_map.1 hx
  obtain ⟨k',_,rfl⟩:=List.mem_map.1 hy
  dsimp only;omega
theorem proof_none {sp:List (Int×Int)} (hs:∀ q∈sp,0<=q.1/\q.1<=q.2/\q.2<=12):proofL sp = none ↔ ∃ l,l∈planL sp []:=by
 rw [proofL,List.find?_eq_none]
 simp only [boundL_len,decide_eq_true_eq]
 constructor
 ·intro h
  refine hall _ sp (Nat.le_refl _) (fun p hp => (hs p hp).2.1) (fun lo hi hl => ?_)
  have hcut:cnt sp lo hi = cnt sp (max lo 0) (min hi 12):=by
   unfold cnt
   congr 1
   refine List.filter_congr (fun p hp => ?_)
   have:=hs p hp
   rw [Bool.eq_iff_iff]
   simp only [Bool.and_eq_true,decide_eq_true_eq]
   omega
  rw [hcut]
  by_cases hle:max lo 0<=min hi 12
  ·have:=h (max lo 0,min hi 12) (mem_spansL.2 ⟨by dsimp only;omega,by dsimp only;omega,by dsimp only;omega⟩)
   dsimp only at this
   omega
  ·have:cnt sp (max lo 0) (min hi 12) = 0:=by
    unfold cnt
    rw [List.length_eq_zero_iff,List.filter_eq_nil_iff]
    intro p hp hq
    have:=hs p hp
    simp only [Bool.and_eq_true,decide_eq_true_eq] at hq
    omega
   omega
 ·rintro ⟨l,hl⟩ x hx
  have hx:=mem_spansL.1 hx
  have:=plan_room hl (lo:=x.1) (hi:=x.2) (by omega)
  omega
end Go.Proofs.Leaf
namespace Go.Proofs.Leaf
open Go Go.RX Go.Proofs
set_option maxRecDepth 10000
variable [Glob]
theorem c_rin (n lo hi:Int):Ctr Tryz.prog 50 [iS n,iS lo,iS hi] (bS (inB n lo hi)):=by
 (refine Ctr.mk (fn:=Tryz.f50) rfl rfl rfl rfl rfl Tryz.results50 ?_;intro _;dsimp only [args,List.toList_toArray])
 (first|refine qE ?_|refine qD ?_);(simp only [go_sem,↓dP,↓reduceIte];with_reducible and_intros;all_goals first|apply qA|exact qC|skip)
 (first|refine qE ?_|refine qD ?_);(simp only [go_sem,↓dP,↓reduceIte];with_reducible and_intros;all_goals first|apply qA|exact qC|skip)
 (refine Ok.ret ?_;(try dsimp only [thenK,blockK,noGotoK]);simp only [toList_mk,List.toList_toArray,retK_ret,retK_normal,resOK,resV,celV,rowV,frzAll,frzT,subV,subL,go_sem,↓dP,↓reduceIte])
 exact .refl _
end Go.Proofs.Leaf
namespace Go.Proofs.Leaf
open Go Go.RX Go.Proofs
set_option maxRecDepth 10000
variable [Glob]
theorem c_rHours (J:Job) (hJ:J.based) (n:Int) (h0:0<=n) (h1:n < J.ps.length) (may:Bool):Ctr Tryz.prog 21 [J.sv,iS n,bS may] (spS (J.span may n)):=by
 have hm:=hJ.at_ _ (getD_mem (l:=J.ps) (i:=n.toNat) (by omega))
 have g1:=hJ.gl
 have p1:=hJ.pl
 (refine Ctr.mk (fn:=Tryz.f21) rfl rfl rfl rfl rfl Tryz.results21 ?_;intro _;dsimp only [args,List.toList_toArray])
 (first|refine qE ?_|refine qD ?_);(simp only [go_sem,↓dP,↓reduceIte];with_reducible and_intros;all_goals first|apply qA|exact qC|skip)
 (first|refine qE ?_|refine qD ?_);(simp only [go_sem,↓dP,↓reduceIte];with_reducible and_intros;all_goals first|apply qA|exact qC|skip)
 refine Ok.seq ?_
 (first|refine qE ?_|refine qD ?_);(simp only [go_sem,↓dP,↓reduceIte];with_reducible and_intros;all_goals first|apply qA|exact qC|skip)
 refine Ok.cond rfl ?_ ?_
 ·intro hb
  subst hb
  (first|refine qE ?_|refine qD ?_);(simp only [go_sem,↓dP,↓reduceIte];with_reducible and_intros;all_goals first|apply qA|exact qC|skip)
  (refine Ok.ret ?_;(try dsimp only [thenK,blockK,noGotoK]);simp only [toList_mk,List.toList_toArray,retK_ret,retK_normal,resOK,resV,celV,rowV,frzAll,frzT,subV,subL,go_sem,↓dP,↓reduceIte])
  ((repeat' with_reducible apply And.intro)<;>(first | exact DEq.refl _ | refine DEq.int ?_ | refine DEq.bool ?_ | skip))
 ·intro hb
  subst hb
  (refine Ok.skip ?_;(try dsimp only [thenK,blockK,noGotoK]))
  (first|refine qE ?_|refine qD ?_);(simp only [go_sem,↓dP,↓reduceIte];with_reducible and_intros;all_goals first|apply qA|exact qC|skip)
  (refine Ok.ret ?_;(try dsimp only [thenK,blockK,noGotoK]);simp only [toList_mk,List.toList_toArray,retK_ret,retK_normal,resOK,resV,celV,rowV,frzAll,frzT,subV,subL,go_sem,↓dP,↓reduceIte])
  ((repeat' with_reducible apply And.intro)<;>(first | exact DEq.refl _ | refine DEq.int ?_ | refine DEq.bool ?_ | skip))
end Go.Proofs.Leaf
namespace Go.Proofs.Leaf
open Go Go.RX Go.Proofs
set_option maxRecDepth 10000
variable [Glob]
theorem c_rJob (J:Job) (hh:J.held):Ctr Tryz.prog 26 [J.sv] (bS (jobB J)):=by
 have hh1:=hh.1
 have hh2:=hh.2
 (refine Ctr.mk (fn:=Tryz.f26) rfl rfl rfl rfl rfl Tryz.results26 ?_;intro _;dsimp only [args,List.toList_toArray])
 (first|refine qE ?_|refine qD ?_);(simp only [go_sem,↓dP,↓reduceIte];with_reducible and_intros;all_goals first|apply qA|exact qC|skip)
 refine Ok.seq ?_
 (first|refine qE ?_|refine qD ?_);(simp only [go_sem,↓dP,↓reduceIte];with_reducible and_intros;all_goals first|apply qA|exact qC|skip)
 (refine AskI.ret (c_rin _ _ _) ?_;simp only [go_sem,↓dP,↓reduceIte];with_reducible and_intros;all_goals first|apply qA|exact qC|skip)
 (refine AskGI.ret (fun _ => c_rin _ _ _) ?_;simp only [go_sem,↓dP,↓reduceIte];with_reducible and_intros;all_goals first|apply qA|exact qC|skip)
 (refine AskGI.ret (fun _ => c_rin _ _ _) ?_;simp only [go_sem,↓dP,↓reduceIte];with_reducible and_intros;all_goals first|apply qA|exact qC|skip)
 ·intro h
  have:inB J.book 1 25 = true:=by revert h;cases inB J.book 1 25<;>simp
  rw [inB_iff] at this
  exact R64 (by omega) (by omega)
 (refine AskGI.ret (fun _ => c_rin _ _ _) ?_;simp only [go_sem,↓dP,↓reduceIte];with_reducible and_intros;all_goals first|apply qA|exact qC|skip)
 (refine AskGI.ret (fun _ => c_rin _ _ _) ?_;simp only [go_sem,↓dP,↓reduceIte];with_reducible and_intros;all_goals first|apply qA|exact qC|skip)
 (refine AskGI.ret (fun _ => c_rin _ _ _) ?_;simp only [go_sem,↓dP,↓reduceIte];with_reducible and_intros;all_goals first|apply qA|exact qC|skip)
 refine Ok.cond rfl ?_ ?_
 ·intro hb
  (first|refine qE ?_|refine qD ?_);(simp only [go_sem,↓dP,↓reduceIte];with_reducible and_intros;all_goals first|apply qA|exact qC|skip)
  (refine Ok.ret ?_;(try dsimp only [thenK,blockK,noGotoK]);simp only [toList_mk,List.toList_toArray,retK_ret,retK_normal,resOK,resV,celV,rowV,frzAll,frzT,subV,subL,go_sem,↓dP,↓reduceIte])
  refine DEq.bool ?_
  have:headB J = false:=by
   revert hb
   unfold headB
   cases inB J.wide 1 6<;>cases inB J.high 1 6<;>cases inB J.book 1 25<;>cases inB J.spoilt 0 (J.book - 1)<;>cases inB J.gs.length 1 3<;>cases inB J.ps.length 1 5<;>simp
  simp [jobB,this]
 intro hb
 have hhead:headB J = true:=by
  revert hb
  unfold headB
  cases inB J.wide 1 6<;>cases inB J.high 1 6<;>cases inB J.book 1 25<;>cases inB J.spoilt 0 (J.book - 1)<;>cases inB J.gs.length 1 3<;>cases inB J.ps.length 1 5<;>simp
 (refine Ok.skip ?_;(try dsimp only [thenK,blockK,noGotoK]))
 refine Ok.seq ?_
 (first|refine qE ?_|refine qD ?_);(simp only [go_sem,↓dP,↓reduceIte];with_reducible and_intros;all_goals first|apply qA|exact qC|skip)
 refine Ok.block ?_
 refine Ok.count J.gs.length (fun i => ⟨[(1,.p 0 0),(3,iS i)],[jobC J],[]⟩) (fun i => ∀ x∈J.gs.take i,(!groundB x) = false) ⟨fun x hx => by simp at hx,?_⟩ ?_ ?_
 ·(refine Sub.of ([0]) ([]) ?_ ?_ ?_ rfl rfl<;>simp only [subB,subB1,subT,subT1,newT,subE,subV,subL,go_sem,↓dP,↓reduceIte]<;>(try (repeat' with_reducible apply And.intro))<;>(try first | exact DEq.refl _ | refine DEq.int ?_ | refine DEq.bool ?_ | omega))
 ·intro i hi h0
  refine Ok.seq ?_;((first|refine qE ?_|refine qD ?_);(simp only [go_sem,↓dP,↓reduceIte];with_reducible and_intros;all_goals first|apply qA|exact qC|skip));refine Ok.cond rfl (fun _ => ?_) (fun hb => by simp at hb;omega);(refine Ok.skip ?_;(try dsimp only [thenK,blockK,noGotoK]));refine Ok.seq ?_;refine Ok.block ?_
  (first|refine qE ?_|refine qD ?_);(simp only [go_sem,↓dP,↓reduceIte];with_reducible and_intros;all_goals first|apply qA|exact qC|skip)
  (first|refine qE ?_|refine qD ?_);(simp only [go_sem,↓dP,↓reduceIte];with_reducible and_intros;all_goals first|apply qA|exact qC|skip)
  (refine AskI.ret (c_rin _ _ _) ?_;simp only [go_sem,↓dP,↓reduceIte];with_reducible and_intros;all_goals first|apply qA|exact qC|skip)
  (refine AskGI.ret (fun _ => c_rin _ _ _) ?_;simp only [go_sem,↓dP,↓reduceIte];with_reducible and_intros;all_goals first|apply qA|exact qC|skip)
  (refine AskGI.ret (fun _ => c_rin _ _ _) ?_;simp only [go_sem,↓dP,↓reduceIte];with_reducible and_intros;all_goals first|apply qA|exact qC|skip)
  (refine AskGI.ret (fun _ => c_rin _ _ _) ?_;simp only [go_sem,↓dP,↓reduceIte];with_reducible and_intros;all_goals first|apply qA|exact qC|skip)
  have hg:groundB (J.gs.getD i default) = (inB (J.gs.getD i default).rl 0 12 && inB (J.gs.getD i default).rh (J.gs.getD i default).rl 12 && inB (J.gs.getD i default).ll (J.gs.getD i default).rh 12 && inB (J.gs.getD i default).lh (J.gs.getD i default).ll 12):=rfl
  refine Ok.cond rfl ?_ ?_
  ·intro hx
   have hx':(!groundB (J.gs.getD i default)) = true:=by
    rw [hg]
    revert hx
    cases inB (J.gs.getD i default).rl 0 12<;>cases inB (J.gs.getD i default).rh (J.gs.getD i default).rl 12<;>cases inB (J.gs.getD i default).ll (J.gs.getD i default).rh 12<;>cases inB (J.gs.getD i default).lh (J.gs.getD i default).ll 12<;>simp
   (first|refine qE ?_|refine qD ?_);(simp only [go_sem,↓dP,↓reduceIte];with_reducible and_intros;all_goals first|apply qA|exact qC|skip)
   (refine Ok.ret ?_;(try dsimp only [thenK,blockK,noGotoK]);simp only [toList_mk,List.toList_toArray,retK_ret,retK_normal,resOK,resV,celV,rowV,frzAll,frzT,subV,subL,go_sem,↓dP,↓reduceIte])
   refine DEq.bool ?_
   have:J.gs.any (fun g => !groundB g) = true:=List.any_eq_true.2 ⟨_,getD_mem hi,hx'⟩
   rw [jobB,all_any,this];simp
  ·intro hx
   have hx':(!groundB (J.gs.getD i default)) = false:=by
    rw [hg]
    revert hx
    cases inB (J.gs.getD i default).rl 0 12<;>cases inB (J.gs.getD i default).rh (J.gs.getD i default).rl 12<;>cases inB (J.gs.getD i default).ll (J.gs.getD i default).rh 12<;>cases inB (J.gs.getD i default).lh (J.gs.getD i default).ll 12<;>simp
   (refine Ok.skip ?_;(try dsimp only [thenK,blockK,noGotoK]))
   (first|refine qE ?_|refine qD ?_);(simp only [go_sem,↓dP,↓reduceIte];with_reducible and_intros;all_goals first|apply qA|exact qC|skip)
   (try dsimp only [thenK,blockK,noGotoK])
   refine ⟨no_step (q:=fun g => !groundB g) hi h0 hx',?_⟩
   (refine Sub.of ([0]) ([]) ?_ ?_ ?_ rfl rfl<;>simp only [subB,subB1,subT,subT1,newT,subE,subV,subL,go_sem,↓dP,↓reduceIte]<;>(try (repeat' with_reducible apply And.intro))<;>(try first | exact DEq.refl _ | refine DEq.int ?_ | refine DEq.bool ?_ | omega))
 intro h0
 have hgs:J.gs.any (fun g => !groundB g) = false:=List.any_eq_false.2 (fun x hx => by simp [h0 x (by simpa using hx)])
 refine Ok.seq ?_;((first|refine qE ?_|refine qD ?_);(simp only [go_sem,↓dP,↓reduceIte];with_reducible and_intros;all_goals first|apply qA|exact qC|skip));refine Ok.cond rfl (fun hb => by simp at hb) (fun _ => ?_);(refine Ok.exit ?_;simp only [thenK_exit,blockK_exit,noGotoK_exit,thenK_normal,blockK_normal,noGotoK_normal,↓reduceIte,Nat.reduceEqDiff])
 refine Ok.seq ?_
 (first|refine qE ?_|refine qD ?_);(simp only [go_sem,↓dP,↓reduceIte];with_reducible and_intros;all_goals first|apply qA|exact qC|skip)
 refine Ok.block ?_
 refine Ok.count J.ps.length (fun i => ⟨[(1,.p 0 0),(5,iS i)],[jobC J],[]⟩) (fun i => ∀ x∈J.ps.take i,(!pieceB J.gs.length x) = false) ⟨fun x hx => by simp at hx,?_⟩ ?_ ?_
 ·(refine Sub.of ([0]) ([]) ?_ ?_ ?_ rfl rfl<;>simp only [subB,subB1,subT,subT1,newT,subE,subV,subL,go_sem,↓dP,↓reduceIte]<;>(try (repeat' with_reducible apply And.intro))<;>(try first | exact DEq.refl _ | refine DEq.int ?_ | refine DEq.bool ?_ | omega))
 ·intro i hi h0
  refine Ok.seq ?_;((first|refine qE ?_|refine qD ?_);(simp only [go_sem,↓dP,↓reduceIte];with_reducible and_intros;all_goals first|apply qA|exact qC|skip));refine Ok.cond rfl (fun _ => ?_) (fun hb => by simp at hb;omega);(refine Ok.skip ?_;(try dsimp only [thenK,blockK,noGotoK]));refine Ok.seq ?_;refine Ok.block ?_
  (first|refine qE ?_|refine qD ?_);(simp only [go_sem,↓dP,↓reduceIte];with_reducible and_intros;all_goals first|apply qA|exact qC|skip)
  (first|refine qE ?_|refine qD ?_);(simp only [go_sem,↓dP,↓reduceIte];with_reducible and_intros;all_goals first|apply qA|exact qC|skip)
  (refine AskI.ret (c_rin _ _ _) ?_;simp only [go_sem,↓dP,↓reduceIte];with_reducible and_intros;all_goals first|apply qA|exact qC|skip)
  (refine AskGI.ret (fun _ => c_rin _ _ _) ?_;simp only [go_sem,↓dP,↓reduceIte];with_reducible and_intros;all_goals first|apply qA|exact qC|skip)
  (refine AskGI.ret (fun _ => c_rin _ _ _) ?_;simp only [go_sem,↓dP,↓reduceIte];with_reducible and_intros;all_goals first|apply qA|exact qC|skip)
  have hg:pieceB J.gs.length (J.ps.getD i default) = (inB (J.ps.getD i default).w 1 6 && inB (J.ps.getD i default).h 1 6 && inB (J.ps.getD i default).g 0 (J.gs.length - 1)):=rfl
  refine Ok.cond rfl ?_ ?_
  ·intro hx
   have hx':(!pieceB J.gs.length (J.ps.getD i default)) = true:=by
    rw [hg]
    revert hx
    cases inB (J.ps.getD i default).w 1 6<;>cases inB (J.ps.getD i default).h 1 6<;>cases inB (J.ps.getD i default).g 0 (J.gs.length - 1)<;>simp
   (first|refine qE ?_|refine qD ?_);(simp only [go_sem,↓dP,↓reduceIte];with_reducible and_intros;all_goals first|apply qA|exact qC|skip)
   (refine Ok.ret ?_;(try dsimp only [thenK,blockK,noGotoK]);simp only [toList_mk,List.toList_toArray,retK_ret,retK_normal,resOK,resV,celV,rowV,frzAll,frzT,subV,subL,go_sem,↓dP,↓reduceIte])
   refine DEq.bool ?_
   have:J.ps.any (fun p => !pieceB J.gs.length p) = true:=List.any_eq_true.2 ⟨_,getD_mem hi,hx'⟩
   rw [jobB,all_any J.ps,this];simp
  ·intro hx
   have hx':(!pieceB J.gs.length (J.ps.getD i default)) = false:=by
    rw [hg]
    revert hx
    cases inB (J.ps.getD i default).w 1 6<;>cases inB (J.ps.getD i default).h 1 6<;>cases inB (J.ps.getD i default).g 0 (J.gs.length - 1)<;>simp
   (refine Ok.skip ?_;(try dsimp only [thenK,blockK,noGotoK]))
   (first|refine qE ?_|refine qD ?_);(simp only [go_sem,↓dP,↓reduceIte];with_reducible and_intros;all_goals first|apply qA|exact qC|skip)
   (try dsimp only [thenK,blockK,noGotoK])
   refine ⟨no_step (q:=fun p => !pieceB J.gs.length p) hi h0 hx',?_⟩
   (refine Sub.of ([0]) ([]) ?_ ?_ ?_ rfl rfl<;>simp only [subB,subB1,subT,subT1,newT,subE,subV,subL,go_sem,↓dP,↓reduceIte]<;>(try (repeat' with_reducible apply And.intro))<;>(try first | exact DEq.refl _ | refine DEq.int ?_ | refine DEq.bool ?_ | omega))
 ·intro h0
  have hps:J.ps.any (fun p => !pieceB J.gs.length p) = false:=List.any_eq_false.2 (fun x hx => by simp [h0 x (by simpa using hx)])
  refine Ok.seq ?_;((first|refine qE ?_|refine qD ?_);(simp only [go_sem,↓dP,↓reduceIte];with_reducible and_intros;all_goals first|apply qA|exact qC|skip));refine Ok.cond rfl (fun hb => by simp at hb) (fun _ => ?_);(refine Ok.exit ?_;simp only [thenK_exit,blockK_exit,noGotoK_exit,thenK_normal,blockK_normal,noGotoK_normal,↓reduceIte,Nat.reduceEqDiff])
  (first|refine qE ?_|refine qD ?_);(simp only [go_sem,↓dP,↓reduceIte];with_reducible and_intros;all_goals first|apply qA|exact qC|skip)
  (refine Ok.ret ?_;(try dsimp only [thenK,blockK,noGotoK]);simp only [toList_mk,List.toList_toArray,retK_ret,retK_normal,resOK,resV,celV,rowV,frzAll,frzT,subV,subL,go_sem,↓dP,↓reduceIte])
  refine DEq.bool ?_
  rw [jobB,hhead,all_any,all_any,hgs,hps]
  rfl
end Go.Proofs.Leaf
namespace Go.Proofs.Leaf
open Go Go.RX Go.Proofs
set_option maxRecDepth 10000
variable [Glob]
theorem asI_append (L M:List Nat):asI (L ++ M) = asI L ++ asI M:=by simp
end Go.Proofs.Leaf
namespace Go.Proofs.Leaf
open Go Go.RX Go.Proofs
set_option maxRecDepth 10000
variable [Glob]
def boundK (J:Job) (lo hi:Int) (k:Nat):List Nat:=(List.range k).filter (fun i => decide (lo<=(J.span false i).1) && decide ((J.span false i).2<=hi))
theorem boundK_succ (J:Job) (lo hi:Int) (k:Nat):asI (boundK J lo hi (k + 1)) = asI (boundK J lo hi k) ++ (if (decide (lo<=(J.span false k).1) && decide ((J.span false k).2<=hi)) = true then [(k:Int)] else []):=by
 unfold boundK
 rw [List.range_succ,List.filter_append,asI_append]
 by_cases h:(decide (lo<=(J.span false k).1) && decide ((J.span false k).2<=hi)) = true
 ·rw [if_pos h,List.filter_cons,if_pos h,List.filter_nil];rfl
 ·rw [if_neg h,List.filter_cons,if_neg h,List.filter_nil];rfl
theorem boundK_all (J:Job) (lo hi:Int):boundK J lo hi J.ps.length = boundL (spans J false) lo hi:=by
 unfold boundK boundL
 rw [spans_len]
 refine List.filter_congr (fun i hi => ?_)
 rw [span_at J false (List.mem_range.1 hi)]
theorem c_rWithin (J : Job) (hJ : J.based) (lo up : Int) : Ctr Tryz.prog 30 [J.sv, spS (lo, up)] (ilS (asI (boundL (spans J false) lo up))) := by
  have hpl := hJ.pl
  rw [← boundK_all]
  (refine Ctr.mk (fn := Tryz.f30) rfl rfl rfl rfl rfl Tryz.results30 ?_; intro _; dsimp only [args, List.toList_toArray])
  (first|refine qE ?_|refine qD ?_);(simp only [go_sem,↓dP,↓reduceIte];with_reducible and_intros;all_goals first|apply qA|exact qC|skip)
  (first|refine qE ?_|refine qD ?_);(simp only [go_sem,↓dP,↓reduceIte];with_reducible and_intros;all_goals first|apply qA|exact qC|skip)
  refine Ok.seq ?_
  (first|refine qE ?_|refine qD ?_);(simp only [go_sem,↓dP,↓reduceIte];with_reducible and_intros;all_goals first|apply qA|exact qC|skip)
  refine Ok.block ?_
  refine Ok.count J.ps.length (fun i => ⟨[(2, .p 0 0), (3, .p 1 0), (5, .tk 0), (6, iS i)], [jobC J, { frz := false, xs := [iS lo, iS up] }], [ownD 3 1 intD (asI (boundK J lo up i))]⟩) (fun _ => True) ⟨trivial, ?_⟩ ?_ ?_
  · (refine Sub.of ([0, 1]) ([none]) ?_ ?_ ?_ rfl rfl <;> simp only [subB, subB1, subT, subT1, newT, subE, subV, subL, go_sem,↓dP,↓reduceIte] <;> (try (repeat' with_reducible apply And.intro)) <;> (try first | exact DEq.refl _ | refine DEq.int ?_ | refine DEq.bool ?_ | omega))
    simp [boundK]
  · intro i hi _
    have hlen : (asI (boundK J lo up i)).length ≤ i := by
      rw [asI_len]
      exact Nat.le_trans (List.length_filter_le _ _) (by simp)
    have hsn := boundK_succ J lo up i
    refine Ok.seq ?_; ((first|refine qE ?_|refine qD ?_);(simp only [go_sem,↓dP,↓reduceIte];with_reducible and_intros;all_goals first|apply qA|exact qC|skip)); refine Ok.cond rfl (fun _ => ?_) (fun hb => by simp at hb; omega); (refine Ok.skip ?_; (try dsimp only [thenK, blockK, noGotoK])); refine Ok.seq ?_; refine Ok.block ?_
    (first|refine qE ?_|refine qD ?_);(simp only [go_sem,↓dP,↓reduceIte];with_reducible and_intros;all_goals first|apply qA|exact qC|skip)
    (refine AskI.ret (c_rHours J hJ i (by omega) (by omega) false) ?_; simp only [go_sem,↓dP,↓reduceIte];with_reducible and_intros;all_goals first|apply qA|exact qC|skip)
    refine Ok.seq ?_
    (first|refine qE ?_|refine qD ?_);(simp only [go_sem,↓dP,↓reduceIte];with_reducible and_intros;all_goals first|apply qA|exact qC|skip)
    refine Ok.cond rfl ?_ ?_
    · intro hb
      rw [if_pos hb] at hsn
      (first|refine qE ?_|refine qD ?_);(simp only [go_sem,↓dP,↓reduceIte];with_reducible and_intros;all_goals first|apply qA|exact qC|skip)
      (try dsimp only [thenK, blockK, noGotoK])
      (first|refine qE ?_|refine qD ?_);(simp only [go_sem,↓dP,↓reduceIte];with_reducible and_intros;all_goals first|apply qA|exact qC|skip)
      (try dsimp only [thenK, blockK, noGotoK])
      refine ⟨trivial, ?_⟩
      rw [hsn]
      (refine Sub.of ([0, 1]) ([some 1]) ?_ ?_ ?_ rfl rfl <;> simp only [subB, subB1, subT, subT1, newT, subE, subV, subL, go_sem,↓dP,↓reduceIte] <;> (try (repeat' with_reducible apply And.intro)) <;> (try first | exact DEq.refl _ | refine DEq.int ?_ | refine DEq.bool ?_ | omega))
      · simp
      · exact snoc_D (fun c hc => by have : c = 0 := by omega
                                     subst this; rfl)
    · intro hb
      rw [if_neg (by rw [hb]; simp), List.append_nil] at hsn
      (refine Ok.skip ?_; (try dsimp only [thenK, blockK, noGotoK]))
      (try dsimp only [thenK, blockK, noGotoK])
      (first|refine qE ?_|refine qD ?_);(simp only [go_sem,↓dP,↓reduceIte];with_reducible and_intros;all_goals first|apply qA|exact qC|skip)
      (try dsimp only [thenK, blockK, noGotoK])
      refine ⟨trivial, ?_⟩
      rw [hsn]
      (refine Sub.of ([0, 1]) ([some 0]) ?_ ?_ ?_ rfl rfl <;> simp only [subB, subB1, subT, subT1, newT, subE, subV, subL, go_sem,↓dP,↓reduceIte] <;> (try (repeat' with_reducible apply And.intro)) <;> (try first | exact DEq.refl _ | refine DEq.int ?_ | refine DEq.bool ?_ | omega))
      exact fun _ _ _ _ => DEq.refl _
  · intro _
    refine Ok.seq ?_; ((first|refine qE ?_|refine qD ?_);(simp only [go_sem,↓dP,↓reduceIte];with_reducible and_intros;all_goals first|apply qA|exact qC|skip)); refine Ok.cond rfl (fun hb => by simp at hb) (fun _ => ?_); (refine Ok.exit ?_; simp only [thenK_exit, blockK_exit, noGotoK_exit, thenK_normal, blockK_normal, noGotoK_normal, ↓reduceIte, Nat.reduceEqDiff])
    (first|refine qE ?_|refine qD ?_);(simp only [go_sem,↓dP,↓reduceIte];with_reducible and_intros;all_goals first|apply qA|exact qC|skip)
    (refine Ok.ret ?_; (try dsimp only [thenK, blockK, noGotoK]); simp only [toList_mk, List.toList_toArray, retK_ret, retK_normal, resOK, resV, celV, rowV, frzAll, frzT, subV, subL, go_sem,↓dP,↓reduceIte])
    exact .refl _
end Go.Proofs.Leaf
namespace Go.Proofs.Leaf
open Go Go.RX Go.Proofs
set_option maxRecDepth 10000
variable [Glob]
def shortB (J:Job):Bool:=decide (J.gs.length<=5) && decide (J.ps.length<=7)
theorem c_lshort (J:Job) (h:J.far):Ctr Tryz.prog 23 [J.sv] (bS (shortB J)):=by
 have h1:=h.1
 have h2:=h.2
 (refine Ctr.mk (fn:=Tryz.f23) rfl rfl rfl rfl rfl Tryz.results23 ?_;intro _;dsimp only [args,List.toList_toArray])
 (first|refine qE ?_|refine qD ?_);(simp only [go_sem,↓dP,↓reduceIte];with_reducible and_intros;all_goals first|apply qA|exact qC|skip)
 (first|refine qE ?_|refine qD ?_);(simp only [go_sem,↓dP,↓reduceIte];with_reducible and_intros;all_goals first|apply qA|exact qC|skip)
 (refine Ok.ret ?_;(try dsimp only [thenK,blockK,noGotoK]);simp only [toList_mk,List.toList_toArray,retK_ret,retK_normal,resOK,resV,celV,rowV,frzAll,frzT,subV,subL,go_sem,↓dP,↓reduceIte])
 refine DEq.bool ?_
 unfold shortB
 by_cases g1:J.gs.length<=5<;>by_cases g2:J.ps.length<=7<;>simp [g1,g2]<;>omega
theorem short_held {J:Job} (h:shortB J = true):J.held:=by
 simp only [shortB,Bool.and_eq_true,decide_eq_true_eq] at h
 exact ⟨by omega,by omega⟩
def rightB (J:Job):Bool:=shortB J && jobB J
theorem c_lright (J:Job) (h:J.far):Ctr Tryz.prog 13 [J.sv] (bS (rightB J)):=by
 (refine Ctr.mk (fn:=Tryz.f13) rfl rfl rfl rfl rfl Tryz.results13 ?_;intro _;dsimp only [args,List.toList_toArray])
 (first|refine qE ?_|refine qD ?_);(simp only [go_sem,↓dP,↓reduceIte];with_reducible and_intros;all_goals first|apply qA|exact qC|skip)
 (first|refine qE ?_|refine qD ?_);(simp only [go_sem,↓dP,↓reduceIte];with_reducible and_intros;all_goals first|apply qA|exact qC|skip)
 (refine AskI.ret (c_lshort J h) ?_;simp only [go_sem,↓dP,↓reduceIte];with_reducible and_intros;all_goals first|apply qA|exact qC|skip)
 (refine AskGI.ret (fun h => c_rJob J (short_held (by simpa using h))) ?_;simp only [go_sem,↓dP,↓reduceIte];with_reducible and_intros;all_goals first|apply qA|exact qC|skip)
 (refine Ok.ret ?_;(try dsimp only [thenK,blockK,noGotoK]);simp only [toList_mk,List.toList_toArray,retK_ret,retK_normal,resOK,resV,celV,rowV,frzAll,frzT,subV,subL,go_sem,↓dP,↓reduceIte])
 refine DEq.bool ?_
 unfold rightB
 cases shortB J<;>simp
end Go.Proofs.Leaf
namespace Go.Proofs.YtdajcfdhcjbmmaaGreatDoor
open Go Go.RX Go.Proofs.Leaf Go.RowKit Go.ChangeShapes Go.WideShapes Go.ChangeAt
set_option maxRecDepth 100000
section
variable {H : Type} {enc : TypeId × Value → H} {W : World}
end
theorem opensAll_cons {t:TypeId} {ts:List TypeId} {As:List SV} (h:opensAll (t :: ts) As):∃ A Bs,As = A :: Bs/\opens t A/\opensAll ts Bs:=by
 cases As with
 | nil => exact h.elim
 | cons A Bs => exact ⟨A,Bs,rfl,h.1,h.2⟩
theorem opensAll_nil {As:List SV} (h:opensAll [] As):As = []:=by
 cases As with
 | nil => rfl
 | cons A Bs => exact h.elim
end Go.Proofs.YtdajcfdhcjbmmaaGreatDoor
namespace Go.Proofs.Leaf
open Go Go.RX Go.Proofs
theorem proof_some {sp:List (Int×Int)} {s:Int×Int} (h:proofL sp = some s):(0<=s.1/\s.1<=s.2/\s.2<=12)/\s.2 - s.1 + 1 < (boundL sp s.1 s.2).length /\
  ∀ x:Int×Int,0<=x.1->x.1<=x.2->x.2<=12->x.2 - x.1 + 1 < (boundL sp x.1 x.2).length->s.2 - s.1 < x.2 - x.1∨(s.2 - s.1 = x.2 - x.1/\s.1<=x.1):=by
 refine ⟨mem_spansL.1 (List.mem_of_find?_eq_some h),by simpa using List.find?_some h,fun x h1 h2 h3 hq => ?_⟩
 rcases find_sorted spansL_sorted h (mem_spansL.2 ⟨h1,h2,h3⟩) (show decide _ = true from decide_eq_true hq) with q | q | q
 ·subst q;exact .inr ⟨rfl,Int.le_refl _⟩
 ·exact .inl q
 ·exact .inr ⟨q.1,by omega⟩
theorem proof_few {sp:List (Int×Int)} (h:proofL sp = none) {x:Int×Int} (h1:0<=x.1) (h2:x.1<=x.2) (h3:x.2<=12):¬ x.2 - x.1 + 1 < (boundL sp x.1 x.2).length:=fun q => by
 have:=List.find?_eq_none.1 h x (mem_spansL.2 ⟨h1,h2,h3⟩)
 exact this (decide_eq_true q)
theorem boundL_le (sp:List (Int×Int)) (lo hi:Int):(boundL sp lo hi).length<=sp.length:=by
 unfold boundL
 refine Nat.le_trans (List.length_filter_le _ _) ?_
 rw [List.length_range];exact Nat.le_refl _
end Go.Proofs.Leaf
namespace Go.Proofs.Leaf
open Go Go.RX Go.Proofs Go.RowKit
set_option maxRecDepth 100000
section
theorem law_Short (J:Job) (hf:J.far) (lo hi:Int):Ctr Tryz.prog 5 [J.sv,spS (lo,hi)] (bS true):=by
 (refine Ctr.mk (fn:=Tryz.f5) rfl rfl rfl rfl rfl Tryz.results5 ?_;intro _;dsimp only [args,List.toList_toArray])
 (first|refine qE ?_|refine qD ?_);(simp only [go_sem,↓dP,↓reduceIte];with_reducible and_intros;all_goals first|apply qA|exact qC|skip)
 refine Ok.seq ?_
 (first|refine qE ?_|refine qD ?_);(simp only [go_sem,↓dP,↓reduceIte];with_reducible and_intros;all_goals first|apply qA|exact qC|skip)
 (refine AskI.ret (c_lright J hf) ?_;simp only [go_sem,↓dP,↓reduceIte];with_reducible and_intros;all_goals first|apply qA|exact qC|skip)
 refine Ok.cond rfl ?_ ?_
 ·intro hs
  (first|refine qE ?_|refine qD ?_);(simp only [go_sem,↓dP,↓reduceIte];with_reducible and_intros;all_goals first|apply qA|exact qC|skip)
  (refine AskI.ret (c_known) ?_;simp only [go_sem,↓dP,↓reduceIte];with_reducible and_intros;all_goals first|apply qA|exact qC|skip)
  (refine Ok.ret ?_;(try dsimp only [thenK,blockK,noGotoK]);simp only [toList_mk,List.toList_toArray,retK_ret,retK_normal,resOK,resV,celV,rowV,frzAll,frzT,subV,subL,go_sem,↓dP,↓reduceIte])
  ((repeat' with_reducible apply And.intro)<;>(first | exact DEq.refl _ | refine DEq.int ?_ | refine DEq.bool ?_ | skip))
 intro hs
 (refine Ok.skip ?_;(try dsimp only [thenK,blockK,noGotoK]))
 obtain ⟨hr,h1,h2,h3⟩:rightB J = true/\0<=lo/\lo<=hi/\hi<=12:=by
  simp only [Bool.or_eq_false_iff,Bool.not_eq_false',decide_eq_false_iff_not] at hs
  obtain ⟨⟨⟨a1,a2⟩,a3⟩,a4⟩:=hs
  exact ⟨a1,by omega,by omega,by omega⟩
 simp only [rightB,Bool.and_eq_true] at hr
 obtain ⟨hsh,hj⟩:=hr
 have hh:=short_held hsh
 have h:=jobB_iff.1 hj
 have hp:=h.p1
 have hP:=c_Proof J h.based hh hj
 have hpn:=proof_none (h.span false)
 have hrW:=fun lo up => c_rWithin J h.based lo up
 have hbl:∀ lo up,(asI (boundL (spans J false) lo up)).length<=J.ps.length:=fun lo up => by rw [asI_len,← spans_len J false];exact boundL_le _ _ _
 have hbn:∀ lo up,(asI (boundL (spans J false) lo up)).length = (boundL (spans J false) lo up).length:=fun lo up => asI_len _
 cases hpr:proofL (spans J false) with
 | none =>
  rw [prfS_none hpr] at hP
  have hnf:¬ hi - lo + 1 < ((boundL (spans J false) lo hi).length:Int):=proof_few hpr (x:=(lo,hi)) h1 h2 h3
  obtain ⟨m,hm⟩:=hpn.1 hpr
  have hpl:(planOf J false).isSome = true:=head_some.2 ⟨m,hm⟩
  have hPl:=c_Plan J h.based hh h.timed (by omega) hj
  rw [if_pos hpl] at hPl
  have hb1:=hbl lo hi
  have hb2:=hbn lo hi
  (first|refine qE ?_|refine qD ?_);(simp only [go_sem,↓dP,↓reduceIte];with_reducible and_intros;all_goals first|apply qA|exact qC|skip)
  (refine AskI.ret (hP) ?_;simp only [go_sem,↓dP,↓reduceIte];with_reducible and_intros;all_goals first|apply qA|exact qC|skip)
  (first|refine qE ?_|refine qD ?_);(simp only [go_sem,↓dP,↓reduceIte];with_reducible and_intros;all_goals first|apply qA|exact qC|skip)
  (refine AskI.ret (hPl) ?_;simp only [go_sem,↓dP,↓reduceIte];with_reducible and_intros;all_goals first|apply qA|exact qC|skip)
  refine Ok.seq ?_
  (first|refine qE ?_|refine qD ?_);(simp only [go_sem,↓dP,↓reduceIte];with_reducible and_intros;all_goals first|apply qA|exact qC|skip)
  refine Ok.cond (b:=false) (by first | rfl | (simp only [go_sem,↓dP,↓reduceIte];rfl)) (fun hb => by cases hb) (fun _ => ?_)
  (refine Ok.skip ?_;(try dsimp only [thenK,blockK,noGotoK]))
  (first|refine qE ?_|refine qD ?_);(simp only [go_sem,↓dP,↓reduceIte];with_reducible and_intros;all_goals first|apply qA|exact qC|skip)
  (first|refine qE ?_|refine qD ?_);(simp only [go_sem,↓dP,↓reduceIte];with_reducible and_intros;all_goals first|apply qA|exact qC|skip)
  (refine AskI.ret (hrW lo hi) ?_;simp only [go_sem,↓dP,↓reduceIte];with_reducible and_intros;all_goals first|apply qA|exact qC|skip)
  refine Ok.seq ?_
  (first|refine qE ?_|refine qD ?_);(simp only [go_sem,↓dP,↓reduceIte];with_reducible and_intros;all_goals first|apply qA|exact qC|skip)
  refine Ok.cond (b:=true) (by first | rfl | (simp only [go_sem,↓dP,↓reduceIte];rfl)) (fun _ => ?_) (fun hb => by cases hb)
  (first|refine qE ?_|refine qD ?_);(simp only [go_sem,↓dP,↓reduceIte];with_reducible and_intros;all_goals first|apply qA|exact qC|skip)
  (refine AskGI.ret (fun _ => c_known) ?_;simp only [go_sem,↓dP,↓reduceIte];with_reducible and_intros;all_goals first|apply qA|exact qC|skip)
  (refine Ok.ret ?_;(try dsimp only [thenK,blockK,noGotoK]);simp only [toList_mk,List.toList_toArray,retK_ret,retK_normal,resOK,resV,celV,rowV,frzAll,frzT,subV,subL,go_sem,↓dP,↓reduceIte])
  ((repeat' with_reducible apply And.intro)<;>(first | exact DEq.refl _ | refine DEq.int ?_ | refine DEq.bool ?_ | skip))
  rw [hb2,decide_eq_false hnf];rfl
 | some s =>
  rw [prfS_some hpr] at hP
  obtain ⟨⟨s1,s2,s3⟩,s4,s5⟩:=proof_some hpr
  have s6:=s5 (lo,hi) h1 h2 h3
  have hpl:¬ (planOf J false).isSome = true:=fun q => by
   obtain ⟨m,hm⟩:=head_some.1 q
   rw [hpn.2 ⟨m,hm⟩] at hpr
   cases hpr
  have hPl:=c_Plan J h.based hh h.timed (by omega) hj
  rw [if_neg hpl] at hPl
  have hb1:=hbl lo hi
  have hb2:=hbn lo hi
  have hb3:=hbl s.1 s.2
  have hb4:=hbn s.1 s.2
  (first|refine qE ?_|refine qD ?_);(simp only [go_sem,↓dP,↓reduceIte];with_reducible and_intros;all_goals first|apply qA|exact qC|skip)
  (refine AskI.ret (hP) ?_;simp only [go_sem,↓dP,↓reduceIte];with_reducible and_intros;all_goals first|apply qA|exact qC|skip)
  (first|refine qE ?_|refine qD ?_);(simp only [go_sem,↓dP,↓reduceIte];with_reducible and_intros;all_goals first|apply qA|exact qC|skip)
  (refine AskI.ret (hPl) ?_;simp only [go_sem,↓dP,↓reduceIte];with_reducible and_intros;all_goals first|apply qA|exact qC|skip)
  refine Ok.seq ?_
  (first|refine qE ?_|refine qD ?_);(simp only [go_sem,↓dP,↓reduceIte];with_reducible and_intros;all_goals first|apply qA|exact qC|skip)
  refine Ok.cond (b:=false) (by first | rfl | (simp only [go_sem,↓dP,↓reduceIte];rfl)) (fun hb => by cases hb) (fun _ => ?_)
  (refine Ok.skip ?_;(try dsimp only [thenK,blockK,noGotoK]))
  (first|refine qE ?_|refine qD ?_);(simp only [go_sem,↓dP,↓reduceIte];with_reducible and_intros;all_goals first|apply qA|exact qC|skip)
  (first|refine qE ?_|refine qD ?_);(simp only [go_sem,↓dP,↓reduceIte];with_reducible and_intros;all_goals first|apply qA|exact qC|skip)
  (refine AskI.ret (hrW lo hi) ?_;simp only [go_sem,↓dP,↓reduceIte];with_reducible and_intros;all_goals first|apply qA|exact qC|skip)
  refine Ok.seq ?_
  (first|refine qE ?_|refine qD ?_);(simp only [go_sem,↓dP,↓reduceIte];with_reducible and_intros;all_goals first|apply qA|exact qC|skip)
  refine Ok.cond (b:=false) (by first | rfl | (simp only [go_sem,↓dP,↓reduceIte];rfl)) (fun hb => by cases hb) (fun _ => ?_)
  (refine Ok.skip ?_;(try dsimp only [thenK,blockK,noGotoK]))
  refine Ok.seq ?_
  (first|refine qE ?_|refine qD ?_);(simp only [go_sem,↓dP,↓reduceIte];with_reducible and_intros;all_goals first|apply qA|exact qC|skip)
  (refine AskGI.ret (fun _ => hrW s.1 s.2) ?_;simp only [go_sem,↓dP,↓reduceIte];with_reducible and_intros;all_goals first|apply qA|exact qC|skip)
  (refine AskGI.ret (fun _ => c_tSame _ _ (by omega) (by omega)) ?_;simp only [go_sem,↓dP,↓reduceIte];with_reducible and_intros;all_goals first|apply qA|exact qC|skip)
  refine Ok.cond rfl (fun hb => by rw [decide_eq_false (show ¬ s.1 < 0 by omega),decide_eq_false (show ¬ s.2 < s.1 by omega),decide_eq_false (show ¬ 12 < s.2 by omega)] at hb;simp at hb) (fun _ => ?_)
  (refine Ok.skip ?_;(try dsimp only [thenK,blockK,noGotoK]))
  (first|refine qE ?_|refine qD ?_);(simp only [go_sem,↓dP,↓reduceIte];with_reducible and_intros;all_goals first|apply qA|exact qC|skip)
  (first|refine qE ?_|refine qD ?_);(simp only [go_sem,↓dP,↓reduceIte];with_reducible and_intros;all_goals first|apply qA|exact qC|skip)
  (refine AskGI.ret (fun _ => c_known) ?_;simp only [go_sem,↓dP,↓reduceIte];with_reducible and_intros;all_goals first|apply qA|exact qC|skip)
  (refine Ok.ret ?_;(try dsimp only [thenK,blockK,noGotoK]);simp only [toList_mk,List.toList_toArray,retK_ret,retK_normal,resOK,resV,celV,rowV,frzAll,frzT,subV,subL,go_sem,↓dP,↓reduceIte])
  ((repeat' with_reducible apply And.intro)<;>(first | exact DEq.refl _ | refine DEq.int ?_ | refine DEq.bool ?_ | skip))
  rw [hb4,hb2,decide_eq_true s4,Bool.true_and]
  by_cases q:hi - lo + 1 < ((boundL (spans J false) lo hi).length:Int)
  ·rcases s6 q with r | ⟨r1,r2⟩
   ·have r':s.2 - s.1 + 1 < hi - lo + 1:=by have:s.2 - s.1 < hi - lo:=r;omega
    rw [decide_eq_true r'];simp
   ·have r':s.2 - s.1 = hi - lo:=r1
    rw [show (hi - lo + 1 == s.2 - s.1 + 1) = true from beq_iff_eq.2 (by omega),decide_eq_true (show s.1<=lo from r2)];simp
  ·rw [decide_eq_false q];rfl
end
end Go.Proofs.Leaf
namespace Go.Proofs.YtdajcfdhcjbmmaaGreatDoor
open Go Go.RX Go.Proofs.Leaf Go.RowKit Go.ChangeShapes Go.WideShapes Go.ChangeAt
set_option maxRecDepth 100000
theorem leafShort_ctr (As:List SV) (h:opensAll [25,38] As):Ctr Tryz.prog 5 As (bS true):=by
 obtain ⟨_,A1,rfl,h0,h⟩:=opensAll_cons h
 obtain ⟨_,A2,rfl,h1,h⟩:=opensAll_cons h
 obtain rfl:=opensAll_nil h
 obtain ⟨x0,rfl,y0⟩:=opens_job h0
 obtain ⟨x1,y1,rfl⟩:=opens_span h1
 exact law_Short x0 y0 x1 y1
theorem leafShort_facts:joinedFacts Tryz.prog 5 Tryz.f5 Rows.leafShortSpec Rows.leafShortRow = true:=by unfold joinedFacts;rw [enter_is,final_is,make_is];kernel_rfl
theorem leafShort_lifted (os:Os) (started:os.Started) (H:Type) (enc:TypeId×Value->H) :
  ReturnsInHanded {} Tryz.checked os 5 .any (fun w args => (Rows.leafShortSpec.pre enc Tryz.prog Tryz.f5 [] false w args/\laidMetH Tryz.prog laid5 w)/\sizedMet enc Tryz.prog Tryz.f5 (OpenSpec.ofChange Rows.leafShortSpec) false w args)
   (Rows.leafShortSpec.post enc Tryz.prog Tryz.f5 false true false false):=by
 refine law_ctr (ts:=[25,38]) Rows.leafShortSpec rfl started (by kernel_rfl) Tryz.func5 (by kernel_rfl) (by rw [Tryz.params5]) (by unfold argT;decide)
  (fun ds hd => ?_)
  (ChangeSpec.witness_shaped (enc:=enc) (C:=Tryz.checked) (os:=os) (X:=fun w _ => laidMetH Tryz.prog laid5 w) false (World.laidAll Tryz.prog os laid5) #[zJ,zZ] 8 (World.laidAll_os _ _ _)
   (World.shaped_of_ZipB (by kernel_rfl) (by kernel_rfl)) (by kernel_rfl) (by kernel_rfl) (by kernel_rfl)
   (by rw [MakeChecks.laidMetH_plain _ _ _ (by kernel_rfl)];exact laidMet_laidAll _ (by kernel_rfl) (by kernel_rfl))) leafShort_ctr
 match ds,hd with
 | [d0,d1],_ => rfl
theorem leafShort_row:Rows.LeafShortSaid :=
 OpenClaim.holds_of_wide 5 Tryz.f5 rfl rfl rfl rfl rfl rfl rfl ⟨rfl,rfl,rfl,rfl,rfl⟩ rfl rfl rfl rfl rfl (by kernel_rfl) Tryz.func5 leafShort_facts (of_decide_eq_true (by kernel_rfl))
  (by unfold Func.isWrapper;first | (rw [if_pos (by decide +kernel)];kernel_rfl) | (rw [if_neg (by decide +kernel)];exact ⟨rfl,rfl⟩)) (fun os started H enc _ => leafShort_lifted os started H enc)
theorem leafShort_card:Rows.LeafShortCardSaid :=
 Claim7.holds_tied_plain_at .later [] [.data,.data,.data,.data,.pinned] true (true,"9e87e616c4e1775f9d0f73ad686290748eaae9f5c03add0b1bcc61ba8396e555") true leafShort_row
  (fun _ h => by cases h) (by kernel_rfl) (fun _ h => by cases h) leafShort_row_tie rfl ⟨rfl,rfl⟩ main_is rfl
  (fun f fn hf hfn => by
   obtain rfl:f = 5:=Option.some.inj ((show Tryz.prog.funcNamed "mahlstick/mahlsticklaw04.LeafShort" = some 5 by kernel_rfl).symm.trans hf) |>.symm
   obtain rfl:fn = Tryz.f5:=(Option.some.inj (Tryz.func5.symm.trans hfn)).symm
   exact ⟨by kernel_rfl,fun j t ht => by
    rw [Tryz.params5] at ht
    exact law_stand (ts:=[25,38]) (by unfold argT;decide) (by simpa using Array.mem_of_getElem? ht)⟩) (by kernel_rfl)
end Go.Proofs.YtdajcfdhcjbmmaaGreatDoor
