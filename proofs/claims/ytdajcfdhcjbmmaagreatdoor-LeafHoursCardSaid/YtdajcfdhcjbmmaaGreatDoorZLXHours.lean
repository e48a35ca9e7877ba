/-
  when a piece is laid: LeafHours returns true at every input, and leaves it as it was.
  No condition beside those that the statement itself names.
-/
import Derived.Test.YtdajcfdhcjbmmaaGreatDoorB30
import Derived.ChangeMaps5
set_option linter.all false
namespace Go.Proofs.Leaf
theorem hours_sorted (a b:Int):(hoursL a b).Pairwise (· < ·):=by
 rw [hoursL,List.pairwise_map]
 exact List.pairwise_lt_range.imp (fun h => by omega)
end Go.Proofs.Leaf
namespace Go.Proofs.Leaf
theorem head_some {α:Type} {L:List α}:L.head?.isSome = true ↔ ∃ x,x∈L:=by
 cases L with
 | nil => simp
 | cons a L => simp only [List.head?_cons,Option.isSome_some,true_iff];exact ⟨a,List.mem_cons_self ..⟩
theorem within_iff:∀ {l:List Int} {sp:List (Int×Int)},within l sp ↔ l.length = sp.length/\∀ i,i < sp.length->(sp.getD i default).1<=l.getD i 0/\l.getD i 0<=(sp.getD i default).2
 | [],[] => by simp [within]
 | x :: l,(a,b) :: sp => by
  have ih:=within_iff (l:=l) (sp:=sp)
  simp only [within,ih,List.length_cons]
  constructor
  ·rintro ⟨h1,h2,h3,h4⟩
   refine ⟨by omega,fun i hi => ?_⟩
   cases i with
   | zero => exact ⟨h1,h2⟩
   | succ i => simpa using h4 i (by omega)
  ·rintro ⟨h1,h2⟩
   have h0:=h2 0 (by omega)
   refine ⟨h0.1,h0.2,by omega,fun i hi => ?_⟩
   simpa using h2 (i + 1) (by omega)
 | [],_ :: _ => by simp [within]
 | _ :: _,[] => by simp [within]
theorem within_set {l:List Int} {sp:List (Int×Int)} {i:Nat} (hi:i < sp.length) {a b:Int}:within l (sp.set i (a,b)) ↔ l.length = sp.length/\a<=l.getD i 0/\l.getD i 0<=b/\∀ j,j < sp.length->j ≠ i->(sp.getD j default).1<=l.getD j 0/\l.getD j 0<=(sp.getD j default).2:=by
 rw [within_iff,List.length_set]
 constructor
 ·rintro ⟨h1,h2⟩
  have h3:=h2 i hi
  rw [List.getD_eq_getElem?_getD,List.getElem?_set_self hi] at h3
  refine ⟨h1,h3.1,h3.2,fun j hj hne => ?_⟩
  have h4:=h2 j hj
  rw [List.getD_eq_getElem?_getD,List.getElem?_set_ne (fun e => hne e.symm),← List.getD_eq_getElem?_getD] at h4
  exact h4
 ·rintro ⟨h1,h2,h3,h4⟩
  refine ⟨h1,fun j hj => ?_⟩
  by_cases e:j = i
  ·subst e
   rw [List.getD_eq_getElem?_getD,List.getElem?_set_self hi]
   exact ⟨h2,h3⟩
  ·rw [List.getD_eq_getElem?_getD (l:=sp.set i (a,b)),List.getElem?_set_ne (fun q => e q.symm),← List.getD_eq_getElem?_getD]
   exact h4 j hj e
theorem fixS_iff {sp:List (Int×Int)} {i:Nat} (hi:i < sp.length) {a b:Int} (ha:(sp.getD i default).1<=a) (hb:b<=(sp.getD i default).2) :
  fixS sp i a b = true ↔ ∃ l∈planL sp [],a<=l.getD i 0/\l.getD i 0<=b:=by
 rw [fixS,head_some]
 constructor
 ·rintro ⟨l,hl⟩
  obtain ⟨h1,h2⟩:=plan_iff.1 hl
  obtain ⟨g1,g2,g3,g4⟩:=(within_set hi).1 h1
  refine ⟨l,plan_iff.2 ⟨within_iff.2 ⟨g1,fun j hj => ?_⟩,h2⟩,g2,g3⟩
  by_cases e:j = i
  ·subst e;omega
  ·exact g4 j hj e
 ·rintro ⟨l,hl,h3,h4⟩
  obtain ⟨h1,h2⟩:=plan_iff.1 hl
  obtain ⟨g1,g2⟩:=within_iff.1 h1
  exact ⟨l,plan_iff.2 ⟨(within_set hi).2 ⟨g1,h3,h4,fun j hj _ => g2 j hj⟩,h2⟩⟩
theorem planL_empty:∀ (s t:List (Int×Int)) (a b:Int) (now:List Int),b < a->planL (s ++ (a,b) :: t) now = []
 | [],t,a,b,now,h => by
  have:hoursL a b = []:=by
   rw [List.eq_nil_iff_forall_not_mem]
   intro x hx
   have:=mem_hoursL.1 hx
   omega
  rw [List.nil_append,planL,this];rfl
 | (c,d) :: s,t,a,b,now,h => by
  rw [List.cons_append,planL,List.flatMap_eq_nil_iff]
  intro x _
  split
  ·rfl
  ·exact planL_empty s t a b _ h
theorem fixS_empty {sp:List (Int×Int)} {i:Nat} (hi:i < sp.length) {a b:Int} (h:b < a):fixS sp i a b = false:=by
 have:sp.set i (a,b) = sp.take i ++ (a,b) :: sp.drop (i + 1):=by rw [List.set_eq_take_append_cons_drop,if_pos hi]
 rw [fixS,this,planL_empty _ _ _ _ _ h];rfl
theorem hours_filter {lo hi:Int} (h0:0<=lo) (h1:hi<=12) (p:Int->Bool) (hp:∀ x,p x = true->lo<=x/\x<=hi):(hoursL 0 12).filter p = (hoursL lo hi).filter p:=by
 have hs1:=(hours_sorted 0 12).sublist (List.filter_sublist (p:=p))
 have hs2:=(hours_sorted lo hi).sublist (List.filter_sublist (p:=p))
 refine List.Perm.eq_of_pairwise (le:=(· < ·)) (fun a b _ _ h1 h2 => by omega) hs1 hs2 ?_
 refine (List.perm_ext_iff_of_nodup (hs1.imp (fun h => by omega)) (hs2.imp (fun h => by omega))).2 (fun x => ?_)
 simp only [List.mem_filter,mem_hoursL]
 constructor
 ·rintro ⟨_,h⟩;exact ⟨hp x h,h⟩
 ·rintro ⟨_,h⟩;have:=hp x h;exact ⟨by omega,h⟩
theorem whenL_eq {sp:List (Int×Int)} {i:Nat} (hi:i < sp.length) (h0:0<=(sp.getD i default).1) (h1:(sp.getD i default).2<=12) :
  whenL sp i = (hoursL (sp.getD i default).1 (sp.getD i default).2).filter (fun h => fixS sp i h h):=by
 rw [whenL,hours_filter h0 h1]
 ·refine List.filter_congr (fun x hx => ?_)
  have:=mem_hoursL.1 hx
  have e1:max x (sp.getD i default).1 = x:=by omega
  have e2:min x (sp.getD i default).2 = x:=by omega
  rw [e1,e2]
 ·intro x hx
  refine Classical.byContradiction (fun hn => ?_)
  rw [fixS_empty hi (by omega)] at hx;cases hx
theorem mem_whenL {sp:List (Int×Int)} {i:Nat} (hi:i < sp.length) (h0:0<=(sp.getD i default).1) (h1:(sp.getD i default).2<=12) {x:Int}:x∈whenL sp i ↔ ∃ l∈planL sp [],l.getD i 0 = x:=by
 rw [whenL_eq hi h0 h1,List.mem_filter,mem_hoursL]
 constructor
 ·rintro ⟨h2,h3⟩
  obtain ⟨l,hl,h4,h5⟩:=(fixS_iff hi h2.1 h2.2).1 h3
  exact ⟨l,hl,by omega⟩
 ·rintro ⟨l,hl,rfl⟩
  have h2:=(within_iff.1 (plan_iff.1 hl).1).2 i hi
  exact ⟨h2,(fixS_iff hi h2.1 h2.2).2 ⟨l,hl,by omega,by omega⟩⟩
theorem whenL_nil {sp:List (Int×Int)} {i:Nat} (hi:i < sp.length) (h0:0<=(sp.getD i default).1) (h1:(sp.getD i default).2<=12):whenL sp i = [] ↔ (planL sp []).head? = none:=by
 rw [List.eq_nil_iff_forall_not_mem,List.head?_eq_none_iff,List.eq_nil_iff_forall_not_mem]
 constructor
 ·intro h l hl
  exact h _ ((mem_whenL hi h0 h1).2 ⟨l,hl,rfl⟩)
 ·intro h x hx
  obtain ⟨l,hl,_⟩:=(mem_whenL hi h0 h1).1 hx
  exact h l hl
end Go.Proofs.Leaf
namespace Go.Proofs.Leaf
open Go Go.RX Go.Proofs
set_option maxRecDepth 10000
variable [Glob]
theorem c_rin (n lo hi:Int):Ctr Tryz.prog 50 [iS n,iS lo,iS hi] (bS (inB n lo hi)):=by
 (refine Ctr.mk (fn:=Tryz.f50) rfl rfl rfl rfl rfl Tryz.results50 ?_;intro _;dsimp only [args,List.toList_toArray])
 (first|refine qE ?_|refine qD ?_);(simp only [go_sem,↓dP,↓reduceIte];with_reducible and_intros;all_goals first|apply qA|exact qC|skip)
 (first|refine qE ?_|refine qD ?_);(simp only [go_sem,↓dP,↓reduceIte];with_reducible and_intros;all_goals first|apply qA|exact qC|skip)
 (refine Ok.ret ?_;(try dsimp only [thenK,blockK,noGotoK]);simp only [toList_mk,List.toList_toArray,retK_ret,retK_normal,resOK,resV,celV,rowV,frzAll,frzT,subV,subL,go_sem,↓dP,↓reduceIte])
 exact .refl _
end Go.Proofs.Leaf
namespace Go.Proofs.Leaf
open Go Go.RX Go.Proofs
set_option maxRecDepth 10000
variable [Glob]
theorem c_rPiece (J:Job) (hh:J.ps.length < 1000000) (n:Int):Ctr Tryz.prog 15 [J.sv,iS n] (bS (inB n 0 (J.ps.length - 1))):=by
 (refine Ctr.mk (fn:=Tryz.f15) rfl rfl rfl rfl rfl Tryz.results15 ?_;intro _;dsimp only [args,List.toList_toArray])
 (first|refine qE ?_|refine qD ?_);(simp only [go_sem,↓dP,↓reduceIte];with_reducible and_intros;all_goals first|apply qA|exact qC|skip)
 (first|refine qE ?_|refine qD ?_);(simp only [go_sem,↓dP,↓reduceIte];with_reducible and_intros;all_goals first|apply qA|exact qC|skip)
 (refine AskI.ret (c_rin _ _ _) ?_;simp only [go_sem,↓dP,↓reduceIte];with_reducible and_intros;all_goals first|apply qA|exact qC|skip)
 (refine Ok.ret ?_;(try dsimp only [thenK,blockK,noGotoK]);simp only [toList_mk,List.toList_toArray,retK_ret,retK_normal,resOK,resV,celV,rowV,frzAll,frzT,subV,subL,go_sem,↓dP,↓reduceIte])
 exact .refl _
end Go.Proofs.Leaf
namespace Go.Proofs.Leaf
open Go Go.RX Go.Proofs
set_option maxRecDepth 10000
variable [Glob]
theorem c_rHours (J:Job) (hJ:J.based) (n:Int) (h0:0<=n) (h1:n < J.ps.length) (may:Bool):Ctr Tryz.prog 21 [J.sv,iS n,bS may] (spS (J.span may n)):=by
 have hm:=hJ.at_ _ (getD_mem (l:=J.ps) (i:=n.toNat) (by omega))
 have g1:=hJ.gl
 have p1:=hJ.pl
 (refine Ctr.mk (fn:=Tryz.f21) rfl rfl rfl rfl rfl Tryz.results21 ?_;intro _;dsimp only [args,List.toList_toArray])
 (first|refine qE ?_|refine qD ?_);(simp only [go_sem,↓dP,↓reduceIte];with_reducible and_intros;all_goals first|apply qA|exact qC|skip)
 (first|refine qE ?_|refine qD ?_);(simp only [go_sem,↓dP,↓reduceIte];with_reducible and_intros;all_goals first|apply qA|exact qC|skip)
 refine Ok.seq ?_
 (first|refine qE ?_|refine qD ?_);(simp only [go_sem,↓dP,↓reduceIte];with_reducible and_intros;all_goals first|apply qA|exact qC|skip)
 refine Ok.cond rfl ?_ ?_
 ·intro hb
  subst hb
  (first|refine qE ?_|refine qD ?_);(simp only [go_sem,↓dP,↓reduceIte];with_reducible and_intros;all_goals first|apply qA|exact qC|skip)
  (refine Ok.ret ?_;(try dsimp only [thenK,blockK,noGotoK]);simp only [toList_mk,List.toList_toArray,retK_ret,retK_normal,resOK,resV,celV,rowV,frzAll,frzT,subV,subL,go_sem,↓dP,↓reduceIte])
  ((repeat' with_reducible apply And.intro)<;>(first | exact DEq.refl _ | refine DEq.int ?_ | refine DEq.bool ?_ | skip))
 ·intro hb
  subst hb
  (refine Ok.skip ?_;(try dsimp only [thenK,blockK,noGotoK]))
  (first|refine qE ?_|refine qD ?_);(simp only [go_sem,↓dP,↓reduceIte];with_reducible and_intros;all_goals first|apply qA|exact qC|skip)
  (refine Ok.ret ?_;(try dsimp only [thenK,blockK,noGotoK]);simp only [toList_mk,List.toList_toArray,retK_ret,retK_normal,resOK,resV,celV,rowV,frzAll,frzT,subV,subL,go_sem,↓dP,↓reduceIte])
  ((repeat' with_reducible apply And.intro)<;>(first | exact DEq.refl _ | refine DEq.int ?_ | refine DEq.bool ?_ | skip))
theorem c_tListed (l:List Int) (v:Int) (hl:l.length < 1000000):Ctr Tryz.prog 22 [ilS l,iS v] (bS (decide (v∈l))):=by
 rw [← any_mem]
 (refine Ctr.mk (fn:=Tryz.f22) rfl rfl rfl rfl rfl Tryz.results22 ?_;intro _;dsimp only [args,List.toList_toArray])
 (first|refine qE ?_|refine qD ?_);(simp only [go_sem,↓dP,↓reduceIte];with_reducible and_intros;all_goals first|apply qA|exact qC|skip)
 refine Ok.seq ?_
 (first|refine qE ?_|refine qD ?_);(simp only [go_sem,↓dP,↓reduceIte];with_reducible and_intros;all_goals first|apply qA|exact qC|skip)
 refine Ok.block ?_
 refine Ok.count l.length (fun i => ⟨[(0,ilS l),(1,iS v),(5,iS i)],[],[]⟩) (fun i => ∀ x∈l.take i,(v == x) = false) ⟨fun x hx => by simp at hx,?_⟩ ?_ ?_
 ·(refine Sub.of ([]) ([]) ?_ ?_ ?_ rfl rfl<;>simp only [subB,subB1,subT,subT1,newT,subE,subV,subL,go_sem,↓dP,↓reduceIte]<;>(try (repeat' with_reducible apply And.intro))<;>(try first | exact DEq.refl _ | refine DEq.int ?_ | refine DEq.bool ?_ | omega))
 ·intro i hi h0
  have hsw:((l.getD i default == v):Bool) = (v == l.getD i default):=by rw [Bool.eq_iff_iff];simp only [beq_iff_eq];exact ⟨Eq.symm,Eq.symm⟩
  refine Ok.seq ?_;((first|refine qE ?_|refine qD ?_);(simp only [go_sem,↓dP,↓reduceIte];with_reducible and_intros;all_goals first|apply qA|exact qC|skip));refine Ok.cond rfl (fun _ => ?_) (fun hb => by simp at hb;omega);(refine Ok.skip ?_;(try dsimp only [thenK,blockK,noGotoK]));refine Ok.seq ?_;refine Ok.block ?_
  (first|refine qE ?_|refine qD ?_);(simp only [go_sem,↓dP,↓reduceIte];with_reducible and_intros;all_goals first|apply qA|exact qC|skip)
  refine Ok.cond rfl ?_ ?_
  ·intro hp
   rw [hsw] at hp
   (first|refine qE ?_|refine qD ?_);(simp only [go_sem,↓dP,↓reduceIte];with_reducible and_intros;all_goals first|apply qA|exact qC|skip)
   (refine Ok.ret ?_;(try dsimp only [thenK,blockK,noGotoK]);simp only [toList_mk,List.toList_toArray,retK_ret,retK_normal,resOK,resV,celV,rowV,frzAll,frzT,subV,subL,go_sem,↓dP,↓reduceIte])
   refine DEq.bool ?_
   rw [List.any_eq_true.2 ⟨_,getD_mem hi,hp⟩]
  ·intro hp
   rw [hsw] at hp
   (refine Ok.skip ?_;(try dsimp only [thenK,blockK,noGotoK]))
   (first|refine qE ?_|refine qD ?_);(simp only [go_sem,↓dP,↓reduceIte];with_reducible and_intros;all_goals first|apply qA|exact qC|skip)
   (try dsimp only [thenK,blockK,noGotoK])
   refine ⟨no_step hi h0 hp,?_⟩
   (refine Sub.of ([]) ([]) ?_ ?_ ?_ rfl rfl<;>simp only [subB,subB1,subT,subT1,newT,subE,subV,subL,go_sem,↓dP,↓reduceIte]<;>(try (repeat' with_reducible apply And.intro))<;>(try first | exact DEq.refl _ | refine DEq.int ?_ | refine DEq.bool ?_ | omega))
 ·intro h0
  refine Ok.seq ?_;((first|refine qE ?_|refine qD ?_);(simp only [go_sem,↓dP,↓reduceIte];with_reducible and_intros;all_goals first|apply qA|exact qC|skip));refine Ok.cond rfl (fun hb => by simp at hb) (fun _ => ?_);(refine Ok.exit ?_;simp only [thenK_exit,blockK_exit,noGotoK_exit,thenK_normal,blockK_normal,noGotoK_normal,↓reduceIte,Nat.reduceEqDiff])
  (first|refine qE ?_|refine qD ?_);(simp only [go_sem,↓dP,↓reduceIte];with_reducible and_intros;all_goals first|apply qA|exact qC|skip)
  (refine Ok.ret ?_;(try dsimp only [thenK,blockK,noGotoK]);simp only [toList_mk,List.toList_toArray,retK_ret,retK_normal,resOK,resV,celV,rowV,frzAll,frzT,subV,subL,go_sem,↓dP,↓reduceIte])
  refine DEq.bool ?_
  rw [List.any_eq_false.2 (fun x hx => by simp [h0 x (by simpa using hx)])]
end Go.Proofs.Leaf
namespace Go.Proofs.Leaf
open Go Go.RX Go.Proofs
set_option maxRecDepth 10000
variable [Glob]
theorem c_rJob (J:Job) (hh:J.held):Ctr Tryz.prog 26 [J.sv] (bS (jobB J)):=by
 have hh1:=hh.1
 have hh2:=hh.2
 (refine Ctr.mk (fn:=Tryz.f26) rfl rfl rfl rfl rfl Tryz.results26 ?_;intro _;dsimp only [args,List.toList_toArray])
 (first|refine qE ?_|refine qD ?_);(simp only [go_sem,↓dP,↓reduceIte];with_reducible and_intros;all_goals first|apply qA|exact qC|skip)
 refine Ok.seq ?_
 (first|refine qE ?_|refine qD ?_);(simp only [go_sem,↓dP,↓reduceIte];with_reducible and_intros;all_goals first|apply qA|exact qC|skip)
 (refine AskI.ret (c_rin _ _ _) ?_;simp only [go_sem,↓dP,↓reduceIte];with_reducible and_intros;all_goals first|apply qA|exact qC|skip)
 (refine AskGI.ret (fun _ => c_rin _ _ _) ?_;simp only [go_sem,↓dP,↓reduceIte];with_reducible and_intros;all_goals first|apply qA|exact qC|skip)
 (refine AskGI.ret (fun _ => c_rin _ _ _) ?_;simp only [go_sem,↓dP,↓reduceIte];with_reducible and_intros;all_goals first|apply qA|exact qC|skip)
 ·intro h
  have:inB J.book 1 25 = true:=by revert h;cases inB J.book 1 25<;>simp
  rw [inB_iff] at this
  exact R64 (by omega) (by omega)
 (refine AskGI.ret (fun _ => c_rin _ _ _) ?_;simp only [go_sem,↓dP,↓reduceIte];with_reducible and_intros;all_goals first|apply qA|exact qC|skip)
 (refine AskGI.ret (fun _ => c_rin _ _ _) ?_;simp only [go_sem,↓dP,↓reduceIte];with_reducible and_intros;all_goals first|apply qA|exact qC|skip)
 (refine AskGI.ret (fun _ => c_rin _ _ _) ?_;simp only [go_sem,↓dP,↓reduceIte];with_reducible and_intros;all_goals first|apply qA|exact qC|skip)
 refine Ok.cond rfl ?_ ?_
 ·intro hb
  (first|refine qE ?_|refine qD ?_);(simp only [go_sem,↓dP,↓reduceIte];with_reducible and_intros;all_goals first|apply qA|exact qC|skip)
  (refine Ok.ret ?_;(try dsimp only [thenK,blockK,noGotoK]);simp only [toList_mk,List.toList_toArray,retK_ret,retK_normal,resOK,resV,celV,rowV,frzAll,frzT,subV,subL,go_sem,↓dP,↓reduceIte])
  refine DEq.bool ?_
  have:headB J = false:=by
   revert hb
   unfold headB
   cases inB J.wide 1 6<;>cases inB J.high 1 6<;>cases inB J.book 1 25<;>cases inB J.spoilt 0 (J.book - 1)<;>cases inB J.gs.length 1 3<;>cases inB J.ps.length 1 5<;>simp
  simp [jobB,this]
 intro hb
 have hhead:headB J = true:=by
  revert hb
  unfold headB
  cases inB J.wide 1 6<;>cases inB J.high 1 6<;>cases inB J.book 1 25<;>cases inB J.spoilt 0 (J.book - 1)<;>cases inB J.gs.length 1 3<;>cases inB J.ps.length 1 5<;>simp
 (refine Ok.skip ?_;(try dsimp only [thenK,blockK,noGotoK]))
 refine Ok.seq ?_
 (first|refine qE ?_|refine qD ?_);(simp only [go_sem,↓dP,↓reduceIte];with_reducible and_intros;all_goals first|apply qA|exact qC|skip)
 refine Ok.block ?_
 refine Ok.count J.gs.length (fun i => ⟨[(1,.p 0 0),(3,iS i)],[jobC J],[]⟩) (fun i => ∀ x∈J.gs.take i,(!groundB x) = false) ⟨fun x hx => by simp at hx,?_⟩ ?_ ?_
 ·(refine Sub.of ([0]) ([]) ?_ ?_ ?_ rfl rfl<;>simp only [subB,subB1,subT,subT1,newT,subE,subV,subL,go_sem,↓dP,↓reduceIte]<;>(try (repeat' with_reducible apply And.intro))<;>(try first | exact DEq.refl _ | refine DEq.int ?_ | refine DEq.bool ?_ | omega))
 ·intro i hi h0
  refine Ok.seq ?_;((first|refine qE ?_|refine qD ?_);(simp only [go_sem,↓dP,↓reduceIte];with_reducible and_intros;all_goals first|apply qA|exact qC|skip));refine Ok.cond rfl (fun _ => ?_) (fun hb => by simp at hb;omega);(refine Ok.skip ?_;(try dsimp only [thenK,blockK,noGotoK]));refine Ok.seq ?_;refine Ok.block ?_
  (first|refine qE ?_|refine qD ?_);(simp only [go_sem,↓dP,↓reduceIte];with_reducible and_intros;all_goals first|apply qA|exact qC|skip)
  (first|refine qE ?_|refine qD ?_);(simp only [go_sem,↓dP,↓reduceIte];with_reducible and_intros;all_goals first|apply qA|exact qC|skip)
  (refine AskI.ret (c_rin _ _ _) ?_;simp only [go_sem,↓dP,↓reduceIte];with_reducible and_intros;all_goals first|apply qA|exact qC|skip)
  (refine AskGI.ret (fun _ => c_rin _ _ _) ?_;simp only [go_sem,↓dP,↓reduceIte];with_reducible and_intros;all_goals first|apply qA|exact qC|skip)
  (refine AskGI.ret (fun _ => c_rin _ _ _) ?_;simp only [go_sem,↓dP,↓reduceIte];with_reducible and_intros;all_goals first|apply qA|exact qC|skip)
  (refine AskGI.ret (fun _ => c_rin _ _ _) ?_;simp only [go_sem,↓dP,↓reduceIte];with_reducible and_intros;all_goals first|apply qA|exact qC|skip)
  have hg:groundB (J.gs.getD i default) = (inB (J.gs.getD i default).rl 0 12 && inB (J.gs.getD i default).rh (J.gs.getD i default).rl 12 && inB (J.gs.getD i default).ll (J.gs.getD i default).rh 12 && inB (J.gs.getD i default).lh (J.gs.getD i default).ll 12):=rfl
  refine Ok.cond rfl ?_ ?_
  ·intro hx
   have hx':(!groundB (J.gs.getD i default)) = true:=by
    rw [hg]
    revert hx
    cases inB (J.gs.getD i default).rl 0 12<;>cases inB (J.gs.getD i default).rh (J.gs.getD i default).rl 12<;>cases inB (J.gs.getD i default).ll (J.gs.getD i default).rh 12<;>cases inB (J.gs.getD i default).lh (J.gs.getD i default).ll 12<;>simp
   (first|refine qE ?_|refine qD ?_);(simp only [go_sem,↓dP,↓reduceIte];with_reducible and_intros;all_goals first|apply qA|exact qC|skip)
   (refine Ok.ret ?_;(try dsimp only [thenK,blockK,noGotoK]);simp only [toList_mk,List.toList_toArray,retK_ret,retK_normal,resOK,resV,celV,rowV,frzAll,frzT,subV,subL,go_sem,↓dP,↓reduceIte])
   refine DEq.bool ?_
   have:J.gs.any (fun g => !groundB g) = true:=List.any_eq_true.2 ⟨_,getD_mem hi,hx'⟩
   rw [jobB,all_any,this];simp
  ·intro hx
   have hx':(!groundB (J.gs.getD i default)) = false:=by
    rw [hg]
    revert hx
    cases inB (J.gs.getD i default).rl 0 12<;>cases inB (J.gs.getD i default).rh (J.gs.getD i default).rl 12<;>cases inB (J.gs.getD i default).ll (J.gs.getD i default).rh 12<;>cases inB (J.gs.getD i default).lh (J.gs.getD i default).ll 12<;>simp
   (refine Ok.skip ?_;(try dsimp only [thenK,blockK,noGotoK]))
   (first|refine qE ?_|refine qD ?_);(simp only [go_sem,↓dP,↓reduceIte];with_reducible and_intros;all_goals first|apply qA|exact qC|skip)
   (try dsimp only [thenK,blockK,noGotoK])
   refine ⟨no_step (q:=fun g => !groundB g) hi h0 hx',?_⟩
   (refine Sub.of ([0]) ([]) ?_ ?_ ?_ rfl rfl<;>simp only [subB,subB1,subT,subT1,newT,subE,subV,subL,go_sem,↓dP,↓reduceIte]<;>(try (repeat' with_reducible apply And.intro))<;>(try first | exact DEq.refl _ | refine DEq.int ?_ | refine DEq.bool ?_ | omega))
 intro h0
 have hgs:J.gs.any (fun g => !groundB g) = false:=List.any_eq_false.2 (fun x hx => by simp [h0 x (by simpa using hx)])
 refine Ok.seq ?_;((first|refine qE ?_|refine qD ?_);(simp only [go_sem,↓dP,↓reduceIte];with_reducible and_intros;all_goals first|apply qA|exact qC|skip));refine Ok.cond rfl (fun hb => by simp at hb) (fun _ => ?_);(refine Ok.exit ?_;simp only [thenK_exit,blockK_exit,noGotoK_exit,thenK_normal,blockK_normal,noGotoK_normal,↓reduceIte,Nat.reduceEqDiff])
 refine Ok.seq ?_
 (first|refine qE ?_|refine qD ?_);(simp only [go_sem,↓dP,↓reduceIte];with_reducible and_intros;all_goals first|apply qA|exact qC|skip)
 refine Ok.block ?_
 refine Ok.count J.ps.length (fun i => ⟨[(1,.p 0 0),(5,iS i)],[jobC J],[]⟩) (fun i => ∀ x∈J.ps.take i,(!pieceB J.gs.length x) = false) ⟨fun x hx => by simp at hx,?_⟩ ?_ ?_
 ·(refine Sub.of ([0]) ([]) ?_ ?_ ?_ rfl rfl<;>simp only [subB,subB1,subT,subT1,newT,subE,subV,subL,go_sem,↓dP,↓reduceIte]<;>(try (repeat' with_reducible apply And.intro))<;>(try first | exact DEq.refl _ | refine DEq.int ?_ | refine DEq.bool ?_ | omega))
 ·intro i hi h0
  refine Ok.seq ?_;((first|refine qE ?_|refine qD ?_);(simp only [go_sem,↓dP,↓reduceIte];with_reducible and_intros;all_goals first|apply qA|exact qC|skip));refine Ok.cond rfl (fun _ => ?_) (fun hb => by simp at hb;omega);(refine Ok.skip ?_;(try dsimp only [thenK,blockK,noGotoK]));refine Ok.seq ?_;refine Ok.block ?_
  (first|refine qE ?_|refine qD ?_);(simp only [go_sem,↓dP,↓reduceIte];with_reducible and_intros;all_goals first|apply qA|exact qC|skip)
  (first|refine qE ?_|refine qD ?_);(simp only [go_sem,↓dP,↓reduceIte];with_reducible and_intros;all_goals first|apply qA|exact qC|skip)
  (refine AskI.ret (c_rin _ _ _) ?_;simp only [go_sem,↓dP,↓reduceIte];with_reducible and_intros;all_goals first|apply qA|exact qC|skip)
  (refine AskGI.ret (fun _ => c_rin _ _ _) ?_;simp only [go_sem,↓dP,↓reduceIte];with_reducible and_intros;all_goals first|apply qA|exact qC|skip)
  (refine AskGI.ret (fun _ => c_rin _ _ _) ?_;simp only [go_sem,↓dP,↓reduceIte];with_reducible and_intros;all_goals first|apply qA|exact qC|skip)
  have hg:pieceB J.gs.length (J.ps.getD i default) = (inB (J.ps.getD i default).w 1 6 && inB (J.ps.getD i default).h 1 6 && inB (J.ps.getD i default).g 0 (J.gs.length - 1)):=rfl
  refine Ok.cond rfl ?_ ?_
  ·intro hx
   have hx':(!pieceB J.gs.length (J.ps.getD i default)) = true:=by
    rw [hg]
    revert hx
    cases inB (J.ps.getD i default).w 1 6<;>cases inB (J.ps.getD i default).h 1 6<;>cases inB (J.ps.getD i default).g 0 (J.gs.length - 1)<;>simp
   (first|refine qE ?_|refine qD ?_);(simp only [go_sem,↓dP,↓reduceIte];with_reducible and_intros;all_goals first|apply qA|exact qC|skip)
   (refine Ok.ret ?_;(try dsimp only [thenK,blockK,noGotoK]);simp only [toList_mk,List.toList_toArray,retK_ret,retK_normal,resOK,resV,celV,rowV,frzAll,frzT,subV,subL,go_sem,↓dP,↓reduceIte])
   refine DEq.bool ?_
   have:J.ps.any (fun p => !pieceB J.gs.length p) = true:=List.any_eq_true.2 ⟨_,getD_mem hi,hx'⟩
   rw [jobB,all_any J.ps,this];simp
  ·intro hx
   have hx':(!pieceB J.gs.length (J.ps.getD i default)) = false:=by
    rw [hg]
    revert hx
    cases inB (J.ps.getD i default).w 1 6<;>cases inB (J.ps.getD i default).h 1 6<;>cases inB (J.ps.getD i default).g 0 (J.gs.length - 1)<;>simp
   (refine Ok.skip ?_;(try dsimp only [thenK,blockK,noGotoK]))
   (first|refine qE ?_|refine qD ?_);(simp only [go_sem,↓dP,↓reduceIte];with_reducible and_intros;all_goals first|apply qA|exact qC|skip)
   (try dsimp only [thenK,blockK,noGotoK])
   refine ⟨no_step (q:=fun p => !pieceB J.gs.length p) hi h0 hx',?_⟩
   (refine Sub.of ([0]) ([]) ?_ ?_ ?_ rfl rfl<;>simp only [subB,subB1,subT,subT1,newT,subE,subV,subL,go_sem,↓dP,↓reduceIte]<;>(try (repeat' with_reducible apply And.intro))<;>(try first | exact DEq.refl _ | refine DEq.int ?_ | refine DEq.bool ?_ | omega))
 ·intro h0
  have hps:J.ps.any (fun p => !pieceB J.gs.length p) = false:=List.any_eq_false.2 (fun x hx => by simp [h0 x (by simpa using hx)])
  refine Ok.seq ?_;((first|refine qE ?_|refine qD ?_);(simp only [go_sem,↓dP,↓reduceIte];with_reducible and_intros;all_goals first|apply qA|exact qC|skip));refine Ok.cond rfl (fun hb => by simp at hb) (fun _ => ?_);(refine Ok.exit ?_;simp only [thenK_exit,blockK_exit,noGotoK_exit,thenK_normal,blockK_normal,noGotoK_normal,↓reduceIte,Nat.reduceEqDiff])
  (first|refine qE ?_|refine qD ?_);(simp only [go_sem,↓dP,↓reduceIte];with_reducible and_intros;all_goals first|apply qA|exact qC|skip)
  (refine Ok.ret ?_;(try dsimp only [thenK,blockK,noGotoK]);simp only [toList_mk,List.toList_toArray,retK_ret,retK_normal,resOK,resV,celV,rowV,frzAll,frzT,subV,subL,go_sem,↓dP,↓reduceIte])
  refine DEq.bool ?_
  rw [jobB,hhead,all_any,all_any,hgs,hps]
  rfl
end Go.Proofs.Leaf
namespace Go.Proofs.Leaf
open Go Go.RX Go.Proofs
set_option maxRecDepth 10000
variable [Glob]
def shortB (J:Job):Bool:=decide (J.gs.length<=5) && decide (J.ps.length<=7)
theorem c_lshort (J:Job) (h:J.far):Ctr Tryz.prog 23 [J.sv] (bS (shortB J)):=by
 have h1:=h.1
 have h2:=h.2
 (refine Ctr.mk (fn:=Tryz.f23) rfl rfl rfl rfl rfl Tryz.results23 ?_;intro _;dsimp only [args,List.toList_toArray])
 (first|refine qE ?_|refine qD ?_);(simp only [go_sem,↓dP,↓reduceIte];with_reducible and_intros;all_goals first|apply qA|exact qC|skip)
 (first|refine qE ?_|refine qD ?_);(simp only [go_sem,↓dP,↓reduceIte];with_reducible and_intros;all_goals first|apply qA|exact qC|skip)
 (refine Ok.ret ?_;(try dsimp only [thenK,blockK,noGotoK]);simp only [toList_mk,List.toList_toArray,retK_ret,retK_normal,resOK,resV,celV,rowV,frzAll,frzT,subV,subL,go_sem,↓dP,↓reduceIte])
 refine DEq.bool ?_
 unfold shortB
 by_cases g1:J.gs.length<=5<;>by_cases g2:J.ps.length<=7<;>simp [g1,g2]<;>omega
theorem short_held {J:Job} (h:shortB J = true):J.held:=by
 simp only [shortB,Bool.and_eq_true,decide_eq_true_eq] at h
 exact ⟨by omega,by omega⟩
def slimB (l:List Int):Bool:=decide (l.length<=8)
theorem c_lslim (l:List Int) (h:l.length<=9223372036854775807):Ctr Tryz.prog 14 [ilS l] (bS (slimB l)):=by
 (refine Ctr.mk (fn:=Tryz.f14) rfl rfl rfl rfl rfl Tryz.results14 ?_;intro _;dsimp only [args,List.toList_toArray])
 (first|refine qE ?_|refine qD ?_);(simp only [go_sem,↓dP,↓reduceIte];with_reducible and_intros;all_goals first|apply qA|exact qC|skip)
 (first|refine qE ?_|refine qD ?_);(simp only [go_sem,↓dP,↓reduceIte];with_reducible and_intros;all_goals first|apply qA|exact qC|skip)
 (refine Ok.ret ?_;(try dsimp only [thenK,blockK,noGotoK]);simp only [toList_mk,List.toList_toArray,retK_ret,retK_normal,resOK,resV,celV,rowV,frzAll,frzT,subV,subL,go_sem,↓dP,↓reduceIte])
 refine DEq.bool ?_
 unfold slimB
 by_cases g:l.length<=8<;>simp [g]<;>omega
def rightB (J:Job):Bool:=shortB J && jobB J
theorem c_lright (J:Job) (h:J.far):Ctr Tryz.prog 13 [J.sv] (bS (rightB J)):=by
 (refine Ctr.mk (fn:=Tryz.f13) rfl rfl rfl rfl rfl Tryz.results13 ?_;intro _;dsimp only [args,List.toList_toArray])
 (first|refine qE ?_|refine qD ?_);(simp only [go_sem,↓dP,↓reduceIte];with_reducible and_intros;all_goals first|apply qA|exact qC|skip)
 (first|refine qE ?_|refine qD ?_);(simp only [go_sem,↓dP,↓reduceIte];with_reducible and_intros;all_goals first|apply qA|exact qC|skip)
 (refine AskI.ret (c_lshort J h) ?_;simp only [go_sem,↓dP,↓reduceIte];with_reducible and_intros;all_goals first|apply qA|exact qC|skip)
 (refine AskGI.ret (fun h => c_rJob J (short_held (by simpa using h))) ?_;simp only [go_sem,↓dP,↓reduceIte];with_reducible and_intros;all_goals first|apply qA|exact qC|skip)
 (refine Ok.ret ?_;(try dsimp only [thenK,blockK,noGotoK]);simp only [toList_mk,List.toList_toArray,retK_ret,retK_normal,resOK,resV,celV,rowV,frzAll,frzT,subV,subL,go_sem,↓dP,↓reduceIte])
 refine DEq.bool ?_
 unfold rightB
 cases shortB J<;>simp
def hourAt (J:Job) (l:List Int) (may:Bool) (i:Nat):Bool:=(l.getD i default == -1) || (inB (l.getD i default) (J.span may i).1 (J.span may i).2 && !decide (l.getD i default∈l.take i))
def hourlyB (J:Job) (l:List Int) (may:Bool):Bool:=decide (l.length = J.ps.length) && (List.range l.length).all (hourAt J l may)
theorem c_rHourly (J:Job) (hJ:J.based) (hn:J.ps.length<=100) (l:List Int) (hl:l.length < 1000000) (may:Bool):Ctr Tryz.prog 65 [J.sv,ilS l,bS may] (bS (hourlyB J l may)):=by
 (refine Ctr.mk (fn:=Tryz.f65) rfl rfl rfl rfl rfl Tryz.results65 ?_;intro _;dsimp only [args,List.toList_toArray])
 (first|refine qE ?_|refine qD ?_);(simp only [go_sem,↓dP,↓reduceIte];with_reducible and_intros;all_goals first|apply qA|exact qC|skip)
 refine Ok.seq ?_
 (first|refine qE ?_|refine qD ?_);(simp only [go_sem,↓dP,↓reduceIte];with_reducible and_intros;all_goals first|apply qA|exact qC|skip)
 refine Ok.cond rfl ?_ ?_
 ·intro hb
  have hne:¬ l.length = J.ps.length:=by simp at hb;omega
  (first|refine qE ?_|refine qD ?_);(simp only [go_sem,↓dP,↓reduceIte];with_reducible and_intros;all_goals first|apply qA|exact qC|skip)
  (refine Ok.ret ?_;(try dsimp only [thenK,blockK,noGotoK]);simp only [toList_mk,List.toList_toArray,retK_ret,retK_normal,resOK,resV,celV,rowV,frzAll,frzT,subV,subL,go_sem,↓dP,↓reduceIte])
  rw [hourlyB,decide_eq_false hne]
  exact .refl _
 intro hb
 have hlen:l.length = J.ps.length:=by simp at hb;omega
 (refine Ok.skip ?_;(try dsimp only [thenK,blockK,noGotoK]))
 refine Ok.seq ?_
 (first|refine qE ?_|refine qD ?_);(simp only [go_sem,↓dP,↓reduceIte];with_reducible and_intros;all_goals first|apply qA|exact qC|skip)
 refine Ok.block ?_
 refine Ok.count l.length (fun i => ⟨[(1,ilS l),(2,bS may),(3,.p 0 0),(7,iS i)],[jobC J],[]⟩) (fun i => ∀ j,j < i->hourAt J l may j = true) ⟨fun j hj => by omega,?_⟩ ?_ ?_
 ·(refine Sub.of ([0]) ([]) ?_ ?_ ?_ rfl rfl<;>simp only [subB,subB1,subT,subT1,newT,subE,subV,subL,go_sem,↓dP,↓reduceIte]<;>(try (repeat' with_reducible apply And.intro))<;>(try first | exact DEq.refl _ | refine DEq.int ?_ | refine DEq.bool ?_ | omega))
 ·intro i hi hJ2
  have a1:Ctr Tryz.prog 22 [.d (.sl 1 ((i:Int) - 0).toNat (fun a c => intD (l.getD a default) c)),iS (l.getD i default)] (bS (decide (l.getD i default∈l.take i))):=by
   have a:=c_tListed (l.take i) (l.getD i default) (by simp;omega)
   refine a.args ⟨?_,.refl _,trivial⟩
   refine DEq.sl (by simp;omega) (fun a c ha hc => .of_eq ?_)
   have hai:a < i:=by omega
   simp [List.getD_eq_getElem?_getD,List.getElem?_take,hai]
  have hst:hourAt J l may i = ((l.getD i default == -1) || (inB (l.getD i default) (J.span may i).1 (J.span may i).2 && !decide (l.getD i default∈l.take i))):=rfl
  refine Ok.seq ?_;((first|refine qE ?_|refine qD ?_);(simp only [go_sem,↓dP,↓reduceIte];with_reducible and_intros;all_goals first|apply qA|exact qC|skip));refine Ok.cond rfl (fun _ => ?_) (fun hb => by simp at hb;omega);(refine Ok.skip ?_;(try dsimp only [thenK,blockK,noGotoK]));refine Ok.seq ?_;refine Ok.block ?_
  refine Ok.seq ?_
  (first|refine qE ?_|refine qD ?_);(simp only [go_sem,↓dP,↓reduceIte];with_reducible and_intros;all_goals first|apply qA|exact qC|skip)
  (refine AskI.ret (c_rHours J hJ i (by omega) (by omega) may) ?_;simp only [go_sem,↓dP,↓reduceIte];with_reducible and_intros;all_goals first|apply qA|exact qC|skip)
  (first|refine qE ?_|refine qD ?_);(simp only [go_sem,↓dP,↓reduceIte];with_reducible and_intros;all_goals first|apply qA|exact qC|skip)
  (refine AskGI.ret (fun _ => c_rin _ _ _) ?_;simp only [go_sem,↓dP,↓reduceIte];with_reducible and_intros;all_goals first|apply qA|exact qC|skip)
  (refine AskGI.ret (fun _ => a1) ?_;simp only [go_sem,↓dP,↓reduceIte];with_reducible and_intros;all_goals first|apply qA|exact qC|skip)
  refine Ok.cond rfl ?_ ?_
  ·intro hx
   have hF:hourAt J l may i = false:=by
    rw [hst]
    revert hx
    rw [bne]
    cases l.getD i default == -1<;>cases inB (l.getD i default) (J.span may i).1 (J.span may i).2<;>simp
   (first|refine qE ?_|refine qD ?_);(simp only [go_sem,↓dP,↓reduceIte];with_reducible and_intros;all_goals first|apply qA|exact qC|skip)
   (refine Ok.ret ?_;(try dsimp only [thenK,blockK,noGotoK]);simp only [toList_mk,List.toList_toArray,retK_ret,retK_normal,resOK,resV,celV,rowV,frzAll,frzT,subV,subL,go_sem,↓dP,↓reduceIte])
   rw [hourlyB,List.all_eq_false.2 ⟨i,List.mem_range.2 hi,by rw [hF];simp⟩,Bool.and_false]
   exact .refl _
  ·intro hx
   have hT:hourAt J l may i = true:=by
    rw [hst]
    revert hx
    rw [bne]
    cases l.getD i default == -1<;>cases inB (l.getD i default) (J.span may i).1 (J.span may i).2<;>simp
   (refine Ok.skip ?_;(try dsimp only [thenK,blockK,noGotoK]))
   (first|refine qE ?_|refine qD ?_);(simp only [go_sem,↓dP,↓reduceIte];with_reducible and_intros;all_goals first|apply qA|exact qC|skip)
   (try dsimp only [thenK,blockK,noGotoK])
   refine ⟨fun j hj => ?_,?_⟩
   ·by_cases e:j = i
    ·subst e;exact hT
    ·exact hJ2 j (by omega)
   (refine Sub.of ([0]) ([]) ?_ ?_ ?_ rfl rfl<;>simp only [subB,subB1,subT,subT1,newT,subE,subV,subL,go_sem,↓dP,↓reduceIte]<;>(try (repeat' with_reducible apply And.intro))<;>(try first | exact DEq.refl _ | refine DEq.int ?_ | refine DEq.bool ?_ | omega))
 ·intro hJ2
  refine Ok.seq ?_;((first|refine qE ?_|refine qD ?_);(simp only [go_sem,↓dP,↓reduceIte];with_reducible and_intros;all_goals first|apply qA|exact qC|skip));refine Ok.cond rfl (fun hb => by simp at hb) (fun _ => ?_);(refine Ok.exit ?_;simp only [thenK_exit,blockK_exit,noGotoK_exit,thenK_normal,blockK_normal,noGotoK_normal,↓reduceIte,Nat.reduceEqDiff])
  (first|refine qE ?_|refine qD ?_);(simp only [go_sem,↓dP,↓reduceIte];with_reducible and_intros;all_goals first|apply qA|exact qC|skip)
  (refine Ok.ret ?_;(try dsimp only [thenK,blockK,noGotoK]);simp only [toList_mk,List.toList_toArray,retK_ret,retK_normal,resOK,resV,celV,rowV,frzAll,frzT,subV,subL,go_sem,↓dP,↓reduceIte])
  rw [hourlyB,decide_eq_true hlen,List.all_eq_true.2 (fun j hj => hJ2 j (List.mem_range.1 hj))]
  exact .refl _
theorem c_lhourly (J:Job) (hJ:J.based) (hn:J.ps.length<=100) (l:List Int) (hl:l.length < 1000000) (may:Bool):Ctr Tryz.prog 20 [J.sv,ilS l,bS may] (bS (hourlyB J l may && !decide ((-1:Int)∈l))):=by
 (refine Ctr.mk (fn:=Tryz.f20) rfl rfl rfl rfl rfl Tryz.results20 ?_;intro _;dsimp only [args,List.toList_toArray])
 (first|refine qE ?_|refine qD ?_);(simp only [go_sem,↓dP,↓reduceIte];with_reducible and_intros;all_goals first|apply qA|exact qC|skip)
 (first|refine qE ?_|refine qD ?_);(simp only [go_sem,↓dP,↓reduceIte];with_reducible and_intros;all_goals first|apply qA|exact qC|skip)
 (refine AskI.ret (c_rHourly J hJ hn l hl may) ?_;simp only [go_sem,↓dP,↓reduceIte];with_reducible and_intros;all_goals first|apply qA|exact qC|skip)
 (refine AskGI.ret (fun _ => c_tListed l (-1) hl) ?_;simp only [go_sem,↓dP,↓reduceIte];with_reducible and_intros;all_goals first|apply qA|exact qC|skip)
 (refine Ok.ret ?_;(try dsimp only [thenK,blockK,noGotoK]);simp only [toList_mk,List.toList_toArray,retK_ret,retK_normal,resOK,resV,celV,rowV,frzAll,frzT,subV,subL,go_sem,↓dP,↓reduceIte])
 refine DEq.bool ?_
 cases hourlyB J l may<;>simp
theorem hourly_plan (J:Job) (l:List Int) (may:Bool) (h0:∀ i,i < J.ps.length->0<=(J.span may i).1):(hourlyB J l may && !decide ((-1:Int)∈l)) = true ↔ l∈planL (spans J may) []:=by
 rw [plan_iff,within_iff,spans_len,Bool.and_eq_true,hourlyB,Bool.and_eq_true,decide_eq_true_iff,List.all_eq_true,Bool.not_eq_true',decide_eq_false_iff_not]
 have hsp:∀ i,i < J.ps.length->(spans J may).getD i default = J.span may i:=fun i hi => span_at J may hi
 have key:∀ i,hourAt J l may i = true ↔ (l.getD i default = -1∨((J.span may i).1<=l.getD i default/\l.getD i default<=(J.span may i).2)/\l.getD i default ∉ l.take i):=fun i => by
  unfold hourAt
  rw [Bool.or_eq_true,Bool.and_eq_true,beq_iff_eq,inB_iff,Bool.not_eq_true',decide_eq_false_iff_not]
 constructor
 ·rintro ⟨⟨h1,h2⟩,h3⟩
  have h4:∀ i,i < l.length->((J.span may i).1<=l.getD i default/\l.getD i default<=(J.span may i).2)/\l.getD i default ∉ l.take i:=fun i hi => by
   rcases (key i).1 (h2 i (List.mem_range.2 hi)) with q | q
   ·exact absurd (q ▸ getD_mem hi) h3
   ·exact q
  refine ⟨⟨h1,fun i hi => by rw [hsp i hi];exact (h4 i (by omega)).1⟩,?_⟩
  rw [List.nodup_iff_pairwise_ne,List.pairwise_iff_getElem]
  intro i j hi hj hij e
  have:=(h4 j hj).2
  apply this
  rw [getD_lt hj,← e,List.mem_take_iff_getElem]
  exact ⟨i,by omega,rfl⟩
 ·rintro ⟨⟨h1,h2⟩,h3⟩
  rw [List.nodup_iff_pairwise_ne,List.pairwise_iff_getElem] at h3
  refine ⟨⟨h1,fun i hi => (key i).2 (.inr ?_)⟩,fun hm => ?_⟩
  ·have hi:=List.mem_range.1 hi
   have:=h2 i (by omega)
   rw [hsp i (by omega)] at this
   refine ⟨this,fun hm => ?_⟩
   rw [List.mem_take_iff_getElem] at hm
   obtain ⟨j,hj,e⟩:=hm
   rw [getD_lt hi] at e
   exact h3 j i (by omega) hi (by omega) e
  ·obtain ⟨i,hi,e⟩:=List.mem_iff_getElem.1 hm
   have h4:=h2 i (by omega)
   rw [hsp i (by omega)] at h4
   have h5:=h0 i (by omega)
   have:l.getD i 0 = -1:=by
    have:=getD_lt (l:=l) hi
    rw [e] at this;exact this
   omega
end Go.Proofs.Leaf
namespace Go.Proofs.Leaf
open Go Go.RX Go.Proofs
set_option maxRecDepth 10000
variable [Glob]
abbrev fixJ (J:Job) (n:Nat) (h:Int):Job:={ J with gs:=J.gs ++ [⟨h,h,h,h⟩],ps:=J.ps.set n { J.ps.getD n default with g:=J.gs.length } }
theorem groD_cells (g:Ground):∀ c,c < 4->dget [iD g.rl,iD g.rh,iD g.ll,iD g.lh] c = groD g c:=fun c hc => by
 match c,hc with
 | 0,_ => rfl
 | 1,_ => rfl
 | 2,_ => rfl
 | 3,_ => rfl
theorem set_pieD (ps:List Piece) (n:Nat) (hn:n < ps.length) (g:Int):∀ i j,i < ps.length->j < 4 ->
  DEq (if i = n/\3<=j/\j < 4 then dget [iD g] (j - 3) else pieD (ps.getD i default) j) (pieD ((ps.set n { ps.getD n default with g:=g }).getD i default) j):=by
 intro i j hi hj
 have e:(ps.set n { ps.getD n default with g:=g }).getD i default = if i = n then { ps.getD n default with g:=g } else ps.getD i default:=by
  rw [List.getD_eq_getElem?_getD,List.getElem?_set]
  by_cases h:i = n
  ·subst h;simp [hi]
  ·rw [if_neg (fun q => h q.symm),if_neg h,← List.getD_eq_getElem?_getD]
 rw [e]
 by_cases h:i = n
 ·subst h
  rw [if_pos rfl]
  match j,hj with
  | 0,_ => rw [if_neg (by omega)];exact .refl _
  | 1,_ => rw [if_neg (by omega)];exact .refl _
  | 2,_ => rw [if_neg (by omega)];exact .refl _
  | 3,_ => rw [if_pos (by omega)];exact .refl _
 ·rw [if_neg h,if_neg (fun q => h q.1)];exact .refl _
theorem c_lfixed (J:Job) (h1:J.gs.length<=1000) (h2:J.ps.length<=1000) (n:Nat) (hn:n < J.ps.length) (h:Int):Ctr Tryz.prog 19 [J.sv,iS n,iS h] (fixJ J n h).sv:=by
 (refine Ctr.mk (fn:=Tryz.f19) rfl rfl rfl rfl rfl Tryz.results19 ?_;intro _;dsimp only [args,List.toList_toArray])
 (first|refine qE ?_|refine qD ?_);(simp only [go_sem,↓dP,↓reduceIte];with_reducible and_intros;all_goals first|apply qA|exact qC|skip)
 (first|refine qE ?_|refine qD ?_);(simp only [go_sem,↓dP,↓reduceIte];with_reducible and_intros;all_goals first|apply qA|exact qC|skip)
 (first|refine qE ?_|refine qD ?_);(simp only [go_sem,↓dP,↓reduceIte];with_reducible and_intros;all_goals first|apply qA|exact qC|skip)
 (refine AskI.ret (c_lground h h h h) ?_;simp only [go_sem,↓dP,↓reduceIte];with_reducible and_intros;all_goals first|apply qA|exact qC|skip)
 (first|refine qE ?_|refine qD ?_);(simp only [go_sem,↓dP,↓reduceIte];with_reducible and_intros;all_goals first|apply qA|exact qC|skip)
 (first|refine qE ?_|refine qD ?_);(simp only [go_sem,↓dP,↓reduceIte];with_reducible and_intros;all_goals first|apply qA|exact qC|skip)
 (first|refine qE ?_|refine qD ?_);(simp only [go_sem,↓dP,↓reduceIte];with_reducible and_intros;all_goals first|apply qA|exact qC|skip)
 (refine Ok.ret ?_;(try dsimp only [thenK,blockK,noGotoK]);simp only [toList_mk,List.toList_toArray,retK_ret,retK_normal,resOK,resV,celV,rowV,frzAll,frzT,subV,subL,go_sem,↓dP,↓reduceIte])
 exact ⟨.refl _,.refl _,.refl _,.refl _,DEq.sl (by simp) (fun i j hi hj => snoc_D (groD_cells ⟨h,h,h,h⟩) i j hi hj),DEq.sl (by simp) (set_pieD J.ps n hn J.gs.length)⟩
theorem spans_fix {J:Job} (n:Nat) (hn:n < J.ps.length) (hg:∀ p∈J.ps,0<=p.g/\p.g < J.gs.length) (h:Int) (may:Bool):spans (fixJ J n h) may = (spans J may).set n (h,h):=by
 unfold spans
 rw [List.map_set]
 have e1:spanOf (J.gs ++ [⟨h,h,h,h⟩]) may { J.ps.getD n default with g:=J.gs.length } = (h,h):=by
  unfold spanOf
  dsimp only
  rw [Int.toNat_natCast,List.getD_eq_getElem?_getD,List.getElem?_append_right (Nat.le_refl _)]
  cases may<;>simp
 rw [e1]
 congr 1
 refine List.map_congr_left (fun p hp => ?_)
 have hpg:=hg p hp
 unfold spanOf
 dsimp only
 rw [List.getD_eq_getElem?_getD,List.getElem?_append_left (by omega),← List.getD_eq_getElem?_getD]
end Go.Proofs.Leaf
namespace Go.Proofs.YtdajcfdhcjbmmaaGreatDoor
open Go Go.RX Go.Proofs.Leaf Go.RowKit Go.ChangeShapes Go.WideShapes Go.ChangeAt
set_option maxRecDepth 100000
section
variable {H : Type} {enc : TypeId × Value → H} {W : World}
end
theorem opensAll_cons {t:TypeId} {ts:List TypeId} {As:List SV} (h:opensAll (t :: ts) As):∃ A Bs,As = A :: Bs/\opens t A/\opensAll ts Bs:=by
 cases As with
 | nil => exact h.elim
 | cons A Bs => exact ⟨A,Bs,rfl,h.1,h.2⟩
theorem opensAll_nil {As:List SV} (h:opensAll [] As):As = []:=by
 cases As with
 | nil => rfl
 | cons A Bs => exact h.elim
end Go.Proofs.YtdajcfdhcjbmmaaGreatDoor
namespace Go.Proofs.Leaf
open Go Go.RX Go.Proofs Go.RowKit
set_option maxRecDepth 100000
section
theorem Job.ok.span0 {J:Job} (h:J.ok) (may:Bool):∀ i,i < J.ps.length->0<=(J.span may i).1:=fun i hi => by
 have h1:=h.span may _ (getD_mem (l:=spans J may) (i:=i) (by rw [spans_len];exact hi))
 rw [span_at J may hi] at h1
 exact h1.1
end
end Go.Proofs.Leaf
namespace Go.Proofs.Leaf
open Go Go.RX Go.Proofs Go.RowKit
set_option maxRecDepth 10000
section
instance inst_g0_5:Glob:=g0
theorem fix_ok {J:Job} (h:J.ok) (hg:J.gs.length < 3) {n:Nat} (hn:n < J.ps.length) {x:Int} (h0:0<=x) (h1:x<=12):(fixJ J n x).ok:=by
 have hg0:=h.g0
 refine { h with g0:=by simp,g1:=by simp;omega,p0:=by simpa using h.p0,p1:=by simpa using h.p1,gs:=fun g hgm => ?_,ps:=fun p hp => ?_ }
 ·rcases List.mem_append.1 (show g∈J.gs ++ [(⟨x,x,x,x⟩:Ground)] from hgm) with q | q
  ·exact h.gs g q
  ·simp at q;subst q;exact ⟨h0,Int.le_refl _,Int.le_refl _,Int.le_refl _,h1⟩
 ·have hl:(fixJ J n x).gs.length = J.gs.length + 1:=by simp
  rw [hl]
  rcases List.mem_or_eq_of_mem_set (show p∈J.ps.set n _ from hp) with q | q
  ·have:=h.ps p q;omega
  ·have:=h.ps _ (getD_mem hn)
   rw [q]
   show 1<=(J.ps.getD n default).w/\_/\_/\_/\(0:Int)<=J.gs.length/\(J.gs.length:Int)<=_
   exact ⟨this.1,this.2.1,this.2.2.1,this.2.2.2.1,by omega,by omega⟩
theorem when_in {J:Job} (h:J.ok) {n:Nat} (hn:n < J.ps.length):(whenL (spans J false) n).Pairwise (· < ·)/\∀ x∈whenL (spans J false) n,(J.span false n).1<=x/\x<=(J.span false n).2:=by
 have hl:n < (spans J false).length:=by rw [spans_len];exact hn
 have hs:=h.span false _ (getD_mem hl)
 have e:=whenL_eq hl hs.1 hs.2.2
 rw [span_at J false hn] at e
 rw [e]
 exact ⟨(hours_sorted _ _).filter _,fun x hx => mem_hoursL.1 (List.mem_filter.1 hx).1⟩
theorem when_fix {J:Job} (h:J.ok) {n:Nat} (hn:n < J.ps.length) {x:Int}:x∈whenL (spans J false) n ↔ ((J.span false n).1<=x/\x<=(J.span false n).2)/\(planOf (fixJ J n x) false).isSome = true:=by
 have hl:n < (spans J false).length:=by rw [spans_len];exact hn
 have hs:=h.span false _ (getD_mem hl)
 have e:=whenL_eq hl hs.1 hs.2.2
 rw [span_at J false hn] at e
 have e1:(planOf (fixJ J n x) false).isSome = fixS (spans J false) n x x:=by rw [planOf,spans_fix n hn h.based.at_];rfl
 rw [e,List.mem_filter,mem_hoursL,e1]
theorem when_plan {J:Job} (h:J.ok) {n:Nat} (hn:n < J.ps.length) {l:List Int} (hl:l∈planL (spans J false) []):l.getD n 0∈whenL (spans J false) n:=by
 have hl':n < (spans J false).length:=by rw [spans_len];exact hn
 have hs:=h.span false _ (getD_mem hl')
 exact (mem_whenL hl' hs.1 hs.2.2).2 ⟨l,hl,rfl⟩
end
end Go.Proofs.Leaf
namespace Go.Proofs.Leaf
open Go Go.RX Go.Proofs Go.RowKit
set_option maxRecDepth 100000
section
instance inst_gT_6:Glob:=gT
theorem law_Hours (J:Job) (hf:J.far) (l:List Int) (hl:l.length<=maxLen) (n x:Int):Ctr Tryz.prog 3 [J.sv,ilS l,iS n,iS x] (bS true):=by
 have hl':l.length<=9223372036854775807:=Nat.le_trans hl (by decide)
 (refine Ctr.mk (fn:=Tryz.f3) rfl rfl rfl rfl rfl Tryz.results3 ?_;intro _;dsimp only [args,List.toList_toArray])
 (first|refine qE ?_|refine qD ?_);(simp only [go_sem,↓dP,↓reduceIte];with_reducible and_intros;all_goals first|apply qA|exact qC|skip)
 refine Ok.seq ?_
 (first|refine qE ?_|refine qD ?_);(simp only [go_sem,↓dP,↓reduceIte];with_reducible and_intros;all_goals first|apply qA|exact qC|skip)
 (refine AskI.ret (c_lright J hf) ?_;simp only [go_sem,↓dP,↓reduceIte];with_reducible and_intros;all_goals first|apply qA|exact qC|skip)
 (refine AskGI.ret (fun _ => c_lslim l hl') ?_;simp only [go_sem,↓dP,↓reduceIte];with_reducible and_intros;all_goals first|apply qA|exact qC|skip)
 (refine AskGI.ret (fun q => c_rPiece J (short_held (by simp [rightB] at q;simp [q])).2 n) ?_;simp only [go_sem,↓dP,↓reduceIte];with_reducible and_intros;all_goals first|apply qA|exact qC|skip)
 refine Ok.cond rfl ?_ ?_
 ·intro hs
  (first|refine qE ?_|refine qD ?_);(simp only [go_sem,↓dP,↓reduceIte];with_reducible and_intros;all_goals first|apply qA|exact qC|skip)
  (refine AskI.ret (c_known) ?_;simp only [go_sem,↓dP,↓reduceIte];with_reducible and_intros;all_goals first|apply qA|exact qC|skip)
  (refine Ok.ret ?_;(try dsimp only [thenK,blockK,noGotoK]);simp only [toList_mk,List.toList_toArray,retK_ret,retK_normal,resOK,resV,celV,rowV,frzAll,frzT,subV,subL,go_sem,↓dP,↓reduceIte])
  ((repeat' with_reducible apply And.intro)<;>(first | exact DEq.refl _ | refine DEq.int ?_ | refine DEq.bool ?_ | skip))
 intro hs
 (refine Ok.skip ?_;(try dsimp only [thenK,blockK,noGotoK]))
 obtain ⟨hr,hsl,hin,hg3,hx0,hx1⟩:rightB J = true/\slimB l = true/\inB n 0 (J.ps.length - 1) = true/\J.gs.length < 3/\0<=x/\x<=12:=by
  simp only [Bool.or_eq_false_iff,Bool.not_eq_false',decide_eq_false_iff_not] at hs
  obtain ⟨⟨⟨⟨⟨a1,a2⟩,a3⟩,a4⟩,a5⟩,a6⟩:=hs
  exact ⟨a1,a2,a3,by omega,by omega,by omega⟩
 simp only [rightB,Bool.and_eq_true] at hr
 obtain ⟨hsh,hj⟩:=hr
 have hh:=short_held hsh
 have h:=jobB_iff.1 hj
 have hp:=h.p1
 have hsl':l.length<=8:=by simpa [slimB] using hsl
 have hin':=inB_iff.1 hin
 obtain ⟨m,rfl⟩:∃ m:Nat,n = m:=⟨n.toNat,by omega⟩
 have hm:m < J.ps.length:=by omega
 have hwl:(whenL (spans J false) m).length<=13:=Nat.le_trans (List.length_filter_le _ _) (by decide)
 have hml:m < (spans J false).length:=by rw [spans_len];exact hm
 have hsp:=h.span false _ (getD_mem hml)
 have hwn:whenL (spans J false) m = [] ↔ planOf J false = none:=whenL_nil hml hsp.1 hsp.2.2
 have hF:=fix_ok h hg3 hm hx0 hx1
 have hW:=c_When J h.based hh h.timed (by omega) hj m hm
 have hP:=c_Plan J h.based hh h.timed (by omega) hj
 have hfx:=c_lfixed J (by omega) (by omega) m hm x
 have hG:=c_Plan (fixJ J m x) hF.based hF.held hF.timed (by have:=hF.p1;omega) (jobB_iff.2 hF)
 have hy:=hourly_plan J l false (h.span0 false)
 have hho:=c_lhourly J h.based (by omega) l (by omega) false
 have hwf:=when_fix h hm (x:=x)
 obtain ⟨hw1,hw2⟩:=when_in h hm
 have hwp:=fun q => when_plan h hm (l:=l) q
 cases hpl:planOf J false with
 | none =>
  have hw:=hwn.2 hpl
  have hsure:(hourlyB J l false && !decide ((-1:Int)∈l)) = false:=by
   rw [Bool.eq_false_iff]
   intro q
   rw [planOf,List.head?_eq_none_iff] at hpl
   have:=hy.1 q
   rw [hpl] at this
   cases this
  rw [hsure] at hho
  rw [hw,if_pos rfl] at hW
  rw [hpl,if_neg (by simp)] at hP
  by_cases hg:(planOf (fixJ J m x) false).isSome = true
  ·rw [if_pos hg] at hG
   (first|refine qE ?_|refine qD ?_);(simp only [go_sem,↓dP,↓reduceIte];with_reducible and_intros;all_goals first|apply qA|exact qC|skip)
   (refine AskI.ret (hW) ?_;simp only [go_sem,↓dP,↓reduceIte];with_reducible and_intros;all_goals first|apply qA|exact qC|skip)
   (first|refine qE ?_|refine qD ?_);(simp only [go_sem,↓dP,↓reduceIte];with_reducible and_intros;all_goals first|apply qA|exact qC|skip)
   (refine AskI.ret (hP) ?_;simp only [go_sem,↓dP,↓reduceIte];with_reducible and_intros;all_goals first|apply qA|exact qC|skip)
   (first|refine qE ?_|refine qD ?_);(simp only [go_sem,↓dP,↓reduceIte];with_reducible and_intros;all_goals first|apply qA|exact qC|skip)
   (refine AskI.ret (hfx) ?_;simp only [go_sem,↓dP,↓reduceIte];with_reducible and_intros;all_goals first|apply qA|exact qC|skip)
   (refine AskI.ret (hG) ?_;simp only [go_sem,↓dP,↓reduceIte];with_reducible and_intros;all_goals first|apply qA|exact qC|skip)
   refine Ok.seq ?_
   (first|refine qE ?_|refine qD ?_);(simp only [go_sem,↓dP,↓reduceIte];with_reducible and_intros;all_goals first|apply qA|exact qC|skip)
   refine Ok.cond (b:=false) (by first | rfl | (simp only [go_sem,↓dP,↓reduceIte];rfl)) (fun hb => by cases hb) (fun _ => ?_)
   (refine Ok.skip ?_;(try dsimp only [thenK,blockK,noGotoK]))
   refine Ok.seq ?_
   (first|refine qE ?_|refine qD ?_);(simp only [go_sem,↓dP,↓reduceIte];with_reducible and_intros;all_goals first|apply qA|exact qC|skip)
   refine Ok.cond (b:=true) (by first | rfl | (simp only [go_sem,↓dP,↓reduceIte];rfl)) (fun _ => ?_) (fun hb => by cases hb)
   (first|refine qE ?_|refine qD ?_);(simp only [go_sem,↓dP,↓reduceIte];with_reducible and_intros;all_goals first|apply qA|exact qC|skip)
   (refine AskI.ret (hho) ?_;simp only [go_sem,↓dP,↓reduceIte];with_reducible and_intros;all_goals first|apply qA|exact qC|skip)
   (refine AskGI.ret (fun _ => c_known) ?_;simp only [go_sem,↓dP,↓reduceIte];with_reducible and_intros;all_goals first|apply qA|exact qC|skip)
   (refine Ok.ret ?_;(try dsimp only [thenK,blockK,noGotoK]);simp only [toList_mk,List.toList_toArray,retK_ret,retK_normal,resOK,resV,celV,rowV,frzAll,frzT,subV,subL,go_sem,↓dP,↓reduceIte])
   ((repeat' with_reducible apply And.intro)<;>(first | exact DEq.refl _ | refine DEq.int ?_ | refine DEq.bool ?_ | skip))
  ·rw [if_neg hg] at hG
   (first|refine qE ?_|refine qD ?_);(simp only [go_sem,↓dP,↓reduceIte];with_reducible and_intros;all_goals first|apply qA|exact qC|skip)
   (refine AskI.ret (hW) ?_;simp only [go_sem,↓dP,↓reduceIte];with_reducible and_intros;all_goals first|apply qA|exact qC|skip)
   (first|refine qE ?_|refine qD ?_);(simp only [go_sem,↓dP,↓reduceIte];with_reducible and_intros;all_goals first|apply qA|exact qC|skip)
   (refine AskI.ret (hP) ?_;simp only [go_sem,↓dP,↓reduceIte];with_reducible and_intros;all_goals first|apply qA|exact qC|skip)
   (first|refine qE ?_|refine qD ?_);(simp only [go_sem,↓dP,↓reduceIte];with_reducible and_intros;all_goals first|apply qA|exact qC|skip)
   (refine AskI.ret (hfx) ?_;simp only [go_sem,↓dP,↓reduceIte];with_reducible and_intros;all_goals first|apply qA|exact qC|skip)
   (refine AskI.ret (hG) ?_;simp only [go_sem,↓dP,↓reduceIte];with_reducible and_intros;all_goals first|apply qA|exact qC|skip)
   refine Ok.seq ?_
   (first|refine qE ?_|refine qD ?_);(simp only [go_sem,↓dP,↓reduceIte];with_reducible and_intros;all_goals first|apply qA|exact qC|skip)
   refine Ok.cond (b:=false) (by first | rfl | (simp only [go_sem,↓dP,↓reduceIte];rfl)) (fun hb => by cases hb) (fun _ => ?_)
   (refine Ok.skip ?_;(try dsimp only [thenK,blockK,noGotoK]))
   refine Ok.seq ?_
   (first|refine qE ?_|refine qD ?_);(simp only [go_sem,↓dP,↓reduceIte];with_reducible and_intros;all_goals first|apply qA|exact qC|skip)
   refine Ok.cond (b:=true) (by first | rfl | (simp only [go_sem,↓dP,↓reduceIte];rfl)) (fun _ => ?_) (fun hb => by cases hb)
   (first|refine qE ?_|refine qD ?_);(simp only [go_sem,↓dP,↓reduceIte];with_reducible and_intros;all_goals first|apply qA|exact qC|skip)
   (refine AskI.ret (hho) ?_;simp only [go_sem,↓dP,↓reduceIte];with_reducible and_intros;all_goals first|apply qA|exact qC|skip)
   (refine AskGI.ret (fun _ => c_known) ?_;simp only [go_sem,↓dP,↓reduceIte];with_reducible and_intros;all_goals first|apply qA|exact qC|skip)
   (refine Ok.ret ?_;(try dsimp only [thenK,blockK,noGotoK]);simp only [toList_mk,List.toList_toArray,retK_ret,retK_normal,resOK,resV,celV,rowV,frzAll,frzT,subV,subL,go_sem,↓dP,↓reduceIte])
   ((repeat' with_reducible apply And.intro)<;>(first | exact DEq.refl _ | refine DEq.int ?_ | refine DEq.bool ?_ | skip))
 | some p =>
  have hw:¬ whenL (spans J false) m = []:=fun q => by rw [hwn.1 q] at hpl;cases hpl
  have hpl2:=plan_len hpl
  have hpm:=when_plan h hm (plan_mem hpl)
  rw [if_neg hw] at hW
  rw [hpl,if_pos (by simp)] at hP
  rw [Option.getD_some] at hP
  generalize whenL (spans J false) m = W at *
  obtain ⟨e,hG',he⟩:∃ e:Int,Ctr Tryz.prog 18 [(fixJ J m x).sv] (.tup [ilS ((planOf (fixJ J m x) false).getD []),iS e])/\(e = 0/\(planOf (fixJ J m x) false).isSome = true∨e = 5/\¬ (planOf (fixJ J m x) false).isSome = true):=by
   by_cases hg:(planOf (fixJ J m x) false).isSome = true
   ·rw [if_pos hg] at hG;exact ⟨0,hG,.inl ⟨rfl,hg⟩⟩
   ·rw [if_neg hg] at hG;exact ⟨5,hG,.inr ⟨rfl,hg⟩⟩
  (first|refine qE ?_|refine qD ?_);(simp only [go_sem,↓dP,↓reduceIte];with_reducible and_intros;all_goals first|apply qA|exact qC|skip)
  (refine AskI.ret (hW) ?_;simp only [go_sem,↓dP,↓reduceIte];with_reducible and_intros;all_goals first|apply qA|exact qC|skip)
  (first|refine qE ?_|refine qD ?_);(simp only [go_sem,↓dP,↓reduceIte];with_reducible and_intros;all_goals first|apply qA|exact qC|skip)
  (refine AskI.ret (hP) ?_;simp only [go_sem,↓dP,↓reduceIte];with_reducible and_intros;all_goals first|apply qA|exact qC|skip)
  (first|refine qE ?_|refine qD ?_);(simp only [go_sem,↓dP,↓reduceIte];with_reducible and_intros;all_goals first|apply qA|exact qC|skip)
  (refine AskI.ret (hfx) ?_;simp only [go_sem,↓dP,↓reduceIte];with_reducible and_intros;all_goals first|apply qA|exact qC|skip)
  (refine AskI.ret (hG') ?_;simp only [go_sem,↓dP,↓reduceIte];with_reducible and_intros;all_goals first|apply qA|exact qC|skip)
  refine Ok.seq ?_
  (first|refine qE ?_|refine qD ?_);(simp only [go_sem,↓dP,↓reduceIte];with_reducible and_intros;all_goals first|apply qA|exact qC|skip)
  refine Ok.cond rfl (fun hb => by simp at hb;omega) (fun _ => ?_)
  (refine Ok.skip ?_;(try dsimp only [thenK,blockK,noGotoK]))
  refine Ok.seq ?_
  (first|refine qE ?_|refine qD ?_);(simp only [go_sem,↓dP,↓reduceIte];with_reducible and_intros;all_goals first|apply qA|exact qC|skip)
  refine Ok.cond (b:=false) (by first | rfl | (simp only [go_sem,↓dP,↓reduceIte];rfl)) (fun hb => by cases hb) (fun _ => ?_)
  (refine Ok.skip ?_;(try dsimp only [thenK,blockK,noGotoK]))
  (first|refine qE ?_|refine qD ?_);(simp only [go_sem,↓dP,↓reduceIte];with_reducible and_intros;all_goals first|apply qA|exact qC|skip)
  (refine AskI.ret (c_rHours J h.based m (by omega) (by omega) false) ?_;simp only [go_sem,↓dP,↓reduceIte];with_reducible and_intros;all_goals first|apply qA|exact qC|skip)
  refine Ok.seq ?_
  (first|refine qE ?_|refine qD ?_);(simp only [go_sem,↓dP,↓reduceIte];with_reducible and_intros;all_goals first|apply qA|exact qC|skip)
  (refine AskGI.ret (fun _ => c_tListed W (p.getD m 0) (by omega)) ?_;simp only [go_sem,↓dP,↓reduceIte];with_reducible and_intros;all_goals first|apply qA|exact qC|skip)
  refine Ok.cond rfl (fun hb => by rw [hpl2,decide_eq_true hpm,decide_eq_false (by omega)] at hb;simp at hb) (fun _ => ?_)
  (refine Ok.skip ?_;(try dsimp only [thenK,blockK,noGotoK]))
  refine Ok.seq ?_
  (first|refine qE ?_|refine qD ?_);(simp only [go_sem,↓dP,↓reduceIte];with_reducible and_intros;all_goals first|apply qA|exact qC|skip)
  refine Ok.block ?_
  refine Ok.count W.length (fun i => ⟨[(1,ilS l),(2,iS m),(3,iS x),(4,.p 0 0),(9,ilS W),(14,iS e),(15,.p 1 0),(16,iS i)],[jobC J,{ frz:=false,xs:=[iS (J.span false m).1,iS (J.span false m).2] }],[]⟩) (fun _ => True) ⟨trivial,?_⟩ ?_ ?_
  ·(refine Sub.of ([0,1]) ([]) ?_ ?_ ?_ rfl rfl<;>simp only [subB,subB1,subT,subT1,newT,subE,subV,subL,go_sem,↓dP,↓reduceIte]<;>(try (repeat' with_reducible apply And.intro))<;>(try first | exact DEq.refl _ | refine DEq.int ?_ | refine DEq.bool ?_ | omega))
  ·intro i hi _
   have hx:=hw2 _ (getD_mem (l:=W) (i:=i) hi)
   refine Ok.seq ?_;((first|refine qE ?_|refine qD ?_);(simp only [go_sem,↓dP,↓reduceIte];with_reducible and_intros;all_goals first|apply qA|exact qC|skip));refine Ok.cond rfl (fun _ => ?_) (fun hb => by simp at hb;omega);(refine Ok.skip ?_;(try dsimp only [thenK,blockK,noGotoK]));refine Ok.seq ?_;refine Ok.block ?_
   (first|refine qE ?_|refine qD ?_);(simp only [go_sem,↓dP,↓reduceIte];with_reducible and_intros;all_goals first|apply qA|exact qC|skip)
   ·intro hq;simp at hq;omega
   have hx2:decide (0 < (i:Int)) = true->¬ W.getD i default<=W.getD (i - 1) default:=fun q => by
    have q':0 < i:=by simpa using q
    rw [getD_lt hi,getD_lt (show i - 1 < W.length by omega)]
    have:=List.pairwise_iff_getElem.1 hw1 (i - 1) i (by omega) hi (by omega)
    omega
   have hx3:((i:Int) - 1).toNat = i - 1:=by omega
   refine Ok.cond rfl (fun hb => ?_) (fun _ => ?_)
   ·exfalso
    rw [decide_eq_false (show ¬ W.getD i default < (J.span false m).1 by omega),decide_eq_false (show ¬ (J.span false m).2 < W.getD i default by omega)] at hb
    simp only [Bool.false_or,Bool.and_eq_true,decide_eq_true_eq] at hb
    rw [hx3] at hb
    exact hx2 (by simpa using hb.1) hb.2
   ·(refine Ok.skip ?_;(try dsimp only [thenK,blockK,noGotoK]))
    (try dsimp only [thenK,blockK,noGotoK])
    (first|refine qE ?_|refine qD ?_);(simp only [go_sem,↓dP,↓reduceIte];with_reducible and_intros;all_goals first|apply qA|exact qC|skip)
    (try dsimp only [thenK,blockK,noGotoK])
    refine ⟨trivial,?_⟩
    (refine Sub.of ([0,1]) ([]) ?_ ?_ ?_ rfl rfl<;>simp only [subB,subB1,subT,subT1,newT,subE,subV,subL,go_sem,↓dP,↓reduceIte]<;>(try (repeat' with_reducible apply And.intro))<;>(try first | exact DEq.refl _ | refine DEq.int ?_ | refine DEq.bool ?_ | omega))
  ·intro _
   refine Ok.seq ?_;((first|refine qE ?_|refine qD ?_);(simp only [go_sem,↓dP,↓reduceIte];with_reducible and_intros;all_goals first|apply qA|exact qC|skip));refine Ok.cond rfl (fun hb => by simp at hb) (fun _ => ?_);(refine Ok.exit ?_;simp only [thenK_exit,blockK_exit,noGotoK_exit,thenK_normal,blockK_normal,noGotoK_normal,↓reduceIte,Nat.reduceEqDiff])
   (first|refine qE ?_|refine qD ?_);(simp only [go_sem,↓dP,↓reduceIte];with_reducible and_intros;all_goals first|apply qA|exact qC|skip)
   have hfin:(decide (x∈W) == (decide ((J.span false m).1<=x) && decide (x<=(J.span false m).2) && e == 0)) = true:=by
    rw [beq_iff_eq,Bool.eq_iff_iff]
    simp only [Bool.and_eq_true,decide_eq_true_eq,beq_iff_eq]
    rw [hwf]
    constructor
    ·rintro ⟨a,b⟩
     refine ⟨a,?_⟩
     rcases he with ⟨q,_⟩ | ⟨_,q⟩
     ·exact q
     ·exact absurd b q
    ·rintro ⟨a,b⟩
     refine ⟨a,?_⟩
     rcases he with ⟨_,q⟩ | ⟨q,_⟩
     ·exact q
     ·omega
   cases hlv:(hourlyB J l false && !decide ((-1:Int)∈l)) with
   | false =>
    rw [hlv] at hho
    (first|refine qE ?_|refine qD ?_);(simp only [go_sem,↓dP,↓reduceIte];with_reducible and_intros;all_goals first|apply qA|exact qC|skip)
    (refine AskI.ret (c_tListed W x (by omega)) ?_;simp only [go_sem,↓dP,↓reduceIte];with_reducible and_intros;all_goals first|apply qA|exact qC|skip)
    (refine AskGI.ret (fun _ => hho) ?_;simp only [go_sem,↓dP,↓reduceIte];with_reducible and_intros;all_goals first|apply qA|exact qC|skip)
    (refine AskGI.ret (fun _ => c_tListed W (l.getD m 0) (by omega)) ?_;simp only [go_sem,↓dP,↓reduceIte];with_reducible and_intros;all_goals first|apply qA|exact qC|skip)
    (refine AskGI.ret (fun _ => c_known) ?_;simp only [go_sem,↓dP,↓reduceIte];with_reducible and_intros;all_goals first|apply qA|exact qC|skip)
    (refine Ok.ret ?_;(try dsimp only [thenK,blockK,noGotoK]);simp only [toList_mk,List.toList_toArray,retK_ret,retK_normal,resOK,resV,celV,rowV,frzAll,frzT,subV,subL,go_sem,↓dP,↓reduceIte])
    ((repeat' with_reducible apply And.intro)<;>(first | exact DEq.refl _ | refine DEq.int ?_ | refine DEq.bool ?_ | skip))
    exact hfin
   | true =>
    rw [hlv] at hho
    have hlm:=hy.1 hlv
    have hll:l.length = J.ps.length:=by rw [within_len (plan_iff.1 hlm).1,spans_len]
    have hlw:=hwp hlm
    (first|refine qE ?_|refine qD ?_);(simp only [go_sem,↓dP,↓reduceIte];with_reducible and_intros;all_goals first|apply qA|exact qC|skip)
    (refine AskI.ret (c_tListed W x (by omega)) ?_;simp only [go_sem,↓dP,↓reduceIte];with_reducible and_intros;all_goals first|apply qA|exact qC|skip)
    (refine AskGI.ret (fun _ => hho) ?_;simp only [go_sem,↓dP,↓reduceIte];with_reducible and_intros;all_goals first|apply qA|exact qC|skip)
    (refine AskGI.ret (fun _ => c_tListed W (l.getD m 0) (by omega)) ?_;simp only [go_sem,↓dP,↓reduceIte];with_reducible and_intros;all_goals first|apply qA|exact qC|skip)
    (refine AskGI.ret (fun _ => c_known) ?_;simp only [go_sem,↓dP,↓reduceIte];with_reducible and_intros;all_goals first|apply qA|exact qC|skip)
    (refine Ok.ret ?_;(try dsimp only [thenK,blockK,noGotoK]);simp only [toList_mk,List.toList_toArray,retK_ret,retK_normal,resOK,resV,celV,rowV,frzAll,frzT,subV,subL,go_sem,↓dP,↓reduceIte])
    ((repeat' with_reducible apply And.intro)<;>(first | exact DEq.refl _ | refine DEq.int ?_ | refine DEq.bool ?_ | skip))
    rw [hfin,decide_eq_true hlw];rfl
end
end Go.Proofs.Leaf
namespace Go.Proofs.YtdajcfdhcjbmmaaGreatDoor
open Go Go.RX Go.Proofs.Leaf Go.RowKit Go.ChangeShapes Go.WideShapes Go.ChangeAt
set_option maxRecDepth 100000
theorem leafHours_ctr (As:List SV) (h:opensAll [25,26,3,3] As):Ctr Tryz.prog 3 As (bS true):=by
 obtain ⟨_,A1,rfl,h0,h⟩:=opensAll_cons h
 obtain ⟨_,A2,rfl,h1,h⟩:=opensAll_cons h
 obtain ⟨_,A3,rfl,h2,h⟩:=opensAll_cons h
 obtain ⟨_,A4,rfl,h3,h⟩:=opensAll_cons h
 obtain rfl:=opensAll_nil h
 obtain ⟨x0,rfl,y0⟩:=opens_job h0
 obtain ⟨x1,rfl,y1⟩:=opens_ints h1
 obtain ⟨x2,rfl,y2,z2⟩:=opens_int h2
 obtain ⟨x3,rfl,y3,z3⟩:=opens_int h3
 exact law_Hours x0 y0 x1 y1 x2 x3
theorem leafHours_facts:joinedFacts Tryz.prog 3 Tryz.f3 Rows.leafHoursSpec Rows.leafHoursRow = true:=by unfold joinedFacts;rw [enter_is,final_is,make_is];kernel_rfl
theorem leafHours_lifted (os:Os) (started:os.Started) (H:Type) (enc:TypeId×Value->H) :
  ReturnsInHanded {} Tryz.checked os 3 .any (fun w args => (Rows.leafHoursSpec.pre enc Tryz.prog Tryz.f3 [] false w args/\laidMetH Tryz.prog laid5 w)/\sizedMet enc Tryz.prog Tryz.f3 (OpenSpec.ofChange Rows.leafHoursSpec) false w args)
   (Rows.leafHoursSpec.post enc Tryz.prog Tryz.f3 false true false false):=by
 refine law_ctr (ts:=[25,26,3,3]) Rows.leafHoursSpec rfl started (by kernel_rfl) Tryz.func3 (by kernel_rfl) (by rw [Tryz.params3]) (by unfold argT;decide)
  (fun ds hd => ?_)
  (ChangeSpec.witness_shaped (enc:=enc) (C:=Tryz.checked) (os:=os) (X:=fun w _ => laidMetH Tryz.prog laid5 w) false (World.laidAll Tryz.prog os laid5) #[zJ,zL,zI,zI] 8 (World.laidAll_os _ _ _)
   (World.shaped_of_ZipB (by kernel_rfl) (by kernel_rfl)) (by kernel_rfl) (by kernel_rfl) (by kernel_rfl)
   (by rw [MakeChecks.laidMetH_plain _ _ _ (by kernel_rfl)];exact laidMet_laidAll _ (by kernel_rfl) (by kernel_rfl))) leafHours_ctr
 match ds,hd with
 | [d0,d1,d2,d3],_ => rfl
theorem leafHours_row:Rows.LeafHoursSaid :=
 OpenClaim.holds_of_wide 3 Tryz.f3 rfl rfl rfl rfl rfl rfl rfl ⟨rfl,rfl,rfl,rfl,rfl⟩ rfl rfl rfl rfl rfl (by kernel_rfl) Tryz.func3 leafHours_facts (of_decide_eq_true (by kernel_rfl))
  (by unfold Func.isWrapper;first | (rw [if_pos (by decide +kernel)];kernel_rfl) | (rw [if_neg (by decide +kernel)];exact ⟨rfl,rfl⟩)) (fun os started H enc _ => leafHours_lifted os started H enc)
theorem leafHours_card:Rows.LeafHoursCardSaid :=
 Claim7.holds_tied_plain_at .later [] [.data,.data,.data,.data,.pinned] true (true,"9e87e616c4e1775f9d0f73ad686290748eaae9f5c03add0b1bcc61ba8396e555") true leafHours_row
  (fun _ h => by cases h) (by kernel_rfl) (fun _ h => by cases h) leafHours_row_tie rfl ⟨rfl,rfl⟩ main_is rfl
  (fun f fn hf hfn => by
   obtain rfl:f = 3:=Option.some.inj ((show Tryz.prog.funcNamed "mahlstick/mahlsticklaw04.LeafHours" = some 3 by kernel_rfl).symm.trans hf) |>.symm
   obtain rfl:fn = Tryz.f3:=(Option.some.inj (Tryz.func3.symm.trans hfn)).symm
   exact ⟨by kernel_rfl,fun j t ht => by
    rw [Tryz.params3] at ht
    exact law_stand (ts:=[25,26,3,3]) (by unfold argT;decide) (by simpa using Array.mem_of_getElem? ht)⟩) (by kernel_rfl)
end Go.Proofs.YtdajcfdhcjbmmaaGreatDoor
