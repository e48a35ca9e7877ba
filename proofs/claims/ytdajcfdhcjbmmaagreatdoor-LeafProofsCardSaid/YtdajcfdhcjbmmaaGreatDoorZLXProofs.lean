/-
  hours that are too few, pieces that must be left: LeafProofs returns true at every input, and leaves it as it was.
  No condition beside those that the statement itself names.
-/
import Derived.Test.YtdajcfdhcjbmmaaGreatDoorB30
import Derived.ChangeMaps5
set_option linter.all false
namespace Go.Proofs.Leaf
def firstR:List (Option (Int×Int))->List Int->Option (List Int)
 | [],now => some now
 | none :: r,now => firstR r (now ++ [-1])
 | some (a,b) :: r,now => (hoursL a b).findSome? (fun h => if h∈now then none else firstR r (now ++ [h]))
theorem head_flatMap {α β:Type} (f:α->List β):∀ l:List α,(l.flatMap f).head? = l.findSome? (fun x => (f x).head?)
 | [] => rfl
 | a :: l => by
  rw [List.flatMap_cons,List.head?_append,List.findSome?_cons,head_flatMap f l]
  cases (f a).head?<;>rfl
theorem findSome_isSome {α β γ:Type} {f:α->Option β} {g:α->Option γ}:∀ {l:List α},(∀ x∈l,(f x).isSome = (g x).isSome)->(l.findSome? f).isSome = (l.findSome? g).isSome
 | [],_ => rfl
 | a :: l,h => by
  have h1:=h a (List.mem_cons_self ..)
  have h2:=findSome_isSome (l:=l) (fun x hx => h x (List.mem_cons_of_mem _ hx))
  rw [List.findSome?_cons,List.findSome?_cons]
  cases hf:f a<;>cases hg:g a<;>rw [hf,hg] at h1<;>first | exact h2 | rfl | cases h1
theorem firstR_isSome:∀ (xs:List (Option (Int×Int))) (now now':List Int),(∀ x∈xs,∀ a b,x = some (a,b)->0<=a)->(∀ h,0<=h->(h∈now ↔ h∈now'))->(firstR xs now).isSome = (planL (xs.filterMap id) now').head?.isSome
 | [],_,_,_,_ => rfl
 | none :: r,now,now',h0,h => by
  rw [firstR]
  show _ = (planL (r.filterMap id) now').head?.isSome
  refine firstR_isSome r _ _ (fun x hx => h0 x (List.mem_cons_of_mem _ hx)) (fun k hk => ?_)
  rw [List.mem_append,← h k hk]
  constructor
  ·rintro (h1 | h1)
   ·exact h1
   ·simp at h1;omega
  ·exact .inl
 | some (a,b) :: r,now,now',h0,h => by
  rw [firstR]
  show _ = (planL ((a,b) :: r.filterMap id) now').head?.isSome
  rw [planL,head_flatMap]
  have ha:=h0 _ (List.mem_cons_self ..) a b rfl
  refine findSome_isSome (fun x hx => ?_)
  have hx0:=mem_hoursL.1 hx
  have hxm:=h x (by omega)
  by_cases hm:x∈now
  ·rw [if_pos hm,if_pos (hxm.1 hm)];rfl
  ·rw [if_neg hm,if_neg (fun q => hm (hxm.2 q))]
   refine firstR_isSome r _ _ (fun x hx => h0 x (List.mem_cons_of_mem _ hx)) (fun k hk => ?_)
   rw [List.mem_append,List.mem_append,h k hk]
def beforeL:List Int->List Int->Bool
 | [],[] => false
 | [],_ :: _ => true
 | _ :: _,[] => false
 | x :: l,y :: m => if x = y then beforeL l m else decide (x < y)
theorem before_pre:∀ (now:List Int) (l m:List Int),beforeL (now ++ l) (now ++ m) = beforeL l m
 | [],_,_ => rfl
 | x :: now,l,m => by simp [beforeL,before_pre now l m]
theorem before_irr:∀ l:List Int,beforeL l l = false
 | [] => rfl
 | x :: l => by simp [beforeL,before_irr l]
theorem before_asymm:∀ (l m:List Int),beforeL l m = true->beforeL m l = false
 | [],[],h => by cases h
 | [],_ :: _,_ => rfl
 | _ :: _,[],h => by cases h
 | x :: l,y :: m,h => by
  unfold beforeL at h ⊢
  by_cases e:x = y
  ·rw [if_pos e] at h;rw [if_pos e.symm];exact before_asymm l m h
  ·rw [if_neg e,decide_eq_true_eq] at h
   rw [if_neg (fun q => e q.symm),decide_eq_false_iff_not];omega
theorem nodup_bound:∀ (n:Nat) (lo:Int) (l:List Int),l.Nodup->(∀ x∈l,lo<=x/\x < lo + n)->l.length<=n
 | 0,lo,l,_,h => by
  cases l with
  | nil => exact Nat.le_refl _
  | cons x l => have:=h x (List.mem_cons_self ..);omega
 | n + 1,lo,l,hd,h => by
  by_cases hm:lo + (n:Int)∈l
  ·have h1:=nodup_bound n lo (l.erase (lo + n)) (hd.erase _) (fun x hx => by
    have:=(hd.mem_erase_iff).1 hx
    have:=h x this.2
    omega)
   rw [List.length_erase_of_mem hm] at h1
   omega
  ·have:=nodup_bound n lo l hd (fun x hx => by
    have h1:=h x hx
    have:x ≠ lo + n:=fun e => hm (e ▸ hx)
    omega)
   omega
end Go.Proofs.Leaf
namespace Go.Proofs.Leaf
theorem combo_sorted (n:Nat):∀ (k fr:Nat) (now:List Nat),(comboK n k fr now).Pairwise (fun l m => beforeL (asI l) (asI m) = true)
 | 0,fr,now => by simp [comboK]
 | k + 1,fr,now => by
  rw [comboK,List.pairwise_flatMap]
  refine ⟨fun i _ => combo_sorted n k _ _,List.pairwise_lt_range.imp (fun {i j} hlt x hx y hy => ?_)⟩
  obtain ⟨t,rfl,_⟩:=(mem_combo n k _ _ _).1 hx
  obtain ⟨u,rfl,_⟩:=(mem_combo n k _ _ _).1 hy
  have e:∀ (i:Nat) (t:List Nat),asI (now ++ [fr + i] ++ t) = asI now ++ (((fr + i:Nat):Int) :: asI t):=fun n t => by simp [asI]
  rw [e,e,before_pre,beforeL,if_neg (by omega)]
  exact decide_eq_true (by omega)
theorem leave_spec {n:Nat} {q:List Nat->Bool} {l:List Nat} (h:leaveL n q = some l):rises n 0 l/\q l = true/\∀ m,rises n 0 m->m.length<=n->q m = true->l.length < m.length∨(l.length = m.length/\beforeL (asI m) (asI l) = false):=by
 unfold leaveL at h
 have hall:∀ m:List Nat,m∈(List.range (n + 1)).flatMap (fun k => comboK n k 0 []) ↔ m.length<=n/\rises n 0 m:=by
  intro m
  simp only [List.mem_flatMap,List.mem_range]
  constructor
  ·rintro ⟨k,hk,hm⟩
   obtain ⟨t,rfl,h1,h2⟩:=(mem_combo n k _ _ m).1 hm
   exact ⟨by first | omega | (simp;omega),by simpa using h2⟩
  ·rintro ⟨h1,h2⟩
   exact ⟨m.length,by omega,(mem_combo n _ _ _ m).2 ⟨m,by simp,rfl,h2⟩⟩
 have hs:((List.range (n + 1)).flatMap (fun k => comboK n k 0 [])).Pairwise (fun l m => l.length < m.length∨(l.length = m.length/\beforeL (asI l) (asI m) = true)):=by
  rw [List.pairwise_flatMap]
  refine ⟨fun k _ => (combo_sorted n k 0 []).imp_of_mem (fun {a b} ha hb hab => .inr ⟨?_,hab⟩),List.pairwise_lt_range.imp (fun {i j} hlt x hx y hy => .inl ?_)⟩
  ·obtain ⟨t,rfl,h1,_⟩:=(mem_combo n k _ _ _).1 ha
   obtain ⟨u,rfl,h2,_⟩:=(mem_combo n k _ _ _).1 hb
   simp [h1,h2]
  ·obtain ⟨t,rfl,h1,_⟩:=(mem_combo n i _ _ _).1 hx
   obtain ⟨u,rfl,h2,_⟩:=(mem_combo n j _ _ _).1 hy
   simp [h1,h2];omega
 have hq:=List.find?_some h
 have hm:=List.mem_of_find?_eq_some h
 refine ⟨((hall l).1 hm).2,hq,fun m hr hl hqm => ?_⟩
 have hmm:=(hall m).2 ⟨hl,hr⟩
 revert h hs hmm
 generalize (List.range (n + 1)).flatMap (fun k => comboK n k 0 []) = L
 intro h hs hmm
 rw [List.find?_eq_some_iff_append] at h
 obtain ⟨_,as1,bs,rfl,hno⟩:=h
 rcases List.mem_append.1 hmm with h1 | h1
 ·have:=hno m h1
  rw [hqm] at this;cases this
 ·rcases List.mem_cons.1 h1 with rfl | h1
  ·exact .inr ⟨rfl,before_irr _⟩
  ·have:=(List.pairwise_cons.1 (List.pairwise_append.1 hs).2.1).1 m h1
   rcases this with h2 | ⟨h2,h3⟩
   ·exact .inl h2
   ·exact .inr ⟨h2,before_asymm _ _ h3⟩
end Go.Proofs.Leaf
namespace Go.Proofs.Leaf
open Go Go.RX Go.Proofs
set_option maxRecDepth 10000
variable [Glob]
theorem c_rin (n lo hi:Int):Ctr Tryz.prog 50 [iS n,iS lo,iS hi] (bS (inB n lo hi)):=by
 (refine Ctr.mk (fn:=Tryz.f50) rfl rfl rfl rfl rfl Tryz.results50 ?_;intro _;dsimp only [args,List.toList_toArray])
 (first|refine qE ?_|refine qD ?_);(simp only [go_sem,↓dP,↓reduceIte];with_reducible and_intros;all_goals first|apply qA|exact qC|skip)
 (first|refine qE ?_|refine qD ?_);(simp only [go_sem,↓dP,↓reduceIte];with_reducible and_intros;all_goals first|apply qA|exact qC|skip)
 (refine Ok.ret ?_;(try dsimp only [thenK,blockK,noGotoK]);simp only [toList_mk,List.toList_toArray,retK_ret,retK_normal,resOK,resV,celV,rowV,frzAll,frzT,subV,subL,go_sem,↓dP,↓reduceIte])
 exact .refl _
end Go.Proofs.Leaf
namespace Go.Proofs.Leaf
open Go Go.RX Go.Proofs
set_option maxRecDepth 10000
variable [Glob]
theorem c_rHours (J:Job) (hJ:J.based) (n:Int) (h0:0<=n) (h1:n < J.ps.length) (may:Bool):Ctr Tryz.prog 21 [J.sv,iS n,bS may] (spS (J.span may n)):=by
 have hm:=hJ.at_ _ (getD_mem (l:=J.ps) (i:=n.toNat) (by omega))
 have g1:=hJ.gl
 have p1:=hJ.pl
 (refine Ctr.mk (fn:=Tryz.f21) rfl rfl rfl rfl rfl Tryz.results21 ?_;intro _;dsimp only [args,List.toList_toArray])
 (first|refine qE ?_|refine qD ?_);(simp only [go_sem,↓dP,↓reduceIte];with_reducible and_intros;all_goals first|apply qA|exact qC|skip)
 (first|refine qE ?_|refine qD ?_);(simp only [go_sem,↓dP,↓reduceIte];with_reducible and_intros;all_goals first|apply qA|exact qC|skip)
 refine Ok.seq ?_
 (first|refine qE ?_|refine qD ?_);(simp only [go_sem,↓dP,↓reduceIte];with_reducible and_intros;all_goals first|apply qA|exact qC|skip)
 refine Ok.cond rfl ?_ ?_
 ·intro hb
  subst hb
  (first|refine qE ?_|refine qD ?_);(simp only [go_sem,↓dP,↓reduceIte];with_reducible and_intros;all_goals first|apply qA|exact qC|skip)
  (refine Ok.ret ?_;(try dsimp only [thenK,blockK,noGotoK]);simp only [toList_mk,List.toList_toArray,retK_ret,retK_normal,resOK,resV,celV,rowV,frzAll,frzT,subV,subL,go_sem,↓dP,↓reduceIte])
  ((repeat' with_reducible apply And.intro)<;>(first | exact DEq.refl _ | refine DEq.int ?_ | refine DEq.bool ?_ | skip))
 ·intro hb
  subst hb
  (refine Ok.skip ?_;(try dsimp only [thenK,blockK,noGotoK]))
  (first|refine qE ?_|refine qD ?_);(simp only [go_sem,↓dP,↓reduceIte];with_reducible and_intros;all_goals first|apply qA|exact qC|skip)
  (refine Ok.ret ?_;(try dsimp only [thenK,blockK,noGotoK]);simp only [toList_mk,List.toList_toArray,retK_ret,retK_normal,resOK,resV,celV,rowV,frzAll,frzT,subV,subL,go_sem,↓dP,↓reduceIte])
  ((repeat' with_reducible apply And.intro)<;>(first | exact DEq.refl _ | refine DEq.int ?_ | refine DEq.bool ?_ | skip))
theorem c_tListed (l:List Int) (v:Int) (hl:l.length < 1000000):Ctr Tryz.prog 22 [ilS l,iS v] (bS (decide (v∈l))):=by
 rw [← any_mem]
 (refine Ctr.mk (fn:=Tryz.f22) rfl rfl rfl rfl rfl Tryz.results22 ?_;intro _;dsimp only [args,List.toList_toArray])
 (first|refine qE ?_|refine qD ?_);(simp only [go_sem,↓dP,↓reduceIte];with_reducible and_intros;all_goals first|apply qA|exact qC|skip)
 refine Ok.seq ?_
 (first|refine qE ?_|refine qD ?_);(simp only [go_sem,↓dP,↓reduceIte];with_reducible and_intros;all_goals first|apply qA|exact qC|skip)
 refine Ok.block ?_
 refine Ok.count l.length (fun i => ⟨[(0,ilS l),(1,iS v),(5,iS i)],[],[]⟩) (fun i => ∀ x∈l.take i,(v == x) = false) ⟨fun x hx => by simp at hx,?_⟩ ?_ ?_
 ·(refine Sub.of ([]) ([]) ?_ ?_ ?_ rfl rfl<;>simp only [subB,subB1,subT,subT1,newT,subE,subV,subL,go_sem,↓dP,↓reduceIte]<;>(try (repeat' with_reducible apply And.intro))<;>(try first | exact DEq.refl _ | refine DEq.int ?_ | refine DEq.bool ?_ | omega))
 ·intro i hi h0
  have hsw:((l.getD i default == v):Bool) = (v == l.getD i default):=by rw [Bool.eq_iff_iff];simp only [beq_iff_eq];exact ⟨Eq.symm,Eq.symm⟩
  refine Ok.seq ?_;((first|refine qE ?_|refine qD ?_);(simp only [go_sem,↓dP,↓reduceIte];with_reducible and_intros;all_goals first|apply qA|exact qC|skip));refine Ok.cond rfl (fun _ => ?_) (fun hb => by simp at hb;omega);(refine Ok.skip ?_;(try dsimp only [thenK,blockK,noGotoK]));refine Ok.seq ?_;refine Ok.block ?_
  (first|refine qE ?_|refine qD ?_);(simp only [go_sem,↓dP,↓reduceIte];with_reducible and_intros;all_goals first|apply qA|exact qC|skip)
  refine Ok.cond rfl ?_ ?_
  ·intro hp
   rw [hsw] at hp
   (first|refine qE ?_|refine qD ?_);(simp only [go_sem,↓dP,↓reduceIte];with_reducible and_intros;all_goals first|apply qA|exact qC|skip)
   (refine Ok.ret ?_;(try dsimp only [thenK,blockK,noGotoK]);simp only [toList_mk,List.toList_toArray,retK_ret,retK_normal,resOK,resV,celV,rowV,frzAll,frzT,subV,subL,go_sem,↓dP,↓reduceIte])
   refine DEq.bool ?_
   rw [List.any_eq_true.2 ⟨_,getD_mem hi,hp⟩]
  ·intro hp
   rw [hsw] at hp
   (refine Ok.skip ?_;(try dsimp only [thenK,blockK,noGotoK]))
   (first|refine qE ?_|refine qD ?_);(simp only [go_sem,↓dP,↓reduceIte];with_reducible and_intros;all_goals first|apply qA|exact qC|skip)
   (try dsimp only [thenK,blockK,noGotoK])
   refine ⟨no_step hi h0 hp,?_⟩
   (refine Sub.of ([]) ([]) ?_ ?_ ?_ rfl rfl<;>simp only [subB,subB1,subT,subT1,newT,subE,subV,subL,go_sem,↓dP,↓reduceIte]<;>(try (repeat' with_reducible apply And.intro))<;>(try first | exact DEq.refl _ | refine DEq.int ?_ | refine DEq.bool ?_ | omega))
 ·intro h0
  refine Ok.seq ?_;((first|refine qE ?_|refine qD ?_);(simp only [go_sem,↓dP,↓reduceIte];with_reducible and_intros;all_goals first|apply qA|exact qC|skip));refine Ok.cond rfl (fun hb => by simp at hb) (fun _ => ?_);(refine Ok.exit ?_;simp only [thenK_exit,blockK_exit,noGotoK_exit,thenK_normal,blockK_normal,noGotoK_normal,↓reduceIte,Nat.reduceEqDiff])
  (first|refine qE ?_|refine qD ?_);(simp only [go_sem,↓dP,↓reduceIte];with_reducible and_intros;all_goals first|apply qA|exact qC|skip)
  (refine Ok.ret ?_;(try dsimp only [thenK,blockK,noGotoK]);simp only [toList_mk,List.toList_toArray,retK_ret,retK_normal,resOK,resV,celV,rowV,frzAll,frzT,subV,subL,go_sem,↓dP,↓reduceIte])
  refine DEq.bool ?_
  rw [List.any_eq_false.2 (fun x hx => by simp [h0 x (by simpa using hx)])]
end Go.Proofs.Leaf
namespace Go.Proofs.Leaf
open Go Go.RX Go.Proofs
set_option maxRecDepth 10000
variable [Glob]
theorem c_rJob (J:Job) (hh:J.held):Ctr Tryz.prog 26 [J.sv] (bS (jobB J)):=by
 have hh1:=hh.1
 have hh2:=hh.2
 (refine Ctr.mk (fn:=Tryz.f26) rfl rfl rfl rfl rfl Tryz.results26 ?_;intro _;dsimp only [args,List.toList_toArray])
 (first|refine qE ?_|refine qD ?_);(simp only [go_sem,↓dP,↓reduceIte];with_reducible and_intros;all_goals first|apply qA|exact qC|skip)
 refine Ok.seq ?_
 (first|refine qE ?_|refine qD ?_);(simp only [go_sem,↓dP,↓reduceIte];with_reducible and_intros;all_goals first|apply qA|exact qC|skip)
 (refine AskI.ret (c_rin _ _ _) ?_;simp only [go_sem,↓dP,↓reduceIte];with_reducible and_intros;all_goals first|apply qA|exact qC|skip)
 (refine AskGI.ret (fun _ => c_rin _ _ _) ?_;simp only [go_sem,↓dP,↓reduceIte];with_reducible and_intros;all_goals first|apply qA|exact qC|skip)
 (refine AskGI.ret (fun _ => c_rin _ _ _) ?_;simp only [go_sem,↓dP,↓reduceIte];with_reducible and_intros;all_goals first|apply qA|exact qC|skip)
 ·intro h
  have:inB J.book 1 25 = true:=by revert h;cases inB J.book 1 25<;>simp
  rw [inB_iff] at this
  exact R64 (by omega) (by omega)
 (refine AskGI.ret (fun _ => c_rin _ _ _) ?_;simp only [go_sem,↓dP,↓reduceIte];with_reducible and_intros;all_goals first|apply qA|exact qC|skip)
 (refine AskGI.ret (fun _ => c_rin _ _ _) ?_;simp only [go_sem,↓dP,↓reduceIte];with_reducible and_intros;all_goals first|apply qA|exact qC|skip)
 (refine AskGI.ret (fun _ => c_rin _ _ _) ?_;simp only [go_sem,↓dP,↓reduceIte];with_reducible and_intros;all_goals first|apply qA|exact qC|skip)
 refine Ok.cond rfl ?_ ?_
 ·intro hb
  (first|refine qE ?_|refine qD ?_);(simp only [go_sem,↓dP,↓reduceIte];with_reducible and_intros;all_goals first|apply qA|exact qC|skip)
  (refine Ok.ret ?_;(try dsimp only [thenK,blockK,noGotoK]);simp only [toList_mk,List.toList_toArray,retK_ret,retK_normal,resOK,resV,celV,rowV,frzAll,frzT,subV,subL,go_sem,↓dP,↓reduceIte])
  refine DEq.bool ?_
  have:headB J = false:=by
   revert hb
   unfold headB
   cases inB J.wide 1 6<;>cases inB J.high 1 6<;>cases inB J.book 1 25<;>cases inB J.spoilt 0 (J.book - 1)<;>cases inB J.gs.length 1 3<;>cases inB J.ps.length 1 5<;>simp
  simp [jobB,this]
 intro hb
 have hhead:headB J = true:=by
  revert hb
  unfold headB
  cases inB J.wide 1 6<;>cases inB J.high 1 6<;>cases inB J.book 1 25<;>cases inB J.spoilt 0 (J.book - 1)<;>cases inB J.gs.length 1 3<;>cases inB J.ps.length 1 5<;>simp
 (refine Ok.skip ?_;(try dsimp only [thenK,blockK,noGotoK]))
 refine Ok.seq ?_
 (first|refine qE ?_|refine qD ?_);(simp only [go_sem,↓dP,↓reduceIte];with_reducible and_intros;all_goals first|apply qA|exact qC|skip)
 refine Ok.block ?_
 refine Ok.count J.gs.length (fun i => ⟨[(1,.p 0 0),(3,iS i)],[jobC J],[]⟩) (fun i => ∀ x∈J.gs.take i,(!groundB x) = false) ⟨fun x hx => by simp at hx,?_⟩ ?_ ?_
 ·(refine Sub.of ([0]) ([]) ?_ ?_ ?_ rfl rfl<;>simp only [subB,subB1,subT,subT1,newT,subE,subV,subL,go_sem,↓dP,↓reduceIte]<;>(try (repeat' with_reducible apply And.intro))<;>(try first | exact DEq.refl _ | refine DEq.int ?_ | refine DEq.bool ?_ | omega))
 ·intro i hi h0
  refine Ok.seq ?_;((first|refine qE ?_|refine qD ?_);(simp only [go_sem,↓dP,↓reduceIte];with_reducible and_intros;all_goals first|apply qA|exact qC|skip));refine Ok.cond rfl (fun _ => ?_) (fun hb => by simp at hb;omega);(refine Ok.skip ?_;(try dsimp only [thenK,blockK,noGotoK]));refine Ok.seq ?_;refine Ok.block ?_
  (first|refine qE ?_|refine qD ?_);(simp only [go_sem,↓dP,↓reduceIte];with_reducible and_intros;all_goals first|apply qA|exact qC|skip)
  (first|refine qE ?_|refine qD ?_);(simp only [go_sem,↓dP,↓reduceIte];with_reducible and_intros;all_goals first|apply qA|exact qC|skip)
  (refine AskI.ret (c_rin _ _ _) ?_;simp only [go_sem,↓dP,↓reduceIte];with_reducible and_intros;all_goals first|apply qA|exact qC|skip)
  (refine AskGI.ret (fun _ => c_rin _ _ _) ?_;simp only [go_sem,↓dP,↓reduceIte];with_reducible and_intros;all_goals first|apply qA|exact qC|skip)
  (refine AskGI.ret (fun _ => c_rin _ _ _) ?_;simp only [go_sem,↓dP,↓reduceIte];with_reducible and_intros;all_goals first|apply qA|exact qC|skip)
  (refine AskGI.ret (fun _ => c_rin _ _ _) ?_;simp only [go_sem,↓dP,↓reduceIte];with_reducible and_intros;all_goals first|apply qA|exact qC|skip)
  have hg:groundB (J.gs.getD i default) = (inB (J.gs.getD i default).rl 0 12 && inB (J.gs.getD i default).rh (J.gs.getD i default).rl 12 && inB (J.gs.getD i default).ll (J.gs.getD i default).rh 12 && inB (J.gs.getD i default).lh (J.gs.getD i default).ll 12):=rfl
  refine Ok.cond rfl ?_ ?_
  ·intro hx
   have hx':(!groundB (J.gs.getD i default)) = true:=by
    rw [hg]
    revert hx
    cases inB (J.gs.getD i default).rl 0 12<;>cases inB (J.gs.getD i default).rh (J.gs.getD i default).rl 12<;>cases inB (J.gs.getD i default).ll (J.gs.getD i default).rh 12<;>cases inB (J.gs.getD i default).lh (J.gs.getD i default).ll 12<;>simp
   (first|refine qE ?_|refine qD ?_);(simp only [go_sem,↓dP,↓reduceIte];with_reducible and_intros;all_goals first|apply qA|exact qC|skip)
   (refine Ok.ret ?_;(try dsimp only [thenK,blockK,noGotoK]);simp only [toList_mk,List.toList_toArray,retK_ret,retK_normal,resOK,resV,celV,rowV,frzAll,frzT,subV,subL,go_sem,↓dP,↓reduceIte])
   refine DEq.bool ?_
   have:J.gs.any (fun g => !groundB g) = true:=List.any_eq_true.2 ⟨_,getD_mem hi,hx'⟩
   rw [jobB,all_any,this];simp
  ·intro hx
   have hx':(!groundB (J.gs.getD i default)) = false:=by
    rw [hg]
    revert hx
    cases inB (J.gs.getD i default).rl 0 12<;>cases inB (J.gs.getD i default).rh (J.gs.getD i default).rl 12<;>cases inB (J.gs.getD i default).ll (J.gs.getD i default).rh 12<;>cases inB (J.gs.getD i default).lh (J.gs.getD i default).ll 12<;>simp
   (refine Ok.skip ?_;(try dsimp only [thenK,blockK,noGotoK]))
   (first|refine qE ?_|refine qD ?_);(simp only [go_sem,↓dP,↓reduceIte];with_reducible and_intros;all_goals first|apply qA|exact qC|skip)
   (try dsimp only [thenK,blockK,noGotoK])
   refine ⟨no_step (q:=fun g => !groundB g) hi h0 hx',?_⟩
   (refine Sub.of ([0]) ([]) ?_ ?_ ?_ rfl rfl<;>simp only [subB,subB1,subT,subT1,newT,subE,subV,subL,go_sem,↓dP,↓reduceIte]<;>(try (repeat' with_reducible apply And.intro))<;>(try first | exact DEq.refl _ | refine DEq.int ?_ | refine DEq.bool ?_ | omega))
 intro h0
 have hgs:J.gs.any (fun g => !groundB g) = false:=List.any_eq_false.2 (fun x hx => by simp [h0 x (by simpa using hx)])
 refine Ok.seq ?_;((first|refine qE ?_|refine qD ?_);(simp only [go_sem,↓dP,↓reduceIte];with_reducible and_intros;all_goals first|apply qA|exact qC|skip));refine Ok.cond rfl (fun hb => by simp at hb) (fun _ => ?_);(refine Ok.exit ?_;simp only [thenK_exit,blockK_exit,noGotoK_exit,thenK_normal,blockK_normal,noGotoK_normal,↓reduceIte,Nat.reduceEqDiff])
 refine Ok.seq ?_
 (first|refine qE ?_|refine qD ?_);(simp only [go_sem,↓dP,↓reduceIte];with_reducible and_intros;all_goals first|apply qA|exact qC|skip)
 refine Ok.block ?_
 refine Ok.count J.ps.length (fun i => ⟨[(1,.p 0 0),(5,iS i)],[jobC J],[]⟩) (fun i => ∀ x∈J.ps.take i,(!pieceB J.gs.length x) = false) ⟨fun x hx => by simp at hx,?_⟩ ?_ ?_
 ·(refine Sub.of ([0]) ([]) ?_ ?_ ?_ rfl rfl<;>simp only [subB,subB1,subT,subT1,newT,subE,subV,subL,go_sem,↓dP,↓reduceIte]<;>(try (repeat' with_reducible apply And.intro))<;>(try first | exact DEq.refl _ | refine DEq.int ?_ | refine DEq.bool ?_ | omega))
 ·intro i hi h0
  refine Ok.seq ?_;((first|refine qE ?_|refine qD ?_);(simp only [go_sem,↓dP,↓reduceIte];with_reducible and_intros;all_goals first|apply qA|exact qC|skip));refine Ok.cond rfl (fun _ => ?_) (fun hb => by simp at hb;omega);(refine Ok.skip ?_;(try dsimp only [thenK,blockK,noGotoK]));refine Ok.seq ?_;refine Ok.block ?_
  (first|refine qE ?_|refine qD ?_);(simp only [go_sem,↓dP,↓reduceIte];with_reducible and_intros;all_goals first|apply qA|exact qC|skip)
  (first|refine qE ?_|refine qD ?_);(simp only [go_sem,↓dP,↓reduceIte];with_reducible and_intros;all_goals first|apply qA|exact qC|skip)
  (refine AskI.ret (c_rin _ _ _) ?_;simp only [go_sem,↓dP,↓reduceIte];with_reducible and_intros;all_goals first|apply qA|exact qC|skip)
  (refine AskGI.ret (fun _ => c_rin _ _ _) ?_;simp only [go_sem,↓dP,↓reduceIte];with_reducible and_intros;all_goals first|apply qA|exact qC|skip)
  (refine AskGI.ret (fun _ => c_rin _ _ _) ?_;simp only [go_sem,↓dP,↓reduceIte];with_reducible and_intros;all_goals first|apply qA|exact qC|skip)
  have hg:pieceB J.gs.length (J.ps.getD i default) = (inB (J.ps.getD i default).w 1 6 && inB (J.ps.getD i default).h 1 6 && inB (J.ps.getD i default).g 0 (J.gs.length - 1)):=rfl
  refine Ok.cond rfl ?_ ?_
  ·intro hx
   have hx':(!pieceB J.gs.length (J.ps.getD i default)) = true:=by
    rw [hg]
    revert hx
    cases inB (J.ps.getD i default).w 1 6<;>cases inB (J.ps.getD i default).h 1 6<;>cases inB (J.ps.getD i default).g 0 (J.gs.length - 1)<;>simp
   (first|refine qE ?_|refine qD ?_);(simp only [go_sem,↓dP,↓reduceIte];with_reducible and_intros;all_goals first|apply qA|exact qC|skip)
   (refine Ok.ret ?_;(try dsimp only [thenK,blockK,noGotoK]);simp only [toList_mk,List.toList_toArray,retK_ret,retK_normal,resOK,resV,celV,rowV,frzAll,frzT,subV,subL,go_sem,↓dP,↓reduceIte])
   refine DEq.bool ?_
   have:J.ps.any (fun p => !pieceB J.gs.length p) = true:=List.any_eq_true.2 ⟨_,getD_mem hi,hx'⟩
   rw [jobB,all_any J.ps,this];simp
  ·intro hx
   have hx':(!pieceB J.gs.length (J.ps.getD i default)) = false:=by
    rw [hg]
    revert hx
    cases inB (J.ps.getD i default).w 1 6<;>cases inB (J.ps.getD i default).h 1 6<;>cases inB (J.ps.getD i default).g 0 (J.gs.length - 1)<;>simp
   (refine Ok.skip ?_;(try dsimp only [thenK,blockK,noGotoK]))
   (first|refine qE ?_|refine qD ?_);(simp only [go_sem,↓dP,↓reduceIte];with_reducible and_intros;all_goals first|apply qA|exact qC|skip)
   (try dsimp only [thenK,blockK,noGotoK])
   refine ⟨no_step (q:=fun p => !pieceB J.gs.length p) hi h0 hx',?_⟩
   (refine Sub.of ([0]) ([]) ?_ ?_ ?_ rfl rfl<;>simp only [subB,subB1,subT,subT1,newT,subE,subV,subL,go_sem,↓dP,↓reduceIte]<;>(try (repeat' with_reducible apply And.intro))<;>(try first | exact DEq.refl _ | refine DEq.int ?_ | refine DEq.bool ?_ | omega))
 ·intro h0
  have hps:J.ps.any (fun p => !pieceB J.gs.length p) = false:=List.any_eq_false.2 (fun x hx => by simp [h0 x (by simpa using hx)])
  refine Ok.seq ?_;((first|refine qE ?_|refine qD ?_);(simp only [go_sem,↓dP,↓reduceIte];with_reducible and_intros;all_goals first|apply qA|exact qC|skip));refine Ok.cond rfl (fun hb => by simp at hb) (fun _ => ?_);(refine Ok.exit ?_;simp only [thenK_exit,blockK_exit,noGotoK_exit,thenK_normal,blockK_normal,noGotoK_normal,↓reduceIte,Nat.reduceEqDiff])
  (first|refine qE ?_|refine qD ?_);(simp only [go_sem,↓dP,↓reduceIte];with_reducible and_intros;all_goals first|apply qA|exact qC|skip)
  (refine Ok.ret ?_;(try dsimp only [thenK,blockK,noGotoK]);simp only [toList_mk,List.toList_toArray,retK_ret,retK_normal,resOK,resV,celV,rowV,frzAll,frzT,subV,subL,go_sem,↓dP,↓reduceIte])
  refine DEq.bool ?_
  rw [jobB,hhead,all_any,all_any,hgs,hps]
  rfl
end Go.Proofs.Leaf
namespace Go.Proofs.Leaf
open Go Go.RX Go.Proofs
set_option maxRecDepth 10000
variable [Glob]
theorem asI_append (L M:List Nat):asI (L ++ M) = asI L ++ asI M:=by simp
theorem append_D {α:Type} [Inhabited α] {f:α->Nat->DV} {o p:List α} {k:Nat}:∀ a c,a < o.length + p.length->c < k->DEq (if a < o.length then f (o.getD a default) c else f (p.getD (a - o.length) default) c) (f ((o ++ p).getD a default) c):=by
 intro a c _ _
 by_cases h:a < o.length
 ·rw [if_pos h,List.getD_eq_getElem?_getD (l:=o ++ p),List.getElem?_append_left h,← List.getD_eq_getElem?_getD];exact .refl _
 ·rw [if_neg h,List.getD_eq_getElem?_getD (l:=o ++ p),List.getElem?_append_right (by omega),← List.getD_eq_getElem?_getD];exact .refl _
theorem flatMap_le {α:Type} {n m:Nat} (h:n<=m) (f:Nat->List α):((List.range n).flatMap f).length<=((List.range m).flatMap f).length:=by
 obtain ⟨d,rfl⟩:∃ d,m = n + d:=⟨m - n,by omega⟩
 rw [List.range_add,List.flatMap_append,List.length_append]
 omega
def lisL (L:List (List Nat)):List (List Int):=L.map asI
end Go.Proofs.Leaf
namespace Go.Proofs.Leaf
open Go Go.RX Go.Proofs
set_option maxRecDepth 10000
variable [Glob]
theorem lisL_at {L:List (List Nat)} {i:Nat} (h:i < L.length):(lisL L).getD i default = asI (L.getD i default):=by
 simp [lisL,List.getD_eq_getElem?_getD,h]
theorem lisL_len (L:List (List Nat)):(lisL L).length = L.length:=by simp [lisL]
end Go.Proofs.Leaf
namespace Go.Proofs.Leaf
open Go Go.RX Go.Proofs
set_option maxRecDepth 10000
variable [Glob]
theorem asI_in (L:List Nat) (i:Nat):((i:Int)∈asI L) ↔ i∈L:=by
 constructor
 ·intro h
  obtain ⟨y,hy,e⟩:=asI_mem h
  have:i = y:=by omega
  subst this;exact hy
 ·intro h;exact List.mem_map.2 ⟨i,h,rfl⟩
def optS (J:Job) (left:List Int) (may:Bool) (i:Nat):Option (Int×Int):=if (i:Int)∈left then none else some (J.span may i)
def restS (J:Job) (left:List Int) (may:Bool) (i k:Nat):List (Option (Int×Int)):=(List.range' i k).map (optS J left may)
theorem findSome_no {α β:Type} [Inhabited α] {f:α->Option β} {l:List α} (h0:∀ j,j < l.length->f (l.getD j default) = none):l.findSome? f = none:=by
 induction l with
 | nil => rfl
 | cons a l ih =>
  rw [List.findSome?_cons]
  have:=h0 0 (by simp)
  simp only [List.getD_cons_zero] at this
  rw [this]
  exact ih (fun j hj => by simpa using h0 (j + 1) (by simpa using hj))
theorem hoursL_len (a b:Int):(hoursL a b).length = (b + 1 - a).toNat:=by simp [hoursL]
theorem hoursL_at {a b:Int} {j:Nat} (h:j < (b + 1 - a).toNat):(hoursL a b).getD j default = a + j:=by
 simp [hoursL,List.getD_eq_getElem?_getD,h]
end Go.Proofs.Leaf
namespace Go.Proofs.Leaf
open Go Go.RX Go.Proofs
set_option maxRecDepth 10000
variable [Glob]
theorem snocI {now : List Int} {n : Int} : DEq (.sl 1 (now.length + 1) (fun i c => if i < now.length then intD (now.getD i default) c else dget [.int .i64 n] ((i - now.length) * 1 + c))) (slD 1 intD (now ++ [n])) :=
  DEq.sl (by simp) (fun i j hi hj => snoc_D (fun c hc => by have : c = 0 := by omega
                                                            subst this; rfl) i j hi hj)
theorem restS_succ (J:Job) (left:List Int) (may:Bool) (i k:Nat):restS J left may i (k + 1) = optS J left may i :: restS J left may (i + 1) k:=by
 unfold restS
 rw [List.range'_succ];rfl
set_option maxHeartbeats 1000000 in
theorem c_rfirst (J:Job) (hJ:J.based) (ht:J.timed) (hn:J.ps.length<=100) (left:List Int) (hl:left.length < 1000) (may:Bool):∀ (k:Nat) (now:List Int),now.length + k = J.ps.length ->
  Ctr Tryz.prog 109 [J.sv,ilS now,ilS left,bS may] (optR (firstR (restS J left may now.length k) now))
 | 0,now,hk => by
  have hc:((now.length:Int) == J.ps.length) = true:=by simp;omega
  (refine Ctr.mk (fn:=Tryz.f109) rfl rfl rfl rfl rfl Tryz.results109 ?_;intro _;dsimp only [args,List.toList_toArray])
  (first|refine qE ?_|refine qD ?_);(simp only [go_sem,↓dP,↓reduceIte];with_reducible and_intros;all_goals first|apply qA|exact qC|skip)
  (first|refine qE ?_|refine qD ?_);(simp only [go_sem,↓dP,↓reduceIte];with_reducible and_intros;all_goals first|apply qA|exact qC|skip)
  refine Ok.seq ?_
  (first|refine qE ?_|refine qD ?_);(simp only [go_sem,↓dP,↓reduceIte];with_reducible and_intros;all_goals first|apply qA|exact qC|skip)
  rw [hc]
  refine Ok.cond (b:=true) (by first | rfl | (simp only [go_sem,↓dP,↓reduceIte];rfl)) (fun _ => ?_) (fun hb => by cases hb)
  (first|refine qE ?_|refine qD ?_);(simp only [go_sem,↓dP,↓reduceIte];with_reducible and_intros;all_goals first|apply qA|exact qC|skip)
  (refine Ok.ret ?_;(try dsimp only [thenK,blockK,noGotoK]);simp only [toList_mk,List.toList_toArray,retK_ret,retK_normal,resOK,resV,celV,rowV,frzAll,frzT,subV,subL,go_sem,↓dP,↓reduceIte])
  exact ⟨.refl _,.refl _⟩
 | k + 1,now,hk => by
  have hc:((now.length:Int) == J.ps.length) = false:=by simp;omega
  have hlt:now.length < J.ps.length:=by omega
  have hpg:=J.ps.getD now.length default
  have htm:=ht _ (getD_mem hlt) may
  have a1:=c_tListed left (now.length:Int) (by omega)
  have a2:=c_rHours J hJ now.length (by omega) (by omega) may
  have hsp:J.span may (now.length:Int) = spanOf J.gs may (J.ps.getD now.length default):=rfl
  rw [← hsp] at htm
  have a3:∀ n:Int,Ctr Tryz.prog 109 [J.sv,.d (.sl 1 (now.length + 1) (fun i c => if i < now.length then intD (now.getD i default) c else dget [.int .i64 n] ((i - now.length) * 1 + c))),ilS left,bS may] (optR (firstR (restS J left may (now.length + 1) k) (now ++ [n]))):=fun n => by
   have ih:=c_rfirst J hJ ht hn left hl may k (now ++ [n]) (by simp;omega)
   rw [show (now ++ [n]).length = now.length + 1 by simp] at ih
   exact ih.args ⟨⟨.refl _,.refl _,.refl _,.refl _,.refl _,.refl _,trivial⟩,snocI,.refl _,.refl _,trivial⟩
  rw [restS_succ]
  (refine Ctr.mk (fn:=Tryz.f109) rfl rfl rfl rfl rfl Tryz.results109 ?_;intro _;dsimp only [args,List.toList_toArray])
  (first|refine qE ?_|refine qD ?_);(simp only [go_sem,↓dP,↓reduceIte];with_reducible and_intros;all_goals first|apply qA|exact qC|skip)
  (first|refine qE ?_|refine qD ?_);(simp only [go_sem,↓dP,↓reduceIte];with_reducible and_intros;all_goals first|apply qA|exact qC|skip)
  refine Ok.seq ?_
  (first|refine qE ?_|refine qD ?_);(simp only [go_sem,↓dP,↓reduceIte];with_reducible and_intros;all_goals first|apply qA|exact qC|skip)
  rw [hc]
  refine Ok.cond (b:=false) (by first | rfl | (simp only [go_sem,↓dP,↓reduceIte];rfl)) (fun hb => by cases hb) (fun _ => ?_)
  (refine Ok.skip ?_;(try dsimp only [thenK,blockK,noGotoK]))
  refine Ok.seq ?_
  (first|refine qE ?_|refine qD ?_);(simp only [go_sem,↓dP,↓reduceIte];with_reducible and_intros;all_goals first|apply qA|exact qC|skip)
  (refine AskI.ret (a1) ?_;simp only [go_sem,↓dP,↓reduceIte];with_reducible and_intros;all_goals first|apply qA|exact qC|skip)
  refine Ok.cond rfl ?_ ?_
  ·intro hm
   have hm':(now.length:Int)∈left:=by simpa using hm
   have ho:optS J left may now.length = none:=if_pos hm'
   rw [ho,firstR]
   (first|refine qE ?_|refine qD ?_);(simp only [go_sem,↓dP,↓reduceIte];with_reducible and_intros;all_goals first|apply qA|exact qC|skip)
   (refine AskI.ret (a3 (-1)) ?_;simp only [go_sem,↓dP,↓reduceIte];with_reducible and_intros;all_goals first|apply qA|exact qC|skip)
   (refine Ok.ret ?_;(try dsimp only [thenK,blockK,noGotoK]);simp only [toList_mk,List.toList_toArray,retK_ret,retK_normal,resOK,resV,celV,rowV,frzAll,frzT,subV,subL,go_sem,↓dP,↓reduceIte])
   exact ⟨.refl _,.refl _⟩
  ·intro hm
   have hm':¬ (now.length:Int)∈left:=by simpa using hm
   have ho:optS J left may now.length = some (J.span may (now.length:Int)):=if_neg hm'
   rw [ho]
   generalize J.span may (now.length:Int) = sp at a2 htm
   obtain ⟨lo,hi⟩:=sp
   dsimp only at htm
   rw [firstR]
   generalize hR:restS J left may (now.length + 1) k = R at a3
   have hlh:=hoursL_len lo hi
   (refine Ok.skip ?_;(try dsimp only [thenK,blockK,noGotoK]))
   (first|refine qE ?_|refine qD ?_);(simp only [go_sem,↓dP,↓reduceIte];with_reducible and_intros;all_goals first|apply qA|exact qC|skip)
   (refine AskI.ret (a2) ?_;simp only [go_sem,↓dP,↓reduceIte];with_reducible and_intros;all_goals first|apply qA|exact qC|skip)
   refine Ok.seq ?_
   (first|refine qE ?_|refine qD ?_);(simp only [go_sem,↓dP,↓reduceIte];with_reducible and_intros;all_goals first|apply qA|exact qC|skip)
   refine Ok.block ?_
   refine Ok.count (hi + 1 - lo).toNat (fun j => ⟨[(1,ilS now),(2,ilS left),(3,bS may),(4,.p 0 0),(10,iS now.length),(11,.p 1 0),(12,iS (lo + j))],[jobC J,{ frz:=false,xs:=[iS lo,iS hi] }],[]⟩) (fun j => ∀ i,i < j->(if (hoursL lo hi).getD i default∈now then none else firstR R (now ++ [(hoursL lo hi).getD i default])) = none) ⟨fun i hi => by omega,?_⟩ ?_ ?_
   ·(refine Sub.of ([0,1]) ([]) ?_ ?_ ?_ rfl rfl<;>simp only [subB,subB1,subT,subT1,newT,subE,subV,subL,go_sem,↓dP,↓reduceIte]<;>(try (repeat' with_reducible apply And.intro))<;>(try first | exact DEq.refl _ | refine DEq.int ?_ | refine DEq.bool ?_ | omega))
    simp
   ·intro j hj hJ2
    have hh:=hoursL_at hj
    have a4:=c_tListed now (lo + j) (by omega)
    refine Ok.seq ?_;((first|refine qE ?_|refine qD ?_);(simp only [go_sem,↓dP,↓reduceIte];with_reducible and_intros;all_goals first|apply qA|exact qC|skip));refine Ok.cond rfl (fun _ => ?_) (fun hb => by simp at hb;omega);(refine Ok.skip ?_;(try dsimp only [thenK,blockK,noGotoK]));refine Ok.seq ?_;refine Ok.block ?_
    refine Ok.seq ?_
    (first|refine qE ?_|refine qD ?_);(simp only [go_sem,↓dP,↓reduceIte];with_reducible and_intros;all_goals first|apply qA|exact qC|skip)
    (refine AskI.ret (a4) ?_;simp only [go_sem,↓dP,↓reduceIte];with_reducible and_intros;all_goals first|apply qA|exact qC|skip)
    refine Ok.cond rfl ?_ ?_
    ·intro hc2
     have hc3:(lo + (j:Int))∈now:=by simpa using hc2
     (refine Ok.exit ?_;simp only [thenK_exit,blockK_exit,noGotoK_exit,thenK_normal,blockK_normal,noGotoK_normal,↓reduceIte,Nat.reduceEqDiff])
     (first|refine qE ?_|refine qD ?_);(simp only [go_sem,↓dP,↓reduceIte];with_reducible and_intros;all_goals first|apply qA|exact qC|skip)
     (try dsimp only [thenK,blockK,noGotoK])
     refine ⟨fun i hi2 => ?_,?_⟩
     ·by_cases e:i = j
      ·subst e;rw [hh,if_pos hc3]
      ·exact hJ2 i (by omega)
     (refine Sub.of ([0,1]) ([]) ?_ ?_ ?_ rfl rfl<;>simp only [subB,subB1,subT,subT1,newT,subE,subV,subL,go_sem,↓dP,↓reduceIte]<;>(try (repeat' with_reducible apply And.intro))<;>(try first | exact DEq.refl _ | refine DEq.int ?_ | refine DEq.bool ?_ | omega))
     omega
    ·intro hc2
     have hc3:¬ (lo + (j:Int))∈now:=by simpa using hc2
     (refine Ok.skip ?_;(try dsimp only [thenK,blockK,noGotoK]))
     (first|refine qE ?_|refine qD ?_);(simp only [go_sem,↓dP,↓reduceIte];with_reducible and_intros;all_goals first|apply qA|exact qC|skip)
     (refine AskI.ret (a3 (lo + j)) ?_;simp only [go_sem,↓dP,↓reduceIte];with_reducible and_intros;all_goals first|apply qA|exact qC|skip)
     (first|refine qE ?_|refine qD ?_);(simp only [go_sem,↓dP,↓reduceIte];with_reducible and_intros;all_goals first|apply qA|exact qC|skip)
     refine Ok.cond rfl ?_ ?_
     ·intro hs
      obtain ⟨y,hy⟩:∃ y,firstR R (now ++ [lo + (j:Int)]) = some y:=Option.isSome_iff_exists.1 (by simpa using hs)
      have hso:(hoursL lo hi).findSome? (fun h => if h∈now then none else firstR R (now ++ [h])) = some y:=findSome_at (by rw [hlh];exact hj) hJ2 (by rw [hh,if_neg hc3,hy])
      rw [hso,hy]
      (first|refine qE ?_|refine qD ?_);(simp only [go_sem,↓dP,↓reduceIte];with_reducible and_intros;all_goals first|apply qA|exact qC|skip)
      (refine Ok.ret ?_;(try dsimp only [thenK,blockK,noGotoK]);simp only [toList_mk,List.toList_toArray,retK_ret,retK_normal,resOK,resV,celV,rowV,frzAll,frzT,subV,subL,go_sem,↓dP,↓reduceIte])
      exact ⟨.refl _,.refl _⟩
     ·intro hs
      have hy:firstR R (now ++ [lo + (j:Int)]) = none:=by simpa using hs
      (refine Ok.skip ?_;(try dsimp only [thenK,blockK,noGotoK]))
      (first|refine qE ?_|refine qD ?_);(simp only [go_sem,↓dP,↓reduceIte];with_reducible and_intros;all_goals first|apply qA|exact qC|skip)
      (try dsimp only [thenK,blockK,noGotoK])
      refine ⟨fun i hi2 => ?_,?_⟩
      ·by_cases e:i = j
       ·subst e;rw [hh,if_neg hc3,hy]
       ·exact hJ2 i (by omega)
      (refine Sub.of ([0,1]) ([]) ?_ ?_ ?_ rfl rfl<;>simp only [subB,subB1,subT,subT1,newT,subE,subV,subL,go_sem,↓dP,↓reduceIte]<;>(try (repeat' with_reducible apply And.intro))<;>(try first | exact DEq.refl _ | refine DEq.int ?_ | refine DEq.bool ?_ | omega))
      omega
   ·intro hJ2
    have hno:(hoursL lo hi).findSome? (fun h => if h∈now then none else firstR R (now ++ [h])) = none:=findSome_no (fun j hj => hJ2 j (by omega))
    rw [hno]
    refine Ok.seq ?_;((first|refine qE ?_|refine qD ?_);(simp only [go_sem,↓dP,↓reduceIte];with_reducible and_intros;all_goals first|apply qA|exact qC|skip));refine Ok.cond rfl (fun hb => by simp at hb;omega) (fun _ => ?_);(refine Ok.exit ?_;simp only [thenK_exit,blockK_exit,noGotoK_exit,thenK_normal,blockK_normal,noGotoK_normal,↓reduceIte,Nat.reduceEqDiff])
    (first|refine qE ?_|refine qD ?_);(simp only [go_sem,↓dP,↓reduceIte];with_reducible and_intros;all_goals first|apply qA|exact qC|skip)
    (refine Ok.ret ?_;(try dsimp only [thenK,blockK,noGotoK]);simp only [toList_mk,List.toList_toArray,retK_ret,retK_normal,resOK,resV,celV,rowV,frzAll,frzT,subV,subL,go_sem,↓dP,↓reduceIte])
    exact ⟨DEq.nils rfl,.refl _⟩
end Go.Proofs.Leaf
namespace Go.Proofs.Leaf
open Go Go.RX Go.Proofs
set_option maxRecDepth 10000
variable [Glob]
def boundK (J:Job) (lo hi:Int) (k:Nat):List Nat:=(List.range k).filter (fun i => decide (lo<=(J.span false i).1) && decide ((J.span false i).2<=hi))
theorem boundK_succ (J:Job) (lo hi:Int) (k:Nat):asI (boundK J lo hi (k + 1)) = asI (boundK J lo hi k) ++ (if (decide (lo<=(J.span false k).1) && decide ((J.span false k).2<=hi)) = true then [(k:Int)] else []):=by
 unfold boundK
 rw [List.range_succ,List.filter_append,asI_append]
 by_cases h:(decide (lo<=(J.span false k).1) && decide ((J.span false k).2<=hi)) = true
 ·rw [if_pos h,List.filter_cons,if_pos h,List.filter_nil];rfl
 ·rw [if_neg h,List.filter_cons,if_neg h,List.filter_nil];rfl
theorem boundK_all (J:Job) (lo hi:Int):boundK J lo hi J.ps.length = boundL (spans J false) lo hi:=by
 unfold boundK boundL
 rw [spans_len]
 refine List.filter_congr (fun i hi => ?_)
 rw [span_at J false (List.mem_range.1 hi)]
theorem c_rWithin (J : Job) (hJ : J.based) (lo up : Int) : Ctr Tryz.prog 30 [J.sv, spS (lo, up)] (ilS (asI (boundL (spans J false) lo up))) := by
  have hpl := hJ.pl
  rw [← boundK_all]
  (refine Ctr.mk (fn := Tryz.f30) rfl rfl rfl rfl rfl Tryz.results30 ?_; intro _; dsimp only [args, List.toList_toArray])
  (first|refine qE ?_|refine qD ?_);(simp only [go_sem,↓dP,↓reduceIte];with_reducible and_intros;all_goals first|apply qA|exact qC|skip)
  (first|refine qE ?_|refine qD ?_);(simp only [go_sem,↓dP,↓reduceIte];with_reducible and_intros;all_goals first|apply qA|exact qC|skip)
  refine Ok.seq ?_
  (first|refine qE ?_|refine qD ?_);(simp only [go_sem,↓dP,↓reduceIte];with_reducible and_intros;all_goals first|apply qA|exact qC|skip)
  refine Ok.block ?_
  refine Ok.count J.ps.length (fun i => ⟨[(2, .p 0 0), (3, .p 1 0), (5, .tk 0), (6, iS i)], [jobC J, { frz := false, xs := [iS lo, iS up] }], [ownD 3 1 intD (asI (boundK J lo up i))]⟩) (fun _ => True) ⟨trivial, ?_⟩ ?_ ?_
  · (refine Sub.of ([0, 1]) ([none]) ?_ ?_ ?_ rfl rfl <;> simp only [subB, subB1, subT, subT1, newT, subE, subV, subL, go_sem,↓dP,↓reduceIte] <;> (try (repeat' with_reducible apply And.intro)) <;> (try first | exact DEq.refl _ | refine DEq.int ?_ | refine DEq.bool ?_ | omega))
    simp [boundK]
  · intro i hi _
    have hlen : (asI (boundK J lo up i)).length ≤ i := by
      rw [asI_len]
      exact Nat.le_trans (List.length_filter_le _ _) (by simp)
    have hsn := boundK_succ J lo up i
    refine Ok.seq ?_; ((first|refine qE ?_|refine qD ?_);(simp only [go_sem,↓dP,↓reduceIte];with_reducible and_intros;all_goals first|apply qA|exact qC|skip)); refine Ok.cond rfl (fun _ => ?_) (fun hb => by simp at hb; omega); (refine Ok.skip ?_; (try dsimp only [thenK, blockK, noGotoK])); refine Ok.seq ?_; refine Ok.block ?_
    (first|refine qE ?_|refine qD ?_);(simp only [go_sem,↓dP,↓reduceIte];with_reducible and_intros;all_goals first|apply qA|exact qC|skip)
    (refine AskI.ret (c_rHours J hJ i (by omega) (by omega) false) ?_; simp only [go_sem,↓dP,↓reduceIte];with_reducible and_intros;all_goals first|apply qA|exact qC|skip)
    refine Ok.seq ?_
    (first|refine qE ?_|refine qD ?_);(simp only [go_sem,↓dP,↓reduceIte];with_reducible and_intros;all_goals first|apply qA|exact qC|skip)
    refine Ok.cond rfl ?_ ?_
    · intro hb
      rw [if_pos hb] at hsn
      (first|refine qE ?_|refine qD ?_);(simp only [go_sem,↓dP,↓reduceIte];with_reducible and_intros;all_goals first|apply qA|exact qC|skip)
      (try dsimp only [thenK, blockK, noGotoK])
      (first|refine qE ?_|refine qD ?_);(simp only [go_sem,↓dP,↓reduceIte];with_reducible and_intros;all_goals first|apply qA|exact qC|skip)
      (try dsimp only [thenK, blockK, noGotoK])
      refine ⟨trivial, ?_⟩
      rw [hsn]
      (refine Sub.of ([0, 1]) ([some 1]) ?_ ?_ ?_ rfl rfl <;> simp only [subB, subB1, subT, subT1, newT, subE, subV, subL, go_sem,↓dP,↓reduceIte] <;> (try (repeat' with_reducible apply And.intro)) <;> (try first | exact DEq.refl _ | refine DEq.int ?_ | refine DEq.bool ?_ | omega))
      · simp
      · exact snoc_D (fun c hc => by have : c = 0 := by omega
                                     subst this; rfl)
    · intro hb
      rw [if_neg (by rw [hb]; simp), List.append_nil] at hsn
      (refine Ok.skip ?_; (try dsimp only [thenK, blockK, noGotoK]))
      (try dsimp only [thenK, blockK, noGotoK])
      (first|refine qE ?_|refine qD ?_);(simp only [go_sem,↓dP,↓reduceIte];with_reducible and_intros;all_goals first|apply qA|exact qC|skip)
      (try dsimp only [thenK, blockK, noGotoK])
      refine ⟨trivial, ?_⟩
      rw [hsn]
      (refine Sub.of ([0, 1]) ([some 0]) ?_ ?_ ?_ rfl rfl <;> simp only [subB, subB1, subT, subT1, newT, subE, subV, subL, go_sem,↓dP,↓reduceIte] <;> (try (repeat' with_reducible apply And.intro)) <;> (try first | exact DEq.refl _ | refine DEq.int ?_ | refine DEq.bool ?_ | omega))
      exact fun _ _ _ _ => DEq.refl _
  · intro _
    refine Ok.seq ?_; ((first|refine qE ?_|refine qD ?_);(simp only [go_sem,↓dP,↓reduceIte];with_reducible and_intros;all_goals first|apply qA|exact qC|skip)); refine Ok.cond rfl (fun hb => by simp at hb) (fun _ => ?_); (refine Ok.exit ?_; simp only [thenK_exit, blockK_exit, noGotoK_exit, thenK_normal, blockK_normal, noGotoK_normal, ↓reduceIte, Nat.reduceEqDiff])
    (first|refine qE ?_|refine qD ?_);(simp only [go_sem,↓dP,↓reduceIte];with_reducible and_intros;all_goals first|apply qA|exact qC|skip)
    (refine Ok.ret ?_; (try dsimp only [thenK, blockK, noGotoK]); simp only [toList_mk, List.toList_toArray, retK_ret, retK_normal, resOK, resV, celV, rowV, frzAll, frzT, subV, subL, go_sem,↓dP,↓reduceIte])
    exact .refl _
theorem c_rProof (J:Job) (hJ:J.based):Ctr Tryz.prog 29 [J.sv] (.tup [spS ((proofL (spans J false)).getD (0,0)),bS (proofL (spans J false)).isSome]):=by
 have hpl:=hJ.pl
 generalize hS:spans J false = sp
 have hb:∀ lo hi,(boundL sp lo hi).length<=J.ps.length:=fun lo hi => by
  unfold boundL
  refine Nat.le_trans (List.length_filter_le _ _) ?_
  rw [List.length_range,← hS,spans_len];exact Nat.le_refl _
 (refine Ctr.mk (fn:=Tryz.f29) rfl rfl rfl rfl rfl Tryz.results29 ?_;intro _;dsimp only [args,List.toList_toArray])
 (first|refine qE ?_|refine qD ?_);(simp only [go_sem,↓dP,↓reduceIte];with_reducible and_intros;all_goals first|apply qA|exact qC|skip)
 refine Ok.seq ?_
 (first|refine qE ?_|refine qD ?_);(simp only [go_sem,↓dP,↓reduceIte];with_reducible and_intros;all_goals first|apply qA|exact qC|skip)
 refine Ok.block ?_
 refine Ok.count 13 (fun m => ⟨[(1,.p 0 0),(2,.p 1 0),(4,iS (m + 1))],[jobC J,{ frz:=false,xs:=[iS 0,iS 0] }],[]⟩) (fun m => ∀ m' l':Nat,m' < m->l' < 13 - m'->fewB sp (l',(l':Int) + m') = false) ⟨fun m' l' hm => by omega,?_⟩ ?_ ?_
 ·(refine Sub.of ([0,1]) ([]) ?_ ?_ ?_ rfl rfl<;>simp only [subB,subB1,subT,subT1,newT,subE,subV,subL,go_sem,↓dP,↓reduceIte]<;>(try (repeat' with_reducible apply And.intro))<;>(try first | exact DEq.refl _ | refine DEq.int ?_ | refine DEq.bool ?_ | omega))
 ·intro m hm hJ2
  refine Ok.seq ?_;((first|refine qE ?_|refine qD ?_);(simp only [go_sem,↓dP,↓reduceIte];with_reducible and_intros;all_goals first|apply qA|exact qC|skip));refine Ok.cond rfl (fun _ => ?_) (fun hb => by simp at hb;omega);(refine Ok.skip ?_;(try dsimp only [thenK,blockK,noGotoK]));refine Ok.seq ?_;refine Ok.block ?_
  (first|refine qE ?_|refine qD ?_);(simp only [go_sem,↓dP,↓reduceIte];with_reducible and_intros;all_goals first|apply qA|exact qC|skip)
  refine Ok.block ?_
  refine Ok.count (13 - m) (fun l => ⟨[(1,.p 0 0),(2,.p 1 0),(4,iS (m + 1)),(5,iS l)],[jobC J,{ frz:=false,xs:=[iS 0,iS 0] }],[]⟩) (fun l => ∀ l':Nat,l' < l->fewB sp (l',(l':Int) + m) = false) ⟨fun l' hl => by omega,?_⟩ ?_ ?_
  ·(refine Sub.of ([0,1]) ([]) ?_ ?_ ?_ rfl rfl<;>simp only [subB,subB1,subT,subT1,newT,subE,subV,subL,go_sem,↓dP,↓reduceIte]<;>(try (repeat' with_reducible apply And.intro))<;>(try first | exact DEq.refl _ | refine DEq.int ?_ | refine DEq.bool ?_ | omega))
  ·intro l hl hJ3
   have e1:(l:Int) + (m + 1) - 1 = l + m:=by omega
   have a1:=c_rWithin J hJ l (l + m)
   rw [hS] at a1
   have hbl:=hb l (l + m)
   have hfw:fewB sp (l,(l:Int) + m) = decide ((m:Int) + 1 < (boundL sp l (l + m)).length):=by
    unfold fewB
    dsimp only
    rw [show (l:Int) + m - l + 1 = m + 1 by omega]
   refine Ok.seq ?_;((first|refine qE ?_|refine qD ?_);(simp only [go_sem,↓dP,↓reduceIte];with_reducible and_intros;all_goals first|apply qA|exact qC|skip));refine Ok.cond rfl (fun _ => ?_) (fun hb => by simp at hb;omega);(refine Ok.skip ?_;(try dsimp only [thenK,blockK,noGotoK]));refine Ok.seq ?_;refine Ok.block ?_
   refine Ok.seq ?_
   (first|refine qE ?_|refine qD ?_);(simp only [go_sem,↓dP,↓reduceIte];with_reducible and_intros;all_goals first|apply qA|exact qC|skip)
   rw [e1]
   (first|refine qE ?_|refine qD ?_);(simp only [go_sem,↓dP,↓reduceIte];with_reducible and_intros;all_goals first|apply qA|exact qC|skip)
   (refine AskI.ret (a1) ?_;simp only [go_sem,↓dP,↓reduceIte];with_reducible and_intros;all_goals first|apply qA|exact qC|skip)
   rw [asI_len]
   refine Ok.cond rfl ?_ ?_
   ·intro hc
    have hf:fewB sp (l,(l:Int) + m) = true:=by rw [hfw];exact hc
    rw [proofL_yes hm hl hJ2 hJ3 hf]
    (first|refine qE ?_|refine qD ?_);(simp only [go_sem,↓dP,↓reduceIte];with_reducible and_intros;all_goals first|apply qA|exact qC|skip)
    (refine Ok.ret ?_;(try dsimp only [thenK,blockK,noGotoK]);simp only [toList_mk,List.toList_toArray,retK_ret,retK_normal,resOK,resV,celV,rowV,frzAll,frzT,subV,subL,go_sem,↓dP,↓reduceIte])
    exact ⟨⟨.refl _,.refl _⟩,.refl _⟩
   ·intro hc
    have hf:fewB sp (l,(l:Int) + m) = false:=by rw [hfw];exact hc
    (refine Ok.skip ?_;(try dsimp only [thenK,blockK,noGotoK]))
    (first|refine qE ?_|refine qD ?_);(simp only [go_sem,↓dP,↓reduceIte];with_reducible and_intros;all_goals first|apply qA|exact qC|skip)
    (try dsimp only [thenK,blockK,noGotoK])
    refine ⟨fun l' hl' => ?_,?_⟩
    ·by_cases e:l' = l
     ·subst e;exact hf
     ·exact hJ3 l' (by omega)
    (refine Sub.of ([0,1]) ([]) ?_ ?_ ?_ rfl rfl<;>simp only [subB,subB1,subT,subT1,newT,subE,subV,subL,go_sem,↓dP,↓reduceIte]<;>(try (repeat' with_reducible apply And.intro))<;>(try first | exact DEq.refl _ | refine DEq.int ?_ | refine DEq.bool ?_ | omega))
  ·intro hJ3
   refine Ok.seq ?_;((first|refine qE ?_|refine qD ?_);(simp only [go_sem,↓dP,↓reduceIte];with_reducible and_intros;all_goals first|apply qA|exact qC|skip));refine Ok.cond rfl (fun hb => by simp at hb;omega) (fun _ => ?_);(refine Ok.exit ?_;simp only [thenK_exit,blockK_exit,noGotoK_exit,thenK_normal,blockK_normal,noGotoK_normal,↓reduceIte,Nat.reduceEqDiff])
   (try dsimp only [thenK,blockK,noGotoK])
   (first|refine qE ?_|refine qD ?_);(simp only [go_sem,↓dP,↓reduceIte];with_reducible and_intros;all_goals first|apply qA|exact qC|skip)
   (try dsimp only [thenK,blockK,noGotoK])
   refine ⟨fun m' l' hm' hl' => ?_,?_⟩
   ·by_cases e:m' = m
    ·subst e;exact hJ3 l' hl'
    ·exact hJ2 m' l' (by omega) hl'
   (refine Sub.of ([0,1]) ([]) ?_ ?_ ?_ rfl rfl<;>simp only [subB,subB1,subT,subT1,newT,subE,subV,subL,go_sem,↓dP,↓reduceIte]<;>(try (repeat' with_reducible apply And.intro))<;>(try first | exact DEq.refl _ | refine DEq.int ?_ | refine DEq.bool ?_ | omega))
 ·intro hJ2
  rw [proofL_no (fun m l hm hl => hJ2 m l hm hl)]
  refine Ok.seq ?_;((first|refine qE ?_|refine qD ?_);(simp only [go_sem,↓dP,↓reduceIte];with_reducible and_intros;all_goals first|apply qA|exact qC|skip));refine Ok.cond rfl (fun hb => by simp at hb) (fun _ => ?_);(refine Ok.exit ?_;simp only [thenK_exit,blockK_exit,noGotoK_exit,thenK_normal,blockK_normal,noGotoK_normal,↓reduceIte,Nat.reduceEqDiff])
  (first|refine qE ?_|refine qD ?_);(simp only [go_sem,↓dP,↓reduceIte];with_reducible and_intros;all_goals first|apply qA|exact qC|skip)
  (refine Ok.ret ?_;(try dsimp only [thenK,blockK,noGotoK]);simp only [toList_mk,List.toList_toArray,retK_ret,retK_normal,resOK,resV,celV,rowV,frzAll,frzT,subV,subL,go_sem,↓dP,↓reduceIte])
  exact ⟨⟨.refl _,.refl _⟩,.refl _⟩
end Go.Proofs.Leaf
namespace Go.Proofs.Leaf
open Go Go.RX Go.Proofs
set_option maxRecDepth 10000
variable [Glob]
def frO (now:List Nat):Nat:=if now.length = 0 then 0 else now.getD (now.length - 1) default + 1
theorem frO_snoc (now:List Nat) (x:Nat):frO (now ++ [x]) = x + 1:=by simp [frO]
theorem comboK_len (n:Nat):∀ (k fr:Nat) (now:List Nat),(comboK n k fr now).length<=n ^ k
 | 0,_,_ => by simp [comboK]
 | k + 1,fr,now => by
  rw [comboK,List.length_flatMap]
  have key:∀ m,((List.range m).map (fun i => (comboK n k (fr + i + 1) (now ++ [fr + i])).length)).sum<=m * n ^ k:=by
   intro m
   induction m with
   | zero => simp
   | succ m ih =>
    have:=comboK_len n k (fr + m + 1) (now ++ [fr + m])
    rw [List.range_succ,List.map_append,List.sum_append,Nat.add_mul]
    simp only [List.map_cons,List.map_nil,List.sum_cons,List.sum_nil]
    omega
  refine Nat.le_trans (key (n - fr)) ?_
  rw [Nat.pow_succ,Nat.mul_comm]
  exact Nat.mul_le_mul_left _ (by omega)
set_option maxHeartbeats 1000000 in
theorem c_rchosen (n:Nat) (hn5:n<=5):∀ (k:Nat) (now:List Nat),now.length + k<=5->frO now<=n->(∀ x∈now,x < 1000)->Ctr Tryz.prog 72 [ilS (asI now),iS (now.length + k:Nat),iS n] (.d (slD 1 listD (lisL (comboK n k (frO now) now))))
 | 0,now,hn,hf,hm => by
  have hc:(((asI now).length:Int) == now.length) = true:=by simp
  (refine Ctr.mk (fn:=Tryz.f72) rfl rfl rfl rfl rfl Tryz.results72 ?_;intro _;dsimp only [args,List.toList_toArray])
  (first|refine qE ?_|refine qD ?_);(simp only [go_sem,↓dP,↓reduceIte];with_reducible and_intros;all_goals first|apply qA|exact qC|skip)
  refine Ok.seq ?_
  (first|refine qE ?_|refine qD ?_);(simp only [go_sem,↓dP,↓reduceIte];with_reducible and_intros;all_goals first|apply qA|exact qC|skip)
  rw [hc]
  refine Ok.cond (b:=true) (by first | rfl | (simp only [go_sem,↓dP,↓reduceIte];rfl)) (fun _ => ?_) (fun hb => by cases hb)
  (first|refine qE ?_|refine qD ?_);(simp only [go_sem,↓dP,↓reduceIte];with_reducible and_intros;all_goals first|apply qA|exact qC|skip)
  (refine Ok.ret ?_;(try dsimp only [thenK,blockK,noGotoK]);simp only [toList_mk,List.toList_toArray,retK_ret,retK_normal,resOK,resV,celV,rowV,frzAll,frzT,subV,subL,go_sem,↓dP,↓reduceIte])
  refine DEq.sl rfl (fun i j hi hj => ?_)
  obtain rfl:i = 0:=by omega
  obtain rfl:j = 0:=by omega
  exact .refl _
 | k + 1,now,hn,hf,hm => by
  have hc:(((asI now).length:Int) == (now.length + (k + 1):Nat)) = false:=by simp;omega
  have hal:=asI_len now
  generalize hF:frO now = fr at hf
  (refine Ctr.mk (fn:=Tryz.f72) rfl rfl rfl rfl rfl Tryz.results72 ?_;intro _;dsimp only [args,List.toList_toArray])
  (first|refine qE ?_|refine qD ?_);(simp only [go_sem,↓dP,↓reduceIte];with_reducible and_intros;all_goals first|apply qA|exact qC|skip)
  refine Ok.seq ?_
  (first|refine qE ?_|refine qD ?_);(simp only [go_sem,↓dP,↓reduceIte];with_reducible and_intros;all_goals first|apply qA|exact qC|skip)
  rw [hc]
  refine Ok.cond (b:=false) (by first | rfl | (simp only [go_sem,↓dP,↓reduceIte];rfl)) (fun hb => by cases hb) (fun _ => ?_)
  (refine Ok.skip ?_;(try dsimp only [thenK,blockK,noGotoK]))
  (first|refine qE ?_|refine qD ?_);(simp only [go_sem,↓dP,↓reduceIte];with_reducible and_intros;all_goals first|apply qA|exact qC|skip)
  refine Ok.join (σ':=⟨[(0,ilS (asI now)),(1,iS (now.length + (k + 1):Nat)),(2,iS n),(7,iS fr)],[],[]⟩) ?_ ?_
  ·(first|refine qE ?_|refine qD ?_);(simp only [go_sem,↓dP,↓reduceIte];with_reducible and_intros;all_goals first|apply qA|exact qC|skip)
   refine Ok.cond rfl ?_ ?_
   ·intro hb
    have h0:0 < now.length:=by simp at hb;omega
    have hx:(asI now).getD (now.length - 1) default = ((now.getD (now.length - 1) default:Nat):Int):=asI_at (by omega)
    have hx2:=hm _ (getD_mem (l:=now) (i:=now.length - 1) (by omega))
    have hF2:now.getD (now.length - 1) default + 1 = fr:=by rw [← hF,frO,if_neg (by omega)]
    have e1:(((asI now).length:Int) - 1).toNat = now.length - 1:=by omega
    (first|refine qE ?_|refine qD ?_);(simp only [go_sem,↓dP,↓reduceIte];with_reducible and_intros;all_goals first|apply qA|exact qC|skip)
    ·rw [e1,hx];exact R64 (by omega) (by omega)
    (try dsimp only [thenK,blockK,noGotoK])
    (refine Sub.of ([]) ([]) ?_ ?_ ?_ rfl rfl<;>simp only [subB,subB1,subT,subT1,newT,subE,subV,subL,go_sem,↓dP,↓reduceIte]<;>(try (repeat' with_reducible apply And.intro))<;>(try first | exact DEq.refl _ | refine DEq.int ?_ | refine DEq.bool ?_ | omega))
    rw [e1,hx];omega
   ·intro hb
    have h0:now.length = 0:=by simp at hb;simpa using hb
    have hF2:0 = fr:=by rw [← hF,frO,if_pos h0]
    (refine Ok.skip ?_;(try dsimp only [thenK,blockK,noGotoK]))
    (try dsimp only [thenK,blockK,noGotoK])
    (refine Sub.of ([]) ([]) ?_ ?_ ?_ rfl rfl<;>simp only [subB,subB1,subT,subT1,newT,subE,subV,subL,go_sem,↓dP,↓reduceIte]<;>(try (repeat' with_reducible apply And.intro))<;>(try first | exact DEq.refl _ | refine DEq.int ?_ | refine DEq.bool ?_ | omega))
    omega
  ·(first|refine qE ?_|refine qD ?_);(simp only [go_sem,↓dP,↓reduceIte];with_reducible and_intros;all_goals first|apply qA|exact qC|skip)
   refine Ok.seq ?_
   (first|refine qE ?_|refine qD ?_);(simp only [go_sem,↓dP,↓reduceIte];with_reducible and_intros;all_goals first|apply qA|exact qC|skip)
   refine Ok.block ?_
   refine Ok.count (n - fr) (fun i => ⟨[(0,ilS (asI now)),(1,iS (now.length + (k + 1):Nat)),(2,iS n),(8,.tk 0),(9,iS (fr + i:Nat))],[],[ownD 26 1 listD (lisL ((List.range i).flatMap (fun i => comboK n k (fr + i + 1) (now ++ [fr + i]))))]⟩) (fun _ => True) ⟨trivial,?_⟩ ?_ ?_
   ·(refine Sub.of ([]) ([none]) ?_ ?_ ?_ rfl rfl<;>simp only [subB,subB1,subT,subT1,newT,subE,subV,subL,go_sem,↓dP,↓reduceIte]<;>(try (repeat' with_reducible apply And.intro))<;>(try first | exact DEq.refl _ | refine DEq.int ?_ | refine DEq.bool ?_ | omega))
    rfl
   ·intro i hi _
    have ih:=c_rchosen n hn5 k (now ++ [fr + i]) (by simp;omega) (by rw [frO_snoc];omega) (fun x hx => by
     rcases List.mem_append.1 hx with hx | hx
     ·exact hm x hx
     ·simp at hx;omega)
    rw [frO_snoc] at ih
    have ih':Ctr Tryz.prog 72 [.d (.sl 1 ((asI now).length + 1) (fun a c => if a < (asI now).length then intD ((asI now).getD a default) c else dget [.int .i64 ((fr + i:Nat):Int)] ((a - (asI now).length) * 1 + c))),iS (now.length + (k + 1):Nat),iS n] (.d (slD 1 listD (lisL (comboK n k (fr + i + 1) (now ++ [fr + i]))))):=by
     refine ih.args ⟨?_,?_,.refl _,trivial⟩
     ·rw [asI_append]
      exact snocI
     ·exact DEq.int (by simp;omega)
    have hroom:(lisL ((List.range i).flatMap (fun i => comboK n k (fr + i + 1) (now ++ [fr + i])))).length + (lisL (comboK n k (fr + i + 1) (now ++ [fr + i]))).length<=3125:=by
     have h1:=comboK_len n (k + 1) fr now
     have h2:n ^ (k + 1)<=5 ^ 5:=Nat.le_trans (Nat.pow_le_pow_left hn5 _) (Nat.pow_le_pow_right (by decide) (by omega))
     have h3:((List.range (i + 1)).flatMap (fun i => comboK n k (fr + i + 1) (now ++ [fr + i]))).length<=(comboK n (k + 1) fr now).length:=by
      rw [comboK]
      exact flatMap_le (by omega) _
     rw [List.range_succ,List.flatMap_append,List.length_append] at h3
     simp only [List.flatMap_cons,List.flatMap_nil,List.append_nil] at h3
     simp only [lisL,List.length_map]
     omega
    have hsn:lisL ((List.range (i + 1)).flatMap (fun i => comboK n k (fr + i + 1) (now ++ [fr + i]))) = lisL ((List.range i).flatMap (fun i => comboK n k (fr + i + 1) (now ++ [fr + i]))) ++ lisL (comboK n k (fr + i + 1) (now ++ [fr + i])):=by
     rw [List.range_succ,List.flatMap_append]
     simp [lisL]
    refine Ok.seq ?_;((first|refine qE ?_|refine qD ?_);(simp only [go_sem,↓dP,↓reduceIte];with_reducible and_intros;all_goals first|apply qA|exact qC|skip));refine Ok.cond rfl (fun _ => ?_) (fun hb => by simp at hb;omega);(refine Ok.skip ?_;(try dsimp only [thenK,blockK,noGotoK]));refine Ok.seq ?_;refine Ok.block ?_
    (first|refine qE ?_|refine qD ?_);(simp only [go_sem,↓dP,↓reduceIte];with_reducible and_intros;all_goals first|apply qA|exact qC|skip)
    (refine AskI.ret (ih') ?_;simp only [go_sem,↓dP,↓reduceIte];with_reducible and_intros;all_goals first|apply qA|exact qC|skip)
    (try dsimp only [thenK,blockK,noGotoK])
    (first|refine qE ?_|refine qD ?_);(simp only [go_sem,↓dP,↓reduceIte];with_reducible and_intros;all_goals first|apply qA|exact qC|skip)
    (try dsimp only [thenK,blockK,noGotoK])
    refine ⟨trivial,?_⟩
    rw [hsn]
    (refine Sub.of ([]) ([some 3]) ?_ ?_ ?_ rfl rfl<;>simp only [subB,subB1,subT,subT1,newT,subE,subV,subL,go_sem,↓dP,↓reduceIte]<;>(try (repeat' with_reducible apply And.intro))<;>(try first | exact DEq.refl _ | refine DEq.int ?_ | refine DEq.bool ?_ | omega))
    ·rw [List.length_append]
    ·exact append_D
   ·intro _
    refine Ok.seq ?_;((first|refine qE ?_|refine qD ?_);(simp only [go_sem,↓dP,↓reduceIte];with_reducible and_intros;all_goals first|apply qA|exact qC|skip));refine Ok.cond rfl (fun hb => by simp at hb;omega) (fun _ => ?_);(refine Ok.exit ?_;simp only [thenK_exit,blockK_exit,noGotoK_exit,thenK_normal,blockK_normal,noGotoK_normal,↓reduceIte,Nat.reduceEqDiff])
    (first|refine qE ?_|refine qD ?_);(simp only [go_sem,↓dP,↓reduceIte];with_reducible and_intros;all_goals first|apply qA|exact qC|skip)
    (refine Ok.ret ?_;(try dsimp only [thenK,blockK,noGotoK]);simp only [toList_mk,List.toList_toArray,retK_ret,retK_normal,resOK,resV,celV,rowV,frzAll,frzT,subV,subL,go_sem,↓dP,↓reduceIte])
    exact .refl _
theorem filterMap_congr' {α β:Type} {f g:α->Option β} {l:List α} (h:∀ x∈l,f x = g x):l.filterMap f = l.filterMap g:=by
 induction l with
 | nil => rfl
 | cons a l ih =>
  rw [List.filterMap_cons,List.filterMap_cons,h a (List.mem_cons_self ..),ih (fun x hx => h x (List.mem_cons_of_mem _ hx))]
theorem filterMap_if {α β:Type} (l:List α) (p:α->Bool) (g:α->β):l.filterMap (fun x => if p x = true then none else some (g x)) = (l.filter (fun x => !p x)).map g:=by
 induction l with
 | nil => rfl
 | cons a l ih =>
  rw [List.filterMap_cons,List.filter_cons]
  cases h:p a<;>simp [ih]
theorem free_eq {J:Job} (ht:J.timed) (L:List Nat):(firstR (restS J (asI L) false 0 J.ps.length) []).isSome = freeB (spans J false) L:=by
 rw [firstR_isSome _ [] [] (fun x hx a b e => ?_) (fun _ _ => Iff.rfl)]
 ·unfold freeB
  congr 3
  unfold restS othersL
  rw [List.filterMap_map,← List.range_eq_range',spans_len]
  have h1:(List.range J.ps.length).filterMap (id ∘ optS J (asI L) false) = (List.range J.ps.length).filterMap (fun i => if decide (i∈L) = true then none else some (J.span false i)):=by
   refine filterMap_congr' (fun i _ => ?_)
   show optS J (asI L) false i = _
   unfold optS
   by_cases h:i∈L
   ·rw [if_pos ((asI_in L i).2 h),if_pos (by simpa using h)]
   ·rw [if_neg (fun q => h ((asI_in L i).1 q)),if_neg (by simpa using h)]
  rw [h1,filterMap_if]
  refine List.map_congr_left (fun i hi => ?_)
  rw [span_at J false (List.mem_range.1 (List.mem_filter.1 hi).1)]
 ·obtain ⟨i,hi,rfl⟩:=List.mem_map.1 hx
  have hi:=List.mem_range'_1.1 hi
  unfold optS at e
  split at e
  ·cases e
  ·simp only [Option.some.injEq] at e
   have hlt:i < J.ps.length:=by omega
   have:=ht _ (getD_mem hlt) false
   have h2:J.span false (i:Int) = spanOf J.gs false (J.ps.getD i default):=rfl
   rw [← h2,e] at this
   exact this.1
theorem c_rWithout (J:Job) (hJ:J.based) (ht:J.timed) (hn:J.ps.length<=100) (L:List Nat) (hL:L.length < 1000):Ctr Tryz.prog 73 [J.sv,ilS (asI L)] (bS (freeB (spans J false) L)):=by
 have a:=c_rfirst J hJ ht hn (asI L) (by simpa using hL) false J.ps.length [] (by simp)
 simp only [List.length_nil] at a
 have a':=a.args (A':=[J.sv,.d .nils,ilS (asI L),bS false]) ⟨⟨.refl _,.refl _,.refl _,.refl _,.refl _,.refl _,trivial⟩,DEq.nils rfl,.refl _,.refl _,trivial⟩
 rw [← free_eq ht]
 (refine Ctr.mk (fn:=Tryz.f73) rfl rfl rfl rfl rfl Tryz.results73 ?_;intro _;dsimp only [args,List.toList_toArray])
 (first|refine qE ?_|refine qD ?_);(simp only [go_sem,↓dP,↓reduceIte];with_reducible and_intros;all_goals first|apply qA|exact qC|skip)
 (first|refine qE ?_|refine qD ?_);(simp only [go_sem,↓dP,↓reduceIte];with_reducible and_intros;all_goals first|apply qA|exact qC|skip)
 (refine AskI.ret (a') ?_;simp only [go_sem,↓dP,↓reduceIte];with_reducible and_intros;all_goals first|apply qA|exact qC|skip)
 (first|refine qE ?_|refine qD ?_);(simp only [go_sem,↓dP,↓reduceIte];with_reducible and_intros;all_goals first|apply qA|exact qC|skip)
 (refine Ok.ret ?_;(try dsimp only [thenK,blockK,noGotoK]);simp only [toList_mk,List.toList_toArray,retK_ret,retK_normal,resOK,resV,celV,rowV,frzAll,frzT,subV,subL,go_sem,↓dP,↓reduceIte])
 exact .refl _
theorem leave_at {sp:List (Int×Int)} {m i:Nat} (hm:m<=sp.length) (hi:i < (comboK sp.length m 0 []).length) (h0:∀ m',m' < m->(comboK sp.length m' 0 []).find? (freeB sp) = none)
  (h1:∀ i',i' < i->freeB sp ((comboK sp.length m 0 []).getD i' default) = false) (h2:freeB sp ((comboK sp.length m 0 []).getD i default) = true):leaveOf sp = some ((comboK sp.length m 0 []).getD i default):=by
 unfold leaveOf leaveL
 rw [List.find?_flatMap]
 have hr:∀ j,j < sp.length + 1->(List.range (sp.length + 1)).getD j default = j:=fun j hj => by simp [List.getD_eq_getElem?_getD,hj]
 refine findSome_at (i:=m) (by simp;omega) (fun j hj => ?_) ?_
 ·rw [hr j (by omega)];exact h0 j hj
 ·rw [hr m (by omega)];exact find_at hi h1 h2
theorem combo_all (n:Nat):∃ x,(comboK n n 0 []).getD 0 default = x/\0 < (comboK n n 0 []).length/\othersL n x = []:=by
 have hm:List.range n∈comboK n n 0 []:=by
  refine (mem_combo _ _ _ _ _).2 ⟨List.range n,rfl,by simp,?_⟩
  have:=rises_range n 0
  rwa [Nat.zero_add,← List.range_eq_range'] at this
 have h0:0 < (comboK n n 0 []).length:=List.length_pos_of_mem hm
 refine ⟨_,rfl,h0,?_⟩
 obtain ⟨t,e,h1,h2⟩:=(mem_combo n n 0 [] _).1 (getD_mem (l:=comboK n n 0 []) h0)
 rw [e,List.nil_append]
 have hp:=rises_pw h2
 have hb:=fun x hx => (rises_mem h2 x hx).2
 unfold othersL
 rw [List.filter_eq_nil_iff]
 intro i hi
 have hi:=List.mem_range.1 hi
 have hnd:t.Nodup:=hp.imp (fun h => by omega)
 have:i∈t:=by
  refine Classical.byContradiction (fun hq => ?_)
  have hnd2:(asI (i :: t)).Nodup:=by
   exact List.pairwise_map.2 ((List.nodup_cons.2 ⟨hq,hnd⟩).imp (fun {a b} h e => h (by have e:(a:Int) = b:=e;omega)))
  have:=nodup_bound n 0 (asI (i :: t)) hnd2 (fun x hx => by
   obtain ⟨y,hy,rfl⟩:=asI_mem hx
   rcases List.mem_cons.1 hy with rfl | hy
   ·omega
   ·have:=hb y hy;omega)
  simp at this
  omega
 simp [this]
set_option maxHeartbeats 1000000 in
theorem c_rLeave (J:Job) (hJ:J.based) (ht:J.timed) (hn:J.ps.length<=5):Ctr Tryz.prog 28 [J.sv] (ilS (asI ((leaveOf (spans J false)).getD []))):=by
 have hsl:=spans_len J false
 generalize hS:spans J false = sp at hsl
 have hw:∀ L:List Nat,L.length < 1000->Ctr Tryz.prog 73 [J.sv,ilS (asI L)] (bS (freeB sp L)):=fun L hL => by
  have:=c_rWithout J hJ ht (by omega) L hL
  rwa [hS] at this
 have hch:∀ k,k<=J.ps.length->Ctr Tryz.prog 72 [.d .nils,iS k,iS J.ps.length] (.d (slD 1 listD (lisL (comboK sp.length k 0 [])))):=fun k hk => by
  have:=c_rchosen J.ps.length hn k [] (by simp;omega) (by simp [frO]) (fun x hx => by cases hx)
  simp only [List.length_nil,Nat.zero_add] at this
  rw [hsl]
  exact this.args ⟨DEq.nils rfl,.refl _,.refl _,trivial⟩
 have hcl:∀ k,k<=J.ps.length->(comboK sp.length k 0 []).length<=3125:=fun k hk => by
  have h1:=comboK_len sp.length k 0 []
  have h2:sp.length ^ k<=5 ^ 5:=by
   rw [hsl]
   rcases Nat.eq_zero_or_pos J.ps.length with h0 | h0
   ·rw [h0] at hk ⊢
    obtain rfl:k = 0:=by omega
    decide
   ·exact Nat.le_trans (Nat.pow_le_pow_left hn _) (Nat.pow_le_pow_right (by decide) (by omega))
  omega
 have hcm:∀ k,k<=J.ps.length->∀ x∈comboK sp.length k 0 [],x.length < 1000:=fun k hk x hx => by
  obtain ⟨t,e,h1,_⟩:=(mem_combo _ _ _ _ _).1 hx
  rw [e,List.nil_append];omega
 (refine Ctr.mk (fn:=Tryz.f28) rfl rfl rfl rfl rfl Tryz.results28 ?_;intro _;dsimp only [args,List.toList_toArray])
 (first|refine qE ?_|refine qD ?_);(simp only [go_sem,↓dP,↓reduceIte];with_reducible and_intros;all_goals first|apply qA|exact qC|skip)
 (first|refine qE ?_|refine qD ?_);(simp only [go_sem,↓dP,↓reduceIte];with_reducible and_intros;all_goals first|apply qA|exact qC|skip)
 refine Ok.seq ?_
 (first|refine qE ?_|refine qD ?_);(simp only [go_sem,↓dP,↓reduceIte];with_reducible and_intros;all_goals first|apply qA|exact qC|skip)
 refine Ok.block ?_
 refine Ok.count J.ps.length (fun m => ⟨[(1,.p 0 0),(3,iS J.ps.length),(4,iS m)],[jobC J],[]⟩) (fun m => ∀ m',m' < m->(comboK sp.length m' 0 []).find? (freeB sp) = none) ⟨fun m' hm => by omega,?_⟩ ?_ ?_
 ·(refine Sub.of ([0]) ([]) ?_ ?_ ?_ rfl rfl<;>simp only [subB,subB1,subT,subT1,newT,subE,subV,subL,go_sem,↓dP,↓reduceIte]<;>(try (repeat' with_reducible apply And.intro))<;>(try first | exact DEq.refl _ | refine DEq.int ?_ | refine DEq.bool ?_ | omega))
 ·intro m hm hJ2
  have hml:=lisL_len (comboK sp.length m 0 [])
  have hmc:=hcl m (by omega)
  refine Ok.seq ?_;((first|refine qE ?_|refine qD ?_);(simp only [go_sem,↓dP,↓reduceIte];with_reducible and_intros;all_goals first|apply qA|exact qC|skip));refine Ok.cond rfl (fun _ => ?_) (fun hb => by simp at hb;omega);(refine Ok.skip ?_;(try dsimp only [thenK,blockK,noGotoK]));refine Ok.seq ?_;refine Ok.block ?_
  refine Ok.seq ?_
  (first|refine qE ?_|refine qD ?_);(simp only [go_sem,↓dP,↓reduceIte];with_reducible and_intros;all_goals first|apply qA|exact qC|skip)
  (refine AskI.ret (hch m (by omega)) ?_;simp only [go_sem,↓dP,↓reduceIte];with_reducible and_intros;all_goals first|apply qA|exact qC|skip)
  (first|refine qE ?_|refine qD ?_);(simp only [go_sem,↓dP,↓reduceIte];with_reducible and_intros;all_goals first|apply qA|exact qC|skip)
  refine Ok.block ?_
  refine Ok.count (comboK sp.length m 0 []).length (fun i => ⟨[(1,.p 0 0),(3,iS J.ps.length),(4,iS m),(5,.d (slD 1 listD (lisL (comboK sp.length m 0 [])))),(6,iS i)],[jobC J],[]⟩) (fun i => ∀ i',i' < i->freeB sp ((comboK sp.length m 0 []).getD i' default) = false) ⟨fun i' hi => by omega,?_⟩ ?_ ?_
  ·(refine Sub.of ([0]) ([]) ?_ ?_ ?_ rfl rfl<;>simp only [subB,subB1,subT,subT1,newT,subE,subV,subL,go_sem,↓dP,↓reduceIte]<;>(try (repeat' with_reducible apply And.intro))<;>(try first | exact DEq.refl _ | refine DEq.int ?_ | refine DEq.bool ?_ | omega))
  ·intro i hi hJ3
   have hx:=lisL_at hi
   have a1:=hw _ (hcm m (by omega) _ (getD_mem hi))
   rw [← hx] at a1
   refine Ok.seq ?_;((first|refine qE ?_|refine qD ?_);(simp only [go_sem,↓dP,↓reduceIte];with_reducible and_intros;all_goals first|apply qA|exact qC|skip));refine Ok.cond rfl (fun _ => ?_) (fun hb => by simp at hb;omega);(refine Ok.skip ?_;(try dsimp only [thenK,blockK,noGotoK]));refine Ok.seq ?_;refine Ok.block ?_
   (first|refine qE ?_|refine qD ?_);(simp only [go_sem,↓dP,↓reduceIte];with_reducible and_intros;all_goals first|apply qA|exact qC|skip)
   (refine AskI.ret (a1) ?_;simp only [go_sem,↓dP,↓reduceIte];with_reducible and_intros;all_goals first|apply qA|exact qC|skip)
   refine Ok.cond rfl ?_ ?_
   ·intro hc
    rw [leave_at (by omega) hi hJ2 hJ3 hc]
    (first|refine qE ?_|refine qD ?_);(simp only [go_sem,↓dP,↓reduceIte];with_reducible and_intros;all_goals first|apply qA|exact qC|skip)
    (refine Ok.ret ?_;(try dsimp only [thenK,blockK,noGotoK]);simp only [toList_mk,List.toList_toArray,retK_ret,retK_normal,resOK,resV,celV,rowV,frzAll,frzT,subV,subL,go_sem,↓dP,↓reduceIte])
    rw [hx]
    exact .refl _
   ·intro hc
    (refine Ok.skip ?_;(try dsimp only [thenK,blockK,noGotoK]))
    (first|refine qE ?_|refine qD ?_);(simp only [go_sem,↓dP,↓reduceIte];with_reducible and_intros;all_goals first|apply qA|exact qC|skip)
    (try dsimp only [thenK,blockK,noGotoK])
    refine ⟨fun i' hi' => ?_,?_⟩
    ·by_cases e:i' = i
     ·subst e;exact hc
     ·exact hJ3 i' (by omega)
    (refine Sub.of ([0]) ([]) ?_ ?_ ?_ rfl rfl<;>simp only [subB,subB1,subT,subT1,newT,subE,subV,subL,go_sem,↓dP,↓reduceIte]<;>(try (repeat' with_reducible apply And.intro))<;>(try first | exact DEq.refl _ | refine DEq.int ?_ | refine DEq.bool ?_ | omega))
  ·intro hJ3
   refine Ok.seq ?_;((first|refine qE ?_|refine qD ?_);(simp only [go_sem,↓dP,↓reduceIte];with_reducible and_intros;all_goals first|apply qA|exact qC|skip));refine Ok.cond rfl (fun hb => by simp at hb;omega) (fun _ => ?_);(refine Ok.exit ?_;simp only [thenK_exit,blockK_exit,noGotoK_exit,thenK_normal,blockK_normal,noGotoK_normal,↓reduceIte,Nat.reduceEqDiff])
   (try dsimp only [thenK,blockK,noGotoK])
   (first|refine qE ?_|refine qD ?_);(simp only [go_sem,↓dP,↓reduceIte];with_reducible and_intros;all_goals first|apply qA|exact qC|skip)
   (try dsimp only [thenK,blockK,noGotoK])
   refine ⟨fun m' hm' => ?_,?_⟩
   ·by_cases e:m' = m
    ·subst e;exact find_no hJ3
    ·exact hJ2 m' (by omega)
   (refine Sub.of ([0]) ([]) ?_ ?_ ?_ rfl rfl<;>simp only [subB,subB1,subT,subT1,newT,subE,subV,subL,go_sem,↓dP,↓reduceIte]<;>(try (repeat' with_reducible apply And.intro))<;>(try first | exact DEq.refl _ | refine DEq.int ?_ | refine DEq.bool ?_ | omega))
 ·intro hJ2
  obtain ⟨x,hx,h0,hox⟩:=combo_all sp.length
  have hfx:freeB sp x = true:=by rw [freeB,hox];rfl
  have hlv:leaveOf sp = some x:=by
   rw [← hx]
   exact leave_at (Nat.le_refl _) h0 (fun m' hm' => hJ2 m' (by omega)) (fun i' hi' => by omega) (by rw [hx];exact hfx)
  rw [hlv]
  have hml:=lisL_len (comboK sp.length J.ps.length 0 [])
  have h0':0 < (comboK sp.length J.ps.length 0 []).length:=by rw [← hsl];exact h0
  have hx':(lisL (comboK sp.length J.ps.length 0 [])).getD 0 default = asI x:=by rw [lisL_at h0',← hsl,hx]
  refine Ok.seq ?_;((first|refine qE ?_|refine qD ?_);(simp only [go_sem,↓dP,↓reduceIte];with_reducible and_intros;all_goals first|apply qA|exact qC|skip));refine Ok.cond rfl (fun hb => by simp at hb) (fun _ => ?_);(refine Ok.exit ?_;simp only [thenK_exit,blockK_exit,noGotoK_exit,thenK_normal,blockK_normal,noGotoK_normal,↓reduceIte,Nat.reduceEqDiff])
  (first|refine qE ?_|refine qD ?_);(simp only [go_sem,↓dP,↓reduceIte];with_reducible and_intros;all_goals first|apply qA|exact qC|skip)
  (refine AskI.ret (hch J.ps.length (Nat.le_refl _)) ?_;simp only [go_sem,↓dP,↓reduceIte];with_reducible and_intros;all_goals first|apply qA|exact qC|skip)
  (refine Ok.ret ?_;(try dsimp only [thenK,blockK,noGotoK]);simp only [toList_mk,List.toList_toArray,retK_ret,retK_normal,resOK,resV,celV,rowV,frzAll,frzT,subV,subL,go_sem,↓dP,↓reduceIte])
  rw [hx']
  exact .refl _
end Go.Proofs.Leaf
namespace Go.Proofs.Leaf
open Go Go.RX Go.Proofs
set_option maxRecDepth 10000
variable [Glob]
def shortB (J:Job):Bool:=decide (J.gs.length<=5) && decide (J.ps.length<=7)
theorem c_lshort (J:Job) (h:J.far):Ctr Tryz.prog 23 [J.sv] (bS (shortB J)):=by
 have h1:=h.1
 have h2:=h.2
 (refine Ctr.mk (fn:=Tryz.f23) rfl rfl rfl rfl rfl Tryz.results23 ?_;intro _;dsimp only [args,List.toList_toArray])
 (first|refine qE ?_|refine qD ?_);(simp only [go_sem,↓dP,↓reduceIte];with_reducible and_intros;all_goals first|apply qA|exact qC|skip)
 (first|refine qE ?_|refine qD ?_);(simp only [go_sem,↓dP,↓reduceIte];with_reducible and_intros;all_goals first|apply qA|exact qC|skip)
 (refine Ok.ret ?_;(try dsimp only [thenK,blockK,noGotoK]);simp only [toList_mk,List.toList_toArray,retK_ret,retK_normal,resOK,resV,celV,rowV,frzAll,frzT,subV,subL,go_sem,↓dP,↓reduceIte])
 refine DEq.bool ?_
 unfold shortB
 by_cases g1:J.gs.length<=5<;>by_cases g2:J.ps.length<=7<;>simp [g1,g2]<;>omega
theorem short_held {J:Job} (h:shortB J = true):J.held:=by
 simp only [shortB,Bool.and_eq_true,decide_eq_true_eq] at h
 exact ⟨by omega,by omega⟩
end Go.Proofs.Leaf
namespace Go.Proofs.Leaf
open Go Go.RX Go.Proofs
set_option maxRecDepth 10000
variable [Glob]
theorem c_Proof0 (J:Job) (hh:J.held) (hj:jobB J = false):Ctr Tryz.prog 24 [J.sv] (.tup [spS (0,0),.d .nils,iS 2]):=by
 (refine Ctr.mk (fn:=Tryz.f24) rfl rfl rfl rfl rfl Tryz.results24 ?_;intro _;dsimp only [args,List.toList_toArray])
 (first|refine qE ?_|refine qD ?_);(simp only [go_sem,↓dP,↓reduceIte];with_reducible and_intros;all_goals first|apply qA|exact qC|skip)
 refine Ok.seq ?_
 (first|refine qE ?_|refine qD ?_);(simp only [go_sem,↓dP,↓reduceIte];with_reducible and_intros;all_goals first|apply qA|exact qC|skip)
 (refine AskI.ret (c_isJob J hh) ?_;simp only [go_sem,↓dP,↓reduceIte];with_reducible and_intros;all_goals first|apply qA|exact qC|skip)
 refine Ok.cond rfl (fun _ => ?_) (fun hb => by rw [hj] at hb;cases hb)
 (first|refine qE ?_|refine qD ?_);(simp only [go_sem,↓dP,↓reduceIte];with_reducible and_intros;all_goals first|apply qA|exact qC|skip)
 (refine Ok.ret ?_;(try dsimp only [thenK,blockK,noGotoK]);simp only [toList_mk,List.toList_toArray,retK_ret,retK_normal,resOK,resV,celV,rowV,frzAll,frzT,subV,subL,go_sem,↓dP,↓reduceIte])
 ((repeat' with_reducible apply And.intro)<;>(first | exact DEq.refl _ | refine DEq.int ?_ | refine DEq.bool ?_ | skip))
end Go.Proofs.Leaf
namespace Go.Proofs.Leaf
open Go Go.RX Go.Proofs Go.RowKit
set_option maxRecDepth 10000
section
instance inst_g0_5:Glob:=g0
theorem c_Leave0 (J:Job) (hh:J.held) (hj:jobB J = false):Ctr Tryz.prog 25 [J.sv] (.tup [.d .nils,iS 2]):=by
 (refine Ctr.mk (fn:=Tryz.f25) rfl rfl rfl rfl rfl Tryz.results25 ?_;intro _;dsimp only [args,List.toList_toArray])
 (first|refine qE ?_|refine qD ?_);(simp only [go_sem,↓dP,↓reduceIte];with_reducible and_intros;all_goals first|apply qA|exact qC|skip)
 refine Ok.seq ?_
 (first|refine qE ?_|refine qD ?_);(simp only [go_sem,↓dP,↓reduceIte];with_reducible and_intros;all_goals first|apply qA|exact qC|skip)
 (refine AskI.ret (c_isJob J hh) ?_;simp only [go_sem,↓dP,↓reduceIte];with_reducible and_intros;all_goals first|apply qA|exact qC|skip)
 refine Ok.cond rfl (fun _ => ?_) (fun hb => by rw [hj] at hb;cases hb)
 (first|refine qE ?_|refine qD ?_);(simp only [go_sem,↓dP,↓reduceIte];with_reducible and_intros;all_goals first|apply qA|exact qC|skip)
 (refine Ok.ret ?_;(try dsimp only [thenK,blockK,noGotoK]);simp only [toList_mk,List.toList_toArray,retK_ret,retK_normal,resOK,resV,celV,rowV,frzAll,frzT,subV,subL,go_sem,↓dP,↓reduceIte])
 ((repeat' with_reducible apply And.intro)<;>(first | exact DEq.refl _ | refine DEq.int ?_ | refine DEq.bool ?_ | skip))
end
end Go.Proofs.Leaf
namespace Go.Proofs.YtdajcfdhcjbmmaaGreatDoor
open Go Go.RX Go.Proofs.Leaf Go.RowKit Go.ChangeShapes Go.WideShapes Go.ChangeAt
set_option maxRecDepth 100000
instance inst_gT_6:Glob:=gT
section
variable {H : Type} {enc : TypeId × Value → H} {W : World}
end
theorem opensAll_cons {t:TypeId} {ts:List TypeId} {As:List SV} (h:opensAll (t :: ts) As):∃ A Bs,As = A :: Bs/\opens t A/\opensAll ts Bs:=by
 cases As with
 | nil => exact h.elim
 | cons A Bs => exact ⟨A,Bs,rfl,h.1,h.2⟩
theorem opensAll_nil {As:List SV} (h:opensAll [] As):As = []:=by
 cases As with
 | nil => rfl
 | cons A Bs => exact h.elim
end Go.Proofs.YtdajcfdhcjbmmaaGreatDoor
namespace Go.Proofs.Leaf
open Go Go.RX Go.Proofs
theorem boundL_le (sp:List (Int×Int)) (lo hi:Int):(boundL sp lo hi).length<=sp.length:=by
 unfold boundL
 refine Nat.le_trans (List.length_filter_le _ _) ?_
 rw [List.length_range];exact Nat.le_refl _
end Go.Proofs.Leaf
namespace Go.Proofs.Leaf
open Go Go.RX Go.Proofs Go.RowKit
set_option maxRecDepth 100000
section
theorem leave_short {J:Job} (h:J.ok):(asI ((leaveOf (spans J false)).getD [])).length<=5:=by
 have hp:=h.p1
 cases hq:leaveOf (spans J false) with
 | none => simp
 | some m =>
  obtain ⟨q1,_,_⟩:=leave_spec hq
  rw [spans_len] at q1
  rw [Option.getD_some,asI_len]
  rcases rises_len q1 with q | q
  ·omega
  ·rw [q];simp
theorem law_Proofs (J:Job) (hf:J.far):Ctr Tryz.prog 4 [J.sv] (bS true):=by
 (refine Ctr.mk (fn:=Tryz.f4) rfl rfl rfl rfl rfl Tryz.results4 ?_;intro _;dsimp only [args,List.toList_toArray])
 (first|refine qE ?_|refine qD ?_);(simp only [go_sem,↓dP,↓reduceIte];with_reducible and_intros;all_goals first|apply qA|exact qC|skip)
 refine Ok.seq ?_
 (first|refine qE ?_|refine qD ?_);(simp only [go_sem,↓dP,↓reduceIte];with_reducible and_intros;all_goals first|apply qA|exact qC|skip)
 (refine AskI.ret (c_lshort J hf) ?_;simp only [go_sem,↓dP,↓reduceIte];with_reducible and_intros;all_goals first|apply qA|exact qC|skip)
 refine Ok.cond rfl ?_ ?_
 ·intro hs
  (first|refine qE ?_|refine qD ?_);(simp only [go_sem,↓dP,↓reduceIte];with_reducible and_intros;all_goals first|apply qA|exact qC|skip)
  (refine AskI.ret (c_known) ?_;simp only [go_sem,↓dP,↓reduceIte];with_reducible and_intros;all_goals first|apply qA|exact qC|skip)
  (refine Ok.ret ?_;(try dsimp only [thenK,blockK,noGotoK]);simp only [toList_mk,List.toList_toArray,retK_ret,retK_normal,resOK,resV,celV,rowV,frzAll,frzT,subV,subL,go_sem,↓dP,↓reduceIte])
  ((repeat' with_reducible apply And.intro)<;>(first | exact DEq.refl _ | refine DEq.int ?_ | refine DEq.bool ?_ | skip))
 intro hs
 have hh:=short_held (by simpa using hs)
 (refine Ok.skip ?_;(try dsimp only [thenK,blockK,noGotoK]))
 cases hj:jobB J
 ·(first|refine qE ?_|refine qD ?_);(simp only [go_sem,↓dP,↓reduceIte];with_reducible and_intros;all_goals first|apply qA|exact qC|skip)
  (refine AskI.ret (c_Proof0 J hh hj) ?_;simp only [go_sem,↓dP,↓reduceIte];with_reducible and_intros;all_goals first|apply qA|exact qC|skip)
  (first|refine qE ?_|refine qD ?_);(simp only [go_sem,↓dP,↓reduceIte];with_reducible and_intros;all_goals first|apply qA|exact qC|skip)
  (refine AskI.ret (toT (c_Leave0 J hh hj)) ?_;simp only [go_sem,↓dP,↓reduceIte];with_reducible and_intros;all_goals first|apply qA|exact qC|skip)
  refine Ok.seq ?_
  (first|refine qE ?_|refine qD ?_);(simp only [go_sem,↓dP,↓reduceIte];with_reducible and_intros;all_goals first|apply qA|exact qC|skip)
  (refine AskI.ret (c_rJob J hh) ?_;simp only [go_sem,↓dP,↓reduceIte];with_reducible and_intros;all_goals first|apply qA|exact qC|skip)
  refine Ok.cond rfl (fun _ => ?_) (fun hb => by rw [hj] at hb;cases hb)
  (first|refine qE ?_|refine qD ?_);(simp only [go_sem,↓dP,↓reduceIte];with_reducible and_intros;all_goals first|apply qA|exact qC|skip)
  ·exact stEqSpan
  (refine AskGI.ret (fun _ => c_known) ?_;simp only [go_sem,↓dP,↓reduceIte];with_reducible and_intros;all_goals first|apply qA|exact qC|skip)
  (refine Ok.ret ?_;(try dsimp only [thenK,blockK,noGotoK]);simp only [toList_mk,List.toList_toArray,retK_ret,retK_normal,resOK,resV,celV,rowV,frzAll,frzT,subV,subL,go_sem,↓dP,↓reduceIte])
  ((repeat' with_reducible apply And.intro)<;>(first | exact DEq.refl _ | refine DEq.int ?_ | refine DEq.bool ?_ | skip))
 ·have h:=jobB_iff.1 hj
  have hp:=h.p1
  have hP:=c_Proof J h.based hh hj
  have hL:=toT (c_Leave J h.based hh h.timed (by omega) hj)
  have hrL:=c_rLeave J h.based h.timed hp
  have hrP:=c_rProof J h.based
  have hrW:=fun lo up => c_rWithin J h.based lo up
  have hbl:∀ lo up,(asI (boundL (spans J false) lo up)).length<=J.ps.length:=fun lo up => by rw [asI_len,← spans_len J false];exact boundL_le _ _ _
  have hll:=leave_short h
  cases hpr:proofL (spans J false) with
  | none =>
   rw [prfS_none hpr] at hP
   rw [hpr] at hrP
   (first|refine qE ?_|refine qD ?_);(simp only [go_sem,↓dP,↓reduceIte];with_reducible and_intros;all_goals first|apply qA|exact qC|skip)
   (refine AskI.ret (hP) ?_;simp only [go_sem,↓dP,↓reduceIte];with_reducible and_intros;all_goals first|apply qA|exact qC|skip)
   (first|refine qE ?_|refine qD ?_);(simp only [go_sem,↓dP,↓reduceIte];with_reducible and_intros;all_goals first|apply qA|exact qC|skip)
   (refine AskI.ret (hL) ?_;simp only [go_sem,↓dP,↓reduceIte];with_reducible and_intros;all_goals first|apply qA|exact qC|skip)
   refine Ok.seq ?_
   (first|refine qE ?_|refine qD ?_);(simp only [go_sem,↓dP,↓reduceIte];with_reducible and_intros;all_goals first|apply qA|exact qC|skip)
   (refine AskI.ret (c_rJob J hh) ?_;simp only [go_sem,↓dP,↓reduceIte];with_reducible and_intros;all_goals first|apply qA|exact qC|skip)
   refine Ok.cond rfl (fun hb => by rw [hj] at hb;cases hb) (fun _ => ?_)
   (refine Ok.skip ?_;(try dsimp only [thenK,blockK,noGotoK]))
   refine Ok.seq ?_
   (first|refine qE ?_|refine qD ?_);(simp only [go_sem,↓dP,↓reduceIte];with_reducible and_intros;all_goals first|apply qA|exact qC|skip)
   (refine AskGI.ret (fun _ => hrL) ?_;simp only [go_sem,↓dP,↓reduceIte];with_reducible and_intros;all_goals first|apply qA|exact qC|skip)
   (refine AskGI.ret (fun _ => c_tSame _ _ (by omega) (by omega)) ?_;simp only [go_sem,↓dP,↓reduceIte];with_reducible and_intros;all_goals first|apply qA|exact qC|skip)
   refine Ok.cond rfl (fun hb => by simp at hb) (fun _ => ?_)
   (refine Ok.skip ?_;(try dsimp only [thenK,blockK,noGotoK]))
   (first|refine qE ?_|refine qD ?_);(simp only [go_sem,↓dP,↓reduceIte];with_reducible and_intros;all_goals first|apply qA|exact qC|skip)
   (refine AskI.ret (hrP) ?_;simp only [go_sem,↓dP,↓reduceIte];with_reducible and_intros;all_goals first|apply qA|exact qC|skip)
   refine Ok.seq ?_
   (first|refine qE ?_|refine qD ?_);(simp only [go_sem,↓dP,↓reduceIte];with_reducible and_intros;all_goals first|apply qA|exact qC|skip)
   refine Ok.cond (b:=true) (by first | rfl | (simp only [go_sem,↓dP,↓reduceIte];rfl)) (fun _ => ?_) (fun hb => by cases hb)
   (first|refine qE ?_|refine qD ?_);(simp only [go_sem,↓dP,↓reduceIte];with_reducible and_intros;all_goals first|apply qA|exact qC|skip)
   ·exact stEqSpan
   (refine AskGI.ret (fun _ => c_known) ?_;simp only [go_sem,↓dP,↓reduceIte];with_reducible and_intros;all_goals first|apply qA|exact qC|skip)
   (refine Ok.ret ?_;(try dsimp only [thenK,blockK,noGotoK]);simp only [toList_mk,List.toList_toArray,retK_ret,retK_normal,resOK,resV,celV,rowV,frzAll,frzT,subV,subL,go_sem,↓dP,↓reduceIte])
   ((repeat' with_reducible apply And.intro)<;>(first | exact DEq.refl _ | refine DEq.int ?_ | refine DEq.bool ?_ | skip))
  | some s =>
   rw [prfS_some hpr] at hP
   rw [hpr] at hrP
   (first|refine qE ?_|refine qD ?_);(simp only [go_sem,↓dP,↓reduceIte];with_reducible and_intros;all_goals first|apply qA|exact qC|skip)
   (refine AskI.ret (hP) ?_;simp only [go_sem,↓dP,↓reduceIte];with_reducible and_intros;all_goals first|apply qA|exact qC|skip)
   (first|refine qE ?_|refine qD ?_);(simp only [go_sem,↓dP,↓reduceIte];with_reducible and_intros;all_goals first|apply qA|exact qC|skip)
   (refine AskI.ret (hL) ?_;simp only [go_sem,↓dP,↓reduceIte];with_reducible and_intros;all_goals first|apply qA|exact qC|skip)
   refine Ok.seq ?_
   (first|refine qE ?_|refine qD ?_);(simp only [go_sem,↓dP,↓reduceIte];with_reducible and_intros;all_goals first|apply qA|exact qC|skip)
   (refine AskI.ret (c_rJob J hh) ?_;simp only [go_sem,↓dP,↓reduceIte];with_reducible and_intros;all_goals first|apply qA|exact qC|skip)
   refine Ok.cond rfl (fun hb => by rw [hj] at hb;cases hb) (fun _ => ?_)
   (refine Ok.skip ?_;(try dsimp only [thenK,blockK,noGotoK]))
   refine Ok.seq ?_
   (first|refine qE ?_|refine qD ?_);(simp only [go_sem,↓dP,↓reduceIte];with_reducible and_intros;all_goals first|apply qA|exact qC|skip)
   (refine AskGI.ret (fun _ => hrL) ?_;simp only [go_sem,↓dP,↓reduceIte];with_reducible and_intros;all_goals first|apply qA|exact qC|skip)
   (refine AskGI.ret (fun _ => c_tSame _ _ (by omega) (by omega)) ?_;simp only [go_sem,↓dP,↓reduceIte];with_reducible and_intros;all_goals first|apply qA|exact qC|skip)
   refine Ok.cond rfl (fun hb => by simp at hb) (fun _ => ?_)
   (refine Ok.skip ?_;(try dsimp only [thenK,blockK,noGotoK]))
   (first|refine qE ?_|refine qD ?_);(simp only [go_sem,↓dP,↓reduceIte];with_reducible and_intros;all_goals first|apply qA|exact qC|skip)
   (refine AskI.ret (hrP) ?_;simp only [go_sem,↓dP,↓reduceIte];with_reducible and_intros;all_goals first|apply qA|exact qC|skip)
   refine Ok.seq ?_
   (first|refine qE ?_|refine qD ?_);(simp only [go_sem,↓dP,↓reduceIte];with_reducible and_intros;all_goals first|apply qA|exact qC|skip)
   refine Ok.cond (b:=false) (by first | rfl | (simp only [go_sem,↓dP,↓reduceIte];rfl)) (fun hb => by cases hb) (fun _ => ?_)
   (refine Ok.skip ?_;(try dsimp only [thenK,blockK,noGotoK]))
   (first|refine qE ?_|refine qD ?_);(simp only [go_sem,↓dP,↓reduceIte];with_reducible and_intros;all_goals first|apply qA|exact qC|skip)
   ·exact stEqSpan
   (refine AskGI.ret (fun _ => hrW s.1 s.2) ?_;simp only [go_sem,↓dP,↓reduceIte];with_reducible and_intros;all_goals first|apply qA|exact qC|skip)
   (refine AskGI.ret (fun _ => c_tSame _ _ (by have:=hbl s.1 s.2;omega) (by have:=hbl s.1 s.2;omega)) ?_;simp only [go_sem,↓dP,↓reduceIte];with_reducible and_intros;all_goals first|apply qA|exact qC|skip)
   (refine AskGI.ret (fun _ => c_known) ?_;simp only [go_sem,↓dP,↓reduceIte];with_reducible and_intros;all_goals first|apply qA|exact qC|skip)
   (refine Ok.ret ?_;(try dsimp only [thenK,blockK,noGotoK]);simp only [toList_mk,List.toList_toArray,retK_ret,retK_normal,resOK,resV,celV,rowV,frzAll,frzT,subV,subL,go_sem,↓dP,↓reduceIte])
   ((repeat' with_reducible apply And.intro)<;>(first | exact DEq.refl _ | refine DEq.int ?_ | refine DEq.bool ?_ | skip))
end
end Go.Proofs.Leaf
namespace Go.Proofs.YtdajcfdhcjbmmaaGreatDoor
open Go Go.RX Go.Proofs.Leaf Go.RowKit Go.ChangeShapes Go.WideShapes Go.ChangeAt
set_option maxRecDepth 100000
theorem leafProofs_ctr (As:List SV) (h:opensAll [25] As):Ctr Tryz.prog 4 As (bS true):=by
 obtain ⟨_,A1,rfl,h0,h⟩:=opensAll_cons h
 obtain rfl:=opensAll_nil h
 obtain ⟨x0,rfl,y0⟩:=opens_job h0
 exact law_Proofs x0 y0
theorem leafProofs_facts:joinedFacts Tryz.prog 4 Tryz.f4 Rows.leafProofsSpec Rows.leafProofsRow = true:=by unfold joinedFacts;rw [enter_is,final_is,make_is];kernel_rfl
theorem leafProofs_lifted (os:Os) (started:os.Started) (H:Type) (enc:TypeId×Value->H) :
  ReturnsInHanded {} Tryz.checked os 4 .any (fun w args => (Rows.leafProofsSpec.pre enc Tryz.prog Tryz.f4 [] false w args/\laidMetH Tryz.prog laid5 w)/\sizedMet enc Tryz.prog Tryz.f4 (OpenSpec.ofChange Rows.leafProofsSpec) false w args)
   (Rows.leafProofsSpec.post enc Tryz.prog Tryz.f4 false true false false):=by
 refine law_ctr (ts:=[25]) Rows.leafProofsSpec rfl started (by kernel_rfl) Tryz.func4 (by kernel_rfl) (by rw [Tryz.params4]) (by unfold argT;decide)
  (fun ds hd => ?_)
  (ChangeSpec.witness_shaped (enc:=enc) (C:=Tryz.checked) (os:=os) (X:=fun w _ => laidMetH Tryz.prog laid5 w) false (World.laidAll Tryz.prog os laid5) #[zJ] 8 (World.laidAll_os _ _ _)
   (World.shaped_of_ZipB (by kernel_rfl) (by kernel_rfl)) (by kernel_rfl) (by kernel_rfl) (by kernel_rfl)
   (by rw [MakeChecks.laidMetH_plain _ _ _ (by kernel_rfl)];exact laidMet_laidAll _ (by kernel_rfl) (by kernel_rfl))) leafProofs_ctr
 match ds,hd with
 | [d0],_ => rfl
theorem leafProofs_row:Rows.LeafProofsSaid :=
 OpenClaim.holds_of_wide 4 Tryz.f4 rfl rfl rfl rfl rfl rfl rfl ⟨rfl,rfl,rfl,rfl,rfl⟩ rfl rfl rfl rfl rfl (by kernel_rfl) Tryz.func4 leafProofs_facts (of_decide_eq_true (by kernel_rfl))
  (by unfold Func.isWrapper;first | (rw [if_pos (by decide +kernel)];kernel_rfl) | (rw [if_neg (by decide +kernel)];exact ⟨rfl,rfl⟩)) (fun os started H enc _ => leafProofs_lifted os started H enc)
theorem leafProofs_card:Rows.LeafProofsCardSaid :=
 Claim7.holds_tied_plain_at .later [] [.data,.data,.data,.data,.pinned] true (true,"9e87e616c4e1775f9d0f73ad686290748eaae9f5c03add0b1bcc61ba8396e555") true leafProofs_row
  (fun _ h => by cases h) (by kernel_rfl) (fun _ h => by cases h) leafProofs_row_tie rfl ⟨rfl,rfl⟩ main_is rfl
  (fun f fn hf hfn => by
   obtain rfl:f = 4:=Option.some.inj ((show Tryz.prog.funcNamed "mahlstick/mahlsticklaw04.LeafProofs" = some 4 by kernel_rfl).symm.trans hf) |>.symm
   obtain rfl:fn = Tryz.f4:=(Option.some.inj (Tryz.func4.symm.trans hfn)).symm
   exact ⟨by kernel_rfl,fun j t ht => by
    rw [Tryz.params4] at ht
    exact law_stand (ts:=[25]) (by unfold argT;decide) (by simpa using Array.mem_of_getElem? ht)⟩) (by kernel_rfl)
end Go.Proofs.YtdajcfdhcjbmmaaGreatDoor
