/-
  The best cutting: LeafCutting returns true at every input, and leaves it as it was.
  No condition beside those that the statement itself names.
-/
import Derived.Test.YtojfpogcfpmblaaGreatDoorB30
import Derived.ChangeMaps5
set_option linter.all false
namespace Go.Proofs.Leaf
def beforeL:List Int->List Int->Bool
 | [],[] => false
 | [],_ :: _ => true
 | _ :: _,[] => false
 | x :: l,y :: m => if x = y then beforeL l m else decide (x < y)
theorem before_pre:∀ (now:List Int) (l m:List Int),beforeL (now ++ l) (now ++ m) = beforeL l m
 | [],_,_ => rfl
 | x :: now,l,m => by simp [beforeL,before_pre now l m]
theorem before_irr:∀ l:List Int,beforeL l l = false
 | [] => rfl
 | x :: l => by simp [beforeL,before_irr l]
theorem before_asymm:∀ (l m:List Int),beforeL l m = true->beforeL m l = false
 | [],[],h => by cases h
 | [],_ :: _,_ => rfl
 | _ :: _,[],h => by cases h
 | x :: l,y :: m,h => by
  unfold beforeL at h ⊢
  by_cases e:x = y
  ·rw [if_pos e] at h;rw [if_pos e.symm];exact before_asymm l m h
  ·rw [if_neg e,decide_eq_true_eq] at h
   rw [if_neg (fun q => e q.symm),decide_eq_false_iff_not];omega
end Go.Proofs.Leaf
namespace Go.Proofs.Leaf
theorem lists_sorted:∀ (k:Nat) (now:List Nat),(listsK k now).Pairwise (fun l m => beforeL (asI l) (asI m) = true)
 | 0,now => by simp [listsK]
 | k + 1,now => by
  rw [listsK,List.pairwise_flatMap]
  refine ⟨fun n _ => lists_sorted k _,List.pairwise_lt_range.imp (fun {n m} hlt x hx y hy => ?_)⟩
  obtain ⟨t,rfl,_⟩:=listsK_pre k _ _ hx
  obtain ⟨u,rfl,_⟩:=listsK_pre k _ _ hy
  have e:∀ (n:Nat) (t:List Nat),asI (now ++ [n] ++ t) = asI now ++ ((n:Int) :: asI t):=fun n t => by simp [asI]
  rw [e,e,before_pre,beforeL,if_neg (by omega)]
  exact decide_eq_true (by omega)
theorem bests_sorted (fit:Nat->Bool) (k:Nat):(bestsL fit k).Pairwise (fun l m => beforeL (asI l) (asI m) = true):=by
 rw [bestsL,bestF_eq,cutsL]
 exact ((lists_sorted k []).sublist List.filter_sublist).sublist List.filter_sublist
theorem bests_none {fit:Nat->Bool} {k:Nat}:bestsL fit k = [] ↔ cutsL fit k = []:=by
 constructor
 ·intro h
  refine Classical.byContradiction (fun hne => ?_)
  have:∃ l∈cutsL fit k,∀ m∈cutsL fit k,leaves l<=leaves m:=by
   generalize cutsL fit k = L at hne
   clear h
   induction L with
   | nil => exact absurd rfl hne
   | cons a L ih =>
    by_cases hL:L = []
    ·subst hL
     exact ⟨a,List.mem_cons_self ..,fun m hm => by simp at hm;subst hm;exact Nat.le_refl _⟩
    ·obtain ⟨l,h1,h2⟩:=ih hL
     by_cases hle:leaves a<=leaves l
     ·refine ⟨a,List.mem_cons_self ..,fun m hm => ?_⟩
      rcases List.mem_cons.1 hm with rfl | hm
      ·exact Nat.le_refl _
      ·exact Nat.le_trans hle (h2 m hm)
     ·refine ⟨l,List.mem_cons_of_mem _ h1,fun m hm => ?_⟩
      rcases List.mem_cons.1 hm with rfl | hm
      ·omega
      ·exact h2 m hm
  obtain ⟨l,h1,h2⟩:=this
  have:=mem_bestsL.2 ⟨h1,h2⟩
  rw [h] at this;cases this
 ·intro h
  rw [bestsL,h];rfl
theorem best_first {fit:Nat->Bool} {k:Nat} {l m:List Nat} (hl:(bestsL fit k).head? = some l) (hm:m∈cutsL fit k) :
  leaves l < leaves m∨(leaves l = leaves m/\beforeL (asI m) (asI l) = false/\(m = l∨1 < (bestsL fit k).length)):=by
 have h1:l∈bestsL fit k:=List.mem_of_head? hl
 obtain ⟨h2,h3⟩:=mem_bestsL.1 h1
 have h4:=h3 m hm
 by_cases e:leaves l = leaves m
 ·refine .inr ⟨e,?_,?_⟩
  ·have hmb:m∈bestsL fit k:=mem_bestsL.2 ⟨hm,fun x hx => by have:=h3 x hx;omega⟩
   have hs:=bests_sorted fit k
   revert hl hs hmb
   generalize bestsL fit k = L
   intro hl hmb hs
   cases L with
   | nil => cases hmb
   | cons z L =>
    simp at hl;subst hl
    rcases List.mem_cons.1 hmb with rfl | hmb
    ·exact before_irr _
    ·exact before_asymm _ _ ((List.pairwise_cons.1 hs).1 m hmb)
  ·have hmb:m∈bestsL fit k:=mem_bestsL.2 ⟨hm,fun x hx => by have:=h3 x hx;omega⟩
   revert hl hmb
   generalize bestsL fit k = L
   intro hl hmb
   cases L with
   | nil => cases hmb
   | cons z L =>
    simp at hl;subst hl
    rcases List.mem_cons.1 hmb with rfl | hmb
    ·exact .inl rfl
    ·exact .inr (by have:=List.length_pos_of_mem hmb;simp;omega)
 ·exact .inl (by omega)
theorem grows_range:∀ (k n:Nat),grows (List.range' n k) n = true
 | 0,n => rfl
 | k + 1,n => by
  rw [List.range'_succ,grows,Nat.max_eq_right (by omega),grows_range k (n + 1)]
  simp
theorem leaves_range:∀ (k:Nat),leaves (List.range k) = k
 | 0 => rfl
 | k + 1 => by rw [List.range_succ,leaves_snoc,leaves_range k];omega
theorem mask_range (k n:Nat) (h:n < k):mask (List.range k) n = 2 ^ n:=by
 apply Nat.eq_of_testBit_eq
 intro i
 rw [mask_bit,Nat.testBit_two_pow,List.length_range]
 by_cases hi:i < k
 ·have:(List.range k).getD i 0 = i:=by simp [List.getD_eq_getElem?_getD,hi]
  rw [this,decide_eq_true hi,Bool.true_and]
  by_cases e:i = n
  ·simp [e]
  ·rw [decide_eq_false e,decide_eq_false (fun q => e q.symm)]
 ·rw [decide_eq_false hi,Bool.false_and,decide_eq_false (by omega)]
theorem cuts_iff {fit:Nat->Bool} (hsub:∀ s t,t &&& s = t->fit s = true->fit t = true) (k:Nat):bestsL fit k ≠ [] ↔ ∀ i,i < k->fit (2 ^ i) = true:=by
 rw [Ne,bests_none]
 constructor
 ·intro h i hi
  cases hc:cutsL fit k with
  | nil => exact absurd hc h
  | cons l L =>
   have hl:l∈cutsL fit k:=by rw [hc];exact List.mem_cons_self ..
   obtain ⟨a,b,c⟩:=mem_cutsL.1 hl
   have hm:l.getD i 0∈l:=by
    rw [List.getD_eq_getElem?_getD,List.getElem?_eq_getElem (by omega)]
    exact List.getElem_mem (by omega)
   refine hsub _ _ (sub_of (fun n hn => ?_)) (c (l.getD i 0) (leaves_le l _ hm))
   rw [Nat.testBit_two_pow,decide_eq_true_eq] at hn
   subst hn
   rw [mask_bit,decide_eq_true (by omega),decide_eq_true rfl];rfl
 ·intro h hc
  have:List.range k∈cutsL fit k:=mem_cutsL.2 ⟨List.length_range,by rw [List.range_eq_range'];exact grows_range k 0,fun n hn => by
   rw [leaves_range] at hn
   rw [mask_range k n hn];exact h n hn⟩
  rw [hc] at this;cases this
end Go.Proofs.Leaf
namespace Go.Proofs.Leaf
theorem bit_lt {t n i:Nat} (h:t < 2 ^ n) (hi:n<=i):t.testBit i = false:=Nat.testBit_lt_two_pow (Nat.lt_of_lt_of_le h (Nat.pow_le_pow_right (by decide) hi))
end Go.Proofs.Leaf
namespace Go.Proofs.Leaf
open Go Go.RX Go.Proofs
set_option maxRecDepth 10000
variable [Glob]
theorem c_rin (n lo hi:Int):Ctr Tryz.prog 60 [iS n,iS lo,iS hi] (bS (inB n lo hi)):=by
 (refine Ctr.mk (fn:=Tryz.f60) rfl rfl rfl rfl rfl Tryz.results60 ?_;intro _;dsimp only [args,List.toList_toArray])
 (first|refine qE ?_|refine qD ?_);(simp only [go_sem,↓dP,↓reduceIte];with_reducible and_intros;all_goals first|apply qA|exact qC|skip)
 (first|refine qE ?_|refine qD ?_);(simp only [go_sem,↓dP,↓reduceIte];with_reducible and_intros;all_goals first|apply qA|exact qC|skip)
 (refine Ok.ret ?_;(try dsimp only [thenK,blockK,noGotoK]);simp only [toList_mk,List.toList_toArray,retK_ret,retK_normal,resOK,resV,celV,rowV,frzAll,frzT,subV,subL,go_sem,↓dP,↓reduceIte])
 exact .refl _
end Go.Proofs.Leaf
namespace Go.Proofs.Leaf
open Go Go.RX Go.Proofs
set_option maxRecDepth 10000
variable [Glob]
theorem c_rJob (J:Job) (hh:J.held):Ctr Tryz.prog 24 [J.sv] (bS (jobB J)):=by
 have hh1:=hh.1
 have hh2:=hh.2
 (refine Ctr.mk (fn:=Tryz.f24) rfl rfl rfl rfl rfl Tryz.results24 ?_;intro _;dsimp only [args,List.toList_toArray])
 (first|refine qE ?_|refine qD ?_);(simp only [go_sem,↓dP,↓reduceIte];with_reducible and_intros;all_goals first|apply qA|exact qC|skip)
 refine Ok.seq ?_
 (first|refine qE ?_|refine qD ?_);(simp only [go_sem,↓dP,↓reduceIte];with_reducible and_intros;all_goals first|apply qA|exact qC|skip)
 (refine AskI.ret (c_rin _ _ _) ?_;simp only [go_sem,↓dP,↓reduceIte];with_reducible and_intros;all_goals first|apply qA|exact qC|skip)
 (refine AskGI.ret (fun _ => c_rin _ _ _) ?_;simp only [go_sem,↓dP,↓reduceIte];with_reducible and_intros;all_goals first|apply qA|exact qC|skip)
 (refine AskGI.ret (fun _ => c_rin _ _ _) ?_;simp only [go_sem,↓dP,↓reduceIte];with_reducible and_intros;all_goals first|apply qA|exact qC|skip)
 ·intro h
  have:inB J.book 1 25 = true:=by revert h;cases inB J.book 1 25<;>simp
  rw [inB_iff] at this
  exact R64 (by omega) (by omega)
 (refine AskGI.ret (fun _ => c_rin _ _ _) ?_;simp only [go_sem,↓dP,↓reduceIte];with_reducible and_intros;all_goals first|apply qA|exact qC|skip)
 (refine AskGI.ret (fun _ => c_rin _ _ _) ?_;simp only [go_sem,↓dP,↓reduceIte];with_reducible and_intros;all_goals first|apply qA|exact qC|skip)
 (refine AskGI.ret (fun _ => c_rin _ _ _) ?_;simp only [go_sem,↓dP,↓reduceIte];with_reducible and_intros;all_goals first|apply qA|exact qC|skip)
 refine Ok.cond rfl ?_ ?_
 ·intro hb
  (first|refine qE ?_|refine qD ?_);(simp only [go_sem,↓dP,↓reduceIte];with_reducible and_intros;all_goals first|apply qA|exact qC|skip)
  (refine Ok.ret ?_;(try dsimp only [thenK,blockK,noGotoK]);simp only [toList_mk,List.toList_toArray,retK_ret,retK_normal,resOK,resV,celV,rowV,frzAll,frzT,subV,subL,go_sem,↓dP,↓reduceIte])
  refine DEq.bool ?_
  have:headB J = false:=by
   revert hb
   unfold headB
   cases inB J.wide 1 6<;>cases inB J.high 1 6<;>cases inB J.book 1 25<;>cases inB J.spoilt 0 (J.book - 1)<;>cases inB J.gs.length 1 3<;>cases inB J.ps.length 1 5<;>simp
  simp [jobB,this]
 intro hb
 have hhead:headB J = true:=by
  revert hb
  unfold headB
  cases inB J.wide 1 6<;>cases inB J.high 1 6<;>cases inB J.book 1 25<;>cases inB J.spoilt 0 (J.book - 1)<;>cases inB J.gs.length 1 3<;>cases inB J.ps.length 1 5<;>simp
 (refine Ok.skip ?_;(try dsimp only [thenK,blockK,noGotoK]))
 refine Ok.seq ?_
 (first|refine qE ?_|refine qD ?_);(simp only [go_sem,↓dP,↓reduceIte];with_reducible and_intros;all_goals first|apply qA|exact qC|skip)
 refine Ok.block ?_
 refine Ok.count J.gs.length (fun i => ⟨[(1,.p 0 0),(3,iS i)],[jobC J],[]⟩) (fun i => ∀ x∈J.gs.take i,(!groundB x) = false) ⟨fun x hx => by simp at hx,?_⟩ ?_ ?_
 ·(refine Sub.of ([0]) ([]) ?_ ?_ ?_ rfl rfl<;>simp only [subB,subB1,subT,subT1,newT,subE,subV,subL,go_sem,↓dP,↓reduceIte]<;>(try (repeat' with_reducible apply And.intro))<;>(try first | exact DEq.refl _ | refine DEq.int ?_ | refine DEq.bool ?_ | omega))
 ·intro i hi h0
  refine Ok.seq ?_;((first|refine qE ?_|refine qD ?_);(simp only [go_sem,↓dP,↓reduceIte];with_reducible and_intros;all_goals first|apply qA|exact qC|skip));refine Ok.cond rfl (fun _ => ?_) (fun hb => by simp at hb;omega);(refine Ok.skip ?_;(try dsimp only [thenK,blockK,noGotoK]));refine Ok.seq ?_;refine Ok.block ?_
  (first|refine qE ?_|refine qD ?_);(simp only [go_sem,↓dP,↓reduceIte];with_reducible and_intros;all_goals first|apply qA|exact qC|skip)
  (first|refine qE ?_|refine qD ?_);(simp only [go_sem,↓dP,↓reduceIte];with_reducible and_intros;all_goals first|apply qA|exact qC|skip)
  (refine AskI.ret (c_rin _ _ _) ?_;simp only [go_sem,↓dP,↓reduceIte];with_reducible and_intros;all_goals first|apply qA|exact qC|skip)
  (refine AskGI.ret (fun _ => c_rin _ _ _) ?_;simp only [go_sem,↓dP,↓reduceIte];with_reducible and_intros;all_goals first|apply qA|exact qC|skip)
  (refine AskGI.ret (fun _ => c_rin _ _ _) ?_;simp only [go_sem,↓dP,↓reduceIte];with_reducible and_intros;all_goals first|apply qA|exact qC|skip)
  (refine AskGI.ret (fun _ => c_rin _ _ _) ?_;simp only [go_sem,↓dP,↓reduceIte];with_reducible and_intros;all_goals first|apply qA|exact qC|skip)
  have hg:groundB (J.gs.getD i default) = (inB (J.gs.getD i default).rl 0 12 && inB (J.gs.getD i default).rh (J.gs.getD i default).rl 12 && inB (J.gs.getD i default).ll (J.gs.getD i default).rh 12 && inB (J.gs.getD i default).lh (J.gs.getD i default).ll 12):=rfl
  refine Ok.cond rfl ?_ ?_
  ·intro hx
   have hx':(!groundB (J.gs.getD i default)) = true:=by
    rw [hg]
    revert hx
    cases inB (J.gs.getD i default).rl 0 12<;>cases inB (J.gs.getD i default).rh (J.gs.getD i default).rl 12<;>cases inB (J.gs.getD i default).ll (J.gs.getD i default).rh 12<;>cases inB (J.gs.getD i default).lh (J.gs.getD i default).ll 12<;>simp
   (first|refine qE ?_|refine qD ?_);(simp only [go_sem,↓dP,↓reduceIte];with_reducible and_intros;all_goals first|apply qA|exact qC|skip)
   (refine Ok.ret ?_;(try dsimp only [thenK,blockK,noGotoK]);simp only [toList_mk,List.toList_toArray,retK_ret,retK_normal,resOK,resV,celV,rowV,frzAll,frzT,subV,subL,go_sem,↓dP,↓reduceIte])
   refine DEq.bool ?_
   have:J.gs.any (fun g => !groundB g) = true:=List.any_eq_true.2 ⟨_,getD_mem hi,hx'⟩
   rw [jobB,all_any,this];simp
  ·intro hx
   have hx':(!groundB (J.gs.getD i default)) = false:=by
    rw [hg]
    revert hx
    cases inB (J.gs.getD i default).rl 0 12<;>cases inB (J.gs.getD i default).rh (J.gs.getD i default).rl 12<;>cases inB (J.gs.getD i default).ll (J.gs.getD i default).rh 12<;>cases inB (J.gs.getD i default).lh (J.gs.getD i default).ll 12<;>simp
   (refine Ok.skip ?_;(try dsimp only [thenK,blockK,noGotoK]))
   (first|refine qE ?_|refine qD ?_);(simp only [go_sem,↓dP,↓reduceIte];with_reducible and_intros;all_goals first|apply qA|exact qC|skip)
   (try dsimp only [thenK,blockK,noGotoK])
   refine ⟨no_step (q:=fun g => !groundB g) hi h0 hx',?_⟩
   (refine Sub.of ([0]) ([]) ?_ ?_ ?_ rfl rfl<;>simp only [subB,subB1,subT,subT1,newT,subE,subV,subL,go_sem,↓dP,↓reduceIte]<;>(try (repeat' with_reducible apply And.intro))<;>(try first | exact DEq.refl _ | refine DEq.int ?_ | refine DEq.bool ?_ | omega))
 intro h0
 have hgs:J.gs.any (fun g => !groundB g) = false:=List.any_eq_false.2 (fun x hx => by simp [h0 x (by simpa using hx)])
 refine Ok.seq ?_;((first|refine qE ?_|refine qD ?_);(simp only [go_sem,↓dP,↓reduceIte];with_reducible and_intros;all_goals first|apply qA|exact qC|skip));refine Ok.cond rfl (fun hb => by simp at hb) (fun _ => ?_);(refine Ok.exit ?_;simp only [thenK_exit,blockK_exit,noGotoK_exit,thenK_normal,blockK_normal,noGotoK_normal,↓reduceIte,Nat.reduceEqDiff])
 refine Ok.seq ?_
 (first|refine qE ?_|refine qD ?_);(simp only [go_sem,↓dP,↓reduceIte];with_reducible and_intros;all_goals first|apply qA|exact qC|skip)
 refine Ok.block ?_
 refine Ok.count J.ps.length (fun i => ⟨[(1,.p 0 0),(5,iS i)],[jobC J],[]⟩) (fun i => ∀ x∈J.ps.take i,(!pieceB J.gs.length x) = false) ⟨fun x hx => by simp at hx,?_⟩ ?_ ?_
 ·(refine Sub.of ([0]) ([]) ?_ ?_ ?_ rfl rfl<;>simp only [subB,subB1,subT,subT1,newT,subE,subV,subL,go_sem,↓dP,↓reduceIte]<;>(try (repeat' with_reducible apply And.intro))<;>(try first | exact DEq.refl _ | refine DEq.int ?_ | refine DEq.bool ?_ | omega))
 ·intro i hi h0
  refine Ok.seq ?_;((first|refine qE ?_|refine qD ?_);(simp only [go_sem,↓dP,↓reduceIte];with_reducible and_intros;all_goals first|apply qA|exact qC|skip));refine Ok.cond rfl (fun _ => ?_) (fun hb => by simp at hb;omega);(refine Ok.skip ?_;(try dsimp only [thenK,blockK,noGotoK]));refine Ok.seq ?_;refine Ok.block ?_
  (first|refine qE ?_|refine qD ?_);(simp only [go_sem,↓dP,↓reduceIte];with_reducible and_intros;all_goals first|apply qA|exact qC|skip)
  (first|refine qE ?_|refine qD ?_);(simp only [go_sem,↓dP,↓reduceIte];with_reducible and_intros;all_goals first|apply qA|exact qC|skip)
  (refine AskI.ret (c_rin _ _ _) ?_;simp only [go_sem,↓dP,↓reduceIte];with_reducible and_intros;all_goals first|apply qA|exact qC|skip)
  (refine AskGI.ret (fun _ => c_rin _ _ _) ?_;simp only [go_sem,↓dP,↓reduceIte];with_reducible and_intros;all_goals first|apply qA|exact qC|skip)
  (refine AskGI.ret (fun _ => c_rin _ _ _) ?_;simp only [go_sem,↓dP,↓reduceIte];with_reducible and_intros;all_goals first|apply qA|exact qC|skip)
  have hg:pieceB J.gs.length (J.ps.getD i default) = (inB (J.ps.getD i default).w 1 6 && inB (J.ps.getD i default).h 1 6 && inB (J.ps.getD i default).g 0 (J.gs.length - 1)):=rfl
  refine Ok.cond rfl ?_ ?_
  ·intro hx
   have hx':(!pieceB J.gs.length (J.ps.getD i default)) = true:=by
    rw [hg]
    revert hx
    cases inB (J.ps.getD i default).w 1 6<;>cases inB (J.ps.getD i default).h 1 6<;>cases inB (J.ps.getD i default).g 0 (J.gs.length - 1)<;>simp
   (first|refine qE ?_|refine qD ?_);(simp only [go_sem,↓dP,↓reduceIte];with_reducible and_intros;all_goals first|apply qA|exact qC|skip)
   (refine Ok.ret ?_;(try dsimp only [thenK,blockK,noGotoK]);simp only [toList_mk,List.toList_toArray,retK_ret,retK_normal,resOK,resV,celV,rowV,frzAll,frzT,subV,subL,go_sem,↓dP,↓reduceIte])
   refine DEq.bool ?_
   have:J.ps.any (fun p => !pieceB J.gs.length p) = true:=List.any_eq_true.2 ⟨_,getD_mem hi,hx'⟩
   rw [jobB,all_any J.ps,this];simp
  ·intro hx
   have hx':(!pieceB J.gs.length (J.ps.getD i default)) = false:=by
    rw [hg]
    revert hx
    cases inB (J.ps.getD i default).w 1 6<;>cases inB (J.ps.getD i default).h 1 6<;>cases inB (J.ps.getD i default).g 0 (J.gs.length - 1)<;>simp
   (refine Ok.skip ?_;(try dsimp only [thenK,blockK,noGotoK]))
   (first|refine qE ?_|refine qD ?_);(simp only [go_sem,↓dP,↓reduceIte];with_reducible and_intros;all_goals first|apply qA|exact qC|skip)
   (try dsimp only [thenK,blockK,noGotoK])
   refine ⟨no_step (q:=fun p => !pieceB J.gs.length p) hi h0 hx',?_⟩
   (refine Sub.of ([0]) ([]) ?_ ?_ ?_ rfl rfl<;>simp only [subB,subB1,subT,subT1,newT,subE,subV,subL,go_sem,↓dP,↓reduceIte]<;>(try (repeat' with_reducible apply And.intro))<;>(try first | exact DEq.refl _ | refine DEq.int ?_ | refine DEq.bool ?_ | omega))
 ·intro h0
  have hps:J.ps.any (fun p => !pieceB J.gs.length p) = false:=List.any_eq_false.2 (fun x hx => by simp [h0 x (by simpa using hx)])
  refine Ok.seq ?_;((first|refine qE ?_|refine qD ?_);(simp only [go_sem,↓dP,↓reduceIte];with_reducible and_intros;all_goals first|apply qA|exact qC|skip));refine Ok.cond rfl (fun hb => by simp at hb) (fun _ => ?_);(refine Ok.exit ?_;simp only [thenK_exit,blockK_exit,noGotoK_exit,thenK_normal,blockK_normal,noGotoK_normal,↓reduceIte,Nat.reduceEqDiff])
  (first|refine qE ?_|refine qD ?_);(simp only [go_sem,↓dP,↓reduceIte];with_reducible and_intros;all_goals first|apply qA|exact qC|skip)
  (refine Ok.ret ?_;(try dsimp only [thenK,blockK,noGotoK]);simp only [toList_mk,List.toList_toArray,retK_ret,retK_normal,resOK,resV,celV,rowV,frzAll,frzT,subV,subL,go_sem,↓dP,↓reduceIte])
  refine DEq.bool ?_
  rw [jobB,hhead,all_any,all_any,hgs,hps]
  rfl
end Go.Proofs.Leaf
namespace Go.Proofs.Leaf
open Go Go.RX Go.Proofs
set_option maxRecDepth 10000
variable [Glob]
theorem asI_inj {L M:List Nat} (h:asI L = asI M):L = M:=by
 have:(asI L).map Int.toNat = (asI M).map Int.toNat:=by rw [h]
 simpa [List.map_map,Function.comp_def] using this
theorem asI_append (L M:List Nat):asI (L ++ M) = asI L ++ asI M:=by simp
theorem setL_bit (L:List Nat) (i:Nat):(setL (asI L)).testBit i = decide (i∈L):=by
 induction L using revRec with
 | nil => simp [setL]
 | append_singleton L x ih =>
  rw [asI_append,show asI [x] = [(x:Int)] from rfl,setL_snoc,Nat.testBit_or,ih,Nat.testBit_two_pow]
  simp only [Int.toNat_natCast,List.mem_append,List.mem_singleton]
  by_cases h1:i∈L<;>by_cases h2:x = i<;>simp [h1,h2]<;>omega
theorem setL_range (k n:Nat) (hn:n<=k) (p:Nat->Bool) (s:Nat) (hs:s < 2 ^ n) (h:∀ i,i < n->s.testBit i = p i):setL (asI ((List.range n).filter p)) = s:=by
 apply Nat.eq_of_testBit_eq
 intro i
 rw [setL_bit]
 by_cases hi:i < n
 ·rw [h i hi]
  cases hp:p i<;>simp [hi,hp]
 ·rw [bit_lt hs (by omega)]
  simp [hi]
def ofL (l:List Int) (n:Int):List Nat:=(List.range l.length).filter (fun i => l.getD i default == n)
theorem ofL_rises (l:List Int) (n:Int):rises l.length 0 (ofL l n):=by
 refine rises_of (List.Pairwise.filter _ List.pairwise_lt_range) (fun x hx => ?_)
 have:=List.mem_range.1 (List.mem_filter.1 hx).1
 omega
theorem ofL_mask (L:List Nat) (n:Nat):setL (asI (ofL (asI L) n)) = mask L n:=by
 unfold ofL
 rw [asI_len]
 refine setL_range L.length L.length (Nat.le_refl _) _ _ (mask_lt L n) (fun i hi => ?_)
 rw [mask_bit,asI_at hi,decide_eq_true hi,Bool.true_and,Bool.eq_iff_iff]
 simp only [decide_eq_true_eq,beq_iff_eq]
 have:L.getD i 0 = L.getD i default:=rfl
 rw [this];omega
theorem c_rOf (l : List Int) (n : Int) (hl : l.length < 1000) : Ctr Tryz.prog 64 [ilS l, iS n] (ilS (asI (ofL l n))) := by
  (refine Ctr.mk (fn := Tryz.f64) rfl rfl rfl rfl rfl Tryz.results64 ?_; intro _; dsimp only [args, List.toList_toArray])
  (first|refine qE ?_|refine qD ?_);(simp only [go_sem,↓dP,↓reduceIte];with_reducible and_intros;all_goals first|apply qA|exact qC|skip)
  (first|refine qE ?_|refine qD ?_);(simp only [go_sem,↓dP,↓reduceIte];with_reducible and_intros;all_goals first|apply qA|exact qC|skip)
  refine Ok.seq ?_
  (first|refine qE ?_|refine qD ?_);(simp only [go_sem,↓dP,↓reduceIte];with_reducible and_intros;all_goals first|apply qA|exact qC|skip)
  refine Ok.block ?_
  refine Ok.count l.length (fun i => ⟨[(0, ilS l), (1, iS n), (5, .tk 0), (6, iS i)], [], [ownD 3 1 intD (asI ((List.range i).filter (fun i => l.getD i default == n)))]⟩) (fun _ => True) ⟨trivial, ?_⟩ ?_ ?_
  · (refine Sub.of ([]) ([none]) ?_ ?_ ?_ rfl rfl <;> simp only [subB, subB1, subT, subT1, newT, subE, subV, subL, go_sem,↓dP,↓reduceIte] <;> (try (repeat' with_reducible apply And.intro)) <;> (try first | exact DEq.refl _ | refine DEq.int ?_ | refine DEq.bool ?_ | omega))
    simp
  · intro i hi _
    have hlen : (asI ((List.range i).filter (fun i => l.getD i default == n))).length ≤ i := by
      rw [asI_len]
      exact Nat.le_trans (List.length_filter_le _ _) (by simp)
    have hsn : asI ((List.range (i + 1)).filter (fun i => l.getD i default == n)) = asI ((List.range i).filter (fun i => l.getD i default == n)) ++ (if l.getD i default == n then [(i : Int)] else []) := by
      rw [List.range_succ, List.filter_append, asI_append]
      by_cases h : (l.getD i default == n) = true
      · simp only [List.filter_cons, List.filter_nil, h, if_true]; rfl
      · simp only [List.filter_cons, List.filter_nil, h, Bool.false_eq_true, if_false]; rfl
    refine Ok.seq ?_; ((first|refine qE ?_|refine qD ?_);(simp only [go_sem,↓dP,↓reduceIte];with_reducible and_intros;all_goals first|apply qA|exact qC|skip)); refine Ok.cond rfl (fun _ => ?_) (fun hb => by simp at hb; omega); (refine Ok.skip ?_; (try dsimp only [thenK, blockK, noGotoK])); refine Ok.seq ?_; refine Ok.block ?_
    (first|refine qE ?_|refine qD ?_);(simp only [go_sem,↓dP,↓reduceIte];with_reducible and_intros;all_goals first|apply qA|exact qC|skip)
    refine Ok.cond rfl ?_ ?_
    · intro hb
      rw [hb, if_pos rfl] at hsn
      (first|refine qE ?_|refine qD ?_);(simp only [go_sem,↓dP,↓reduceIte];with_reducible and_intros;all_goals first|apply qA|exact qC|skip)
      (try dsimp only [thenK, blockK, noGotoK])
      (first|refine qE ?_|refine qD ?_);(simp only [go_sem,↓dP,↓reduceIte];with_reducible and_intros;all_goals first|apply qA|exact qC|skip)
      (try dsimp only [thenK, blockK, noGotoK])
      refine ⟨trivial, ?_⟩
      rw [hsn]
      (refine Sub.of ([]) ([some 1]) ?_ ?_ ?_ rfl rfl <;> simp only [subB, subB1, subT, subT1, newT, subE, subV, subL, go_sem,↓dP,↓reduceIte] <;> (try (repeat' with_reducible apply And.intro)) <;> (try first | exact DEq.refl _ | refine DEq.int ?_ | refine DEq.bool ?_ | omega))
      · simp
      · exact snoc_D (fun c hc => by have : c = 0 := by omega
                                     subst this; rfl)
    · intro hb
      rw [hb, if_neg (by simp), List.append_nil] at hsn
      (refine Ok.skip ?_; (try dsimp only [thenK, blockK, noGotoK]))
      (try dsimp only [thenK, blockK, noGotoK])
      (first|refine qE ?_|refine qD ?_);(simp only [go_sem,↓dP,↓reduceIte];with_reducible and_intros;all_goals first|apply qA|exact qC|skip)
      (try dsimp only [thenK, blockK, noGotoK])
      refine ⟨trivial, ?_⟩
      rw [hsn]
      (refine Sub.of ([]) ([some 0]) ?_ ?_ ?_ rfl rfl <;> simp only [subB, subB1, subT, subT1, newT, subE, subV, subL, go_sem,↓dP,↓reduceIte] <;> (try (repeat' with_reducible apply And.intro)) <;> (try first | exact DEq.refl _ | refine DEq.int ?_ | refine DEq.bool ?_ | omega))
      exact fun _ _ _ _ => DEq.refl _
  · intro _
    refine Ok.seq ?_; ((first|refine qE ?_|refine qD ?_);(simp only [go_sem,↓dP,↓reduceIte];with_reducible and_intros;all_goals first|apply qA|exact qC|skip)); refine Ok.cond rfl (fun hb => by simp at hb) (fun _ => ?_); (refine Ok.exit ?_; simp only [thenK_exit, blockK_exit, noGotoK_exit, thenK_normal, blockK_normal, noGotoK_normal, ↓reduceIte, Nat.reduceEqDiff])
    (first|refine qE ?_|refine qD ?_);(simp only [go_sem,↓dP,↓reduceIte];with_reducible and_intros;all_goals first|apply qA|exact qC|skip)
    (refine Ok.ret ?_; (try dsimp only [thenK, blockK, noGotoK]); simp only [toList_mk, List.toList_toArray, retK_ret, retK_normal, resOK, resV, celV, rowV, frzAll, frzT, subV, subL, go_sem,↓dP,↓reduceIte])
    exact .refl _
def leavesI (l:List Int):Int:=l.foldl (fun n x => max n (x + 1)) 0
theorem leavesI_snoc (l:List Int) (x:Int):leavesI (l ++ [x]) = max (leavesI l) (x + 1):=by simp [leavesI,List.foldl_append]
theorem leavesI_asI (L:List Nat):leavesI (asI L) = leaves L:=by
 induction L using revRec with
 | nil => rfl
 | append_singleton L x ih =>
  rw [asI_append,show asI [x] = [(x:Int)] from rfl,leavesI_snoc,ih,leaves_snoc];omega
theorem c_rLeaves (l:List Int) (hl:l.length < 1000000) (h:∀ x∈l,x < 1000000/\-1000000 < x):Ctr Tryz.prog 27 [ilS l] (iS (leavesI l)):=by
 (refine Ctr.mk (fn:=Tryz.f27) rfl rfl rfl rfl rfl Tryz.results27 ?_;intro _;dsimp only [args,List.toList_toArray])
 (first|refine qE ?_|refine qD ?_);(simp only [go_sem,↓dP,↓reduceIte];with_reducible and_intros;all_goals first|apply qA|exact qC|skip)
 (first|refine qE ?_|refine qD ?_);(simp only [go_sem,↓dP,↓reduceIte];with_reducible and_intros;all_goals first|apply qA|exact qC|skip)
 refine Ok.seq ?_
 (first|refine qE ?_|refine qD ?_);(simp only [go_sem,↓dP,↓reduceIte];with_reducible and_intros;all_goals first|apply qA|exact qC|skip)
 refine Ok.block ?_
 refine Ok.count l.length (fun i => ⟨[(0,ilS l),(3,iS (leavesI (l.take i))),(4,iS i)],[],[]⟩) (fun _ => True) ⟨trivial,?_⟩ ?_ ?_
 ·(refine Sub.of ([]) ([]) ?_ ?_ ?_ rfl rfl<;>simp only [subB,subB1,subT,subT1,newT,subE,subV,subL,go_sem,↓dP,↓reduceIte]<;>(try (repeat' with_reducible apply And.intro))<;>(try first | exact DEq.refl _ | refine DEq.int ?_ | refine DEq.bool ?_ | omega))
 ·intro i hi _
  have hx:=h _ (getD_mem hi)
  have hsn:leavesI (l.take (i + 1)) = max (leavesI (l.take i)) (l.getD i default + 1):=by rw [getD_take hi,leavesI_snoc]
  refine Ok.seq ?_;((first|refine qE ?_|refine qD ?_);(simp only [go_sem,↓dP,↓reduceIte];with_reducible and_intros;all_goals first|apply qA|exact qC|skip));refine Ok.cond rfl (fun _ => ?_) (fun hb => by simp at hb;omega);(refine Ok.skip ?_;(try dsimp only [thenK,blockK,noGotoK]));refine Ok.seq ?_;refine Ok.block ?_
  (first|refine qE ?_|refine qD ?_);(simp only [go_sem,↓dP,↓reduceIte];with_reducible and_intros;all_goals first|apply qA|exact qC|skip)
  (try dsimp only [thenK,blockK,noGotoK])
  (first|refine qE ?_|refine qD ?_);(simp only [go_sem,↓dP,↓reduceIte];with_reducible and_intros;all_goals first|apply qA|exact qC|skip)
  (try dsimp only [thenK,blockK,noGotoK])
  refine ⟨trivial,?_⟩
  (refine Sub.of ([]) ([]) ?_ ?_ ?_ rfl rfl<;>simp only [subB,subB1,subT,subT1,newT,subE,subV,subL,go_sem,↓dP,↓reduceIte]<;>(try (repeat' with_reducible apply And.intro))<;>(try first | exact DEq.refl _ | refine DEq.int ?_ | refine DEq.bool ?_ | omega))
  exact hsn.symm
 ·intro _
  refine Ok.seq ?_;((first|refine qE ?_|refine qD ?_);(simp only [go_sem,↓dP,↓reduceIte];with_reducible and_intros;all_goals first|apply qA|exact qC|skip));refine Ok.cond rfl (fun hb => by simp at hb) (fun _ => ?_);(refine Ok.exit ?_;simp only [thenK_exit,blockK_exit,noGotoK_exit,thenK_normal,blockK_normal,noGotoK_normal,↓reduceIte,Nat.reduceEqDiff])
  (first|refine qE ?_|refine qD ?_);(simp only [go_sem,↓dP,↓reduceIte];with_reducible and_intros;all_goals first|apply qA|exact qC|skip)
  (refine Ok.ret ?_;(try dsimp only [thenK,blockK,noGotoK]);simp only [toList_mk,List.toList_toArray,retK_ret,retK_normal,resOK,resV,celV,rowV,frzAll,frzT,subV,subL,go_sem,↓dP,↓reduceIte])
  refine DEq.int ?_
  rw [List.take_length]
end Go.Proofs.Leaf
namespace Go.Proofs.Leaf
open Go Go.RX Go.Proofs
set_option maxRecDepth 10000
variable [Glob]
theorem grows_take:∀ (L:List Nat) (m i:Nat),grows L m = true->i < L.length->L.getD i default<=(L.take i).foldl (fun n x => max n (x + 1)) m
 | [],_,i,_,hi => by simp at hi
 | x :: L,m,0,h,_ => by
  simp only [grows,Bool.and_eq_true,decide_eq_true_eq] at h
  simpa using h.1
 | x :: L,m,i + 1,h,hi => by
  simp only [grows,Bool.and_eq_true,decide_eq_true_eq] at h
  simpa using grows_take L _ i h.2 (by simpa using hi)
end Go.Proofs.Leaf
namespace Go.Proofs.Leaf
open Go Go.RX Go.Proofs
set_option maxRecDepth 10000
variable [Glob]
theorem before_at:∀ (a b:List Int) (i:Nat),i < a.length->i < b.length->(∀ j,j < i->a.getD j default = b.getD j default)->a.getD i default ≠ b.getD i default->beforeL a b = decide (a.getD i default < b.getD i default)
 | x :: a,y :: b,0,_,_,_,hne => by
  simp only [List.getD_cons_zero] at hne ⊢
  rw [beforeL,if_neg hne]
 | x :: a,y :: b,i + 1,h1,h2,he,hne => by
  have h0:=he 0 (by omega)
  simp only [List.getD_cons_zero] at h0
  simp only [List.getD_cons_succ] at hne ⊢
  rw [beforeL,if_pos h0]
  exact before_at a b i (by simpa using h1) (by simpa using h2) (fun j hj => by simpa using he (j + 1) (by omega)) hne
 | [],_,_,h,_,_,_ => by simp at h
 | _ :: _,[],_,_,h,_,_ => by simp at h
theorem before_end:∀ (a b:List Int),(∀ j,j < min a.length b.length->a.getD j default = b.getD j default)->beforeL a b = decide (a.length < b.length)
 | [],[],_ => rfl
 | [],_ :: _,_ => by simp [beforeL]
 | _ :: _,[],_ => by simp [beforeL]
 | x :: a,y :: b,he => by
  have h0:=he 0 (by simp)
  simp only [List.getD_cons_zero] at h0
  rw [beforeL,if_pos h0,before_end a b (fun j hj => by simpa using he (j + 1) (by simp;omega))]
  simp
theorem c_tBefore (a b:List Int) (ha:a.length < 1000000) (hb':b.length < 1000000):Ctr Tryz.prog 29 [ilS a,ilS b] (bS (beforeL a b)):=by
 (refine Ctr.mk (fn:=Tryz.f29) rfl rfl rfl rfl rfl Tryz.results29 ?_;intro _;dsimp only [args,List.toList_toArray])
 (first|refine qE ?_|refine qD ?_);(simp only [go_sem,↓dP,↓reduceIte];with_reducible and_intros;all_goals first|apply qA|exact qC|skip)
 refine Ok.seq ?_
 (first|refine qE ?_|refine qD ?_);(simp only [go_sem,↓dP,↓reduceIte];with_reducible and_intros;all_goals first|apply qA|exact qC|skip)
 refine Ok.block ?_
 refine Ok.count (min a.length b.length) (fun i => ⟨[(0,ilS a),(1,ilS b),(5,iS i)],[],[]⟩) (fun i => ∀ j,j < i->a.getD j default = b.getD j default) ⟨fun j hj => by omega,?_⟩ ?_ ?_
 ·(refine Sub.of ([]) ([]) ?_ ?_ ?_ rfl rfl<;>simp only [subB,subB1,subT,subT1,newT,subE,subV,subL,go_sem,↓dP,↓reduceIte]<;>(try (repeat' with_reducible apply And.intro))<;>(try first | exact DEq.refl _ | refine DEq.int ?_ | refine DEq.bool ?_ | omega))
 ·intro i hi hJ
  have e1:(decide ((i:Int) < a.length) && decide ((i:Int) < b.length)) = true:=by simp;omega
  refine Ok.seq ?_
  (first|refine qE ?_|refine qD ?_);(simp only [go_sem,↓dP,↓reduceIte];with_reducible and_intros;all_goals first|apply qA|exact qC|skip)
  rw [e1]
  refine Ok.cond (b:=true) (by first | rfl | (simp only [go_sem,↓dP,↓reduceIte];rfl)) (fun _ => ?_) (fun hb => by cases hb)
  (refine Ok.skip ?_;(try dsimp only [thenK,blockK,noGotoK]))
  refine Ok.seq ?_
  refine Ok.block ?_
  (first|refine qE ?_|refine qD ?_);(simp only [go_sem,↓dP,↓reduceIte];with_reducible and_intros;all_goals first|apply qA|exact qC|skip)
  refine Ok.cond rfl ?_ ?_
  ·intro hx
   have hne:a.getD i default ≠ b.getD i default:=by simpa using hx
   (first|refine qE ?_|refine qD ?_);(simp only [go_sem,↓dP,↓reduceIte];with_reducible and_intros;all_goals first|apply qA|exact qC|skip)
   (refine Ok.ret ?_;(try dsimp only [thenK,blockK,noGotoK]);simp only [toList_mk,List.toList_toArray,retK_ret,retK_normal,resOK,resV,celV,rowV,frzAll,frzT,subV,subL,go_sem,↓dP,↓reduceIte])
   rw [before_at a b i (by omega) (by omega) hJ hne]
   exact .refl _
  ·intro hx
   have he:a.getD i default = b.getD i default:=by simpa using hx
   (refine Ok.skip ?_;(try dsimp only [thenK,blockK,noGotoK]))
   (first|refine qE ?_|refine qD ?_);(simp only [go_sem,↓dP,↓reduceIte];with_reducible and_intros;all_goals first|apply qA|exact qC|skip)
   (try dsimp only [thenK,blockK,noGotoK])
   refine ⟨fun j hj => ?_,?_⟩
   ·by_cases e:j = i
    ·subst e;exact he
    ·exact hJ j (by omega)
   (refine Sub.of ([]) ([]) ?_ ?_ ?_ rfl rfl<;>simp only [subB,subB1,subT,subT1,newT,subE,subV,subL,go_sem,↓dP,↓reduceIte]<;>(try (repeat' with_reducible apply And.intro))<;>(try first | exact DEq.refl _ | refine DEq.int ?_ | refine DEq.bool ?_ | omega))
 ·intro hJ
  have e1:(decide (((min a.length b.length:Nat):Int) < a.length) && decide (((min a.length b.length:Nat):Int) < b.length)) = false:=by simp;omega
  refine Ok.seq ?_
  (first|refine qE ?_|refine qD ?_);(simp only [go_sem,↓dP,↓reduceIte];with_reducible and_intros;all_goals first|apply qA|exact qC|skip)
  rw [e1]
  refine Ok.cond (b:=false) (by first | rfl | (simp only [go_sem,↓dP,↓reduceIte];rfl)) (fun hb => by cases hb) (fun _ => ?_)
  (refine Ok.exit ?_;simp only [thenK_exit,blockK_exit,noGotoK_exit,thenK_normal,blockK_normal,noGotoK_normal,↓reduceIte,Nat.reduceEqDiff])
  (first|refine qE ?_|refine qD ?_);(simp only [go_sem,↓dP,↓reduceIte];with_reducible and_intros;all_goals first|apply qA|exact qC|skip)
  (refine Ok.ret ?_;(try dsimp only [thenK,blockK,noGotoK]);simp only [toList_mk,List.toList_toArray,retK_ret,retK_normal,resOK,resV,celV,rowV,frzAll,frzT,subV,subL,go_sem,↓dP,↓reduceIte])
  rw [before_end a b hJ]
  refine DEq.bool ?_
  simp
end Go.Proofs.Leaf
namespace Go.Proofs.Leaf
open Go Go.RX Go.Proofs
set_option maxRecDepth 10000
variable [Glob]
def shortB (J:Job):Bool:=decide (J.gs.length<=5) && decide (J.ps.length<=7)
theorem c_lshort (J:Job) (h:J.far):Ctr Tryz.prog 21 [J.sv] (bS (shortB J)):=by
 have h1:=h.1
 have h2:=h.2
 (refine Ctr.mk (fn:=Tryz.f21) rfl rfl rfl rfl rfl Tryz.results21 ?_;intro _;dsimp only [args,List.toList_toArray])
 (first|refine qE ?_|refine qD ?_);(simp only [go_sem,↓dP,↓reduceIte];with_reducible and_intros;all_goals first|apply qA|exact qC|skip)
 (first|refine qE ?_|refine qD ?_);(simp only [go_sem,↓dP,↓reduceIte];with_reducible and_intros;all_goals first|apply qA|exact qC|skip)
 (refine Ok.ret ?_;(try dsimp only [thenK,blockK,noGotoK]);simp only [toList_mk,List.toList_toArray,retK_ret,retK_normal,resOK,resV,celV,rowV,frzAll,frzT,subV,subL,go_sem,↓dP,↓reduceIte])
 refine DEq.bool ?_
 unfold shortB
 by_cases g1:J.gs.length<=5<;>by_cases g2:J.ps.length<=7<;>simp [g1,g2]<;>omega
theorem short_held {J:Job} (h:shortB J = true):J.held:=by
 simp only [shortB,Bool.and_eq_true,decide_eq_true_eq] at h
 exact ⟨by omega,by omega⟩
def slimB (l:List Int):Bool:=decide (l.length<=8)
theorem c_lslim (l:List Int) (h:l.length<=9223372036854775807):Ctr Tryz.prog 15 [ilS l] (bS (slimB l)):=by
 (refine Ctr.mk (fn:=Tryz.f15) rfl rfl rfl rfl rfl Tryz.results15 ?_;intro _;dsimp only [args,List.toList_toArray])
 (first|refine qE ?_|refine qD ?_);(simp only [go_sem,↓dP,↓reduceIte];with_reducible and_intros;all_goals first|apply qA|exact qC|skip)
 (first|refine qE ?_|refine qD ?_);(simp only [go_sem,↓dP,↓reduceIte];with_reducible and_intros;all_goals first|apply qA|exact qC|skip)
 (refine Ok.ret ?_;(try dsimp only [thenK,blockK,noGotoK]);simp only [toList_mk,List.toList_toArray,retK_ret,retK_normal,resOK,resV,celV,rowV,frzAll,frzT,subV,subL,go_sem,↓dP,↓reduceIte])
 refine DEq.bool ?_
 unfold slimB
 by_cases g:l.length<=8<;>simp [g]<;>omega
def rightB (J:Job):Bool:=shortB J && jobB J
theorem c_lright (J:Job) (h:J.far):Ctr Tryz.prog 14 [J.sv] (bS (rightB J)):=by
 (refine Ctr.mk (fn:=Tryz.f14) rfl rfl rfl rfl rfl Tryz.results14 ?_;intro _;dsimp only [args,List.toList_toArray])
 (first|refine qE ?_|refine qD ?_);(simp only [go_sem,↓dP,↓reduceIte];with_reducible and_intros;all_goals first|apply qA|exact qC|skip)
 (first|refine qE ?_|refine qD ?_);(simp only [go_sem,↓dP,↓reduceIte];with_reducible and_intros;all_goals first|apply qA|exact qC|skip)
 (refine AskI.ret (c_lshort J h) ?_;simp only [go_sem,↓dP,↓reduceIte];with_reducible and_intros;all_goals first|apply qA|exact qC|skip)
 (refine AskGI.ret (fun h => c_rJob J (short_held (by simpa using h))) ?_;simp only [go_sem,↓dP,↓reduceIte];with_reducible and_intros;all_goals first|apply qA|exact qC|skip)
 (refine Ok.ret ?_;(try dsimp only [thenK,blockK,noGotoK]);simp only [toList_mk,List.toList_toArray,retK_ret,retK_normal,resOK,resV,celV,rowV,frzAll,frzT,subV,subL,go_sem,↓dP,↓reduceIte])
 refine DEq.bool ?_
 unfold rightB
 cases shortB J<;>simp
end Go.Proofs.Leaf
namespace Go.Proofs.YtojfpogcfpmblaaGreatDoor
open Go Go.RX Go.Proofs.Leaf Go.RowKit Go.ChangeShapes Go.WideShapes Go.ChangeAt
set_option maxRecDepth 100000
section
variable {H : Type} {enc : TypeId × Value → H} {W : World}
end
theorem opensAll_cons {t:TypeId} {ts:List TypeId} {As:List SV} (h:opensAll (t :: ts) As):∃ A Bs,As = A :: Bs/\opens t A/\opensAll ts Bs:=by
 cases As with
 | nil => exact h.elim
 | cons A Bs => exact ⟨A,Bs,rfl,h.1,h.2⟩
theorem opensAll_nil {As:List SV} (h:opensAll [] As):As = []:=by
 cases As with
 | nil => rfl
 | cons A Bs => exact h.elim
end Go.Proofs.YtojfpogcfpmblaaGreatDoor
namespace Go.Proofs.Leaf
open Go Go.RX Go.Proofs Go.RowKit
set_option maxRecDepth 100000
section
theorem c_lfits (J:Job) (h:J.ok) (L:List Nat) (hL:rises J.ps.length 0 L):Ctr Tryz.prog 18 [J.sv,ilS (asI L)] (.tup [bS (J.fit (setL (asI L))),bS true]):=by
 (refine Ctr.mk (fn:=Tryz.f18) rfl rfl rfl rfl rfl Tryz.results18 ?_;intro _;dsimp only [args,List.toList_toArray])
 (first|refine qE ?_|refine qD ?_);(simp only [go_sem,↓dP,↓reduceIte];with_reducible and_intros;all_goals first|apply qA|exact qC|skip)
 (first|refine qE ?_|refine qD ?_);(simp only [go_sem,↓dP,↓reduceIte];with_reducible and_intros;all_goals first|apply qA|exact qC|skip)
 (refine AskI.ret (toT (c_Fits J h L hL)) ?_;simp only [go_sem,↓dP,↓reduceIte];with_reducible and_intros;all_goals first|apply qA|exact qC|skip)
 (first|refine qE ?_|refine qD ?_);(simp only [go_sem,↓dP,↓reduceIte];with_reducible and_intros;all_goals first|apply qA|exact qC|skip)
 (refine Ok.ret ?_;(try dsimp only [thenK,blockK,noGotoK]);simp only [toList_mk,List.toList_toArray,retK_ret,retK_normal,resOK,resV,celV,rowV,frzAll,frzT,subV,subL,go_sem,↓dP,↓reduceIte])
 ((repeat' with_reducible apply And.intro)<;>(first | exact DEq.refl _ | refine DEq.int ?_ | refine DEq.bool ?_ | skip))
end
section
instance inst_g0_5:Glob:=g0
end
section
instance inst_gT_6:Glob:=gT
end
end Go.Proofs.Leaf
namespace Go.Proofs.Leaf
open Go Go.RX Go.Proofs Go.RowKit
set_option maxRecDepth 100000
section
instance inst_g0_7:Glob:=g0
def cutB (J:Job) (l:List Int):Bool:=(cutsL J.fit J.ps.length).any (fun L => asI L == l)
theorem cutB_iff {J:Job} {l:List Int}:cutB J l = true ↔ ∃ L,L∈cutsL J.fit J.ps.length/\asI L = l:=by
 unfold cutB
 rw [List.any_eq_true]
 simp only [beq_iff_eq]
theorem cutB_no {J:Job} {l:List Int} (h:∀ L,L∈cutsL J.fit J.ps.length->asI L = l->False):cutB J l = false:=by
 rw [Bool.eq_false_iff]
 intro q
 obtain ⟨L,h1,h2⟩:=cutB_iff.1 q
 exact h L h1 h2
theorem grows_more:∀ (L:List Nat) (x n:Nat),grows (L ++ [x]) n = true ↔ grows L n = true/\x<=L.foldl (fun n x => max n (x + 1)) n
 | [],x,n => by simp [grows]
 | y :: L,x,n => by simp only [List.cons_append,grows,List.foldl_cons,Bool.and_eq_true,decide_eq_true_eq,grows_more L,and_assoc]
end
section
instance inst_gT_8:Glob:=gT
theorem c_lcutting (J:Job) (h:J.ok) (l:List Int) (hl:l.length<=100):Ctr Tryz.prog 28 [J.sv,ilS l] (.tup [bS (cutB J l),bS true]):=by
 have hp:=h.p1
 (refine Ctr.mk (fn:=Tryz.f28) rfl rfl rfl rfl rfl Tryz.results28 ?_;intro _;dsimp only [args,List.toList_toArray])
 (first|refine qE ?_|refine qD ?_);(simp only [go_sem,↓dP,↓reduceIte];with_reducible and_intros;all_goals first|apply qA|exact qC|skip)
 refine Ok.seq ?_
 (first|refine qE ?_|refine qD ?_);(simp only [go_sem,↓dP,↓reduceIte];with_reducible and_intros;all_goals first|apply qA|exact qC|skip)
 by_cases hn:l.length = J.ps.length
 rotate_left
 ·refine Ok.cond rfl (fun _ => ?_) (fun hb => by simp at hb;omega)
  rw [cutB_no (fun L h1 h2 => hn (by rw [← h2,asI_len];exact (mem_cutsL.1 h1).1))]
  (first|refine qE ?_|refine qD ?_);(simp only [go_sem,↓dP,↓reduceIte];with_reducible and_intros;all_goals first|apply qA|exact qC|skip)
  (refine Ok.ret ?_;(try dsimp only [thenK,blockK,noGotoK]);simp only [toList_mk,List.toList_toArray,retK_ret,retK_normal,resOK,resV,celV,rowV,frzAll,frzT,subV,subL,go_sem,↓dP,↓reduceIte])
  ((repeat' with_reducible apply And.intro)<;>(first | exact DEq.refl _ | refine DEq.int ?_ | refine DEq.bool ?_ | skip))
 refine Ok.cond rfl (fun hb => by simp at hb;omega) (fun _ => ?_)
 (refine Ok.skip ?_;(try dsimp only [thenK,blockK,noGotoK]))
 (first|refine qE ?_|refine qD ?_);(simp only [go_sem,↓dP,↓reduceIte];with_reducible and_intros;all_goals first|apply qA|exact qC|skip)
 refine Ok.seq ?_
 (first|refine qE ?_|refine qD ?_);(simp only [go_sem,↓dP,↓reduceIte];with_reducible and_intros;all_goals first|apply qA|exact qC|skip)
 refine Ok.block ?_
 refine Ok.count l.length (fun i => ⟨[(1,ilS l),(2,.p 0 0),(6,iS (leavesI (l.take i))),(7,iS i)],[jobC J],[]⟩) (fun i => ∃ L,l.take i = asI L/\grows L 0 = true) ⟨⟨[],rfl,rfl⟩,?_⟩ ?_ ?_
 ·(refine Sub.of ([0]) ([]) ?_ ?_ ?_ rfl rfl<;>simp only [subB,subB1,subT,subT1,newT,subE,subV,subL,go_sem,↓dP,↓reduceIte]<;>(try (repeat' with_reducible apply And.intro))<;>(try first | exact DEq.refl _ | refine DEq.int ?_ | refine DEq.bool ?_ | omega))
 ·rintro i hi ⟨L,hL,hg⟩
  have hLl:L.length = i:=by rw [← asI_len,← hL,List.length_take];omega
  have hle:=leaves_len L hg
  have hlv:leavesI (l.take i) = leaves L:=by rw [hL,leavesI_asI]
  have hsn:leavesI (l.take (i + 1)) = max (leavesI (l.take i)) (l.getD i default + 1):=by rw [getD_take hi,leavesI_snoc]
  have hgm:=grows_more L (l.getD i default).toNat 0
  rw [hlv] at hsn ⊢
  refine Ok.seq ?_;((first|refine qE ?_|refine qD ?_);(simp only [go_sem,↓dP,↓reduceIte];with_reducible and_intros;all_goals first|apply qA|exact qC|skip));refine Ok.cond rfl (fun _ => ?_) (fun hb => by simp at hb;omega);(refine Ok.skip ?_;(try dsimp only [thenK,blockK,noGotoK]));refine Ok.seq ?_;refine Ok.block ?_
  refine Ok.seq ?_
  (first|refine qE ?_|refine qD ?_);(simp only [go_sem,↓dP,↓reduceIte];with_reducible and_intros;all_goals first|apply qA|exact qC|skip)
  refine Ok.cond rfl ?_ ?_
  ·intro hq
   have hno:cutB J l = false:=cutB_no (fun M h1 h2 => by
    subst h2
    have hMg:=(mem_cutsL.1 h1).2.1
    have hi':i < M.length:=by rw [asI_len] at hi;exact hi
    have h3:M.getD i default<=leaves (M.take i):=grows_take M 0 i hMg hi'
    have h4:L = M.take i:=asI_inj (by rw [← hL];simp [List.map_take])
    rw [asI_at hi',h4] at hq
    simp only [Bool.or_eq_true,decide_eq_true_eq] at hq
    omega)
   rw [hno]
   (first|refine qE ?_|refine qD ?_);(simp only [go_sem,↓dP,↓reduceIte];with_reducible and_intros;all_goals first|apply qA|exact qC|skip)
   (refine Ok.ret ?_;(try dsimp only [thenK,blockK,noGotoK]);simp only [toList_mk,List.toList_toArray,retK_ret,retK_normal,resOK,resV,celV,rowV,frzAll,frzT,subV,subL,go_sem,↓dP,↓reduceIte])
   ((repeat' with_reducible apply And.intro)<;>(first | exact DEq.refl _ | refine DEq.int ?_ | refine DEq.bool ?_ | skip))
  ·intro hq
   simp only [Bool.or_eq_false_iff,decide_eq_false_iff_not] at hq
   (refine Ok.skip ?_;(try dsimp only [thenK,blockK,noGotoK]))
   (first|refine qE ?_|refine qD ?_);(simp only [go_sem,↓dP,↓reduceIte];with_reducible and_intros;all_goals first|apply qA|exact qC|skip)
   (try dsimp only [thenK,blockK,noGotoK])
   (first|refine qE ?_|refine qD ?_);(simp only [go_sem,↓dP,↓reduceIte];with_reducible and_intros;all_goals first|apply qA|exact qC|skip)
   (try dsimp only [thenK,blockK,noGotoK])
   refine ⟨⟨L ++ [(l.getD i default).toNat],?_,?_⟩,?_⟩
   ·rw [getD_take hi,hL,asI_append]
    congr 1
    show _ = [(((l.getD i default).toNat:Nat):Int)]
    rw [Int.toNat_of_nonneg (by omega)]
   ·exact hgm.2 ⟨hg,by show _<=leaves L;omega⟩
   ·(refine Sub.of ([0]) ([]) ?_ ?_ ?_ rfl rfl<;>simp only [subB,subB1,subT,subT1,newT,subE,subV,subL,go_sem,↓dP,↓reduceIte]<;>(try (repeat' with_reducible apply And.intro))<;>(try first | exact DEq.refl _ | refine DEq.int ?_ | refine DEq.bool ?_ | omega))
    rw [hsn]
 ·rintro ⟨L,hL,hg⟩
  rw [List.take_length] at hL
  subst hL
  have hLn:L.length = J.ps.length:=by rw [asI_len] at hn;exact hn
  have hle:=leaves_len L hg
  rw [List.take_length,leavesI_asI]
  refine Ok.seq ?_;((first|refine qE ?_|refine qD ?_);(simp only [go_sem,↓dP,↓reduceIte];with_reducible and_intros;all_goals first|apply qA|exact qC|skip));refine Ok.cond rfl (fun hb => by simp at hb) (fun _ => ?_);(refine Ok.exit ?_;simp only [thenK_exit,blockK_exit,noGotoK_exit,thenK_normal,blockK_normal,noGotoK_normal,↓reduceIte,Nat.reduceEqDiff])
  refine Ok.seq ?_
  (first|refine qE ?_|refine qD ?_);(simp only [go_sem,↓dP,↓reduceIte];with_reducible and_intros;all_goals first|apply qA|exact qC|skip)
  refine Ok.block ?_
  have hof:∀ k:Nat,Ctr Tryz.prog 64 [ilS (asI L),iS k] (ilS (asI (ofL (asI L) k))):=fun k => c_rOf (asI L) k (by omega)
  have hfk:∀ k:Nat,Ctr Tryz.prog 18 [J.sv,ilS (asI (ofL (asI L) k))] (.tup [bS (J.fit (mask L k)),bS true]):=fun k => by
   have hr:=ofL_rises (asI L) k
   rw [asI_len,hLn] at hr
   have:=c_lfits J h (ofL (asI L) k) hr
   rwa [ofL_mask] at this
  refine Ok.count (leaves L) (fun i => ⟨[(1,ilS (asI L)),(2,.p 0 0),(6,iS (leaves L)),(8,iS i)],[jobC J],[]⟩) (fun i => ∀ k,k < i->J.fit (mask L k) = true) ⟨fun k hk => by omega,?_⟩ ?_ ?_
  ·(refine Sub.of ([0]) ([]) ?_ ?_ ?_ rfl rfl<;>simp only [subB,subB1,subT,subT1,newT,subE,subV,subL,go_sem,↓dP,↓reduceIte]<;>(try (repeat' with_reducible apply And.intro))<;>(try first | exact DEq.refl _ | refine DEq.int ?_ | refine DEq.bool ?_ | omega))
  ·intro i hi h0
   refine Ok.seq ?_;((first|refine qE ?_|refine qD ?_);(simp only [go_sem,↓dP,↓reduceIte];with_reducible and_intros;all_goals first|apply qA|exact qC|skip));refine Ok.cond rfl (fun _ => ?_) (fun hb => by simp at hb;omega);(refine Ok.skip ?_;(try dsimp only [thenK,blockK,noGotoK]));refine Ok.seq ?_;refine Ok.block ?_
   (first|refine qE ?_|refine qD ?_);(simp only [go_sem,↓dP,↓reduceIte];with_reducible and_intros;all_goals first|apply qA|exact qC|skip)
   (refine AskI.ret (hof i) ?_;simp only [go_sem,↓dP,↓reduceIte];with_reducible and_intros;all_goals first|apply qA|exact qC|skip)
   (refine AskI.ret (hfk i) ?_;simp only [go_sem,↓dP,↓reduceIte];with_reducible and_intros;all_goals first|apply qA|exact qC|skip)
   (first|refine qE ?_|refine qD ?_);(simp only [go_sem,↓dP,↓reduceIte];with_reducible and_intros;all_goals first|apply qA|exact qC|skip)
   cases hq:J.fit (mask L i) with
   | false =>
    have hno:cutB J (asI L) = false:=cutB_no (fun M h1 h2 => by
     rw [asI_inj h2] at h1
     rw [(mem_cutsL.1 h1).2.2 i hi] at hq;cases hq)
    rw [hno]
    refine Ok.cond (b:=true) (by first | rfl | (simp only [go_sem,↓dP,↓reduceIte];rfl)) (fun _ => ?_) (fun hb => by cases hb)
    (first|refine qE ?_|refine qD ?_);(simp only [go_sem,↓dP,↓reduceIte];with_reducible and_intros;all_goals first|apply qA|exact qC|skip)
    (refine Ok.ret ?_;(try dsimp only [thenK,blockK,noGotoK]);simp only [toList_mk,List.toList_toArray,retK_ret,retK_normal,resOK,resV,celV,rowV,frzAll,frzT,subV,subL,go_sem,↓dP,↓reduceIte])
    ((repeat' with_reducible apply And.intro)<;>(first | exact DEq.refl _ | refine DEq.int ?_ | refine DEq.bool ?_ | skip))
   | true =>
    refine Ok.cond (b:=false) (by first | rfl | (simp only [go_sem,↓dP,↓reduceIte];rfl)) (fun hb => by cases hb) (fun _ => ?_)
    (refine Ok.skip ?_;(try dsimp only [thenK,blockK,noGotoK]))
    (try dsimp only [thenK,blockK,noGotoK])
    (first|refine qE ?_|refine qD ?_);(simp only [go_sem,↓dP,↓reduceIte];with_reducible and_intros;all_goals first|apply qA|exact qC|skip)
    (try dsimp only [thenK,blockK,noGotoK])
    refine ⟨fun k hk => ?_,?_⟩
    ·by_cases e:k = i
     ·rw [e];exact hq
     ·exact h0 k (by omega)
    ·(refine Sub.of ([0]) ([]) ?_ ?_ ?_ rfl rfl<;>simp only [subB,subB1,subT,subT1,newT,subE,subV,subL,go_sem,↓dP,↓reduceIte]<;>(try (repeat' with_reducible apply And.intro))<;>(try first | exact DEq.refl _ | refine DEq.int ?_ | refine DEq.bool ?_ | omega))
  ·intro h0
   have hyes:cutB J (asI L) = true:=cutB_iff.2 ⟨L,mem_cutsL.2 ⟨hLn,hg,h0⟩,rfl⟩
   rw [hyes]
   refine Ok.seq ?_;((first|refine qE ?_|refine qD ?_);(simp only [go_sem,↓dP,↓reduceIte];with_reducible and_intros;all_goals first|apply qA|exact qC|skip));refine Ok.cond rfl (fun hb => by simp at hb) (fun _ => ?_);(refine Ok.exit ?_;simp only [thenK_exit,blockK_exit,noGotoK_exit,thenK_normal,blockK_normal,noGotoK_normal,↓reduceIte,Nat.reduceEqDiff])
   (first|refine qE ?_|refine qD ?_);(simp only [go_sem,↓dP,↓reduceIte];with_reducible and_intros;all_goals first|apply qA|exact qC|skip)
   (refine Ok.ret ?_;(try dsimp only [thenK,blockK,noGotoK]);simp only [toList_mk,List.toList_toArray,retK_ret,retK_normal,resOK,resV,celV,rowV,frzAll,frzT,subV,subL,go_sem,↓dP,↓reduceIte])
   ((repeat' with_reducible apply And.intro)<;>(first | exact DEq.refl _ | refine DEq.int ?_ | refine DEq.bool ?_ | skip))
end
end Go.Proofs.Leaf
namespace Go.Proofs.Leaf
open Go Go.RX Go.Proofs Go.RowKit
set_option maxRecDepth 100000
def leavesW (l:List Int):Int:=l.foldl (fun n x => max n (IntKind.i64.wrap (x + 1))) 0
theorem leavesW_snoc (l:List Int) (x:Int):leavesW (l ++ [x]) = max (leavesW l) (IntKind.i64.wrap (x + 1)):=by simp [leavesW,List.foldl_append]
section
theorem c_rLeavesW (l:List Int) (hl:l.length < 1000000):Ctr Tryz.prog 27 [ilS l] (iS (leavesW l)):=by
 (refine Ctr.mk (fn:=Tryz.f27) rfl rfl rfl rfl rfl Tryz.results27 ?_;intro _;dsimp only [args,List.toList_toArray])
 (first|refine qE ?_|refine qD ?_);(simp only [go_sem,↓dP,↓reduceIte];with_reducible and_intros;all_goals first|apply qA|exact qC|skip)
 (first|refine qE ?_|refine qD ?_);(simp only [go_sem,↓dP,↓reduceIte];with_reducible and_intros;all_goals first|apply qA|exact qC|skip)
 refine Ok.seq ?_
 (first|refine qE ?_|refine qD ?_);(simp only [go_sem,↓dP,↓reduceIte];with_reducible and_intros;all_goals first|apply qA|exact qC|skip)
 refine Ok.block ?_
 refine Ok.count l.length (fun i => ⟨[(0,ilS l),(3,iS (leavesW (l.take i))),(4,iS i)],[],[]⟩) (fun _ => True) ⟨trivial,?_⟩ ?_ ?_
 ·(refine Sub.of ([]) ([]) ?_ ?_ ?_ rfl rfl<;>simp only [subB,subB1,subT,subT1,newT,subE,subV,subL,go_sem,↓dP,↓reduceIte]<;>(try (repeat' with_reducible apply And.intro))<;>(try first | exact DEq.refl _ | refine DEq.int ?_ | refine DEq.bool ?_ | omega))
 ·intro i hi _
  have hsn:leavesW (l.take (i + 1)) = max (leavesW (l.take i)) (IntKind.i64.wrap (l.getD i default + 1)):=by rw [getD_take hi,leavesW_snoc]
  refine Ok.seq ?_;((first|refine qE ?_|refine qD ?_);(simp only [go_sem,↓dP,↓reduceIte];with_reducible and_intros;all_goals first|apply qA|exact qC|skip));refine Ok.cond rfl (fun _ => ?_) (fun hb => by simp at hb;omega);(refine Ok.skip ?_;(try dsimp only [thenK,blockK,noGotoK]));refine Ok.seq ?_;refine Ok.block ?_
  ((first | refine RX.qT 5 ?h1 ?h2 ?h3 ?h4 ?_ | refine RX.qU 5 ?h1 ?h2 ?h3 ?h4 ?_);(case h1 => rfl);(case h2 => rfl);(case h3 => rfl);(case h4 => rfl);simp only [go_sem,↓dP,↓reduceIte];with_reducible and_intros;all_goals first|apply qA|exact qC|skip)
  intro Y a w hinv
  have hst:=St.of hinv rfl
  have e15:a.eval (.tmp 15) = .int .i64 (l.getD i default):=by
   obtain ⟨I,β,τ,hx,hm⟩:=hst.val (t:=15) rfl (fun _ _ _ e => by cases e)
   have:=mt_d hm
   show a.tmps.getD 15 undef = _
   generalize a.tmps.getD 15 undef = u at this
   cases this;rfl
  refine tail_val (v:=.int .i64 (IntKind.i64.wrap (l.getD i default + 1))) rfl (fun c e => by cases e) (run_bin_op (op:=.add) (t:=3) (t':=3) (x:=.tmp 15) (y:=.const (.int .i64 1)) rfl (by rw [e15];exact eqGuard_at_int ..) (by rw [e15];simp [Act.eval,binOp_add,Op.intArith])) ?_
  have hst2:=hst.putV (d:=16) (v:=.int .i64 (IntKind.i64.wrap (l.getD i default + 1))) (V:=iS (IntKind.i64.wrap (l.getD i default + 1))) (by decide) (fun _ _ _ _ => .d .int)
  (refine Ok.rest hst2 ?h1 ?h2 ?h3 ?_;(case h1 => rfl);(case h2 => rfl);(case h3 => rfl);simp only [go_sem,↓dP,↓reduceIte,bare];with_reducible and_intros;all_goals first|apply qA|exact qC|skip;(try dsimp only [thenK,blockK,noGotoK]))
  (first|refine qE ?_|refine qD ?_);(simp only [go_sem,↓dP,↓reduceIte];with_reducible and_intros;all_goals first|apply qA|exact qC|skip)
  (try dsimp only [thenK,blockK,noGotoK])
  refine ⟨trivial,?_⟩
  (refine Sub.of ([]) ([]) ?_ ?_ ?_ rfl rfl<;>simp only [subB,subB1,subT,subT1,newT,subE,subV,subL,go_sem,↓dP,↓reduceIte]<;>(try (repeat' with_reducible apply And.intro))<;>(try first | exact DEq.refl _ | refine DEq.int ?_ | refine DEq.bool ?_ | omega))
  rw [hsn]
 ·intro _
  rw [List.take_length]
  refine Ok.seq ?_;((first|refine qE ?_|refine qD ?_);(simp only [go_sem,↓dP,↓reduceIte];with_reducible and_intros;all_goals first|apply qA|exact qC|skip));refine Ok.cond rfl (fun hb => by simp at hb) (fun _ => ?_);(refine Ok.exit ?_;simp only [thenK_exit,blockK_exit,noGotoK_exit,thenK_normal,blockK_normal,noGotoK_normal,↓reduceIte,Nat.reduceEqDiff])
  (first|refine qE ?_|refine qD ?_);(simp only [go_sem,↓dP,↓reduceIte];with_reducible and_intros;all_goals first|apply qA|exact qC|skip)
  (refine Ok.ret ?_;(try dsimp only [thenK,blockK,noGotoK]);simp only [toList_mk,List.toList_toArray,retK_ret,retK_normal,resOK,resV,celV,rowV,frzAll,frzT,subV,subL,go_sem,↓dP,↓reduceIte])
  ((repeat' with_reducible apply And.intro)<;>(first | exact DEq.refl _ | refine DEq.int ?_ | refine DEq.bool ?_ | skip))
end
end Go.Proofs.Leaf
namespace Go.Proofs.Leaf
open Go Go.RX Go.Proofs Go.RowKit
set_option maxRecDepth 100000
section
theorem leaves_ctr {x:List Nat} (hx:x.length<=100) (hg:grows x 0 = true):Ctr Tryz.prog 27 [ilS (asI x)] (iS (leaves x)):=by
 have:=leaves_len x hg
 have a:=c_rLeaves (asI x) (by simp;omega) (fun y hy => by obtain ⟨z,hz,rfl⟩:=asI_mem hy;have:=leaves_le x z hz;omega)
 rwa [leavesI_asI] at a
end
end Go.Proofs.Leaf
namespace Go.Proofs.Leaf
open Go Go.RX Go.Proofs Go.RowKit
set_option maxRecDepth 100000
section
instance inst_g0_9:Glob:=g0
theorem leavesW_asI:∀ (L:List Nat),(∀ x∈L,x < 1000)->leavesW (asI L) = leaves L:=by
 intro L
 induction L using revRec with
 | nil => intro _;rfl
 | append_singleton L x ih =>
  intro h
  have hx:=h x (by simp)
  rw [asI_append,show asI [x] = [(x:Int)] from rfl,leavesW_snoc,ih (fun y hy => h y (by simp [hy])),leaves_snoc,IntKind.wrap_i64]
  omega
end
section
instance inst_gT_10:Glob:=gT
theorem law_Cutting (J:Job) (hf:J.far) (l:List Int) (hl:l.length<=maxLen):Ctr Tryz.prog 6 [J.sv,ilS l] (bS true):=by
 have hl':l.length<=9223372036854775807:=Nat.le_trans hl (by decide)
 (refine Ctr.mk (fn:=Tryz.f6) rfl rfl rfl rfl rfl Tryz.results6 ?_;intro _;dsimp only [args,List.toList_toArray])
 (first|refine qE ?_|refine qD ?_);(simp only [go_sem,↓dP,↓reduceIte];with_reducible and_intros;all_goals first|apply qA|exact qC|skip)
 refine Ok.seq ?_
 (first|refine qE ?_|refine qD ?_);(simp only [go_sem,↓dP,↓reduceIte];with_reducible and_intros;all_goals first|apply qA|exact qC|skip)
 (refine AskI.ret (c_lright J hf) ?_;simp only [go_sem,↓dP,↓reduceIte];with_reducible and_intros;all_goals first|apply qA|exact qC|skip)
 (refine AskGI.ret (fun _ => c_lslim l hl') ?_;simp only [go_sem,↓dP,↓reduceIte];with_reducible and_intros;all_goals first|apply qA|exact qC|skip)
 refine Ok.cond rfl ?_ ?_
 ·intro hs
  (first|refine qE ?_|refine qD ?_);(simp only [go_sem,↓dP,↓reduceIte];with_reducible and_intros;all_goals first|apply qA|exact qC|skip)
  (refine AskI.ret (c_known) ?_;simp only [go_sem,↓dP,↓reduceIte];with_reducible and_intros;all_goals first|apply qA|exact qC|skip)
  (refine Ok.ret ?_;(try dsimp only [thenK,blockK,noGotoK]);simp only [toList_mk,List.toList_toArray,retK_ret,retK_normal,resOK,resV,celV,rowV,frzAll,frzT,subV,subL,go_sem,↓dP,↓reduceIte])
  ((repeat' with_reducible apply And.intro)<;>(first | exact DEq.refl _ | refine DEq.int ?_ | refine DEq.bool ?_ | skip))
 intro hs
 (refine Ok.skip ?_;(try dsimp only [thenK,blockK,noGotoK]))
 have hs':rightB J = true/\slimB l = true:=by
  revert hs;cases rightB J<;>cases slimB l<;>simp
 obtain ⟨hr,hsl⟩:=hs'
 simp only [rightB,Bool.and_eq_true] at hr
 obtain ⟨hsh,hj⟩:=hr
 have hh:=short_held hsh
 have h:=jobB_iff.1 hj
 have hp:=h.p1
 have hsl':l.length<=8:=by simpa [slimB] using hsl
 have hC:=c_Cut J h
 have hW:=c_Ways J h
 have hlen:=bsts_len (J:=J) hp
 have hmem:∀ m∈bsts J,m.length = J.ps.length/\grows m 0 = true:=fun m hm => bsts_mem hm
 have hbn:bsts J = []->cutB J l = false:=fun e => cutB_no (fun M h1 _ => by rw [bests_none.1 e] at h1;cases h1)
 have hci:=cuts_iff (fit_sub h.sized) J.ps.length
 have hbest:∀ x L,bsts J = x :: L->cutB J (asI x) = true/\(cutB J l = true->(leaves x:Int) < leavesW l∨((leaves x:Int) = leavesW l/\beforeL l (asI x) = false/\(l = asI x∨1 < (x :: L).length))):=fun x L e => by
  have hh1:(bestsL J.fit J.ps.length).head? = some x:=by rw [show bestsL J.fit J.ps.length = x :: L from e];rfl
  refine ⟨cutB_iff.2 ⟨x,(mem_bestsL.1 (List.mem_of_head? hh1)).1,rfl⟩,fun q => ?_⟩
  obtain ⟨M,h1,rfl⟩:=cutB_iff.1 q
  have hMg:=(mem_cutsL.1 h1).2.1
  have hMl:=(mem_cutsL.1 h1).1
  have hMv:=leaves_len M hMg
  have hMw:=leavesW_asI M (fun y hy => by have:=leaves_le M y hy;omega)
  rw [hMw]
  have hb:=best_first hh1 h1
  rw [show bestsL J.fit J.ps.length = x :: L from e] at hb
  rcases hb with hb | ⟨b1,b2,b3⟩
  ·exact .inl (by omega)
  ·exact .inr ⟨by omega,b2,b3.imp (fun q => by rw [q]) (fun q => q)⟩
 have hone:∀ k:Nat,k < J.ps.length->Ctr Tryz.prog 18 [J.sv,litS [(k:Int)]] (.tup [bS (J.fit (2 ^ k)),bS true]):=fun k hk => by
  have:=c_lfits J h [k] ⟨Nat.zero_le _,hk,trivial⟩
  rw [show setL (asI [k]) = 2 ^ k by simp [setL]] at this
  exact this.args ⟨⟨.refl _,.refl _,.refl _,.refl _,.refl _,.refl _,trivial⟩,litD _,trivial⟩
 rw [show bestsL J.fit J.ps.length = bsts J from rfl] at hci
 generalize bsts J = B at hC hW hlen hmem hbn hci hbest
 (first|refine qE ?_|refine qD ?_);(simp only [go_sem,↓dP,↓reduceIte];with_reducible and_intros;all_goals first|apply qA|exact qC|skip)
 (refine AskI.ret (hC) ?_;simp only [go_sem,↓dP,↓reduceIte];with_reducible and_intros;all_goals first|apply qA|exact qC|skip)
 (first|refine qE ?_|refine qD ?_);(simp only [go_sem,↓dP,↓reduceIte];with_reducible and_intros;all_goals first|apply qA|exact qC|skip)
 (refine AskI.ret (hW) ?_;simp only [go_sem,↓dP,↓reduceIte];with_reducible and_intros;all_goals first|apply qA|exact qC|skip)
 (first|refine qE ?_|refine qD ?_);(simp only [go_sem,↓dP,↓reduceIte];with_reducible and_intros;all_goals first|apply qA|exact qC|skip)
 (refine AskI.ret (c_lcutting J h l (by omega)) ?_;simp only [go_sem,↓dP,↓reduceIte];with_reducible and_intros;all_goals first|apply qA|exact qC|skip)
 refine Ok.seq ?_
 (first|refine qE ?_|refine qD ?_);(simp only [go_sem,↓dP,↓reduceIte];with_reducible and_intros;all_goals first|apply qA|exact qC|skip)
 cases B with
 | nil =>
  refine Ok.cond rfl (fun hb => by simp at hb) (fun _ => ?_)
  (refine Ok.skip ?_;(try dsimp only [thenK,blockK,noGotoK]))
  refine Ok.seq ?_
  (first|refine qE ?_|refine qD ?_);(simp only [go_sem,↓dP,↓reduceIte];with_reducible and_intros;all_goals first|apply qA|exact qC|skip)
  refine Ok.seq ?_
  (first|refine qE ?_|refine qD ?_);(simp only [go_sem,↓dP,↓reduceIte];with_reducible and_intros;all_goals first|apply qA|exact qC|skip)
  refine Ok.block ?_
  refine Ok.count J.ps.length (fun i => ⟨[(1,ilS l),(2,.p 0 0),(5,ilS (asI [])),(6,iS 0),(7,iS 5),(8,iS 0),(10,bS (cutB J l)),(12,bS ((List.range i).all (fun k => J.fit (2 ^ k)))),(13,iS i)],[jobC J],[]⟩) (fun _ => True) ⟨trivial,?_⟩ ?_ ?_
  ·(refine Sub.of ([0]) ([]) ?_ ?_ ?_ rfl rfl<;>simp only [subB,subB1,subT,subT1,newT,subE,subV,subL,go_sem,↓dP,↓reduceIte]<;>(try (repeat' with_reducible apply And.intro))<;>(try first | exact DEq.refl _ | refine DEq.int ?_ | refine DEq.bool ?_ | omega))
  ·intro i hi _
   refine Ok.seq ?_;((first|refine qE ?_|refine qD ?_);(simp only [go_sem,↓dP,↓reduceIte];with_reducible and_intros;all_goals first|apply qA|exact qC|skip));refine Ok.cond rfl (fun _ => ?_) (fun hb => by simp at hb;omega);(refine Ok.skip ?_;(try dsimp only [thenK,blockK,noGotoK]));refine Ok.seq ?_;refine Ok.block ?_
   (first|refine qE ?_|refine qD ?_);(simp only [go_sem,↓dP,↓reduceIte];with_reducible and_intros;all_goals first|apply qA|exact qC|skip)
   (refine AskI.ret (hone i hi) ?_;simp only [go_sem,↓dP,↓reduceIte];with_reducible and_intros;all_goals first|apply qA|exact qC|skip)
   refine Ok.seq ?_
   (first|refine qE ?_|refine qD ?_);(simp only [go_sem,↓dP,↓reduceIte];with_reducible and_intros;all_goals first|apply qA|exact qC|skip)
   refine Ok.cond (b:=false) (by first | rfl | (simp only [go_sem,↓dP,↓reduceIte];rfl)) (fun hb => by cases hb) (fun _ => ?_)
   (refine Ok.skip ?_;(try dsimp only [thenK,blockK,noGotoK]))
   (first|refine qE ?_|refine qD ?_);(simp only [go_sem,↓dP,↓reduceIte];with_reducible and_intros;all_goals first|apply qA|exact qC|skip)
   (try dsimp only [thenK,blockK,noGotoK])
   (first|refine qE ?_|refine qD ?_);(simp only [go_sem,↓dP,↓reduceIte];with_reducible and_intros;all_goals first|apply qA|exact qC|skip)
   (try dsimp only [thenK,blockK,noGotoK])
   refine ⟨trivial,?_⟩
   (refine Sub.of ([0]) ([]) ?_ ?_ ?_ rfl rfl<;>simp only [subB,subB1,subT,subT1,newT,subE,subV,subL,go_sem,↓dP,↓reduceIte]<;>(try (repeat' with_reducible apply And.intro))<;>(try first | exact DEq.refl _ | refine DEq.int ?_ | refine DEq.bool ?_ | omega))
   rw [List.all_append];simp
  intro _
  have hall:(List.range J.ps.length).all (fun k => J.fit (2 ^ k)) = false:=by
   rw [Bool.eq_false_iff]
   intro q
   rw [List.all_eq_true] at q
   exact (hci.2 (fun i hi => q i (List.mem_range.2 hi))) rfl
  refine Ok.seq ?_;((first|refine qE ?_|refine qD ?_);(simp only [go_sem,↓dP,↓reduceIte];with_reducible and_intros;all_goals first|apply qA|exact qC|skip));refine Ok.cond rfl (fun hb => by simp at hb) (fun _ => ?_);(refine Ok.exit ?_;simp only [thenK_exit,blockK_exit,noGotoK_exit,thenK_normal,blockK_normal,noGotoK_normal,↓reduceIte,Nat.reduceEqDiff])
  refine Ok.seq ?_
  (first|refine qE ?_|refine qD ?_);(simp only [go_sem,↓dP,↓reduceIte];with_reducible and_intros;all_goals first|apply qA|exact qC|skip)
  rw [hall]
  refine Ok.cond (b:=false) (by first | rfl | (simp only [go_sem,↓dP,↓reduceIte];rfl)) (fun hb => by cases hb) (fun _ => ?_)
  (refine Ok.skip ?_;(try dsimp only [thenK,blockK,noGotoK]))
  refine Ok.seq ?_
  (first|refine qE ?_|refine qD ?_);(simp only [go_sem,↓dP,↓reduceIte];with_reducible and_intros;all_goals first|apply qA|exact qC|skip)
  refine Ok.cond (b:=true) (by first | rfl | (simp only [go_sem,↓dP,↓reduceIte];rfl)) (fun _ => ?_) (fun hb => by cases hb)
  (first|refine qE ?_|refine qD ?_);(simp only [go_sem,↓dP,↓reduceIte];with_reducible and_intros;all_goals first|apply qA|exact qC|skip)
  (refine AskGI.ret (fun _ => c_known) ?_;simp only [go_sem,↓dP,↓reduceIte];with_reducible and_intros;all_goals first|apply qA|exact qC|skip)
  (refine Ok.ret ?_;(try dsimp only [thenK,blockK,noGotoK]);simp only [toList_mk,List.toList_toArray,retK_ret,retK_normal,resOK,resV,celV,rowV,frzAll,frzT,subV,subL,go_sem,↓dP,↓reduceIte])
  rw [hbn rfl]
  ((repeat' with_reducible apply And.intro)<;>(first | exact DEq.refl _ | refine DEq.int ?_ | refine DEq.bool ?_ | skip))
 | cons x L =>
  refine Ok.cond rfl (fun hb => by simp at hb;omega) (fun _ => ?_)
  (refine Ok.skip ?_;(try dsimp only [thenK,blockK,noGotoK]))
  refine Ok.seq ?_
  (first|refine qE ?_|refine qD ?_);(simp only [go_sem,↓dP,↓reduceIte];with_reducible and_intros;all_goals first|apply qA|exact qC|skip)
  refine Ok.seq ?_
  (first|refine qE ?_|refine qD ?_);(simp only [go_sem,↓dP,↓reduceIte];with_reducible and_intros;all_goals first|apply qA|exact qC|skip)
  refine Ok.block ?_
  refine Ok.count J.ps.length (fun i => ⟨[(1,ilS l),(2,.p 0 0),(5,ilS (asI x)),(6,iS (leaves x)),(7,iS 0),(8,iS (x :: L).length),(10,bS (cutB J l)),(12,bS ((List.range i).all (fun k => J.fit (2 ^ k)))),(13,iS i)],[jobC J],[]⟩) (fun _ => True) ⟨trivial,?_⟩ ?_ ?_
  ·(refine Sub.of ([0]) ([]) ?_ ?_ ?_ rfl rfl<;>simp only [subB,subB1,subT,subT1,newT,subE,subV,subL,go_sem,↓dP,↓reduceIte]<;>(try (repeat' with_reducible apply And.intro))<;>(try first | exact DEq.refl _ | refine DEq.int ?_ | refine DEq.bool ?_ | omega))
  ·intro i hi _
   refine Ok.seq ?_;((first|refine qE ?_|refine qD ?_);(simp only [go_sem,↓dP,↓reduceIte];with_reducible and_intros;all_goals first|apply qA|exact qC|skip));refine Ok.cond rfl (fun _ => ?_) (fun hb => by simp at hb;omega);(refine Ok.skip ?_;(try dsimp only [thenK,blockK,noGotoK]));refine Ok.seq ?_;refine Ok.block ?_
   (first|refine qE ?_|refine qD ?_);(simp only [go_sem,↓dP,↓reduceIte];with_reducible and_intros;all_goals first|apply qA|exact qC|skip)
   (refine AskI.ret (hone i hi) ?_;simp only [go_sem,↓dP,↓reduceIte];with_reducible and_intros;all_goals first|apply qA|exact qC|skip)
   refine Ok.seq ?_
   (first|refine qE ?_|refine qD ?_);(simp only [go_sem,↓dP,↓reduceIte];with_reducible and_intros;all_goals first|apply qA|exact qC|skip)
   refine Ok.cond (b:=false) (by first | rfl | (simp only [go_sem,↓dP,↓reduceIte];rfl)) (fun hb => by cases hb) (fun _ => ?_)
   (refine Ok.skip ?_;(try dsimp only [thenK,blockK,noGotoK]))
   (first|refine qE ?_|refine qD ?_);(simp only [go_sem,↓dP,↓reduceIte];with_reducible and_intros;all_goals first|apply qA|exact qC|skip)
   (try dsimp only [thenK,blockK,noGotoK])
   (first|refine qE ?_|refine qD ?_);(simp only [go_sem,↓dP,↓reduceIte];with_reducible and_intros;all_goals first|apply qA|exact qC|skip)
   (try dsimp only [thenK,blockK,noGotoK])
   refine ⟨trivial,?_⟩
   (refine Sub.of ([0]) ([]) ?_ ?_ ?_ rfl rfl<;>simp only [subB,subB1,subT,subT1,newT,subE,subV,subL,go_sem,↓dP,↓reduceIte]<;>(try (repeat' with_reducible apply And.intro))<;>(try first | exact DEq.refl _ | refine DEq.int ?_ | refine DEq.bool ?_ | omega))
   rw [List.all_append];simp
  intro _
  have hall:(List.range J.ps.length).all (fun k => J.fit (2 ^ k)) = true:=by
   rw [List.all_eq_true]
   exact fun k hk => (hci.1 (by simp)) k (List.mem_range.1 hk)
  obtain ⟨hb1,hb2⟩:=hbest x L rfl
  have hx:=hmem x (List.mem_cons_self ..)
  have hxl:(asI x).length = x.length:=asI_len x
  refine Ok.seq ?_;((first|refine qE ?_|refine qD ?_);(simp only [go_sem,↓dP,↓reduceIte];with_reducible and_intros;all_goals first|apply qA|exact qC|skip));refine Ok.cond rfl (fun hb => by simp at hb) (fun _ => ?_);(refine Ok.exit ?_;simp only [thenK_exit,blockK_exit,noGotoK_exit,thenK_normal,blockK_normal,noGotoK_normal,↓reduceIte,Nat.reduceEqDiff])
  refine Ok.seq ?_
  (first|refine qE ?_|refine qD ?_);(simp only [go_sem,↓dP,↓reduceIte];with_reducible and_intros;all_goals first|apply qA|exact qC|skip)
  rw [hall]
  refine Ok.cond (b:=false) (by first | rfl | (simp only [go_sem,↓dP,↓reduceIte];rfl)) (fun hb => by cases hb) (fun _ => ?_)
  (refine Ok.skip ?_;(try dsimp only [thenK,blockK,noGotoK]))
  refine Ok.seq ?_
  (first|refine qE ?_|refine qD ?_);(simp only [go_sem,↓dP,↓reduceIte];with_reducible and_intros;all_goals first|apply qA|exact qC|skip)
  refine Ok.cond (b:=false) (by first | rfl | (simp only [go_sem,↓dP,↓reduceIte];rfl)) (fun hb => by cases hb) (fun _ => ?_)
  (refine Ok.skip ?_;(try dsimp only [thenK,blockK,noGotoK]))
  (first|refine qE ?_|refine qD ?_);(simp only [go_sem,↓dP,↓reduceIte];with_reducible and_intros;all_goals first|apply qA|exact qC|skip)
  (refine AskI.ret (c_lcutting J h (asI x) (by omega)) ?_;simp only [go_sem,↓dP,↓reduceIte];with_reducible and_intros;all_goals first|apply qA|exact qC|skip)
  refine Ok.seq ?_
  (first|refine qE ?_|refine qD ?_);(simp only [go_sem,↓dP,↓reduceIte];with_reducible and_intros;all_goals first|apply qA|exact qC|skip)
  (refine AskGI.ret (fun _ => leaves_ctr (by omega) hx.2) ?_;simp only [go_sem,↓dP,↓reduceIte];with_reducible and_intros;all_goals first|apply qA|exact qC|skip)
  rw [hb1]
  refine Ok.cond rfl (fun hb => by simp at hb) (fun _ => ?_)
  (refine Ok.skip ?_;(try dsimp only [thenK,blockK,noGotoK]))
  (first|refine qE ?_|refine qD ?_);(simp only [go_sem,↓dP,↓reduceIte];with_reducible and_intros;all_goals first|apply qA|exact qC|skip)
  (refine AskI.ret (c_rLeavesW l (by omega)) ?_;simp only [go_sem,↓dP,↓reduceIte];with_reducible and_intros;all_goals first|apply qA|exact qC|skip)
  (first|refine qE ?_|refine qD ?_);(simp only [go_sem,↓dP,↓reduceIte];with_reducible and_intros;all_goals first|apply qA|exact qC|skip)
  (refine AskGI.ret (fun _ => c_tBefore l (asI x) (by omega) (by omega)) ?_;simp only [go_sem,↓dP,↓reduceIte];with_reducible and_intros;all_goals first|apply qA|exact qC|skip)
  (refine AskGI.ret (fun _ => c_tSame l (asI x) (by omega) (by omega)) ?_;simp only [go_sem,↓dP,↓reduceIte];with_reducible and_intros;all_goals first|apply qA|exact qC|skip)
  (refine AskGI.ret (fun _ => c_known) ?_;simp only [go_sem,↓dP,↓reduceIte];with_reducible and_intros;all_goals first|apply qA|exact qC|skip)
  (refine Ok.ret ?_;(try dsimp only [thenK,blockK,noGotoK]);simp only [toList_mk,List.toList_toArray,retK_ret,retK_normal,resOK,resV,celV,rowV,frzAll,frzT,subV,subL,go_sem,↓dP,↓reduceIte])
  refine DEq.bool ?_
  cases hcb:cutB J l with
  | false => rfl
  | true =>
   rcases hb2 hcb with q | ⟨q1,q2,q3⟩
   ·rw [decide_eq_true q];rfl
   ·rw [← q1,q2]
    rcases q3 with q3 | q3
    ·subst q3;simp
    ·have:(1:Int) < ((L.length + 1:Nat):Int):=by simp at q3;omega
     have e:decide ((1:Int) < ((L.length + 1:Nat):Int)) = true:=decide_eq_true this
     rw [e];simp
end
end Go.Proofs.Leaf
namespace Go.Proofs.YtojfpogcfpmblaaGreatDoor
open Go Go.RX Go.Proofs.Leaf Go.RowKit Go.ChangeShapes Go.WideShapes Go.ChangeAt
set_option maxRecDepth 100000
theorem leafCutting_ctr (As:List SV) (h:opensAll [25,26] As):Ctr Tryz.prog 6 As (bS true):=by
 obtain ⟨_,A1,rfl,h0,h⟩:=opensAll_cons h
 obtain ⟨_,A2,rfl,h1,h⟩:=opensAll_cons h
 obtain rfl:=opensAll_nil h
 obtain ⟨x0,rfl,y0⟩:=opens_job h0
 obtain ⟨x1,rfl,y1⟩:=opens_ints h1
 exact law_Cutting x0 y0 x1 y1
theorem leafCutting_facts:joinedFacts Tryz.prog 6 Tryz.f6 Rows.leafCuttingSpec Rows.leafCuttingRow = true:=by unfold joinedFacts;rw [enter_is,final_is,make_is];kernel_rfl
theorem leafCutting_lifted (os:Os) (started:os.Started) (H:Type) (enc:TypeId×Value->H) :
  ReturnsInHanded {} Tryz.checked os 6 .any (fun w args => (Rows.leafCuttingSpec.pre enc Tryz.prog Tryz.f6 [] false w args/\laidMetH Tryz.prog laid5 w)/\sizedMet enc Tryz.prog Tryz.f6 (OpenSpec.ofChange Rows.leafCuttingSpec) false w args)
   (Rows.leafCuttingSpec.post enc Tryz.prog Tryz.f6 false true false false):=by
 refine law_ctr (ts:=[25,26]) Rows.leafCuttingSpec rfl started (by kernel_rfl) Tryz.func6 (by kernel_rfl) (by rw [Tryz.params6]) (by unfold argT;decide)
  (fun ds hd => ?_)
  (ChangeSpec.witness_shaped (enc:=enc) (C:=Tryz.checked) (os:=os) (X:=fun w _ => laidMetH Tryz.prog laid5 w) false (World.laidAll Tryz.prog os laid5) #[zJ,zL] 8 (World.laidAll_os _ _ _)
   (World.shaped_of_ZipB (by kernel_rfl) (by kernel_rfl)) (by kernel_rfl) (by kernel_rfl) (by kernel_rfl)
   (by rw [MakeChecks.laidMetH_plain _ _ _ (by kernel_rfl)];exact laidMet_laidAll _ (by kernel_rfl) (by kernel_rfl))) leafCutting_ctr
 match ds,hd with
 | [d0,d1],_ => rfl
theorem leafCutting_row:Rows.LeafCuttingSaid :=
 OpenClaim.holds_of_wide 6 Tryz.f6 rfl rfl rfl rfl rfl rfl rfl ⟨rfl,rfl,rfl,rfl,rfl⟩ rfl rfl rfl rfl rfl (by kernel_rfl) Tryz.func6 leafCutting_facts (of_decide_eq_true (by kernel_rfl))
  (by unfold Func.isWrapper;first | (rw [if_pos (by decide +kernel)];kernel_rfl) | (rw [if_neg (by decide +kernel)];exact ⟨rfl,rfl⟩)) (fun os started H enc _ => leafCutting_lifted os started H enc)
theorem leafCutting_card:Rows.LeafCuttingCardSaid :=
 Claim7.holds_tied_plain_at .later [] [.data,.data,.data,.data,.pinned] true (true,"b9e665a4b67ae011e5ed22b8eb226cc6d74f55357845231d1045bbc61717fa8c") true leafCutting_row
  (fun _ h => by cases h) (by kernel_rfl) (fun _ h => by cases h) leafCutting_row_tie rfl ⟨rfl,rfl⟩ main_is rfl
  (fun f fn hf hfn => by
   obtain rfl:f = 6:=Option.some.inj ((show Tryz.prog.funcNamed "mahlstick/mahlsticklaw04.LeafCutting" = some 6 by kernel_rfl).symm.trans hf) |>.symm
   obtain rfl:fn = Tryz.f6:=(Option.some.inj (Tryz.func6.symm.trans hfn)).symm
   exact ⟨by kernel_rfl,fun j t ht => by
    rw [Tryz.params6] at ht
    exact law_stand (ts:=[25,26]) (by unfold argT;decide) (by simpa using Array.mem_of_getElem? ht)⟩) (by kernel_rfl)
end Go.Proofs.YtojfpogcfpmblaaGreatDoor
