/-
  what is more: a larger leaf, a smaller piece, longer hours: LeafMore returns true at every input, and leaves it as it was.
  No condition beside those that the statement itself names.
-/
import Derived.Test.YtdajcfdhcjbmmaaGreatDoorB30
import Derived.ChangeMaps5
set_option linter.all false
namespace Go.Proofs.Leaf
def beforeL:List Int->List Int->Bool
 | [],[] => false
 | [],_ :: _ => true
 | _ :: _,[] => false
 | x :: l,y :: m => if x = y then beforeL l m else decide (x < y)
theorem before_pre:∀ (now:List Int) (l m:List Int),beforeL (now ++ l) (now ++ m) = beforeL l m
 | [],_,_ => rfl
 | x :: now,l,m => by simp [beforeL,before_pre now l m]
theorem before_irr:∀ l:List Int,beforeL l l = false
 | [] => rfl
 | x :: l => by simp [beforeL,before_irr l]
theorem before_asymm:∀ (l m:List Int),beforeL l m = true->beforeL m l = false
 | [],[],h => by cases h
 | [],_ :: _,_ => rfl
 | _ :: _,[],h => by cases h
 | x :: l,y :: m,h => by
  unfold beforeL at h ⊢
  by_cases e:x = y
  ·rw [if_pos e] at h;rw [if_pos e.symm];exact before_asymm l m h
  ·rw [if_neg e,decide_eq_true_eq] at h
   rw [if_neg (fun q => e q.symm),decide_eq_false_iff_not];omega
theorem within_mono:∀ {l:List Int} {s t:List (Int×Int)},within l s->s.length = t.length->(∀ i,i < s.length->(t.getD i default).1<=(s.getD i default).1/\(s.getD i default).2<=(t.getD i default).2)->within l t
 | [],[],[],_,_,_ => trivial
 | x :: l,(a,b) :: s,(c,d) :: t,h,hl,hs => by
  have h0:=hs 0 (by simp)
  simp only [List.getD_cons_zero] at h0
  have h1:=h.1
  have h2:=h.2.1
  refine ⟨by omega,by omega,within_mono h.2.2 (by simpa using hl) (fun i hi => ?_)⟩
  simpa using hs (i + 1) (by simpa using hi)
 | [],_ :: _,_,h,_,_ => h.elim
 | _ :: _,[],_,h,_,_ => h.elim
 | [],[],_ :: _,_,hl,_ => by simp at hl
 | _ :: _,_ :: _,[],_,hl,_ => by simp at hl
end Go.Proofs.Leaf
namespace Go.Proofs.Leaf
theorem bests_none {fit:Nat->Bool} {k:Nat}:bestsL fit k = [] ↔ cutsL fit k = []:=by
 constructor
 ·intro h
  refine Classical.byContradiction (fun hne => ?_)
  have:∃ l∈cutsL fit k,∀ m∈cutsL fit k,leaves l<=leaves m:=by
   generalize cutsL fit k = L at hne
   clear h
   induction L with
   | nil => exact absurd rfl hne
   | cons a L ih =>
    by_cases hL:L = []
    ·subst hL
     exact ⟨a,List.mem_cons_self ..,fun m hm => by simp at hm;subst hm;exact Nat.le_refl _⟩
    ·obtain ⟨l,h1,h2⟩:=ih hL
     by_cases hle:leaves a<=leaves l
     ·refine ⟨a,List.mem_cons_self ..,fun m hm => ?_⟩
      rcases List.mem_cons.1 hm with rfl | hm
      ·exact Nat.le_refl _
      ·exact Nat.le_trans hle (h2 m hm)
     ·refine ⟨l,List.mem_cons_of_mem _ h1,fun m hm => ?_⟩
      rcases List.mem_cons.1 hm with rfl | hm
      ·omega
      ·exact h2 m hm
  obtain ⟨l,h1,h2⟩:=this
  have:=mem_bestsL.2 ⟨h1,h2⟩
  rw [h] at this;cases this
 ·intro h
  rw [bestsL,h];rfl
theorem best_mono {fit fit':Nat->Bool} {k:Nat} (h:∀ s,s < 2 ^ k->fit s = true->fit' s = true) {l:List Nat} (hl:(bestsL fit k).head? = some l):∃ m,(bestsL fit' k).head? = some m/\leaves m<=leaves l:=by
 have h1:=(mem_bestsL.1 (List.mem_of_head? hl)).1
 have h2:l∈cutsL fit' k:=by
  obtain ⟨a,b,c⟩:=mem_cutsL.1 h1
  exact mem_cutsL.2 ⟨a,b,fun n hn => h _ (by rw [← a];exact mask_lt l n) (c n hn)⟩
 cases hb:bestsL fit' k with
 | nil => rw [bests_none.1 hb] at h2;cases h2
 | cons m L =>
  have hm:m∈bestsL fit' k:=by rw [hb];exact List.mem_cons_self ..
  exact ⟨m,rfl,(mem_bestsL.1 hm).2 l h2⟩
theorem combo_sorted (n:Nat):∀ (k fr:Nat) (now:List Nat),(comboK n k fr now).Pairwise (fun l m => beforeL (asI l) (asI m) = true)
 | 0,fr,now => by simp [comboK]
 | k + 1,fr,now => by
  rw [comboK,List.pairwise_flatMap]
  refine ⟨fun i _ => combo_sorted n k _ _,List.pairwise_lt_range.imp (fun {i j} hlt x hx y hy => ?_)⟩
  obtain ⟨t,rfl,_⟩:=(mem_combo n k _ _ _).1 hx
  obtain ⟨u,rfl,_⟩:=(mem_combo n k _ _ _).1 hy
  have e:∀ (i:Nat) (t:List Nat),asI (now ++ [fr + i] ++ t) = asI now ++ (((fr + i:Nat):Int) :: asI t):=fun n t => by simp [asI]
  rw [e,e,before_pre,beforeL,if_neg (by omega)]
  exact decide_eq_true (by omega)
theorem leave_spec {n:Nat} {q:List Nat->Bool} {l:List Nat} (h:leaveL n q = some l):rises n 0 l/\q l = true/\∀ m,rises n 0 m->m.length<=n->q m = true->l.length < m.length∨(l.length = m.length/\beforeL (asI m) (asI l) = false):=by
 unfold leaveL at h
 have hall:∀ m:List Nat,m∈(List.range (n + 1)).flatMap (fun k => comboK n k 0 []) ↔ m.length<=n/\rises n 0 m:=by
  intro m
  simp only [List.mem_flatMap,List.mem_range]
  constructor
  ·rintro ⟨k,hk,hm⟩
   obtain ⟨t,rfl,h1,h2⟩:=(mem_combo n k _ _ m).1 hm
   exact ⟨by first | omega | (simp;omega),by simpa using h2⟩
  ·rintro ⟨h1,h2⟩
   exact ⟨m.length,by omega,(mem_combo n _ _ _ m).2 ⟨m,by simp,rfl,h2⟩⟩
 have hs:((List.range (n + 1)).flatMap (fun k => comboK n k 0 [])).Pairwise (fun l m => l.length < m.length∨(l.length = m.length/\beforeL (asI l) (asI m) = true)):=by
  rw [List.pairwise_flatMap]
  refine ⟨fun k _ => (combo_sorted n k 0 []).imp_of_mem (fun {a b} ha hb hab => .inr ⟨?_,hab⟩),List.pairwise_lt_range.imp (fun {i j} hlt x hx y hy => .inl ?_)⟩
  ·obtain ⟨t,rfl,h1,_⟩:=(mem_combo n k _ _ _).1 ha
   obtain ⟨u,rfl,h2,_⟩:=(mem_combo n k _ _ _).1 hb
   simp [h1,h2]
  ·obtain ⟨t,rfl,h1,_⟩:=(mem_combo n i _ _ _).1 hx
   obtain ⟨u,rfl,h2,_⟩:=(mem_combo n j _ _ _).1 hy
   simp [h1,h2];omega
 have hq:=List.find?_some h
 have hm:=List.mem_of_find?_eq_some h
 refine ⟨((hall l).1 hm).2,hq,fun m hr hl hqm => ?_⟩
 have hmm:=(hall m).2 ⟨hl,hr⟩
 revert h hs hmm
 generalize (List.range (n + 1)).flatMap (fun k => comboK n k 0 []) = L
 intro h hs hmm
 rw [List.find?_eq_some_iff_append] at h
 obtain ⟨_,as1,bs,rfl,hno⟩:=h
 rcases List.mem_append.1 hmm with h1 | h1
 ·have:=hno m h1
  rw [hqm] at this;cases this
 ·rcases List.mem_cons.1 h1 with rfl | h1
  ·exact .inr ⟨rfl,before_irr _⟩
  ·have:=(List.pairwise_cons.1 (List.pairwise_append.1 hs).2.1).1 m h1
   rcases this with h2 | ⟨h2,h3⟩
   ·exact .inl h2
   ·exact .inr ⟨h2,before_asymm _ _ h3⟩
end Go.Proofs.Leaf
namespace Go.Proofs.Leaf
theorem can_piece {ps ps':List Piece} (hl:ps'.length = ps.length) (hp:∀ n,n < ps.length->∀ w h,alone (ps.getD n default) w h = true->alone (ps'.getD n default) w h = true) (ha:∀ s,area ps' s<=area ps s) :
  ∀ (k w h s:Nat),w + h<=k->can ps w h s = true->can ps' w h s = true:=by
 intro k
 have one:∀ (w h s:Nat),s ≠ 0->single s = true->can ps w h s = true->can ps' w h s = true:=by
  intro w h s h0 h1 hc
  obtain ⟨n,hn,e,ha⟩:=(can_one h0 h1).1 hc
  exact (can_one h0 h1).2 ⟨n,by omega,e,hp n hn w h ha⟩
 induction k with
 | zero =>
  intro w h s hk hc
  by_cases h0:s = 0
  ·subst h0;exact can_zero ..
  ·cases h1:single s with
   | true => exact one w h s h0 h1 hc
   | false => obtain ⟨_,⟨n,_,_,hn,_⟩ | ⟨n,_,_,hn,_⟩⟩:=(can_more h0 h1).1 hc<;>omega
 | succ k ih =>
  intro w h s hk hc
  by_cases h0:s = 0
  ·subst h0;exact can_zero ..
  ·cases h1:single s with
   | true => exact one w h s h0 h1 hc
   | false =>
    obtain ⟨hle,hx⟩:=(can_more h0 h1).1 hc
    refine (can_more h0 h1).2 ⟨Int.le_trans (ha s) hle,?_⟩
    rcases hx with ⟨n,t,q1,q2,q3,q4,q5⟩ | ⟨n,t,q1,q2,q3,q4,q5⟩
    ·exact .inl ⟨n,t,q1,q2,q3,ih n h t (by omega) q4,ih (w - n) h _ (by omega) q5⟩
    ·exact .inr ⟨n,t,q1,q2,q3,ih w n t (by omega) q4,ih w (h - n) _ (by omega) q5⟩
theorem area_mono:∀ (ps ps':List Piece) (s:Nat),ps'.length = ps.length->(∀ n,n < ps.length->(ps'.getD n default).w * (ps'.getD n default).h<=(ps.getD n default).w * (ps.getD n default).h)->area ps' s<=area ps s
 | [],[],_,_,_ => Int.le_refl _
 | p :: ps,q :: ps',s,hl,h => by
  have ih:=area_mono ps ps' (s / 2) (by simpa using hl) (fun n hn => by simpa using h (n + 1) (by simpa using hn))
  have h0:=h 0 (by simp)
  simp only [List.getD_cons_zero] at h0
  simp only [area]
  split<;>omega
 | [],_ :: _,_,hl,_ => by simp at hl
 | _ :: _,[],_,hl,_ => by simp at hl
end Go.Proofs.Leaf
namespace Go.Proofs.Leaf
theorem head_some {α:Type} {L:List α}:L.head?.isSome = true ↔ ∃ x,x∈L:=by
 cases L with
 | nil => simp
 | cons a L => simp only [List.head?_cons,Option.isSome_some,true_iff];exact ⟨a,List.mem_cons_self ..⟩
theorem plan_wider {s t:List (Int×Int)} (hl:s.length = t.length) (h:∀ i,i < s.length->(t.getD i default).1<=(s.getD i default).1/\(s.getD i default).2<=(t.getD i default).2):(planL s []).head?.isSome = true->(planL t []).head?.isSome = true:=by
 rw [head_some,head_some]
 rintro ⟨l,hl2⟩
 obtain ⟨h1,h2⟩:=plan_iff.1 hl2
 exact ⟨l,plan_iff.2 ⟨within_mono h1 hl h,h2⟩⟩
theorem leave_wider {s t:List (Int×Int)} (hl:s.length = t.length) (h:∀ i,i < s.length->(t.getD i default).1<=(s.getD i default).1/\(s.getD i default).2<=(t.getD i default).2) {a b:List Nat} (ha:leaveOf s = some a) (hb:leaveOf t = some b):b.length<=a.length:=by
 obtain ⟨a1,a2,_⟩:=leave_spec ha
 obtain ⟨_,_,b3⟩:=leave_spec hb
 have hlen:a.length<=s.length:=by
  have:∀ (n fr:Nat) (l:List Nat),rises n fr l->l.length<=n - fr∨l = []:=by
   intro n fr l
   induction l generalizing fr with
   | nil => intro _;exact .inr rfl
   | cons x l ih =>
    rintro ⟨h1,h2,h3⟩
    rcases ih _ h3 with h4 | h4
    ·left;simp;omega
    ·left;subst h4;simp;omega
  rcases this _ _ _ a1 with h1 | h1
  ·omega
  ·subst h1;simp
 have hf:freeB t a = true:=by
  unfold freeB at a2 ⊢
  rw [← hl]
  refine plan_wider (by simp) (fun i hi => ?_) a2
  rw [List.length_map] at hi
  have hm:=getD_mem' (l:=othersL s.length a) hi
  have hlt:(othersL s.length a).getD i default < s.length:=by
   have:=List.mem_range.1 (List.mem_filter.1 hm).1
   exact this
  have e:∀ sp:List (Int×Int),((othersL s.length a).map (fun i => sp.getD i default)).getD i default = sp.getD ((othersL s.length a).getD i default) default:=fun sp => by
   simp [List.getD_eq_getElem?_getD,hi]
  rw [e,e]
  exact h _ hlt
 rw [← hl] at b3
 rcases b3 a a1 hlen hf with h1 | ⟨h1,_⟩<;>omega
end Go.Proofs.Leaf
namespace Go.Proofs.Leaf
open Go Go.RX Go.Proofs
set_option maxRecDepth 10000
variable [Glob]
theorem c_rin (n lo hi:Int):Ctr Tryz.prog 50 [iS n,iS lo,iS hi] (bS (inB n lo hi)):=by
 (refine Ctr.mk (fn:=Tryz.f50) rfl rfl rfl rfl rfl Tryz.results50 ?_;intro _;dsimp only [args,List.toList_toArray])
 (first|refine qE ?_|refine qD ?_);(simp only [go_sem,↓dP,↓reduceIte];with_reducible and_intros;all_goals first|apply qA|exact qC|skip)
 (first|refine qE ?_|refine qD ?_);(simp only [go_sem,↓dP,↓reduceIte];with_reducible and_intros;all_goals first|apply qA|exact qC|skip)
 (refine Ok.ret ?_;(try dsimp only [thenK,blockK,noGotoK]);simp only [toList_mk,List.toList_toArray,retK_ret,retK_normal,resOK,resV,celV,rowV,frzAll,frzT,subV,subL,go_sem,↓dP,↓reduceIte])
 exact .refl _
end Go.Proofs.Leaf
namespace Go.Proofs.Leaf
open Go Go.RX Go.Proofs
set_option maxRecDepth 10000
variable [Glob]
theorem c_rPiece (J:Job) (hh:J.ps.length < 1000000) (n:Int):Ctr Tryz.prog 15 [J.sv,iS n] (bS (inB n 0 (J.ps.length - 1))):=by
 (refine Ctr.mk (fn:=Tryz.f15) rfl rfl rfl rfl rfl Tryz.results15 ?_;intro _;dsimp only [args,List.toList_toArray])
 (first|refine qE ?_|refine qD ?_);(simp only [go_sem,↓dP,↓reduceIte];with_reducible and_intros;all_goals first|apply qA|exact qC|skip)
 (first|refine qE ?_|refine qD ?_);(simp only [go_sem,↓dP,↓reduceIte];with_reducible and_intros;all_goals first|apply qA|exact qC|skip)
 (refine AskI.ret (c_rin _ _ _) ?_;simp only [go_sem,↓dP,↓reduceIte];with_reducible and_intros;all_goals first|apply qA|exact qC|skip)
 (refine Ok.ret ?_;(try dsimp only [thenK,blockK,noGotoK]);simp only [toList_mk,List.toList_toArray,retK_ret,retK_normal,resOK,resV,celV,rowV,frzAll,frzT,subV,subL,go_sem,↓dP,↓reduceIte])
 exact .refl _
end Go.Proofs.Leaf
namespace Go.Proofs.Leaf
open Go Go.RX Go.Proofs
set_option maxRecDepth 10000
variable [Glob]
theorem c_rJob (J:Job) (hh:J.held):Ctr Tryz.prog 26 [J.sv] (bS (jobB J)):=by
 have hh1:=hh.1
 have hh2:=hh.2
 (refine Ctr.mk (fn:=Tryz.f26) rfl rfl rfl rfl rfl Tryz.results26 ?_;intro _;dsimp only [args,List.toList_toArray])
 (first|refine qE ?_|refine qD ?_);(simp only [go_sem,↓dP,↓reduceIte];with_reducible and_intros;all_goals first|apply qA|exact qC|skip)
 refine Ok.seq ?_
 (first|refine qE ?_|refine qD ?_);(simp only [go_sem,↓dP,↓reduceIte];with_reducible and_intros;all_goals first|apply qA|exact qC|skip)
 (refine AskI.ret (c_rin _ _ _) ?_;simp only [go_sem,↓dP,↓reduceIte];with_reducible and_intros;all_goals first|apply qA|exact qC|skip)
 (refine AskGI.ret (fun _ => c_rin _ _ _) ?_;simp only [go_sem,↓dP,↓reduceIte];with_reducible and_intros;all_goals first|apply qA|exact qC|skip)
 (refine AskGI.ret (fun _ => c_rin _ _ _) ?_;simp only [go_sem,↓dP,↓reduceIte];with_reducible and_intros;all_goals first|apply qA|exact qC|skip)
 ·intro h
  have:inB J.book 1 25 = true:=by revert h;cases inB J.book 1 25<;>simp
  rw [inB_iff] at this
  exact R64 (by omega) (by omega)
 (refine AskGI.ret (fun _ => c_rin _ _ _) ?_;simp only [go_sem,↓dP,↓reduceIte];with_reducible and_intros;all_goals first|apply qA|exact qC|skip)
 (refine AskGI.ret (fun _ => c_rin _ _ _) ?_;simp only [go_sem,↓dP,↓reduceIte];with_reducible and_intros;all_goals first|apply qA|exact qC|skip)
 (refine AskGI.ret (fun _ => c_rin _ _ _) ?_;simp only [go_sem,↓dP,↓reduceIte];with_reducible and_intros;all_goals first|apply qA|exact qC|skip)
 refine Ok.cond rfl ?_ ?_
 ·intro hb
  (first|refine qE ?_|refine qD ?_);(simp only [go_sem,↓dP,↓reduceIte];with_reducible and_intros;all_goals first|apply qA|exact qC|skip)
  (refine Ok.ret ?_;(try dsimp only [thenK,blockK,noGotoK]);simp only [toList_mk,List.toList_toArray,retK_ret,retK_normal,resOK,resV,celV,rowV,frzAll,frzT,subV,subL,go_sem,↓dP,↓reduceIte])
  refine DEq.bool ?_
  have:headB J = false:=by
   revert hb
   unfold headB
   cases inB J.wide 1 6<;>cases inB J.high 1 6<;>cases inB J.book 1 25<;>cases inB J.spoilt 0 (J.book - 1)<;>cases inB J.gs.length 1 3<;>cases inB J.ps.length 1 5<;>simp
  simp [jobB,this]
 intro hb
 have hhead:headB J = true:=by
  revert hb
  unfold headB
  cases inB J.wide 1 6<;>cases inB J.high 1 6<;>cases inB J.book 1 25<;>cases inB J.spoilt 0 (J.book - 1)<;>cases inB J.gs.length 1 3<;>cases inB J.ps.length 1 5<;>simp
 (refine Ok.skip ?_;(try dsimp only [thenK,blockK,noGotoK]))
 refine Ok.seq ?_
 (first|refine qE ?_|refine qD ?_);(simp only [go_sem,↓dP,↓reduceIte];with_reducible and_intros;all_goals first|apply qA|exact qC|skip)
 refine Ok.block ?_
 refine Ok.count J.gs.length (fun i => ⟨[(1,.p 0 0),(3,iS i)],[jobC J],[]⟩) (fun i => ∀ x∈J.gs.take i,(!groundB x) = false) ⟨fun x hx => by simp at hx,?_⟩ ?_ ?_
 ·(refine Sub.of ([0]) ([]) ?_ ?_ ?_ rfl rfl<;>simp only [subB,subB1,subT,subT1,newT,subE,subV,subL,go_sem,↓dP,↓reduceIte]<;>(try (repeat' with_reducible apply And.intro))<;>(try first | exact DEq.refl _ | refine DEq.int ?_ | refine DEq.bool ?_ | omega))
 ·intro i hi h0
  refine Ok.seq ?_;((first|refine qE ?_|refine qD ?_);(simp only [go_sem,↓dP,↓reduceIte];with_reducible and_intros;all_goals first|apply qA|exact qC|skip));refine Ok.cond rfl (fun _ => ?_) (fun hb => by simp at hb;omega);(refine Ok.skip ?_;(try dsimp only [thenK,blockK,noGotoK]));refine Ok.seq ?_;refine Ok.block ?_
  (first|refine qE ?_|refine qD ?_);(simp only [go_sem,↓dP,↓reduceIte];with_reducible and_intros;all_goals first|apply qA|exact qC|skip)
  (first|refine qE ?_|refine qD ?_);(simp only [go_sem,↓dP,↓reduceIte];with_reducible and_intros;all_goals first|apply qA|exact qC|skip)
  (refine AskI.ret (c_rin _ _ _) ?_;simp only [go_sem,↓dP,↓reduceIte];with_reducible and_intros;all_goals first|apply qA|exact qC|skip)
  (refine AskGI.ret (fun _ => c_rin _ _ _) ?_;simp only [go_sem,↓dP,↓reduceIte];with_reducible and_intros;all_goals first|apply qA|exact qC|skip)
  (refine AskGI.ret (fun _ => c_rin _ _ _) ?_;simp only [go_sem,↓dP,↓reduceIte];with_reducible and_intros;all_goals first|apply qA|exact qC|skip)
  (refine AskGI.ret (fun _ => c_rin _ _ _) ?_;simp only [go_sem,↓dP,↓reduceIte];with_reducible and_intros;all_goals first|apply qA|exact qC|skip)
  have hg:groundB (J.gs.getD i default) = (inB (J.gs.getD i default).rl 0 12 && inB (J.gs.getD i default).rh (J.gs.getD i default).rl 12 && inB (J.gs.getD i default).ll (J.gs.getD i default).rh 12 && inB (J.gs.getD i default).lh (J.gs.getD i default).ll 12):=rfl
  refine Ok.cond rfl ?_ ?_
  ·intro hx
   have hx':(!groundB (J.gs.getD i default)) = true:=by
    rw [hg]
    revert hx
    cases inB (J.gs.getD i default).rl 0 12<;>cases inB (J.gs.getD i default).rh (J.gs.getD i default).rl 12<;>cases inB (J.gs.getD i default).ll (J.gs.getD i default).rh 12<;>cases inB (J.gs.getD i default).lh (J.gs.getD i default).ll 12<;>simp
   (first|refine qE ?_|refine qD ?_);(simp only [go_sem,↓dP,↓reduceIte];with_reducible and_intros;all_goals first|apply qA|exact qC|skip)
   (refine Ok.ret ?_;(try dsimp only [thenK,blockK,noGotoK]);simp only [toList_mk,List.toList_toArray,retK_ret,retK_normal,resOK,resV,celV,rowV,frzAll,frzT,subV,subL,go_sem,↓dP,↓reduceIte])
   refine DEq.bool ?_
   have:J.gs.any (fun g => !groundB g) = true:=List.any_eq_true.2 ⟨_,getD_mem hi,hx'⟩
   rw [jobB,all_any,this];simp
  ·intro hx
   have hx':(!groundB (J.gs.getD i default)) = false:=by
    rw [hg]
    revert hx
    cases inB (J.gs.getD i default).rl 0 12<;>cases inB (J.gs.getD i default).rh (J.gs.getD i default).rl 12<;>cases inB (J.gs.getD i default).ll (J.gs.getD i default).rh 12<;>cases inB (J.gs.getD i default).lh (J.gs.getD i default).ll 12<;>simp
   (refine Ok.skip ?_;(try dsimp only [thenK,blockK,noGotoK]))
   (first|refine qE ?_|refine qD ?_);(simp only [go_sem,↓dP,↓reduceIte];with_reducible and_intros;all_goals first|apply qA|exact qC|skip)
   (try dsimp only [thenK,blockK,noGotoK])
   refine ⟨no_step (q:=fun g => !groundB g) hi h0 hx',?_⟩
   (refine Sub.of ([0]) ([]) ?_ ?_ ?_ rfl rfl<;>simp only [subB,subB1,subT,subT1,newT,subE,subV,subL,go_sem,↓dP,↓reduceIte]<;>(try (repeat' with_reducible apply And.intro))<;>(try first | exact DEq.refl _ | refine DEq.int ?_ | refine DEq.bool ?_ | omega))
 intro h0
 have hgs:J.gs.any (fun g => !groundB g) = false:=List.any_eq_false.2 (fun x hx => by simp [h0 x (by simpa using hx)])
 refine Ok.seq ?_;((first|refine qE ?_|refine qD ?_);(simp only [go_sem,↓dP,↓reduceIte];with_reducible and_intros;all_goals first|apply qA|exact qC|skip));refine Ok.cond rfl (fun hb => by simp at hb) (fun _ => ?_);(refine Ok.exit ?_;simp only [thenK_exit,blockK_exit,noGotoK_exit,thenK_normal,blockK_normal,noGotoK_normal,↓reduceIte,Nat.reduceEqDiff])
 refine Ok.seq ?_
 (first|refine qE ?_|refine qD ?_);(simp only [go_sem,↓dP,↓reduceIte];with_reducible and_intros;all_goals first|apply qA|exact qC|skip)
 refine Ok.block ?_
 refine Ok.count J.ps.length (fun i => ⟨[(1,.p 0 0),(5,iS i)],[jobC J],[]⟩) (fun i => ∀ x∈J.ps.take i,(!pieceB J.gs.length x) = false) ⟨fun x hx => by simp at hx,?_⟩ ?_ ?_
 ·(refine Sub.of ([0]) ([]) ?_ ?_ ?_ rfl rfl<;>simp only [subB,subB1,subT,subT1,newT,subE,subV,subL,go_sem,↓dP,↓reduceIte]<;>(try (repeat' with_reducible apply And.intro))<;>(try first | exact DEq.refl _ | refine DEq.int ?_ | refine DEq.bool ?_ | omega))
 ·intro i hi h0
  refine Ok.seq ?_;((first|refine qE ?_|refine qD ?_);(simp only [go_sem,↓dP,↓reduceIte];with_reducible and_intros;all_goals first|apply qA|exact qC|skip));refine Ok.cond rfl (fun _ => ?_) (fun hb => by simp at hb;omega);(refine Ok.skip ?_;(try dsimp only [thenK,blockK,noGotoK]));refine Ok.seq ?_;refine Ok.block ?_
  (first|refine qE ?_|refine qD ?_);(simp only [go_sem,↓dP,↓reduceIte];with_reducible and_intros;all_goals first|apply qA|exact qC|skip)
  (first|refine qE ?_|refine qD ?_);(simp only [go_sem,↓dP,↓reduceIte];with_reducible and_intros;all_goals first|apply qA|exact qC|skip)
  (refine AskI.ret (c_rin _ _ _) ?_;simp only [go_sem,↓dP,↓reduceIte];with_reducible and_intros;all_goals first|apply qA|exact qC|skip)
  (refine AskGI.ret (fun _ => c_rin _ _ _) ?_;simp only [go_sem,↓dP,↓reduceIte];with_reducible and_intros;all_goals first|apply qA|exact qC|skip)
  (refine AskGI.ret (fun _ => c_rin _ _ _) ?_;simp only [go_sem,↓dP,↓reduceIte];with_reducible and_intros;all_goals first|apply qA|exact qC|skip)
  have hg:pieceB J.gs.length (J.ps.getD i default) = (inB (J.ps.getD i default).w 1 6 && inB (J.ps.getD i default).h 1 6 && inB (J.ps.getD i default).g 0 (J.gs.length - 1)):=rfl
  refine Ok.cond rfl ?_ ?_
  ·intro hx
   have hx':(!pieceB J.gs.length (J.ps.getD i default)) = true:=by
    rw [hg]
    revert hx
    cases inB (J.ps.getD i default).w 1 6<;>cases inB (J.ps.getD i default).h 1 6<;>cases inB (J.ps.getD i default).g 0 (J.gs.length - 1)<;>simp
   (first|refine qE ?_|refine qD ?_);(simp only [go_sem,↓dP,↓reduceIte];with_reducible and_intros;all_goals first|apply qA|exact qC|skip)
   (refine Ok.ret ?_;(try dsimp only [thenK,blockK,noGotoK]);simp only [toList_mk,List.toList_toArray,retK_ret,retK_normal,resOK,resV,celV,rowV,frzAll,frzT,subV,subL,go_sem,↓dP,↓reduceIte])
   refine DEq.bool ?_
   have:J.ps.any (fun p => !pieceB J.gs.length p) = true:=List.any_eq_true.2 ⟨_,getD_mem hi,hx'⟩
   rw [jobB,all_any J.ps,this];simp
  ·intro hx
   have hx':(!pieceB J.gs.length (J.ps.getD i default)) = false:=by
    rw [hg]
    revert hx
    cases inB (J.ps.getD i default).w 1 6<;>cases inB (J.ps.getD i default).h 1 6<;>cases inB (J.ps.getD i default).g 0 (J.gs.length - 1)<;>simp
   (refine Ok.skip ?_;(try dsimp only [thenK,blockK,noGotoK]))
   (first|refine qE ?_|refine qD ?_);(simp only [go_sem,↓dP,↓reduceIte];with_reducible and_intros;all_goals first|apply qA|exact qC|skip)
   (try dsimp only [thenK,blockK,noGotoK])
   refine ⟨no_step (q:=fun p => !pieceB J.gs.length p) hi h0 hx',?_⟩
   (refine Sub.of ([0]) ([]) ?_ ?_ ?_ rfl rfl<;>simp only [subB,subB1,subT,subT1,newT,subE,subV,subL,go_sem,↓dP,↓reduceIte]<;>(try (repeat' with_reducible apply And.intro))<;>(try first | exact DEq.refl _ | refine DEq.int ?_ | refine DEq.bool ?_ | omega))
 ·intro h0
  have hps:J.ps.any (fun p => !pieceB J.gs.length p) = false:=List.any_eq_false.2 (fun x hx => by simp [h0 x (by simpa using hx)])
  refine Ok.seq ?_;((first|refine qE ?_|refine qD ?_);(simp only [go_sem,↓dP,↓reduceIte];with_reducible and_intros;all_goals first|apply qA|exact qC|skip));refine Ok.cond rfl (fun hb => by simp at hb) (fun _ => ?_);(refine Ok.exit ?_;simp only [thenK_exit,blockK_exit,noGotoK_exit,thenK_normal,blockK_normal,noGotoK_normal,↓reduceIte,Nat.reduceEqDiff])
  (first|refine qE ?_|refine qD ?_);(simp only [go_sem,↓dP,↓reduceIte];with_reducible and_intros;all_goals first|apply qA|exact qC|skip)
  (refine Ok.ret ?_;(try dsimp only [thenK,blockK,noGotoK]);simp only [toList_mk,List.toList_toArray,retK_ret,retK_normal,resOK,resV,celV,rowV,frzAll,frzT,subV,subL,go_sem,↓dP,↓reduceIte])
  refine DEq.bool ?_
  rw [jobB,hhead,all_any,all_any,hgs,hps]
  rfl
end Go.Proofs.Leaf
namespace Go.Proofs.Leaf
open Go Go.RX Go.Proofs
set_option maxRecDepth 10000
variable [Glob]
def wordB (w:Int):Bool:=decide (1<=w) && decide (w<=3)
theorem c_lword (w:Int):Ctr Tryz.prog 38 [iS w] (bS (wordB w)):=by
 (refine Ctr.mk (fn:=Tryz.f38) rfl rfl rfl rfl rfl Tryz.results38 ?_;intro _;dsimp only [args,List.toList_toArray])
 (first|refine qE ?_|refine qD ?_);(simp only [go_sem,↓dP,↓reduceIte];with_reducible and_intros;all_goals first|apply qA|exact qC|skip)
 (first|refine qE ?_|refine qD ?_);(simp only [go_sem,↓dP,↓reduceIte];with_reducible and_intros;all_goals first|apply qA|exact qC|skip)
 (refine Ok.ret ?_;(try dsimp only [thenK,blockK,noGotoK]);simp only [toList_mk,List.toList_toArray,retK_ret,retK_normal,resOK,resV,celV,rowV,frzAll,frzT,subV,subL,go_sem,↓dP,↓reduceIte])
 exact .refl _
def shortB (J:Job):Bool:=decide (J.gs.length<=5) && decide (J.ps.length<=7)
theorem c_lshort (J:Job) (h:J.far):Ctr Tryz.prog 23 [J.sv] (bS (shortB J)):=by
 have h1:=h.1
 have h2:=h.2
 (refine Ctr.mk (fn:=Tryz.f23) rfl rfl rfl rfl rfl Tryz.results23 ?_;intro _;dsimp only [args,List.toList_toArray])
 (first|refine qE ?_|refine qD ?_);(simp only [go_sem,↓dP,↓reduceIte];with_reducible and_intros;all_goals first|apply qA|exact qC|skip)
 (first|refine qE ?_|refine qD ?_);(simp only [go_sem,↓dP,↓reduceIte];with_reducible and_intros;all_goals first|apply qA|exact qC|skip)
 (refine Ok.ret ?_;(try dsimp only [thenK,blockK,noGotoK]);simp only [toList_mk,List.toList_toArray,retK_ret,retK_normal,resOK,resV,celV,rowV,frzAll,frzT,subV,subL,go_sem,↓dP,↓reduceIte])
 refine DEq.bool ?_
 unfold shortB
 by_cases g1:J.gs.length<=5<;>by_cases g2:J.ps.length<=7<;>simp [g1,g2]<;>omega
theorem short_held {J:Job} (h:shortB J = true):J.held:=by
 simp only [shortB,Bool.and_eq_true,decide_eq_true_eq] at h
 exact ⟨by omega,by omega⟩
def rightB (J:Job):Bool:=shortB J && jobB J
theorem c_lright (J:Job) (h:J.far):Ctr Tryz.prog 13 [J.sv] (bS (rightB J)):=by
 (refine Ctr.mk (fn:=Tryz.f13) rfl rfl rfl rfl rfl Tryz.results13 ?_;intro _;dsimp only [args,List.toList_toArray])
 (first|refine qE ?_|refine qD ?_);(simp only [go_sem,↓dP,↓reduceIte];with_reducible and_intros;all_goals first|apply qA|exact qC|skip)
 (first|refine qE ?_|refine qD ?_);(simp only [go_sem,↓dP,↓reduceIte];with_reducible and_intros;all_goals first|apply qA|exact qC|skip)
 (refine AskI.ret (c_lshort J h) ?_;simp only [go_sem,↓dP,↓reduceIte];with_reducible and_intros;all_goals first|apply qA|exact qC|skip)
 (refine AskGI.ret (fun h => c_rJob J (short_held (by simpa using h))) ?_;simp only [go_sem,↓dP,↓reduceIte];with_reducible and_intros;all_goals first|apply qA|exact qC|skip)
 (refine Ok.ret ?_;(try dsimp only [thenK,blockK,noGotoK]);simp only [toList_mk,List.toList_toArray,retK_ret,retK_normal,resOK,resV,celV,rowV,frzAll,frzT,subV,subL,go_sem,↓dP,↓reduceIte])
 refine DEq.bool ?_
 unfold rightB
 cases shortB J<;>simp
end Go.Proofs.Leaf
namespace Go.Proofs.YtdajcfdhcjbmmaaGreatDoor
open Go Go.RX Go.Proofs.Leaf Go.RowKit Go.ChangeShapes Go.WideShapes Go.ChangeAt
set_option maxRecDepth 100000
section
variable {H : Type} {enc : TypeId × Value → H} {W : World}
end
theorem opensAll_cons {t:TypeId} {ts:List TypeId} {As:List SV} (h:opensAll (t :: ts) As):∃ A Bs,As = A :: Bs/\opens t A/\opensAll ts Bs:=by
 cases As with
 | nil => exact h.elim
 | cons A Bs => exact ⟨A,Bs,rfl,h.1,h.2⟩
theorem opensAll_nil {As:List SV} (h:opensAll [] As):As = []:=by
 cases As with
 | nil => rfl
 | cons A Bs => exact h.elim
end Go.Proofs.YtdajcfdhcjbmmaaGreatDoor
namespace Go.Proofs.Leaf
open Go Go.RX Go.Proofs Go.RowKit
set_option maxRecDepth 10000
section
instance inst_g0_5:Glob:=g0
abbrev bigJ (J:Job) (w k:Int) (n:Nat) (p:Piece):Job:={ J with wide:=J.wide + w,high:=J.high + k,ps:=J.ps.set n p }
theorem set_at {α:Type} [Inhabited α] {l:List α} {n i:Nat} {x:α} (hn:n < l.length):(l.set n x).getD i default = if i = n then x else l.getD i default:=by
 by_cases e:i = n
 ·subst e
  rw [if_pos rfl,List.getD_eq_getElem?_getD,List.getElem?_set_self hn];rfl
 ·rw [if_neg e,List.getD_eq_getElem?_getD,List.getElem?_set_ne (fun q => e q.symm),← List.getD_eq_getElem?_getD]
theorem big_ok {J:Job} (h:J.ok) {w k:Int} (h0:0<=w) (h1:J.wide + w<=6) (h2:0<=k) (h3:J.high + k<=6) {n:Nat} {p:Piece} (hp:1<=p.w/\p.w<=6/\1<=p.h/\p.h<=6/\0<=p.g/\p.g<=J.gs.length - 1):(bigJ J w k n p).ok:=by
 have a:=h.w0
 have b:=h.h0
 refine { h with w0:=by show 1<=J.wide + w;omega,w1:=h1,h0:=by show 1<=J.high + k;omega,h1:=h3,p0:=by simpa using h.p0,p1:=by simpa using h.p1,ps:=fun q hq => ?_ }
 rcases List.mem_or_eq_of_mem_set (show q∈J.ps.set n p from hq) with q1 | q1
 ·exact h.ps q q1
 ·rw [q1];exact hp
theorem big_fit {J:Job} (h:J.ok) {w k:Int} (h0:0<=w) (h2:0<=k) {n:Nat} (hn:n < J.ps.length) {p:Piece} (hp:p.w<=(J.ps.getD n default).w/\0<=p.w/\p.h<=(J.ps.getD n default).h/\0<=p.h/\p.turn = true) {s:Nat} (hf:J.fit s = true):(bigJ J w k n p).fit s = true:=by
 have a:=h.w0
 have b:=h.h0
 have hq:=h.ps _ (getD_mem hn)
 have h1:can (J.ps.set n p) J.wide.toNat J.high.toNat s = true:=by
  refine can_piece (ps:=J.ps) (ps':=J.ps.set n p) (by simp) (fun i hi x y ha => ?_) (fun t => area_mono _ _ t (by simp) (fun i hi => ?_)) (J.wide.toNat + J.high.toNat) _ _ _ (Nat.le_refl _) hf
  ·rw [set_at hn]
   by_cases e:i = n
   ·subst e
    rw [if_pos rfl]
    unfold alone at ha ⊢
    rw [hp.2.2.2.2]
    simp only [Bool.or_eq_true,Bool.and_eq_true,decide_eq_true_eq,Bool.true_and] at ha ⊢
    omega
   ·rw [if_neg e];exact ha
  ·rw [set_at hn]
   by_cases e:i = n
   ·subst e
    rw [if_pos rfl]
    exact Int.mul_le_mul hp.1 hp.2.2.1 hp.2.2.2.1 (by omega)
   ·rw [if_neg e];exact Int.le_refl _
 exact can_le (show J.wide.toNat<=(J.wide + w).toNat by omega) (show J.high.toNat<=(J.high + k).toNat by omega) h1
abbrev longJ (J:Job) (g:Nat) (x:Ground):Job:={ J with gs:=J.gs.set g x }
theorem long_ok {J:Job} (h:J.ok) {g:Nat} {x:Ground} (hx:0<=x.rl/\x.rl<=x.rh/\x.rh<=x.ll/\x.ll<=x.lh/\x.lh<=12):(longJ J g x).ok:=by
 refine { h with g0:=by simpa using h.g0,g1:=by simpa using h.g1,gs:=fun y hy => ?_,ps:=fun p hp => by simpa using h.ps p hp }
 rcases List.mem_or_eq_of_mem_set (show y∈J.gs.set g x from hy) with q | q
 ·exact h.gs y q
 ·rw [q];exact hx
theorem long_spans {J:Job} (h:J.ok) {g:Nat} (hg:g < J.gs.length) {x:Ground} (hx:x.rl<=(J.gs.getD g default).rl/\x.rh<=(J.gs.getD g default).rh/\(J.gs.getD g default).ll<=x.ll/\(J.gs.getD g default).lh<=x.lh) (may:Bool) :
  ∀ i,i < (spans J may).length->((spans (longJ J g x) may).getD i default).1<=((spans J may).getD i default).1/\((spans J may).getD i default).2<=((spans (longJ J g x) may).getD i default).2:=by
 intro i hi
 rw [spans_len] at hi
 rw [spans_at J may hi,spans_at (longJ J g x) may hi]
 have hps:=h.ps _ (getD_mem hi)
 show (spanOf (J.gs.set g x) may (J.ps.getD i default)).1<=_/\_<=(spanOf (J.gs.set g x) may (J.ps.getD i default)).2
 unfold spanOf
 rw [set_at hg]
 by_cases e:(J.ps.getD i default).g.toNat = g
 ·rw [if_pos e,e]
  cases may with
  | true => simp only [if_true];omega
  | false => simp only [Bool.false_eq_true,if_false];omega
 ·rw [if_neg e]
  exact ⟨Int.le_refl _,Int.le_refl _⟩
theorem long_lays {J:Job} (h:J.ok) {g:Nat} (hg:g < J.gs.length) {x:Ground} (hx:x.rl<=(J.gs.getD g default).rl/\x.rh<=(J.gs.getD g default).rh/\(J.gs.getD g default).ll<=x.ll/\(J.gs.getD g default).lh<=x.lh):laysW J<=laysW (longJ J g x):=by
 have key:∀ may,(planOf J may).isSome = true->(planOf (longJ J g x) may).isSome = true:=fun may q => plan_wider (by rw [spans_len,spans_len]) (long_spans h hg hx may) q
 unfold laysW
 by_cases h1:(planOf J false).isSome = true
 ·rw [if_pos h1,if_pos (key _ h1)];exact Int.le_refl _
 ·rw [if_neg h1]
  by_cases h2:(planOf J true).isSome = true
  ·rw [if_pos h2]
   by_cases h3:(planOf (longJ J g x) false).isSome = true
   ·rw [if_pos h3];decide
   ·rw [if_neg h3,if_pos (key _ h2)];decide
  ·rw [if_neg h2]
   split
   ·decide
   ·split<;>decide
end
end Go.Proofs.Leaf
namespace Go.Proofs.Leaf
open Go Go.RX Go.Proofs Go.RowKit
set_option maxRecDepth 100000
section
instance inst_gT_6:Glob:=gT
theorem set_D {α:Type} [Inhabited α] {f:α->Nat->DV} {l:List α} {i k:Nat} {b:α} {ys:List DV} (hi:i < l.length) (hk:∀ c,c < k->DEq (dget ys c) (f b c)):∀ a c,a < l.length->c < k ->
  DEq (if a = i/\c < k then dget ys c else f (l.getD a default) c) (f ((l.set i b).getD a default) c):=by
 intro a c _ hc
 rw [set_at hi]
 by_cases e:a = i
 ·rw [if_pos ⟨e,hc⟩,if_pos e];exact hk c hc
 ·rw [if_neg (fun q => e q.1),if_neg e];exact .refl _
theorem law_More (J:Job) (hf:J.far) (w k n less g more:Int):Ctr Tryz.prog 7 [J.sv,iS w,iS k,iS n,iS less,iS g,iS more] (bS true):=by
 have hb0:rightB J = true->J.ok:=fun q => jobB_iff.1 (by simp [rightB] at q;exact q.2)
 have hb1:rightB J = true->J.held:=fun q => by
  simp only [rightB,Bool.and_eq_true] at q
  exact short_held q.1
 (refine Ctr.mk (fn:=Tryz.f7) rfl rfl rfl rfl rfl Tryz.results7 ?_;intro _;dsimp only [args,List.toList_toArray])
 (first|refine qE ?_|refine qD ?_);(simp only [go_sem,↓dP,↓reduceIte];with_reducible and_intros;all_goals first|apply qA|exact qC|skip)
 refine Ok.seq ?_
 (first|refine qE ?_|refine qD ?_);(simp only [go_sem,↓dP,↓reduceIte];with_reducible and_intros;all_goals first|apply qA|exact qC|skip)
 (refine AskI.ret (c_lright J hf) ?_;simp only [go_sem,↓dP,↓reduceIte];with_reducible and_intros;all_goals first|apply qA|exact qC|skip)
 all_goals try (intro q;have hq:rightB J = true:=(by revert q;cases rightB J<;>simp);have h:=hb0 hq;have:=h.w0;have:=h.w1;have:=h.h0;have:=h.h1;apply qB;omega)
 (refine AskGI.ret (fun q => c_rPiece J (hb1 (by revert q;cases rightB J<;>simp)).2 n) ?_;simp only [go_sem,↓dP,↓reduceIte];with_reducible and_intros;all_goals first|apply qA|exact qC|skip)
 refine Ok.cond rfl ?_ ?_
 ·intro hs
  (first|refine qE ?_|refine qD ?_);(simp only [go_sem,↓dP,↓reduceIte];with_reducible and_intros;all_goals first|apply qA|exact qC|skip)
  (refine AskI.ret (c_known) ?_;simp only [go_sem,↓dP,↓reduceIte];with_reducible and_intros;all_goals first|apply qA|exact qC|skip)
  (refine Ok.ret ?_;(try dsimp only [thenK,blockK,noGotoK]);simp only [toList_mk,List.toList_toArray,retK_ret,retK_normal,resOK,resV,celV,rowV,frzAll,frzT,subV,subL,go_sem,↓dP,↓reduceIte])
  ((repeat' with_reducible apply And.intro)<;>(first | exact DEq.refl _ | refine DEq.int ?_ | refine DEq.bool ?_ | skip))
 intro hs
 (refine Ok.skip ?_;(try dsimp only [thenK,blockK,noGotoK]))
 simp only [Bool.or_eq_false_iff,Bool.not_eq_false',decide_eq_false_iff_not] at hs
 obtain ⟨⟨⟨⟨⟨⟨⟨⟨⟨⟨⟨hr,a1⟩,a2⟩,a3⟩,a4⟩,hin⟩,a5⟩,a6⟩,a7⟩,a8⟩,a9⟩,a10⟩:=hs
 simp only [rightB,Bool.and_eq_true] at hr
 obtain ⟨hsh,hj⟩:=hr
 have hh:=short_held hsh
 have h:=jobB_iff.1 hj
 have hp:=h.p1
 have hg1:=h.g1
 have hin':=inB_iff.1 hin
 obtain ⟨n,rfl⟩:∃ m:Nat,n = m:=⟨n.toNat,by omega⟩
 obtain ⟨g,rfl⟩:∃ m:Nat,g = m:=⟨g.toNat,by omega⟩
 have hn:n < J.ps.length:=by omega
 have hgl:g < J.gs.length:=by omega
 have v1:=h.w0
 have v2:=h.w1
 have v3:=h.h0
 have v4:=h.h1
 have vp:=h.ps _ (getD_mem hn)
 have vg:=h.gs _ (getD_mem hgl)
 (first|refine qE ?_|refine qD ?_);(simp only [go_sem,↓dP,↓reduceIte];with_reducible and_intros;all_goals first|apply qA|exact qC|skip)
 (first|refine qE ?_|refine qD ?_);(simp only [go_sem,↓dP,↓reduceIte];with_reducible and_intros;all_goals first|apply qA|exact qC|skip)
 (first|refine qE ?_|refine qD ?_);(simp only [go_sem,↓dP,↓reduceIte];with_reducible and_intros;all_goals first|apply qA|exact qC|skip)
 (first|refine qE ?_|refine qD ?_);(simp only [go_sem,↓dP,↓reduceIte];with_reducible and_intros;all_goals first|apply qA|exact qC|skip)
 (first|refine qE ?_|refine qD ?_);(simp only [go_sem,↓dP,↓reduceIte];with_reducible and_intros;all_goals first|apply qA|exact qC|skip)
 (first|refine qE ?_|refine qD ?_);(simp only [go_sem,↓dP,↓reduceIte];with_reducible and_intros;all_goals first|apply qA|exact qC|skip)
 (first|refine qE ?_|refine qD ?_);(simp only [go_sem,↓dP,↓reduceIte];with_reducible and_intros;all_goals first|apply qA|exact qC|skip)
 (first|refine qE ?_|refine qD ?_);(simp only [go_sem,↓dP,↓reduceIte];with_reducible and_intros;all_goals first|apply qA|exact qC|skip)
 (first|refine qE ?_|refine qD ?_);(simp only [go_sem,↓dP,↓reduceIte];with_reducible and_intros;all_goals first|apply qA|exact qC|skip)
 (refine AskI.ret (c_lspan _ _) ?_;simp only [go_sem,↓dP,↓reduceIte];with_reducible and_intros;all_goals first|apply qA|exact qC|skip)
 (refine AskI.ret (c_lspan _ _) ?_;simp only [go_sem,↓dP,↓reduceIte];with_reducible and_intros;all_goals first|apply qA|exact qC|skip)
 obtain ⟨p,hpe⟩:∃ p:Piece,p = ⟨max 1 ((J.ps.getD n default).w - less),max 1 ((J.ps.getD n default).h - less),true,(J.ps.getD n default).g⟩:=⟨_,rfl⟩
 obtain ⟨x,hxe⟩:∃ x:Ground,x = ⟨max 0 ((J.gs.getD g default).rl - more),max 0 ((J.gs.getD g default).rh - more),min 12 ((J.gs.getD g default).ll + more),min 12 ((J.gs.getD g default).lh + more)⟩:=⟨_,rfl⟩
 refine Ok.sub (σ':=⟨[(7,.p 0 0),(15,.p 1 0),(17,.p 2 0)],
   [jobC J,{ frz:=false,xs:=[iS (J.wide + w),iS (J.high + k),iS J.book,iS J.spoilt,.d (slD 4 groD J.gs),.tk 0] },{ frz:=false,xs:=[iS J.wide,iS J.high,iS J.book,iS J.spoilt,.tk 1,.d (slD 4 pieD J.ps)] }],
   [ownD 54 4 pieD (J.ps.set n p),ownD 56 4 groD (J.gs.set g x)]⟩) ?_ ?_
 ·subst hpe hxe
  (refine Sub.of ([0,1,3]) ([some 0,some 1]) ?_ ?_ ?_ rfl rfl<;>simp only [subB,subB1,subT,subT1,newT,subE,subV,subL,go_sem,↓dP,↓reduceIte]<;>(try (repeat' with_reducible apply And.intro))<;>(try first | exact DEq.refl _ | refine DEq.int ?_ | refine DEq.bool ?_ | omega))
  ·rw [List.length_set]
  ·exact fun i j hi hj => set_D (f:=pieD) hn (fun c hc => by
    match c,hc with
    | 0,_ | 1,_ | 2,_ | 3,_ => exact .refl _) i j hi hj
  ·rw [List.length_set]
  ·exact fun i j hi hj => set_D (f:=groD) hgl (fun c hc => by
    match c,hc with
    | 0,_ | 1,_ | 2,_ | 3,_ => exact .refl _) i j hi hj
 have hpp:1<=p.w/\p.w<=6/\1<=p.h/\p.h<=6/\0<=p.g/\p.g<=(J.gs.length:Int) - 1:=by subst hpe;dsimp only;omega
 have hpq:p.w<=(J.ps.getD n default).w/\0<=p.w/\p.h<=(J.ps.getD n default).h/\0<=p.h/\p.turn = true:=by subst hpe;dsimp only;exact ⟨by omega,by omega,by omega,by omega,rfl⟩
 have hxx:0<=x.rl/\x.rl<=x.rh/\x.rh<=x.ll/\x.ll<=x.lh/\x.lh<=12:=by subst hxe;dsimp only;omega
 have hxq:x.rl<=(J.gs.getD g default).rl/\x.rh<=(J.gs.getD g default).rh/\(J.gs.getD g default).ll<=x.ll/\(J.gs.getD g default).lh<=x.lh:=by subst hxe;dsimp only;omega
 clear hpe hxe
 have hB:=big_ok h (w:=w) (k:=k) (by omega) (by omega) (by omega) (by omega) (n:=n) (p:=p) hpp
 have hLo:=long_ok h (g:=g) (x:=x) hxx
 have hfit:=fun s q => big_fit h (w:=w) (k:=k) (by omega) (by omega) hn hpq (s:=s) q
 have hC1:=c_Cut J h
 have hC2:=c_Cut (bigJ J w k n p) hB
 have hY1:=c_Lays J h.based hh h.timed (by omega) hj
 have hY2:=c_Lays (longJ J g x) hLo.based hLo.held hLo.timed (by have:=hLo.p1;omega) (jobB_iff.2 hLo)
 have hV1:=toT (c_Leave J h.based hh h.timed (by omega) hj)
 have hV2:=toT (c_Leave (longJ J g x) hLo.based hLo.held hLo.timed (by have:=hLo.p1;omega) (jobB_iff.2 hLo))
 obtain ⟨A,hA⟩:=leave_some (spans J false)
 obtain ⟨B,hB2⟩:=leave_some (spans (longJ J g x) false)
 have hAB:=leave_wider (by rw [spans_len,spans_len]) (long_spans h hgl hxq false) hA hB2
 rw [hA,Option.getD_some] at hV1
 rw [hB2,Option.getD_some] at hV2
 have hly:=long_lays h hgl hxq
 have hAl:=asI_len A
 have hBl:=asI_len B
 have hwc:=c_lword (laysW J)
 have hwd:wordB (laysW J) = true:=by
  unfold laysW
  split
  ·rfl
  ·split<;>rfl
 rw [hwd] at hwc
 have hm:bsts J ≠ []->bsts (bigJ J w k n p) ≠ []/\leaves ((bsts (bigJ J w k n p)).head?.getD [])<=leaves ((bsts J).head?.getD []):=fun q => by
  obtain ⟨l,hl⟩:∃ l,(bsts J).head? = some l:=by
   cases hb:bsts J with
   | nil => exact absurd hb q
   | cons l L => exact ⟨l,rfl⟩
  obtain ⟨m,h1,h2⟩:=best_mono (fit':=(bigJ J w k n p).fit) (fun s _ q => hfit s q) hl
  have h1':(bsts (bigJ J w k n p)).head? = some m:=by
   unfold bsts
   rw [show (bigJ J w k n p).ps.length = J.ps.length by simp];exact h1
  rw [h1',hl]
  refine ⟨fun e => ?_,h2⟩
  rw [e] at h1';cases h1'
 generalize laysW J = v at *
 generalize laysW (longJ J g x) = v' at *
 generalize bsts J = D at *
 generalize bsts (bigJ J w k n p) = E at *
 have hfin:(decide (v<=v') && decide (((asI B).length:Int)<=((asI A).length:Int))) = true:=by
  rw [decide_eq_true hly,decide_eq_true (by omega)];rfl
 by_cases q1:D = []
 ·rw [if_pos q1] at hC1
  by_cases q2:E = []
  ·rw [if_pos q2] at hC2
   (first|refine qE ?_|refine qD ?_);(simp only [go_sem,↓dP,↓reduceIte];with_reducible and_intros;all_goals first|apply qA|exact qC|skip)
   (refine AskI.ret (hC1) ?_;simp only [go_sem,↓dP,↓reduceIte];with_reducible and_intros;all_goals first|apply qA|exact qC|skip)
   (first|refine qE ?_|refine qD ?_);(simp only [go_sem,↓dP,↓reduceIte];with_reducible and_intros;all_goals first|apply qA|exact qC|skip)
   (refine AskI.ret (hC2) ?_;simp only [go_sem,↓dP,↓reduceIte];with_reducible and_intros;all_goals first|apply qA|exact qC|skip)
   refine Ok.seq ?_
   (first|refine qE ?_|refine qD ?_);(simp only [go_sem,↓dP,↓reduceIte];with_reducible and_intros;all_goals first|apply qA|exact qC|skip)
   refine Ok.cond (b:=false) (by first | rfl | (simp only [go_sem,↓dP,↓reduceIte];rfl)) (fun hb => by cases hb) (fun _ => ?_)
   (refine Ok.skip ?_;(try dsimp only [thenK,blockK,noGotoK]))
   (first|refine qE ?_|refine qD ?_);(simp only [go_sem,↓dP,↓reduceIte];with_reducible and_intros;all_goals first|apply qA|exact qC|skip)
   (refine AskI.ret (hY1) ?_;simp only [go_sem,↓dP,↓reduceIte];with_reducible and_intros;all_goals first|apply qA|exact qC|skip)
   (first|refine qE ?_|refine qD ?_);(simp only [go_sem,↓dP,↓reduceIte];with_reducible and_intros;all_goals first|apply qA|exact qC|skip)
   (refine AskI.ret (hY2) ?_;simp only [go_sem,↓dP,↓reduceIte];with_reducible and_intros;all_goals first|apply qA|exact qC|skip)
   (first|refine qE ?_|refine qD ?_);(simp only [go_sem,↓dP,↓reduceIte];with_reducible and_intros;all_goals first|apply qA|exact qC|skip)
   (refine AskI.ret (hV1) ?_;simp only [go_sem,↓dP,↓reduceIte];with_reducible and_intros;all_goals first|apply qA|exact qC|skip)
   (first|refine qE ?_|refine qD ?_);(simp only [go_sem,↓dP,↓reduceIte];with_reducible and_intros;all_goals first|apply qA|exact qC|skip)
   (refine AskI.ret (hV2) ?_;simp only [go_sem,↓dP,↓reduceIte];with_reducible and_intros;all_goals first|apply qA|exact qC|skip)
   (first|refine qE ?_|refine qD ?_);(simp only [go_sem,↓dP,↓reduceIte];with_reducible and_intros;all_goals first|apply qA|exact qC|skip)
   (refine AskGI.ret (fun _ => hwc) ?_;simp only [go_sem,↓dP,↓reduceIte];with_reducible and_intros;all_goals first|apply qA|exact qC|skip)
   (refine AskGI.ret (fun _ => c_known) ?_;simp only [go_sem,↓dP,↓reduceIte];with_reducible and_intros;all_goals first|apply qA|exact qC|skip)
   (refine Ok.ret ?_;(try dsimp only [thenK,blockK,noGotoK]);simp only [toList_mk,List.toList_toArray,retK_ret,retK_normal,resOK,resV,celV,rowV,frzAll,frzT,subV,subL,go_sem,↓dP,↓reduceIte])
   ((repeat' with_reducible apply And.intro)<;>(first | exact DEq.refl _ | refine DEq.int ?_ | refine DEq.bool ?_ | skip))
   exact hfin
  ·rw [if_neg q2] at hC2
   (first|refine qE ?_|refine qD ?_);(simp only [go_sem,↓dP,↓reduceIte];with_reducible and_intros;all_goals first|apply qA|exact qC|skip)
   (refine AskI.ret (hC1) ?_;simp only [go_sem,↓dP,↓reduceIte];with_reducible and_intros;all_goals first|apply qA|exact qC|skip)
   (first|refine qE ?_|refine qD ?_);(simp only [go_sem,↓dP,↓reduceIte];with_reducible and_intros;all_goals first|apply qA|exact qC|skip)
   (refine AskI.ret (hC2) ?_;simp only [go_sem,↓dP,↓reduceIte];with_reducible and_intros;all_goals first|apply qA|exact qC|skip)
   refine Ok.seq ?_
   (first|refine qE ?_|refine qD ?_);(simp only [go_sem,↓dP,↓reduceIte];with_reducible and_intros;all_goals first|apply qA|exact qC|skip)
   refine Ok.cond (b:=false) (by first | rfl | (simp only [go_sem,↓dP,↓reduceIte];rfl)) (fun hb => by cases hb) (fun _ => ?_)
   (refine Ok.skip ?_;(try dsimp only [thenK,blockK,noGotoK]))
   (first|refine qE ?_|refine qD ?_);(simp only [go_sem,↓dP,↓reduceIte];with_reducible and_intros;all_goals first|apply qA|exact qC|skip)
   (refine AskI.ret (hY1) ?_;simp only [go_sem,↓dP,↓reduceIte];with_reducible and_intros;all_goals first|apply qA|exact qC|skip)
   (first|refine qE ?_|refine qD ?_);(simp only [go_sem,↓dP,↓reduceIte];with_reducible and_intros;all_goals first|apply qA|exact qC|skip)
   (refine AskI.ret (hY2) ?_;simp only [go_sem,↓dP,↓reduceIte];with_reducible and_intros;all_goals first|apply qA|exact qC|skip)
   (first|refine qE ?_|refine qD ?_);(simp only [go_sem,↓dP,↓reduceIte];with_reducible and_intros;all_goals first|apply qA|exact qC|skip)
   (refine AskI.ret (hV1) ?_;simp only [go_sem,↓dP,↓reduceIte];with_reducible and_intros;all_goals first|apply qA|exact qC|skip)
   (first|refine qE ?_|refine qD ?_);(simp only [go_sem,↓dP,↓reduceIte];with_reducible and_intros;all_goals first|apply qA|exact qC|skip)
   (refine AskI.ret (hV2) ?_;simp only [go_sem,↓dP,↓reduceIte];with_reducible and_intros;all_goals first|apply qA|exact qC|skip)
   (first|refine qE ?_|refine qD ?_);(simp only [go_sem,↓dP,↓reduceIte];with_reducible and_intros;all_goals first|apply qA|exact qC|skip)
   (refine AskGI.ret (fun _ => hwc) ?_;simp only [go_sem,↓dP,↓reduceIte];with_reducible and_intros;all_goals first|apply qA|exact qC|skip)
   (refine AskGI.ret (fun _ => c_known) ?_;simp only [go_sem,↓dP,↓reduceIte];with_reducible and_intros;all_goals first|apply qA|exact qC|skip)
   (refine Ok.ret ?_;(try dsimp only [thenK,blockK,noGotoK]);simp only [toList_mk,List.toList_toArray,retK_ret,retK_normal,resOK,resV,celV,rowV,frzAll,frzT,subV,subL,go_sem,↓dP,↓reduceIte])
   ((repeat' with_reducible apply And.intro)<;>(first | exact DEq.refl _ | refine DEq.int ?_ | refine DEq.bool ?_ | skip))
   exact hfin
 ·obtain ⟨q2,q3⟩:=hm q1
  rw [if_neg q1] at hC1
  rw [if_neg q2] at hC2
  (first|refine qE ?_|refine qD ?_);(simp only [go_sem,↓dP,↓reduceIte];with_reducible and_intros;all_goals first|apply qA|exact qC|skip)
  (refine AskI.ret (hC1) ?_;simp only [go_sem,↓dP,↓reduceIte];with_reducible and_intros;all_goals first|apply qA|exact qC|skip)
  (first|refine qE ?_|refine qD ?_);(simp only [go_sem,↓dP,↓reduceIte];with_reducible and_intros;all_goals first|apply qA|exact qC|skip)
  (refine AskI.ret (hC2) ?_;simp only [go_sem,↓dP,↓reduceIte];with_reducible and_intros;all_goals first|apply qA|exact qC|skip)
  refine Ok.seq ?_
  (first|refine qE ?_|refine qD ?_);(simp only [go_sem,↓dP,↓reduceIte];with_reducible and_intros;all_goals first|apply qA|exact qC|skip)
  refine Ok.cond rfl (fun hb => by rw [decide_eq_false (by omega)] at hb;simp at hb) (fun _ => ?_)
  (refine Ok.skip ?_;(try dsimp only [thenK,blockK,noGotoK]))
  (first|refine qE ?_|refine qD ?_);(simp only [go_sem,↓dP,↓reduceIte];with_reducible and_intros;all_goals first|apply qA|exact qC|skip)
  (refine AskI.ret (hY1) ?_;simp only [go_sem,↓dP,↓reduceIte];with_reducible and_intros;all_goals first|apply qA|exact qC|skip)
  (first|refine qE ?_|refine qD ?_);(simp only [go_sem,↓dP,↓reduceIte];with_reducible and_intros;all_goals first|apply qA|exact qC|skip)
  (refine AskI.ret (hY2) ?_;simp only [go_sem,↓dP,↓reduceIte];with_reducible and_intros;all_goals first|apply qA|exact qC|skip)
  (first|refine qE ?_|refine qD ?_);(simp only [go_sem,↓dP,↓reduceIte];with_reducible and_intros;all_goals first|apply qA|exact qC|skip)
  (refine AskI.ret (hV1) ?_;simp only [go_sem,↓dP,↓reduceIte];with_reducible and_intros;all_goals first|apply qA|exact qC|skip)
  (first|refine qE ?_|refine qD ?_);(simp only [go_sem,↓dP,↓reduceIte];with_reducible and_intros;all_goals first|apply qA|exact qC|skip)
  (refine AskI.ret (hV2) ?_;simp only [go_sem,↓dP,↓reduceIte];with_reducible and_intros;all_goals first|apply qA|exact qC|skip)
  (first|refine qE ?_|refine qD ?_);(simp only [go_sem,↓dP,↓reduceIte];with_reducible and_intros;all_goals first|apply qA|exact qC|skip)
  (refine AskGI.ret (fun _ => hwc) ?_;simp only [go_sem,↓dP,↓reduceIte];with_reducible and_intros;all_goals first|apply qA|exact qC|skip)
  (refine AskGI.ret (fun _ => c_known) ?_;simp only [go_sem,↓dP,↓reduceIte];with_reducible and_intros;all_goals first|apply qA|exact qC|skip)
  (refine Ok.ret ?_;(try dsimp only [thenK,blockK,noGotoK]);simp only [toList_mk,List.toList_toArray,retK_ret,retK_normal,resOK,resV,celV,rowV,frzAll,frzT,subV,subL,go_sem,↓dP,↓reduceIte])
  ((repeat' with_reducible apply And.intro)<;>(first | exact DEq.refl _ | refine DEq.int ?_ | refine DEq.bool ?_ | skip))
  exact hfin
end
end Go.Proofs.Leaf
namespace Go.Proofs.YtdajcfdhcjbmmaaGreatDoor
open Go Go.RX Go.Proofs.Leaf Go.RowKit Go.ChangeShapes Go.WideShapes Go.ChangeAt
set_option maxRecDepth 100000
theorem leafMore_ctr (As:List SV) (h:opensAll [25,3,3,3,3,3,3] As):Ctr Tryz.prog 7 As (bS true):=by
 obtain ⟨_,A1,rfl,h0,h⟩:=opensAll_cons h
 obtain ⟨_,A2,rfl,h1,h⟩:=opensAll_cons h
 obtain ⟨_,A3,rfl,h2,h⟩:=opensAll_cons h
 obtain ⟨_,A4,rfl,h3,h⟩:=opensAll_cons h
 obtain ⟨_,A5,rfl,h4,h⟩:=opensAll_cons h
 obtain ⟨_,A6,rfl,h5,h⟩:=opensAll_cons h
 obtain ⟨_,A7,rfl,h6,h⟩:=opensAll_cons h
 obtain rfl:=opensAll_nil h
 obtain ⟨x0,rfl,y0⟩:=opens_job h0
 obtain ⟨x1,rfl,y1,z1⟩:=opens_int h1
 obtain ⟨x2,rfl,y2,z2⟩:=opens_int h2
 obtain ⟨x3,rfl,y3,z3⟩:=opens_int h3
 obtain ⟨x4,rfl,y4,z4⟩:=opens_int h4
 obtain ⟨x5,rfl,y5,z5⟩:=opens_int h5
 obtain ⟨x6,rfl,y6,z6⟩:=opens_int h6
 exact law_More x0 y0 x1 x2 x3 x4 x5 x6
theorem leafMore_facts:joinedFacts Tryz.prog 7 Tryz.f7 Rows.leafMoreSpec Rows.leafMoreRow = true:=by unfold joinedFacts;rw [enter_is,final_is,make_is];kernel_rfl
theorem leafMore_lifted (os:Os) (started:os.Started) (H:Type) (enc:TypeId×Value->H) :
  ReturnsInHanded {} Tryz.checked os 7 .any (fun w args => (Rows.leafMoreSpec.pre enc Tryz.prog Tryz.f7 [] false w args/\laidMetH Tryz.prog laid5 w)/\sizedMet enc Tryz.prog Tryz.f7 (OpenSpec.ofChange Rows.leafMoreSpec) false w args)
   (Rows.leafMoreSpec.post enc Tryz.prog Tryz.f7 false true false false):=by
 refine law_ctr (ts:=[25,3,3,3,3,3,3]) Rows.leafMoreSpec rfl started (by kernel_rfl) Tryz.func7 (by kernel_rfl) (by rw [Tryz.params7]) (by unfold argT;decide)
  (fun ds hd => ?_)
  (ChangeSpec.witness_shaped (enc:=enc) (C:=Tryz.checked) (os:=os) (X:=fun w _ => laidMetH Tryz.prog laid5 w) false (World.laidAll Tryz.prog os laid5) #[zJ,zI,zI,zI,zI,zI,zI] 8 (World.laidAll_os _ _ _)
   (World.shaped_of_ZipB (by kernel_rfl) (by kernel_rfl)) (by kernel_rfl) (by kernel_rfl) (by kernel_rfl)
   (by rw [MakeChecks.laidMetH_plain _ _ _ (by kernel_rfl)];exact laidMet_laidAll _ (by kernel_rfl) (by kernel_rfl))) leafMore_ctr
 match ds,hd with
 | [d0,d1,d2,d3,d4,d5,d6],_ => rfl
theorem leafMore_row:Rows.LeafMoreSaid :=
 OpenClaim.holds_of_wide 7 Tryz.f7 rfl rfl rfl rfl rfl rfl rfl ⟨rfl,rfl,rfl,rfl,rfl⟩ rfl rfl rfl rfl rfl (by kernel_rfl) Tryz.func7 leafMore_facts (of_decide_eq_true (by kernel_rfl))
  (by unfold Func.isWrapper;first | (rw [if_pos (by decide +kernel)];kernel_rfl) | (rw [if_neg (by decide +kernel)];exact ⟨rfl,rfl⟩)) (fun os started H enc _ => leafMore_lifted os started H enc)
theorem leafMore_card:Rows.LeafMoreCardSaid :=
 Claim7.holds_tied_plain_at .later [] [.data,.data,.data,.data,.pinned] true (true,"9e87e616c4e1775f9d0f73ad686290748eaae9f5c03add0b1bcc61ba8396e555") true leafMore_row
  (fun _ h => by cases h) (by kernel_rfl) (fun _ h => by cases h) leafMore_row_tie rfl ⟨rfl,rfl⟩ main_is rfl
  (fun f fn hf hfn => by
   obtain rfl:f = 7:=Option.some.inj ((show Tryz.prog.funcNamed "mahlstick/mahlsticklaw04.LeafMore" = some 7 by kernel_rfl).symm.trans hf) |>.symm
   obtain rfl:fn = Tryz.f7:=(Option.some.inj (Tryz.func7.symm.trans hfn)).symm
   exact ⟨by kernel_rfl,fun j t ht => by
    rw [Tryz.params7] at ht
    exact law_stand (ts:=[25,3,3,3,3,3,3]) (by unfold argT;decide) (by simpa using Array.mem_of_getElem? ht)⟩) (by kernel_rfl)
end Go.Proofs.YtdajcfdhcjbmmaaGreatDoor
