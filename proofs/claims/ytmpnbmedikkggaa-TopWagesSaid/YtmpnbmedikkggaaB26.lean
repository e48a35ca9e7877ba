/-
  Contracts, part 27. No condition.
-/
import Derived.Test.YtmpnbmedikkggaaB25
import Derived.Laws.StructEq
import Derived.WalkKit
set_option linter.all false
namespace Go.Proofs.Leaf
open Go Go.RX Go.Proofs
set_option maxRecDepth 10000
variable [Glob]
structure IsMemo (ps:List Piece) (m:Nat):Prop where
 G:∀ w,Glob.G w->MemoOK ps w m
 G':∀ w w',Glob.G w->MemoOK ps w' m->w'.heap.size = w.heap.size->(∀ k,k ≠ m->w'.heap[k]? = w.heap[k]?)->Glob.G w'
 M:Glob.M = some m
theorem bits_andNot_i64 (a b:Nat) (ha:a < 4294967296) (hb:b < 4294967296) (hs:b &&& a = b):bits .andNot .i64 (a:Int) (b:Int) = ((a ^^^ b:Nat):Int):=by
 have h1:(BitVec.ofInt 64 (a:Int)).toNat = a:=by
  rw [BitVec.ofInt_natCast,BitVec.toNat_ofNat];exact Nat.mod_eq_of_lt (by omega)
 have h2:(BitVec.ofInt 64 (b:Int)).toNat = b:=by
  rw [BitVec.ofInt_natCast,BitVec.toNat_ofNat];exact Nat.mod_eq_of_lt (by omega)
 show IntKind.i64.wrap ((BitVec.ofInt 64 (a:Int) &&& ~~~ BitVec.ofInt 64 (b:Int)).toNat:Int) = _
 have h3:(BitVec.ofInt 64 (a:Int) &&& ~~~ BitVec.ofInt 64 (b:Int)) = BitVec.ofInt 64 (a:Int) ^^^ BitVec.ofInt 64 (b:Int):=by
  have hsb:(BitVec.ofInt 64 (b:Int) &&& BitVec.ofInt 64 (a:Int)) = BitVec.ofInt 64 (b:Int):=by
   apply BitVec.eq_of_toNat_eq
   rw [BitVec.toNat_and,h1,h2,hs]
  generalize BitVec.ofInt 64 (a:Int) = x at *
  generalize BitVec.ofInt 64 (b:Int) = y at *
  apply BitVec.eq_of_getLsbD_eq
  intro i hi
  have:=congrArg (fun z => z.getLsbD i) hsb
  simp only [BitVec.getLsbD_and,BitVec.getLsbD_not,BitVec.getLsbD_xor] at this ⊢
  rw [decide_eq_true hi]
  cases hx:x.getLsbD i<;>cases hy:y.getLsbD i<;>simp_all
 rw [h3,BitVec.toNat_xor,h1,h2,IntKind.wrap_i64]
 have hx:a ^^^ b < 2 ^ 32:=Nat.xor_lt_two_pow (by omega) (by omega)
 omega
theorem next_sub:∀ (s c t:Nat),c &&& s = c->t &&& s = t->t < c->t<=(c - 1) &&& s:=by
 intro s
 induction s using Nat.strongRecOn with
 | ind s ih =>
  intro c t hc ht hlt
  by_cases hs:s = 0
  ·subst hs;simp at hc;omega
  have hc2:=sub_div hc
  have ht2:=sub_div ht
  have md:∀ x:Nat,x &&& s = x->x % 2<=s % 2:=by
   intro x hx
   have hb:=sub_bit hx 0
   have h1:=mod2_bit x
   have h2:=mod2_bit s
   rcases Nat.mod_two_eq_zero_or_one x with e | e
   ·omega
   ·have:=h2.2 (hb (h1.1 e));omega
  have m1:=md c hc
  have m2:=md t ht
  have hd:=and_div (c - 1) s
  have hm:((c - 1) &&& s) % 2 = if (c - 1) % 2 = 1/\s % 2 = 1 then 1 else 0:=by
   have h0:=mod2_bit ((c - 1) &&& s)
   have h1:=mod2_bit (c - 1)
   have h2:=mod2_bit s
   rw [Nat.testBit_and,Bool.and_eq_true,← h1,← h2] at h0
   split
   ·rename_i e;exact h0.2 e
   ·rename_i e
    rcases Nat.mod_two_eq_zero_or_one ((c - 1) &&& s) with q | q
    ·exact q
    ·exact absurd (h0.1 q) e
  rcases Nat.mod_two_eq_zero_or_one c with e | e
  ·have h1:(c - 1) / 2 = c / 2 - 1:=by omega
   have h2:(c - 1) % 2 = 1:=by omega
   have h3:=ih (s / 2) (by omega) (c / 2) (t / 2) hc2 ht2 (by omega)
   rw [h1] at hd
   rw [h2] at hm
   have h4:=Nat.mod_two_eq_zero_or_one s
   rcases h4 with q | q
   ·rw [if_neg (by omega)] at hm;omega
   ·rw [if_pos (by omega)] at hm;omega
  ·have h1:(c - 1) / 2 = c / 2:=by omega
   rw [h1,hc2] at hd
   omega
theorem and_le_right' (x s:Nat):(x &&& s) &&& s = x &&& s:=by rw [Nat.and_assoc,Nat.and_self]
abbrev knS (J:Job) (m:Nat):SV:=.agg (knX J m)
abbrev reS (w h s:Nat):SV:=.agg (reX w h s)
def partsB (ps:List Piece) (s a b c d:Nat):Bool:=(subs s).any (fun t => can ps a b t && can ps c d (s ^^^ t))
theorem parts_yes {ps:List Piece} {s a b c d t:Nat} (ht:t &&& s = t) (h0:t ≠ 0) (h1:t < s) (h:(can ps a b t && can ps c d (s ^^^ t)) = true):partsB ps s a b c d = true:=by
 unfold partsB
 rw [any_iff]
 exact ⟨t,mem_subs.2 ⟨h1,h0,ht⟩,h⟩
theorem parts_no {ps:List Piece} {s a b c d:Nat} (h:∀ t,t &&& s = t->t ≠ 0->t < s->(can ps a b t && can ps c d (s ^^^ t)) = false):partsB ps s a b c d = false:=by
 unfold partsB
 rw [List.any_eq_false]
 intro t ht
 obtain ⟨h1,h2,h3⟩:=mem_subs.1 ht
 rw [h t h3 h2 h1]
 simp
theorem c_knife_parts (J:Job) (m:Nat) (s a b c d:Nat) (hs:s < 1024) (h0:s ≠ 0)
  (h1:∀ t,t < s->t ≠ 0->t &&& s = t->Ctr Try.prog 108 [knS J m,reS a b t] (bS (can J.ps a b t)))
  (h2:∀ t,t < s->t ≠ 0->t &&& s = t->Ctr Try.prog 108 [knS J m,reS c d t] (bS (can J.ps c d t))) :
  Ctr Try.prog 115 [knS J m,iS s,reS a b 0,reS c d 0] (bS (partsB J.ps s a b c d)):=by
 (refine Ctr.mk (fn:=Try.f115) rfl rfl rfl rfl rfl Try.results115 ?_;intro _;dsimp only [args,List.toList_toArray])
 (first|refine qE ?_|refine qD ?_);(simp only [go_sem,↓dP,↓reduceIte];with_reducible and_intros;all_goals first|apply qA|exact qC|skip)
 refine Ok.seq ?_
 (first|refine qE ?_|refine qD ?_);(simp only [go_sem,↓dP,↓reduceIte];with_reducible and_intros;all_goals first|apply qA|exact qC|skip)
 have hand1:∀ x:Nat,x < 1024->x ≠ 0->bits .and .i64 ((x:Int) - 1) (s:Int) = (((x - 1) &&& s:Nat):Int):=fun x hx hx0 => by
  have:=bits_and_i64 (x - 1) s (by omega) (by omega)
  rw [← this];congr 1;omega
 rw [hand1 s hs h0]
 refine Ok.block ?_
 refine Ok.loop (X:={ t:Nat // t < s/\t &&& s = t/\∀ t',t' &&& s = t'->t' ≠ 0->t' < s->t < t'->(can J.ps a b t' && can J.ps c d (s ^^^ t')) = false }) (fun x => ⟨[(1,iS s),(4,.p 0 0),(6,.p 1 0),(7,.p 2 0),(9,iS x.1)],[knC J m,{ frz:=false,xs:=[iS a,iS b,.any] },{ frz:=false,xs:=[iS c,iS d,.any] }],[]⟩) (fun x => x.1) ⟨(s - 1) &&& s,?_,and_le_right' _ _,?_⟩ ?_ ?_
 ·have:=Nat.and_le_left (n:=s - 1) (m:=s);omega
 ·intro t' h3 h4 h5 h6
  have:=next_sub s s t' (Nat.and_self s) h3 h5
  omega
 ·(refine Sub.of ([0,1,2]) ([]) ?_ ?_ ?_ rfl rfl<;>simp only [subB,subB1,subT,subT1,newT,subE,subV,subL,go_sem,↓dP,↓reduceIte]<;>(try (repeat' with_reducible apply And.intro))<;>(try first | exact DEq.refl _ | refine DEq.int ?_ | refine DEq.bool ?_ | omega))
 ·rintro ⟨t,ht,hsub,hno⟩
  by_cases hz:t = 0
  ·subst hz
   refine Ok.seq ?_;((first|refine qE ?_|refine qD ?_);(simp only [go_sem,↓dP,↓reduceIte];with_reducible and_intros;all_goals first|apply qA|exact qC|skip));refine Ok.cond rfl (fun hb => by simp at hb) (fun _ => ?_);(refine Ok.exit ?_;simp only [thenK_exit,blockK_exit,noGotoK_exit,thenK_normal,blockK_normal,noGotoK_normal,↓reduceIte,Nat.reduceEqDiff])
   (try dsimp only [thenK,blockK,noGotoK])
   (first|refine qE ?_|refine qD ?_);(simp only [go_sem,↓dP,↓reduceIte];with_reducible and_intros;all_goals first|apply qA|exact qC|skip)
   (refine Ok.ret ?_;(try dsimp only [thenK,blockK,noGotoK]);simp only [toList_mk,List.toList_toArray,retK_ret,retK_normal,resOK,resV,celV,rowV,frzAll,frzT,subV,subL,go_sem,↓dP,↓reduceIte])
   refine DEq.bool ?_
   exact (parts_no (fun t' h3 h4 h5 => hno t' h3 h4 h5 (by omega))).symm
  ·have hnot:=bits_andNot_i64 s t (by omega) (by omega) hsub
   have hxs:s ^^^ t < s/\s ^^^ t ≠ 0/\(s ^^^ t) &&& s = s ^^^ t:=by
    have:=mem_subs.1 (xor_subs (mem_subs.2 ⟨ht,hz,hsub⟩))
    exact this
   refine Ok.seq ?_;((first|refine qE ?_|refine qD ?_);(simp only [go_sem,↓dP,↓reduceIte];with_reducible and_intros;all_goals first|apply qA|exact qC|skip));refine Ok.cond rfl (fun _ => ?_) (fun hb => by simp at hb;omega);(refine Ok.skip ?_;(try dsimp only [thenK,blockK,noGotoK]));refine Ok.seq ?_;refine Ok.block ?_
   (first|refine qE ?_|refine qD ?_);(simp only [go_sem,↓dP,↓reduceIte];with_reducible and_intros;all_goals first|apply qA|exact qC|skip)
   rw [hnot]
   (first|refine qE ?_|refine qD ?_);(simp only [go_sem,↓dP,↓reduceIte];with_reducible and_intros;all_goals first|apply qA|exact qC|skip)
   (refine AskI.ret (h1 t ht hz hsub) ?_;simp only [go_sem,↓dP,↓reduceIte];with_reducible and_intros;all_goals first|apply qA|exact qC|skip)
   (refine AskGI.ret (fun _ => h2 (s ^^^ t) hxs.1 hxs.2.1 hxs.2.2) ?_;simp only [go_sem,↓dP,↓reduceIte];with_reducible and_intros;all_goals first|apply qA|exact qC|skip)
   refine Ok.cond rfl ?_ ?_
   ·intro hb
    (first|refine qE ?_|refine qD ?_);(simp only [go_sem,↓dP,↓reduceIte];with_reducible and_intros;all_goals first|apply qA|exact qC|skip)
    (refine Ok.ret ?_;(try dsimp only [thenK,blockK,noGotoK]);simp only [toList_mk,List.toList_toArray,retK_ret,retK_normal,resOK,resV,celV,rowV,frzAll,frzT,subV,subL,go_sem,↓dP,↓reduceIte])
    refine DEq.bool ?_
    exact (parts_yes hsub hz ht hb).symm
   ·intro hb
    (refine Ok.skip ?_;(try dsimp only [thenK,blockK,noGotoK]))
    (first|refine qE ?_|refine qD ?_);(simp only [go_sem,↓dP,↓reduceIte];with_reducible and_intros;all_goals first|apply qA|exact qC|skip)
    (try dsimp only [thenK,blockK,noGotoK])
    have hlt2:(t - 1) &&& s < t:=by have:=Nat.and_le_left (n:=t - 1) (m:=s);omega
    refine ⟨⟨(t - 1) &&& s,by omega,and_le_right' _ _,fun t' h3 h4 h5 h6 => ?_⟩,?_,hlt2⟩
    ·by_cases e:t' = t
     ·subst e;exact hb
     ·rcases Nat.lt_or_ge t t' with q | q
      ·exact hno t' h3 h4 h5 q
      ·have:=next_sub s t t' hsub h3 (by omega)
       omega
    ·(refine Sub.of ([0,1,2]) ([]) ?_ ?_ ?_ rfl rfl<;>simp only [subB,subB1,subT,subT1,newT,subE,subV,subL,go_sem,↓dP,↓reduceIte]<;>(try (repeat' with_reducible apply And.intro))<;>(try first | exact DEq.refl _ | refine DEq.int ?_ | refine DEq.bool ?_ | omega))
     rw [hand1 t (by omega) hz]
def upB (ps:List Piece) (w h s:Nat):Bool:=(List.range w).any (fun n => decide (n ≠ 0) && partsB ps s n h (w - n) h)
def levB (ps:List Piece) (w h s:Nat):Bool:=(List.range h).any (fun n => decide (n ≠ 0) && partsB ps s w n w (h - n))
theorem range_yes {n k:Nat} {q:Nat->Bool} (h0:k ≠ 0) (h1:k < n) (h:q k = true):(List.range n).any (fun n => decide (n ≠ 0) && q n) = true:=by
 rw [any_iff]
 exact ⟨k,List.mem_range.2 h1,by simp [h0,h]⟩
theorem range_no {n:Nat} {q:Nat->Bool} (h:∀ k,k < n->k ≠ 0->q k = false):(List.range n).any (fun n => decide (n ≠ 0) && q n) = false:=by
 rw [List.any_eq_false]
 intro k hk
 by_cases e:k = 0
 ·simp [e]
 ·rw [h k (List.mem_range.1 hk) e];simp
theorem c_knife_upright (J:Job) (m:Nat) (w h s:Nat) (hw:w<=6) (hh:h<=6) (hs:s < 1024)
  (hp:∀ n,n ≠ 0->n < w->Ctr Try.prog 115 [knS J m,iS s,reS n h 0,reS (w - n) h 0] (bS (partsB J.ps s n h (w - n) h))) :
  Ctr Try.prog 112 [knS J m,reS w h s] (bS (upB J.ps w h s)):=by
 (refine Ctr.mk (fn:=Try.f112) rfl rfl rfl rfl rfl Try.results112 ?_;intro _;dsimp only [args,List.toList_toArray])
 (first|refine qE ?_|refine qD ?_);(simp only [go_sem,↓dP,↓reduceIte];with_reducible and_intros;all_goals first|apply qA|exact qC|skip)
 refine Ok.seq ?_
 (first|refine qE ?_|refine qD ?_);(simp only [go_sem,↓dP,↓reduceIte];with_reducible and_intros;all_goals first|apply qA|exact qC|skip)
 refine Ok.block ?_
 refine Ok.count (w - 1) (fun i => ⟨[(2,.p 0 0),(3,.p 1 0),(5,iS (i + 1:Nat))],[knC J m,reC w h s],[]⟩) (fun i => ∀ k,k < i + 1->k ≠ 0->partsB J.ps s k h (w - k) h = false) ⟨fun k h1 h2 => by omega,?_⟩ ?_ ?_
 ·(refine Sub.of ([0,1]) ([]) ?_ ?_ ?_ rfl rfl<;>simp only [subB,subB1,subT,subT1,newT,subE,subV,subL,go_sem,↓dP,↓reduceIte]<;>(try (repeat' with_reducible apply And.intro))<;>(try first | exact DEq.refl _ | refine DEq.int ?_ | refine DEq.bool ?_ | omega))
 ·intro i hi hno
  have e:(w:Int) - ((i + 1:Nat):Int) = ((w - (i + 1):Nat):Int):=by omega
  refine Ok.seq ?_;((first|refine qE ?_|refine qD ?_);(simp only [go_sem,↓dP,↓reduceIte];with_reducible and_intros;all_goals first|apply qA|exact qC|skip));refine Ok.cond rfl (fun _ => ?_) (fun hb => by simp at hb;omega);(refine Ok.skip ?_;(try dsimp only [thenK,blockK,noGotoK]));refine Ok.seq ?_;refine Ok.block ?_
  (first|refine qE ?_|refine qD ?_);(simp only [go_sem,↓dP,↓reduceIte];with_reducible and_intros;all_goals first|apply qA|exact qC|skip)
  rw [e]
  (refine AskI.ret (hp (i + 1) (by omega) (by omega)) ?_;simp only [go_sem,↓dP,↓reduceIte];with_reducible and_intros;all_goals first|apply qA|exact qC|skip)
  refine Ok.cond rfl ?_ ?_
  ·intro hb
   (first|refine qE ?_|refine qD ?_);(simp only [go_sem,↓dP,↓reduceIte];with_reducible and_intros;all_goals first|apply qA|exact qC|skip)
   (refine Ok.ret ?_;(try dsimp only [thenK,blockK,noGotoK]);simp only [toList_mk,List.toList_toArray,retK_ret,retK_normal,resOK,resV,celV,rowV,frzAll,frzT,subV,subL,go_sem,↓dP,↓reduceIte])
   refine DEq.bool ?_
   exact (range_yes (k:=i + 1) (by omega) (by omega) hb).symm
  ·intro hb
   (refine Ok.skip ?_;(try dsimp only [thenK,blockK,noGotoK]))
   (first|refine qE ?_|refine qD ?_);(simp only [go_sem,↓dP,↓reduceIte];with_reducible and_intros;all_goals first|apply qA|exact qC|skip)
   (try dsimp only [thenK,blockK,noGotoK])
   refine ⟨fun k h1 h2 => ?_,?_⟩
   ·by_cases e:k = i + 1
    ·subst e;exact hb
    ·exact hno k (by omega) h2
   ·(refine Sub.of ([0,1]) ([]) ?_ ?_ ?_ rfl rfl<;>simp only [subB,subB1,subT,subT1,newT,subE,subV,subL,go_sem,↓dP,↓reduceIte]<;>(try (repeat' with_reducible apply And.intro))<;>(try first | exact DEq.refl _ | refine DEq.int ?_ | refine DEq.bool ?_ | omega))
 ·intro hno
  refine Ok.seq ?_;((first|refine qE ?_|refine qD ?_);(simp only [go_sem,↓dP,↓reduceIte];with_reducible and_intros;all_goals first|apply qA|exact qC|skip));refine Ok.cond rfl (fun hb => by simp at hb;omega) (fun _ => ?_);(refine Ok.exit ?_;simp only [thenK_exit,blockK_exit,noGotoK_exit,thenK_normal,blockK_normal,noGotoK_normal,↓reduceIte,Nat.reduceEqDiff])
  (try dsimp only [thenK,blockK,noGotoK])
  (first|refine qE ?_|refine qD ?_);(simp only [go_sem,↓dP,↓reduceIte];with_reducible and_intros;all_goals first|apply qA|exact qC|skip)
  (refine Ok.ret ?_;(try dsimp only [thenK,blockK,noGotoK]);simp only [toList_mk,List.toList_toArray,retK_ret,retK_normal,resOK,resV,celV,rowV,frzAll,frzT,subV,subL,go_sem,↓dP,↓reduceIte])
  refine DEq.bool ?_
  exact (range_no (fun k h1 h2 => hno k (by omega) h2)).symm
theorem c_knife_level (J:Job) (m:Nat) (w h s:Nat) (hw:w<=6) (hh:h<=6) (hs:s < 1024)
  (hp:∀ n,n ≠ 0->n < h->Ctr Try.prog 115 [knS J m,iS s,reS w n 0,reS w (h - n) 0] (bS (partsB J.ps s w n w (h - n)))) :
  Ctr Try.prog 113 [knS J m,reS w h s] (bS (levB J.ps w h s)):=by
 (refine Ctr.mk (fn:=Try.f113) rfl rfl rfl rfl rfl Try.results113 ?_;intro _;dsimp only [args,List.toList_toArray])
 (first|refine qE ?_|refine qD ?_);(simp only [go_sem,↓dP,↓reduceIte];with_reducible and_intros;all_goals first|apply qA|exact qC|skip)
 refine Ok.seq ?_
 (first|refine qE ?_|refine qD ?_);(simp only [go_sem,↓dP,↓reduceIte];with_reducible and_intros;all_goals first|apply qA|exact qC|skip)
 refine Ok.block ?_
 refine Ok.count (h - 1) (fun i => ⟨[(2,.p 0 0),(3,.p 1 0),(5,iS (i + 1:Nat))],[knC J m,reC w h s],[]⟩) (fun i => ∀ k,k < i + 1->k ≠ 0->partsB J.ps s w k w (h - k) = false) ⟨fun k h1 h2 => by omega,?_⟩ ?_ ?_
 ·(refine Sub.of ([0,1]) ([]) ?_ ?_ ?_ rfl rfl<;>simp only [subB,subB1,subT,subT1,newT,subE,subV,subL,go_sem,↓dP,↓reduceIte]<;>(try (repeat' with_reducible apply And.intro))<;>(try first | exact DEq.refl _ | refine DEq.int ?_ | refine DEq.bool ?_ | omega))
 ·intro i hi hno
  have e:(h:Int) - ((i + 1:Nat):Int) = ((h - (i + 1):Nat):Int):=by omega
  refine Ok.seq ?_;((first|refine qE ?_|refine qD ?_);(simp only [go_sem,↓dP,↓reduceIte];with_reducible and_intros;all_goals first|apply qA|exact qC|skip));refine Ok.cond rfl (fun _ => ?_) (fun hb => by simp at hb;omega);(refine Ok.skip ?_;(try dsimp only [thenK,blockK,noGotoK]));refine Ok.seq ?_;refine Ok.block ?_
  (first|refine qE ?_|refine qD ?_);(simp only [go_sem,↓dP,↓reduceIte];with_reducible and_intros;all_goals first|apply qA|exact qC|skip)
  rw [e]
  (refine AskI.ret (hp (i + 1) (by omega) (by omega)) ?_;simp only [go_sem,↓dP,↓reduceIte];with_reducible and_intros;all_goals first|apply qA|exact qC|skip)
  refine Ok.cond rfl ?_ ?_
  ·intro hb
   (first|refine qE ?_|refine qD ?_);(simp only [go_sem,↓dP,↓reduceIte];with_reducible and_intros;all_goals first|apply qA|exact qC|skip)
   (refine Ok.ret ?_;(try dsimp only [thenK,blockK,noGotoK]);simp only [toList_mk,List.toList_toArray,retK_ret,retK_normal,resOK,resV,celV,rowV,frzAll,frzT,subV,subL,go_sem,↓dP,↓reduceIte])
   refine DEq.bool ?_
   exact (range_yes (k:=i + 1) (by omega) (by omega) hb).symm
  ·intro hb
   (refine Ok.skip ?_;(try dsimp only [thenK,blockK,noGotoK]))
   (first|refine qE ?_|refine qD ?_);(simp only [go_sem,↓dP,↓reduceIte];with_reducible and_intros;all_goals first|apply qA|exact qC|skip)
   (try dsimp only [thenK,blockK,noGotoK])
   refine ⟨fun k h1 h2 => ?_,?_⟩
   ·by_cases e:k = i + 1
    ·subst e;exact hb
    ·exact hno k (by omega) h2
   ·(refine Sub.of ([0,1]) ([]) ?_ ?_ ?_ rfl rfl<;>simp only [subB,subB1,subT,subT1,newT,subE,subV,subL,go_sem,↓dP,↓reduceIte]<;>(try (repeat' with_reducible apply And.intro))<;>(try first | exact DEq.refl _ | refine DEq.int ?_ | refine DEq.bool ?_ | omega))
 ·intro hno
  refine Ok.seq ?_;((first|refine qE ?_|refine qD ?_);(simp only [go_sem,↓dP,↓reduceIte];with_reducible and_intros;all_goals first|apply qA|exact qC|skip));refine Ok.cond rfl (fun hb => by simp at hb;omega) (fun _ => ?_);(refine Ok.exit ?_;simp only [thenK_exit,blockK_exit,noGotoK_exit,thenK_normal,blockK_normal,noGotoK_normal,↓reduceIte,Nat.reduceEqDiff])
  (try dsimp only [thenK,blockK,noGotoK])
  (first|refine qE ?_|refine qD ?_);(simp only [go_sem,↓dP,↓reduceIte];with_reducible and_intros;all_goals first|apply qA|exact qC|skip)
  (refine Ok.ret ?_;(try dsimp only [thenK,blockK,noGotoK]);simp only [toList_mk,List.toList_toArray,retK_ret,retK_normal,resOK,resV,celV,rowV,frzAll,frzT,subV,subL,go_sem,↓dP,↓reduceIte])
  refine DEq.bool ?_
  exact (range_no (fun k h1 h2 => hno k (by omega) h2)).symm
theorem can_step (ps:List Piece) (w h s:Nat):can ps w h s =
  if s = 0 then true
  else if single s then (List.range ps.length).any (fun n => decide (s = 2 ^ n) && alone (ps.getD n default) w h)
  else if area ps s > (w:Int) * h then false
  else upB ps w h s || levB ps w h s:=by
 rw [can_eq]
 rfl
theorem mt_ints {I:Nat->Prop} {β:Nat->Option Nat} {τ:Nat->Option Value} {Y:Nat->Option Bool} {w:World}:∀ {l:List Int} {v:Value},Mt I β τ Y w v (.agg (l.map iS))->v = .agg (l.map (fun n => Value.int .i64 n)).toArray:=by
 intro l v h
 cases h with
 | @agg cs xs hl h h1 =>
  congr 1
  apply Array.ext'
  simp only [List.length_map] at hl
  apply List.ext_getElem?
  intro i
  simp only [List.getElem?_map]
  by_cases hi:i < l.length
  ·have hc:i < cs.size:=by omega
   have:=mt_d (h i cs[i] (iS l[i]) (by simp [hc]) (by simp [hi]))
   generalize hv:cs[i] = v at this
   cases this
   simp [hi,hc,hv]
  ·have h1:cs.size<=i:=by omega
   have h2:l.length<=i:=by omega
   simp [h1,h2]
theorem St.rest [Rnd] {N:Nat} {σ:Sy} {I:Nat->Prop} {w0 w:World} {a:Act} {t x y z:Nat} (hs:St σ I N w0 a w) (hl:lk σ.env t = reS x y z):a.tmps.getD t undef = restV x y z:=by
 obtain ⟨_,_,_,_,h⟩:=hs.val hl (fun _ _ _ e => by cases e)
 exact mt_ints (l:=[(x:Int),(y:Int),(z:Int)]) h
theorem c_knife_can (J : Job) (m : Nat) (hK : IsMemo J.ps m) (hJ : sides J.ps) : ∀ (k w h s : Nat), w + h ≤ k → w ≤ 6 → h ≤ 6 → s < 1024 → Ctr Try.prog 108 [knS J m, reS w h s] (bS (can J.ps w h s)) := by
  intro k
  induction k using Nat.strongRecOn with
  | ind k ih =>
  intro w h s hk hw hh hs
  have hcs := can_step J.ps w h s
  (refine Ctr.mk (fn := Try.f108) rfl rfl rfl rfl rfl Try.results108 ?_; intro _; dsimp only [args, List.toList_toArray])
  (first|refine qE ?_|refine qD ?_);(simp only [go_sem,↓dP,↓reduceIte];with_reducible and_intros;all_goals first|apply qA|exact qC|skip)
  refine Ok.seq ?_
  (first|refine qE ?_|refine qD ?_);(simp only [go_sem,↓dP,↓reduceIte];with_reducible and_intros;all_goals first|apply qA|exact qC|skip)
  refine Ok.cond rfl ?_ ?_
  · intro hb
    (first|refine qE ?_|refine qD ?_);(simp only [go_sem,↓dP,↓reduceIte];with_reducible and_intros;all_goals first|apply qA|exact qC|skip)
    (refine Ok.ret ?_; (try dsimp only [thenK, blockK, noGotoK]); simp only [toList_mk, List.toList_toArray, retK_ret, retK_normal, resOK, resV, celV, rowV, frzAll, frzT, subV, subL, go_sem,↓dP,↓reduceIte])
    refine DEq.bool ?_
    rw [hcs, if_pos (by simpa using hb)]
  · intro hb
    have h0 : s ≠ 0 := by simpa using hb
    (refine Ok.skip ?_; (try dsimp only [thenK, blockK, noGotoK]))
    refine Ok.seq ?_
    ((first | refine RX.qT 3 ?h1 ?h2 ?h3 ?h4 ?_ | refine RX.qU 3 ?h1 ?h2 ?h3 ?h4 ?_); (case h1 => rfl); (case h2 => rfl); (case h3 => rfl); (case h4 => rfl); simp only [go_sem,↓dP,↓reduceIte];with_reducible and_intros;all_goals first|apply qA|exact qC|skip)
    intro Y a w0 hinv
    have hst := St.of hinv rfl
    have e17 : a.eval (.tmp 17) = .map (some m) := hst.raw rfl
    have e18 : a.eval (.tmp 18) = restV w h s := St.rest hst rfl
    obtain ⟨I1, β1, τ1, hx⟩ := hinv
    have hmemo := hK.G _ (hx.bel.gl hx.bs)
    obtain ⟨met, hlook⟩ := hmemo.look (a := w) (b := h) (s := s) (by omega) (by omega) hs
    refine tail_val (v := .tuple #[.bool (met && can J.ps w h s), .bool met]) rfl (fun c e => by cases e) (by simp only [execOp, e17, e18, Sem.run_bind, hlook, Result.andThen_ok]; rfl) ?_
    have hst2 := hst.putV (d := 19) (v := .tuple #[.bool (met && can J.ps w h s), .bool met]) (V := .tup [bS (met && can J.ps w h s), bS met]) (by decide) (fun I β τ Y => .tup rfl (fun j u y hu hy => by
      match j with
      | 0 => simp at hu hy; subst hu; subst hy; exact .d .bool
      | 1 => simp at hu hy; subst hu; subst hy; exact .d .bool
      | j + 2 => simp at hu))
    (refine Ok.rest hst2 ?h1 ?h2 ?h3 ?_; (case h1 => rfl); (case h2 => rfl); (case h3 => rfl); simp only [go_sem,↓dP,↓reduceIte, bare]; with_reducible and_intros;all_goals first|apply qA|exact qC|skip; (try dsimp only [thenK, blockK, noGotoK]))
    (first|refine qE ?_|refine qD ?_);(simp only [go_sem,↓dP,↓reduceIte];with_reducible and_intros;all_goals first|apply qA|exact qC|skip)
    refine Ok.cond rfl ?_ ?_
    · intro hmet
      subst hmet
      (first|refine qE ?_|refine qD ?_);(simp only [go_sem,↓dP,↓reduceIte];with_reducible and_intros;all_goals first|apply qA|exact qC|skip)
      (refine Ok.ret ?_; (try dsimp only [thenK, blockK, noGotoK]); simp only [toList_mk, List.toList_toArray, retK_ret, retK_normal, resOK, resV, celV, rowV, frzAll, frzT, subV, subL, go_sem,↓dP,↓reduceIte])
      exact .refl _
    · intro hmet
      subst hmet
      (refine Ok.skip ?_; (try dsimp only [thenK, blockK, noGotoK]))
      have hsm := bits_and_i64 s (s - 1) (by omega) (by omega)
      have hse : (s : Int) - 1 = ((s - 1 : Nat) : Int) := by omega
      have hwh := mul36 (a := w) (b := h) (by omega) (by omega) (by omega) (by omega)
      (first|refine qE ?_|refine qD ?_);(simp only [go_sem,↓dP,↓reduceIte];with_reducible and_intros;all_goals first|apply qA|exact qC|skip)
      refine Ok.join ⟨[(2, .p 0 0), (3, .p 1 0), (7, bS (can J.ps w h s))], [knC J m, reC w h s], []⟩ ?_ ?_
      · refine Ok.seq ?_
        (first|refine qE ?_|refine qD ?_);(simp only [go_sem,↓dP,↓reduceIte];with_reducible and_intros;all_goals first|apply qA|exact qC|skip)
        rw [hse, hsm]
        refine Ok.cond rfl ?_ ?_
        · intro hb1
          have h1 : single s = true := by simpa [single] using hb1
          rw [if_neg h0, if_pos h1] at hcs
          rw [hcs]
          (first|refine qE ?_|refine qD ?_);(simp only [go_sem,↓dP,↓reduceIte];with_reducible and_intros;all_goals first|apply qA|exact qC|skip)
          refine Ok.block ?_
          refine Ok.count J.ps.length (fun i => ⟨[(2, .p 0 0), (3, .p 1 0), (7, bS ((List.range i).any (fun n => decide (s = 2 ^ n) && alone (J.ps.getD n default) w h))), (33, .d (slD 4 pieD J.ps)), (34, iS J.ps.length), (35, iS i)], [knC J m, reC w h s], []⟩) (fun _ => True) ⟨trivial, ?_⟩ ?_ ?_
          · (refine Sub.of ([0, 1]) ([]) ?_ ?_ ?_ rfl rfl <;> simp only [subB, subB1, subT, subT1, newT, subE, subV, subL, go_sem,↓dP,↓reduceIte] <;> (try (repeat' with_reducible apply And.intro)) <;> (try first | exact DEq.refl _ | refine DEq.int ?_ | refine DEq.bool ?_ | omega))
          · intro i hi _
            have hpw : 2 ^ i < 2 ^ 10 := Nat.pow_lt_pow_right (by decide) (by have := hJ.n; omega)
            have hn10 := hJ.n
            have hpc : (1 : Int) * 2 ^ i = ((2 ^ i : Nat) : Int) := by simp
            ((first|refine qE ?_|refine qD ?_);(simp only [go_sem,↓dP,↓reduceIte];with_reducible and_intros;all_goals first|apply qA|exact qC|skip)); refine Ok.seq ?_; refine Ok.cond rfl (fun _ => ?_) (fun hb => by simp at hb; omega); (refine Ok.skip ?_; (try dsimp only [thenK, blockK, noGotoK])); refine Ok.seq ?_; refine Ok.block ?_
            refine Ok.seq ?_
            (first|refine qE ?_|refine qD ?_);(simp only [go_sem,↓dP,↓reduceIte];with_reducible and_intros;all_goals first|apply qA|exact qC|skip)
            (first|refine qE ?_|refine qD ?_);(simp only [go_sem,↓dP,↓reduceIte];with_reducible and_intros;all_goals first|apply qA|exact qC|skip)
            · intro _
              refine ⟨by omega, by have : (IntKind.i64.bits : Int) = 64 := rfl
                                   omega, ?_⟩
              rw [hpc]; generalize 2 ^ i = P at hpw ⊢; exact R64 (by omega) (by omega)
            (refine AskGI.ret (fun _ => c_alone (J.ps.getD i default) w h s) ?_; simp only [go_sem,↓dP,↓reduceIte];with_reducible and_intros;all_goals first|apply qA|exact qC|skip)
            (first|refine qE ?_|refine qD ?_);(simp only [go_sem,↓dP,↓reduceIte];with_reducible and_intros;all_goals first|apply qA|exact qC|skip)
            (try dsimp only [thenK, blockK, noGotoK])
            refine ⟨trivial, ?_⟩
            (refine Sub.of ([0, 1]) ([]) ?_ ?_ ?_ rfl rfl <;> simp only [subB, subB1, subT, subT1, newT, subE, subV, subL, go_sem,↓dP,↓reduceIte] <;> (try (repeat' with_reducible apply And.intro)) <;> (try first | exact DEq.refl _ | refine DEq.int ?_ | refine DEq.bool ?_ | omega))
            have hse2 : ((s : Int) == 1 * 2 ^ i) = decide (s = 2 ^ i) := by
              rw [hpc, Bool.eq_iff_iff]
              simp only [beq_iff_eq, decide_eq_true_eq]
              omega
            rw [List.any_append, hse2]
            simp
          · intro _
            ((first|refine qE ?_|refine qD ?_);(simp only [go_sem,↓dP,↓reduceIte];with_reducible and_intros;all_goals first|apply qA|exact qC|skip)); refine Ok.seq ?_; refine Ok.cond rfl (fun hb => by simp at hb) (fun _ => ?_); (refine Ok.exit ?_; simp only [thenK_exit, blockK_exit, noGotoK_exit, thenK_normal, blockK_normal, noGotoK_normal, ↓reduceIte, Nat.reduceEqDiff])
            (try dsimp only [thenK, blockK, noGotoK])
            (refine Sub.of ([0, 1]) ([]) ?_ ?_ ?_ rfl rfl <;> simp only [subB, subB1, subT, subT1, newT, subE, subV, subL, go_sem,↓dP,↓reduceIte] <;> (try (repeat' with_reducible apply And.intro)) <;> (try first | exact DEq.refl _ | refine DEq.int ?_ | refine DEq.bool ?_ | omega))
        · intro hb1
          have h1 : single s = false := by
            cases hq : single s with
            | false => rfl
            | true => simp [single] at hq; simp [hq] at hb1
          rw [if_neg h0, h1] at hcs
          simp only [Bool.false_eq_true, if_false] at hcs
          rw [hcs]
          refine Ok.seq ?_
          (first|refine qE ?_|refine qD ?_);(simp only [go_sem,↓dP,↓reduceIte];with_reducible and_intros;all_goals first|apply qA|exact qC|skip)
          (refine AskI.ret (c_knife_large J m hJ w h s hw hh hs) ?_; simp only [go_sem,↓dP,↓reduceIte];with_reducible and_intros;all_goals first|apply qA|exact qC|skip)
          refine Ok.cond rfl ?_ ?_
          · intro hb2
            (first|refine qE ?_|refine qD ?_);(simp only [go_sem,↓dP,↓reduceIte];with_reducible and_intros;all_goals first|apply qA|exact qC|skip)
            refine Ok.block ?_
            refine Ok.rounds 3 (OkN.round ?_)
            (first|refine qE ?_|refine qD ?_);(simp only [go_sem,↓dP,↓reduceIte];with_reducible and_intros;all_goals first|apply qA|exact qC|skip)
            refine Ok.seq ?_
            refine Ok.cond (b := true) (by first | rfl | (simp only [go_sem,↓dP,↓reduceIte]; rfl)) (fun _ => ?_) (fun hb => by cases hb)
            (refine Ok.skip ?_; (try dsimp only [thenK, blockK, noGotoK]))
            refine Ok.seq ?_
            refine Ok.block ?_
            (first|refine qE ?_|refine qD ?_);(simp only [go_sem,↓dP,↓reduceIte];with_reducible and_intros;all_goals first|apply qA|exact qC|skip)
            (first|refine qE ?_|refine qD ?_);(simp only [go_sem,↓dP,↓reduceIte];with_reducible and_intros;all_goals first|apply qA|exact qC|skip)
            (refine AskI.ret (c_knife_upright J m w h s hw hh hs (fun n hn hnw => c_knife_parts J m s n h (w - n) h hs h0 (fun t ht ht0 hts => ih (n + h) (by omega) n h t (Nat.le_refl _) (by omega) hh (by omega)) (fun t ht ht0 hts => ih (w - n + h) (by omega) (w - n) h t (Nat.le_refl _) (by omega) hh (by omega)))) ?_; simp only [go_sem,↓dP,↓reduceIte];with_reducible and_intros;all_goals first|apply qA|exact qC|skip)
            refine Ok.cond rfl ?_ ?_
            · intro hb3
              (first|refine qE ?_|refine qD ?_);(simp only [go_sem,↓dP,↓reduceIte];with_reducible and_intros;all_goals first|apply qA|exact qC|skip)
              (refine Ok.exit ?_; simp only [thenK_exit, blockK_exit, noGotoK_exit, thenK_normal, blockK_normal, noGotoK_normal, ↓reduceIte, Nat.reduceEqDiff])
              (refine Sub.of ([0, 1]) ([]) ?_ ?_ ?_ rfl rfl <;> simp only [subB, subB1, subT, subT1, newT, subE, subV, subL, go_sem,↓dP,↓reduceIte] <;> (try (repeat' with_reducible apply And.intro)) <;> (try first | exact DEq.refl _ | refine DEq.int ?_ | refine DEq.bool ?_ | omega))
              rw [if_neg (by simpa using hb2), hb3]; rfl
            · intro hb3
              (refine Ok.skip ?_; (try dsimp only [thenK, blockK, noGotoK]))
              (first|refine qE ?_|refine qD ?_);(simp only [go_sem,↓dP,↓reduceIte];with_reducible and_intros;all_goals first|apply qA|exact qC|skip)
              (try dsimp only [thenK, blockK, noGotoK])
              refine OkN.round ?_
              (first|refine qE ?_|refine qD ?_);(simp only [go_sem,↓dP,↓reduceIte];with_reducible and_intros;all_goals first|apply qA|exact qC|skip)
              refine Ok.seq ?_
              refine Ok.cond (b := true) (by first | rfl | (simp only [go_sem,↓dP,↓reduceIte]; rfl)) (fun _ => ?_) (fun hb => by cases hb)
              (refine Ok.skip ?_; (try dsimp only [thenK, blockK, noGotoK]))
              refine Ok.seq ?_
              refine Ok.block ?_
              (first|refine qE ?_|refine qD ?_);(simp only [go_sem,↓dP,↓reduceIte];with_reducible and_intros;all_goals first|apply qA|exact qC|skip)
              (first|refine qE ?_|refine qD ?_);(simp only [go_sem,↓dP,↓reduceIte];with_reducible and_intros;all_goals first|apply qA|exact qC|skip)
              (refine AskI.ret (c_knife_level J m w h s hw hh hs (fun n hn hnw => c_knife_parts J m s w n w (h - n) hs h0 (fun t ht ht0 hts => ih (w + n) (by omega) w n t (Nat.le_refl _) hw (by omega) (by omega)) (fun t ht ht0 hts => ih (w + (h - n)) (by omega) w (h - n) t (Nat.le_refl _) hw (by omega) (by omega)))) ?_; simp only [go_sem,↓dP,↓reduceIte];with_reducible and_intros;all_goals first|apply qA|exact qC|skip)
              refine Ok.cond rfl ?_ ?_
              · intro hb4
                (first|refine qE ?_|refine qD ?_);(simp only [go_sem,↓dP,↓reduceIte];with_reducible and_intros;all_goals first|apply qA|exact qC|skip)
                (refine Ok.exit ?_; simp only [thenK_exit, blockK_exit, noGotoK_exit, thenK_normal, blockK_normal, noGotoK_normal, ↓reduceIte, Nat.reduceEqDiff])
                (refine Sub.of ([0, 1]) ([]) ?_ ?_ ?_ rfl rfl <;> simp only [subB, subB1, subT, subT1, newT, subE, subV, subL, go_sem,↓dP,↓reduceIte] <;> (try (repeat' with_reducible apply And.intro)) <;> (try first | exact DEq.refl _ | refine DEq.int ?_ | refine DEq.bool ?_ | omega))
                rw [if_neg (by simpa using hb2), hb3, hb4]; rfl
              · intro hb4
                (refine Ok.skip ?_; (try dsimp only [thenK, blockK, noGotoK]))
                (first|refine qE ?_|refine qD ?_);(simp only [go_sem,↓dP,↓reduceIte];with_reducible and_intros;all_goals first|apply qA|exact qC|skip)
                (try dsimp only [thenK, blockK, noGotoK])
                refine OkN.round ?_
                (first|refine qE ?_|refine qD ?_);(simp only [go_sem,↓dP,↓reduceIte];with_reducible and_intros;all_goals first|apply qA|exact qC|skip)
                refine Ok.seq ?_
                refine Ok.cond (b := false) (by first | rfl | (simp only [go_sem,↓dP,↓reduceIte]; rfl)) (fun hb => by cases hb) (fun _ => ?_)
                (refine Ok.exit ?_; simp only [thenK_exit, blockK_exit, noGotoK_exit, thenK_normal, blockK_normal, noGotoK_normal, ↓reduceIte, Nat.reduceEqDiff])
                (refine Sub.of ([0, 1]) ([]) ?_ ?_ ?_ rfl rfl <;> simp only [subB, subB1, subT, subT1, newT, subE, subV, subL, go_sem,↓dP,↓reduceIte] <;> (try (repeat' with_reducible apply And.intro)) <;> (try first | exact DEq.refl _ | refine DEq.int ?_ | refine DEq.bool ?_ | omega))
                rw [if_neg (by simpa using hb2), hb3, hb4]; rfl
          · intro hb2
            (refine Ok.skip ?_; (try dsimp only [thenK, blockK, noGotoK]))
            (try dsimp only [thenK, blockK, noGotoK])
            (refine Sub.of ([0, 1]) ([]) ?_ ?_ ?_ rfl rfl <;> simp only [subB, subB1, subT, subT1, newT, subE, subV, subL, go_sem,↓dP,↓reduceIte] <;> (try (repeat' with_reducible apply And.intro)) <;> (try first | exact DEq.refl _ | refine DEq.int ?_ | refine DEq.bool ?_ | omega))
            rw [if_pos (by simpa using hb2)]
      · refine Ok.seq ?_
        ((first | refine RX.qT 4 ?h1 ?h2 ?h3 ?h4 ?_ | refine RX.qU 4 ?h1 ?h2 ?h3 ?h4 ?_); (case h1 => rfl); (case h2 => rfl); (case h3 => rfl); (case h4 => rfl); simp only [go_sem,↓dP,↓reduceIte];with_reducible and_intros;all_goals first|apply qA|exact qC|skip)
        intro Y a w0 hinv
        have hst := St.of hinv rfl
        have e71 : a.eval (.tmp 71) = .map (some m) := hst.raw rfl
        have e72 : a.eval (.tmp 72) = restV w h s := St.rest hst rfl
        have e73 : a.eval (.tmp 73) = .bool (can J.ps w h s) := hst.bool rfl
        obtain ⟨I1, β1, τ1, hx⟩ := hinv
        have hG := hx.bel.gl hx.bs
        obtain ⟨o, hup, hok⟩ := (hK.G _ hG).update (a := w) (b := h) (s := s) (by omega) (by omega) hs
        have hkeep : Keep w0.heap.size w0 (w0.putObj m o) := ⟨rfl, rfl, rfl, by simp, fun k _ hk => putObj_other (fun e => hk (by rw [hK.M, e])), fun hG => hK.G' _ _ hG hok (by simp) (fun k hk => putObj_other hk)⟩
        refine tail_skp (w' := w0.putObj m o) rfl (fun c e => by cases e) (by simp only [execOp, e71, e72, e73, Sem.run_bind, hup, Result.andThen_ok]; rfl) ?_
        refine tail_end ⟨_, ?_, hst.quiet hkeep⟩
        (try dsimp only [thenK, blockK, noGotoK])
        (first|refine qE ?_|refine qD ?_);(simp only [go_sem,↓dP,↓reduceIte];with_reducible and_intros;all_goals first|apply qA|exact qC|skip)
        (refine Ok.ret ?_; (try dsimp only [thenK, blockK, noGotoK]); simp only [toList_mk, List.toList_toArray, retK_ret, retK_normal, resOK, resV, celV, rowV, frzAll, frzT, subV, subL, go_sem,↓dP,↓reduceIte])
        exact .refl _
end Go.Proofs.Leaf
namespace Go.Proofs.Leaf
open Go Go.RX Go.Proofs
set_option maxRecDepth 10000
variable [Glob]
def qU (ps:List Piece) (w h s n t:Nat):Bool:=decide (t &&& s = t) && can ps n h t && can ps (w - n) h (s - t)
end Go.Proofs.Leaf
namespace Go.Proofs.Leaf
open Go Go.RX Go.Proofs
set_option maxRecDepth 10000
variable [Glob]
theorem asI_len (L:List Nat):(asI L).length = L.length:=by simp
def Job.fit (J:Job) (s:Nat):Bool:=can J.ps J.wide.toNat J.high.toNat s
structure Job.sized (J:Job):Prop where
 w0:1<=J.wide
 w1:J.wide<=6
 h0:1<=J.high
 h1:J.high<=6
 n:J.ps.length<=9
 s:sides J.ps
theorem Job.ok.sides {J:Job} (h:J.ok):sides J.ps:=⟨by have:=h.p1;omega,fun p hp => by have:=h.ps p hp;omega⟩
theorem Job.ok.sized {J:Job} (h:J.ok):J.sized:=⟨h.w0,h.w1,h.h0,h.h1,by have:=h.p1;omega,h.sides⟩
theorem listsK_len:∀ (k:Nat) (now:List Nat),(listsK k now).length<=(leaves now + k) ^ k
 | 0,now => by simp [listsK]
 | k + 1,now => by
  rw [listsK,List.length_flatMap]
  have key:∀ m,m<=leaves now + 1->((List.range m).map (fun n => (listsK k (now ++ [n])).length)).sum<=m * (leaves now + (k + 1)) ^ k:=by
   intro m
   induction m with
   | zero => intro _;simp
   | succ m ih =>
    intro hm
    rw [List.range_succ,List.map_append,List.sum_append,Nat.add_mul]
    have h1:=ih (by omega)
    have h2:=listsK_len k (now ++ [m])
    rw [leaves_snoc] at h2
    have h3:(max (leaves now) (m + 1) + k) ^ k<=(leaves now + (k + 1)) ^ k:=Nat.pow_le_pow_left (by omega) k
    simp only [List.map_cons,List.map_nil,List.sum_cons,List.sum_nil]
    omega
  have h1:=key (leaves now + 1) (Nat.le_refl _)
  refine Nat.le_trans h1 ?_
  rw [Nat.pow_succ,Nat.mul_comm]
  exact Nat.mul_le_mul_left _ (by omega)
end Go.Proofs.Leaf
namespace Go.Proofs.Leaf
open Go Go.RX Go.Proofs
set_option maxRecDepth 10000
variable [Glob]
theorem c_tSame (a b:List Int) (ha:a.length < 1000000) (hb':b.length < 1000000):Ctr Try.prog 18 [ilS a,ilS b] (bS (a == b)):=by
 (refine Ctr.mk (fn:=Try.f18) rfl rfl rfl rfl rfl Try.results18 ?_;intro _;dsimp only [args,List.toList_toArray])
 (first|refine qE ?_|refine qD ?_);(simp only [go_sem,↓dP,↓reduceIte];with_reducible and_intros;all_goals first|apply qA|exact qC|skip)
 refine Ok.seq ?_
 (first|refine qE ?_|refine qD ?_);(simp only [go_sem,↓dP,↓reduceIte];with_reducible and_intros;all_goals first|apply qA|exact qC|skip)
 refine Ok.cond rfl ?_ ?_
 ·intro hb
  have hF:(a == b) = false:=by
   rw [beq_eq_false_iff_ne]
   intro h
   rw [h] at hb
   simp at hb
  (first|refine qE ?_|refine qD ?_);(simp only [go_sem,↓dP,↓reduceIte];with_reducible and_intros;all_goals first|apply qA|exact qC|skip)
  (refine Ok.ret ?_;(try dsimp only [thenK,blockK,noGotoK]);simp only [toList_mk,List.toList_toArray,retK_ret,retK_normal,resOK,resV,celV,rowV,frzAll,frzT,subV,subL,go_sem,↓dP,↓reduceIte])
  rw [hF]
  exact .refl _
 intro hb
 have hlen:a.length = b.length:=by simp at hb;omega
 (refine Ok.skip ?_;(try dsimp only [thenK,blockK,noGotoK]))
 refine Ok.seq ?_
 (first|refine qE ?_|refine qD ?_);(simp only [go_sem,↓dP,↓reduceIte];with_reducible and_intros;all_goals first|apply qA|exact qC|skip)
 refine Ok.block ?_
 refine Ok.count a.length (fun i => ⟨[(0,ilS a),(1,ilS b),(5,iS i)],[],[]⟩) (fun i => ∀ j,j < i->a.getD j default = b.getD j default) ⟨fun j hj => by omega,?_⟩ ?_ ?_
 ·(refine Sub.of ([]) ([]) ?_ ?_ ?_ rfl rfl<;>simp only [subB,subB1,subT,subT1,newT,subE,subV,subL,go_sem,↓dP,↓reduceIte]<;>(try (repeat' with_reducible apply And.intro))<;>(try first | exact DEq.refl _ | refine DEq.int ?_ | refine DEq.bool ?_ | omega))
 ·intro i hi hJ
  refine Ok.seq ?_;((first|refine qE ?_|refine qD ?_);(simp only [go_sem,↓dP,↓reduceIte];with_reducible and_intros;all_goals first|apply qA|exact qC|skip));refine Ok.cond rfl (fun _ => ?_) (fun hb => by simp at hb;omega);(refine Ok.skip ?_;(try dsimp only [thenK,blockK,noGotoK]));refine Ok.seq ?_;refine Ok.block ?_
  (first|refine qE ?_|refine qD ?_);(simp only [go_sem,↓dP,↓reduceIte];with_reducible and_intros;all_goals first|apply qA|exact qC|skip)
  refine Ok.cond rfl ?_ ?_
  ·intro hx
   have hne:a.getD i default ≠ b.getD i default:=by simpa using hx
   have hF:(a == b) = false:=by
    rw [beq_eq_false_iff_ne]
    intro h
    rw [h] at hne
    exact hne rfl
   (first|refine qE ?_|refine qD ?_);(simp only [go_sem,↓dP,↓reduceIte];with_reducible and_intros;all_goals first|apply qA|exact qC|skip)
   (refine Ok.ret ?_;(try dsimp only [thenK,blockK,noGotoK]);simp only [toList_mk,List.toList_toArray,retK_ret,retK_normal,resOK,resV,celV,rowV,frzAll,frzT,subV,subL,go_sem,↓dP,↓reduceIte])
   rw [hF]
   exact .refl _
  ·intro hx
   have he:a.getD i default = b.getD i default:=by simpa using hx
   (refine Ok.skip ?_;(try dsimp only [thenK,blockK,noGotoK]))
   (first|refine qE ?_|refine qD ?_);(simp only [go_sem,↓dP,↓reduceIte];with_reducible and_intros;all_goals first|apply qA|exact qC|skip)
   (try dsimp only [thenK,blockK,noGotoK])
   refine ⟨fun j hj => ?_,?_⟩
   ·by_cases e:j = i
    ·subst e;exact he
    ·exact hJ j (by omega)
   (refine Sub.of ([]) ([]) ?_ ?_ ?_ rfl rfl<;>simp only [subB,subB1,subT,subT1,newT,subE,subV,subL,go_sem,↓dP,↓reduceIte]<;>(try (repeat' with_reducible apply And.intro))<;>(try first | exact DEq.refl _ | refine DEq.int ?_ | refine DEq.bool ?_ | omega))
 ·intro hJ
  have hT:(a == b) = true:=by
   rw [beq_iff_eq]
   refine List.ext_getElem hlen (fun j h1 h2 => ?_)
   have:=hJ j h1
   rwa [getD_lt h1,getD_lt h2] at this
  refine Ok.seq ?_;((first|refine qE ?_|refine qD ?_);(simp only [go_sem,↓dP,↓reduceIte];with_reducible and_intros;all_goals first|apply qA|exact qC|skip));refine Ok.cond rfl (fun hb => by simp at hb) (fun _ => ?_);(refine Ok.exit ?_;simp only [thenK_exit,blockK_exit,noGotoK_exit,thenK_normal,blockK_normal,noGotoK_normal,↓reduceIte,Nat.reduceEqDiff])
  (first|refine qE ?_|refine qD ?_);(simp only [go_sem,↓dP,↓reduceIte];with_reducible and_intros;all_goals first|apply qA|exact qC|skip)
  (refine Ok.ret ?_;(try dsimp only [thenK,blockK,noGotoK]);simp only [toList_mk,List.toList_toArray,retK_ret,retK_normal,resOK,resV,celV,rowV,frzAll,frzT,subV,subL,go_sem,↓dP,↓reduceIte])
  rw [hT]
  exact .refl _
end Go.Proofs.Leaf
namespace Go.Proofs.Leaf
open Go Go.RX Go.Proofs
set_option maxRecDepth 10000
variable [Glob]
def rowX (H:Nat) (i:Nat):List (Nat×Nat):=(List.range H).map (fun k => (i + 1,k + 1))
end Go.Proofs.Leaf
namespace Go.Proofs.Leaf
open Go Go.RX Go.Proofs
set_option maxRecDepth 10000
variable [Glob]
theorem c_lspan (a b:Int):Ctr Try.prog 78 [iS a,iS b] (spS (a,b)):=by
 (refine Ctr.mk (fn:=Try.f78) rfl rfl rfl rfl rfl Try.results78 ?_;intro _;dsimp only [args,List.toList_toArray])
 (first|refine qE ?_|refine qD ?_);(simp only [go_sem,↓dP,↓reduceIte];with_reducible and_intros;all_goals first|apply qA|exact qC|skip)
 (first|refine qE ?_|refine qD ?_);(simp only [go_sem,↓dP,↓reduceIte];with_reducible and_intros;all_goals first|apply qA|exact qC|skip)
 (refine Ok.ret ?_;(try dsimp only [thenK,blockK,noGotoK]);simp only [toList_mk,List.toList_toArray,retK_ret,retK_normal,resOK,resV,celV,rowV,frzAll,frzT,subV,subL,go_sem,↓dP,↓reduceIte])
 ((repeat' with_reducible apply And.intro)<;>(first | exact DEq.refl _ | refine DEq.int ?_ | refine DEq.bool ?_ | skip))
theorem c_lground (a b c d:Int):Ctr Try.prog 43 [iS a,iS b,iS c,iS d] (Ground.sv ⟨a,b,c,d⟩):=by
 (refine Ctr.mk (fn:=Try.f43) rfl rfl rfl rfl rfl Try.results43 ?_;intro _;dsimp only [args,List.toList_toArray])
 (first|refine qE ?_|refine qD ?_);(simp only [go_sem,↓dP,↓reduceIte];with_reducible and_intros;all_goals first|apply qA|exact qC|skip)
 (first|refine qE ?_|refine qD ?_);(simp only [go_sem,↓dP,↓reduceIte];with_reducible and_intros;all_goals first|apply qA|exact qC|skip)
 (refine AskI.ret (c_lspan a b) ?_;simp only [go_sem,↓dP,↓reduceIte];with_reducible and_intros;all_goals first|apply qA|exact qC|skip)
 (refine AskI.ret (c_lspan c d) ?_;simp only [go_sem,↓dP,↓reduceIte];with_reducible and_intros;all_goals first|apply qA|exact qC|skip)
 (refine Ok.ret ?_;(try dsimp only [thenK,blockK,noGotoK]);simp only [toList_mk,List.toList_toArray,retK_ret,retK_normal,resOK,resV,celV,rowV,frzAll,frzT,subV,subL,go_sem,↓dP,↓reduceIte])
 ((repeat' with_reducible apply And.intro)<;>(first | exact DEq.refl _ | refine DEq.int ?_ | refine DEq.bool ?_ | skip))
end Go.Proofs.Leaf
namespace Go.Proofs.Leaf
open Go Go.RX Go.Proofs
set_option maxRecDepth 10000
section
theorem equal_nil {t e:TypeId} (hu:Try.prog.underlying t = some (.slice e)) (v:Value) (hv:v = .slice none 0 0∨∃ p n c,v = .slice (some p) n c) (w:World) :
  ∃ b:Bool,(Op.equal t v (.slice none 0 0)).run Try.prog w = .ok b w/\(b = true->v = .slice none 0 0):=by
 obtain ⟨d,hd⟩:∃ d,Op.maxDepth = d + 1:=⟨9999,rfl⟩
 unfold Op.equal
 rw [hd]
 rcases hv with rfl | ⟨p,n,c,rfl⟩
 ·refine ⟨true,?_,fun _ => rfl⟩
  simp only [Op.equalIn,Sem.run_bind,run_underlying hu,Result.andThen_ok]
  rfl
 ·refine ⟨false,?_,fun h => by cases h⟩
  simp only [Op.equalIn,Sem.run_bind,run_underlying hu,Result.andThen_ok]
  rfl
theorem run_eq_nil {t e:TypeId} (hu:Try.prog.underlying t = some (.slice e)) (v:Value) (hv:v = .slice none 0 0∨∃ p n c,v = .slice (some p) n c) {a:Act} {x:Operand} (hx:a.eval x = v) {dst:Option Tmp} {ty u:TypeId} {ps:String} {af:Array Edge} (w:World) :
  ∃ b:Bool,(execOp a.eval { dst:=dst,op:=.binOp .eql t x (.const (.slice none 0 0)) u,type:=ty,pos:=ps,after:=af,guard:=none }).run Try.prog w = .ok (.value (.bool b)) w/\(b = true->v = .slice none 0 0):=by
 obtain ⟨b,h1,h2⟩:=equal_nil hu v hv w
 refine ⟨b,?_,h2⟩
 have e0:a.eval (.const (.slice none 0 0)) = .slice none 0 0:=rfl
 simp [execOp,hx,e0,binOp,eqGuard,h1]
theorem rep_slice {I:Nat->Prop} {w:World} {v:Value} {k n:Nat} {g:Nat->Nat->DV} (h:Rep I w v (.sl k n g)):(v = .slice none 0 0/\n = 0)∨∃ p n c,v = .slice (some p) n c:=by
 cases h with
 | sl0 => exact .inl ⟨rfl,rfl⟩
 | sl1 => exact .inr ⟨_,_,_,rfl⟩
 | sl => exact .inr ⟨_,_,_,rfl⟩
theorem o_Clone_int (l:List Int) (hl:l.length < 1000000):CtrF Try.prog 55 [.d (slD 1 intD l)] 3 1 l.length (fun i => intD (l.getD i default)):=by
 (refine CtrF.mk (fn:=Try.f55) (by decide) rfl rfl rfl rfl rfl rfl ?_;intro _;dsimp only [args,List.toList_toArray])
 (first|refine qE ?_|refine qD ?_);(simp only [go_sem,↓dP,↓reduceIte];with_reducible and_intros;all_goals first|apply qA|exact qC|skip)
 refine Ok.seq ?_
 ((first | refine RX.qT 1 ?h1 ?h2 ?h3 ?h4 ?_ | refine RX.qU 1 ?h1 ?h2 ?h3 ?h4 ?_);(case h1 => rfl);(case h2 => rfl);(case h3 => rfl);(case h4 => rfl);simp only [go_sem,↓dP,↓reduceIte];with_reducible and_intros;all_goals first|apply qA|exact qC|skip)
 intro Y a w hinv
 have hst:=St.of hinv rfl
 obtain ⟨I',β,τ,hx,hm⟩:=hst.val (t:=3) rfl (fun _ _ _ e => by cases e)
 have hr:=mt_d hm
 obtain ⟨b,hrun,hb⟩:=run_eq_nil Try.underlying32 (a.tmps.getD 3 undef) ((rep_slice hr).imp (fun q => q.1) (fun q => q)) (a:=a) (x:=.tmp 3) rfl (dst:=some 4) w
 have hn:b = true->l.length = 0:=fun e => by
  rcases rep_slice hr with q | ⟨p,n,c,q⟩
  ·exact q.2
  ·rw [hb e] at q;cases q
 refine tail_val (v:=.bool b) rfl (fun c e => by cases e) hrun ?_
 have hst2:=hst.putV (d:=4) (v:=.bool b) (V:=bS b) (by decide) (fun _ _ _ _ => .d .bool)
 refine tail_end ⟨_,?_,hst2⟩
 (try dsimp only [thenK,blockK,noGotoK])
 refine Ok.cond rfl ?_ ?_
 ·intro e
  (first|refine qE ?_|refine qD ?_);(simp only [go_sem,↓dP,↓reduceIte];with_reducible and_intros;all_goals first|apply qA|exact qC|skip)
  refine Ok.ret ?_
  exact .inl ⟨rfl,hn e⟩
 ·intro _
  (refine Ok.skip ?_;(try dsimp only [thenK,blockK,noGotoK]))
  ((first | refine RX.qT 0 ?h1 ?h2 ?h3 ?h4 ?_ | refine RX.qU 0 ?h1 ?h2 ?h3 ?h4 ?_);(case h1 => rfl);(case h2 => rfl);(case h3 => rfl);(case h4 => rfl);simp only [go_sem,↓dP,↓reduceIte];with_reducible and_intros;all_goals first|apply qA|exact qC|skip)
  intro Y2 a2 w2 hinv2
  have hst3:=St.of hinv2 rfl
  refine tail_val rfl (fun c e => by cases e) (by simp only [execOp,Array.map_empty,Sem.run_bind,run_buildSlice0 Try.underlying32 (i:=_) (by rfl) w2,Result.andThen_ok];rfl) ?_
  have hst4:=hst3.empty rfl (d:=5) (e:=3) (k:=1) (g:=fun _ _ => .nilI) (by decide) (by decide)
  (refine Ok.rest hst4 ?h1 ?h2 ?h3 ?_;(case h1 => rfl);(case h2 => rfl);(case h3 => rfl);simp only [go_sem,↓dP,↓reduceIte,bare];with_reducible and_intros;all_goals first|apply qA|exact qC|skip;(try dsimp only [thenK,blockK,noGotoK]))
  refine Ok.ret ?_
  refine .inr ⟨_,_,rfl,rfl,fun i j _ _ => ⟨.of_eq (by rw [if_neg (by omega),Nat.sub_zero]),?_⟩⟩
  rcases j with _ | j
  ·exact .int
  ·exact .nilI
theorem o_Clone_Piece (l:List Piece) (hl:l.length < 1000000):CtrF Try.prog 107 [.d (slD 4 pieD l)] 37 4 l.length (fun i => pieD (l.getD i default)):=by
 (refine CtrF.mk (fn:=Try.f107) (by decide) rfl rfl rfl rfl rfl rfl ?_;intro _;dsimp only [args,List.toList_toArray])
 (first|refine qE ?_|refine qD ?_);(simp only [go_sem,↓dP,↓reduceIte];with_reducible and_intros;all_goals first|apply qA|exact qC|skip)
 refine Ok.seq ?_
 ((first | refine RX.qT 1 ?h1 ?h2 ?h3 ?h4 ?_ | refine RX.qU 1 ?h1 ?h2 ?h3 ?h4 ?_);(case h1 => rfl);(case h2 => rfl);(case h3 => rfl);(case h4 => rfl);simp only [go_sem,↓dP,↓reduceIte];with_reducible and_intros;all_goals first|apply qA|exact qC|skip)
 intro Y a w hinv
 have hst:=St.of hinv rfl
 obtain ⟨I',β,τ,hx,hm⟩:=hst.val (t:=3) rfl (fun _ _ _ e => by cases e)
 have hr:=mt_d hm
 obtain ⟨b,hrun,hb⟩:=run_eq_nil Try.underlying29 (a.tmps.getD 3 undef) ((rep_slice hr).imp (fun q => q.1) (fun q => q)) (a:=a) (x:=.tmp 3) rfl (dst:=some 4) w
 have hn:b = true->l.length = 0:=fun e => by
  rcases rep_slice hr with q | ⟨p,n,c,q⟩
  ·exact q.2
  ·rw [hb e] at q;cases q
 refine tail_val (v:=.bool b) rfl (fun c e => by cases e) hrun ?_
 have hst2:=hst.putV (d:=4) (v:=.bool b) (V:=bS b) (by decide) (fun _ _ _ _ => .d .bool)
 refine tail_end ⟨_,?_,hst2⟩
 (try dsimp only [thenK,blockK,noGotoK])
 refine Ok.cond rfl ?_ ?_
 ·intro e
  (first|refine qE ?_|refine qD ?_);(simp only [go_sem,↓dP,↓reduceIte];with_reducible and_intros;all_goals first|apply qA|exact qC|skip)
  refine Ok.ret ?_
  exact .inl ⟨rfl,hn e⟩
 ·intro _
  (refine Ok.skip ?_;(try dsimp only [thenK,blockK,noGotoK]))
  ((first | refine RX.qT 0 ?h1 ?h2 ?h3 ?h4 ?_ | refine RX.qU 0 ?h1 ?h2 ?h3 ?h4 ?_);(case h1 => rfl);(case h2 => rfl);(case h3 => rfl);(case h4 => rfl);simp only [go_sem,↓dP,↓reduceIte];with_reducible and_intros;all_goals first|apply qA|exact qC|skip)
  intro Y2 a2 w2 hinv2
  have hst3:=St.of hinv2 rfl
  refine tail_val rfl (fun c e => by cases e) (by simp only [execOp,Array.map_empty,Sem.run_bind,run_buildSlice0 Try.underlying29 (i:=_) (by rfl) w2,Result.andThen_ok];rfl) ?_
  have hst4:=hst3.empty rfl (d:=5) (e:=37) (k:=4) (g:=fun _ _ => .nilI) (by decide) (by decide)
  (refine Ok.rest hst4 ?h1 ?h2 ?h3 ?_;(case h1 => rfl);(case h2 => rfl);(case h3 => rfl);simp only [go_sem,↓dP,↓reduceIte,bare];with_reducible and_intros;all_goals first|apply qA|exact qC|skip;(try dsimp only [thenK,blockK,noGotoK]))
  refine Ok.ret ?_
  refine .inr ⟨_,_,rfl,rfl,fun i j _ _ => ⟨.of_eq (by rw [if_neg (by omega),Nat.sub_zero]),?_⟩⟩
  rcases j with _ | _ | _ | _ | j
  ·exact .int
  ·exact .int
  ·exact .bool
  ·exact .int
  ·exact .nilI
end
variable [Glob]
theorem c_knife_fits (J:Job) (m:Nat) (hK:IsMemo J.ps m) (hJ:J.sized) (s:Nat) (hs:s < 1024):Ctr Try.prog 99 [knS J m,iS s] (bS (J.fit s)):=by
 have e1:((J.wide.toNat:Nat):Int) = J.wide:=by have:=hJ.w0;omega
 have e2:((J.high.toNat:Nat):Int) = J.high:=by have:=hJ.h0;omega
 have hc:Ctr Try.prog 108 [knS J m,.agg [iS J.wide,iS J.high,iS s]] (bS (J.fit s)):=by
  have:=c_knife_can J m hK hJ.s _ J.wide.toNat J.high.toNat s (Nat.le_refl _) (by have:=hJ.w1;omega) (by have:=hJ.h1;omega) hs
  simp only [reS,reX,e1,e2] at this
  exact this
 (refine Ctr.mk (fn:=Try.f99) rfl rfl rfl rfl rfl Try.results99 ?_;intro _;dsimp only [args,List.toList_toArray])
 (first|refine qE ?_|refine qD ?_);(simp only [go_sem,↓dP,↓reduceIte];with_reducible and_intros;all_goals first|apply qA|exact qC|skip)
 (first|refine qE ?_|refine qD ?_);(simp only [go_sem,↓dP,↓reduceIte];with_reducible and_intros;all_goals first|apply qA|exact qC|skip)
 (refine AskI.ret (hc) ?_;simp only [go_sem,↓dP,↓reduceIte];with_reducible and_intros;all_goals first|apply qA|exact qC|skip)
 (refine Ok.ret ?_;(try dsimp only [thenK,blockK,noGotoK]);simp only [toList_mk,List.toList_toArray,retK_ret,retK_normal,resOK,resV,celV,rowV,frzAll,frzT,subV,subL,go_sem,↓dP,↓reduceIte])
 exact .refl _
abbrev kn0 (J:Job):SV:=.agg [iS J.wide,iS J.high,iS J.book,iS J.spoilt,.d (slD 4 groD J.gs),.d (slD 4 pieD J.ps),.d (.mp 0 0 (fun _ _ => .nilI))]
theorem c_knifeOf0 (J:Job) (hl:J.ps.length < 1000000):Ctr Try.prog 97 [J.sv,.d .nils] (kn0 J):=by
 (refine Ctr.mk (fn:=Try.f97) rfl rfl rfl rfl rfl Try.results97 ?_;intro _;dsimp only [args,List.toList_toArray])
 (first|refine qE ?_|refine qD ?_);(simp only [go_sem,↓dP,↓reduceIte];with_reducible and_intros;all_goals first|apply qA|exact qC|skip)
 (first|refine qE ?_|refine qD ?_);(simp only [go_sem,↓dP,↓reduceIte];with_reducible and_intros;all_goals first|apply qA|exact qC|skip)
 (refine AskI.own (CtrF.own (o_Clone_Piece J.ps hl)) ?_;simp only [go_sem,↓dP,↓reduceIte];with_reducible and_intros;all_goals first|apply qA|exact qC|skip)
 (first|refine qE ?_|refine qD ?_);(simp only [go_sem,↓dP,↓reduceIte];with_reducible and_intros;all_goals first|apply qA|exact qC|skip)
 (refine Ok.ret ?_;(try dsimp only [thenK,blockK,noGotoK]);simp only [toList_mk,List.toList_toArray,retK_ret,retK_normal,resOK,resV,celV,rowV,frzAll,frzT,subV,subL,go_sem,↓dP,↓reduceIte])
 ((repeat' with_reducible apply And.intro)<;>(first | exact DEq.refl _ | refine DEq.int ?_ | refine DEq.bool ?_ | skip))
 exact DEq.sl rfl (fun i j hi _ => .of_eq (by rw [if_pos hi]))
end Go.Proofs.Leaf
namespace Go.Proofs.Leaf
open Go Go.RX Go.Proofs Go.RowKit Go.Shelf
set_option maxRecDepth 100000
def endV (n k:Nat):Value:=.agg #[.int .i64 n,.int .i64 k]
theorem keyedE:Maps.Keyed Try.prog 139:=Maps.Keyed.of_law (deep_law_laid laidOut (m:=2) (by omega) (of_decide_eq_true (by kernel_rfl)) (by kernel_rfl) (by kernel_rfl))
theorem keyOf_end {n k:Nat} (hn:n < 1024) (hk:k < 1024):∃ l,keyOf Try.prog 139 (endV n k) = some l:=by
 have h1:Try.prog.keyType 139 = true:=by kernel_rfl
 have h2:Try.prog.cellsOf 139 = 2:=by kernel_rfl
 have h4:Try.prog.cellsOf 3 = 1:=by kernel_rfl
 have h3:(endV n k).formed Try.prog 139 = true:=by simp [endV,Value.formed,Try.underlying139,h2]
 have wf:∀ n:Nat,n < 1024->(Lit.int .i64 (n:Int)).wf = true:=by
  intro n hn
  have h:=wrap64_wf (n:Int)
  rwa [IntWalk.wrap64_in _ (by omega)] at h
 have w1:=wf n hn
 have w2:=wf k hk
 obtain ⟨z,hz⟩:∃ z,Try.prog.types.size = z + 1:=⟨Try.prog.types.size - 1,by kernel_rfl⟩
 unfold keyOf
 rw [Try.underlying139]
 simp only [h1,h3,Bool.and_self,if_true,hz,Program.keyLits,Try.underlying139,h2,h4]
 simp [endV,Value.cells,Program.keyLits,Try.underlying3,h4,w1,w2]
theorem endV_inj {a b a' b':Nat} (h:endV a b = endV a' b'):a = a'/\b = b':=by
 simp only [endV,Value.agg.injEq,Array.mk.injEq,List.cons.injEq,Value.int.injEq,true_and,and_true] at h
 omega
def MemoE (f:Nat->Nat->Int) (W:World) (m:Nat):Prop:=∃ es clk,W.heap[m]? = some (.map es clk)/\∀ e∈es.toList,∃ n k:Nat,n < 1024/\k < 1024/\e.key = endV n k/\e.val = .int .i64 (f n k)
theorem MemoE.look {f:Nat->Nat->Int} {W:World} {m:Nat} (h:MemoE f W m) {n k:Nat} (hn:n < 1024) (hkk:k < 1024) :
  ∃ met:Bool,(Instr.lookup 93 (.map (some m)) (endV n k) true).run Try.prog W = .ok (.tuple #[.int .i64 (if met then f n k else 0),.bool met]) W:=by
 obtain ⟨es,clk,hm,hk⟩:=h
 obtain ⟨lx,hx⟩:=keyOf_end hn hkk
 have hes:∀ e∈es.toList,∃ l,keyOf Try.prog 139 e.key = some l:=by
  intro e he
  obtain ⟨a',b',q1,q2,q4,_⟩:=hk e he
  rw [q4];exact keyOf_end q1 q2
 have hz:(zeroValue 3).run Try.prog W = .ok (.int .i64 0) W:=by kernel_rfl
 rcases keyedE.find W hx es.toList hes with ⟨h1,h2⟩ | ⟨j,e0,h1,h2,h3⟩
 ·exact ⟨false,by simp [Instr.lookup,run_underlying Try.underlying93,MapKept.run_getObj_map hm,keyedE.check W _ hx,h1,hz,Result.andThen]⟩
 ·obtain ⟨a',b',_,_,q4,q5⟩:=hk e0 (List.mem_of_getElem? h2)
  rw [h3] at q4
  obtain ⟨rfl,rfl⟩:=endV_inj q4
  exact ⟨true,by simp [Instr.lookup,run_underlying Try.underlying93,MapKept.run_getObj_map hm,keyedE.check W _ hx,h1,q5,Result.andThen]⟩
theorem MemoE.update {f:Nat->Nat->Int} {W:World} {m:Nat} (h:MemoE f W m) {n k:Nat} (hn:n < 1024) (hkk:k < 1024) :
  ∃ o,(Instr.mapUpdate 93 (.map (some m)) (endV n k) (.int .i64 (f n k))).run Try.prog W = .ok () (W.putObj m o)/\MemoE f (W.putObj m o) m:=by
 obtain ⟨es,clk,hm,hk⟩:=h
 obtain ⟨lx,hx⟩:=keyOf_end hn hkk
 have hlt:m < W.heap.size:=(Array.getElem?_eq_some_iff.1 hm).1
 have hes:∀ e∈es.toList,∃ l,keyOf Try.prog 139 e.key = some l:=by
  intro e he
  obtain ⟨a',b',q1,q2,q4,_⟩:=hk e he
  rw [q4];exact keyOf_end q1 q2
 have hset:∀ o,(setObj m o).run Try.prog W = .ok () (W.putObj m o):=fun o => MapKept.run_setObj_map (P:=Try.prog) o hm
 rcases keyedE.find W hx es.toList hes with ⟨h1,h2⟩ | ⟨j,e0,h1,h2,h3⟩
 ·refine ⟨.map (es.push ⟨endV n k,.int .i64 (f n k),clk⟩) (clk + 1),?_,⟨_,_,World.putObj_heap_same hlt,?_⟩⟩
  ·simp [Instr.mapUpdate,run_underlying Try.underlying93,MapKept.run_getObj_map hm,keyedE.check W false hx,h1,hset,Result.andThen]
  ·intro e he
   rw [Array.toList_push,List.mem_append] at he
   rcases he with he | he
   ·exact hk e he
   ·simp at he;subst he
    exact ⟨n,k,hn,hkk,rfl,rfl⟩
 ·have h2':es[j]? = some e0:=by simpa using h2
  have hst:=keyedE.stays W hx
  refine ⟨.map (es.modify j fun e => { e with key:=endV n k,val:=.int .i64 (f n k) }) clk,?_,⟨_,_,World.putObj_heap_same hlt,?_⟩⟩
  ·simp [Instr.mapUpdate,run_underlying Try.underlying93,MapKept.run_getObj_map hm,keyedE.check W false hx,h1,h2',h3,hst,hset,Result.andThen]
  ·intro e he
   obtain ⟨i,hi⟩:=List.getElem?_of_mem he
   rw [Array.getElem?_toList,Array.getElem?_modify] at hi
   split at hi
   ·rw [Option.map_eq_some_iff] at hi
    obtain ⟨e',_,rfl⟩:=hi
    exact ⟨n,k,hn,hkk,rfl,rfl⟩
   ·exact hk e (List.mem_of_getElem? (by rw [Array.getElem?_toList];exact hi))
abbrev memoE (f:Nat->Nat->Int) (m:Nat):Glob where
 G:=fun w => MemoE f w m
 M:=some m
 F:=m + 1
 lo:=fun _ ⟨_,_,h,_⟩ => (Array.getElem?_eq_some_iff.1 h).1
 st:=fun _ _ ⟨es,clk,h,k⟩ hb => ⟨es,clk,(hb.block m (by omega)).trans h,k⟩
 mF:=fun m' e => by cases e;omega
variable [Glob]
structure IsMemoE (f:Nat->Nat->Int) (m:Nat):Prop where
 G:∀ w,Glob.G w->MemoE f w m
 G':∀ w w',Glob.G w->MemoE f w' m->w'.heap.size = w.heap.size->(∀ k,k ≠ m->w'.heap[k]? = w.heap[k]?)->Glob.G w'
 M:Glob.M = some m
theorem St.endV [Rnd] {N:Nat} {σ:Sy} {I:Nat->Prop} {w0 w:World} {a:Act} {t x y:Nat} (hs:St σ I N w0 a w) (hl:lk σ.env t = .agg [iS x,iS y]):a.tmps.getD t undef = Leaf.endV x y:=by
 obtain ⟨_,_,_,_,h⟩:=hs.val hl (fun _ _ _ e => by cases e)
 exact mt_ints (l:=[(x:Int),(y:Int)]) h
abbrev wkX (B:Bk) (plan:List Int) (m:Nat):List SV:=[iS B.ap,ilS B.bs,.d (slD 5 stkD B.ss),ilS plan,.d (.raw (.map (some m))),iS (-1),iS 0]
abbrev wkC (B:Bk) (plan:List Int) (m:Nat):BC:={ frz:=false,xs:=wkX B plan m }
abbrev wkS (B:Bk) (plan:List Int) (m:Nat):SV:=.agg (wkX B plan m)
abbrev endF (B:Bk) (plan:List Int) (n k:Nat):Int:=endB B plan (decide (k = 1)) n
theorem foldl_max_le {l:List Int}:∀ {a c:Int},a<=c->(∀ x∈l,x<=c)->l.foldl max a<=c:=by
 induction l with
 | nil => intro a c h _;exact h
 | cons x l ih => intro a c h hl;exact ih (by have:=hl x (List.mem_cons_self ..);omega) (fun y hy => hl y (List.mem_cons_of_mem _ hy))
theorem foldl_max_ge {l:List Int}:∀ {a:Int},a<=l.foldl max a:=by
 induction l with
 | nil => intro a;exact Int.le_refl _
 | cons x l ih => intro a;have:=ih (a:=max a x);simp only [List.foldl_cons];omega
theorem lastB_snoc (l:List Int) (x:Int):lastB (l ++ [x]) = max (lastB l) x:=by simp [lastB,List.foldl_append]
theorem c_last (l:List Int) (hl:l.length < 1000000):Ctr Try.prog 68 [ilS l] (iS (lastB l)):=by
 (refine Ctr.mk (fn:=Try.f68) rfl rfl rfl rfl rfl Try.results68 ?_;intro _;dsimp only [args,List.toList_toArray])
 (first|refine qE ?_|refine qD ?_);(simp only [go_sem,↓dP,↓reduceIte];with_reducible and_intros;all_goals first|apply qA|exact qC|skip)
 (first|refine qE ?_|refine qD ?_);(simp only [go_sem,↓dP,↓reduceIte];with_reducible and_intros;all_goals first|apply qA|exact qC|skip)
 refine Ok.seq ?_
 (first|refine qE ?_|refine qD ?_);(simp only [go_sem,↓dP,↓reduceIte];with_reducible and_intros;all_goals first|apply qA|exact qC|skip)
 refine Ok.block ?_
 refine Ok.count l.length (fun i => ⟨[(3,iS (lastB (l.take i))),(6,ilS l),(7,iS l.length),(8,iS i)],[],[]⟩) (fun _ => True) ⟨trivial,?_⟩ ?_ ?_
 ·(refine Sub.of ([]) ([]) ?_ ?_ ?_ rfl rfl<;>simp only [subB,subB1,subT,subT1,newT,subE,subV,subL,go_sem,↓dP,↓reduceIte]<;>(try (repeat' with_reducible apply And.intro))<;>(try first | exact DEq.refl _ | refine DEq.int ?_ | refine DEq.bool ?_ | omega))
 ·intro i hi _
  have e:lastB (l.take (i + 1)) = max (lastB (l.take i)) (l.getD i default):=by rw [getD_take hi,lastB_snoc]
  ((first|refine qE ?_|refine qD ?_);(simp only [go_sem,↓dP,↓reduceIte];with_reducible and_intros;all_goals first|apply qA|exact qC|skip));refine Ok.seq ?_;refine Ok.cond rfl (fun _ => ?_) (fun hb => by simp at hb;omega);(refine Ok.skip ?_;(try dsimp only [thenK,blockK,noGotoK]));refine Ok.seq ?_;refine Ok.block ?_
  (first|refine qE ?_|refine qD ?_);(simp only [go_sem,↓dP,↓reduceIte];with_reducible and_intros;all_goals first|apply qA|exact qC|skip)
  (first|refine qE ?_|refine qD ?_);(simp only [go_sem,↓dP,↓reduceIte];with_reducible and_intros;all_goals first|apply qA|exact qC|skip)
  (try dsimp only [thenK,blockK,noGotoK])
  (first|refine qE ?_|refine qD ?_);(simp only [go_sem,↓dP,↓reduceIte];with_reducible and_intros;all_goals first|apply qA|exact qC|skip)
  (try dsimp only [thenK,blockK,noGotoK])
  refine ⟨trivial,?_⟩
  (refine Sub.of ([]) ([]) ?_ ?_ ?_ rfl rfl<;>simp only [subB,subB1,subT,subT1,newT,subE,subV,subL,go_sem,↓dP,↓reduceIte]<;>(try (repeat' with_reducible apply And.intro))<;>(try first | exact DEq.refl _ | refine DEq.int ?_ | refine DEq.bool ?_ | omega))
  rw [e]
 ·intro _
  ((first|refine qE ?_|refine qD ?_);(simp only [go_sem,↓dP,↓reduceIte];with_reducible and_intros;all_goals first|apply qA|exact qC|skip));refine Ok.seq ?_;refine Ok.cond rfl (fun hb => by simp at hb) (fun _ => ?_);(refine Ok.exit ?_;simp only [thenK_exit,blockK_exit,noGotoK_exit,thenK_normal,blockK_normal,noGotoK_normal,↓reduceIte,Nat.reduceEqDiff])
  (first|refine qE ?_|refine qD ?_);(simp only [go_sem,↓dP,↓reduceIte];with_reducible and_intros;all_goals first|apply qA|exact qC|skip)
  (refine Ok.ret ?_;(try dsimp only [thenK,blockK,noGotoK]);simp only [toList_mk,List.toList_toArray,retK_ret,retK_normal,resOK,resV,celV,rowV,frzAll,frzT,subV,subL,go_sem,↓dP,↓reduceIte])
  rw [List.take_length]
  exact .refl _
theorem c_fewest (s:Stk):Ctr Try.prog 83 [s.sv] (iS s.lo):=by
 (refine Ctr.mk (fn:=Try.f83) rfl rfl rfl rfl rfl Try.results83 ?_;intro _;dsimp only [args,List.toList_toArray])
 (first|refine qE ?_|refine qD ?_);(simp only [go_sem,↓dP,↓reduceIte];with_reducible and_intros;all_goals first|apply qA|exact qC|skip)
 (first|refine qE ?_|refine qD ?_);(simp only [go_sem,↓dP,↓reduceIte];with_reducible and_intros;all_goals first|apply qA|exact qC|skip)
 (refine Ok.ret ?_;(try dsimp only [thenK,blockK,noGotoK]);simp only [toList_mk,List.toList_toArray,retK_ret,retK_normal,resOK,resV,celV,rowV,frzAll,frzT,subV,subL,go_sem,↓dP,↓reduceIte])
 exact .refl _
theorem c_most (s:Stk):Ctr Try.prog 84 [s.sv] (iS s.hi):=by
 (refine Ctr.mk (fn:=Try.f84) rfl rfl rfl rfl rfl Try.results84 ?_;intro _;dsimp only [args,List.toList_toArray])
 (first|refine qE ?_|refine qD ?_);(simp only [go_sem,↓dP,↓reduceIte];with_reducible and_intros;all_goals first|apply qA|exact qC|skip)
 (first|refine qE ?_|refine qD ?_);(simp only [go_sem,↓dP,↓reduceIte];with_reducible and_intros;all_goals first|apply qA|exact qC|skip)
 (refine Ok.ret ?_;(try dsimp only [thenK,blockK,noGotoK]);simp only [toList_mk,List.toList_toArray,retK_ret,retK_normal,resOK,resV,celV,rowV,frzAll,frzT,subV,subL,go_sem,↓dP,↓reduceIte])
 exact .refl _
theorem rev_find {p:Nat->Bool} {j:Nat} (he:p j = true):∀ {n:Nat},j < n->(∀ k,j < k->k < n->p k = false)->(List.range n).reverse.find? p = some j
 | n + 1,hj,hno => by
  rw [List.range_succ,List.reverse_append,List.reverse_singleton,List.singleton_append,List.find?_cons]
  by_cases e:j = n
  ·subst e;rw [he]
  ·rw [hno n (by omega) (by omega)]
   exact rev_find he (by omega) (fun k h1 h2 => hno k h1 (by omega))
theorem bef_lt {plan:List Int} {n j:Nat} (h:befB plan n = some j):j < n:=by
 have:=List.mem_of_find?_eq_some h
 simpa using this
theorem c_before (B:Bk) (plan:List Int) (m:Nat) (hp:plan.length < 1000) (n:Nat) (hn:n < plan.length) :
  Ctr Try.prog 109 [wkS B plan m,iS n] (.tup [iS (((befB plan n).getD 0:Nat):Int),bS (befB plan n).isSome]):=by
 (refine Ctr.mk (fn:=Try.f109) rfl rfl rfl rfl rfl Try.results109 ?_;intro _;dsimp only [args,List.toList_toArray])
 (first|refine qE ?_|refine qD ?_);(simp only [go_sem,↓dP,↓reduceIte];with_reducible and_intros;all_goals first|apply qA|exact qC|skip)
 refine Ok.seq ?_
 (first|refine qE ?_|refine qD ?_);(simp only [go_sem,↓dP,↓reduceIte];with_reducible and_intros;all_goals first|apply qA|exact qC|skip)
 refine Ok.block ?_
 refine Ok.loop (X:={ i:Nat // i<=n/\∀ k,i<=k->k < n->(plan.getD k 0 == plan.getD n 0) = false }) (fun x => ⟨[(1,iS n),(2,.p 0 0),(6,iS ((x.1:Int) - 1))],[wkC B plan m],[]⟩) (fun x => x.1) ⟨n,Nat.le_refl _,fun k h1 h2 => by omega⟩ ?_ ?_
 ·(refine Sub.of ([0]) ([]) ?_ ?_ ?_ rfl rfl<;>simp only [subB,subB1,subT,subT1,newT,subE,subV,subL,go_sem,↓dP,↓reduceIte]<;>(try (repeat' with_reducible apply And.intro))<;>(try first | exact DEq.refl _ | refine DEq.int ?_ | refine DEq.bool ?_ | omega))
 ·rintro ⟨i,hi,hno⟩
  by_cases h0:i = 0
  ·subst h0
   have e:befB plan n = none:=by
    unfold befB
    rw [List.find?_eq_none]
    intro k hk
    rw [hno k (Nat.zero_le _) (by simpa using hk)];simp
   refine Ok.seq ?_;((first|refine qE ?_|refine qD ?_);(simp only [go_sem,↓dP,↓reduceIte];with_reducible and_intros;all_goals first|apply qA|exact qC|skip));refine Ok.cond rfl (fun hb => by simp at hb) (fun _ => ?_);(refine Ok.exit ?_;simp only [thenK_exit,blockK_exit,noGotoK_exit,thenK_normal,blockK_normal,noGotoK_normal,↓reduceIte,Nat.reduceEqDiff])
   (try dsimp only [thenK,blockK,noGotoK])
   (first|refine qE ?_|refine qD ?_);(simp only [go_sem,↓dP,↓reduceIte];with_reducible and_intros;all_goals first|apply qA|exact qC|skip)
   (refine Ok.ret ?_;(try dsimp only [thenK,blockK,noGotoK]);simp only [toList_mk,List.toList_toArray,retK_ret,retK_normal,resOK,resV,celV,rowV,frzAll,frzT,subV,subL,go_sem,↓dP,↓reduceIte])
   ((repeat' with_reducible apply And.intro)<;>(first | exact DEq.refl _ | refine DEq.int ?_ | refine DEq.bool ?_ | skip))
   all_goals rw [e];rfl
  ·obtain ⟨i,rfl⟩:∃ j,i = j + 1:=⟨i - 1,by omega⟩
   have e1:((i + 1:Nat):Int) - 1 = (i:Int):=by omega
   rw [e1]
   refine Ok.seq ?_
   (first|refine qE ?_|refine qD ?_);(simp only [go_sem,↓dP,↓reduceIte];with_reducible and_intros;all_goals first|apply qA|exact qC|skip)
   refine Ok.cond rfl (fun _ => ?_) (fun hb => by simp at hb)
   (refine Ok.skip ?_;(try dsimp only [thenK,blockK,noGotoK]))
   refine Ok.seq ?_
   refine Ok.block ?_
   (first|refine qE ?_|refine qD ?_);(simp only [go_sem,↓dP,↓reduceIte];with_reducible and_intros;all_goals first|apply qA|exact qC|skip)
   refine Ok.cond rfl ?_ ?_
   ·intro hb
    have e:befB plan n = some i:=rev_find (p:=fun i => plan.getD i 0 == plan.getD n 0) hb hi (fun k h1 h2 => hno k h1 h2)
    (first|refine qE ?_|refine qD ?_);(simp only [go_sem,↓dP,↓reduceIte];with_reducible and_intros;all_goals first|apply qA|exact qC|skip)
    (refine Ok.ret ?_;(try dsimp only [thenK,blockK,noGotoK]);simp only [toList_mk,List.toList_toArray,retK_ret,retK_normal,resOK,resV,celV,rowV,frzAll,frzT,subV,subL,go_sem,↓dP,↓reduceIte])
    ((repeat' with_reducible apply And.intro)<;>(first | exact DEq.refl _ | refine DEq.int ?_ | refine DEq.bool ?_ | skip))
    all_goals rw [e];rfl
   ·intro hb
    (refine Ok.skip ?_;(try dsimp only [thenK,blockK,noGotoK]))
    (try dsimp only [thenK,blockK,noGotoK])
    (first|refine qE ?_|refine qD ?_);(simp only [go_sem,↓dP,↓reduceIte];with_reducible and_intros;all_goals first|apply qA|exact qC|skip)
    (try dsimp only [thenK,blockK,noGotoK])
    refine ⟨⟨i,by omega,fun k h1 h2 => ?_⟩,?_,by simp⟩
    ·by_cases q:k = i
     ·subst q;exact hb
     ·exact hno k (by omega) h2
    ·(refine Sub.of ([0]) ([]) ?_ ?_ ?_ rfl rfl<;>simp only [subB,subB1,subT,subT1,newT,subE,subV,subL,go_sem,↓dP,↓reduceIte]<;>(try (repeat' with_reducible apply And.intro))<;>(try first | exact DEq.refl _ | refine DEq.int ?_ | refine DEq.bool ?_ | omega))
theorem c_free (B:Bk) (plan:List Int) (m:Nat) (hp:plan.length < 1000) (n:Nat) (hn:n < plan.length) (k:Nat)
  (he:∀ j,j < n->Ctr Try.prog 67 [wkS B plan m,iS j,iS k] (iS (endF B plan j k))) :
  Ctr Try.prog 100 [wkS B plan m,iS n,iS k] (iS (match befB plan n with | some j => endF B plan j k | none => 0)):=by
 have hb:=c_before B plan m hp n hn
 cases hq:befB plan n with
 | none =>
  rw [hq] at hb
  (refine Ctr.mk (fn:=Try.f100) rfl rfl rfl rfl rfl Try.results100 ?_;intro _;dsimp only [args,List.toList_toArray])
  (first|refine qE ?_|refine qD ?_);(simp only [go_sem,↓dP,↓reduceIte];with_reducible and_intros;all_goals first|apply qA|exact qC|skip)
  refine Ok.seq ?_
  (first|refine qE ?_|refine qD ?_);(simp only [go_sem,↓dP,↓reduceIte];with_reducible and_intros;all_goals first|apply qA|exact qC|skip)
  (refine AskI.ret (hb) ?_;simp only [go_sem,↓dP,↓reduceIte];with_reducible and_intros;all_goals first|apply qA|exact qC|skip)
  refine Ok.seq ?_
  (first|refine qE ?_|refine qD ?_);(simp only [go_sem,↓dP,↓reduceIte];with_reducible and_intros;all_goals first|apply qA|exact qC|skip)
  refine Ok.cond (b:=false) (by first | rfl | (simp only [go_sem,↓dP,↓reduceIte];rfl)) (fun hb => by cases hb) (fun _ => ?_)
  (refine Ok.skip ?_;(try dsimp only [thenK,blockK,noGotoK]))
  (first|refine qE ?_|refine qD ?_);(simp only [go_sem,↓dP,↓reduceIte];with_reducible and_intros;all_goals first|apply qA|exact qC|skip)
  (refine Ok.ret ?_;(try dsimp only [thenK,blockK,noGotoK]);simp only [toList_mk,List.toList_toArray,retK_ret,retK_normal,resOK,resV,celV,rowV,frzAll,frzT,subV,subL,go_sem,↓dP,↓reduceIte])
  exact .refl _
 | some j =>
  rw [hq] at hb
  (refine Ctr.mk (fn:=Try.f100) rfl rfl rfl rfl rfl Try.results100 ?_;intro _;dsimp only [args,List.toList_toArray])
  (first|refine qE ?_|refine qD ?_);(simp only [go_sem,↓dP,↓reduceIte];with_reducible and_intros;all_goals first|apply qA|exact qC|skip)
  refine Ok.seq ?_
  (first|refine qE ?_|refine qD ?_);(simp only [go_sem,↓dP,↓reduceIte];with_reducible and_intros;all_goals first|apply qA|exact qC|skip)
  (refine AskI.ret (hb) ?_;simp only [go_sem,↓dP,↓reduceIte];with_reducible and_intros;all_goals first|apply qA|exact qC|skip)
  refine Ok.seq ?_
  (first|refine qE ?_|refine qD ?_);(simp only [go_sem,↓dP,↓reduceIte];with_reducible and_intros;all_goals first|apply qA|exact qC|skip)
  refine Ok.cond (b:=true) (by first | rfl | (simp only [go_sem,↓dP,↓reduceIte];rfl)) (fun _ => ?_) (fun hb => by cases hb)
  (first|refine qE ?_|refine qD ?_);(simp only [go_sem,↓dP,↓reduceIte];with_reducible and_intros;all_goals first|apply qA|exact qC|skip)
  (refine AskI.ret (he j (bef_lt hq)) ?_;simp only [go_sem,↓dP,↓reduceIte];with_reducible and_intros;all_goals first|apply qA|exact qC|skip)
  (refine Ok.ret ?_;(try dsimp only [thenK,blockK,noGotoK]);simp only [toList_mk,List.toList_toArray,retK_ret,retK_normal,resOK,resV,celV,rowV,frzAll,frzT,subV,subL,go_sem,↓dP,↓reduceIte])
  exact .refl _
end Go.Proofs.Leaf
namespace Go.Proofs.Leaf
open Go Go.RX Go.Proofs Go.RowKit
set_option maxRecDepth 100000
theorem rep_int {I:Nat->Prop} {w:World} {v:Value} {n:Int} (h:Rep I w v (iD n)):v = .int .i64 n:=by cases h;rfl
theorem run_single (x:Int) (w:World):(Instr.buildSlice 32 1 #[(0,.int .i64 x)]).run Try.prog w = .ok (.slice (some ⟨w.heap.size,0,none⟩) 1 1) (w.alloc (.cells #[.int .i64 x] 3)):=by
 obtain ⟨ie,hie,hz,hs⟩:∃ ie,Try.prog.info? 3 = some ie/\ie.zero = some (.int .i64 0)/\ie.size = 1:=⟨_,rfl,by kernel_rfl,by kernel_rfl⟩
 exact run_buildSlice w _ _ 1 _ _ ie _ Try.underlying32 hie hz (by rw [hs];decide) (by rw [hs];decide) (by rw [hs];kernel_rfl)
variable [Glob]
theorem St.single [Rnd] {N:Nat} {σ:Sy} {I0:Nat->Prop} {w0 w:World} {a:Act} (hs:St σ I0 N w0 a w) (htk:σ.tk = []) {d:Nat} {x:Int} (hd:d < N) (hfr:∀ p∈Dfr.fr,p.1 ≠ d:=by exact fun p hp => by cases hp) :
  St { env:=(d,.tk 0) :: σ.env,bx:=σ.bx,tk:=[ownD 3 1 intD [x]] } I0 N w0 (a.put (some d) (.slice (some ⟨w.heap.size,0,none⟩) 1 1)) (w.alloc (.cells #[.int .i64 x] 3)):=by
 intro Y
 obtain ⟨I,β,τ,h⟩:=hs Y
 refine ⟨I,β,upd τ 0 (some (.slice (some ⟨w.heap.size,0,none⟩) 1 1)),?_⟩
 have hB:Below w.heap.size w (w.alloc (.cells #[.int .i64 x] 3)):=(Below.refl _ w).alloc (Nat.le_refl _) _
 have hg:w.grownBy (w.alloc (.cells #[.int .i64 x] 3)) none:=⟨rfl,rfl,rfl,by simp,fun b hb _ => hB.block b hb⟩
 have hne:(w.alloc (.cells #[.int .i64 x] 3)).heap[w.heap.size]? = some (.cells #[.int .i64 x] 3):=World.alloc_heap_new w _
 have:=h.row (t:=none) (m:=some 0) (m0:=0) (row:=none) (g:=fun a => intD ([x].getD a default)) (e:=3) (k:=1) (n:=1) (K':=nth [ownD 3 1 intD [x]]) (dst:=some d) (V:=.tk 0) (v':=.slice (some ⟨w.heap.size,0,none⟩) 1 1) (r:=.slice (some ⟨w.heap.size,0,none⟩) 1 1) hg (fun b hb => by cases hb) rfl (.inl (by rw [htk];rfl)) (by decide) (xs:=[.int .i64 x])
  ⟨by simp,.inr ⟨w.heap.size,1,#[.int .i64 x],rfl,h.bel.size,hne,Nat.le_refl _,by simp [maxLen],by simp,by simp⟩⟩ (fun u hu => by simp at hu;subst hu;rfl) (fun i j hi hj => by
   obtain rfl:i = 0:=by omega
   obtain rfl:j = 0:=by omega
   exact ⟨_,rfl,.int⟩) (fun b hb => by simp [Value.ownBlock] at hb;exact .inr (by omega)) (fun e => by cases e)
  (fun d' e => by cases e;exact ⟨hd,hfr⟩) (.tk (upd_same _ _ _) rfl) rfl (fun t0 ht0 => by cases ht0) (fun x hx _ => by
   rw [htk]
   cases x with
   | zero => exact absurd rfl hx
   | succ x => rfl)
 rwa [upd_lk] at this
def freB (B:Bk) (plan:List Int) (k n:Nat):Int:=match befB plan n with | some j => endF B plan j k | none => 0
def begL (B:Bk) (plan:List Int) (k n:Nat):List Int:=freB B plan k n :: (B.ss.getD n default).nd.map (fun x => endF B plan x.toNat k)
theorem end_step (B:Bk) (plan:List Int) (k n:Nat) (h:∀ x∈(B.ss.getD n default).nd,0<=x/\x<=(n:Int) - 1) :
  endF B plan n k = lastB (begL B plan k n) + (if k = 1 then (B.ss.getD n default).hi else (B.ss.getD n default).lo):=by
 have e:endF B plan n k = stepE B plan (decide (k = 1)) (endsB B plan (decide (k = 1)) n) n:=by
  show (endsB B plan _ (n + 1)).getD n 0 = _
  rw [endsB,List.getD_eq_getElem?_getD,List.getElem?_append_right (by rw [endsB_len];exact Nat.le_refl _),endsB_len,Nat.sub_self];rfl
 rw [e]
 have e2:(B.ss.getD n default).nd.map (fun i => (endsB B plan (decide (k = 1)) n).getD i.toNat 0) = (B.ss.getD n default).nd.map (fun x => endF B plan x.toNat k):=by
  refine List.map_congr_left (fun x hx => ?_)
  have:=h x hx
  exact endsB_at B plan _ (by omega)
 unfold stepE begL freB
 rw [e2]
 cases hq:befB plan n with
 | none => simp
 | some j =>
  dsimp only
  rw [endsB_at B plan _ (bef_lt hq)]
  simp
def begP (B:Bk) (plan:List Int) (k n:Nat) (nd:List Int) (i:Nat):List Int:=freB B plan k n :: (nd.take i).map (fun x => endF B plan x.toNat k)
theorem begP_len {B:Bk} {plan:List Int} {k n:Nat} {nd:List Int} {i:Nat} (hi:i<=nd.length):(begP B plan k n nd i).length = i + 1:=by simp [begP];omega
theorem begP_succ {B:Bk} {plan:List Int} {k n:Nat} {nd:List Int} {i:Nat} (hi:i < nd.length):begP B plan k n nd (i + 1) = begP B plan k n nd i ++ [endF B plan (nd.getD i default).toNat k]:=by
 unfold begP;rw [getD_take hi];simp
theorem c_begin (B : Bk) (plan : List Int) (m : Nat) (hB : B.ok) (hp : plan.length = B.ss.length) (n : Nat) (hn : n < B.ss.length) (k : Nat) (hk : k < 2)
    (he : ∀ j, j < n → Ctr Try.prog 67 [wkS B plan m, iS j, iS k] (iS (endF B plan j k))) :
    Ctr Try.prog 85 [wkS B plan m, iS n, iS k] (iS (lastB (begL B plan k n))) := by
  have hs6 := hB.s6
  have hf : Ctr Try.prog 100 [wkS B plan m, iS n, iS k] (iS (freB B plan k n)) := c_free B plan m (by omega) n (by omega) k he
  have hst := hB.st n hn
  obtain ⟨s, hs⟩ : ∃ s, B.ss.getD n default = s := ⟨_, rfl⟩
  have hbl : begL B plan k n = freB B plan k n :: s.nd.map (fun x => endF B plan x.toNat k) := by rw [← hs]; rfl
  rw [hbl]
  rw [hs] at hst
  have hnl := hst.nl
  (refine Ctr.mk (fn := Try.f85) rfl rfl rfl rfl rfl Try.results85 ?_; intro _; dsimp only [args, List.toList_toArray])
  (first|refine qE ?_|refine qD ?_);(simp only [go_sem,↓dP,↓reduceIte];with_reducible and_intros;all_goals first|apply qA|exact qC|skip)
  ((first | refine RX.qT 4 ?h1 ?h2 ?h3 ?h4 ?_ | refine RX.qU 4 ?h1 ?h2 ?h3 ?h4 ?_); (case h1 => rfl); (case h2 => rfl); (case h3 => rfl); (case h4 => rfl); simp only [go_sem,↓dP,↓reduceIte];with_reducible and_intros;all_goals first|apply qA|exact qC|skip)
  (refine AskI.ret (hf) ?_; simp only [go_sem,↓dP,↓reduceIte];with_reducible and_intros;all_goals first|apply qA|exact qC|skip)
  intro Y a w hinv
  have hst1 := St.of hinv rfl
  have e13 : a.eval (.tmp 13) = .int .i64 (freB B plan k n) := by
    have := mt_d (hst1.val (t := 13) rfl (fun _ _ _ e => by cases e)).choose_spec.choose_spec.choose_spec.2
    exact rep_int this
  refine tail_val (v := .slice (some ⟨w.heap.size, 0, none⟩) 1 1) (w' := w.alloc (.cells #[.int .i64 (freB B plan k n)] 3)) rfl (fun c e => by cases e) (by
    have ea : (#[((0 : Nat), Operand.tmp 13)].map fun x => (x.1, a.eval x.2)) = #[(0, .int .i64 (freB B plan k n))] := by simp [e13]
    simp only [execOp, Sem.run_bind, ea, run_single, Result.andThen_ok]; rfl) ?_
  have hst2 := St.single hst1 rfl (d := 14) (x := freB B plan k n) (by decide)
  (refine Ok.rest hst2 ?h1 ?h2 ?h3 ?_; (case h1 => rfl); (case h2 => rfl); (case h3 => rfl); simp only [go_sem,↓dP,↓reduceIte, bare]; with_reducible and_intros;all_goals first|apply qA|exact qC|skip; (try dsimp only [thenK, blockK, noGotoK]))
  refine Ok.seq ?_
  (first|refine qE ?_|refine qD ?_);(simp only [go_sem,↓dP,↓reduceIte];with_reducible and_intros;all_goals first|apply qA|exact qC|skip)
  rw [hs]
  refine Ok.block ?_
  refine Ok.count s.nd.length (fun i => ⟨[(1, iS n), (2, iS k), (3, .p 0 0), (7, .tk 0), (21, ilS s.nd), (22, iS s.nd.length), (23, iS i)], [wkC B plan m], [ownD 3 1 intD (begP B plan k n s.nd i)]⟩) (fun _ => True) ⟨trivial, ?_⟩ ?_ ?_
  · (refine Sub.of ([0]) ([some 0]) ?_ ?_ ?_ rfl rfl <;> simp only [subB, subB1, subT, subT1, newT, subE, subV, subL, go_sem,↓dP,↓reduceIte] <;> (try (repeat' with_reducible apply And.intro)) <;> (try first | exact DEq.refl _ | refine DEq.int ?_ | refine DEq.bool ?_ | omega))
    · rfl
    · exact fun _ _ _ _ => .refl _
  · intro i hi _
    have h0 := hst.n0 i hi
    have ex : ((s.nd.getD i default).toNat : Int) = s.nd.getD i default := by omega
    have hc := he (s.nd.getD i default).toNat (by omega)
    rw [ex] at hc
    have hlen := begP_len (B := B) (plan := plan) (k := k) (n := n) (Nat.le_of_lt hi)
    have hlen2 := begP_len (B := B) (plan := plan) (k := k) (n := n) (nd := s.nd) (i := i + 1) hi
    have hsn := begP_succ (B := B) (plan := plan) (k := k) (n := n) hi
    ((first|refine qE ?_|refine qD ?_);(simp only [go_sem,↓dP,↓reduceIte];with_reducible and_intros;all_goals first|apply qA|exact qC|skip)); refine Ok.seq ?_; refine Ok.cond rfl (fun _ => ?_) (fun hb => by simp at hb; omega); (refine Ok.skip ?_; (try dsimp only [thenK, blockK, noGotoK])); refine Ok.seq ?_; refine Ok.block ?_
    (first|refine qE ?_|refine qD ?_);(simp only [go_sem,↓dP,↓reduceIte];with_reducible and_intros;all_goals first|apply qA|exact qC|skip)
    (first|refine qE ?_|refine qD ?_);(simp only [go_sem,↓dP,↓reduceIte];with_reducible and_intros;all_goals first|apply qA|exact qC|skip)
    (refine AskI.ret (hc) ?_; simp only [go_sem,↓dP,↓reduceIte];with_reducible and_intros;all_goals first|apply qA|exact qC|skip)
    (try dsimp only [thenK, blockK, noGotoK])
    (first|refine qE ?_|refine qD ?_);(simp only [go_sem,↓dP,↓reduceIte];with_reducible and_intros;all_goals first|apply qA|exact qC|skip)
    (try dsimp only [thenK, blockK, noGotoK])
    refine ⟨trivial, ?_⟩
    (refine Sub.of ([0]) ([some 1]) ?_ ?_ ?_ rfl rfl <;> simp only [subB, subB1, subT, subT1, newT, subE, subV, subL, go_sem,↓dP,↓reduceIte] <;> (try (repeat' with_reducible apply And.intro)) <;> (try first | exact DEq.refl _ | refine DEq.int ?_ | refine DEq.bool ?_ | omega))
    · rw [hsn]
      exact snoc_D (fun c hc => by have : c = 0 := by omega
                                   subst this; rfl)
  · intro _
    ((first|refine qE ?_|refine qD ?_);(simp only [go_sem,↓dP,↓reduceIte];with_reducible and_intros;all_goals first|apply qA|exact qC|skip)); refine Ok.seq ?_; refine Ok.cond rfl (fun hb => by simp at hb) (fun _ => ?_); (refine Ok.exit ?_; simp only [thenK_exit, blockK_exit, noGotoK_exit, thenK_normal, blockK_normal, noGotoK_normal, ↓reduceIte, Nat.reduceEqDiff])
    (first|refine qE ?_|refine qD ?_);(simp only [go_sem,↓dP,↓reduceIte];with_reducible and_intros;all_goals first|apply qA|exact qC|skip)
    (refine AskI.ret (c_last (begP B plan k n s.nd s.nd.length) (by rw [begP_len (Nat.le_refl _)]; omega)) ?_; simp only [go_sem,↓dP,↓reduceIte];with_reducible and_intros;all_goals first|apply qA|exact qC|skip)
    (refine Ok.ret ?_; (try dsimp only [thenK, blockK, noGotoK]); simp only [toList_mk, List.toList_toArray, retK_ret, retK_normal, resOK, resV, celV, rowV, frzAll, frzT, subV, subL, go_sem,↓dP,↓reduceIte])
    unfold begP
    rw [List.take_length]
    exact .refl _
end Go.Proofs.Leaf
namespace Go.Proofs.Leaf
open Go Go.RX Go.Proofs Go.RowKit
set_option maxRecDepth 100000
variable [Glob]
theorem lastB_bd {l:List Int} {c:Int} (h0:0<=c) (h:∀ x∈l,x<=c):0<=lastB l/\lastB l<=c:=⟨foldl_max_ge,foldl_max_le h0 h⟩
theorem st_nd {B:Bk} (hB:B.ok) {n:Nat} (hn:n < B.ss.length):∀ x∈(B.ss.getD n default).nd,0<=x/\x<=(n:Int) - 1:=fun x hx => by
 obtain ⟨i,hi,rfl⟩:=List.getElem_of_mem hx
 have:=(hB.st n hn).n0 i hi
 rw [getD_lt hi] at this
 exact this
theorem endF_bd {B:Bk} (hB:B.ok) (plan:List Int) (k:Nat):∀ n,n < B.ss.length->0<=lastB (begL B plan k n)/\lastB (begL B plan k n)<=6 * n/\0<=endF B plan n k/\endF B plan n k<=6 * n + 6:=by
 intro n
 induction n using Nat.strongRecOn with
 | ind n ih =>
  intro hn
  have hs:=hB.st n hn
  have z1:=hs.l1;have z2:=hs.l6;have z3:=hs.h1;have z4:=hs.h6
  have hl:∀ x∈begL B plan k n,x<=6 * n:=by
   intro x hx
   rcases List.mem_cons.1 hx with rfl | hx
   ·unfold freB
    cases hq:befB plan n with
    | none => dsimp only;omega
    | some j =>
     have hj:=bef_lt hq
     have:=ih j hj (by omega)
     dsimp only;omega
   ·obtain ⟨y,hy,rfl⟩:=List.mem_map.1 hx
    have h1:=st_nd hB hn y hy
    have:=ih y.toNat (by omega) (by omega)
    omega
  have hb:=lastB_bd (by omega) hl
  have he:=end_step B plan k n (st_nd hB hn)
  rw [he]
  refine ⟨hb.1,hb.2,?_,?_⟩<;>split<;>omega
theorem c_end0 (B:Bk) (plan:List Int) (m:Nat) (hK:IsMemoE (endF B plan) m) (hB:B.ok) (hp:plan.length = B.ss.length) (n:Nat) (hn:n < B.ss.length)
  (he:∀ j,j < n->Ctr Try.prog 67 [wkS B plan m,iS j,iS 0] (iS (endF B plan j 0))) :
  Ctr Try.prog 67 [wkS B plan m,iS n,iS 0] (iS (endF B plan n 0)):=by
 have hs6:=hB.s6
 have hst0:=hB.st n hn
 have hb:Ctr Try.prog 85 [wkS B plan m,iS n,iS 0] (iS (lastB (begL B plan 0 n))):=c_begin B plan m hB hp n hn 0 (by decide) he
 have hstep:=end_step B plan 0 n (st_nd hB hn)
 have hbd:=endF_bd hB plan 0 n hn
 have z1:=hst0.l1;have z2:=hst0.l6;have z3:=hst0.h1;have z4:=hst0.h6
 (refine Ctr.mk (fn:=Try.f67) rfl rfl rfl rfl rfl Try.results67 ?_;intro _;dsimp only [args,List.toList_toArray])
 (first|refine qE ?_|refine qD ?_);(simp only [go_sem,↓dP,↓reduceIte];with_reducible and_intros;all_goals first|apply qA|exact qC|skip)
 refine Ok.seq ?_
 (first|refine qE ?_|refine qD ?_);(simp only [go_sem,↓dP,↓reduceIte];with_reducible and_intros;all_goals first|apply qA|exact qC|skip)
 refine Ok.seq ?_
 ((first | refine RX.qT 3 ?h1 ?h2 ?h3 ?h4 ?_ | refine RX.qU 3 ?h1 ?h2 ?h3 ?h4 ?_);(case h1 => rfl);(case h2 => rfl);(case h3 => rfl);(case h4 => rfl);simp only [go_sem,↓dP,↓reduceIte];with_reducible and_intros;all_goals first|apply qA|exact qC|skip)
 intro Y a w0 hinv
 have hst:=St.of hinv rfl
 have e17:a.eval (.tmp 17) = .map (some m):=hst.raw rfl
 have e18:a.eval (.tmp 18) = endV n 0:=St.endV hst rfl
 obtain ⟨I1,β1,τ1,hx⟩:=hinv
 obtain ⟨met,hlook⟩:=(hK.G _ (hx.bel.gl hx.bs)).look (n:=n) (k:=0) (by omega) (by decide)
 refine tail_val (v:=.tuple #[.int .i64 (if met then endF B plan n 0 else 0),.bool met]) rfl (fun c e => by cases e) (by simp only [execOp,e17,e18,Sem.run_bind,hlook,Result.andThen_ok];rfl) ?_
 have hst2:=hst.putV (d:=19) (v:=.tuple #[.int .i64 (if met then endF B plan n 0 else 0),.bool met]) (V:=.tup [iS (if met then endF B plan n 0 else 0),bS met]) (by decide) (fun I β τ Y => .tup rfl (fun j u y hu hy => by
  match j with
  | 0 => simp at hu hy;subst hu;subst hy;exact .d .int
  | 1 => simp at hu hy;subst hu;subst hy;exact .d .bool
  | j + 2 => simp at hu))
 (refine Ok.rest hst2 ?h1 ?h2 ?h3 ?_;(case h1 => rfl);(case h2 => rfl);(case h3 => rfl);simp only [go_sem,↓dP,↓reduceIte,bare];with_reducible and_intros;all_goals first|apply qA|exact qC|skip;(try dsimp only [thenK,blockK,noGotoK]))
 (first|refine qE ?_|refine qD ?_);(simp only [go_sem,↓dP,↓reduceIte];with_reducible and_intros;all_goals first|apply qA|exact qC|skip)
 refine Ok.cond rfl ?_ ?_
 ·intro hmet
  subst hmet
  (first|refine qE ?_|refine qD ?_);(simp only [go_sem,↓dP,↓reduceIte];with_reducible and_intros;all_goals first|apply qA|exact qC|skip)
  (refine Ok.ret ?_;(try dsimp only [thenK,blockK,noGotoK]);simp only [toList_mk,List.toList_toArray,retK_ret,retK_normal,resOK,resV,celV,rowV,frzAll,frzT,subV,subL,go_sem,↓dP,↓reduceIte])
  exact .refl _
 ·intro hmet
  subst hmet
  (refine Ok.skip ?_;(try dsimp only [thenK,blockK,noGotoK]))
  (first|refine qE ?_|refine qD ?_);(simp only [go_sem,↓dP,↓reduceIte];with_reducible and_intros;all_goals first|apply qA|exact qC|skip)
  (first|refine qE ?_|refine qD ?_);(simp only [go_sem,↓dP,↓reduceIte];with_reducible and_intros;all_goals first|apply qA|exact qC|skip)
  (refine AskI.ret (hb) ?_;simp only [go_sem,↓dP,↓reduceIte];with_reducible and_intros;all_goals first|apply qA|exact qC|skip)
  (refine AskI.ret (c_fewest (B.ss.getD n default)) ?_;simp only [go_sem,↓dP,↓reduceIte];with_reducible and_intros;all_goals first|apply qA|exact qC|skip)
  refine Ok.seq ?_
  (first|refine qE ?_|refine qD ?_);(simp only [go_sem,↓dP,↓reduceIte];with_reducible and_intros;all_goals first|apply qA|exact qC|skip)
  refine Ok.cond rfl (fun q => ?_) (fun _ => ?_)
  ·exfalso
   simp at q
  (refine Ok.skip ?_;(try dsimp only [thenK,blockK,noGotoK]))
  (try dsimp only [thenK,blockK,noGotoK])
  refine Ok.seq ?_
  ((first | refine RX.qT 4 ?h1 ?h2 ?h3 ?h4 ?_ | refine RX.qU 4 ?h1 ?h2 ?h3 ?h4 ?_);(case h1 => rfl);(case h2 => rfl);(case h3 => rfl);(case h4 => rfl);simp only [go_sem,↓dP,↓reduceIte];with_reducible and_intros;all_goals first|apply qA|exact qC|skip)
  intro Y a w0 hinv
  have hst:=St.of hinv rfl
  have e54:a.eval (.tmp 54) = .map (some m):=hst.raw rfl
  have e55:a.eval (.tmp 55) = endV n 0:=St.endV hst rfl
  have e56:a.eval (.tmp 56) = .int .i64 (endF B plan n 0):=by
   rw [hstep]
   exact rep_int (mt_d (hst.val (t:=56) rfl (fun _ _ _ e => by cases e)).choose_spec.choose_spec.choose_spec.2)
  obtain ⟨I1,β1,τ1,hx⟩:=hinv
  have hG:=hx.bel.gl hx.bs
  obtain ⟨o,hup,hok⟩:=(hK.G _ hG).update (n:=n) (k:=0) (by omega) (by decide)
  have hkeep:Keep w0.heap.size w0 (w0.putObj m o):=⟨rfl,rfl,rfl,by simp,fun k _ hk => putObj_other (fun e => hk (by rw [hK.M,e])),fun hG => hK.G' _ _ hG hok (by simp) (fun k hk => putObj_other hk)⟩
  refine tail_skp (w':=w0.putObj m o) rfl (fun c e => by cases e) (by simp only [execOp,e54,e55,e56,Sem.run_bind,hup,Result.andThen_ok];rfl) ?_
  refine tail_end ⟨_,?_,hst.quiet hkeep⟩
  (try dsimp only [thenK,blockK,noGotoK])
  (first|refine qE ?_|refine qD ?_);(simp only [go_sem,↓dP,↓reduceIte];with_reducible and_intros;all_goals first|apply qA|exact qC|skip)
  (refine Ok.ret ?_;(try dsimp only [thenK,blockK,noGotoK]);simp only [toList_mk,List.toList_toArray,retK_ret,retK_normal,resOK,resV,celV,rowV,frzAll,frzT,subV,subL,go_sem,↓dP,↓reduceIte])
  rw [hstep]
  exact .refl _
theorem c_end1 (B:Bk) (plan:List Int) (m:Nat) (hK:IsMemoE (endF B plan) m) (hB:B.ok) (hp:plan.length = B.ss.length) (n:Nat) (hn:n < B.ss.length)
  (he:∀ j,j < n->Ctr Try.prog 67 [wkS B plan m,iS j,iS 1] (iS (endF B plan j 1))) :
  Ctr Try.prog 67 [wkS B plan m,iS n,iS 1] (iS (endF B plan n 1)):=by
 have hs6:=hB.s6
 have hst0:=hB.st n hn
 have hb:Ctr Try.prog 85 [wkS B plan m,iS n,iS 1] (iS (lastB (begL B plan 1 n))):=c_begin B plan m hB hp n hn 1 (by decide) he
 have hstep:=end_step B plan 1 n (st_nd hB hn)
 have hbd:=endF_bd hB plan 1 n hn
 have z1:=hst0.l1;have z2:=hst0.l6;have z3:=hst0.h1;have z4:=hst0.h6
 (refine Ctr.mk (fn:=Try.f67) rfl rfl rfl rfl rfl Try.results67 ?_;intro _;dsimp only [args,List.toList_toArray])
 (first|refine qE ?_|refine qD ?_);(simp only [go_sem,↓dP,↓reduceIte];with_reducible and_intros;all_goals first|apply qA|exact qC|skip)
 refine Ok.seq ?_
 (first|refine qE ?_|refine qD ?_);(simp only [go_sem,↓dP,↓reduceIte];with_reducible and_intros;all_goals first|apply qA|exact qC|skip)
 refine Ok.seq ?_
 ((first | refine RX.qT 3 ?h1 ?h2 ?h3 ?h4 ?_ | refine RX.qU 3 ?h1 ?h2 ?h3 ?h4 ?_);(case h1 => rfl);(case h2 => rfl);(case h3 => rfl);(case h4 => rfl);simp only [go_sem,↓dP,↓reduceIte];with_reducible and_intros;all_goals first|apply qA|exact qC|skip)
 intro Y a w0 hinv
 have hst:=St.of hinv rfl
 have e17:a.eval (.tmp 17) = .map (some m):=hst.raw rfl
 have e18:a.eval (.tmp 18) = endV n 1:=St.endV hst rfl
 obtain ⟨I1,β1,τ1,hx⟩:=hinv
 obtain ⟨met,hlook⟩:=(hK.G _ (hx.bel.gl hx.bs)).look (n:=n) (k:=1) (by omega) (by decide)
 refine tail_val (v:=.tuple #[.int .i64 (if met then endF B plan n 1 else 0),.bool met]) rfl (fun c e => by cases e) (by simp only [execOp,e17,e18,Sem.run_bind,hlook,Result.andThen_ok];rfl) ?_
 have hst2:=hst.putV (d:=19) (v:=.tuple #[.int .i64 (if met then endF B plan n 1 else 0),.bool met]) (V:=.tup [iS (if met then endF B plan n 1 else 0),bS met]) (by decide) (fun I β τ Y => .tup rfl (fun j u y hu hy => by
  match j with
  | 0 => simp at hu hy;subst hu;subst hy;exact .d .int
  | 1 => simp at hu hy;subst hu;subst hy;exact .d .bool
  | j + 2 => simp at hu))
 (refine Ok.rest hst2 ?h1 ?h2 ?h3 ?_;(case h1 => rfl);(case h2 => rfl);(case h3 => rfl);simp only [go_sem,↓dP,↓reduceIte,bare];with_reducible and_intros;all_goals first|apply qA|exact qC|skip;(try dsimp only [thenK,blockK,noGotoK]))
 (first|refine qE ?_|refine qD ?_);(simp only [go_sem,↓dP,↓reduceIte];with_reducible and_intros;all_goals first|apply qA|exact qC|skip)
 refine Ok.cond rfl ?_ ?_
 ·intro hmet
  subst hmet
  (first|refine qE ?_|refine qD ?_);(simp only [go_sem,↓dP,↓reduceIte];with_reducible and_intros;all_goals first|apply qA|exact qC|skip)
  (refine Ok.ret ?_;(try dsimp only [thenK,blockK,noGotoK]);simp only [toList_mk,List.toList_toArray,retK_ret,retK_normal,resOK,resV,celV,rowV,frzAll,frzT,subV,subL,go_sem,↓dP,↓reduceIte])
  exact .refl _
 ·intro hmet
  subst hmet
  (refine Ok.skip ?_;(try dsimp only [thenK,blockK,noGotoK]))
  (first|refine qE ?_|refine qD ?_);(simp only [go_sem,↓dP,↓reduceIte];with_reducible and_intros;all_goals first|apply qA|exact qC|skip)
  (first|refine qE ?_|refine qD ?_);(simp only [go_sem,↓dP,↓reduceIte];with_reducible and_intros;all_goals first|apply qA|exact qC|skip)
  (refine AskI.ret (hb) ?_;simp only [go_sem,↓dP,↓reduceIte];with_reducible and_intros;all_goals first|apply qA|exact qC|skip)
  (refine AskI.ret (c_most (B.ss.getD n default)) ?_;simp only [go_sem,↓dP,↓reduceIte];with_reducible and_intros;all_goals first|apply qA|exact qC|skip)
  refine Ok.seq ?_
  (first|refine qE ?_|refine qD ?_);(simp only [go_sem,↓dP,↓reduceIte];with_reducible and_intros;all_goals first|apply qA|exact qC|skip)
  refine Ok.cond rfl (fun q => ?_) (fun _ => ?_)
  ·exfalso
   simp at q
  (refine Ok.skip ?_;(try dsimp only [thenK,blockK,noGotoK]))
  (try dsimp only [thenK,blockK,noGotoK])
  refine Ok.seq ?_
  ((first | refine RX.qT 4 ?h1 ?h2 ?h3 ?h4 ?_ | refine RX.qU 4 ?h1 ?h2 ?h3 ?h4 ?_);(case h1 => rfl);(case h2 => rfl);(case h3 => rfl);(case h4 => rfl);simp only [go_sem,↓dP,↓reduceIte];with_reducible and_intros;all_goals first|apply qA|exact qC|skip)
  intro Y a w0 hinv
  have hst:=St.of hinv rfl
  have e54:a.eval (.tmp 54) = .map (some m):=hst.raw rfl
  have e55:a.eval (.tmp 55) = endV n 1:=St.endV hst rfl
  have e56:a.eval (.tmp 56) = .int .i64 (endF B plan n 1):=by
   rw [hstep]
   exact rep_int (mt_d (hst.val (t:=56) rfl (fun _ _ _ e => by cases e)).choose_spec.choose_spec.choose_spec.2)
  obtain ⟨I1,β1,τ1,hx⟩:=hinv
  have hG:=hx.bel.gl hx.bs
  obtain ⟨o,hup,hok⟩:=(hK.G _ hG).update (n:=n) (k:=1) (by omega) (by decide)
  have hkeep:Keep w0.heap.size w0 (w0.putObj m o):=⟨rfl,rfl,rfl,by simp,fun k _ hk => putObj_other (fun e => hk (by rw [hK.M,e])),fun hG => hK.G' _ _ hG hok (by simp) (fun k hk => putObj_other hk)⟩
  refine tail_skp (w':=w0.putObj m o) rfl (fun c e => by cases e) (by simp only [execOp,e54,e55,e56,Sem.run_bind,hup,Result.andThen_ok];rfl) ?_
  refine tail_end ⟨_,?_,hst.quiet hkeep⟩
  (try dsimp only [thenK,blockK,noGotoK])
  (first|refine qE ?_|refine qD ?_);(simp only [go_sem,↓dP,↓reduceIte];with_reducible and_intros;all_goals first|apply qA|exact qC|skip)
  (refine Ok.ret ?_;(try dsimp only [thenK,blockK,noGotoK]);simp only [toList_mk,List.toList_toArray,retK_ret,retK_normal,resOK,resV,celV,rowV,frzAll,frzT,subV,subL,go_sem,↓dP,↓reduceIte])
  rw [hstep]
  exact .refl _
theorem c_end (B:Bk) (plan:List Int) (m:Nat) (hK:IsMemoE (endF B plan) m) (hB:B.ok) (hp:plan.length = B.ss.length) (k:Nat) (hk:k < 2):∀ n,n < B.ss.length ->
  Ctr Try.prog 67 [wkS B plan m,iS n,iS k] (iS (endF B plan n k)):=by
 intro n
 induction n using Nat.strongRecOn with
 | ind n ih =>
  intro hn
  rcases (show k = 0∨k = 1 by omega) with rfl | rfl
  ·exact c_end0 B plan m hK hB hp n hn (fun j hj => ih j hj (by omega))
  ·exact c_end1 B plan m hK hB hp n hn (fun j hj => ih j hj (by omega))
theorem endsB_succ (B:Bk) (plan:List Int) (most:Bool) (n:Nat):endsB B plan most (n + 1) = endsB B plan most n ++ [endB B plan most n]:=by
 have e:endB B plan most n = stepE B plan most (endsB B plan most n) n:=by
  show (endsB B plan _ (n + 1)).getD n 0 = _
  rw [endsB,List.getD_eq_getElem?_getD,List.getElem?_append_right (by rw [endsB_len];exact Nat.le_refl _),endsB_len,Nat.sub_self];rfl
 rw [e];rfl
theorem c_long (B : Bk) (plan : List Int) (m : Nat) (hK : IsMemoE (endF B plan) m) (hB : B.ok) (hp : plan.length = B.ss.length) :
    Ctr Try.prog 64 [wkS B plan m] (iS (longB B plan)) := by
  have hs6 := hB.s6
  (refine Ctr.mk (fn := Try.f64) rfl rfl rfl rfl rfl Try.results64 ?_; intro _; dsimp only [args, List.toList_toArray])
  (first|refine qE ?_|refine qD ?_);(simp only [go_sem,↓dP,↓reduceIte];with_reducible and_intros;all_goals first|apply qA|exact qC|skip)
  (first|refine qE ?_|refine qD ?_);(simp only [go_sem,↓dP,↓reduceIte];with_reducible and_intros;all_goals first|apply qA|exact qC|skip)
  refine Ok.seq ?_
  (first|refine qE ?_|refine qD ?_);(simp only [go_sem,↓dP,↓reduceIte];with_reducible and_intros;all_goals first|apply qA|exact qC|skip)
  refine Ok.block ?_
  refine Ok.count B.ss.length (fun i => ⟨[(1, .p 0 0), (3, .tk 0), (8, iS B.ss.length), (9, iS i)], [wkC B plan m], [ownD 3 1 intD (endsB B plan true i)]⟩) (fun _ => True) ⟨trivial, ?_⟩ ?_ ?_
  · (refine Sub.of ([0]) ([none]) ?_ ?_ ?_ rfl rfl <;> simp only [subB, subB1, subT, subT1, newT, subE, subV, subL, go_sem,↓dP,↓reduceIte] <;> (try (repeat' with_reducible apply And.intro)) <;> (try first | exact DEq.refl _ | refine DEq.int ?_ | refine DEq.bool ?_ | omega))
    rfl
  · intro i hi _
    have hlen := endsB_len B plan true i
    have hsn := endsB_succ B plan true i
    have hc : Ctr Try.prog 67 [wkS B plan m, iS i, iS 1] (iS (endB B plan true i)) := c_end B plan m hK hB hp 1 (by decide) i hi
    ((first|refine qE ?_|refine qD ?_);(simp only [go_sem,↓dP,↓reduceIte];with_reducible and_intros;all_goals first|apply qA|exact qC|skip)); refine Ok.seq ?_; refine Ok.cond rfl (fun _ => ?_) (fun hb => by simp at hb; omega); (refine Ok.skip ?_; (try dsimp only [thenK, blockK, noGotoK])); refine Ok.seq ?_; refine Ok.block ?_
    (first|refine qE ?_|refine qD ?_);(simp only [go_sem,↓dP,↓reduceIte];with_reducible and_intros;all_goals first|apply qA|exact qC|skip)
    (first|refine qE ?_|refine qD ?_);(simp only [go_sem,↓dP,↓reduceIte];with_reducible and_intros;all_goals first|apply qA|exact qC|skip)
    (refine AskI.ret (hc) ?_; simp only [go_sem,↓dP,↓reduceIte];with_reducible and_intros;all_goals first|apply qA|exact qC|skip)
    (try dsimp only [thenK, blockK, noGotoK])
    (first|refine qE ?_|refine qD ?_);(simp only [go_sem,↓dP,↓reduceIte];with_reducible and_intros;all_goals first|apply qA|exact qC|skip)
    (try dsimp only [thenK, blockK, noGotoK])
    refine ⟨trivial, ?_⟩
    (refine Sub.of ([0]) ([some 1]) ?_ ?_ ?_ rfl rfl <;> simp only [subB, subB1, subT, subT1, newT, subE, subV, subL, go_sem,↓dP,↓reduceIte] <;> (try (repeat' with_reducible apply And.intro)) <;> (try first | exact DEq.refl _ | refine DEq.int ?_ | refine DEq.bool ?_ | omega))
    · rw [hsn]; simp
    · rw [hsn]
      exact snoc_D (fun c hc => by have : c = 0 := by omega
                                   subst this; rfl)
  · intro _
    have hlen := endsB_len B plan true B.ss.length
    ((first|refine qE ?_|refine qD ?_);(simp only [go_sem,↓dP,↓reduceIte];with_reducible and_intros;all_goals first|apply qA|exact qC|skip)); refine Ok.seq ?_; refine Ok.cond rfl (fun hb => by simp at hb) (fun _ => ?_); (refine Ok.exit ?_; simp only [thenK_exit, blockK_exit, noGotoK_exit, thenK_normal, blockK_normal, noGotoK_normal, ↓reduceIte, Nat.reduceEqDiff])
    (first|refine qE ?_|refine qD ?_);(simp only [go_sem,↓dP,↓reduceIte];with_reducible and_intros;all_goals first|apply qA|exact qC|skip)
    (refine AskI.ret (c_last (endsB B plan true B.ss.length) (by omega)) ?_; simp only [go_sem,↓dP,↓reduceIte];with_reducible and_intros;all_goals first|apply qA|exact qC|skip)
    (refine Ok.ret ?_; (try dsimp only [thenK, blockK, noGotoK]); simp only [toList_mk, List.toList_toArray, retK_ret, retK_normal, resOK, resV, celV, rowV, frzAll, frzT, subV, subL, go_sem,↓dP,↓reduceIte])
    exact .refl _
end Go.Proofs.Leaf
