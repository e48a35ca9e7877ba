/-
  The same leaf, and books: LeafSames returns true at every input, and leaves it as it was.
  No condition beside those that the statement itself names.
-/
import Derived.Test.YtojfpogcfpmblaaGreatDoorB30
import Derived.ChangeMaps5
set_option linter.all false
namespace Go.Proofs.Leaf
theorem single_pow (n:Nat):single (2 ^ n) = true:=by
 unfold single
 rw [decide_eq_true_eq]
 induction n with
 | zero => rfl
 | succ n ih =>
  have h0:0 < 2 ^ n:=Nat.pow_pos (by decide)
  have e1:2 ^ (n + 1) / 2 = 2 ^ n:=by rw [Nat.pow_succ];omega
  have e2:(2 ^ (n + 1) - 1) / 2 = 2 ^ n - 1:=by rw [Nat.pow_succ];omega
  have hd:=and_div (2 ^ (n + 1)) (2 ^ (n + 1) - 1)
  rw [e1,e2,ih] at hd
  have hb:((2 ^ (n + 1)) &&& (2 ^ (n + 1) - 1)).testBit 0 = false:=by
   rw [Nat.testBit_and,Nat.testBit_zero]
   have:2 ^ (n + 1) % 2 = 0:=by rw [Nat.pow_succ];omega
   rw [this];rfl
  rw [Nat.testBit_zero] at hb
  simp only [decide_eq_false_iff_not] at hb
  omega
theorem sub_sum:∀ (s t:Nat),t &&& s = t->t + (s ^^^ t) = s:=by
 intro s
 induction s using Nat.strongRecOn with
 | _ s ih =>
 intro t h
 by_cases h0:s = 0
 ·subst h0
  rw [Nat.and_zero] at h
  subst h
  rfl
 ·have ih':=ih (s / 2) (by omega) (t / 2) (sub_div h)
  rw [← xor_div] at ih'
  have hx:((s ^^^ t) % 2 = 1) ↔ (s.testBit 0 != t.testBit 0) = true:=by rw [mod2_bit,xor_bit]
  have hs:=mod2_bit s
  have ht:=mod2_bit t
  have hb:=sub_bit h 0
  cases es:s.testBit 0<;>cases et:t.testBit 0<;>simp only [es,et] at hx hs ht hb
  ·have a1:¬ s % 2 = 1:=fun q => by have:=hs.1 q;cases this
   have a2:¬ t % 2 = 1:=fun q => by have:=ht.1 q;cases this
   have a3:¬ (s ^^^ t) % 2 = 1:=fun q => by have:=hx.1 q;cases this
   omega
  ·exact absurd (hb trivial) (by decide)
  ·have a1:s % 2 = 1:=hs.2 trivial
   have a2:¬ t % 2 = 1:=fun q => by have:=ht.1 q;cases this
   have a3:(s ^^^ t) % 2 = 1:=hx.2 rfl
   omega
  ·have a1:s % 2 = 1:=hs.2 trivial
   have a2:t % 2 = 1:=ht.2 trivial
   have a3:¬ (s ^^^ t) % 2 = 1:=fun q => by have:=hx.1 q;cases this
   omega
theorem sub_minus {s t:Nat} (h:t &&& s = t):s - t = s ^^^ t:=by have:=sub_sum s t h;omega
def tabF (ps:List Piece):Nat->Nat->Nat->Nat->Bool
 | 0,_,_,s => decide (s = 0)
 | f + 1,w,h,s =>
  decide (s = 0) || (List.range ps.length).any (fun n => decide (s = 2 ^ n) && alone (ps.getD n default) w h)
   || ((List.range w).any (fun n => decide (n ≠ 0) && (List.range (s + 1)).any (fun t => decide (t &&& s = t) && tabF ps f n h t && tabF ps f (w - n) h (s - t)))
    || (List.range h).any (fun n => decide (n ≠ 0) && (List.range (s + 1)).any (fun t => decide (t &&& s = t) && tabF ps f w n t && tabF ps f w (h - n) (s - t))))
theorem tabF_can {ps:List Piece} (hg:good ps):∀ (f w h s:Nat),w + h < f->tabF ps f w h s = can ps w h s
 | 0,w,h,_,hk => by omega
 | f + 1,w,h,s,hk => by
  have e1:((List.range w).any (fun n => decide (n ≠ 0) && (List.range (s + 1)).any (fun t => decide (t &&& s = t) && tabF ps f n h t && tabF ps f (w - n) h (s - t)))) = true->can ps w h s = true:=by
   rw [any_iff]
   simp only [List.mem_range,Bool.and_eq_true,decide_eq_true_eq,any_iff]
   rintro ⟨n,h1,h2,t,_,⟨h4,h5⟩,h6⟩
   rw [tabF_can hg f n h t (by omega)] at h5
   rw [sub_minus h4,tabF_can hg f (w - n) h _ (by omega)] at h6
   exact join_u hg (by omega) h1 h4 h5 h6
  have e2:((List.range h).any (fun n => decide (n ≠ 0) && (List.range (s + 1)).any (fun t => decide (t &&& s = t) && tabF ps f w n t && tabF ps f w (h - n) (s - t)))) = true->can ps w h s = true:=by
   rw [any_iff]
   simp only [List.mem_range,Bool.and_eq_true,decide_eq_true_eq,any_iff]
   rintro ⟨n,h1,h2,t,_,⟨h4,h5⟩,h6⟩
   rw [tabF_can hg f w n t (by omega)] at h5
   rw [sub_minus h4,tabF_can hg f w (h - n) _ (by omega)] at h6
   exact join_l hg (by omega) h1 h4 h5 h6
  rw [Bool.eq_iff_iff]
  constructor
  ·intro hc
   rw [tabF] at hc
   simp only [Bool.or_eq_true] at hc
   rcases hc with (hc | hc) | hc | hc
   ·simp only [decide_eq_true_eq] at hc
    subst hc;exact can_zero ..
   ·rw [any_iff] at hc
    simp only [List.mem_range,Bool.and_eq_true,decide_eq_true_eq] at hc
    obtain ⟨n,q1,q2,q3⟩:=hc
    have hp:0 < 2 ^ n:=Nat.pow_pos (by decide)
    exact (can_one (by omega) (by rw [q2];exact single_pow n)).2 ⟨n,q1,q2,q3⟩
   ·exact e1 hc
   ·exact e2 hc
  ·intro hc
   rw [tabF]
   simp only [Bool.or_eq_true]
   by_cases h0:s = 0
   ·exact .inl (.inl (by simp [h0]))
   ·cases h1:single s with
    | true =>
     obtain ⟨n,q1,q2,q3⟩:=(can_one h0 h1).1 hc
     refine .inl (.inr ?_)
     rw [any_iff]
     exact ⟨n,List.mem_range.2 q1,by simp only [Bool.and_eq_true,decide_eq_true_eq];exact ⟨q2,q3⟩⟩
    | false =>
     obtain ⟨_,⟨n,t,q1,q2,q3,q4,q5⟩ | ⟨n,t,q1,q2,q3,q4,q5⟩⟩:=(can_more h0 h1).1 hc
     ·obtain ⟨r1,r2,r3⟩:=mem_subs.1 q3
      refine .inr (.inl ?_)
      rw [any_iff]
      refine ⟨n,List.mem_range.2 q2,?_⟩
      simp only [Bool.and_eq_true,decide_eq_true_eq,any_iff]
      refine ⟨by omega,t,List.mem_range.2 (by omega),⟨r3,?_⟩,?_⟩
      ·rw [tabF_can hg f n h t (by omega)];exact q4
      ·rw [sub_minus r3,tabF_can hg f (w - n) h _ (by omega)];exact q5
     ·obtain ⟨r1,r2,r3⟩:=mem_subs.1 q3
      refine .inr (.inr ?_)
      rw [any_iff]
      refine ⟨n,List.mem_range.2 q2,?_⟩
      simp only [Bool.and_eq_true,decide_eq_true_eq,any_iff]
      refine ⟨by omega,t,List.mem_range.2 (by omega),⟨r3,?_⟩,?_⟩
      ·rw [tabF_can hg f w n t (by omega)];exact q4
      ·rw [sub_minus r3,tabF_can hg f w (h - n) _ (by omega)];exact q5
end Go.Proofs.Leaf
namespace Go.Proofs.Leaf
theorem bit_lt {t n i:Nat} (h:t < 2 ^ n) (hi:n<=i):t.testBit i = false:=Nat.testBit_lt_two_pow (Nat.lt_of_lt_of_le h (Nat.pow_le_pow_right (by decide) hi))
end Go.Proofs.Leaf
namespace Go.Proofs.Leaf
open Go Go.RX Go.Proofs
set_option maxRecDepth 10000
variable [Glob]
theorem c_rin (n lo hi:Int):Ctr Tryz.prog 60 [iS n,iS lo,iS hi] (bS (inB n lo hi)):=by
 (refine Ctr.mk (fn:=Tryz.f60) rfl rfl rfl rfl rfl Tryz.results60 ?_;intro _;dsimp only [args,List.toList_toArray])
 (first|refine qE ?_|refine qD ?_);(simp only [go_sem,↓dP,↓reduceIte];with_reducible and_intros;all_goals first|apply qA|exact qC|skip)
 (first|refine qE ?_|refine qD ?_);(simp only [go_sem,↓dP,↓reduceIte];with_reducible and_intros;all_goals first|apply qA|exact qC|skip)
 (refine Ok.ret ?_;(try dsimp only [thenK,blockK,noGotoK]);simp only [toList_mk,List.toList_toArray,retK_ret,retK_normal,resOK,resV,celV,rowV,frzAll,frzT,subV,subL,go_sem,↓dP,↓reduceIte])
 exact .refl _
theorem c_ralone (p:Piece) (w h:Nat):Ctr Tryz.prog 113 [p.sv,iS w,iS h] (bS (alone p w h)):=by
 (refine Ctr.mk (fn:=Tryz.f113) rfl rfl rfl rfl rfl Tryz.results113 ?_;intro _;dsimp only [args,List.toList_toArray])
 (first|refine qE ?_|refine qD ?_);(simp only [go_sem,↓dP,↓reduceIte];with_reducible and_intros;all_goals first|apply qA|exact qC|skip)
 (first|refine qE ?_|refine qD ?_);(simp only [go_sem,↓dP,↓reduceIte];with_reducible and_intros;all_goals first|apply qA|exact qC|skip)
 (refine Ok.ret ?_;(try dsimp only [thenK,blockK,noGotoK]);simp only [toList_mk,List.toList_toArray,retK_ret,retK_normal,resOK,resV,celV,rowV,frzAll,frzT,subV,subL,go_sem,↓dP,↓reduceIte])
 refine DEq.bool ?_
 unfold alone
 cases p.turn<;>cases decide (p.w<=(w:Int))<;>cases decide (p.h<=(h:Int))<;>cases decide (p.h<=(w:Int))<;>cases decide (p.w<=(h:Int))<;>rfl
end Go.Proofs.Leaf
namespace Go.Proofs.Leaf
open Go Go.RX Go.Proofs
set_option maxRecDepth 10000
variable [Glob]
theorem c_rPiece (J:Job) (hh:J.ps.length < 1000000) (n:Int):Ctr Tryz.prog 33 [J.sv,iS n] (bS (inB n 0 (J.ps.length - 1))):=by
 (refine Ctr.mk (fn:=Tryz.f33) rfl rfl rfl rfl rfl Tryz.results33 ?_;intro _;dsimp only [args,List.toList_toArray])
 (first|refine qE ?_|refine qD ?_);(simp only [go_sem,↓dP,↓reduceIte];with_reducible and_intros;all_goals first|apply qA|exact qC|skip)
 (first|refine qE ?_|refine qD ?_);(simp only [go_sem,↓dP,↓reduceIte];with_reducible and_intros;all_goals first|apply qA|exact qC|skip)
 (refine AskI.ret (c_rin _ _ _) ?_;simp only [go_sem,↓dP,↓reduceIte];with_reducible and_intros;all_goals first|apply qA|exact qC|skip)
 (refine Ok.ret ?_;(try dsimp only [thenK,blockK,noGotoK]);simp only [toList_mk,List.toList_toArray,retK_ret,retK_normal,resOK,resV,celV,rowV,frzAll,frzT,subV,subL,go_sem,↓dP,↓reduceIte])
 exact .refl _
end Go.Proofs.Leaf
namespace Go.Proofs.Leaf
open Go Go.RX Go.Proofs
set_option maxRecDepth 10000
variable [Glob]
theorem c_rJob (J:Job) (hh:J.held):Ctr Tryz.prog 24 [J.sv] (bS (jobB J)):=by
 have hh1:=hh.1
 have hh2:=hh.2
 (refine Ctr.mk (fn:=Tryz.f24) rfl rfl rfl rfl rfl Tryz.results24 ?_;intro _;dsimp only [args,List.toList_toArray])
 (first|refine qE ?_|refine qD ?_);(simp only [go_sem,↓dP,↓reduceIte];with_reducible and_intros;all_goals first|apply qA|exact qC|skip)
 refine Ok.seq ?_
 (first|refine qE ?_|refine qD ?_);(simp only [go_sem,↓dP,↓reduceIte];with_reducible and_intros;all_goals first|apply qA|exact qC|skip)
 (refine AskI.ret (c_rin _ _ _) ?_;simp only [go_sem,↓dP,↓reduceIte];with_reducible and_intros;all_goals first|apply qA|exact qC|skip)
 (refine AskGI.ret (fun _ => c_rin _ _ _) ?_;simp only [go_sem,↓dP,↓reduceIte];with_reducible and_intros;all_goals first|apply qA|exact qC|skip)
 (refine AskGI.ret (fun _ => c_rin _ _ _) ?_;simp only [go_sem,↓dP,↓reduceIte];with_reducible and_intros;all_goals first|apply qA|exact qC|skip)
 ·intro h
  have:inB J.book 1 25 = true:=by revert h;cases inB J.book 1 25<;>simp
  rw [inB_iff] at this
  exact R64 (by omega) (by omega)
 (refine AskGI.ret (fun _ => c_rin _ _ _) ?_;simp only [go_sem,↓dP,↓reduceIte];with_reducible and_intros;all_goals first|apply qA|exact qC|skip)
 (refine AskGI.ret (fun _ => c_rin _ _ _) ?_;simp only [go_sem,↓dP,↓reduceIte];with_reducible and_intros;all_goals first|apply qA|exact qC|skip)
 (refine AskGI.ret (fun _ => c_rin _ _ _) ?_;simp only [go_sem,↓dP,↓reduceIte];with_reducible and_intros;all_goals first|apply qA|exact qC|skip)
 refine Ok.cond rfl ?_ ?_
 ·intro hb
  (first|refine qE ?_|refine qD ?_);(simp only [go_sem,↓dP,↓reduceIte];with_reducible and_intros;all_goals first|apply qA|exact qC|skip)
  (refine Ok.ret ?_;(try dsimp only [thenK,blockK,noGotoK]);simp only [toList_mk,List.toList_toArray,retK_ret,retK_normal,resOK,resV,celV,rowV,frzAll,frzT,subV,subL,go_sem,↓dP,↓reduceIte])
  refine DEq.bool ?_
  have:headB J = false:=by
   revert hb
   unfold headB
   cases inB J.wide 1 6<;>cases inB J.high 1 6<;>cases inB J.book 1 25<;>cases inB J.spoilt 0 (J.book - 1)<;>cases inB J.gs.length 1 3<;>cases inB J.ps.length 1 5<;>simp
  simp [jobB,this]
 intro hb
 have hhead:headB J = true:=by
  revert hb
  unfold headB
  cases inB J.wide 1 6<;>cases inB J.high 1 6<;>cases inB J.book 1 25<;>cases inB J.spoilt 0 (J.book - 1)<;>cases inB J.gs.length 1 3<;>cases inB J.ps.length 1 5<;>simp
 (refine Ok.skip ?_;(try dsimp only [thenK,blockK,noGotoK]))
 refine Ok.seq ?_
 (first|refine qE ?_|refine qD ?_);(simp only [go_sem,↓dP,↓reduceIte];with_reducible and_intros;all_goals first|apply qA|exact qC|skip)
 refine Ok.block ?_
 refine Ok.count J.gs.length (fun i => ⟨[(1,.p 0 0),(3,iS i)],[jobC J],[]⟩) (fun i => ∀ x∈J.gs.take i,(!groundB x) = false) ⟨fun x hx => by simp at hx,?_⟩ ?_ ?_
 ·(refine Sub.of ([0]) ([]) ?_ ?_ ?_ rfl rfl<;>simp only [subB,subB1,subT,subT1,newT,subE,subV,subL,go_sem,↓dP,↓reduceIte]<;>(try (repeat' with_reducible apply And.intro))<;>(try first | exact DEq.refl _ | refine DEq.int ?_ | refine DEq.bool ?_ | omega))
 ·intro i hi h0
  refine Ok.seq ?_;((first|refine qE ?_|refine qD ?_);(simp only [go_sem,↓dP,↓reduceIte];with_reducible and_intros;all_goals first|apply qA|exact qC|skip));refine Ok.cond rfl (fun _ => ?_) (fun hb => by simp at hb;omega);(refine Ok.skip ?_;(try dsimp only [thenK,blockK,noGotoK]));refine Ok.seq ?_;refine Ok.block ?_
  (first|refine qE ?_|refine qD ?_);(simp only [go_sem,↓dP,↓reduceIte];with_reducible and_intros;all_goals first|apply qA|exact qC|skip)
  (first|refine qE ?_|refine qD ?_);(simp only [go_sem,↓dP,↓reduceIte];with_reducible and_intros;all_goals first|apply qA|exact qC|skip)
  (refine AskI.ret (c_rin _ _ _) ?_;simp only [go_sem,↓dP,↓reduceIte];with_reducible and_intros;all_goals first|apply qA|exact qC|skip)
  (refine AskGI.ret (fun _ => c_rin _ _ _) ?_;simp only [go_sem,↓dP,↓reduceIte];with_reducible and_intros;all_goals first|apply qA|exact qC|skip)
  (refine AskGI.ret (fun _ => c_rin _ _ _) ?_;simp only [go_sem,↓dP,↓reduceIte];with_reducible and_intros;all_goals first|apply qA|exact qC|skip)
  (refine AskGI.ret (fun _ => c_rin _ _ _) ?_;simp only [go_sem,↓dP,↓reduceIte];with_reducible and_intros;all_goals first|apply qA|exact qC|skip)
  have hg:groundB (J.gs.getD i default) = (inB (J.gs.getD i default).rl 0 12 && inB (J.gs.getD i default).rh (J.gs.getD i default).rl 12 && inB (J.gs.getD i default).ll (J.gs.getD i default).rh 12 && inB (J.gs.getD i default).lh (J.gs.getD i default).ll 12):=rfl
  refine Ok.cond rfl ?_ ?_
  ·intro hx
   have hx':(!groundB (J.gs.getD i default)) = true:=by
    rw [hg]
    revert hx
    cases inB (J.gs.getD i default).rl 0 12<;>cases inB (J.gs.getD i default).rh (J.gs.getD i default).rl 12<;>cases inB (J.gs.getD i default).ll (J.gs.getD i default).rh 12<;>cases inB (J.gs.getD i default).lh (J.gs.getD i default).ll 12<;>simp
   (first|refine qE ?_|refine qD ?_);(simp only [go_sem,↓dP,↓reduceIte];with_reducible and_intros;all_goals first|apply qA|exact qC|skip)
   (refine Ok.ret ?_;(try dsimp only [thenK,blockK,noGotoK]);simp only [toList_mk,List.toList_toArray,retK_ret,retK_normal,resOK,resV,celV,rowV,frzAll,frzT,subV,subL,go_sem,↓dP,↓reduceIte])
   refine DEq.bool ?_
   have:J.gs.any (fun g => !groundB g) = true:=List.any_eq_true.2 ⟨_,getD_mem hi,hx'⟩
   rw [jobB,all_any,this];simp
  ·intro hx
   have hx':(!groundB (J.gs.getD i default)) = false:=by
    rw [hg]
    revert hx
    cases inB (J.gs.getD i default).rl 0 12<;>cases inB (J.gs.getD i default).rh (J.gs.getD i default).rl 12<;>cases inB (J.gs.getD i default).ll (J.gs.getD i default).rh 12<;>cases inB (J.gs.getD i default).lh (J.gs.getD i default).ll 12<;>simp
   (refine Ok.skip ?_;(try dsimp only [thenK,blockK,noGotoK]))
   (first|refine qE ?_|refine qD ?_);(simp only [go_sem,↓dP,↓reduceIte];with_reducible and_intros;all_goals first|apply qA|exact qC|skip)
   (try dsimp only [thenK,blockK,noGotoK])
   refine ⟨no_step (q:=fun g => !groundB g) hi h0 hx',?_⟩
   (refine Sub.of ([0]) ([]) ?_ ?_ ?_ rfl rfl<;>simp only [subB,subB1,subT,subT1,newT,subE,subV,subL,go_sem,↓dP,↓reduceIte]<;>(try (repeat' with_reducible apply And.intro))<;>(try first | exact DEq.refl _ | refine DEq.int ?_ | refine DEq.bool ?_ | omega))
 intro h0
 have hgs:J.gs.any (fun g => !groundB g) = false:=List.any_eq_false.2 (fun x hx => by simp [h0 x (by simpa using hx)])
 refine Ok.seq ?_;((first|refine qE ?_|refine qD ?_);(simp only [go_sem,↓dP,↓reduceIte];with_reducible and_intros;all_goals first|apply qA|exact qC|skip));refine Ok.cond rfl (fun hb => by simp at hb) (fun _ => ?_);(refine Ok.exit ?_;simp only [thenK_exit,blockK_exit,noGotoK_exit,thenK_normal,blockK_normal,noGotoK_normal,↓reduceIte,Nat.reduceEqDiff])
 refine Ok.seq ?_
 (first|refine qE ?_|refine qD ?_);(simp only [go_sem,↓dP,↓reduceIte];with_reducible and_intros;all_goals first|apply qA|exact qC|skip)
 refine Ok.block ?_
 refine Ok.count J.ps.length (fun i => ⟨[(1,.p 0 0),(5,iS i)],[jobC J],[]⟩) (fun i => ∀ x∈J.ps.take i,(!pieceB J.gs.length x) = false) ⟨fun x hx => by simp at hx,?_⟩ ?_ ?_
 ·(refine Sub.of ([0]) ([]) ?_ ?_ ?_ rfl rfl<;>simp only [subB,subB1,subT,subT1,newT,subE,subV,subL,go_sem,↓dP,↓reduceIte]<;>(try (repeat' with_reducible apply And.intro))<;>(try first | exact DEq.refl _ | refine DEq.int ?_ | refine DEq.bool ?_ | omega))
 ·intro i hi h0
  refine Ok.seq ?_;((first|refine qE ?_|refine qD ?_);(simp only [go_sem,↓dP,↓reduceIte];with_reducible and_intros;all_goals first|apply qA|exact qC|skip));refine Ok.cond rfl (fun _ => ?_) (fun hb => by simp at hb;omega);(refine Ok.skip ?_;(try dsimp only [thenK,blockK,noGotoK]));refine Ok.seq ?_;refine Ok.block ?_
  (first|refine qE ?_|refine qD ?_);(simp only [go_sem,↓dP,↓reduceIte];with_reducible and_intros;all_goals first|apply qA|exact qC|skip)
  (first|refine qE ?_|refine qD ?_);(simp only [go_sem,↓dP,↓reduceIte];with_reducible and_intros;all_goals first|apply qA|exact qC|skip)
  (refine AskI.ret (c_rin _ _ _) ?_;simp only [go_sem,↓dP,↓reduceIte];with_reducible and_intros;all_goals first|apply qA|exact qC|skip)
  (refine AskGI.ret (fun _ => c_rin _ _ _) ?_;simp only [go_sem,↓dP,↓reduceIte];with_reducible and_intros;all_goals first|apply qA|exact qC|skip)
  (refine AskGI.ret (fun _ => c_rin _ _ _) ?_;simp only [go_sem,↓dP,↓reduceIte];with_reducible and_intros;all_goals first|apply qA|exact qC|skip)
  have hg:pieceB J.gs.length (J.ps.getD i default) = (inB (J.ps.getD i default).w 1 6 && inB (J.ps.getD i default).h 1 6 && inB (J.ps.getD i default).g 0 (J.gs.length - 1)):=rfl
  refine Ok.cond rfl ?_ ?_
  ·intro hx
   have hx':(!pieceB J.gs.length (J.ps.getD i default)) = true:=by
    rw [hg]
    revert hx
    cases inB (J.ps.getD i default).w 1 6<;>cases inB (J.ps.getD i default).h 1 6<;>cases inB (J.ps.getD i default).g 0 (J.gs.length - 1)<;>simp
   (first|refine qE ?_|refine qD ?_);(simp only [go_sem,↓dP,↓reduceIte];with_reducible and_intros;all_goals first|apply qA|exact qC|skip)
   (refine Ok.ret ?_;(try dsimp only [thenK,blockK,noGotoK]);simp only [toList_mk,List.toList_toArray,retK_ret,retK_normal,resOK,resV,celV,rowV,frzAll,frzT,subV,subL,go_sem,↓dP,↓reduceIte])
   refine DEq.bool ?_
   have:J.ps.any (fun p => !pieceB J.gs.length p) = true:=List.any_eq_true.2 ⟨_,getD_mem hi,hx'⟩
   rw [jobB,all_any J.ps,this];simp
  ·intro hx
   have hx':(!pieceB J.gs.length (J.ps.getD i default)) = false:=by
    rw [hg]
    revert hx
    cases inB (J.ps.getD i default).w 1 6<;>cases inB (J.ps.getD i default).h 1 6<;>cases inB (J.ps.getD i default).g 0 (J.gs.length - 1)<;>simp
   (refine Ok.skip ?_;(try dsimp only [thenK,blockK,noGotoK]))
   (first|refine qE ?_|refine qD ?_);(simp only [go_sem,↓dP,↓reduceIte];with_reducible and_intros;all_goals first|apply qA|exact qC|skip)
   (try dsimp only [thenK,blockK,noGotoK])
   refine ⟨no_step (q:=fun p => !pieceB J.gs.length p) hi h0 hx',?_⟩
   (refine Sub.of ([0]) ([]) ?_ ?_ ?_ rfl rfl<;>simp only [subB,subB1,subT,subT1,newT,subE,subV,subL,go_sem,↓dP,↓reduceIte]<;>(try (repeat' with_reducible apply And.intro))<;>(try first | exact DEq.refl _ | refine DEq.int ?_ | refine DEq.bool ?_ | omega))
 ·intro h0
  have hps:J.ps.any (fun p => !pieceB J.gs.length p) = false:=List.any_eq_false.2 (fun x hx => by simp [h0 x (by simpa using hx)])
  refine Ok.seq ?_;((first|refine qE ?_|refine qD ?_);(simp only [go_sem,↓dP,↓reduceIte];with_reducible and_intros;all_goals first|apply qA|exact qC|skip));refine Ok.cond rfl (fun hb => by simp at hb) (fun _ => ?_);(refine Ok.exit ?_;simp only [thenK_exit,blockK_exit,noGotoK_exit,thenK_normal,blockK_normal,noGotoK_normal,↓reduceIte,Nat.reduceEqDiff])
  (first|refine qE ?_|refine qD ?_);(simp only [go_sem,↓dP,↓reduceIte];with_reducible and_intros;all_goals first|apply qA|exact qC|skip)
  (refine Ok.ret ?_;(try dsimp only [thenK,blockK,noGotoK]);simp only [toList_mk,List.toList_toArray,retK_ret,retK_normal,resOK,resV,celV,rowV,frzAll,frzT,subV,subL,go_sem,↓dP,↓reduceIte])
  refine DEq.bool ?_
  rw [jobB,hhead,all_any,all_any,hgs,hps]
  rfl
theorem c_rpower (n:Nat) (h:n<=20):Ctr Tryz.prog 80 [iS n] (iS (2 ^ n:Nat)):=by
 have hp:2 ^ n<=2 ^ 20:=Nat.pow_le_pow_right (by decide) h
 have hpc:(1:Int) * 2 ^ n = ((2 ^ n:Nat):Int):=by simp
 (refine Ctr.mk (fn:=Tryz.f80) rfl rfl rfl rfl rfl Tryz.results80 ?_;intro _;dsimp only [args,List.toList_toArray])
 (first|refine qE ?_|refine qD ?_);(simp only [go_sem,↓dP,↓reduceIte];with_reducible and_intros;all_goals first|apply qA|exact qC|skip)
 (first|refine qE ?_|refine qD ?_);(simp only [go_sem,↓dP,↓reduceIte];with_reducible and_intros;all_goals first|apply qA|exact qC|skip)
 ·rw [hpc];generalize 2 ^ n = P at hp ⊢;exact R64 (by omega) (by omega)
 (refine Ok.ret ?_;(try dsimp only [thenK,blockK,noGotoK]);simp only [toList_mk,List.toList_toArray,retK_ret,retK_normal,resOK,resV,celV,rowV,frzAll,frzT,subV,subL,go_sem,↓dP,↓reduceIte])
 refine DEq.int ?_
 simp
theorem c_rhas (s n:Nat) (hs:s < 1024) (h:n<=20):Ctr Tryz.prog 135 [iS s,iS n] (bS (s.testBit n)):=by
 have hp:2 ^ n<=2 ^ 20:=Nat.pow_le_pow_right (by decide) h
 have hand:=bits_and_i64 s (2 ^ n) (by omega) (by omega)
 (refine Ctr.mk (fn:=Tryz.f135) rfl rfl rfl rfl rfl Tryz.results135 ?_;intro _;dsimp only [args,List.toList_toArray])
 (first|refine qE ?_|refine qD ?_);(simp only [go_sem,↓dP,↓reduceIte];with_reducible and_intros;all_goals first|apply qA|exact qC|skip)
 (first|refine qE ?_|refine qD ?_);(simp only [go_sem,↓dP,↓reduceIte];with_reducible and_intros;all_goals first|apply qA|exact qC|skip)
 (refine AskI.ret (c_rpower n h) ?_;simp only [go_sem,↓dP,↓reduceIte];with_reducible and_intros;all_goals first|apply qA|exact qC|skip)
 (refine Ok.ret ?_;(try dsimp only [thenK,blockK,noGotoK]);simp only [toList_mk,List.toList_toArray,retK_ret,retK_normal,resOK,resV,celV,rowV,frzAll,frzT,subV,subL,go_sem,↓dP,↓reduceIte])
 refine DEq.bool ?_
 rw [hand,← and_bit,Bool.eq_iff_iff]
 simp only [bne_iff_ne];omega
theorem c_rpart (t s:Nat) (ht:t < 1024) (hs:s < 1024):Ctr Tryz.prog 136 [iS t,iS s] (bS (decide (t &&& s = t))):=by
 have hand:=bits_and_i64 t s (by omega) (by omega)
 (refine Ctr.mk (fn:=Tryz.f136) rfl rfl rfl rfl rfl Tryz.results136 ?_;intro _;dsimp only [args,List.toList_toArray])
 (first|refine qE ?_|refine qD ?_);(simp only [go_sem,↓dP,↓reduceIte];with_reducible and_intros;all_goals first|apply qA|exact qC|skip)
 (first|refine qE ?_|refine qD ?_);(simp only [go_sem,↓dP,↓reduceIte];with_reducible and_intros;all_goals first|apply qA|exact qC|skip)
 (refine Ok.ret ?_;(try dsimp only [thenK,blockK,noGotoK]);simp only [toList_mk,List.toList_toArray,retK_ret,retK_normal,resOK,resV,celV,rowV,frzAll,frzT,subV,subL,go_sem,↓dP,↓reduceIte])
 refine DEq.bool ?_
 rw [hand,Bool.eq_iff_iff]
 simp only [beq_iff_eq,decide_eq_true_eq];omega
def bitsOf (s k:Nat):List Nat:=(List.range k).filter (fun n => s.testBit n)
theorem bitsOf_succ (s k:Nat):bitsOf s (k + 1) = if s.testBit k = true then bitsOf s k ++ [k] else bitsOf s k:=by
 unfold bitsOf
 rw [List.range_succ,List.filter_append]
 cases h:s.testBit k<;>simp [h]
def oneI:List Nat->Int
 | [i] => i
 | _ => -1
theorem oneI_many {L:List Nat} (h:2<=L.length):oneI L = -1:=by
 match L,h with
 | _ :: _ :: _,_ => rfl
theorem c_rsingle (s n:Nat) (hs:s < 1024) (hn:n<=20):Ctr Tryz.prog 112 [iS s,iS n] (iS (oneI (bitsOf s n))):=by
 (refine Ctr.mk (fn:=Tryz.f112) rfl rfl rfl rfl rfl Tryz.results112 ?_;intro _;dsimp only [args,List.toList_toArray])
 (first|refine qE ?_|refine qD ?_);(simp only [go_sem,↓dP,↓reduceIte];with_reducible and_intros;all_goals first|apply qA|exact qC|skip)
 (first|refine qE ?_|refine qD ?_);(simp only [go_sem,↓dP,↓reduceIte];with_reducible and_intros;all_goals first|apply qA|exact qC|skip)
 refine Ok.seq ?_
 (first|refine qE ?_|refine qD ?_);(simp only [go_sem,↓dP,↓reduceIte];with_reducible and_intros;all_goals first|apply qA|exact qC|skip)
 refine Ok.block ?_
 refine Ok.count n (fun i => ⟨[(0,iS s),(1,iS n),(5,iS (oneI (bitsOf s i))),(6,iS i)],[],[]⟩) (fun i => (bitsOf s i).length<=1) ⟨by simp [bitsOf],?_⟩ ?_ ?_
 ·(refine Sub.of ([]) ([]) ?_ ?_ ?_ rfl rfl<;>simp only [subB,subB1,subT,subT1,newT,subE,subV,subL,go_sem,↓dP,↓reduceIte]<;>(try (repeat' with_reducible apply And.intro))<;>(try first | exact DEq.refl _ | refine DEq.int ?_ | refine DEq.bool ?_ | omega))
 ·intro i hi hlen
  have hsn:=bitsOf_succ s i
  refine Ok.seq ?_;((first|refine qE ?_|refine qD ?_);(simp only [go_sem,↓dP,↓reduceIte];with_reducible and_intros;all_goals first|apply qA|exact qC|skip));refine Ok.cond rfl (fun _ => ?_) (fun hb => by simp at hb;omega);(refine Ok.skip ?_;(try dsimp only [thenK,blockK,noGotoK]));refine Ok.seq ?_;refine Ok.block ?_
  (first|refine qE ?_|refine qD ?_);(simp only [go_sem,↓dP,↓reduceIte];with_reducible and_intros;all_goals first|apply qA|exact qC|skip)
  (refine AskI.ret (c_rhas s i hs (by omega)) ?_;simp only [go_sem,↓dP,↓reduceIte];with_reducible and_intros;all_goals first|apply qA|exact qC|skip)
  refine Ok.cond rfl ?_ ?_
  ·intro hb
   rw [if_pos hb] at hsn
   refine Ok.seq ?_
   (first|refine qE ?_|refine qD ?_);(simp only [go_sem,↓dP,↓reduceIte];with_reducible and_intros;all_goals first|apply qA|exact qC|skip)
   refine Ok.cond rfl ?_ ?_
   ·intro hb2
    (first|refine qE ?_|refine qD ?_);(simp only [go_sem,↓dP,↓reduceIte];with_reducible and_intros;all_goals first|apply qA|exact qC|skip)
    (refine Ok.ret ?_;(try dsimp only [thenK,blockK,noGotoK]);simp only [toList_mk,List.toList_toArray,retK_ret,retK_normal,resOK,resV,celV,rowV,frzAll,frzT,subV,subL,go_sem,↓dP,↓reduceIte])
    refine DEq.int ?_
    have h1:(bitsOf s i).length = 1:=by
     match hL:bitsOf s i,hlen with
     | [],_ => rw [hL] at hb2;simp [oneI] at hb2
     | [x],_ => rfl
    have h2:2<=(bitsOf s n).length:=by
     have hsub:(bitsOf s (i + 1)).length<=(bitsOf s n).length:=by
      unfold bitsOf
      refine (List.Sublist.filter _ ?_).length_le
      exact List.range_sublist.2 (by omega)
     rw [hsn,List.length_append,h1] at hsub
     simpa using hsub
    rw [oneI_many h2]
   ·intro hb2
    have h1:bitsOf s i = []:=by
     match hL:bitsOf s i,hlen with
     | [],_ => rfl
     | [x],_ => rw [hL] at hb2;simp [oneI] at hb2
    (refine Ok.skip ?_;(try dsimp only [thenK,blockK,noGotoK]))
    (first|refine qE ?_|refine qD ?_);(simp only [go_sem,↓dP,↓reduceIte];with_reducible and_intros;all_goals first|apply qA|exact qC|skip)
    (try dsimp only [thenK,blockK,noGotoK])
    (first|refine qE ?_|refine qD ?_);(simp only [go_sem,↓dP,↓reduceIte];with_reducible and_intros;all_goals first|apply qA|exact qC|skip)
    (try dsimp only [thenK,blockK,noGotoK])
    refine ⟨by rw [hsn,h1];simp,?_⟩
    (refine Sub.of ([]) ([]) ?_ ?_ ?_ rfl rfl<;>simp only [subB,subB1,subT,subT1,newT,subE,subV,subL,go_sem,↓dP,↓reduceIte]<;>(try (repeat' with_reducible apply And.intro))<;>(try first | exact DEq.refl _ | refine DEq.int ?_ | refine DEq.bool ?_ | omega))
    rw [hsn,h1];rfl
  ·intro hb
   rw [if_neg (by rw [hb];simp)] at hsn
   (refine Ok.skip ?_;(try dsimp only [thenK,blockK,noGotoK]))
   (try dsimp only [thenK,blockK,noGotoK])
   (first|refine qE ?_|refine qD ?_);(simp only [go_sem,↓dP,↓reduceIte];with_reducible and_intros;all_goals first|apply qA|exact qC|skip)
   (try dsimp only [thenK,blockK,noGotoK])
   refine ⟨by rw [hsn];exact hlen,?_⟩
   (refine Sub.of ([]) ([]) ?_ ?_ ?_ rfl rfl<;>simp only [subB,subB1,subT,subT1,newT,subE,subV,subL,go_sem,↓dP,↓reduceIte]<;>(try (repeat' with_reducible apply And.intro))<;>(try first | exact DEq.refl _ | refine DEq.int ?_ | refine DEq.bool ?_ | omega))
   rw [hsn]
 ·intro _
  refine Ok.seq ?_;((first|refine qE ?_|refine qD ?_);(simp only [go_sem,↓dP,↓reduceIte];with_reducible and_intros;all_goals first|apply qA|exact qC|skip));refine Ok.cond rfl (fun hb => by simp at hb) (fun _ => ?_);(refine Ok.exit ?_;simp only [thenK_exit,blockK_exit,noGotoK_exit,thenK_normal,blockK_normal,noGotoK_normal,↓reduceIte,Nat.reduceEqDiff])
  (first|refine qE ?_|refine qD ?_);(simp only [go_sem,↓dP,↓reduceIte];with_reducible and_intros;all_goals first|apply qA|exact qC|skip)
  (refine Ok.ret ?_;(try dsimp only [thenK,blockK,noGotoK]);simp only [toList_mk,List.toList_toArray,retK_ret,retK_normal,resOK,resV,celV,rowV,frzAll,frzT,subV,subL,go_sem,↓dP,↓reduceIte])
  exact .refl _
theorem bitsOf_one {s n i:Nat} (hs:s < 2 ^ n) (h:bitsOf s n = [i]):i < n/\s = 2 ^ i:=by
 have hm:∀ k,k∈bitsOf s n ↔ k < n/\s.testBit k = true:=fun k => by simp [bitsOf]
 have h1:i < n/\s.testBit i = true:=(hm i).1 (by rw [h];simp)
 refine ⟨h1.1,Nat.eq_of_testBit_eq (fun k => ?_)⟩
 rw [Nat.testBit_two_pow]
 by_cases e:i = k
 ·subst e;rw [h1.2];simp
 ·rw [decide_eq_false e]
  cases hk:s.testBit k with
  | false => rfl
  | true =>
   exfalso
   have hkn:k < n:=by
    rcases Nat.lt_or_ge k n with h2 | h2
    ·exact h2
    ·rw [bit_lt hs h2] at hk;cases hk
   have:=(hm k).2 ⟨hkn,hk⟩
   rw [h] at this
   simp at this
   exact e this.symm
theorem bitsOf_pow {n i:Nat} (hi:i < n):bitsOf (2 ^ i) n = [i]:=by
 induction n with
 | zero => omega
 | succ n ih =>
  rw [bitsOf_succ,Nat.testBit_two_pow]
  by_cases e:i = n
  ·subst e
   rw [if_pos (by simp)]
   have:bitsOf (2 ^ i) i = []:=by
    unfold bitsOf
    rw [List.filter_eq_nil_iff]
    intro k hk
    have:=List.mem_range.1 hk
    rw [Nat.testBit_two_pow]
    simp;omega
   rw [this];rfl
  ·rw [if_neg (by simpa using e),ih (by omega)]
theorem oneI_alone {ps:List Piece} {s w h:Nat} (hs:s < 2 ^ ps.length):(decide (0<=oneI (bitsOf s ps.length)) && alone (ps.getD (oneI (bitsOf s ps.length)).toNat default) w h) = (List.range ps.length).any (fun n => decide (s = 2 ^ n) && alone (ps.getD n default) w h):=by
 rw [Bool.eq_iff_iff,any_iff]
 simp only [List.mem_range,Bool.and_eq_true,decide_eq_true_eq]
 constructor
 ·rintro ⟨h1,h2⟩
  match hL:bitsOf s ps.length with
  | [] => rw [hL] at h1;simp [oneI] at h1
  | [i] =>
   obtain ⟨g1,g2⟩:=bitsOf_one hs hL
   rw [hL] at h2
   exact ⟨i,g1,g2,by simpa [oneI] using h2⟩
  | _ :: _ :: _ => rw [hL] at h1;simp [oneI] at h1
 ·rintro ⟨n,h1,rfl,h3⟩
  rw [bitsOf_pow h1]
  exact ⟨by simp [oneI],by simpa [oneI] using h3⟩
def rowT (ps:List Piece) (s w h:Nat):List Bool:=false :: (List.range h).map (fun k => can ps w (k + 1) s)
def rowsT (ps:List Piece) (s H w:Nat):List (List Bool):=[] :: (List.range w).map (fun k => rowT ps s (k + 1) H)
def tabT (ps:List Piece) (W H n:Nat):List (List (List Bool)):=(List.range n).map (fun s => rowsT ps s H W)
theorem rowT_len (ps:List Piece) (s w h:Nat):(rowT ps s w h).length = h + 1:=by simp [rowT]
theorem rowsT_len (ps:List Piece) (s H w:Nat):(rowsT ps s H w).length = w + 1:=by simp [rowsT]
theorem tabT_len (ps:List Piece) (W H n:Nat):(tabT ps W H n).length = n:=by simp [tabT]
theorem rowT_at (ps:List Piece) (s w:Nat) {h k:Nat} (h1:0 < k) (h2:k<=h):(rowT ps s w h).getD k default = can ps w k s:=by
 obtain ⟨j,rfl⟩:∃ j,k = j + 1:=⟨k - 1,by omega⟩
 have hj:j < h:=by omega
 simp [rowT,List.getD_eq_getElem?_getD,hj]
theorem rowsT_at (ps:List Piece) (s H:Nat) {w k:Nat} (h1:0 < k) (h2:k<=w):(rowsT ps s H w).getD k default = rowT ps s k H:=by
 obtain ⟨j,rfl⟩:∃ j,k = j + 1:=⟨k - 1,by omega⟩
 have hj:j < w:=by omega
 simp [rowsT,List.getD_eq_getElem?_getD,hj]
theorem tabT_at (ps:List Piece) (W H:Nat) {n s:Nat} (h:s < n):(tabT ps W H n).getD s default = rowsT ps s H W:=by
 simp [tabT,List.getD_eq_getElem?_getD,h]
theorem rowT_succ (ps:List Piece) (s w h:Nat):rowT ps s w (h + 1) = rowT ps s w h ++ [can ps w (h + 1) s]:=by simp [rowT,List.range_succ]
theorem rowsT_succ (ps:List Piece) (s H w:Nat):rowsT ps s H (w + 1) = rowsT ps s H w ++ [rowT ps s (w + 1) H]:=by simp [rowsT,List.range_succ]
theorem tabT_succ (ps:List Piece) (W H n:Nat):tabT ps W H (n + 1) = tabT ps W H n ++ [rowsT ps n H W]:=by simp [tabT,List.range_succ]
theorem c_rcut (ps:List Piece) (W H s t n h k:Nat) (hs:s < 1024) (ht:t<=s) (n0:0 < n) (n1:n<=W) (h0:0 < h) (h1:h<=H) (hk:t = s->n<=k) (hW:W<=6) (hH:H<=6) (hk6:k<=6) :
  Ctr Tryz.prog 137 [.d (slD 1 rowsD (tabT ps W H s)),.d (slD 1 rowD (rowsT ps s H k)),iS s,iS t,iS n,iS h] (bS (can ps n h t)):=by
 have l1:=rowsT_len ps s H k
 have l2:=tabT_len ps W H s
 (refine Ctr.mk (fn:=Tryz.f137) rfl rfl rfl rfl rfl Tryz.results137 ?_;intro _;dsimp only [args,List.toList_toArray])
 (first|refine qE ?_|refine qD ?_);(simp only [go_sem,↓dP,↓reduceIte];with_reducible and_intros;all_goals first|apply qA|exact qC|skip)
 refine Ok.seq ?_
 (first|refine qE ?_|refine qD ?_);(simp only [go_sem,↓dP,↓reduceIte];with_reducible and_intros;all_goals first|apply qA|exact qC|skip)
 refine Ok.cond rfl ?_ ?_
 ·intro hb
  have e:t = s:=by simp at hb;omega
  have hnk:=hk e
  have e1:=rowsT_at ps s H n0 hnk
  have l3:((rowsT ps s H k).getD n default).length = H + 1:=by rw [e1,rowT_len]
  (first|refine qE ?_|refine qD ?_);(simp only [go_sem,↓dP,↓reduceIte];with_reducible and_intros;all_goals first|apply qA|exact qC|skip)
  (refine Ok.ret ?_;(try dsimp only [thenK,blockK,noGotoK]);simp only [toList_mk,List.toList_toArray,retK_ret,retK_normal,resOK,resV,celV,rowV,frzAll,frzT,subV,subL,go_sem,↓dP,↓reduceIte])
  refine DEq.bool ?_
  rw [e1,rowT_at ps s n h0 h1,e]
 ·intro hb
  have e:t < s:=by simp at hb;omega
  have e1:=tabT_at ps W H e
  have e2:=rowsT_at ps t H n0 n1
  have l3:((tabT ps W H s).getD t default).length = W + 1:=by rw [e1,rowsT_len]
  have l4:(((tabT ps W H s).getD t default).getD n default).length = H + 1:=by rw [e1,e2,rowT_len]
  (refine Ok.skip ?_;(try dsimp only [thenK,blockK,noGotoK]))
  (first|refine qE ?_|refine qD ?_);(simp only [go_sem,↓dP,↓reduceIte];with_reducible and_intros;all_goals first|apply qA|exact qC|skip)
  (refine Ok.ret ?_;(try dsimp only [thenK,blockK,noGotoK]);simp only [toList_mk,List.toList_toArray,retK_ret,retK_normal,resOK,resV,celV,rowV,frzAll,frzT,subV,subL,go_sem,↓dP,↓reduceIte])
  refine DEq.bool ?_
  rw [e1,e2,rowT_at ps t n h0 h1]
theorem c_rlow (ps:List Piece) (W H s t w h k:Nat) (hs:s < 1024) (ht:t<=s) (n0:0 < w) (n1:w<=W) (h0:0 < h) (h1:h<=H) (hk:t = s->h<=k) (hW:W<=6) (hH:H<=6) (hk6:k<=6) :
  Ctr Tryz.prog 138 [.d (slD 1 rowsD (tabT ps W H s)),.d (slD 1 boolD (rowT ps s w k)),iS s,iS t,iS w,iS h] (bS (can ps w h t)):=by
 have l1:=rowT_len ps s w k
 have l2:=tabT_len ps W H s
 (refine Ctr.mk (fn:=Tryz.f138) rfl rfl rfl rfl rfl Tryz.results138 ?_;intro _;dsimp only [args,List.toList_toArray])
 (first|refine qE ?_|refine qD ?_);(simp only [go_sem,↓dP,↓reduceIte];with_reducible and_intros;all_goals first|apply qA|exact qC|skip)
 refine Ok.seq ?_
 (first|refine qE ?_|refine qD ?_);(simp only [go_sem,↓dP,↓reduceIte];with_reducible and_intros;all_goals first|apply qA|exact qC|skip)
 refine Ok.cond rfl ?_ ?_
 ·intro hb
  have e:t = s:=by simp at hb;omega
  have hnk:=hk e
  (first|refine qE ?_|refine qD ?_);(simp only [go_sem,↓dP,↓reduceIte];with_reducible and_intros;all_goals first|apply qA|exact qC|skip)
  (refine Ok.ret ?_;(try dsimp only [thenK,blockK,noGotoK]);simp only [toList_mk,List.toList_toArray,retK_ret,retK_normal,resOK,resV,celV,rowV,frzAll,frzT,subV,subL,go_sem,↓dP,↓reduceIte])
  refine DEq.bool ?_
  rw [rowT_at ps s w h0 hnk,e]
 ·intro hb
  have e:t < s:=by simp at hb;omega
  have e1:=tabT_at ps W H e
  have e2:=rowsT_at ps t H n0 n1
  have l3:((tabT ps W H s).getD t default).length = W + 1:=by rw [e1,rowsT_len]
  have l4:(((tabT ps W H s).getD t default).getD w default).length = H + 1:=by rw [e1,e2,rowT_len]
  (refine Ok.skip ?_;(try dsimp only [thenK,blockK,noGotoK]))
  (first|refine qE ?_|refine qD ?_);(simp only [go_sem,↓dP,↓reduceIte];with_reducible and_intros;all_goals first|apply qA|exact qC|skip)
  (refine Ok.ret ?_;(try dsimp only [thenK,blockK,noGotoK]);simp only [toList_mk,List.toList_toArray,retK_ret,retK_normal,resOK,resV,celV,rowV,frzAll,frzT,subV,subL,go_sem,↓dP,↓reduceIte])
  refine DEq.bool ?_
  rw [e1,e2,rowT_at ps t w h0 h1]
end Go.Proofs.Leaf
namespace Go.Proofs.Leaf
open Go Go.RX Go.Proofs
set_option maxRecDepth 10000
variable [Glob]
def qL (ps:List Piece) (w h s n t:Nat):Bool:=decide (t &&& s = t) && can ps w n t && can ps w (h - n) (s - t)
def divU (ps:List Piece) (w h s:Nat):Bool:=(List.range w).any (fun n => decide (n ≠ 0) && (List.range (s + 1)).any (fun t => qU ps w h s n t))
def divL (ps:List Piece) (w h s:Nat):Bool:=(List.range h).any (fun n => decide (n ≠ 0) && (List.range (s + 1)).any (fun t => qL ps w h s n t))
def divB (ps:List Piece) (w h s:Nat):Bool:=divU ps w h s || divL ps w h s
theorem divU_yes {ps:List Piece} {w h s n t:Nat} (h0:0 < n) (h1:n < w) (ht:t<=s) (hq:qU ps w h s n t = true):divU ps w h s = true:=by
 rw [divU,any_iff]
 refine ⟨n,List.mem_range.2 h1,?_⟩
 rw [Bool.and_eq_true,decide_eq_true_eq,any_iff]
 exact ⟨by omega,t,List.mem_range.2 (by omega),hq⟩
theorem divL_yes {ps:List Piece} {w h s n t:Nat} (h0:0 < n) (h1:n < h) (ht:t<=s) (hq:qL ps w h s n t = true):divL ps w h s = true:=by
 rw [divL,any_iff]
 refine ⟨n,List.mem_range.2 h1,?_⟩
 rw [Bool.and_eq_true,decide_eq_true_eq,any_iff]
 exact ⟨by omega,t,List.mem_range.2 (by omega),hq⟩
theorem divU_no {ps:List Piece} {w h s:Nat} (hq:∀ n,0 < n->n < w->∀ t,t < s + 1->qU ps w h s n t = false):divU ps w h s = false:=by
 rw [divU,List.any_eq_false]
 intro n hn
 rw [Bool.and_eq_true,decide_eq_true_eq,any_iff]
 rintro ⟨h0,t,ht,h1⟩
 rw [hq n (by omega) (List.mem_range.1 hn) t (List.mem_range.1 ht)] at h1;cases h1
theorem divL_no {ps:List Piece} {w h s:Nat} (hq:∀ n,0 < n->n < h->∀ t,t < s + 1->qL ps w h s n t = false):divL ps w h s = false:=by
 rw [divL,List.any_eq_false]
 intro n hn
 rw [Bool.and_eq_true,decide_eq_true_eq,any_iff]
 rintro ⟨h0,t,ht,h1⟩
 rw [hq n (by omega) (List.mem_range.1 hn) t (List.mem_range.1 ht)] at h1;cases h1
theorem tab_can {ps:List Piece} (hg:good ps) {w h s:Nat}:(decide (s = 0) || (List.range ps.length).any (fun n => decide (s = 2 ^ n) && alone (ps.getD n default) w h) || divB ps w h s) = can ps w h s:=by
 rw [← tabF_can hg (w + h + 1) w h s (by omega),tabF]
 congr 1
 unfold divB divU divL
 congr 1
 ·refine any_congr (fun n hn => ?_)
  have hn:=List.mem_range.1 hn
  by_cases hz:n = 0
  ·simp [hz]
  ·congr 1
   exact any_congr (fun t _ => by rw [qU,tabF_can hg (w + h) n h t (by omega),tabF_can hg (w + h) (w - n) h _ (by omega)])
 ·refine any_congr (fun n hn => ?_)
  have hn:=List.mem_range.1 hn
  by_cases hz:n = 0
  ·simp [hz]
  ·congr 1
   exact any_congr (fun t _ => by rw [qL,tabF_can hg (w + h) w n t (by omega),tabF_can hg (w + h) w (h - n) _ (by omega)])
set_option maxHeartbeats 2000000 in
theorem c_rdivided (ps:List Piece) (W H s w h:Nat) (hs:s < 1024) (w0:0 < w) (w1:w<=W) (h0:0 < h) (h1:h<=H) (hW:W<=6) (hH:H<=6) :
  Ctr Tryz.prog 114 [.d (slD 1 rowsD (tabT ps W H s)),.d (slD 1 rowD (rowsT ps s H (w - 1))),.d (slD 1 boolD (rowT ps s w (h - 1))),iS s,iS w,iS h] (bS (divB ps w h s)):=by
 (refine Ctr.mk (fn:=Tryz.f114) rfl rfl rfl rfl rfl Tryz.results114 ?_;intro _;dsimp only [args,List.toList_toArray])
 (first|refine qE ?_|refine qD ?_);(simp only [go_sem,↓dP,↓reduceIte];with_reducible and_intros;all_goals first|apply qA|exact qC|skip)
 refine Ok.seq ?_
 (first|refine qE ?_|refine qD ?_);(simp only [go_sem,↓dP,↓reduceIte];with_reducible and_intros;all_goals first|apply qA|exact qC|skip)
 refine Ok.block ?_
 refine Ok.count (w - 1) (fun i => ⟨[(0,.d (slD 1 rowsD (tabT ps W H s))),(1,.d (slD 1 rowD (rowsT ps s H (w - 1)))),(2,.d (slD 1 boolD (rowT ps s w (h - 1)))),(3,iS s),(4,iS w),(5,iS h),(13,iS (i + 1))],[],[]⟩)
  (fun i => ∀ n,0 < n->n < i + 1->∀ t,t < s + 1->qU ps w h s n t = false) ⟨fun n _ hn => by omega,?_⟩ ?_ ?_
 ·(refine Sub.of ([]) ([]) ?_ ?_ ?_ rfl rfl<;>simp only [subB,subB1,subT,subT1,newT,subE,subV,subL,go_sem,↓dP,↓reduceIte]<;>(try (repeat' with_reducible apply And.intro))<;>(try first | exact DEq.refl _ | refine DEq.int ?_ | refine DEq.bool ?_ | omega))
 ·intro i hi hJ
  refine Ok.seq ?_;((first|refine qE ?_|refine qD ?_);(simp only [go_sem,↓dP,↓reduceIte];with_reducible and_intros;all_goals first|apply qA|exact qC|skip));refine Ok.cond rfl (fun _ => ?_) (fun hb => by simp at hb;omega);(refine Ok.skip ?_;(try dsimp only [thenK,blockK,noGotoK]));refine Ok.seq ?_;refine Ok.block ?_
  (first|refine qE ?_|refine qD ?_);(simp only [go_sem,↓dP,↓reduceIte];with_reducible and_intros;all_goals first|apply qA|exact qC|skip)
  refine Ok.block ?_
  refine Ok.count (s + 1) (fun j => ⟨[(0,.d (slD 1 rowsD (tabT ps W H s))),(1,.d (slD 1 rowD (rowsT ps s H (w - 1)))),(2,.d (slD 1 boolD (rowT ps s w (h - 1)))),(3,iS s),(4,iS w),(5,iS h),(13,iS (i + 1)),(14,iS j)],[],[]⟩)
   (fun j => ∀ t,t < j->qU ps w h s (i + 1) t = false) ⟨fun t ht => by omega,?_⟩ ?_ ?_
  ·(refine Sub.of ([]) ([]) ?_ ?_ ?_ rfl rfl<;>simp only [subB,subB1,subT,subT1,newT,subE,subV,subL,go_sem,↓dP,↓reduceIte]<;>(try (repeat' with_reducible apply And.intro))<;>(try first | exact DEq.refl _ | refine DEq.int ?_ | refine DEq.bool ?_ | omega))
  ·intro j hj hJ2
   have a1:=c_rcut ps W H s j (i + 1) h (w - 1) hs (by omega) (by omega) (by omega) h0 h1 (fun _ => by omega) hW hH (by omega)
   have a2:=c_rcut ps W H s (s - j) (w - (i + 1)) h (w - 1) hs (by omega) (by omega) (by omega) h0 h1 (fun _ => by omega) hW hH (by omega)
   rw [show ((s - j:Nat):Int) = (s:Int) - j by omega,show ((w - (i + 1):Nat):Int) = (w:Int) - (i + 1) by omega] at a2
   rw [show ((i + 1:Nat):Int) = (i:Int) + 1 by omega] at a1
   refine Ok.seq ?_;((first|refine qE ?_|refine qD ?_);(simp only [go_sem,↓dP,↓reduceIte];with_reducible and_intros;all_goals first|apply qA|exact qC|skip));refine Ok.cond rfl (fun _ => ?_) (fun hb => by simp at hb;omega);(refine Ok.skip ?_;(try dsimp only [thenK,blockK,noGotoK]));refine Ok.seq ?_;refine Ok.block ?_
   (first|refine qE ?_|refine qD ?_);(simp only [go_sem,↓dP,↓reduceIte];with_reducible and_intros;all_goals first|apply qA|exact qC|skip)
   (refine AskI.ret (c_rpart j s (by omega) hs) ?_;simp only [go_sem,↓dP,↓reduceIte];with_reducible and_intros;all_goals first|apply qA|exact qC|skip)
   (refine AskGI.ret (fun _ => a1) ?_;simp only [go_sem,↓dP,↓reduceIte];with_reducible and_intros;all_goals first|apply qA|exact qC|skip)
   (refine AskGI.ret (fun _ => a2) ?_;simp only [go_sem,↓dP,↓reduceIte];with_reducible and_intros;all_goals first|apply qA|exact qC|skip)
   refine Ok.cond rfl ?_ ?_
   ·intro hx
    have hq:qU ps w h s (i + 1) j = true:=by
     unfold qU
     revert hx
     cases decide (j &&& s = j)<;>cases can ps (i + 1) h j<;>simp
    (first|refine qE ?_|refine qD ?_);(simp only [go_sem,↓dP,↓reduceIte];with_reducible and_intros;all_goals first|apply qA|exact qC|skip)
    (refine Ok.ret ?_;(try dsimp only [thenK,blockK,noGotoK]);simp only [toList_mk,List.toList_toArray,retK_ret,retK_normal,resOK,resV,celV,rowV,frzAll,frzT,subV,subL,go_sem,↓dP,↓reduceIte])
    refine DEq.bool ?_
    rw [divB,divU_yes (by omega) (by omega) (by omega) hq];rfl
   ·intro hx
    have hq:qU ps w h s (i + 1) j = false:=by
     unfold qU
     revert hx
     cases decide (j &&& s = j)<;>cases can ps (i + 1) h j<;>simp
    (refine Ok.skip ?_;(try dsimp only [thenK,blockK,noGotoK]))
    (first|refine qE ?_|refine qD ?_);(simp only [go_sem,↓dP,↓reduceIte];with_reducible and_intros;all_goals first|apply qA|exact qC|skip)
    (try dsimp only [thenK,blockK,noGotoK])
    refine ⟨fun t ht => ?_,?_⟩
    ·by_cases e:t = j
     ·subst e;exact hq
     ·exact hJ2 t (by omega)
    (refine Sub.of ([]) ([]) ?_ ?_ ?_ rfl rfl<;>simp only [subB,subB1,subT,subT1,newT,subE,subV,subL,go_sem,↓dP,↓reduceIte]<;>(try (repeat' with_reducible apply And.intro))<;>(try first | exact DEq.refl _ | refine DEq.int ?_ | refine DEq.bool ?_ | omega))
  ·intro hJ2
   refine Ok.seq ?_;((first|refine qE ?_|refine qD ?_);(simp only [go_sem,↓dP,↓reduceIte];with_reducible and_intros;all_goals first|apply qA|exact qC|skip));refine Ok.cond rfl (fun hb => by simp at hb;omega) (fun _ => ?_);(refine Ok.exit ?_;simp only [thenK_exit,blockK_exit,noGotoK_exit,thenK_normal,blockK_normal,noGotoK_normal,↓reduceIte,Nat.reduceEqDiff])
   (try dsimp only [thenK,blockK,noGotoK])
   (first|refine qE ?_|refine qD ?_);(simp only [go_sem,↓dP,↓reduceIte];with_reducible and_intros;all_goals first|apply qA|exact qC|skip)
   (try dsimp only [thenK,blockK,noGotoK])
   refine ⟨fun n hn0 hn t ht => ?_,?_⟩
   ·by_cases e:n = i + 1
    ·subst e;exact hJ2 t ht
    ·exact hJ n hn0 (by omega) t ht
   (refine Sub.of ([]) ([]) ?_ ?_ ?_ rfl rfl<;>simp only [subB,subB1,subT,subT1,newT,subE,subV,subL,go_sem,↓dP,↓reduceIte]<;>(try (repeat' with_reducible apply And.intro))<;>(try first | exact DEq.refl _ | refine DEq.int ?_ | refine DEq.bool ?_ | omega))
 intro hJ
 have hU:divU ps w h s = false:=divU_no (fun n hn0 hn t ht => hJ n hn0 (by omega) t ht)
 refine Ok.seq ?_;((first|refine qE ?_|refine qD ?_);(simp only [go_sem,↓dP,↓reduceIte];with_reducible and_intros;all_goals first|apply qA|exact qC|skip));refine Ok.cond rfl (fun hb => by simp at hb;omega) (fun _ => ?_);(refine Ok.exit ?_;simp only [thenK_exit,blockK_exit,noGotoK_exit,thenK_normal,blockK_normal,noGotoK_normal,↓reduceIte,Nat.reduceEqDiff])
 refine Ok.seq ?_
 (first|refine qE ?_|refine qD ?_);(simp only [go_sem,↓dP,↓reduceIte];with_reducible and_intros;all_goals first|apply qA|exact qC|skip)
 refine Ok.block ?_
 refine Ok.count (h - 1) (fun i => ⟨[(0,.d (slD 1 rowsD (tabT ps W H s))),(1,.d (slD 1 rowD (rowsT ps s H (w - 1)))),(2,.d (slD 1 boolD (rowT ps s w (h - 1)))),(3,iS s),(4,iS w),(5,iS h),(15,iS (i + 1))],[],[]⟩)
  (fun i => ∀ n,0 < n->n < i + 1->∀ t,t < s + 1->qL ps w h s n t = false) ⟨fun n _ hn => by omega,?_⟩ ?_ ?_
 ·(refine Sub.of ([]) ([]) ?_ ?_ ?_ rfl rfl<;>simp only [subB,subB1,subT,subT1,newT,subE,subV,subL,go_sem,↓dP,↓reduceIte]<;>(try (repeat' with_reducible apply And.intro))<;>(try first | exact DEq.refl _ | refine DEq.int ?_ | refine DEq.bool ?_ | omega))
 ·intro i hi hJ
  refine Ok.seq ?_;((first|refine qE ?_|refine qD ?_);(simp only [go_sem,↓dP,↓reduceIte];with_reducible and_intros;all_goals first|apply qA|exact qC|skip));refine Ok.cond rfl (fun _ => ?_) (fun hb => by simp at hb;omega);(refine Ok.skip ?_;(try dsimp only [thenK,blockK,noGotoK]));refine Ok.seq ?_;refine Ok.block ?_
  (first|refine qE ?_|refine qD ?_);(simp only [go_sem,↓dP,↓reduceIte];with_reducible and_intros;all_goals first|apply qA|exact qC|skip)
  refine Ok.block ?_
  refine Ok.count (s + 1) (fun j => ⟨[(0,.d (slD 1 rowsD (tabT ps W H s))),(1,.d (slD 1 rowD (rowsT ps s H (w - 1)))),(2,.d (slD 1 boolD (rowT ps s w (h - 1)))),(3,iS s),(4,iS w),(5,iS h),(15,iS (i + 1)),(16,iS j)],[],[]⟩)
   (fun j => ∀ t,t < j->qL ps w h s (i + 1) t = false) ⟨fun t ht => by omega,?_⟩ ?_ ?_
  ·(refine Sub.of ([]) ([]) ?_ ?_ ?_ rfl rfl<;>simp only [subB,subB1,subT,subT1,newT,subE,subV,subL,go_sem,↓dP,↓reduceIte]<;>(try (repeat' with_reducible apply And.intro))<;>(try first | exact DEq.refl _ | refine DEq.int ?_ | refine DEq.bool ?_ | omega))
  ·intro j hj hJ2
   have a1:=c_rlow ps W H s j w (i + 1) (h - 1) hs (by omega) w0 w1 (by omega) (by omega) (fun _ => by omega) hW hH (by omega)
   have a2:=c_rlow ps W H s (s - j) w (h - (i + 1)) (h - 1) hs (by omega) w0 w1 (by omega) (by omega) (fun _ => by omega) hW hH (by omega)
   rw [show ((s - j:Nat):Int) = (s:Int) - j by omega,show ((h - (i + 1):Nat):Int) = (h:Int) - (i + 1) by omega] at a2
   rw [show ((i + 1:Nat):Int) = (i:Int) + 1 by omega] at a1
   refine Ok.seq ?_;((first|refine qE ?_|refine qD ?_);(simp only [go_sem,↓dP,↓reduceIte];with_reducible and_intros;all_goals first|apply qA|exact qC|skip));refine Ok.cond rfl (fun _ => ?_) (fun hb => by simp at hb;omega);(refine Ok.skip ?_;(try dsimp only [thenK,blockK,noGotoK]));refine Ok.seq ?_;refine Ok.block ?_
   (first|refine qE ?_|refine qD ?_);(simp only [go_sem,↓dP,↓reduceIte];with_reducible and_intros;all_goals first|apply qA|exact qC|skip)
   (refine AskI.ret (c_rpart j s (by omega) hs) ?_;simp only [go_sem,↓dP,↓reduceIte];with_reducible and_intros;all_goals first|apply qA|exact qC|skip)
   (refine AskGI.ret (fun _ => a1) ?_;simp only [go_sem,↓dP,↓reduceIte];with_reducible and_intros;all_goals first|apply qA|exact qC|skip)
   (refine AskGI.ret (fun _ => a2) ?_;simp only [go_sem,↓dP,↓reduceIte];with_reducible and_intros;all_goals first|apply qA|exact qC|skip)
   refine Ok.cond rfl ?_ ?_
   ·intro hx
    have hq:qL ps w h s (i + 1) j = true:=by
     unfold qL
     revert hx
     cases decide (j &&& s = j)<;>cases can ps w (i + 1) j<;>simp
    (first|refine qE ?_|refine qD ?_);(simp only [go_sem,↓dP,↓reduceIte];with_reducible and_intros;all_goals first|apply qA|exact qC|skip)
    (refine Ok.ret ?_;(try dsimp only [thenK,blockK,noGotoK]);simp only [toList_mk,List.toList_toArray,retK_ret,retK_normal,resOK,resV,celV,rowV,frzAll,frzT,subV,subL,go_sem,↓dP,↓reduceIte])
    refine DEq.bool ?_
    rw [divB,divL_yes (by omega) (by omega) (by omega) hq,Bool.or_true]
   ·intro hx
    have hq:qL ps w h s (i + 1) j = false:=by
     unfold qL
     revert hx
     cases decide (j &&& s = j)<;>cases can ps w (i + 1) j<;>simp
    (refine Ok.skip ?_;(try dsimp only [thenK,blockK,noGotoK]))
    (first|refine qE ?_|refine qD ?_);(simp only [go_sem,↓dP,↓reduceIte];with_reducible and_intros;all_goals first|apply qA|exact qC|skip)
    (try dsimp only [thenK,blockK,noGotoK])
    refine ⟨fun t ht => ?_,?_⟩
    ·by_cases e:t = j
     ·subst e;exact hq
     ·exact hJ2 t (by omega)
    (refine Sub.of ([]) ([]) ?_ ?_ ?_ rfl rfl<;>simp only [subB,subB1,subT,subT1,newT,subE,subV,subL,go_sem,↓dP,↓reduceIte]<;>(try (repeat' with_reducible apply And.intro))<;>(try first | exact DEq.refl _ | refine DEq.int ?_ | refine DEq.bool ?_ | omega))
  ·intro hJ2
   refine Ok.seq ?_;((first|refine qE ?_|refine qD ?_);(simp only [go_sem,↓dP,↓reduceIte];with_reducible and_intros;all_goals first|apply qA|exact qC|skip));refine Ok.cond rfl (fun hb => by simp at hb;omega) (fun _ => ?_);(refine Ok.exit ?_;simp only [thenK_exit,blockK_exit,noGotoK_exit,thenK_normal,blockK_normal,noGotoK_normal,↓reduceIte,Nat.reduceEqDiff])
   (try dsimp only [thenK,blockK,noGotoK])
   (first|refine qE ?_|refine qD ?_);(simp only [go_sem,↓dP,↓reduceIte];with_reducible and_intros;all_goals first|apply qA|exact qC|skip)
   (try dsimp only [thenK,blockK,noGotoK])
   refine ⟨fun n hn0 hn t ht => ?_,?_⟩
   ·by_cases e:n = i + 1
    ·subst e;exact hJ2 t ht
    ·exact hJ n hn0 (by omega) t ht
   (refine Sub.of ([]) ([]) ?_ ?_ ?_ rfl rfl<;>simp only [subB,subB1,subT,subT1,newT,subE,subV,subL,go_sem,↓dP,↓reduceIte]<;>(try (repeat' with_reducible apply And.intro))<;>(try first | exact DEq.refl _ | refine DEq.int ?_ | refine DEq.bool ?_ | omega))
 intro hJ
 have hL:divL ps w h s = false:=divL_no (fun n hn0 hn t ht => hJ n hn0 (by omega) t ht)
 refine Ok.seq ?_;((first|refine qE ?_|refine qD ?_);(simp only [go_sem,↓dP,↓reduceIte];with_reducible and_intros;all_goals first|apply qA|exact qC|skip));refine Ok.cond rfl (fun hb => by simp at hb;omega) (fun _ => ?_);(refine Ok.exit ?_;simp only [thenK_exit,blockK_exit,noGotoK_exit,thenK_normal,blockK_normal,noGotoK_normal,↓reduceIte,Nat.reduceEqDiff])
 (first|refine qE ?_|refine qD ?_);(simp only [go_sem,↓dP,↓reduceIte];with_reducible and_intros;all_goals first|apply qA|exact qC|skip)
 (refine Ok.ret ?_;(try dsimp only [thenK,blockK,noGotoK]);simp only [toList_mk,List.toList_toArray,retK_ret,retK_normal,resOK,resV,celV,rowV,frzAll,frzT,subV,subL,go_sem,↓dP,↓reduceIte])
 refine DEq.bool ?_
 rw [divB,hU,hL];rfl
set_option maxHeartbeats 2000000 in
theorem c_rTable (ps : List Piece) (W H : Nat) (hg : good ps) (hn : ps.length ≤ 9) (hW : W ≤ 6) (hH : H ≤ 6) :
    Ctr Tryz.prog 61 [.d (slD 4 pieD ps), iS W, iS H] (.d (slD 1 rowsD (tabT ps W H (2 ^ ps.length)))) := by
  have hpw : 2 ^ ps.length ≤ 2 ^ 9 := Nat.pow_le_pow_right (by decide) hn
  generalize hN : 2 ^ ps.length = N at hpw
  have c_rpower' := c_rpower ps.length (by omega)
  rw [hN] at c_rpower'
  (refine Ctr.mk (fn := Tryz.f61) rfl rfl rfl rfl rfl Tryz.results61 ?_; intro _; dsimp only [args, List.toList_toArray])
  (first|refine qE ?_|refine qD ?_);(simp only [go_sem,↓dP,↓reduceIte];with_reducible and_intros;all_goals first|apply qA|exact qC|skip)
  (first|refine qE ?_|refine qD ?_);(simp only [go_sem,↓dP,↓reduceIte];with_reducible and_intros;all_goals first|apply qA|exact qC|skip)
  (first|refine qE ?_|refine qD ?_);(simp only [go_sem,↓dP,↓reduceIte];with_reducible and_intros;all_goals first|apply qA|exact qC|skip)
  refine Ok.seq ?_
  (first|refine qE ?_|refine qD ?_);(simp only [go_sem,↓dP,↓reduceIte];with_reducible and_intros;all_goals first|apply qA|exact qC|skip)
  refine Ok.block ?_
  refine Ok.count N (fun s => ⟨[(0, .d (slD 4 pieD ps)), (1, iS W), (2, iS H), (7, iS ps.length), (8, .tk 0), (9, iS s)], [], [ownD 116 1 rowsD (tabT ps W H s)]⟩) (fun _ => True) ⟨trivial, ?_⟩ ?_ ?_
  · (refine Sub.of ([]) ([none]) ?_ ?_ ?_ rfl rfl <;> simp only [subB, subB1, subT, subT1, newT, subE, subV, subL, go_sem,↓dP,↓reduceIte] <;> (try (repeat' with_reducible apply And.intro)) <;> (try first | exact DEq.refl _ | refine DEq.int ?_ | refine DEq.bool ?_ | omega))
    simp [tabT]
  · intro s hs _
    have l0 := tabT_len ps W H s
    refine Ok.seq ?_
    (first|refine qE ?_|refine qD ?_);(simp only [go_sem,↓dP,↓reduceIte];with_reducible and_intros;all_goals first|apply qA|exact qC|skip)
    (refine AskI.ret (c_rpower') ?_; simp only [go_sem,↓dP,↓reduceIte];with_reducible and_intros;all_goals first|apply qA|exact qC|skip)
    refine Ok.cond rfl (fun _ => ?_) (fun hb => by simp at hb; omega)
    (refine Ok.skip ?_; (try dsimp only [thenK, blockK, noGotoK]))
    refine Ok.seq ?_
    refine Ok.block ?_
    (first|refine qE ?_|refine qD ?_);(simp only [go_sem,↓dP,↓reduceIte];with_reducible and_intros;all_goals first|apply qA|exact qC|skip)
    refine Ok.seq ?_
    (first|refine qE ?_|refine qD ?_);(simp only [go_sem,↓dP,↓reduceIte];with_reducible and_intros;all_goals first|apply qA|exact qC|skip)
    refine Ok.block ?_
    refine Ok.count W (fun i => ⟨[(0, .d (slD 4 pieD ps)), (1, iS W), (2, iS H), (7, iS ps.length), (8, .tk 0), (9, iS s), (10, .tk 1), (11, iS (i + 1))], [], [ownD 116 1 rowsD (tabT ps W H s), ownD 115 1 rowD (rowsT ps s H i)]⟩) (fun _ => True) ⟨trivial, ?_⟩ ?_ ?_
    · (refine Sub.of ([]) ([some 0, some 1]) ?_ ?_ ?_ rfl rfl <;> simp only [subB, subB1, subT, subT1, newT, subE, subV, subL, go_sem,↓dP,↓reduceIte] <;> (try (repeat' with_reducible apply And.intro)) <;> (try first | exact DEq.refl _ | refine DEq.int ?_ | refine DEq.bool ?_ | omega))
      · exact fun _ _ _ _ => DEq.refl _
      · rw [rowsT_len]
      · intro a c ha hc
        obtain rfl : a = 0 := by omega
        obtain rfl : c = 0 := by omega
        exact DEq.nils rfl
    · intro i hi _
      have l1 := rowsT_len ps s H i
      refine Ok.seq ?_; ((first|refine qE ?_|refine qD ?_);(simp only [go_sem,↓dP,↓reduceIte];with_reducible and_intros;all_goals first|apply qA|exact qC|skip)); refine Ok.cond rfl (fun _ => ?_) (fun hb => by simp at hb; omega); (refine Ok.skip ?_; (try dsimp only [thenK, blockK, noGotoK])); refine Ok.seq ?_; refine Ok.block ?_
      (first|refine qE ?_|refine qD ?_);(simp only [go_sem,↓dP,↓reduceIte];with_reducible and_intros;all_goals first|apply qA|exact qC|skip)
      refine Ok.seq ?_
      (first|refine qE ?_|refine qD ?_);(simp only [go_sem,↓dP,↓reduceIte];with_reducible and_intros;all_goals first|apply qA|exact qC|skip)
      refine Ok.block ?_
      refine Ok.count H (fun k => ⟨[(0, .d (slD 4 pieD ps)), (1, iS W), (2, iS H), (7, iS ps.length), (8, .tk 0), (9, iS s), (10, .tk 1), (11, iS (i + 1)), (12, .tk 2), (13, iS (k + 1))], [], [ownD 116 1 rowsD (tabT ps W H s), ownD 115 1 rowD (rowsT ps s H i), ownD 4 1 boolD (rowT ps s (i + 1) k)]⟩) (fun _ => True) ⟨trivial, ?_⟩ ?_ ?_
      · (refine Sub.of ([]) ([some 0, some 1, some 2]) ?_ ?_ ?_ rfl rfl <;> simp only [subB, subB1, subT, subT1, newT, subE, subV, subL, go_sem,↓dP,↓reduceIte] <;> (try (repeat' with_reducible apply And.intro)) <;> (try first | exact DEq.refl _ | refine DEq.int ?_ | refine DEq.bool ?_ | omega))
        · exact fun _ _ _ _ => DEq.refl _
        · exact fun _ _ _ _ => DEq.refl _
        · rw [rowT_len]
        · intro a c ha hc
          obtain rfl : a = 0 := by omega
          obtain rfl : c = 0 := by omega
          exact .refl _
      · intro k hk _
        have l2 := rowT_len ps s (i + 1) k
        have a1 := c_rsingle s ps.length (by omega) (by omega)
        have a2 := c_ralone (ps.getD (max 0 (oneI (bitsOf s ps.length))).toNat default) (i + 1) (k + 1)
        have a3 := c_rdivided ps W H s (i + 1) (k + 1) (by omega) (by omega) (by omega) (by omega) (by omega) hW hH
        rw [show ((i + 1 : Nat) : Int) = (i : Int) + 1 by omega, show ((k + 1 : Nat) : Int) = (k : Int) + 1 by omega] at a2 a3
        rw [Nat.add_sub_cancel, Nat.add_sub_cancel] at a3
        refine Ok.seq ?_; ((first|refine qE ?_|refine qD ?_);(simp only [go_sem,↓dP,↓reduceIte];with_reducible and_intros;all_goals first|apply qA|exact qC|skip)); refine Ok.cond rfl (fun _ => ?_) (fun hb => by simp at hb; omega); (refine Ok.skip ?_; (try dsimp only [thenK, blockK, noGotoK])); refine Ok.seq ?_; refine Ok.block ?_
        (first|refine qE ?_|refine qD ?_);(simp only [go_sem,↓dP,↓reduceIte];with_reducible and_intros;all_goals first|apply qA|exact qC|skip)
        (refine AskGI.ret (fun _ => a1) ?_; simp only [go_sem,↓dP,↓reduceIte];with_reducible and_intros;all_goals first|apply qA|exact qC|skip)
        (refine AskGI.ret (fun _ => a1) ?_; simp only [go_sem,↓dP,↓reduceIte];with_reducible and_intros;all_goals first|apply qA|exact qC|skip)
        · intro h
          simp only [Bool.and_eq_true, beq_iff_eq, decide_eq_true_eq] at h
          have h3 : (oneI (bitsOf s ps.length)).toNat < ps.length := by
            match hL : bitsOf s ps.length with
            | [] => rw [hL] at h; simp [oneI] at h
            | [x] => simpa [oneI] using (bitsOf_one (by omega) hL).1
            | _ :: _ :: _ => rw [hL] at h; simp [oneI] at h
          omega
        (refine AskGI.ret (fun _ => a2) ?_; simp only [go_sem,↓dP,↓reduceIte];with_reducible and_intros;all_goals first|apply qA|exact qC|skip)
        (refine AskGI.ret (fun _ => a3) ?_; simp only [go_sem,↓dP,↓reduceIte];with_reducible and_intros;all_goals first|apply qA|exact qC|skip)
        (try dsimp only [thenK, blockK, noGotoK])
        (first|refine qE ?_|refine qD ?_);(simp only [go_sem,↓dP,↓reduceIte];with_reducible and_intros;all_goals first|apply qA|exact qC|skip)
        (try dsimp only [thenK, blockK, noGotoK])
        refine ⟨trivial, ?_⟩
        have hent := tab_can hg (w := i + 1) (h := k + 1) (s := s)
        rw [← oneI_alone (by omega)] at hent
        have hval : ((s : Int) == 0 || decide (0 ≤ oneI (bitsOf s ps.length)) && alone (ps.getD (max 0 (oneI (bitsOf s ps.length))).toNat default) (i + 1) (k + 1) || divB ps (i + 1) (k + 1) s) = can ps (i + 1) (k + 1) s := by
          rw [← hent, show ((s : Int) == 0) = decide (s = 0) by rw [Bool.eq_iff_iff]; simp]
          by_cases h0 : 0 ≤ oneI (bitsOf s ps.length)
          · rw [Int.max_eq_right h0]
          · simp [h0]
        rw [hval]
        (refine Sub.of ([]) ([some 0, some 1, some 4]) ?_ ?_ ?_ rfl rfl <;> simp only [subB, subB1, subT, subT1, newT, subE, subV, subL, go_sem,↓dP,↓reduceIte] <;> (try (repeat' with_reducible apply And.intro)) <;> (try first | exact DEq.refl _ | refine DEq.int ?_ | refine DEq.bool ?_ | omega))
        · exact fun _ _ _ _ => DEq.refl _
        · exact fun _ _ _ _ => DEq.refl _
        · rw [rowT_succ]; simp
        · rw [rowT_succ]
          exact snoc_D (fun c hc => by have : c = 0 := by omega
                                       subst this; rfl)
      · intro _
        refine Ok.seq ?_; ((first|refine qE ?_|refine qD ?_);(simp only [go_sem,↓dP,↓reduceIte];with_reducible and_intros;all_goals first|apply qA|exact qC|skip)); refine Ok.cond rfl (fun hb => by simp at hb; omega) (fun _ => ?_); (refine Ok.exit ?_; simp only [thenK_exit, blockK_exit, noGotoK_exit, thenK_normal, blockK_normal, noGotoK_normal, ↓reduceIte, Nat.reduceEqDiff])
        (try dsimp only [thenK, blockK, noGotoK])
        (first|refine qE ?_|refine qD ?_);(simp only [go_sem,↓dP,↓reduceIte];with_reducible and_intros;all_goals first|apply qA|exact qC|skip)
        (try dsimp only [thenK, blockK, noGotoK])
        (first|refine qE ?_|refine qD ?_);(simp only [go_sem,↓dP,↓reduceIte];with_reducible and_intros;all_goals first|apply qA|exact qC|skip)
        (try dsimp only [thenK, blockK, noGotoK])
        refine ⟨trivial, ?_⟩
        (refine Sub.of ([]) ([some 0, some 3]) ?_ ?_ ?_ rfl rfl <;> simp only [subB, subB1, subT, subT1, newT, subE, subV, subL, go_sem,↓dP,↓reduceIte] <;> (try (repeat' with_reducible apply And.intro)) <;> (try first | exact DEq.refl _ | refine DEq.int ?_ | refine DEq.bool ?_ | omega))
        · exact fun _ _ _ _ => DEq.refl _
        · rw [rowsT_succ]; simp
        · rw [rowsT_succ]
          exact snoc_D (fun c hc => by have : c = 0 := by omega
                                       subst this; rfl)
    · intro _
      refine Ok.seq ?_; ((first|refine qE ?_|refine qD ?_);(simp only [go_sem,↓dP,↓reduceIte];with_reducible and_intros;all_goals first|apply qA|exact qC|skip)); refine Ok.cond rfl (fun hb => by simp at hb; omega) (fun _ => ?_); (refine Ok.exit ?_; simp only [thenK_exit, blockK_exit, noGotoK_exit, thenK_normal, blockK_normal, noGotoK_normal, ↓reduceIte, Nat.reduceEqDiff])
      (try dsimp only [thenK, blockK, noGotoK])
      (first|refine qE ?_|refine qD ?_);(simp only [go_sem,↓dP,↓reduceIte];with_reducible and_intros;all_goals first|apply qA|exact qC|skip)
      (try dsimp only [thenK, blockK, noGotoK])
      (first|refine qE ?_|refine qD ?_);(simp only [go_sem,↓dP,↓reduceIte];with_reducible and_intros;all_goals first|apply qA|exact qC|skip)
      (try dsimp only [thenK, blockK, noGotoK])
      refine ⟨trivial, ?_⟩
      (refine Sub.of ([]) ([some 2]) ?_ ?_ ?_ rfl rfl <;> simp only [subB, subB1, subT, subT1, newT, subE, subV, subL, go_sem,↓dP,↓reduceIte] <;> (try (repeat' with_reducible apply And.intro)) <;> (try first | exact DEq.refl _ | refine DEq.int ?_ | refine DEq.bool ?_ | omega))
      · rw [tabT_succ]; simp
      · rw [tabT_succ]
        exact snoc_D (fun c hc => by have : c = 0 := by omega
                                     subst this; rfl)
  · intro _
    refine Ok.seq ?_
    (first|refine qE ?_|refine qD ?_);(simp only [go_sem,↓dP,↓reduceIte];with_reducible and_intros;all_goals first|apply qA|exact qC|skip)
    (refine AskI.ret (c_rpower') ?_; simp only [go_sem,↓dP,↓reduceIte];with_reducible and_intros;all_goals first|apply qA|exact qC|skip)
    refine Ok.cond rfl (fun hb => by simp at hb) (fun _ => ?_)
    (refine Ok.exit ?_; simp only [thenK_exit, blockK_exit, noGotoK_exit, thenK_normal, blockK_normal, noGotoK_normal, ↓reduceIte, Nat.reduceEqDiff])
    (first|refine qE ?_|refine qD ?_);(simp only [go_sem,↓dP,↓reduceIte];with_reducible and_intros;all_goals first|apply qA|exact qC|skip)
    (refine Ok.ret ?_; (try dsimp only [thenK, blockK, noGotoK]); simp only [toList_mk, List.toList_toArray, retK_ret, retK_normal, resOK, resV, celV, rowV, frzAll, frzT, subV, subL, go_sem,↓dP,↓reduceIte])
    exact .refl _
end Go.Proofs.Leaf
namespace Go.Proofs.Leaf
open Go Go.RX Go.Proofs
set_option maxRecDepth 10000
variable [Glob]
theorem rises_le {n:Nat} {L:List Nat} (h:rises n 0 L):L.length<=n:=by
 rcases rises_len h with h | rfl
 ·omega
 ·simp
theorem asI_append (L M:List Nat):asI (L ++ M) = asI L ++ asI M:=by simp
theorem setL_bit (L:List Nat) (i:Nat):(setL (asI L)).testBit i = decide (i∈L):=by
 induction L using revRec with
 | nil => simp [setL]
 | append_singleton L x ih =>
  rw [asI_append,show asI [x] = [(x:Int)] from rfl,setL_snoc,Nat.testBit_or,ih,Nat.testBit_two_pow]
  simp only [Int.toNat_natCast,List.mem_append,List.mem_singleton]
  by_cases h1:i∈L<;>by_cases h2:x = i<;>simp [h1,h2]<;>omega
theorem setL_range (k n:Nat) (hn:n<=k) (p:Nat->Bool) (s:Nat) (hs:s < 2 ^ n) (h:∀ i,i < n->s.testBit i = p i):setL (asI ((List.range n).filter p)) = s:=by
 apply Nat.eq_of_testBit_eq
 intro i
 rw [setL_bit]
 by_cases hi:i < n
 ·rw [h i hi]
  cases hp:p i<;>simp [hi,hp]
 ·rw [bit_lt hs (by omega)]
  simp [hi]
theorem rising_take {L:List Nat} (hp:L.Pairwise (· < ·)) {i:Nat} (hi:i < L.length):∀ x∈L.take i,x < L.getD i default:=by
 intro x hx
 rw [List.mem_take_iff_getElem] at hx
 obtain ⟨j,hj,rfl⟩:=hx
 rw [List.pairwise_iff_getElem] at hp
 rw [getD_lt hi]
 exact hp j i (by omega) hi (by omega)
theorem c_rnumber (L:List Nat) (n:Nat) (hL:rises n 0 L) (hn:n<=9):Ctr Tryz.prog 79 [ilS (asI L)] (iS (setL (asI L))):=by
 have hlen:=rises_le hL
 have hl:(asI L).length = L.length:=asI_len L
 (refine Ctr.mk (fn:=Tryz.f79) rfl rfl rfl rfl rfl Tryz.results79 ?_;intro _;dsimp only [args,List.toList_toArray])
 (first|refine qE ?_|refine qD ?_);(simp only [go_sem,↓dP,↓reduceIte];with_reducible and_intros;all_goals first|apply qA|exact qC|skip)
 (first|refine qE ?_|refine qD ?_);(simp only [go_sem,↓dP,↓reduceIte];with_reducible and_intros;all_goals first|apply qA|exact qC|skip)
 refine Ok.seq ?_
 (first|refine qE ?_|refine qD ?_);(simp only [go_sem,↓dP,↓reduceIte];with_reducible and_intros;all_goals first|apply qA|exact qC|skip)
 refine Ok.block ?_
 refine Ok.count L.length (fun i => ⟨[(0,ilS (asI L)),(3,iS (setL (asI (L.take i)))),(4,iS i)],[],[]⟩) (fun _ => True) ⟨trivial,?_⟩ ?_ ?_
 ·(refine Sub.of ([]) ([]) ?_ ?_ ?_ rfl rfl<;>simp only [subB,subB1,subT,subT1,newT,subE,subV,subL,go_sem,↓dP,↓reduceIte]<;>(try (repeat' with_reducible apply And.intro))<;>(try first | exact DEq.refl _ | refine DEq.int ?_ | refine DEq.bool ?_ | omega))
 ·intro i hi _
  have hm:=rises_mem hL _ (getD_mem hi)
  have hx:(asI L).getD i default = ((L.getD i default:Nat):Int):=asI_at hi
  have hs:setL (asI (L.take (i + 1))) = setL (asI (L.take i)) + 2 ^ (L.getD i default):=by
   rw [getD_take hi,asI_append,show asI [L.getD i default] = [((L.getD i default:Nat):Int)] from rfl,setL_snoc,Int.toNat_natCast]
   exact or_add (setL_bound (rising_take (rises_pw hL) hi))
  have h1:setL (asI (L.take i)) < 2 ^ 9:=by
   have:=setL_bound (n:=9) (L:=L.take i) (fun x hx => by have:=rises_mem hL x (List.mem_of_mem_take hx);omega)
   exact this
  have h2:2 ^ (L.getD i default) < 2 ^ 9:=Nat.pow_lt_pow_right (by decide) (by omega)
  have a1:=c_rpower (L.getD i default) (by omega)
  rw [← hx] at a1
  generalize hP:2 ^ (L.getD i default) = P at hs h2 a1
  refine Ok.seq ?_;((first|refine qE ?_|refine qD ?_);(simp only [go_sem,↓dP,↓reduceIte];with_reducible and_intros;all_goals first|apply qA|exact qC|skip));refine Ok.cond rfl (fun _ => ?_) (fun hb => by simp at hb;omega);(refine Ok.skip ?_;(try dsimp only [thenK,blockK,noGotoK]));refine Ok.seq ?_;refine Ok.block ?_
  (first|refine qE ?_|refine qD ?_);(simp only [go_sem,↓dP,↓reduceIte];with_reducible and_intros;all_goals first|apply qA|exact qC|skip)
  (refine AskI.ret (a1) ?_;simp only [go_sem,↓dP,↓reduceIte];with_reducible and_intros;all_goals first|apply qA|exact qC|skip)
  (try dsimp only [thenK,blockK,noGotoK])
  (first|refine qE ?_|refine qD ?_);(simp only [go_sem,↓dP,↓reduceIte];with_reducible and_intros;all_goals first|apply qA|exact qC|skip)
  (try dsimp only [thenK,blockK,noGotoK])
  refine ⟨trivial,?_⟩
  (refine Sub.of ([]) ([]) ?_ ?_ ?_ rfl rfl<;>simp only [subB,subB1,subT,subT1,newT,subE,subV,subL,go_sem,↓dP,↓reduceIte]<;>(try (repeat' with_reducible apply And.intro))<;>(try first | exact DEq.refl _ | refine DEq.int ?_ | refine DEq.bool ?_ | omega))
  rw [hs];omega
 ·intro _
  refine Ok.seq ?_;((first|refine qE ?_|refine qD ?_);(simp only [go_sem,↓dP,↓reduceIte];with_reducible and_intros;all_goals first|apply qA|exact qC|skip));refine Ok.cond rfl (fun hb => by simp at hb) (fun _ => ?_);(refine Ok.exit ?_;simp only [thenK_exit,blockK_exit,noGotoK_exit,thenK_normal,blockK_normal,noGotoK_normal,↓reduceIte,Nat.reduceEqDiff])
  (first|refine qE ?_|refine qD ?_);(simp only [go_sem,↓dP,↓reduceIte];with_reducible and_intros;all_goals first|apply qA|exact qC|skip)
  (refine Ok.ret ?_;(try dsimp only [thenK,blockK,noGotoK]);simp only [toList_mk,List.toList_toArray,retK_ret,retK_normal,resOK,resV,celV,rowV,frzAll,frzT,subV,subL,go_sem,↓dP,↓reduceIte])
  refine DEq.int ?_
  rw [List.take_length]
def ofL (l:List Int) (n:Int):List Nat:=(List.range l.length).filter (fun i => l.getD i default == n)
theorem ofL_rises (l:List Int) (n:Int):rises l.length 0 (ofL l n):=by
 refine rises_of (List.Pairwise.filter _ List.pairwise_lt_range) (fun x hx => ?_)
 have:=List.mem_range.1 (List.mem_filter.1 hx).1
 omega
theorem ofL_mask (L:List Nat) (n:Nat):setL (asI (ofL (asI L) n)) = mask L n:=by
 unfold ofL
 rw [asI_len]
 refine setL_range L.length L.length (Nat.le_refl _) _ _ (mask_lt L n) (fun i hi => ?_)
 rw [mask_bit,asI_at hi,decide_eq_true hi,Bool.true_and,Bool.eq_iff_iff]
 simp only [decide_eq_true_eq,beq_iff_eq]
 have:L.getD i 0 = L.getD i default:=rfl
 rw [this];omega
theorem c_rOf (l : List Int) (n : Int) (hl : l.length < 1000) : Ctr Tryz.prog 64 [ilS l, iS n] (ilS (asI (ofL l n))) := by
  (refine Ctr.mk (fn := Tryz.f64) rfl rfl rfl rfl rfl Tryz.results64 ?_; intro _; dsimp only [args, List.toList_toArray])
  (first|refine qE ?_|refine qD ?_);(simp only [go_sem,↓dP,↓reduceIte];with_reducible and_intros;all_goals first|apply qA|exact qC|skip)
  (first|refine qE ?_|refine qD ?_);(simp only [go_sem,↓dP,↓reduceIte];with_reducible and_intros;all_goals first|apply qA|exact qC|skip)
  refine Ok.seq ?_
  (first|refine qE ?_|refine qD ?_);(simp only [go_sem,↓dP,↓reduceIte];with_reducible and_intros;all_goals first|apply qA|exact qC|skip)
  refine Ok.block ?_
  refine Ok.count l.length (fun i => ⟨[(0, ilS l), (1, iS n), (5, .tk 0), (6, iS i)], [], [ownD 3 1 intD (asI ((List.range i).filter (fun i => l.getD i default == n)))]⟩) (fun _ => True) ⟨trivial, ?_⟩ ?_ ?_
  · (refine Sub.of ([]) ([none]) ?_ ?_ ?_ rfl rfl <;> simp only [subB, subB1, subT, subT1, newT, subE, subV, subL, go_sem,↓dP,↓reduceIte] <;> (try (repeat' with_reducible apply And.intro)) <;> (try first | exact DEq.refl _ | refine DEq.int ?_ | refine DEq.bool ?_ | omega))
    simp
  · intro i hi _
    have hlen : (asI ((List.range i).filter (fun i => l.getD i default == n))).length ≤ i := by
      rw [asI_len]
      exact Nat.le_trans (List.length_filter_le _ _) (by simp)
    have hsn : asI ((List.range (i + 1)).filter (fun i => l.getD i default == n)) = asI ((List.range i).filter (fun i => l.getD i default == n)) ++ (if l.getD i default == n then [(i : Int)] else []) := by
      rw [List.range_succ, List.filter_append, asI_append]
      by_cases h : (l.getD i default == n) = true
      · simp only [List.filter_cons, List.filter_nil, h, if_true]; rfl
      · simp only [List.filter_cons, List.filter_nil, h, Bool.false_eq_true, if_false]; rfl
    refine Ok.seq ?_; ((first|refine qE ?_|refine qD ?_);(simp only [go_sem,↓dP,↓reduceIte];with_reducible and_intros;all_goals first|apply qA|exact qC|skip)); refine Ok.cond rfl (fun _ => ?_) (fun hb => by simp at hb; omega); (refine Ok.skip ?_; (try dsimp only [thenK, blockK, noGotoK])); refine Ok.seq ?_; refine Ok.block ?_
    (first|refine qE ?_|refine qD ?_);(simp only [go_sem,↓dP,↓reduceIte];with_reducible and_intros;all_goals first|apply qA|exact qC|skip)
    refine Ok.cond rfl ?_ ?_
    · intro hb
      rw [hb, if_pos rfl] at hsn
      (first|refine qE ?_|refine qD ?_);(simp only [go_sem,↓dP,↓reduceIte];with_reducible and_intros;all_goals first|apply qA|exact qC|skip)
      (try dsimp only [thenK, blockK, noGotoK])
      (first|refine qE ?_|refine qD ?_);(simp only [go_sem,↓dP,↓reduceIte];with_reducible and_intros;all_goals first|apply qA|exact qC|skip)
      (try dsimp only [thenK, blockK, noGotoK])
      refine ⟨trivial, ?_⟩
      rw [hsn]
      (refine Sub.of ([]) ([some 1]) ?_ ?_ ?_ rfl rfl <;> simp only [subB, subB1, subT, subT1, newT, subE, subV, subL, go_sem,↓dP,↓reduceIte] <;> (try (repeat' with_reducible apply And.intro)) <;> (try first | exact DEq.refl _ | refine DEq.int ?_ | refine DEq.bool ?_ | omega))
      · simp
      · exact snoc_D (fun c hc => by have : c = 0 := by omega
                                     subst this; rfl)
    · intro hb
      rw [hb, if_neg (by simp), List.append_nil] at hsn
      (refine Ok.skip ?_; (try dsimp only [thenK, blockK, noGotoK]))
      (try dsimp only [thenK, blockK, noGotoK])
      (first|refine qE ?_|refine qD ?_);(simp only [go_sem,↓dP,↓reduceIte];with_reducible and_intros;all_goals first|apply qA|exact qC|skip)
      (try dsimp only [thenK, blockK, noGotoK])
      refine ⟨trivial, ?_⟩
      rw [hsn]
      (refine Sub.of ([]) ([some 0]) ?_ ?_ ?_ rfl rfl <;> simp only [subB, subB1, subT, subT1, newT, subE, subV, subL, go_sem,↓dP,↓reduceIte] <;> (try (repeat' with_reducible apply And.intro)) <;> (try first | exact DEq.refl _ | refine DEq.int ?_ | refine DEq.bool ?_ | omega))
      exact fun _ _ _ _ => DEq.refl _
  · intro _
    refine Ok.seq ?_; ((first|refine qE ?_|refine qD ?_);(simp only [go_sem,↓dP,↓reduceIte];with_reducible and_intros;all_goals first|apply qA|exact qC|skip)); refine Ok.cond rfl (fun hb => by simp at hb) (fun _ => ?_); (refine Ok.exit ?_; simp only [thenK_exit, blockK_exit, noGotoK_exit, thenK_normal, blockK_normal, noGotoK_normal, ↓reduceIte, Nat.reduceEqDiff])
    (first|refine qE ?_|refine qD ?_);(simp only [go_sem,↓dP,↓reduceIte];with_reducible and_intros;all_goals first|apply qA|exact qC|skip)
    (refine Ok.ret ?_; (try dsimp only [thenK, blockK, noGotoK]); simp only [toList_mk, List.toList_toArray, retK_ret, retK_normal, resOK, resV, celV, rowV, frzAll, frzT, subV, subL, go_sem,↓dP,↓reduceIte])
    exact .refl _
def leavesI (l:List Int):Int:=l.foldl (fun n x => max n (x + 1)) 0
theorem leavesI_snoc (l:List Int) (x:Int):leavesI (l ++ [x]) = max (leavesI l) (x + 1):=by simp [leavesI,List.foldl_append]
theorem leavesI_asI (L:List Nat):leavesI (asI L) = leaves L:=by
 induction L using revRec with
 | nil => rfl
 | append_singleton L x ih =>
  rw [asI_append,show asI [x] = [(x:Int)] from rfl,leavesI_snoc,ih,leaves_snoc];omega
theorem c_rLeaves (l:List Int) (hl:l.length < 1000000) (h:∀ x∈l,x < 1000000/\-1000000 < x):Ctr Tryz.prog 27 [ilS l] (iS (leavesI l)):=by
 (refine Ctr.mk (fn:=Tryz.f27) rfl rfl rfl rfl rfl Tryz.results27 ?_;intro _;dsimp only [args,List.toList_toArray])
 (first|refine qE ?_|refine qD ?_);(simp only [go_sem,↓dP,↓reduceIte];with_reducible and_intros;all_goals first|apply qA|exact qC|skip)
 (first|refine qE ?_|refine qD ?_);(simp only [go_sem,↓dP,↓reduceIte];with_reducible and_intros;all_goals first|apply qA|exact qC|skip)
 refine Ok.seq ?_
 (first|refine qE ?_|refine qD ?_);(simp only [go_sem,↓dP,↓reduceIte];with_reducible and_intros;all_goals first|apply qA|exact qC|skip)
 refine Ok.block ?_
 refine Ok.count l.length (fun i => ⟨[(0,ilS l),(3,iS (leavesI (l.take i))),(4,iS i)],[],[]⟩) (fun _ => True) ⟨trivial,?_⟩ ?_ ?_
 ·(refine Sub.of ([]) ([]) ?_ ?_ ?_ rfl rfl<;>simp only [subB,subB1,subT,subT1,newT,subE,subV,subL,go_sem,↓dP,↓reduceIte]<;>(try (repeat' with_reducible apply And.intro))<;>(try first | exact DEq.refl _ | refine DEq.int ?_ | refine DEq.bool ?_ | omega))
 ·intro i hi _
  have hx:=h _ (getD_mem hi)
  have hsn:leavesI (l.take (i + 1)) = max (leavesI (l.take i)) (l.getD i default + 1):=by rw [getD_take hi,leavesI_snoc]
  refine Ok.seq ?_;((first|refine qE ?_|refine qD ?_);(simp only [go_sem,↓dP,↓reduceIte];with_reducible and_intros;all_goals first|apply qA|exact qC|skip));refine Ok.cond rfl (fun _ => ?_) (fun hb => by simp at hb;omega);(refine Ok.skip ?_;(try dsimp only [thenK,blockK,noGotoK]));refine Ok.seq ?_;refine Ok.block ?_
  (first|refine qE ?_|refine qD ?_);(simp only [go_sem,↓dP,↓reduceIte];with_reducible and_intros;all_goals first|apply qA|exact qC|skip)
  (try dsimp only [thenK,blockK,noGotoK])
  (first|refine qE ?_|refine qD ?_);(simp only [go_sem,↓dP,↓reduceIte];with_reducible and_intros;all_goals first|apply qA|exact qC|skip)
  (try dsimp only [thenK,blockK,noGotoK])
  refine ⟨trivial,?_⟩
  (refine Sub.of ([]) ([]) ?_ ?_ ?_ rfl rfl<;>simp only [subB,subB1,subT,subT1,newT,subE,subV,subL,go_sem,↓dP,↓reduceIte]<;>(try (repeat' with_reducible apply And.intro))<;>(try first | exact DEq.refl _ | refine DEq.int ?_ | refine DEq.bool ?_ | omega))
  exact hsn.symm
 ·intro _
  refine Ok.seq ?_;((first|refine qE ?_|refine qD ?_);(simp only [go_sem,↓dP,↓reduceIte];with_reducible and_intros;all_goals first|apply qA|exact qC|skip));refine Ok.cond rfl (fun hb => by simp at hb) (fun _ => ?_);(refine Ok.exit ?_;simp only [thenK_exit,blockK_exit,noGotoK_exit,thenK_normal,blockK_normal,noGotoK_normal,↓reduceIte,Nat.reduceEqDiff])
  (first|refine qE ?_|refine qD ?_);(simp only [go_sem,↓dP,↓reduceIte];with_reducible and_intros;all_goals first|apply qA|exact qC|skip)
  (refine Ok.ret ?_;(try dsimp only [thenK,blockK,noGotoK]);simp only [toList_mk,List.toList_toArray,retK_ret,retK_normal,resOK,resV,celV,rowV,frzAll,frzT,subV,subL,go_sem,↓dP,↓reduceIte])
  refine DEq.int ?_
  rw [List.take_length]
def Job.tab (J:Job):List (List (List Bool)):=tabT J.ps J.wide.toNat J.high.toNat (2 ^ J.ps.length)
theorem c_tab (J:Job) (h:J.sized):Ctr Tryz.prog 61 [.d (slD 4 pieD J.ps),iS J.wide,iS J.high] (.d (slD 1 rowsD J.tab)):=by
 have:=h.w0;have:=h.w1;have:=h.h0;have:=h.h1
 have a:=c_rTable J.ps J.wide.toNat J.high.toNat h.s.good h.n (by omega) (by omega)
 rwa [Int.toNat_of_nonneg (by omega),Int.toNat_of_nonneg (by omega)] at a
theorem tab_len (J:Job):J.tab.length = 2 ^ J.ps.length:=tabT_len _ _ _ _
theorem tab_len2 (J:Job) {s:Nat} (hs:s < 2 ^ J.ps.length):(J.tab.getD s default).length = J.wide.toNat + 1:=by
 rw [Job.tab,tabT_at _ _ _ hs,rowsT_len]
theorem tab_len3 {J:Job} (h:J.sized) {s:Nat} (hs:s < 2 ^ J.ps.length):((J.tab.getD s default).getD J.wide.toNat default).length = J.high.toNat + 1:=by
 have:=h.w0
 rw [Job.tab,tabT_at _ _ _ hs,rowsT_at _ _ _ (by omega) (Nat.le_refl _),rowT_len]
theorem tab_fit {J:Job} (h:J.sized) {s:Nat} (hs:s < 2 ^ J.ps.length):((J.tab.getD s default).getD J.wide.toNat default).getD J.high.toNat default = J.fit s:=by
 have:=h.w0;have:=h.h0
 rw [Job.tab,tabT_at _ _ _ hs,rowsT_at _ _ _ (by omega) (Nat.le_refl _),rowT_at _ _ _ (by omega) (Nat.le_refl _),Job.fit]
theorem append_D {α:Type} [Inhabited α] {f:α->Nat->DV} {o p:List α} {k:Nat}:∀ a c,a < o.length + p.length->c < k->DEq (if a < o.length then f (o.getD a default) c else f (p.getD (a - o.length) default) c) (f ((o ++ p).getD a default) c):=by
 intro a c _ _
 by_cases h:a < o.length
 ·rw [if_pos h,List.getD_eq_getElem?_getD (l:=o ++ p),List.getElem?_append_left h,← List.getD_eq_getElem?_getD];exact .refl _
 ·rw [if_neg h,List.getD_eq_getElem?_getD (l:=o ++ p),List.getElem?_append_right (by omega),← List.getD_eq_getElem?_getD];exact .refl _
theorem flatMap_le {α:Type} {n m:Nat} (h:n<=m) (f:Nat->List α):((List.range n).flatMap f).length<=((List.range m).flatMap f).length:=by
 obtain ⟨d,rfl⟩:∃ d,m = n + d:=⟨m - n,by omega⟩
 rw [List.range_add,List.flatMap_append,List.length_append]
 omega
def lisL (L:List (List Nat)):List (List Int):=L.map asI
set_option maxHeartbeats 1000000 in
theorem c_rlists : ∀ (k : Nat) (now : List Nat), now.length + k ≤ 5 → leaves now ≤ now.length → Ctr Tryz.prog 62 [ilS (asI now), iS (now.length + k : Nat)] (.d (slD 1 listD (lisL (listsK k now))))
  | 0, now, hn, hg => by
    have hc : (((asI now).length : Int) == now.length) = true := by simp
    (refine Ctr.mk (fn := Tryz.f62) rfl rfl rfl rfl rfl Tryz.results62 ?_; intro _; dsimp only [args, List.toList_toArray])
    (first|refine qE ?_|refine qD ?_);(simp only [go_sem,↓dP,↓reduceIte];with_reducible and_intros;all_goals first|apply qA|exact qC|skip)
    refine Ok.seq ?_
    (first|refine qE ?_|refine qD ?_);(simp only [go_sem,↓dP,↓reduceIte];with_reducible and_intros;all_goals first|apply qA|exact qC|skip)
    rw [hc]
    refine Ok.cond (b := true) (by first | rfl | (simp only [go_sem,↓dP,↓reduceIte]; rfl)) (fun _ => ?_) (fun hb => by cases hb)
    (first|refine qE ?_|refine qD ?_);(simp only [go_sem,↓dP,↓reduceIte];with_reducible and_intros;all_goals first|apply qA|exact qC|skip)
    (refine Ok.ret ?_; (try dsimp only [thenK, blockK, noGotoK]); simp only [toList_mk, List.toList_toArray, retK_ret, retK_normal, resOK, resV, celV, rowV, frzAll, frzT, subV, subL, go_sem,↓dP,↓reduceIte])
    refine DEq.sl rfl (fun i j hi hj => ?_)
    obtain rfl : i = 0 := by omega
    obtain rfl : j = 0 := by omega
    exact .refl _
  | k + 1, now, hn, hg => by
    have hll := c_rLeaves (asI now) (by simp; omega) (fun x hx => by obtain ⟨y, hy, rfl⟩ := asI_mem hx; have := leaves_le now y hy; omega)
    rw [leavesI_asI] at hll
    have hc : (((asI now).length : Int) == (now.length + (k + 1) : Nat)) = false := by simp; omega
    have hal := asI_len now
    (refine Ctr.mk (fn := Tryz.f62) rfl rfl rfl rfl rfl Tryz.results62 ?_; intro _; dsimp only [args, List.toList_toArray])
    (first|refine qE ?_|refine qD ?_);(simp only [go_sem,↓dP,↓reduceIte];with_reducible and_intros;all_goals first|apply qA|exact qC|skip)
    refine Ok.seq ?_
    (first|refine qE ?_|refine qD ?_);(simp only [go_sem,↓dP,↓reduceIte];with_reducible and_intros;all_goals first|apply qA|exact qC|skip)
    rw [hc]
    refine Ok.cond (b := false) (by first | rfl | (simp only [go_sem,↓dP,↓reduceIte]; rfl)) (fun hb => by cases hb) (fun _ => ?_)
    (refine Ok.skip ?_; (try dsimp only [thenK, blockK, noGotoK]))
    (first|refine qE ?_|refine qD ?_);(simp only [go_sem,↓dP,↓reduceIte];with_reducible and_intros;all_goals first|apply qA|exact qC|skip)
    refine Ok.seq ?_
    (first|refine qE ?_|refine qD ?_);(simp only [go_sem,↓dP,↓reduceIte];with_reducible and_intros;all_goals first|apply qA|exact qC|skip)
    refine Ok.block ?_
    refine Ok.count (leaves now + 1) (fun n => ⟨[(0, ilS (asI now)), (1, iS (now.length + (k + 1) : Nat)), (5, .tk 0), (6, iS n)], [], [ownD 26 1 listD (lisL ((List.range n).flatMap (fun n => listsK k (now ++ [n]))))]⟩) (fun _ => True) ⟨trivial, ?_⟩ ?_ ?_
    · (refine Sub.of ([]) ([none]) ?_ ?_ ?_ rfl rfl <;> simp only [subB, subB1, subT, subT1, newT, subE, subV, subL, go_sem,↓dP,↓reduceIte] <;> (try (repeat' with_reducible apply And.intro)) <;> (try first | exact DEq.refl _ | refine DEq.int ?_ | refine DEq.bool ?_ | omega))
      rfl
    · intro n hi _
      have ih := c_rlists k (now ++ [n]) (by simp; omega) (by rw [leaves_snoc]; simp; omega)
      have ih' : Ctr Tryz.prog 62 [.d (.sl 1 ((asI now).length + 1) (fun i c => if i < (asI now).length then intD ((asI now).getD i default) c else dget [.int .i64 n] ((i - (asI now).length) * 1 + c))), iS (now.length + (k + 1) : Nat)] (.d (slD 1 listD (lisL (listsK k (now ++ [n]))))) := by
        refine ih.args ⟨?_, ?_, trivial⟩
        · rw [asI_append]
          exact DEq.sl (by simp) (fun i j hi hj => snoc_D (fun c hc => by have : c = 0 := by omega
                                                                          subst this; rfl) i j hi hj)
        · exact DEq.int (by simp; omega)
      have hroom : (lisL ((List.range n).flatMap (fun n => listsK k (now ++ [n])))).length + (lisL (listsK k (now ++ [n]))).length ≤ 3125 := by
        have h1 := listsK_len (k + 1) now
        have h2 : (leaves now + (k + 1)) ^ (k + 1) ≤ 5 ^ 5 := Nat.le_trans (Nat.pow_le_pow_left (by omega) _) (Nat.pow_le_pow_right (by decide) (by omega))
        have h3 : ((List.range (n + 1)).flatMap (fun n => listsK k (now ++ [n]))).length ≤ (listsK (k + 1) now).length := by
          rw [listsK]
          exact flatMap_le (by omega) _
        rw [List.range_succ, List.flatMap_append, List.length_append] at h3
        simp only [List.flatMap_cons, List.flatMap_nil, List.append_nil] at h3
        simp only [lisL, List.length_map]
        omega
      have hsn : lisL ((List.range (n + 1)).flatMap (fun n => listsK k (now ++ [n]))) = lisL ((List.range n).flatMap (fun n => listsK k (now ++ [n]))) ++ lisL (listsK k (now ++ [n])) := by
        rw [List.range_succ, List.flatMap_append]
        simp [lisL]
      refine Ok.seq ?_
      (first|refine qE ?_|refine qD ?_);(simp only [go_sem,↓dP,↓reduceIte];with_reducible and_intros;all_goals first|apply qA|exact qC|skip)
      (refine AskI.ret (hll) ?_; simp only [go_sem,↓dP,↓reduceIte];with_reducible and_intros;all_goals first|apply qA|exact qC|skip)
      refine Ok.cond rfl (fun _ => ?_) (fun hb => by simp at hb; omega)
      (refine Ok.skip ?_; (try dsimp only [thenK, blockK, noGotoK]))
      refine Ok.seq ?_
      refine Ok.block ?_
      (first|refine qE ?_|refine qD ?_);(simp only [go_sem,↓dP,↓reduceIte];with_reducible and_intros;all_goals first|apply qA|exact qC|skip)
      (refine AskI.ret (ih') ?_; simp only [go_sem,↓dP,↓reduceIte];with_reducible and_intros;all_goals first|apply qA|exact qC|skip)
      (try dsimp only [thenK, blockK, noGotoK])
      (first|refine qE ?_|refine qD ?_);(simp only [go_sem,↓dP,↓reduceIte];with_reducible and_intros;all_goals first|apply qA|exact qC|skip)
      (try dsimp only [thenK, blockK, noGotoK])
      refine ⟨trivial, ?_⟩
      rw [hsn]
      (refine Sub.of ([]) ([some 3]) ?_ ?_ ?_ rfl rfl <;> simp only [subB, subB1, subT, subT1, newT, subE, subV, subL, go_sem,↓dP,↓reduceIte] <;> (try (repeat' with_reducible apply And.intro)) <;> (try first | exact DEq.refl _ | refine DEq.int ?_ | refine DEq.bool ?_ | omega))
      · rw [List.length_append]
      · exact append_D
    · intro _
      refine Ok.seq ?_
      (first|refine qE ?_|refine qD ?_);(simp only [go_sem,↓dP,↓reduceIte];with_reducible and_intros;all_goals first|apply qA|exact qC|skip)
      (refine AskI.ret (hll) ?_; simp only [go_sem,↓dP,↓reduceIte];with_reducible and_intros;all_goals first|apply qA|exact qC|skip)
      refine Ok.cond rfl (fun hb => by simp at hb; omega) (fun _ => ?_)
      (refine Ok.exit ?_; simp only [thenK_exit, blockK_exit, noGotoK_exit, thenK_normal, blockK_normal, noGotoK_normal, ↓reduceIte, Nat.reduceEqDiff])
      (first|refine qE ?_|refine qD ?_);(simp only [go_sem,↓dP,↓reduceIte];with_reducible and_intros;all_goals first|apply qA|exact qC|skip)
      (refine Ok.ret ?_; (try dsimp only [thenK, blockK, noGotoK]); simp only [toList_mk, List.toList_toArray, retK_ret, retK_normal, resOK, resV, celV, rowV, frzAll, frzT, subV, subL, go_sem,↓dP,↓reduceIte])
      rw [← List.range_succ]
      exact .refl _
end Go.Proofs.Leaf
namespace Go.Proofs.Leaf
open Go Go.RX Go.Proofs
set_option maxRecDepth 10000
variable [Glob]
theorem grows_take:∀ (L:List Nat) (m i:Nat),grows L m = true->i < L.length->L.getD i default<=(L.take i).foldl (fun n x => max n (x + 1)) m
 | [],_,i,_,hi => by simp at hi
 | x :: L,m,0,h,_ => by
  simp only [grows,Bool.and_eq_true,decide_eq_true_eq] at h
  simpa using h.1
 | x :: L,m,i + 1,h,hi => by
  simp only [grows,Bool.and_eq_true,decide_eq_true_eq] at h
  simpa using grows_take L _ i h.2 (by simpa using hi)
theorem leaves_take {L:List Nat} {i:Nat} (hi:i < L.length):leaves (L.take (i + 1)) = max (leaves (L.take i)) (L.getD i default + 1):=by
 rw [getD_take hi,leaves_snoc]
theorem c_rCutting (J:Job) (hJ:J.sized) (L:List Nat) (hL:L.length = J.ps.length) (hg:grows L 0 = true) :
  Ctr Tryz.prog 63 [J.sv,.d (slD 1 rowsD J.tab),ilS (asI L)] (bS (cuts J.fit L)):=by
 have h1:=hJ.w0;have h2:=hJ.w1;have h3:=hJ.h0;have h4:=hJ.h1;have h5:=hJ.n
 have hp:2 ^ J.ps.length<=2 ^ 9:=Nat.pow_le_pow_right (by decide) h5
 have hal:=asI_len L
 have hll:=leaves_len L hg
 have hc:(((asI L).length:Int) != J.ps.length) = false:=by simp [hL]
 have l1:=tab_len J
 (refine Ctr.mk (fn:=Tryz.f63) rfl rfl rfl rfl rfl Tryz.results63 ?_;intro _;dsimp only [args,List.toList_toArray])
 (first|refine qE ?_|refine qD ?_);(simp only [go_sem,↓dP,↓reduceIte];with_reducible and_intros;all_goals first|apply qA|exact qC|skip)
 refine Ok.seq ?_
 (first|refine qE ?_|refine qD ?_);(simp only [go_sem,↓dP,↓reduceIte];with_reducible and_intros;all_goals first|apply qA|exact qC|skip)
 rw [hc]
 refine Ok.cond (b:=false) (by first | rfl | (simp only [go_sem,↓dP,↓reduceIte];rfl)) (fun hb => by cases hb) (fun _ => ?_)
 (refine Ok.skip ?_;(try dsimp only [thenK,blockK,noGotoK]))
 (first|refine qE ?_|refine qD ?_);(simp only [go_sem,↓dP,↓reduceIte];with_reducible and_intros;all_goals first|apply qA|exact qC|skip)
 refine Ok.seq ?_
 (first|refine qE ?_|refine qD ?_);(simp only [go_sem,↓dP,↓reduceIte];with_reducible and_intros;all_goals first|apply qA|exact qC|skip)
 refine Ok.block ?_
 refine Ok.count L.length (fun i => ⟨[(1,.d (slD 1 rowsD J.tab)),(2,ilS (asI L)),(3,.p 0 0),(7,iS (leaves (L.take i))),(8,iS i)],[jobC J],[]⟩) (fun _ => True) ⟨trivial,?_⟩ ?_ ?_
 ·(refine Sub.of ([0]) ([]) ?_ ?_ ?_ rfl rfl<;>simp only [subB,subB1,subT,subT1,newT,subE,subV,subL,go_sem,↓dP,↓reduceIte]<;>(try (repeat' with_reducible apply And.intro))<;>(try first | exact DEq.refl _ | refine DEq.int ?_ | refine DEq.bool ?_ | omega))
 ·intro i hi _
  have hx:(asI L).getD i default = ((L.getD i default:Nat):Int):=asI_at hi
  have hle:L.getD i default<=leaves (L.take i):=grows_take L 0 i hg hi
  have hsn:=leaves_take hi
  have hin:inB ((asI L).getD i default) 0 (leaves (L.take i)) = true:=by rw [inB_iff,hx];omega
  have hlt:leaves (L.take i)<=100:=by
   have:leaves (L.take i)<=leaves L:=by
    conv => rhs;rw [← List.take_append_drop i L]
    exact leaves_pre _ _
   omega
  refine Ok.seq ?_;((first|refine qE ?_|refine qD ?_);(simp only [go_sem,↓dP,↓reduceIte];with_reducible and_intros;all_goals first|apply qA|exact qC|skip));refine Ok.cond rfl (fun _ => ?_) (fun hb => by simp at hb;omega);(refine Ok.skip ?_;(try dsimp only [thenK,blockK,noGotoK]));refine Ok.seq ?_;refine Ok.block ?_
  refine Ok.seq ?_
  (first|refine qE ?_|refine qD ?_);(simp only [go_sem,↓dP,↓reduceIte];with_reducible and_intros;all_goals first|apply qA|exact qC|skip)
  (refine AskI.ret (c_rin _ _ _) ?_;simp only [go_sem,↓dP,↓reduceIte];with_reducible and_intros;all_goals first|apply qA|exact qC|skip)
  rw [hin]
  refine Ok.cond (b:=false) (by first | rfl | (simp only [go_sem,↓dP,↓reduceIte];rfl)) (fun hb => by cases hb) (fun _ => ?_)
  (refine Ok.skip ?_;(try dsimp only [thenK,blockK,noGotoK]))
  (first|refine qE ?_|refine qD ?_);(simp only [go_sem,↓dP,↓reduceIte];with_reducible and_intros;all_goals first|apply qA|exact qC|skip)
  (try dsimp only [thenK,blockK,noGotoK])
  (first|refine qE ?_|refine qD ?_);(simp only [go_sem,↓dP,↓reduceIte];with_reducible and_intros;all_goals first|apply qA|exact qC|skip)
  (try dsimp only [thenK,blockK,noGotoK])
  refine ⟨trivial,?_⟩
  (refine Sub.of ([0]) ([]) ?_ ?_ ?_ rfl rfl<;>simp only [subB,subB1,subT,subT1,newT,subE,subV,subL,go_sem,↓dP,↓reduceIte]<;>(try (repeat' with_reducible apply And.intro))<;>(try first | exact DEq.refl _ | refine DEq.int ?_ | refine DEq.bool ?_ | omega))
  rw [hsn];omega
 ·intro _
  rw [List.take_length]
  refine Ok.seq ?_;((first|refine qE ?_|refine qD ?_);(simp only [go_sem,↓dP,↓reduceIte];with_reducible and_intros;all_goals first|apply qA|exact qC|skip));refine Ok.cond rfl (fun hb => by simp at hb) (fun _ => ?_);(refine Ok.exit ?_;simp only [thenK_exit,blockK_exit,noGotoK_exit,thenK_normal,blockK_normal,noGotoK_normal,↓reduceIte,Nat.reduceEqDiff])
  refine Ok.seq ?_
  (first|refine qE ?_|refine qD ?_);(simp only [go_sem,↓dP,↓reduceIte];with_reducible and_intros;all_goals first|apply qA|exact qC|skip)
  refine Ok.block ?_
  refine Ok.count (leaves L) (fun n => ⟨[(1,.d (slD 1 rowsD J.tab)),(2,ilS (asI L)),(3,.p 0 0),(7,iS (leaves L)),(9,iS n)],[jobC J],[]⟩) (fun n => ∀ m,m < n->J.fit (mask L m) = true) ⟨fun m hm => by omega,?_⟩ ?_ ?_
  ·(refine Sub.of ([0]) ([]) ?_ ?_ ?_ rfl rfl<;>simp only [subB,subB1,subT,subT1,newT,subE,subV,subL,go_sem,↓dP,↓reduceIte]<;>(try (repeat' with_reducible apply And.intro))<;>(try first | exact DEq.refl _ | refine DEq.int ?_ | refine DEq.bool ?_ | omega))
  ·intro n hn hJ2
   have hms:mask L n < 2 ^ J.ps.length:=by rw [← hL];exact mask_lt L n
   have l2:=tab_len2 J hms
   have l3:=tab_len3 hJ hms
   have a1:=c_rOf (asI L) n (by omega)
   have a2:=c_rnumber (ofL (asI L) n) (asI L).length (ofL_rises _ _) (by omega)
   rw [ofL_mask] at a2
   have hent:=tab_fit hJ hms
   refine Ok.seq ?_;((first|refine qE ?_|refine qD ?_);(simp only [go_sem,↓dP,↓reduceIte];with_reducible and_intros;all_goals first|apply qA|exact qC|skip));refine Ok.cond rfl (fun _ => ?_) (fun hb => by simp at hb;omega);(refine Ok.skip ?_;(try dsimp only [thenK,blockK,noGotoK]));refine Ok.seq ?_;refine Ok.block ?_
   (first|refine qE ?_|refine qD ?_);(simp only [go_sem,↓dP,↓reduceIte];with_reducible and_intros;all_goals first|apply qA|exact qC|skip)
   (refine AskI.ret (a1) ?_;simp only [go_sem,↓dP,↓reduceIte];with_reducible and_intros;all_goals first|apply qA|exact qC|skip)
   (refine AskI.ret (a2) ?_;simp only [go_sem,↓dP,↓reduceIte];with_reducible and_intros;all_goals first|apply qA|exact qC|skip)
   refine Ok.cond rfl ?_ ?_
   ·intro hb
    have hF:J.fit (mask L n) = false:=by rw [← hent];simpa using hb
    (first|refine qE ?_|refine qD ?_);(simp only [go_sem,↓dP,↓reduceIte];with_reducible and_intros;all_goals first|apply qA|exact qC|skip)
    (refine Ok.ret ?_;(try dsimp only [thenK,blockK,noGotoK]);simp only [toList_mk,List.toList_toArray,retK_ret,retK_normal,resOK,resV,celV,rowV,frzAll,frzT,subV,subL,go_sem,↓dP,↓reduceIte])
    refine DEq.bool ?_
    rw [cuts,List.all_eq_false.2 ⟨n,List.mem_range.2 hn,by rw [hF];simp⟩]
   ·intro hb
    have hT:J.fit (mask L n) = true:=by rw [← hent];simpa using hb
    (refine Ok.skip ?_;(try dsimp only [thenK,blockK,noGotoK]))
    (first|refine qE ?_|refine qD ?_);(simp only [go_sem,↓dP,↓reduceIte];with_reducible and_intros;all_goals first|apply qA|exact qC|skip)
    (try dsimp only [thenK,blockK,noGotoK])
    refine ⟨fun m hm => ?_,?_⟩
    ·by_cases e:m = n
     ·subst e;exact hT
     ·exact hJ2 m (by omega)
    (refine Sub.of ([0]) ([]) ?_ ?_ ?_ rfl rfl<;>simp only [subB,subB1,subT,subT1,newT,subE,subV,subL,go_sem,↓dP,↓reduceIte]<;>(try (repeat' with_reducible apply And.intro))<;>(try first | exact DEq.refl _ | refine DEq.int ?_ | refine DEq.bool ?_ | omega))
  ·intro hJ2
   refine Ok.seq ?_;((first|refine qE ?_|refine qD ?_);(simp only [go_sem,↓dP,↓reduceIte];with_reducible and_intros;all_goals first|apply qA|exact qC|skip));refine Ok.cond rfl (fun hb => by simp at hb) (fun _ => ?_);(refine Ok.exit ?_;simp only [thenK_exit,blockK_exit,noGotoK_exit,thenK_normal,blockK_normal,noGotoK_normal,↓reduceIte,Nat.reduceEqDiff])
   (first|refine qE ?_|refine qD ?_);(simp only [go_sem,↓dP,↓reduceIte];with_reducible and_intros;all_goals first|apply qA|exact qC|skip)
   (refine Ok.ret ?_;(try dsimp only [thenK,blockK,noGotoK]);simp only [toList_mk,List.toList_toArray,retK_ret,retK_normal,resOK,resV,celV,rowV,frzAll,frzT,subV,subL,go_sem,↓dP,↓reduceIte])
   refine DEq.bool ?_
   rw [cuts,List.all_eq_true.2 (fun m hm => hJ2 m (List.mem_range.1 hm))]
end Go.Proofs.Leaf
namespace Go.Proofs.Leaf
open Go Go.RX Go.Proofs
set_option maxRecDepth 10000
variable [Glob]
theorem lisL_at {L:List (List Nat)} {i:Nat} (h:i < L.length):(lisL L).getD i default = asI (L.getD i default):=by
 simp [lisL,List.getD_eq_getElem?_getD,h]
theorem lisL_len (L:List (List Nat)):(lisL L).length = L.length:=by simp [lisL]
def bestN (fit:Nat->Bool) (L:List (List Nat)) (i:Nat):List (List Nat):=bestF leaves ((L.take i).filter (cuts fit))
theorem bestF_snoc {α:Type} (f:α->Nat) (l:List α) (x:α):bestF f (l ++ [x]) = stepB f (bestF f l) x:=by simp [bestF,List.foldl_append]
theorem bestN_no {fit:Nat->Bool} {L:List (List Nat)} {i:Nat} (hi:i < L.length) (h:cuts fit (L.getD i default) = false):bestN fit L (i + 1) = bestN fit L i:=by
 unfold bestN
 rw [getD_take hi,List.filter_append,List.filter_cons,h,List.filter_nil];simp
theorem bestN_yes {fit:Nat->Bool} {L:List (List Nat)} {i:Nat} (hi:i < L.length) (h:cuts fit (L.getD i default) = true):bestN fit L (i + 1) = stepB leaves (bestN fit L i) (L.getD i default):=by
 unfold bestN
 rw [getD_take hi,List.filter_append,List.filter_cons,h,List.filter_nil,if_pos rfl,bestF_snoc]
theorem bestN_mem {fit:Nat->Bool} {L:List (List Nat)} {i:Nat} {x:List Nat} (h:x∈bestN fit L i):x∈L:=by
 unfold bestN at h
 rw [bestF_eq] at h
 exact List.mem_of_mem_take (List.mem_filter.1 (List.mem_filter.1 h).1).1
def dropB (out:List (List Nat)) (x:List Nat):List (List Nat):=if (decide (0 < out.length) && decide (leaves x < leaves (out.getD 0 default))) = true then [] else out
theorem stepB_drop (out:List (List Nat)) (x:List Nat):stepB leaves out x = if (decide ((dropB out x).length = 0) || decide (leaves x = leaves ((dropB out x).getD 0 default))) = true then dropB out x ++ [x] else dropB out x:=by
 cases out with
 | nil => simp [stepB,dropB]
 | cons y r =>
  by_cases h1:leaves x < leaves y
  ·simp [stepB,dropB,h1]
  ·by_cases h2:leaves y < leaves x
   ·have h3:¬ leaves x = leaves y:=by omega
    simp [stepB,dropB,h1,h2,h3]
   ·have h3:leaves x = leaves y:=by omega
    simp [stepB,dropB,h3]
theorem dropB_mem {out:List (List Nat)} {x y:List Nat} (h:y∈dropB out x):y∈out:=by
 unfold dropB at h
 split at h
 ·cases h
 ·exact h
theorem dropB_len (out:List (List Nat)) (x:List Nat):(dropB out x).length<=out.length:=by
 unfold dropB
 split
 ·simp
 ·exact Nat.le_refl _
theorem c_rBest (J : Job) (hJ : J.sized) (hn : J.ps.length ≤ 5) : Ctr Tryz.prog 25 [J.sv] (.d (slD 1 listD (lisL (bestsL J.fit J.ps.length)))) := by
  have h1 := hJ.w0; have h2 := hJ.w1; have h3 := hJ.h0; have h4 := hJ.h1; have h5 := hJ.n
  have a1 := c_rlists J.ps.length [] (by simpa using hn) (by simp [leaves])
  simp only [List.length_nil, Nat.zero_add] at a1
  have a1' : Ctr Tryz.prog 62 [.d .nils, iS J.ps.length] (.d (slD 1 listD (lisL (listsK J.ps.length [])))) := a1.args ⟨DEq.nils rfl, .refl _, trivial⟩
  have hll : (listsK J.ps.length []).length ≤ 3125 := by
    have := listsK_len J.ps.length []
    have h2 : (leaves [] + J.ps.length) ^ J.ps.length ≤ 5 ^ 5 := Nat.le_trans (Nat.pow_le_pow_left (by simp [leaves]; omega) _) (Nat.pow_le_pow_right (by decide) (by omega))
    omega
  have hmem : ∀ l ∈ listsK J.ps.length [], l.length = J.ps.length ∧ grows l 0 = true := fun l hl => mem_lists.1 hl
  have hfin : bestN J.fit (listsK J.ps.length []) (listsK J.ps.length []).length = bestsL J.fit J.ps.length := by
    unfold bestN bestsL cutsL
    rw [List.take_length]
  rw [← hfin]
  generalize hLL : listsK J.ps.length [] = L at a1' hll hmem
  clear a1 hfin hLL
  have hlen := lisL_len L
  have hcl : ∀ x ∈ L, Ctr Tryz.prog 27 [ilS (asI x)] (iS (leaves x)) := fun x hx => by
    obtain ⟨g1, g2⟩ := hmem x hx
    have := leaves_len x g2
    have a := c_rLeaves (asI x) (by simp; omega) (fun y hy => by obtain ⟨z, hz, rfl⟩ := asI_mem hy; have := leaves_le x z hz; omega)
    rwa [leavesI_asI] at a
  (refine Ctr.mk (fn := Tryz.f25) rfl rfl rfl rfl rfl Tryz.results25 ?_; intro _; dsimp only [args, List.toList_toArray])
  (first|refine qE ?_|refine qD ?_);(simp only [go_sem,↓dP,↓reduceIte];with_reducible and_intros;all_goals first|apply qA|exact qC|skip)
  (first|refine qE ?_|refine qD ?_);(simp only [go_sem,↓dP,↓reduceIte];with_reducible and_intros;all_goals first|apply qA|exact qC|skip)
  (refine AskI.ret (c_tab J hJ) ?_; simp only [go_sem,↓dP,↓reduceIte];with_reducible and_intros;all_goals first|apply qA|exact qC|skip)
  (first|refine qE ?_|refine qD ?_);(simp only [go_sem,↓dP,↓reduceIte];with_reducible and_intros;all_goals first|apply qA|exact qC|skip)
  (refine AskI.ret (a1') ?_; simp only [go_sem,↓dP,↓reduceIte];with_reducible and_intros;all_goals first|apply qA|exact qC|skip)
  (first|refine qE ?_|refine qD ?_);(simp only [go_sem,↓dP,↓reduceIte];with_reducible and_intros;all_goals first|apply qA|exact qC|skip)
  refine Ok.seq ?_
  (first|refine qE ?_|refine qD ?_);(simp only [go_sem,↓dP,↓reduceIte];with_reducible and_intros;all_goals first|apply qA|exact qC|skip)
  refine Ok.block ?_
  refine Ok.count L.length (fun i => ⟨[(1, .p 0 0), (3, .d (slD 1 rowsD J.tab)), (4, .d (slD 1 listD (lisL L))), (5, .tk 0), (6, iS i)], [jobC J], [ownD 26 1 listD (lisL (bestN J.fit L i))]⟩) (fun _ => True) ⟨trivial, ?_⟩ ?_ ?_
  · (refine Sub.of ([0]) ([none]) ?_ ?_ ?_ rfl rfl <;> simp only [subB, subB1, subT, subT1, newT, subE, subV, subL, go_sem,↓dP,↓reduceIte] <;> (try (repeat' with_reducible apply And.intro)) <;> (try first | exact DEq.refl _ | refine DEq.int ?_ | refine DEq.bool ?_ | omega))
    simp [bestN, bestF, lisL]
  · intro i hi _
    have hxm := getD_mem (l := L) hi
    obtain ⟨g1, g2⟩ := hmem _ hxm
    have hx := lisL_at hi
    have hob := lisL_len (bestN J.fit L i)
    have hoc : (bestN J.fit L i).length ≤ i := by
      unfold bestN
      rw [bestF_eq]
      refine Nat.le_trans (List.length_filter_le _ _) (Nat.le_trans (List.length_filter_le _ _) ?_)
      rw [List.length_take]; omega
    have a2 := c_rCutting J hJ _ g1 g2
    have a3 := hcl _ hxm
    rw [← hx] at a2 a3
    refine Ok.seq ?_; ((first|refine qE ?_|refine qD ?_);(simp only [go_sem,↓dP,↓reduceIte];with_reducible and_intros;all_goals first|apply qA|exact qC|skip)); refine Ok.cond rfl (fun _ => ?_) (fun hb => by simp at hb; omega); (refine Ok.skip ?_; (try dsimp only [thenK, blockK, noGotoK])); refine Ok.seq ?_; refine Ok.block ?_
    refine Ok.seq ?_
    (first|refine qE ?_|refine qD ?_);(simp only [go_sem,↓dP,↓reduceIte];with_reducible and_intros;all_goals first|apply qA|exact qC|skip)
    (refine AskI.ret (a2) ?_; simp only [go_sem,↓dP,↓reduceIte];with_reducible and_intros;all_goals first|apply qA|exact qC|skip)
    refine Ok.cond rfl ?_ ?_
    · intro hb
      have hF : cuts J.fit (L.getD i default) = false := by simpa using hb
      (refine Ok.exit ?_; simp only [thenK_exit, blockK_exit, noGotoK_exit, thenK_normal, blockK_normal, noGotoK_normal, ↓reduceIte, Nat.reduceEqDiff])
      (first|refine qE ?_|refine qD ?_);(simp only [go_sem,↓dP,↓reduceIte];with_reducible and_intros;all_goals first|apply qA|exact qC|skip)
      (try dsimp only [thenK, blockK, noGotoK])
      refine ⟨trivial, ?_⟩
      rw [bestN_no hi hF]
      (refine Sub.of ([0]) ([some 0]) ?_ ?_ ?_ rfl rfl <;> simp only [subB, subB1, subT, subT1, newT, subE, subV, subL, go_sem,↓dP,↓reduceIte] <;> (try (repeat' with_reducible apply And.intro)) <;> (try first | exact DEq.refl _ | refine DEq.int ?_ | refine DEq.bool ?_ | omega))
      exact fun _ _ _ _ => DEq.refl _
    · intro hb
      have hT : cuts J.fit (L.getD i default) = true := by simpa using hb
      have hB := bestN_yes hi hT
      have hout : ∀ (o : List (List Nat)), (∀ y ∈ o, y ∈ L) → 0 < o.length → Ctr Tryz.prog 27 [ilS ((lisL o).getD 0 default)] (iS (leaves (o.getD 0 default))) := fun o ho h0 => by
        rw [lisL_at h0]
        exact hcl _ (ho _ (getD_mem h0))
      rw [stepB_drop] at hB
      have hD : dropB (bestN J.fit L i) (L.getD i default) = if (decide (0 < (bestN J.fit L i).length) && decide (leaves (L.getD i default) < leaves ((bestN J.fit L i).getD 0 default))) = true then [] else bestN J.fit L i := rfl
      have hDl := dropB_len (bestN J.fit L i) (L.getD i default)
      have hDm : ∀ y ∈ dropB (bestN J.fit L i) (L.getD i default), y ∈ L := fun y hy => bestN_mem (dropB_mem hy)
      generalize dropB (bestN J.fit L i) (L.getD i default) = D at hB hD hDl hDm
      (refine Ok.skip ?_; (try dsimp only [thenK, blockK, noGotoK]))
      refine Ok.join (σ' := ⟨[(1, .p 0 0), (3, .d (slD 1 rowsD J.tab)), (4, .d (slD 1 listD (lisL L))), (5, .tk 0), (6, iS i)], [jobC J], [ownD 26 1 listD (lisL D)]⟩) ?_ ?_
      · (first|refine qE ?_|refine qD ?_);(simp only [go_sem,↓dP,↓reduceIte];with_reducible and_intros;all_goals first|apply qA|exact qC|skip)
        (refine AskGI.ret (fun _ => a3) ?_; simp only [go_sem,↓dP,↓reduceIte];with_reducible and_intros;all_goals first|apply qA|exact qC|skip)
        · intro h; simpa using h
        · intro h; simpa using h
        (refine AskGI.ret (fun h => hout _ (fun y hy => bestN_mem hy) (by simpa [lisL_len] using h)) ?_; simp only [go_sem,↓dP,↓reduceIte];with_reducible and_intros;all_goals first|apply qA|exact qC|skip)
        refine Ok.cond rfl ?_ ?_
        · intro hb2
          have e : D = [] := by
            rw [hD, if_pos]
            simp only [Bool.and_eq_true, decide_eq_true_eq, lisL_len] at hb2 ⊢
            omega
          rw [e]
          (first|refine qE ?_|refine qD ?_);(simp only [go_sem,↓dP,↓reduceIte];with_reducible and_intros;all_goals first|apply qA|exact qC|skip)
          (try dsimp only [thenK, blockK, noGotoK])
          (refine Sub.of ([0]) ([none]) ?_ ?_ ?_ rfl rfl <;> simp only [subB, subB1, subT, subT1, newT, subE, subV, subL, go_sem,↓dP,↓reduceIte] <;> (try (repeat' with_reducible apply And.intro)) <;> (try first | exact DEq.refl _ | refine DEq.int ?_ | refine DEq.bool ?_ | omega))
          rfl
        · intro hb2
          have e : D = bestN J.fit L i := by
            rw [hD, if_neg]
            simp only [Bool.and_eq_true, Bool.and_eq_false_iff, decide_eq_true_eq, decide_eq_false_iff_not, lisL_len] at hb2 ⊢
            omega
          rw [e]
          (refine Ok.skip ?_; (try dsimp only [thenK, blockK, noGotoK]))
          (try dsimp only [thenK, blockK, noGotoK])
          (refine Sub.of ([0]) ([some 0]) ?_ ?_ ?_ rfl rfl <;> simp only [subB, subB1, subT, subT1, newT, subE, subV, subL, go_sem,↓dP,↓reduceIte] <;> (try (repeat' with_reducible apply And.intro)) <;> (try first | exact DEq.refl _ | refine DEq.int ?_ | refine DEq.bool ?_ | omega))
          exact fun _ _ _ _ => DEq.refl _
      · have hdl := lisL_len D
        (first|refine qE ?_|refine qD ?_);(simp only [go_sem,↓dP,↓reduceIte];with_reducible and_intros;all_goals first|apply qA|exact qC|skip)
        (refine AskGI.ret (fun _ => a3) ?_; simp only [go_sem,↓dP,↓reduceIte];with_reducible and_intros;all_goals first|apply qA|exact qC|skip)
        · intro h; simp only [beq_iff_eq, beq_eq_false_iff_ne, ne_eq] at h; omega
        · intro h; simp only [beq_iff_eq, beq_eq_false_iff_ne, ne_eq] at h; omega
        (refine AskGI.ret (fun h => hout _ hDm (by simp only [beq_iff_eq, beq_eq_false_iff_ne, ne_eq] at h; omega)) ?_; simp only [go_sem,↓dP,↓reduceIte];with_reducible and_intros;all_goals first|apply qA|exact qC|skip)
        refine Ok.cond rfl ?_ ?_
        · intro hb2
          have hB2 : bestN J.fit L (i + 1) = D ++ [L.getD i default] := by
            rw [hB, if_pos]
            simp only [Bool.or_eq_true, beq_iff_eq, decide_eq_true_eq, lisL_len] at hb2 ⊢
            omega
          have hsn : lisL (bestN J.fit L (i + 1)) = lisL D ++ [asI (L.getD i default)] := by rw [hB2]; simp [lisL]
          (first|refine qE ?_|refine qD ?_);(simp only [go_sem,↓dP,↓reduceIte];with_reducible and_intros;all_goals first|apply qA|exact qC|skip)
          (try dsimp only [thenK, blockK, noGotoK])
          (first|refine qE ?_|refine qD ?_);(simp only [go_sem,↓dP,↓reduceIte];with_reducible and_intros;all_goals first|apply qA|exact qC|skip)
          (try dsimp only [thenK, blockK, noGotoK])
          refine ⟨trivial, ?_⟩
          rw [hsn]
          (refine Sub.of ([0]) ([some 2]) ?_ ?_ ?_ rfl rfl <;> simp only [subB, subB1, subT, subT1, newT, subE, subV, subL, go_sem,↓dP,↓reduceIte] <;> (try (repeat' with_reducible apply And.intro)) <;> (try first | exact DEq.refl _ | refine DEq.int ?_ | refine DEq.bool ?_ | omega))
          · simp
          · exact snoc_D (fun c hc => by have : c = 0 := by omega
                                         subst this; rw [← hx]; rfl)
        · intro hb2
          have hB2 : bestN J.fit L (i + 1) = D := by
            rw [hB, if_neg]
            simp only [Bool.or_eq_true, Bool.or_eq_false_iff, beq_eq_false_iff_ne, ne_eq, decide_eq_true_eq, lisL_len] at hb2 ⊢
            omega
          (refine Ok.skip ?_; (try dsimp only [thenK, blockK, noGotoK]))
          (try dsimp only [thenK, blockK, noGotoK])
          (first|refine qE ?_|refine qD ?_);(simp only [go_sem,↓dP,↓reduceIte];with_reducible and_intros;all_goals first|apply qA|exact qC|skip)
          (try dsimp only [thenK, blockK, noGotoK])
          refine ⟨trivial, ?_⟩
          rw [hB2]
          (refine Sub.of ([0]) ([some 0]) ?_ ?_ ?_ rfl rfl <;> simp only [subB, subB1, subT, subT1, newT, subE, subV, subL, go_sem,↓dP,↓reduceIte] <;> (try (repeat' with_reducible apply And.intro)) <;> (try first | exact DEq.refl _ | refine DEq.int ?_ | refine DEq.bool ?_ | omega))
          exact fun _ _ _ _ => DEq.refl _
  · intro _
    refine Ok.seq ?_; ((first|refine qE ?_|refine qD ?_);(simp only [go_sem,↓dP,↓reduceIte];with_reducible and_intros;all_goals first|apply qA|exact qC|skip)); refine Ok.cond rfl (fun hb => by simp at hb; omega) (fun _ => ?_); (refine Ok.exit ?_; simp only [thenK_exit, blockK_exit, noGotoK_exit, thenK_normal, blockK_normal, noGotoK_normal, ↓reduceIte, Nat.reduceEqDiff])
    (first|refine qE ?_|refine qD ?_);(simp only [go_sem,↓dP,↓reduceIte];with_reducible and_intros;all_goals first|apply qA|exact qC|skip)
    (refine Ok.ret ?_; (try dsimp only [thenK, blockK, noGotoK]); simp only [toList_mk, List.toList_toArray, retK_ret, retK_normal, resOK, resV, celV, rowV, frzAll, frzT, subV, subL, go_sem,↓dP,↓reduceIte])
    exact .refl _
end Go.Proofs.Leaf
namespace Go.Proofs.Leaf
open Go Go.RX Go.Proofs
set_option maxRecDepth 10000
variable [Glob]
theorem c_rword (n m:Nat):Ctr Tryz.prog 66 [iS n,iS m] (iS (wordI n m)):=by
 unfold wordI
 (refine Ctr.mk (fn:=Tryz.f66) rfl rfl rfl rfl rfl Tryz.results66 ?_;intro _;dsimp only [args,List.toList_toArray])
 (first|refine qE ?_|refine qD ?_);(simp only [go_sem,↓dP,↓reduceIte];with_reducible and_intros;all_goals first|apply qA|exact qC|skip)
 refine Ok.seq ?_
 (first|refine qE ?_|refine qD ?_);(simp only [go_sem,↓dP,↓reduceIte];with_reducible and_intros;all_goals first|apply qA|exact qC|skip)
 refine Ok.cond rfl ?_ ?_
 ·intro hb
  have e:n = 0:=by simpa using hb
  rw [if_pos e]
  (first|refine qE ?_|refine qD ?_);(simp only [go_sem,↓dP,↓reduceIte];with_reducible and_intros;all_goals first|apply qA|exact qC|skip)
  (refine Ok.ret ?_;(try dsimp only [thenK,blockK,noGotoK]);simp only [toList_mk,List.toList_toArray,retK_ret,retK_normal,resOK,resV,celV,rowV,frzAll,frzT,subV,subL,go_sem,↓dP,↓reduceIte])
  exact .refl _
 ·intro hb
  have e:¬ n = 0:=by simpa using hb
  rw [if_neg e]
  (refine Ok.skip ?_;(try dsimp only [thenK,blockK,noGotoK]))
  refine Ok.seq ?_
  (first|refine qE ?_|refine qD ?_);(simp only [go_sem,↓dP,↓reduceIte];with_reducible and_intros;all_goals first|apply qA|exact qC|skip)
  refine Ok.cond rfl ?_ ?_
  ·intro hb
   have e:n = m:=by simp at hb;omega
   rw [if_pos e]
   (first|refine qE ?_|refine qD ?_);(simp only [go_sem,↓dP,↓reduceIte];with_reducible and_intros;all_goals first|apply qA|exact qC|skip)
   (refine Ok.ret ?_;(try dsimp only [thenK,blockK,noGotoK]);simp only [toList_mk,List.toList_toArray,retK_ret,retK_normal,resOK,resV,celV,rowV,frzAll,frzT,subV,subL,go_sem,↓dP,↓reduceIte])
   exact .refl _
  ·intro hb
   have e:¬ n = m:=by simp at hb;omega
   rw [if_neg e]
   (refine Ok.skip ?_;(try dsimp only [thenK,blockK,noGotoK]))
   (first|refine qE ?_|refine qD ?_);(simp only [go_sem,↓dP,↓reduceIte];with_reducible and_intros;all_goals first|apply qA|exact qC|skip)
   (refine Ok.ret ?_;(try dsimp only [thenK,blockK,noGotoK]);simp only [toList_mk,List.toList_toArray,retK_ret,retK_normal,resOK,resV,celV,rowV,frzAll,frzT,subV,subL,go_sem,↓dP,↓reduceIte])
   exact .refl _
theorem c_rSame (L:List (List Nat)) (n a b:Nat) (hL:∀ l∈L,l.length = n) (hl:L.length < 1000000) (hn:n<=100) (ha:a < n) (hb:b < n) :
  Ctr Tryz.prog 34 [.d (slD 1 listD (lisL L)),iS a,iS b] (iS (wordI (sameN L a b L.length) L.length)):=by
 have hll:=lisL_len L
 (refine Ctr.mk (fn:=Tryz.f34) rfl rfl rfl rfl rfl Tryz.results34 ?_;intro _;dsimp only [args,List.toList_toArray])
 (first|refine qE ?_|refine qD ?_);(simp only [go_sem,↓dP,↓reduceIte];with_reducible and_intros;all_goals first|apply qA|exact qC|skip)
 (first|refine qE ?_|refine qD ?_);(simp only [go_sem,↓dP,↓reduceIte];with_reducible and_intros;all_goals first|apply qA|exact qC|skip)
 refine Ok.seq ?_
 (first|refine qE ?_|refine qD ?_);(simp only [go_sem,↓dP,↓reduceIte];with_reducible and_intros;all_goals first|apply qA|exact qC|skip)
 refine Ok.block ?_
 refine Ok.count L.length (fun i => ⟨[(0,.d (slD 1 listD (lisL L))),(1,iS a),(2,iS b),(7,iS (sameN L a b i)),(8,iS i)],[],[]⟩) (fun i => sameN L a b i<=i) ⟨by simp [sameN],?_⟩ ?_ ?_
 ·(refine Sub.of ([]) ([]) ?_ ?_ ?_ rfl rfl<;>simp only [subB,subB1,subT,subT1,newT,subE,subV,subL,go_sem,↓dP,↓reduceIte]<;>(try (repeat' with_reducible apply And.intro))<;>(try first | exact DEq.refl _ | refine DEq.int ?_ | refine DEq.bool ?_ | omega))
 ·intro i hi hJ
  have hx:=lisL_at hi
  have hxl:=hL _ (getD_mem hi)
  have l1:((lisL L).getD i default).length = n:=by rw [hx,asI_len,hxl]
  have ea:((lisL L).getD i default).getD a default = (((L.getD i default).getD a default:Nat):Int):=by rw [hx,asI_at (by omega)]
  have eb:((lisL L).getD i default).getD b default = (((L.getD i default).getD b default:Nat):Int):=by rw [hx,asI_at (by omega)]
  have hsn:sameN L a b (i + 1) = sameN L a b i + (if (L.getD i default).getD a default == (L.getD i default).getD b default then 1 else 0):=by
   unfold sameN
   rw [getD_take hi,List.filter_append,List.length_append,List.filter_cons]
   split<;>simp_all
  refine Ok.seq ?_;((first|refine qE ?_|refine qD ?_);(simp only [go_sem,↓dP,↓reduceIte];with_reducible and_intros;all_goals first|apply qA|exact qC|skip));refine Ok.cond rfl (fun _ => ?_) (fun hb => by simp at hb;omega);(refine Ok.skip ?_;(try dsimp only [thenK,blockK,noGotoK]));refine Ok.seq ?_;refine Ok.block ?_
  (first|refine qE ?_|refine qD ?_);(simp only [go_sem,↓dP,↓reduceIte];with_reducible and_intros;all_goals first|apply qA|exact qC|skip)
  rw [ea,eb]
  refine Ok.cond rfl ?_ ?_
  ·intro hc
   have e:((L.getD i default).getD a default == (L.getD i default).getD b default) = true:=by simp at hc ⊢;omega
   rw [if_pos e] at hsn
   (first|refine qE ?_|refine qD ?_);(simp only [go_sem,↓dP,↓reduceIte];with_reducible and_intros;all_goals first|apply qA|exact qC|skip)
   (try dsimp only [thenK,blockK,noGotoK])
   (first|refine qE ?_|refine qD ?_);(simp only [go_sem,↓dP,↓reduceIte];with_reducible and_intros;all_goals first|apply qA|exact qC|skip)
   (try dsimp only [thenK,blockK,noGotoK])
   refine ⟨by omega,?_⟩
   (refine Sub.of ([]) ([]) ?_ ?_ ?_ rfl rfl<;>simp only [subB,subB1,subT,subT1,newT,subE,subV,subL,go_sem,↓dP,↓reduceIte]<;>(try (repeat' with_reducible apply And.intro))<;>(try first | exact DEq.refl _ | refine DEq.int ?_ | refine DEq.bool ?_ | omega))
   rw [hsn];omega
  ·intro hc
   have e:¬ ((L.getD i default).getD a default == (L.getD i default).getD b default) = true:=by simp at hc ⊢;omega
   rw [if_neg e] at hsn
   (refine Ok.skip ?_;(try dsimp only [thenK,blockK,noGotoK]))
   (try dsimp only [thenK,blockK,noGotoK])
   (first|refine qE ?_|refine qD ?_);(simp only [go_sem,↓dP,↓reduceIte];with_reducible and_intros;all_goals first|apply qA|exact qC|skip)
   (try dsimp only [thenK,blockK,noGotoK])
   refine ⟨by omega,?_⟩
   (refine Sub.of ([]) ([]) ?_ ?_ ?_ rfl rfl<;>simp only [subB,subB1,subT,subT1,newT,subE,subV,subL,go_sem,↓dP,↓reduceIte]<;>(try (repeat' with_reducible apply And.intro))<;>(try first | exact DEq.refl _ | refine DEq.int ?_ | refine DEq.bool ?_ | omega))
   rw [hsn];omega
 ·intro _
  refine Ok.seq ?_;((first|refine qE ?_|refine qD ?_);(simp only [go_sem,↓dP,↓reduceIte];with_reducible and_intros;all_goals first|apply qA|exact qC|skip));refine Ok.cond rfl (fun hb => by simp at hb;omega) (fun _ => ?_);(refine Ok.exit ?_;simp only [thenK_exit,blockK_exit,noGotoK_exit,thenK_normal,blockK_normal,noGotoK_normal,↓reduceIte,Nat.reduceEqDiff])
  (first|refine qE ?_|refine qD ?_);(simp only [go_sem,↓dP,↓reduceIte];with_reducible and_intros;all_goals first|apply qA|exact qC|skip)
  rw [hll]
  (refine AskI.ret (c_rword _ _) ?_;simp only [go_sem,↓dP,↓reduceIte];with_reducible and_intros;all_goals first|apply qA|exact qC|skip)
  (refine Ok.ret ?_;(try dsimp only [thenK,blockK,noGotoK]);simp only [toList_mk,List.toList_toArray,retK_ret,retK_normal,resOK,resV,celV,rowV,frzAll,frzT,subV,subL,go_sem,↓dP,↓reduceIte])
  exact .refl _
theorem c_rBooks (J:Job) (h:J.ok) (n:Nat) (hn:n<=1000):Ctr Tryz.prog 32 [J.sv,iS n] (spS (booksJ J n)):=by
 have h1:=h.b0;have h2:=h.b1;have h3:=h.s0;have h4:=h.s1
 have d1:=tdiv_in (a:=n + J.book - 1) (b:=J.book) (by omega) (by omega) (by omega)
 have d2:=tdiv_in (a:=n + J.book - J.spoilt - 1) (b:=J.book - J.spoilt) (by omega) (by omega) (by omega)
 have e:(n:Int) + (J.book - J.spoilt) - 1 = n + J.book - J.spoilt - 1:=by omega
 unfold booksJ
 rw [e]
 (refine Ctr.mk (fn:=Tryz.f32) rfl rfl rfl rfl rfl Tryz.results32 ?_;intro _;dsimp only [args,List.toList_toArray])
 (first|refine qE ?_|refine qD ?_);(simp only [go_sem,↓dP,↓reduceIte];with_reducible and_intros;all_goals first|apply qA|exact qC|skip)
 (first|refine qE ?_|refine qD ?_);(simp only [go_sem,↓dP,↓reduceIte];with_reducible and_intros;all_goals first|apply qA|exact qC|skip)
 (refine Ok.ret ?_;(try dsimp only [thenK,blockK,noGotoK]);simp only [toList_mk,List.toList_toArray,retK_ret,retK_normal,resOK,resV,celV,rowV,frzAll,frzT,subV,subL,go_sem,↓dP,↓reduceIte])
 ((repeat' with_reducible apply And.intro)<;>(first | exact DEq.refl _ | refine DEq.int ?_ | refine DEq.bool ?_ | skip))
end Go.Proofs.Leaf
namespace Go.Proofs.Leaf
open Go Go.RX Go.Proofs
set_option maxRecDepth 10000
variable [Glob]
def shortB (J:Job):Bool:=decide (J.gs.length<=5) && decide (J.ps.length<=7)
theorem c_lshort (J:Job) (h:J.far):Ctr Tryz.prog 21 [J.sv] (bS (shortB J)):=by
 have h1:=h.1
 have h2:=h.2
 (refine Ctr.mk (fn:=Tryz.f21) rfl rfl rfl rfl rfl Tryz.results21 ?_;intro _;dsimp only [args,List.toList_toArray])
 (first|refine qE ?_|refine qD ?_);(simp only [go_sem,↓dP,↓reduceIte];with_reducible and_intros;all_goals first|apply qA|exact qC|skip)
 (first|refine qE ?_|refine qD ?_);(simp only [go_sem,↓dP,↓reduceIte];with_reducible and_intros;all_goals first|apply qA|exact qC|skip)
 (refine Ok.ret ?_;(try dsimp only [thenK,blockK,noGotoK]);simp only [toList_mk,List.toList_toArray,retK_ret,retK_normal,resOK,resV,celV,rowV,frzAll,frzT,subV,subL,go_sem,↓dP,↓reduceIte])
 refine DEq.bool ?_
 unfold shortB
 by_cases g1:J.gs.length<=5<;>by_cases g2:J.ps.length<=7<;>simp [g1,g2]<;>omega
theorem short_held {J:Job} (h:shortB J = true):J.held:=by
 simp only [shortB,Bool.and_eq_true,decide_eq_true_eq] at h
 exact ⟨by omega,by omega⟩
end Go.Proofs.Leaf
namespace Go.Proofs.Leaf
open Go Go.RX Go.Proofs
set_option maxRecDepth 10000
variable [Glob]
theorem c_Same0 (J:Job) (hh:J.held) (a b:Int) (hj:(jobB J && inB a 0 (J.ps.length - 1) && inB b 0 (J.ps.length - 1) && !(a == b)) = false):Ctr Tryz.prog 30 [J.sv,iS a,iS b] (.tup [iS 0,iS 2]):=by
 have hh2:=hh.2
 (refine Ctr.mk (fn:=Tryz.f30) rfl rfl rfl rfl rfl Tryz.results30 ?_;intro _;dsimp only [args,List.toList_toArray])
 (first|refine qE ?_|refine qD ?_);(simp only [go_sem,↓dP,↓reduceIte];with_reducible and_intros;all_goals first|apply qA|exact qC|skip)
 refine Ok.seq ?_
 (first|refine qE ?_|refine qD ?_);(simp only [go_sem,↓dP,↓reduceIte];with_reducible and_intros;all_goals first|apply qA|exact qC|skip)
 (refine AskI.ret (c_isJob J hh) ?_;simp only [go_sem,↓dP,↓reduceIte];with_reducible and_intros;all_goals first|apply qA|exact qC|skip)
 (refine AskGI.ret (fun _ => c_hasPiece J hh.2 a) ?_;simp only [go_sem,↓dP,↓reduceIte];with_reducible and_intros;all_goals first|apply qA|exact qC|skip)
 (refine AskGI.ret (fun _ => c_hasPiece J hh.2 b) ?_;simp only [go_sem,↓dP,↓reduceIte];with_reducible and_intros;all_goals first|apply qA|exact qC|skip)
 refine Ok.cond rfl (fun _ => ?_) (fun hb => ?_)
 ·(first|refine qE ?_|refine qD ?_);(simp only [go_sem,↓dP,↓reduceIte];with_reducible and_intros;all_goals first|apply qA|exact qC|skip)
  (refine Ok.ret ?_;(try dsimp only [thenK,blockK,noGotoK]);simp only [toList_mk,List.toList_toArray,retK_ret,retK_normal,resOK,resV,celV,rowV,frzAll,frzT,subV,subL,go_sem,↓dP,↓reduceIte])
  ((repeat' with_reducible apply And.intro)<;>(first | exact DEq.refl _ | refine DEq.int ?_ | refine DEq.bool ?_ | skip))
 ·revert hb hj
  cases jobB J<;>cases inB a 0 (J.ps.length - 1)<;>cases inB b 0 (J.ps.length - 1)<;>cases a == b<;>simp
theorem c_Books0 (J:Job) (hh:J.held) (hj:jobB J = false):Ctr Tryz.prog 31 [J.sv] (.tup [spS (0,0),iS 2]):=by
 (refine Ctr.mk (fn:=Tryz.f31) rfl rfl rfl rfl rfl Tryz.results31 ?_;intro _;dsimp only [args,List.toList_toArray])
 (first|refine qE ?_|refine qD ?_);(simp only [go_sem,↓dP,↓reduceIte];with_reducible and_intros;all_goals first|apply qA|exact qC|skip)
 refine Ok.seq ?_
 (first|refine qE ?_|refine qD ?_);(simp only [go_sem,↓dP,↓reduceIte];with_reducible and_intros;all_goals first|apply qA|exact qC|skip)
 (refine AskI.ret (c_isJob J hh) ?_;simp only [go_sem,↓dP,↓reduceIte];with_reducible and_intros;all_goals first|apply qA|exact qC|skip)
 refine Ok.cond rfl (fun _ => ?_) (fun hb => by rw [hj] at hb;cases hb)
 (first|refine qE ?_|refine qD ?_);(simp only [go_sem,↓dP,↓reduceIte];with_reducible and_intros;all_goals first|apply qA|exact qC|skip)
 (refine Ok.ret ?_;(try dsimp only [thenK,blockK,noGotoK]);simp only [toList_mk,List.toList_toArray,retK_ret,retK_normal,resOK,resV,celV,rowV,frzAll,frzT,subV,subL,go_sem,↓dP,↓reduceIte])
 ((repeat' with_reducible apply And.intro)<;>(first | exact DEq.refl _ | refine DEq.int ?_ | refine DEq.bool ?_ | skip))
end Go.Proofs.Leaf
namespace Go.Proofs.YtojfpogcfpmblaaGreatDoor
open Go Go.RX Go.Proofs.Leaf Go.RowKit Go.ChangeShapes Go.WideShapes Go.ChangeAt
set_option maxRecDepth 100000
section
variable {H : Type} {enc : TypeId × Value → H} {W : World}
end
theorem opensAll_cons {t:TypeId} {ts:List TypeId} {As:List SV} (h:opensAll (t :: ts) As):∃ A Bs,As = A :: Bs/\opens t A/\opensAll ts Bs:=by
 cases As with
 | nil => exact h.elim
 | cons A Bs => exact ⟨A,Bs,rfl,h.1,h.2⟩
theorem opensAll_nil {As:List SV} (h:opensAll [] As):As = []:=by
 cases As with
 | nil => rfl
 | cons A Bs => exact h.elim
end Go.Proofs.YtojfpogcfpmblaaGreatDoor
namespace Go.Proofs.Leaf
open Go Go.RX Go.Proofs Go.RowKit
set_option maxRecDepth 100000
section
theorem leaves_ctr {x:List Nat} (hx:x.length<=100) (hg:grows x 0 = true):Ctr Tryz.prog 27 [ilS (asI x)] (iS (leaves x)):=by
 have:=leaves_len x hg
 have a:=c_rLeaves (asI x) (by simp;omega) (fun y hy => by obtain ⟨z,hz,rfl⟩:=asI_mem hy;have:=leaves_le x z hz;omega)
 rwa [leavesI_asI] at a
end
end Go.Proofs.Leaf
namespace Go.Proofs.Leaf
open Go Go.RX Go.Proofs Go.RowKit
set_option maxRecDepth 100000
section
theorem law_Sames (J:Job) (hf:J.far) (a b:Int):Ctr Tryz.prog 7 [J.sv,iS a,iS b] (bS true):=by
 (refine Ctr.mk (fn:=Tryz.f7) rfl rfl rfl rfl rfl Tryz.results7 ?_;intro _;dsimp only [args,List.toList_toArray])
 (first|refine qE ?_|refine qD ?_);(simp only [go_sem,↓dP,↓reduceIte];with_reducible and_intros;all_goals first|apply qA|exact qC|skip)
 refine Ok.seq ?_
 (first|refine qE ?_|refine qD ?_);(simp only [go_sem,↓dP,↓reduceIte];with_reducible and_intros;all_goals first|apply qA|exact qC|skip)
 (refine AskI.ret (c_lshort J hf) ?_;simp only [go_sem,↓dP,↓reduceIte];with_reducible and_intros;all_goals first|apply qA|exact qC|skip)
 refine Ok.cond rfl ?_ ?_
 ·intro hs
  (first|refine qE ?_|refine qD ?_);(simp only [go_sem,↓dP,↓reduceIte];with_reducible and_intros;all_goals first|apply qA|exact qC|skip)
  (refine AskI.ret (c_known) ?_;simp only [go_sem,↓dP,↓reduceIte];with_reducible and_intros;all_goals first|apply qA|exact qC|skip)
  (refine Ok.ret ?_;(try dsimp only [thenK,blockK,noGotoK]);simp only [toList_mk,List.toList_toArray,retK_ret,retK_normal,resOK,resV,celV,rowV,frzAll,frzT,subV,subL,go_sem,↓dP,↓reduceIte])
  ((repeat' with_reducible apply And.intro)<;>(first | exact DEq.refl _ | refine DEq.int ?_ | refine DEq.bool ?_ | skip))
 intro hs
 have hh:=short_held (by simpa using hs)
 (refine Ok.skip ?_;(try dsimp only [thenK,blockK,noGotoK]))
 cases hj:jobB J
 ·(first|refine qE ?_|refine qD ?_);(simp only [go_sem,↓dP,↓reduceIte];with_reducible and_intros;all_goals first|apply qA|exact qC|skip)
  (refine AskI.ret (c_Same0 J hh a b (by rw [hj];rfl)) ?_;simp only [go_sem,↓dP,↓reduceIte];with_reducible and_intros;all_goals first|apply qA|exact qC|skip)
  (first|refine qE ?_|refine qD ?_);(simp only [go_sem,↓dP,↓reduceIte];with_reducible and_intros;all_goals first|apply qA|exact qC|skip)
  (refine AskI.ret (c_Books0 J hh hj) ?_;simp only [go_sem,↓dP,↓reduceIte];with_reducible and_intros;all_goals first|apply qA|exact qC|skip)
  refine Ok.seq ?_
  (first|refine qE ?_|refine qD ?_);(simp only [go_sem,↓dP,↓reduceIte];with_reducible and_intros;all_goals first|apply qA|exact qC|skip)
  (refine AskI.ret (c_rJob J hh) ?_;simp only [go_sem,↓dP,↓reduceIte];with_reducible and_intros;all_goals first|apply qA|exact qC|skip)
  refine Ok.cond rfl (fun _ => ?_) (fun hb => by rw [hj] at hb;cases hb)
  (first|refine qE ?_|refine qD ?_);(simp only [go_sem,↓dP,↓reduceIte];with_reducible and_intros;all_goals first|apply qA|exact qC|skip)
  all_goals try first | exact stEqSpan | exact fun _ => stEqSpan
  (refine AskGI.ret (fun _ => c_known) ?_;simp only [go_sem,↓dP,↓reduceIte];with_reducible and_intros;all_goals first|apply qA|exact qC|skip)
  (refine Ok.ret ?_;(try dsimp only [thenK,blockK,noGotoK]);simp only [toList_mk,List.toList_toArray,retK_ret,retK_normal,resOK,resV,celV,rowV,frzAll,frzT,subV,subL,go_sem,↓dP,↓reduceIte])
  ((repeat' with_reducible apply And.intro)<;>(first | exact DEq.refl _ | refine DEq.int ?_ | refine DEq.bool ?_ | skip))
 ·have h:=jobB_iff.1 hj
  have hp:=h.p1
  have hB:Ctr Tryz.prog 25 [J.sv] (.d (slD 1 listD (lisL (bsts J)))):=c_rBest J h.sized hp
  have hK:=c_Books J h
  have hlen:=bsts_len (J:=J) hp
  have hmem:∀ l∈bsts J,l.length = J.ps.length/\grows l 0 = true:=fun l hl => bsts_mem hl
  have hS:Ctr Tryz.prog 30 [J.sv,iS a,iS b] (if (inB a 0 (J.ps.length - 1) && inB b 0 (J.ps.length - 1) && !(a == b)) = true then .tup [iS (if bsts J = [] then 0 else wordI (sameN (bsts J) a.toNat b.toNat (bsts J).length) (bsts J).length),iS (if bsts J = [] then 7 else 0)] else .tup [iS 0,iS 2]):=by
   split
   ·rename_i hv
    simp only [Bool.and_eq_true,inB_iff,Bool.not_eq_true',beq_eq_false_iff_ne] at hv
    obtain ⟨m,rfl⟩:∃ m:Nat,a = m:=⟨a.toNat,by omega⟩
    obtain ⟨n,rfl⟩:∃ n:Nat,b = n:=⟨b.toNat,by omega⟩
    exact c_Same J h m n (by omega) (by omega) (by omega)
   ·rename_i hv
    exact c_Same0 J hh a b (by rw [hj];simpa using hv)
  generalize bsts J = L at hB hK hS hlen hmem
  cases hv:(inB a 0 (J.ps.length - 1) && inB b 0 (J.ps.length - 1) && !(a == b)) with
  | false =>
   rw [hv,if_neg (by simp)] at hS
   (first|refine qE ?_|refine qD ?_);(simp only [go_sem,↓dP,↓reduceIte];with_reducible and_intros;all_goals first|apply qA|exact qC|skip)
   (refine AskI.ret (hS) ?_;simp only [go_sem,↓dP,↓reduceIte];with_reducible and_intros;all_goals first|apply qA|exact qC|skip)
   (first|refine qE ?_|refine qD ?_);(simp only [go_sem,↓dP,↓reduceIte];with_reducible and_intros;all_goals first|apply qA|exact qC|skip)
   (refine AskI.ret (hK) ?_;simp only [go_sem,↓dP,↓reduceIte];with_reducible and_intros;all_goals first|apply qA|exact qC|skip)
   refine Ok.seq ?_
   (first|refine qE ?_|refine qD ?_);(simp only [go_sem,↓dP,↓reduceIte];with_reducible and_intros;all_goals first|apply qA|exact qC|skip)
   (refine AskI.ret (c_rJob J hh) ?_;simp only [go_sem,↓dP,↓reduceIte];with_reducible and_intros;all_goals first|apply qA|exact qC|skip)
   refine Ok.cond rfl (fun hb => by rw [hj] at hb;cases hb) (fun _ => ?_)
   (refine Ok.skip ?_;(try dsimp only [thenK,blockK,noGotoK]))
   (first|refine qE ?_|refine qD ?_);(simp only [go_sem,↓dP,↓reduceIte];with_reducible and_intros;all_goals first|apply qA|exact qC|skip)
   (refine AskI.ret (hB) ?_;simp only [go_sem,↓dP,↓reduceIte];with_reducible and_intros;all_goals first|apply qA|exact qC|skip)
   cases L with
   | nil =>
    refine Ok.seq ?_
    (first|refine qE ?_|refine qD ?_);(simp only [go_sem,↓dP,↓reduceIte];with_reducible and_intros;all_goals first|apply qA|exact qC|skip)
    ·exact fun _ => stEqSpan
    (refine AskGI.ret (r:=iS 0) (fun hb => by simp at hb) ?_;simp only [go_sem,↓dP,↓reduceIte];with_reducible and_intros;all_goals first|apply qA|exact qC|skip)
    (refine AskGI.ret (r:=spS (0,0)) (fun hb => by simp at hb) ?_;simp only [go_sem,↓dP,↓reduceIte];with_reducible and_intros;all_goals first|apply qA|exact qC|skip)
    refine Ok.cond rfl (fun hb => by simp [lisL] at hb) (fun _ => ?_)
    (refine Ok.skip ?_;(try dsimp only [thenK,blockK,noGotoK]))
    refine Ok.seq ?_
    (first|refine qE ?_|refine qD ?_);(simp only [go_sem,↓dP,↓reduceIte];with_reducible and_intros;all_goals first|apply qA|exact qC|skip)
    (refine AskI.ret (c_rPiece J hh.2 a) ?_;simp only [go_sem,↓dP,↓reduceIte];with_reducible and_intros;all_goals first|apply qA|exact qC|skip)
    (refine AskGI.ret (fun _ => c_rPiece J hh.2 b) ?_;simp only [go_sem,↓dP,↓reduceIte];with_reducible and_intros;all_goals first|apply qA|exact qC|skip)
    refine Ok.cond rfl (fun _ => ?_) (fun hb => by revert hv hb;cases inB a 0 (J.ps.length - 1)<;>cases inB b 0 (J.ps.length - 1)<;>cases (a == b)<;>simp)
    (first|refine qE ?_|refine qD ?_);(simp only [go_sem,↓dP,↓reduceIte];with_reducible and_intros;all_goals first|apply qA|exact qC|skip)
    (refine AskGI.ret (fun _ => c_known) ?_;simp only [go_sem,↓dP,↓reduceIte];with_reducible and_intros;all_goals first|apply qA|exact qC|skip)
    (refine Ok.ret ?_;(try dsimp only [thenK,blockK,noGotoK]);simp only [toList_mk,List.toList_toArray,retK_ret,retK_normal,resOK,resV,celV,rowV,frzAll,frzT,subV,subL,go_sem,↓dP,↓reduceIte])
    ((repeat' with_reducible apply And.intro)<;>(first | exact DEq.refl _ | refine DEq.int ?_ | refine DEq.bool ?_ | skip))
   | cons x L =>
    have hx:=hmem x (List.mem_cons_self ..)
    have hpos:0 < (lisL (x :: L)).length:=by simp [lisL]
    refine Ok.seq ?_
    (first|refine qE ?_|refine qD ?_);(simp only [go_sem,↓dP,↓reduceIte];with_reducible and_intros;all_goals first|apply qA|exact qC|skip)
    (refine AskGI.ret (fun _ => leaves_ctr (by omega) hx.2) ?_;simp only [go_sem,↓dP,↓reduceIte];with_reducible and_intros;all_goals first|apply qA|exact qC|skip)
    (refine AskGI.ret (fun _ => c_rBooks J h (leaves x) (by have:=leaves_len x hx.2;omega)) ?_;simp only [go_sem,↓dP,↓reduceIte];with_reducible and_intros;all_goals first|apply qA|exact qC|skip)
    ·exact fun _ => stEqSpan
    refine Ok.cond rfl (fun hb => by simp [lisL] at hb;omega) (fun _ => ?_)
    (refine Ok.skip ?_;(try dsimp only [thenK,blockK,noGotoK]))
    refine Ok.seq ?_
    (first|refine qE ?_|refine qD ?_);(simp only [go_sem,↓dP,↓reduceIte];with_reducible and_intros;all_goals first|apply qA|exact qC|skip)
    (refine AskI.ret (c_rPiece J hh.2 a) ?_;simp only [go_sem,↓dP,↓reduceIte];with_reducible and_intros;all_goals first|apply qA|exact qC|skip)
    (refine AskGI.ret (fun _ => c_rPiece J hh.2 b) ?_;simp only [go_sem,↓dP,↓reduceIte];with_reducible and_intros;all_goals first|apply qA|exact qC|skip)
    refine Ok.cond rfl (fun _ => ?_) (fun hb => by revert hv hb;cases inB a 0 (J.ps.length - 1)<;>cases inB b 0 (J.ps.length - 1)<;>cases (a == b)<;>simp)
    (first|refine qE ?_|refine qD ?_);(simp only [go_sem,↓dP,↓reduceIte];with_reducible and_intros;all_goals first|apply qA|exact qC|skip)
    (refine AskGI.ret (fun _ => c_known) ?_;simp only [go_sem,↓dP,↓reduceIte];with_reducible and_intros;all_goals first|apply qA|exact qC|skip)
    (refine Ok.ret ?_;(try dsimp only [thenK,blockK,noGotoK]);simp only [toList_mk,List.toList_toArray,retK_ret,retK_normal,resOK,resV,celV,rowV,frzAll,frzT,subV,subL,go_sem,↓dP,↓reduceIte])
    ((repeat' with_reducible apply And.intro)<;>(first | exact DEq.refl _ | refine DEq.int ?_ | refine DEq.bool ?_ | skip))
  | true =>
   rw [hv,if_pos rfl] at hS
   have hv':=hv
   simp only [Bool.and_eq_true,inB_iff,Bool.not_eq_true',beq_eq_false_iff_ne] at hv'
   have hR:Ctr Tryz.prog 34 [.d (slD 1 listD (lisL L)),iS a,iS b] (iS (wordI (sameN L a.toNat b.toNat L.length) L.length)):=by
    obtain ⟨m,rfl⟩:∃ m:Nat,a = m:=⟨a.toNat,by omega⟩
    obtain ⟨n,rfl⟩:∃ n:Nat,b = n:=⟨b.toNat,by omega⟩
    exact c_rSame L J.ps.length m n (fun l hl => (hmem l hl).1) (by omega) (by omega) (by omega) (by omega)
   (first|refine qE ?_|refine qD ?_);(simp only [go_sem,↓dP,↓reduceIte];with_reducible and_intros;all_goals first|apply qA|exact qC|skip)
   (refine AskI.ret (hS) ?_;simp only [go_sem,↓dP,↓reduceIte];with_reducible and_intros;all_goals first|apply qA|exact qC|skip)
   (first|refine qE ?_|refine qD ?_);(simp only [go_sem,↓dP,↓reduceIte];with_reducible and_intros;all_goals first|apply qA|exact qC|skip)
   (refine AskI.ret (hK) ?_;simp only [go_sem,↓dP,↓reduceIte];with_reducible and_intros;all_goals first|apply qA|exact qC|skip)
   refine Ok.seq ?_
   (first|refine qE ?_|refine qD ?_);(simp only [go_sem,↓dP,↓reduceIte];with_reducible and_intros;all_goals first|apply qA|exact qC|skip)
   (refine AskI.ret (c_rJob J hh) ?_;simp only [go_sem,↓dP,↓reduceIte];with_reducible and_intros;all_goals first|apply qA|exact qC|skip)
   refine Ok.cond rfl (fun hb => by rw [hj] at hb;cases hb) (fun _ => ?_)
   (refine Ok.skip ?_;(try dsimp only [thenK,blockK,noGotoK]))
   (first|refine qE ?_|refine qD ?_);(simp only [go_sem,↓dP,↓reduceIte];with_reducible and_intros;all_goals first|apply qA|exact qC|skip)
   (refine AskI.ret (hB) ?_;simp only [go_sem,↓dP,↓reduceIte];with_reducible and_intros;all_goals first|apply qA|exact qC|skip)
   cases L with
   | nil =>
    refine Ok.seq ?_
    (first|refine qE ?_|refine qD ?_);(simp only [go_sem,↓dP,↓reduceIte];with_reducible and_intros;all_goals first|apply qA|exact qC|skip)
    ·exact fun _ => stEqSpan
    (refine AskGI.ret (r:=iS 0) (fun hb => by simp at hb) ?_;simp only [go_sem,↓dP,↓reduceIte];with_reducible and_intros;all_goals first|apply qA|exact qC|skip)
    (refine AskGI.ret (r:=spS (0,0)) (fun hb => by simp at hb) ?_;simp only [go_sem,↓dP,↓reduceIte];with_reducible and_intros;all_goals first|apply qA|exact qC|skip)
    refine Ok.cond rfl (fun hb => by simp [lisL] at hb) (fun _ => ?_)
    (refine Ok.skip ?_;(try dsimp only [thenK,blockK,noGotoK]))
    refine Ok.seq ?_
    (first|refine qE ?_|refine qD ?_);(simp only [go_sem,↓dP,↓reduceIte];with_reducible and_intros;all_goals first|apply qA|exact qC|skip)
    (refine AskI.ret (c_rPiece J hh.2 a) ?_;simp only [go_sem,↓dP,↓reduceIte];with_reducible and_intros;all_goals first|apply qA|exact qC|skip)
    (refine AskGI.ret (fun _ => c_rPiece J hh.2 b) ?_;simp only [go_sem,↓dP,↓reduceIte];with_reducible and_intros;all_goals first|apply qA|exact qC|skip)
    refine Ok.cond rfl (fun hb => by revert hv hb;cases inB a 0 (J.ps.length - 1)<;>cases inB b 0 (J.ps.length - 1)<;>cases (a == b)<;>simp) (fun _ => ?_)
    (refine Ok.skip ?_;(try dsimp only [thenK,blockK,noGotoK]))
    refine Ok.seq ?_
    (first|refine qE ?_|refine qD ?_);(simp only [go_sem,↓dP,↓reduceIte];with_reducible and_intros;all_goals first|apply qA|exact qC|skip)
    refine Ok.cond rfl (fun _ => ?_) (fun hb => by simp [lisL] at hb)
    (first|refine qE ?_|refine qD ?_);(simp only [go_sem,↓dP,↓reduceIte];with_reducible and_intros;all_goals first|apply qA|exact qC|skip)
    (refine AskGI.ret (fun _ => c_known) ?_;simp only [go_sem,↓dP,↓reduceIte];with_reducible and_intros;all_goals first|apply qA|exact qC|skip)
    (refine Ok.ret ?_;(try dsimp only [thenK,blockK,noGotoK]);simp only [toList_mk,List.toList_toArray,retK_ret,retK_normal,resOK,resV,celV,rowV,frzAll,frzT,subV,subL,go_sem,↓dP,↓reduceIte])
    ((repeat' with_reducible apply And.intro)<;>(first | exact DEq.refl _ | refine DEq.int ?_ | refine DEq.bool ?_ | skip))
   | cons x L =>
    have hx:=hmem x (List.mem_cons_self ..)
    have hpos:0 < (lisL (x :: L)).length:=by simp [lisL]
    refine Ok.seq ?_
    (first|refine qE ?_|refine qD ?_);(simp only [go_sem,↓dP,↓reduceIte];with_reducible and_intros;all_goals first|apply qA|exact qC|skip)
    (refine AskGI.ret (fun _ => leaves_ctr (by omega) hx.2) ?_;simp only [go_sem,↓dP,↓reduceIte];with_reducible and_intros;all_goals first|apply qA|exact qC|skip)
    (refine AskGI.ret (fun _ => c_rBooks J h (leaves x) (by have:=leaves_len x hx.2;omega)) ?_;simp only [go_sem,↓dP,↓reduceIte];with_reducible and_intros;all_goals first|apply qA|exact qC|skip)
    ·exact fun _ => stEqSpan
    refine Ok.cond rfl (fun hb => by simp [lisL] at hb;omega) (fun _ => ?_)
    (refine Ok.skip ?_;(try dsimp only [thenK,blockK,noGotoK]))
    refine Ok.seq ?_
    (first|refine qE ?_|refine qD ?_);(simp only [go_sem,↓dP,↓reduceIte];with_reducible and_intros;all_goals first|apply qA|exact qC|skip)
    (refine AskI.ret (c_rPiece J hh.2 a) ?_;simp only [go_sem,↓dP,↓reduceIte];with_reducible and_intros;all_goals first|apply qA|exact qC|skip)
    (refine AskGI.ret (fun _ => c_rPiece J hh.2 b) ?_;simp only [go_sem,↓dP,↓reduceIte];with_reducible and_intros;all_goals first|apply qA|exact qC|skip)
    refine Ok.cond rfl (fun hb => by revert hv hb;cases inB a 0 (J.ps.length - 1)<;>cases inB b 0 (J.ps.length - 1)<;>cases (a == b)<;>simp) (fun _ => ?_)
    (refine Ok.skip ?_;(try dsimp only [thenK,blockK,noGotoK]))
    refine Ok.seq ?_
    (first|refine qE ?_|refine qD ?_);(simp only [go_sem,↓dP,↓reduceIte];with_reducible and_intros;all_goals first|apply qA|exact qC|skip)
    refine Ok.cond rfl (fun hb => by simp [lisL] at hb;omega) (fun _ => ?_)
    (refine Ok.skip ?_;(try dsimp only [thenK,blockK,noGotoK]))
    (first|refine qE ?_|refine qD ?_);(simp only [go_sem,↓dP,↓reduceIte];with_reducible and_intros;all_goals first|apply qA|exact qC|skip)
    (refine AskGI.ret (fun _ => hR) ?_;simp only [go_sem,↓dP,↓reduceIte];with_reducible and_intros;all_goals first|apply qA|exact qC|skip)
    (refine AskGI.ret (fun _ => c_known) ?_;simp only [go_sem,↓dP,↓reduceIte];with_reducible and_intros;all_goals first|apply qA|exact qC|skip)
    (refine Ok.ret ?_;(try dsimp only [thenK,blockK,noGotoK]);simp only [toList_mk,List.toList_toArray,retK_ret,retK_normal,resOK,resV,celV,rowV,frzAll,frzT,subV,subL,go_sem,↓dP,↓reduceIte])
    ((repeat' with_reducible apply And.intro)<;>(first | exact DEq.refl _ | refine DEq.int ?_ | refine DEq.bool ?_ | skip))
end
end Go.Proofs.Leaf
namespace Go.Proofs.YtojfpogcfpmblaaGreatDoor
open Go Go.RX Go.Proofs.Leaf Go.RowKit Go.ChangeShapes Go.WideShapes Go.ChangeAt
set_option maxRecDepth 100000
theorem leafSames_ctr (As:List SV) (h:opensAll [25,3,3] As):Ctr Tryz.prog 7 As (bS true):=by
 obtain ⟨_,A1,rfl,h0,h⟩:=opensAll_cons h
 obtain ⟨_,A2,rfl,h1,h⟩:=opensAll_cons h
 obtain ⟨_,A3,rfl,h2,h⟩:=opensAll_cons h
 obtain rfl:=opensAll_nil h
 obtain ⟨x0,rfl,y0⟩:=opens_job h0
 obtain ⟨x1,rfl,y1,z1⟩:=opens_int h1
 obtain ⟨x2,rfl,y2,z2⟩:=opens_int h2
 exact law_Sames x0 y0 x1 x2
theorem leafSames_facts:joinedFacts Tryz.prog 7 Tryz.f7 Rows.leafSamesSpec Rows.leafSamesRow = true:=by unfold joinedFacts;rw [enter_is,final_is,make_is];kernel_rfl
theorem leafSames_lifted (os:Os) (started:os.Started) (H:Type) (enc:TypeId×Value->H) :
  ReturnsInHanded {} Tryz.checked os 7 .any (fun w args => (Rows.leafSamesSpec.pre enc Tryz.prog Tryz.f7 [] false w args/\laidMetH Tryz.prog laid5 w)/\sizedMet enc Tryz.prog Tryz.f7 (OpenSpec.ofChange Rows.leafSamesSpec) false w args)
   (Rows.leafSamesSpec.post enc Tryz.prog Tryz.f7 false true false false):=by
 refine law_ctr (ts:=[25,3,3]) Rows.leafSamesSpec rfl started (by kernel_rfl) Tryz.func7 (by kernel_rfl) (by rw [Tryz.params7]) (by unfold argT;decide)
  (fun ds hd => ?_)
  (ChangeSpec.witness_shaped (enc:=enc) (C:=Tryz.checked) (os:=os) (X:=fun w _ => laidMetH Tryz.prog laid5 w) false (World.laidAll Tryz.prog os laid5) #[zJ,zI,zI] 8 (World.laidAll_os _ _ _)
   (World.shaped_of_ZipB (by kernel_rfl) (by kernel_rfl)) (by kernel_rfl) (by kernel_rfl) (by kernel_rfl)
   (by rw [MakeChecks.laidMetH_plain _ _ _ (by kernel_rfl)];exact laidMet_laidAll _ (by kernel_rfl) (by kernel_rfl))) leafSames_ctr
 match ds,hd with
 | [d0,d1,d2],_ => rfl
theorem leafSames_row:Rows.LeafSamesSaid :=
 OpenClaim.holds_of_wide 7 Tryz.f7 rfl rfl rfl rfl rfl rfl rfl ⟨rfl,rfl,rfl,rfl,rfl⟩ rfl rfl rfl rfl rfl (by kernel_rfl) Tryz.func7 leafSames_facts (of_decide_eq_true (by kernel_rfl))
  (by unfold Func.isWrapper;first | (rw [if_pos (by decide +kernel)];kernel_rfl) | (rw [if_neg (by decide +kernel)];exact ⟨rfl,rfl⟩)) (fun os started H enc _ => leafSames_lifted os started H enc)
theorem leafSames_card:Rows.LeafSamesCardSaid :=
 Claim7.holds_tied_plain_at .later [] [.data,.data,.data,.data,.pinned] true (true,"b9e665a4b67ae011e5ed22b8eb226cc6d74f55357845231d1045bbc61717fa8c") true leafSames_row
  (fun _ h => by cases h) (by kernel_rfl) (fun _ h => by cases h) leafSames_row_tie rfl ⟨rfl,rfl⟩ main_is rfl
  (fun f fn hf hfn => by
   obtain rfl:f = 7:=Option.some.inj ((show Tryz.prog.funcNamed "mahlstick/mahlsticklaw04.LeafSames" = some 7 by kernel_rfl).symm.trans hf) |>.symm
   obtain rfl:fn = Tryz.f7:=(Option.some.inj (Tryz.func7.symm.trans hfn)).symm
   exact ⟨by kernel_rfl,fun j t ht => by
    rw [Tryz.params7] at ht
    exact law_stand (ts:=[25,3,3]) (by unfold argT;decide) (by simpa using Array.mem_of_getElem? ht)⟩) (by kernel_rfl)
end Go.Proofs.YtojfpogcfpmblaaGreatDoor
