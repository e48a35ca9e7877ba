/-
  which pieces fit together: LeafFits returns true at every input, and leaves it as it was.
  No condition beside those that the statement itself names.
-/
import Derived.Test.YtdajcfdhcjbmmaaGreatDoorB30
import Derived.ChangeMaps5
set_option linter.all false
namespace Go.Proofs.Leaf
theorem single_pow (n:Nat):single (2 ^ n) = true:=by
 unfold single
 rw [decide_eq_true_eq]
 induction n with
 | zero => rfl
 | succ n ih =>
  have h0:0 < 2 ^ n:=Nat.pow_pos (by decide)
  have e1:2 ^ (n + 1) / 2 = 2 ^ n:=by rw [Nat.pow_succ];omega
  have e2:(2 ^ (n + 1) - 1) / 2 = 2 ^ n - 1:=by rw [Nat.pow_succ];omega
  have hd:=and_div (2 ^ (n + 1)) (2 ^ (n + 1) - 1)
  rw [e1,e2,ih] at hd
  have hb:((2 ^ (n + 1)) &&& (2 ^ (n + 1) - 1)).testBit 0 = false:=by
   rw [Nat.testBit_and,Nat.testBit_zero]
   have:2 ^ (n + 1) % 2 = 0:=by rw [Nat.pow_succ];omega
   rw [this];rfl
  rw [Nat.testBit_zero] at hb
  simp only [decide_eq_false_iff_not] at hb
  omega
theorem sub_sum:∀ (s t:Nat),t &&& s = t->t + (s ^^^ t) = s:=by
 intro s
 induction s using Nat.strongRecOn with
 | _ s ih =>
 intro t h
 by_cases h0:s = 0
 ·subst h0
  rw [Nat.and_zero] at h
  subst h
  rfl
 ·have ih':=ih (s / 2) (by omega) (t / 2) (sub_div h)
  rw [← xor_div] at ih'
  have hx:((s ^^^ t) % 2 = 1) ↔ (s.testBit 0 != t.testBit 0) = true:=by rw [mod2_bit,xor_bit]
  have hs:=mod2_bit s
  have ht:=mod2_bit t
  have hb:=sub_bit h 0
  cases es:s.testBit 0<;>cases et:t.testBit 0<;>simp only [es,et] at hx hs ht hb
  ·have a1:¬ s % 2 = 1:=fun q => by have:=hs.1 q;cases this
   have a2:¬ t % 2 = 1:=fun q => by have:=ht.1 q;cases this
   have a3:¬ (s ^^^ t) % 2 = 1:=fun q => by have:=hx.1 q;cases this
   omega
  ·exact absurd (hb trivial) (by decide)
  ·have a1:s % 2 = 1:=hs.2 trivial
   have a2:¬ t % 2 = 1:=fun q => by have:=ht.1 q;cases this
   have a3:(s ^^^ t) % 2 = 1:=hx.2 rfl
   omega
  ·have a1:s % 2 = 1:=hs.2 trivial
   have a2:t % 2 = 1:=ht.2 trivial
   have a3:¬ (s ^^^ t) % 2 = 1:=fun q => by have:=hx.1 q;cases this
   omega
theorem sub_minus {s t:Nat} (h:t &&& s = t):s - t = s ^^^ t:=by have:=sub_sum s t h;omega
def tabF (ps:List Piece):Nat->Nat->Nat->Nat->Bool
 | 0,_,_,s => decide (s = 0)
 | f + 1,w,h,s =>
  decide (s = 0) || (List.range ps.length).any (fun n => decide (s = 2 ^ n) && alone (ps.getD n default) w h)
   || ((List.range w).any (fun n => decide (n ≠ 0) && (List.range (s + 1)).any (fun t => decide (t &&& s = t) && tabF ps f n h t && tabF ps f (w - n) h (s - t)))
    || (List.range h).any (fun n => decide (n ≠ 0) && (List.range (s + 1)).any (fun t => decide (t &&& s = t) && tabF ps f w n t && tabF ps f w (h - n) (s - t))))
theorem tabF_can {ps:List Piece} (hg:good ps):∀ (f w h s:Nat),w + h < f->tabF ps f w h s = can ps w h s
 | 0,w,h,_,hk => by omega
 | f + 1,w,h,s,hk => by
  have e1:((List.range w).any (fun n => decide (n ≠ 0) && (List.range (s + 1)).any (fun t => decide (t &&& s = t) && tabF ps f n h t && tabF ps f (w - n) h (s - t)))) = true->can ps w h s = true:=by
   rw [any_iff]
   simp only [List.mem_range,Bool.and_eq_true,decide_eq_true_eq,any_iff]
   rintro ⟨n,h1,h2,t,_,⟨h4,h5⟩,h6⟩
   rw [tabF_can hg f n h t (by omega)] at h5
   rw [sub_minus h4,tabF_can hg f (w - n) h _ (by omega)] at h6
   exact join_u hg (by omega) h1 h4 h5 h6
  have e2:((List.range h).any (fun n => decide (n ≠ 0) && (List.range (s + 1)).any (fun t => decide (t &&& s = t) && tabF ps f w n t && tabF ps f w (h - n) (s - t)))) = true->can ps w h s = true:=by
   rw [any_iff]
   simp only [List.mem_range,Bool.and_eq_true,decide_eq_true_eq,any_iff]
   rintro ⟨n,h1,h2,t,_,⟨h4,h5⟩,h6⟩
   rw [tabF_can hg f w n t (by omega)] at h5
   rw [sub_minus h4,tabF_can hg f w (h - n) _ (by omega)] at h6
   exact join_l hg (by omega) h1 h4 h5 h6
  rw [Bool.eq_iff_iff]
  constructor
  ·intro hc
   rw [tabF] at hc
   simp only [Bool.or_eq_true] at hc
   rcases hc with (hc | hc) | hc | hc
   ·simp only [decide_eq_true_eq] at hc
    subst hc;exact can_zero ..
   ·rw [any_iff] at hc
    simp only [List.mem_range,Bool.and_eq_true,decide_eq_true_eq] at hc
    obtain ⟨n,q1,q2,q3⟩:=hc
    have hp:0 < 2 ^ n:=Nat.pow_pos (by decide)
    exact (can_one (by omega) (by rw [q2];exact single_pow n)).2 ⟨n,q1,q2,q3⟩
   ·exact e1 hc
   ·exact e2 hc
  ·intro hc
   rw [tabF]
   simp only [Bool.or_eq_true]
   by_cases h0:s = 0
   ·exact .inl (.inl (by simp [h0]))
   ·cases h1:single s with
    | true =>
     obtain ⟨n,q1,q2,q3⟩:=(can_one h0 h1).1 hc
     refine .inl (.inr ?_)
     rw [any_iff]
     exact ⟨n,List.mem_range.2 q1,by simp only [Bool.and_eq_true,decide_eq_true_eq];exact ⟨q2,q3⟩⟩
    | false =>
     obtain ⟨_,⟨n,t,q1,q2,q3,q4,q5⟩ | ⟨n,t,q1,q2,q3,q4,q5⟩⟩:=(can_more h0 h1).1 hc
     ·obtain ⟨r1,r2,r3⟩:=mem_subs.1 q3
      refine .inr (.inl ?_)
      rw [any_iff]
      refine ⟨n,List.mem_range.2 q2,?_⟩
      simp only [Bool.and_eq_true,decide_eq_true_eq,any_iff]
      refine ⟨by omega,t,List.mem_range.2 (by omega),⟨r3,?_⟩,?_⟩
      ·rw [tabF_can hg f n h t (by omega)];exact q4
      ·rw [sub_minus r3,tabF_can hg f (w - n) h _ (by omega)];exact q5
     ·obtain ⟨r1,r2,r3⟩:=mem_subs.1 q3
      refine .inr (.inr ?_)
      rw [any_iff]
      refine ⟨n,List.mem_range.2 q2,?_⟩
      simp only [Bool.and_eq_true,decide_eq_true_eq,any_iff]
      refine ⟨by omega,t,List.mem_range.2 (by omega),⟨r3,?_⟩,?_⟩
      ·rw [tabF_can hg f w n t (by omega)];exact q4
      ·rw [sub_minus r3,tabF_can hg f w (h - n) _ (by omega)];exact q5
end Go.Proofs.Leaf
namespace Go.Proofs.Leaf
theorem bit_lt {t n i:Nat} (h:t < 2 ^ n) (hi:n<=i):t.testBit i = false:=Nat.testBit_lt_two_pow (Nat.lt_of_lt_of_le h (Nat.pow_le_pow_right (by decide) hi))
end Go.Proofs.Leaf
namespace Go.Proofs.Leaf
open Go Go.RX Go.Proofs
set_option maxRecDepth 10000
variable [Glob]
theorem c_rin (n lo hi:Int):Ctr Tryz.prog 50 [iS n,iS lo,iS hi] (bS (inB n lo hi)):=by
 (refine Ctr.mk (fn:=Tryz.f50) rfl rfl rfl rfl rfl Tryz.results50 ?_;intro _;dsimp only [args,List.toList_toArray])
 (first|refine qE ?_|refine qD ?_);(simp only [go_sem,↓dP,↓reduceIte];with_reducible and_intros;all_goals first|apply qA|exact qC|skip)
 (first|refine qE ?_|refine qD ?_);(simp only [go_sem,↓dP,↓reduceIte];with_reducible and_intros;all_goals first|apply qA|exact qC|skip)
 (refine Ok.ret ?_;(try dsimp only [thenK,blockK,noGotoK]);simp only [toList_mk,List.toList_toArray,retK_ret,retK_normal,resOK,resV,celV,rowV,frzAll,frzT,subV,subL,go_sem,↓dP,↓reduceIte])
 exact .refl _
theorem c_ralone (p:Piece) (w h:Nat):Ctr Tryz.prog 119 [p.sv,iS w,iS h] (bS (alone p w h)):=by
 (refine Ctr.mk (fn:=Tryz.f119) rfl rfl rfl rfl rfl Tryz.results119 ?_;intro _;dsimp only [args,List.toList_toArray])
 (first|refine qE ?_|refine qD ?_);(simp only [go_sem,↓dP,↓reduceIte];with_reducible and_intros;all_goals first|apply qA|exact qC|skip)
 (first|refine qE ?_|refine qD ?_);(simp only [go_sem,↓dP,↓reduceIte];with_reducible and_intros;all_goals first|apply qA|exact qC|skip)
 (refine Ok.ret ?_;(try dsimp only [thenK,blockK,noGotoK]);simp only [toList_mk,List.toList_toArray,retK_ret,retK_normal,resOK,resV,celV,rowV,frzAll,frzT,subV,subL,go_sem,↓dP,↓reduceIte])
 refine DEq.bool ?_
 unfold alone
 cases p.turn<;>cases decide (p.w<=(w:Int))<;>cases decide (p.h<=(h:Int))<;>cases decide (p.h<=(w:Int))<;>cases decide (p.w<=(h:Int))<;>rfl
end Go.Proofs.Leaf
namespace Go.Proofs.Leaf
open Go Go.RX Go.Proofs
set_option maxRecDepth 10000
variable [Glob]
theorem c_Check (J:Job) (hh:J.held):Ctr Tryz.prog 43 [J.sv] (iS (if jobB J = true then 0 else 2)):=by
 (refine Ctr.mk (fn:=Tryz.f43) rfl rfl rfl rfl rfl Tryz.results43 ?_;intro _;dsimp only [args,List.toList_toArray])
 (first|refine qE ?_|refine qD ?_);(simp only [go_sem,↓dP,↓reduceIte];with_reducible and_intros;all_goals first|apply qA|exact qC|skip)
 refine Ok.seq ?_
 (first|refine qE ?_|refine qD ?_);(simp only [go_sem,↓dP,↓reduceIte];with_reducible and_intros;all_goals first|apply qA|exact qC|skip)
 (refine AskI.ret (c_isJob J hh) ?_;simp only [go_sem,↓dP,↓reduceIte];with_reducible and_intros;all_goals first|apply qA|exact qC|skip)
 refine Ok.cond rfl ?_ ?_
 ·intro hb
  have hb':jobB J = false:=by simpa using hb
  (first|refine qE ?_|refine qD ?_);(simp only [go_sem,↓dP,↓reduceIte];with_reducible and_intros;all_goals first|apply qA|exact qC|skip)
  (refine Ok.ret ?_;(try dsimp only [thenK,blockK,noGotoK]);simp only [toList_mk,List.toList_toArray,retK_ret,retK_normal,resOK,resV,celV,rowV,frzAll,frzT,subV,subL,go_sem,↓dP,↓reduceIte])
  rw [hb']
  exact .refl _
 ·intro hb
  have hb':jobB J = true:=by simpa using hb
  (refine Ok.skip ?_;(try dsimp only [thenK,blockK,noGotoK]))
  (first|refine qE ?_|refine qD ?_);(simp only [go_sem,↓dP,↓reduceIte];with_reducible and_intros;all_goals first|apply qA|exact qC|skip)
  (refine Ok.ret ?_;(try dsimp only [thenK,blockK,noGotoK]);simp only [toList_mk,List.toList_toArray,retK_ret,retK_normal,resOK,resV,celV,rowV,frzAll,frzT,subV,subL,go_sem,↓dP,↓reduceIte])
  rw [hb']
  exact .refl _
theorem c_rPiece (J:Job) (hh:J.ps.length < 1000000) (n:Int):Ctr Tryz.prog 15 [J.sv,iS n] (bS (inB n 0 (J.ps.length - 1))):=by
 (refine Ctr.mk (fn:=Tryz.f15) rfl rfl rfl rfl rfl Tryz.results15 ?_;intro _;dsimp only [args,List.toList_toArray])
 (first|refine qE ?_|refine qD ?_);(simp only [go_sem,↓dP,↓reduceIte];with_reducible and_intros;all_goals first|apply qA|exact qC|skip)
 (first|refine qE ?_|refine qD ?_);(simp only [go_sem,↓dP,↓reduceIte];with_reducible and_intros;all_goals first|apply qA|exact qC|skip)
 (refine AskI.ret (c_rin _ _ _) ?_;simp only [go_sem,↓dP,↓reduceIte];with_reducible and_intros;all_goals first|apply qA|exact qC|skip)
 (refine Ok.ret ?_;(try dsimp only [thenK,blockK,noGotoK]);simp only [toList_mk,List.toList_toArray,retK_ret,retK_normal,resOK,resV,celV,rowV,frzAll,frzT,subV,subL,go_sem,↓dP,↓reduceIte])
 exact .refl _
theorem c_rSome (J:Job) (hh:J.ps.length < 1000000) (l:List Int) (hl:l.length < 1000000):Ctr Tryz.prog 31 [J.sv,ilS l] (bS (someB J.ps.length l)):=by
 (refine Ctr.mk (fn:=Tryz.f31) rfl rfl rfl rfl rfl Tryz.results31 ?_;intro _;dsimp only [args,List.toList_toArray])
 (first|refine qE ?_|refine qD ?_);(simp only [go_sem,↓dP,↓reduceIte];with_reducible and_intros;all_goals first|apply qA|exact qC|skip)
 refine Ok.seq ?_
 (first|refine qE ?_|refine qD ?_);(simp only [go_sem,↓dP,↓reduceIte];with_reducible and_intros;all_goals first|apply qA|exact qC|skip)
 refine Ok.block ?_
 refine Ok.count l.length (fun i => ⟨[(1,ilS l),(2,.p 0 0),(5,iS i)],[jobC J],[]⟩) (fun i => ∀ j,j < i->pieceAt J.ps.length l j = true) ⟨fun j hj => by omega,?_⟩ ?_ ?_
 ·(refine Sub.of ([0]) ([]) ?_ ?_ ?_ rfl rfl<;>simp only [subB,subB1,subT,subT1,newT,subE,subV,subL,go_sem,↓dP,↓reduceIte]<;>(try (repeat' with_reducible apply And.intro))<;>(try first | exact DEq.refl _ | refine DEq.int ?_ | refine DEq.bool ?_ | omega))
 ·intro i hi hJ
  have e1:((i:Int) - 1).toNat = i - 1:=by omega
  refine Ok.seq ?_;((first|refine qE ?_|refine qD ?_);(simp only [go_sem,↓dP,↓reduceIte];with_reducible and_intros;all_goals first|apply qA|exact qC|skip));refine Ok.cond rfl (fun _ => ?_) (fun hb => by simp at hb;omega);(refine Ok.skip ?_;(try dsimp only [thenK,blockK,noGotoK]));refine Ok.seq ?_;refine Ok.block ?_
  (first|refine qE ?_|refine qD ?_);(simp only [go_sem,↓dP,↓reduceIte];with_reducible and_intros;all_goals first|apply qA|exact qC|skip)
  (refine AskI.ret (c_rPiece J hh _) ?_;simp only [go_sem,↓dP,↓reduceIte];with_reducible and_intros;all_goals first|apply qA|exact qC|skip)
  ·intro h
   simp only [Bool.and_eq_true,beq_iff_eq,decide_eq_true_eq] at h
   omega
  have hst:pieceAt J.ps.length l i = (inB (l.getD i default) 0 (J.ps.length - 1) && (decide (i = 0) || decide (l.getD (i - 1) default < l.getD i default))):=rfl
  refine Ok.cond rfl ?_ ?_
  ·intro hx
   have hF:pieceAt J.ps.length l i = false:=by
    rw [hst]
    revert hx
    rw [e1]
    cases inB (l.getD i default) 0 (J.ps.length - 1)<;>simp<;>omega
   (first|refine qE ?_|refine qD ?_);(simp only [go_sem,↓dP,↓reduceIte];with_reducible and_intros;all_goals first|apply qA|exact qC|skip)
   (refine Ok.ret ?_;(try dsimp only [thenK,blockK,noGotoK]);simp only [toList_mk,List.toList_toArray,retK_ret,retK_normal,resOK,resV,celV,rowV,frzAll,frzT,subV,subL,go_sem,↓dP,↓reduceIte])
   rw [someB_no hi hF]
   exact .refl _
  ·intro hx
   have hT:pieceAt J.ps.length l i = true:=by
    rw [hst]
    revert hx
    rw [e1]
    cases inB (l.getD i default) 0 (J.ps.length - 1)<;>simp<;>omega
   (refine Ok.skip ?_;(try dsimp only [thenK,blockK,noGotoK]))
   (first|refine qE ?_|refine qD ?_);(simp only [go_sem,↓dP,↓reduceIte];with_reducible and_intros;all_goals first|apply qA|exact qC|skip)
   (try dsimp only [thenK,blockK,noGotoK])
   refine ⟨fun j hj => ?_,?_⟩
   ·by_cases e:j = i
    ·subst e;exact hT
    ·exact hJ j (by omega)
   (refine Sub.of ([0]) ([]) ?_ ?_ ?_ rfl rfl<;>simp only [subB,subB1,subT,subT1,newT,subE,subV,subL,go_sem,↓dP,↓reduceIte]<;>(try (repeat' with_reducible apply And.intro))<;>(try first | exact DEq.refl _ | refine DEq.int ?_ | refine DEq.bool ?_ | omega))
 ·intro hJ
  refine Ok.seq ?_;((first|refine qE ?_|refine qD ?_);(simp only [go_sem,↓dP,↓reduceIte];with_reducible and_intros;all_goals first|apply qA|exact qC|skip));refine Ok.cond rfl (fun hb => by simp at hb) (fun _ => ?_);(refine Ok.exit ?_;simp only [thenK_exit,blockK_exit,noGotoK_exit,thenK_normal,blockK_normal,noGotoK_normal,↓reduceIte,Nat.reduceEqDiff])
  (first|refine qE ?_|refine qD ?_);(simp only [go_sem,↓dP,↓reduceIte];with_reducible and_intros;all_goals first|apply qA|exact qC|skip)
  (refine Ok.ret ?_;(try dsimp only [thenK,blockK,noGotoK]);simp only [toList_mk,List.toList_toArray,retK_ret,retK_normal,resOK,resV,celV,rowV,frzAll,frzT,subV,subL,go_sem,↓dP,↓reduceIte])
  rw [someB_yes hJ]
  exact .refl _
end Go.Proofs.Leaf
namespace Go.Proofs.Leaf
open Go Go.RX Go.Proofs
set_option maxRecDepth 10000
variable [Glob]
theorem c_rJob (J:Job) (hh:J.held):Ctr Tryz.prog 26 [J.sv] (bS (jobB J)):=by
 have hh1:=hh.1
 have hh2:=hh.2
 (refine Ctr.mk (fn:=Tryz.f26) rfl rfl rfl rfl rfl Tryz.results26 ?_;intro _;dsimp only [args,List.toList_toArray])
 (first|refine qE ?_|refine qD ?_);(simp only [go_sem,↓dP,↓reduceIte];with_reducible and_intros;all_goals first|apply qA|exact qC|skip)
 refine Ok.seq ?_
 (first|refine qE ?_|refine qD ?_);(simp only [go_sem,↓dP,↓reduceIte];with_reducible and_intros;all_goals first|apply qA|exact qC|skip)
 (refine AskI.ret (c_rin _ _ _) ?_;simp only [go_sem,↓dP,↓reduceIte];with_reducible and_intros;all_goals first|apply qA|exact qC|skip)
 (refine AskGI.ret (fun _ => c_rin _ _ _) ?_;simp only [go_sem,↓dP,↓reduceIte];with_reducible and_intros;all_goals first|apply qA|exact qC|skip)
 (refine AskGI.ret (fun _ => c_rin _ _ _) ?_;simp only [go_sem,↓dP,↓reduceIte];with_reducible and_intros;all_goals first|apply qA|exact qC|skip)
 ·intro h
  have:inB J.book 1 25 = true:=by revert h;cases inB J.book 1 25<;>simp
  rw [inB_iff] at this
  exact R64 (by omega) (by omega)
 (refine AskGI.ret (fun _ => c_rin _ _ _) ?_;simp only [go_sem,↓dP,↓reduceIte];with_reducible and_intros;all_goals first|apply qA|exact qC|skip)
 (refine AskGI.ret (fun _ => c_rin _ _ _) ?_;simp only [go_sem,↓dP,↓reduceIte];with_reducible and_intros;all_goals first|apply qA|exact qC|skip)
 (refine AskGI.ret (fun _ => c_rin _ _ _) ?_;simp only [go_sem,↓dP,↓reduceIte];with_reducible and_intros;all_goals first|apply qA|exact qC|skip)
 refine Ok.cond rfl ?_ ?_
 ·intro hb
  (first|refine qE ?_|refine qD ?_);(simp only [go_sem,↓dP,↓reduceIte];with_reducible and_intros;all_goals first|apply qA|exact qC|skip)
  (refine Ok.ret ?_;(try dsimp only [thenK,blockK,noGotoK]);simp only [toList_mk,List.toList_toArray,retK_ret,retK_normal,resOK,resV,celV,rowV,frzAll,frzT,subV,subL,go_sem,↓dP,↓reduceIte])
  refine DEq.bool ?_
  have:headB J = false:=by
   revert hb
   unfold headB
   cases inB J.wide 1 6<;>cases inB J.high 1 6<;>cases inB J.book 1 25<;>cases inB J.spoilt 0 (J.book - 1)<;>cases inB J.gs.length 1 3<;>cases inB J.ps.length 1 5<;>simp
  simp [jobB,this]
 intro hb
 have hhead:headB J = true:=by
  revert hb
  unfold headB
  cases inB J.wide 1 6<;>cases inB J.high 1 6<;>cases inB J.book 1 25<;>cases inB J.spoilt 0 (J.book - 1)<;>cases inB J.gs.length 1 3<;>cases inB J.ps.length 1 5<;>simp
 (refine Ok.skip ?_;(try dsimp only [thenK,blockK,noGotoK]))
 refine Ok.seq ?_
 (first|refine qE ?_|refine qD ?_);(simp only [go_sem,↓dP,↓reduceIte];with_reducible and_intros;all_goals first|apply qA|exact qC|skip)
 refine Ok.block ?_
 refine Ok.count J.gs.length (fun i => ⟨[(1,.p 0 0),(3,iS i)],[jobC J],[]⟩) (fun i => ∀ x∈J.gs.take i,(!groundB x) = false) ⟨fun x hx => by simp at hx,?_⟩ ?_ ?_
 ·(refine Sub.of ([0]) ([]) ?_ ?_ ?_ rfl rfl<;>simp only [subB,subB1,subT,subT1,newT,subE,subV,subL,go_sem,↓dP,↓reduceIte]<;>(try (repeat' with_reducible apply And.intro))<;>(try first | exact DEq.refl _ | refine DEq.int ?_ | refine DEq.bool ?_ | omega))
 ·intro i hi h0
  refine Ok.seq ?_;((first|refine qE ?_|refine qD ?_);(simp only [go_sem,↓dP,↓reduceIte];with_reducible and_intros;all_goals first|apply qA|exact qC|skip));refine Ok.cond rfl (fun _ => ?_) (fun hb => by simp at hb;omega);(refine Ok.skip ?_;(try dsimp only [thenK,blockK,noGotoK]));refine Ok.seq ?_;refine Ok.block ?_
  (first|refine qE ?_|refine qD ?_);(simp only [go_sem,↓dP,↓reduceIte];with_reducible and_intros;all_goals first|apply qA|exact qC|skip)
  (first|refine qE ?_|refine qD ?_);(simp only [go_sem,↓dP,↓reduceIte];with_reducible and_intros;all_goals first|apply qA|exact qC|skip)
  (refine AskI.ret (c_rin _ _ _) ?_;simp only [go_sem,↓dP,↓reduceIte];with_reducible and_intros;all_goals first|apply qA|exact qC|skip)
  (refine AskGI.ret (fun _ => c_rin _ _ _) ?_;simp only [go_sem,↓dP,↓reduceIte];with_reducible and_intros;all_goals first|apply qA|exact qC|skip)
  (refine AskGI.ret (fun _ => c_rin _ _ _) ?_;simp only [go_sem,↓dP,↓reduceIte];with_reducible and_intros;all_goals first|apply qA|exact qC|skip)
  (refine AskGI.ret (fun _ => c_rin _ _ _) ?_;simp only [go_sem,↓dP,↓reduceIte];with_reducible and_intros;all_goals first|apply qA|exact qC|skip)
  have hg:groundB (J.gs.getD i default) = (inB (J.gs.getD i default).rl 0 12 && inB (J.gs.getD i default).rh (J.gs.getD i default).rl 12 && inB (J.gs.getD i default).ll (J.gs.getD i default).rh 12 && inB (J.gs.getD i default).lh (J.gs.getD i default).ll 12):=rfl
  refine Ok.cond rfl ?_ ?_
  ·intro hx
   have hx':(!groundB (J.gs.getD i default)) = true:=by
    rw [hg]
    revert hx
    cases inB (J.gs.getD i default).rl 0 12<;>cases inB (J.gs.getD i default).rh (J.gs.getD i default).rl 12<;>cases inB (J.gs.getD i default).ll (J.gs.getD i default).rh 12<;>cases inB (J.gs.getD i default).lh (J.gs.getD i default).ll 12<;>simp
   (first|refine qE ?_|refine qD ?_);(simp only [go_sem,↓dP,↓reduceIte];with_reducible and_intros;all_goals first|apply qA|exact qC|skip)
   (refine Ok.ret ?_;(try dsimp only [thenK,blockK,noGotoK]);simp only [toList_mk,List.toList_toArray,retK_ret,retK_normal,resOK,resV,celV,rowV,frzAll,frzT,subV,subL,go_sem,↓dP,↓reduceIte])
   refine DEq.bool ?_
   have:J.gs.any (fun g => !groundB g) = true:=List.any_eq_true.2 ⟨_,getD_mem hi,hx'⟩
   rw [jobB,all_any,this];simp
  ·intro hx
   have hx':(!groundB (J.gs.getD i default)) = false:=by
    rw [hg]
    revert hx
    cases inB (J.gs.getD i default).rl 0 12<;>cases inB (J.gs.getD i default).rh (J.gs.getD i default).rl 12<;>cases inB (J.gs.getD i default).ll (J.gs.getD i default).rh 12<;>cases inB (J.gs.getD i default).lh (J.gs.getD i default).ll 12<;>simp
   (refine Ok.skip ?_;(try dsimp only [thenK,blockK,noGotoK]))
   (first|refine qE ?_|refine qD ?_);(simp only [go_sem,↓dP,↓reduceIte];with_reducible and_intros;all_goals first|apply qA|exact qC|skip)
   (try dsimp only [thenK,blockK,noGotoK])
   refine ⟨no_step (q:=fun g => !groundB g) hi h0 hx',?_⟩
   (refine Sub.of ([0]) ([]) ?_ ?_ ?_ rfl rfl<;>simp only [subB,subB1,subT,subT1,newT,subE,subV,subL,go_sem,↓dP,↓reduceIte]<;>(try (repeat' with_reducible apply And.intro))<;>(try first | exact DEq.refl _ | refine DEq.int ?_ | refine DEq.bool ?_ | omega))
 intro h0
 have hgs:J.gs.any (fun g => !groundB g) = false:=List.any_eq_false.2 (fun x hx => by simp [h0 x (by simpa using hx)])
 refine Ok.seq ?_;((first|refine qE ?_|refine qD ?_);(simp only [go_sem,↓dP,↓reduceIte];with_reducible and_intros;all_goals first|apply qA|exact qC|skip));refine Ok.cond rfl (fun hb => by simp at hb) (fun _ => ?_);(refine Ok.exit ?_;simp only [thenK_exit,blockK_exit,noGotoK_exit,thenK_normal,blockK_normal,noGotoK_normal,↓reduceIte,Nat.reduceEqDiff])
 refine Ok.seq ?_
 (first|refine qE ?_|refine qD ?_);(simp only [go_sem,↓dP,↓reduceIte];with_reducible and_intros;all_goals first|apply qA|exact qC|skip)
 refine Ok.block ?_
 refine Ok.count J.ps.length (fun i => ⟨[(1,.p 0 0),(5,iS i)],[jobC J],[]⟩) (fun i => ∀ x∈J.ps.take i,(!pieceB J.gs.length x) = false) ⟨fun x hx => by simp at hx,?_⟩ ?_ ?_
 ·(refine Sub.of ([0]) ([]) ?_ ?_ ?_ rfl rfl<;>simp only [subB,subB1,subT,subT1,newT,subE,subV,subL,go_sem,↓dP,↓reduceIte]<;>(try (repeat' with_reducible apply And.intro))<;>(try first | exact DEq.refl _ | refine DEq.int ?_ | refine DEq.bool ?_ | omega))
 ·intro i hi h0
  refine Ok.seq ?_;((first|refine qE ?_|refine qD ?_);(simp only [go_sem,↓dP,↓reduceIte];with_reducible and_intros;all_goals first|apply qA|exact qC|skip));refine Ok.cond rfl (fun _ => ?_) (fun hb => by simp at hb;omega);(refine Ok.skip ?_;(try dsimp only [thenK,blockK,noGotoK]));refine Ok.seq ?_;refine Ok.block ?_
  (first|refine qE ?_|refine qD ?_);(simp only [go_sem,↓dP,↓reduceIte];with_reducible and_intros;all_goals first|apply qA|exact qC|skip)
  (first|refine qE ?_|refine qD ?_);(simp only [go_sem,↓dP,↓reduceIte];with_reducible and_intros;all_goals first|apply qA|exact qC|skip)
  (refine AskI.ret (c_rin _ _ _) ?_;simp only [go_sem,↓dP,↓reduceIte];with_reducible and_intros;all_goals first|apply qA|exact qC|skip)
  (refine AskGI.ret (fun _ => c_rin _ _ _) ?_;simp only [go_sem,↓dP,↓reduceIte];with_reducible and_intros;all_goals first|apply qA|exact qC|skip)
  (refine AskGI.ret (fun _ => c_rin _ _ _) ?_;simp only [go_sem,↓dP,↓reduceIte];with_reducible and_intros;all_goals first|apply qA|exact qC|skip)
  have hg:pieceB J.gs.length (J.ps.getD i default) = (inB (J.ps.getD i default).w 1 6 && inB (J.ps.getD i default).h 1 6 && inB (J.ps.getD i default).g 0 (J.gs.length - 1)):=rfl
  refine Ok.cond rfl ?_ ?_
  ·intro hx
   have hx':(!pieceB J.gs.length (J.ps.getD i default)) = true:=by
    rw [hg]
    revert hx
    cases inB (J.ps.getD i default).w 1 6<;>cases inB (J.ps.getD i default).h 1 6<;>cases inB (J.ps.getD i default).g 0 (J.gs.length - 1)<;>simp
   (first|refine qE ?_|refine qD ?_);(simp only [go_sem,↓dP,↓reduceIte];with_reducible and_intros;all_goals first|apply qA|exact qC|skip)
   (refine Ok.ret ?_;(try dsimp only [thenK,blockK,noGotoK]);simp only [toList_mk,List.toList_toArray,retK_ret,retK_normal,resOK,resV,celV,rowV,frzAll,frzT,subV,subL,go_sem,↓dP,↓reduceIte])
   refine DEq.bool ?_
   have:J.ps.any (fun p => !pieceB J.gs.length p) = true:=List.any_eq_true.2 ⟨_,getD_mem hi,hx'⟩
   rw [jobB,all_any J.ps,this];simp
  ·intro hx
   have hx':(!pieceB J.gs.length (J.ps.getD i default)) = false:=by
    rw [hg]
    revert hx
    cases inB (J.ps.getD i default).w 1 6<;>cases inB (J.ps.getD i default).h 1 6<;>cases inB (J.ps.getD i default).g 0 (J.gs.length - 1)<;>simp
   (refine Ok.skip ?_;(try dsimp only [thenK,blockK,noGotoK]))
   (first|refine qE ?_|refine qD ?_);(simp only [go_sem,↓dP,↓reduceIte];with_reducible and_intros;all_goals first|apply qA|exact qC|skip)
   (try dsimp only [thenK,blockK,noGotoK])
   refine ⟨no_step (q:=fun p => !pieceB J.gs.length p) hi h0 hx',?_⟩
   (refine Sub.of ([0]) ([]) ?_ ?_ ?_ rfl rfl<;>simp only [subB,subB1,subT,subT1,newT,subE,subV,subL,go_sem,↓dP,↓reduceIte]<;>(try (repeat' with_reducible apply And.intro))<;>(try first | exact DEq.refl _ | refine DEq.int ?_ | refine DEq.bool ?_ | omega))
 ·intro h0
  have hps:J.ps.any (fun p => !pieceB J.gs.length p) = false:=List.any_eq_false.2 (fun x hx => by simp [h0 x (by simpa using hx)])
  refine Ok.seq ?_;((first|refine qE ?_|refine qD ?_);(simp only [go_sem,↓dP,↓reduceIte];with_reducible and_intros;all_goals first|apply qA|exact qC|skip));refine Ok.cond rfl (fun hb => by simp at hb) (fun _ => ?_);(refine Ok.exit ?_;simp only [thenK_exit,blockK_exit,noGotoK_exit,thenK_normal,blockK_normal,noGotoK_normal,↓reduceIte,Nat.reduceEqDiff])
  (first|refine qE ?_|refine qD ?_);(simp only [go_sem,↓dP,↓reduceIte];with_reducible and_intros;all_goals first|apply qA|exact qC|skip)
  (refine Ok.ret ?_;(try dsimp only [thenK,blockK,noGotoK]);simp only [toList_mk,List.toList_toArray,retK_ret,retK_normal,resOK,resV,celV,rowV,frzAll,frzT,subV,subL,go_sem,↓dP,↓reduceIte])
  refine DEq.bool ?_
  rw [jobB,hhead,all_any,all_any,hgs,hps]
  rfl
theorem c_rpower (n:Nat) (h:n<=20):Ctr Tryz.prog 117 [iS n] (iS (2 ^ n:Nat)):=by
 have hp:2 ^ n<=2 ^ 20:=Nat.pow_le_pow_right (by decide) h
 have hpc:(1:Int) * 2 ^ n = ((2 ^ n:Nat):Int):=by simp
 (refine Ctr.mk (fn:=Tryz.f117) rfl rfl rfl rfl rfl Tryz.results117 ?_;intro _;dsimp only [args,List.toList_toArray])
 (first|refine qE ?_|refine qD ?_);(simp only [go_sem,↓dP,↓reduceIte];with_reducible and_intros;all_goals first|apply qA|exact qC|skip)
 (first|refine qE ?_|refine qD ?_);(simp only [go_sem,↓dP,↓reduceIte];with_reducible and_intros;all_goals first|apply qA|exact qC|skip)
 ·rw [hpc];generalize 2 ^ n = P at hp ⊢;exact R64 (by omega) (by omega)
 (refine Ok.ret ?_;(try dsimp only [thenK,blockK,noGotoK]);simp only [toList_mk,List.toList_toArray,retK_ret,retK_normal,resOK,resV,celV,rowV,frzAll,frzT,subV,subL,go_sem,↓dP,↓reduceIte])
 refine DEq.int ?_
 simp
theorem c_rhas (s n:Nat) (hs:s < 1024) (h:n<=20):Ctr Tryz.prog 137 [iS s,iS n] (bS (s.testBit n)):=by
 have hp:2 ^ n<=2 ^ 20:=Nat.pow_le_pow_right (by decide) h
 have hand:=bits_and_i64 s (2 ^ n) (by omega) (by omega)
 (refine Ctr.mk (fn:=Tryz.f137) rfl rfl rfl rfl rfl Tryz.results137 ?_;intro _;dsimp only [args,List.toList_toArray])
 (first|refine qE ?_|refine qD ?_);(simp only [go_sem,↓dP,↓reduceIte];with_reducible and_intros;all_goals first|apply qA|exact qC|skip)
 (first|refine qE ?_|refine qD ?_);(simp only [go_sem,↓dP,↓reduceIte];with_reducible and_intros;all_goals first|apply qA|exact qC|skip)
 (refine AskI.ret (c_rpower n h) ?_;simp only [go_sem,↓dP,↓reduceIte];with_reducible and_intros;all_goals first|apply qA|exact qC|skip)
 (refine Ok.ret ?_;(try dsimp only [thenK,blockK,noGotoK]);simp only [toList_mk,List.toList_toArray,retK_ret,retK_normal,resOK,resV,celV,rowV,frzAll,frzT,subV,subL,go_sem,↓dP,↓reduceIte])
 refine DEq.bool ?_
 rw [hand,← and_bit,Bool.eq_iff_iff]
 simp only [bne_iff_ne];omega
theorem c_rpart (t s:Nat) (ht:t < 1024) (hs:s < 1024):Ctr Tryz.prog 138 [iS t,iS s] (bS (decide (t &&& s = t))):=by
 have hand:=bits_and_i64 t s (by omega) (by omega)
 (refine Ctr.mk (fn:=Tryz.f138) rfl rfl rfl rfl rfl Tryz.results138 ?_;intro _;dsimp only [args,List.toList_toArray])
 (first|refine qE ?_|refine qD ?_);(simp only [go_sem,↓dP,↓reduceIte];with_reducible and_intros;all_goals first|apply qA|exact qC|skip)
 (first|refine qE ?_|refine qD ?_);(simp only [go_sem,↓dP,↓reduceIte];with_reducible and_intros;all_goals first|apply qA|exact qC|skip)
 (refine Ok.ret ?_;(try dsimp only [thenK,blockK,noGotoK]);simp only [toList_mk,List.toList_toArray,retK_ret,retK_normal,resOK,resV,celV,rowV,frzAll,frzT,subV,subL,go_sem,↓dP,↓reduceIte])
 refine DEq.bool ?_
 rw [hand,Bool.eq_iff_iff]
 simp only [beq_iff_eq,decide_eq_true_eq];omega
def bitsOf (s k:Nat):List Nat:=(List.range k).filter (fun n => s.testBit n)
theorem bitsOf_succ (s k:Nat):bitsOf s (k + 1) = if s.testBit k = true then bitsOf s k ++ [k] else bitsOf s k:=by
 unfold bitsOf
 rw [List.range_succ,List.filter_append]
 cases h:s.testBit k<;>simp [h]
def oneI:List Nat->Int
 | [i] => i
 | _ => -1
theorem oneI_many {L:List Nat} (h:2<=L.length):oneI L = -1:=by
 match L,h with
 | _ :: _ :: _,_ => rfl
theorem c_rsingle (s n:Nat) (hs:s < 1024) (hn:n<=20):Ctr Tryz.prog 118 [iS s,iS n] (iS (oneI (bitsOf s n))):=by
 (refine Ctr.mk (fn:=Tryz.f118) rfl rfl rfl rfl rfl Tryz.results118 ?_;intro _;dsimp only [args,List.toList_toArray])
 (first|refine qE ?_|refine qD ?_);(simp only [go_sem,↓dP,↓reduceIte];with_reducible and_intros;all_goals first|apply qA|exact qC|skip)
 (first|refine qE ?_|refine qD ?_);(simp only [go_sem,↓dP,↓reduceIte];with_reducible and_intros;all_goals first|apply qA|exact qC|skip)
 refine Ok.seq ?_
 (first|refine qE ?_|refine qD ?_);(simp only [go_sem,↓dP,↓reduceIte];with_reducible and_intros;all_goals first|apply qA|exact qC|skip)
 refine Ok.block ?_
 refine Ok.count n (fun i => ⟨[(0,iS s),(1,iS n),(5,iS (oneI (bitsOf s i))),(6,iS i)],[],[]⟩) (fun i => (bitsOf s i).length<=1) ⟨by simp [bitsOf],?_⟩ ?_ ?_
 ·(refine Sub.of ([]) ([]) ?_ ?_ ?_ rfl rfl<;>simp only [subB,subB1,subT,subT1,newT,subE,subV,subL,go_sem,↓dP,↓reduceIte]<;>(try (repeat' with_reducible apply And.intro))<;>(try first | exact DEq.refl _ | refine DEq.int ?_ | refine DEq.bool ?_ | omega))
 ·intro i hi hlen
  have hsn:=bitsOf_succ s i
  refine Ok.seq ?_;((first|refine qE ?_|refine qD ?_);(simp only [go_sem,↓dP,↓reduceIte];with_reducible and_intros;all_goals first|apply qA|exact qC|skip));refine Ok.cond rfl (fun _ => ?_) (fun hb => by simp at hb;omega);(refine Ok.skip ?_;(try dsimp only [thenK,blockK,noGotoK]));refine Ok.seq ?_;refine Ok.block ?_
  (first|refine qE ?_|refine qD ?_);(simp only [go_sem,↓dP,↓reduceIte];with_reducible and_intros;all_goals first|apply qA|exact qC|skip)
  (refine AskI.ret (c_rhas s i hs (by omega)) ?_;simp only [go_sem,↓dP,↓reduceIte];with_reducible and_intros;all_goals first|apply qA|exact qC|skip)
  refine Ok.cond rfl ?_ ?_
  ·intro hb
   rw [if_pos hb] at hsn
   refine Ok.seq ?_
   (first|refine qE ?_|refine qD ?_);(simp only [go_sem,↓dP,↓reduceIte];with_reducible and_intros;all_goals first|apply qA|exact qC|skip)
   refine Ok.cond rfl ?_ ?_
   ·intro hb2
    (first|refine qE ?_|refine qD ?_);(simp only [go_sem,↓dP,↓reduceIte];with_reducible and_intros;all_goals first|apply qA|exact qC|skip)
    (refine Ok.ret ?_;(try dsimp only [thenK,blockK,noGotoK]);simp only [toList_mk,List.toList_toArray,retK_ret,retK_normal,resOK,resV,celV,rowV,frzAll,frzT,subV,subL,go_sem,↓dP,↓reduceIte])
    refine DEq.int ?_
    have h1:(bitsOf s i).length = 1:=by
     match hL:bitsOf s i,hlen with
     | [],_ => rw [hL] at hb2;simp [oneI] at hb2
     | [x],_ => rfl
    have h2:2<=(bitsOf s n).length:=by
     have hsub:(bitsOf s (i + 1)).length<=(bitsOf s n).length:=by
      unfold bitsOf
      refine (List.Sublist.filter _ ?_).length_le
      exact List.range_sublist.2 (by omega)
     rw [hsn,List.length_append,h1] at hsub
     simpa using hsub
    rw [oneI_many h2]
   ·intro hb2
    have h1:bitsOf s i = []:=by
     match hL:bitsOf s i,hlen with
     | [],_ => rfl
     | [x],_ => rw [hL] at hb2;simp [oneI] at hb2
    (refine Ok.skip ?_;(try dsimp only [thenK,blockK,noGotoK]))
    (first|refine qE ?_|refine qD ?_);(simp only [go_sem,↓dP,↓reduceIte];with_reducible and_intros;all_goals first|apply qA|exact qC|skip)
    (try dsimp only [thenK,blockK,noGotoK])
    (first|refine qE ?_|refine qD ?_);(simp only [go_sem,↓dP,↓reduceIte];with_reducible and_intros;all_goals first|apply qA|exact qC|skip)
    (try dsimp only [thenK,blockK,noGotoK])
    refine ⟨by rw [hsn,h1];simp,?_⟩
    (refine Sub.of ([]) ([]) ?_ ?_ ?_ rfl rfl<;>simp only [subB,subB1,subT,subT1,newT,subE,subV,subL,go_sem,↓dP,↓reduceIte]<;>(try (repeat' with_reducible apply And.intro))<;>(try first | exact DEq.refl _ | refine DEq.int ?_ | refine DEq.bool ?_ | omega))
    rw [hsn,h1];rfl
  ·intro hb
   rw [if_neg (by rw [hb];simp)] at hsn
   (refine Ok.skip ?_;(try dsimp only [thenK,blockK,noGotoK]))
   (try dsimp only [thenK,blockK,noGotoK])
   (first|refine qE ?_|refine qD ?_);(simp only [go_sem,↓dP,↓reduceIte];with_reducible and_intros;all_goals first|apply qA|exact qC|skip)
   (try dsimp only [thenK,blockK,noGotoK])
   refine ⟨by rw [hsn];exact hlen,?_⟩
   (refine Sub.of ([]) ([]) ?_ ?_ ?_ rfl rfl<;>simp only [subB,subB1,subT,subT1,newT,subE,subV,subL,go_sem,↓dP,↓reduceIte]<;>(try (repeat' with_reducible apply And.intro))<;>(try first | exact DEq.refl _ | refine DEq.int ?_ | refine DEq.bool ?_ | omega))
   rw [hsn]
 ·intro _
  refine Ok.seq ?_;((first|refine qE ?_|refine qD ?_);(simp only [go_sem,↓dP,↓reduceIte];with_reducible and_intros;all_goals first|apply qA|exact qC|skip));refine Ok.cond rfl (fun hb => by simp at hb) (fun _ => ?_);(refine Ok.exit ?_;simp only [thenK_exit,blockK_exit,noGotoK_exit,thenK_normal,blockK_normal,noGotoK_normal,↓reduceIte,Nat.reduceEqDiff])
  (first|refine qE ?_|refine qD ?_);(simp only [go_sem,↓dP,↓reduceIte];with_reducible and_intros;all_goals first|apply qA|exact qC|skip)
  (refine Ok.ret ?_;(try dsimp only [thenK,blockK,noGotoK]);simp only [toList_mk,List.toList_toArray,retK_ret,retK_normal,resOK,resV,celV,rowV,frzAll,frzT,subV,subL,go_sem,↓dP,↓reduceIte])
  exact .refl _
theorem bitsOf_one {s n i:Nat} (hs:s < 2 ^ n) (h:bitsOf s n = [i]):i < n/\s = 2 ^ i:=by
 have hm:∀ k,k∈bitsOf s n ↔ k < n/\s.testBit k = true:=fun k => by simp [bitsOf]
 have h1:i < n/\s.testBit i = true:=(hm i).1 (by rw [h];simp)
 refine ⟨h1.1,Nat.eq_of_testBit_eq (fun k => ?_)⟩
 rw [Nat.testBit_two_pow]
 by_cases e:i = k
 ·subst e;rw [h1.2];simp
 ·rw [decide_eq_false e]
  cases hk:s.testBit k with
  | false => rfl
  | true =>
   exfalso
   have hkn:k < n:=by
    rcases Nat.lt_or_ge k n with h2 | h2
    ·exact h2
    ·rw [bit_lt hs h2] at hk;cases hk
   have:=(hm k).2 ⟨hkn,hk⟩
   rw [h] at this
   simp at this
   exact e this.symm
theorem bitsOf_pow {n i:Nat} (hi:i < n):bitsOf (2 ^ i) n = [i]:=by
 induction n with
 | zero => omega
 | succ n ih =>
  rw [bitsOf_succ,Nat.testBit_two_pow]
  by_cases e:i = n
  ·subst e
   rw [if_pos (by simp)]
   have:bitsOf (2 ^ i) i = []:=by
    unfold bitsOf
    rw [List.filter_eq_nil_iff]
    intro k hk
    have:=List.mem_range.1 hk
    rw [Nat.testBit_two_pow]
    simp;omega
   rw [this];rfl
  ·rw [if_neg (by simpa using e),ih (by omega)]
theorem oneI_alone {ps:List Piece} {s w h:Nat} (hs:s < 2 ^ ps.length):(decide (0<=oneI (bitsOf s ps.length)) && alone (ps.getD (oneI (bitsOf s ps.length)).toNat default) w h) = (List.range ps.length).any (fun n => decide (s = 2 ^ n) && alone (ps.getD n default) w h):=by
 rw [Bool.eq_iff_iff,any_iff]
 simp only [List.mem_range,Bool.and_eq_true,decide_eq_true_eq]
 constructor
 ·rintro ⟨h1,h2⟩
  match hL:bitsOf s ps.length with
  | [] => rw [hL] at h1;simp [oneI] at h1
  | [i] =>
   obtain ⟨g1,g2⟩:=bitsOf_one hs hL
   rw [hL] at h2
   exact ⟨i,g1,g2,by simpa [oneI] using h2⟩
  | _ :: _ :: _ => rw [hL] at h1;simp [oneI] at h1
 ·rintro ⟨n,h1,rfl,h3⟩
  rw [bitsOf_pow h1]
  exact ⟨by simp [oneI],by simpa [oneI] using h3⟩
def rowT (ps:List Piece) (s w h:Nat):List Bool:=false :: (List.range h).map (fun k => can ps w (k + 1) s)
def rowsT (ps:List Piece) (s H w:Nat):List (List Bool):=[] :: (List.range w).map (fun k => rowT ps s (k + 1) H)
def tabT (ps:List Piece) (W H n:Nat):List (List (List Bool)):=(List.range n).map (fun s => rowsT ps s H W)
theorem rowT_len (ps:List Piece) (s w h:Nat):(rowT ps s w h).length = h + 1:=by simp [rowT]
theorem rowsT_len (ps:List Piece) (s H w:Nat):(rowsT ps s H w).length = w + 1:=by simp [rowsT]
theorem tabT_len (ps:List Piece) (W H n:Nat):(tabT ps W H n).length = n:=by simp [tabT]
theorem rowT_at (ps:List Piece) (s w:Nat) {h k:Nat} (h1:0 < k) (h2:k<=h):(rowT ps s w h).getD k default = can ps w k s:=by
 obtain ⟨j,rfl⟩:∃ j,k = j + 1:=⟨k - 1,by omega⟩
 have hj:j < h:=by omega
 simp [rowT,List.getD_eq_getElem?_getD,hj]
theorem rowsT_at (ps:List Piece) (s H:Nat) {w k:Nat} (h1:0 < k) (h2:k<=w):(rowsT ps s H w).getD k default = rowT ps s k H:=by
 obtain ⟨j,rfl⟩:∃ j,k = j + 1:=⟨k - 1,by omega⟩
 have hj:j < w:=by omega
 simp [rowsT,List.getD_eq_getElem?_getD,hj]
theorem tabT_at (ps:List Piece) (W H:Nat) {n s:Nat} (h:s < n):(tabT ps W H n).getD s default = rowsT ps s H W:=by
 simp [tabT,List.getD_eq_getElem?_getD,h]
theorem rowT_succ (ps:List Piece) (s w h:Nat):rowT ps s w (h + 1) = rowT ps s w h ++ [can ps w (h + 1) s]:=by simp [rowT,List.range_succ]
theorem rowsT_succ (ps:List Piece) (s H w:Nat):rowsT ps s H (w + 1) = rowsT ps s H w ++ [rowT ps s (w + 1) H]:=by simp [rowsT,List.range_succ]
theorem tabT_succ (ps:List Piece) (W H n:Nat):tabT ps W H (n + 1) = tabT ps W H n ++ [rowsT ps n H W]:=by simp [tabT,List.range_succ]
theorem c_rcut (ps:List Piece) (W H s t n h k:Nat) (hs:s < 1024) (ht:t<=s) (n0:0 < n) (n1:n<=W) (h0:0 < h) (h1:h<=H) (hk:t = s->n<=k) (hW:W<=6) (hH:H<=6) (hk6:k<=6) :
  Ctr Tryz.prog 139 [.d (slD 1 rowsD (tabT ps W H s)),.d (slD 1 rowD (rowsT ps s H k)),iS s,iS t,iS n,iS h] (bS (can ps n h t)):=by
 have l1:=rowsT_len ps s H k
 have l2:=tabT_len ps W H s
 (refine Ctr.mk (fn:=Tryz.f139) rfl rfl rfl rfl rfl Tryz.results139 ?_;intro _;dsimp only [args,List.toList_toArray])
 (first|refine qE ?_|refine qD ?_);(simp only [go_sem,↓dP,↓reduceIte];with_reducible and_intros;all_goals first|apply qA|exact qC|skip)
 refine Ok.seq ?_
 (first|refine qE ?_|refine qD ?_);(simp only [go_sem,↓dP,↓reduceIte];with_reducible and_intros;all_goals first|apply qA|exact qC|skip)
 refine Ok.cond rfl ?_ ?_
 ·intro hb
  have e:t = s:=by simp at hb;omega
  have hnk:=hk e
  have e1:=rowsT_at ps s H n0 hnk
  have l3:((rowsT ps s H k).getD n default).length = H + 1:=by rw [e1,rowT_len]
  (first|refine qE ?_|refine qD ?_);(simp only [go_sem,↓dP,↓reduceIte];with_reducible and_intros;all_goals first|apply qA|exact qC|skip)
  (refine Ok.ret ?_;(try dsimp only [thenK,blockK,noGotoK]);simp only [toList_mk,List.toList_toArray,retK_ret,retK_normal,resOK,resV,celV,rowV,frzAll,frzT,subV,subL,go_sem,↓dP,↓reduceIte])
  refine DEq.bool ?_
  rw [e1,rowT_at ps s n h0 h1,e]
 ·intro hb
  have e:t < s:=by simp at hb;omega
  have e1:=tabT_at ps W H e
  have e2:=rowsT_at ps t H n0 n1
  have l3:((tabT ps W H s).getD t default).length = W + 1:=by rw [e1,rowsT_len]
  have l4:(((tabT ps W H s).getD t default).getD n default).length = H + 1:=by rw [e1,e2,rowT_len]
  (refine Ok.skip ?_;(try dsimp only [thenK,blockK,noGotoK]))
  (first|refine qE ?_|refine qD ?_);(simp only [go_sem,↓dP,↓reduceIte];with_reducible and_intros;all_goals first|apply qA|exact qC|skip)
  (refine Ok.ret ?_;(try dsimp only [thenK,blockK,noGotoK]);simp only [toList_mk,List.toList_toArray,retK_ret,retK_normal,resOK,resV,celV,rowV,frzAll,frzT,subV,subL,go_sem,↓dP,↓reduceIte])
  refine DEq.bool ?_
  rw [e1,e2,rowT_at ps t n h0 h1]
theorem c_rlow (ps:List Piece) (W H s t w h k:Nat) (hs:s < 1024) (ht:t<=s) (n0:0 < w) (n1:w<=W) (h0:0 < h) (h1:h<=H) (hk:t = s->h<=k) (hW:W<=6) (hH:H<=6) (hk6:k<=6) :
  Ctr Tryz.prog 140 [.d (slD 1 rowsD (tabT ps W H s)),.d (slD 1 boolD (rowT ps s w k)),iS s,iS t,iS w,iS h] (bS (can ps w h t)):=by
 have l1:=rowT_len ps s w k
 have l2:=tabT_len ps W H s
 (refine Ctr.mk (fn:=Tryz.f140) rfl rfl rfl rfl rfl Tryz.results140 ?_;intro _;dsimp only [args,List.toList_toArray])
 (first|refine qE ?_|refine qD ?_);(simp only [go_sem,↓dP,↓reduceIte];with_reducible and_intros;all_goals first|apply qA|exact qC|skip)
 refine Ok.seq ?_
 (first|refine qE ?_|refine qD ?_);(simp only [go_sem,↓dP,↓reduceIte];with_reducible and_intros;all_goals first|apply qA|exact qC|skip)
 refine Ok.cond rfl ?_ ?_
 ·intro hb
  have e:t = s:=by simp at hb;omega
  have hnk:=hk e
  (first|refine qE ?_|refine qD ?_);(simp only [go_sem,↓dP,↓reduceIte];with_reducible and_intros;all_goals first|apply qA|exact qC|skip)
  (refine Ok.ret ?_;(try dsimp only [thenK,blockK,noGotoK]);simp only [toList_mk,List.toList_toArray,retK_ret,retK_normal,resOK,resV,celV,rowV,frzAll,frzT,subV,subL,go_sem,↓dP,↓reduceIte])
  refine DEq.bool ?_
  rw [rowT_at ps s w h0 hnk,e]
 ·intro hb
  have e:t < s:=by simp at hb;omega
  have e1:=tabT_at ps W H e
  have e2:=rowsT_at ps t H n0 n1
  have l3:((tabT ps W H s).getD t default).length = W + 1:=by rw [e1,rowsT_len]
  have l4:(((tabT ps W H s).getD t default).getD w default).length = H + 1:=by rw [e1,e2,rowT_len]
  (refine Ok.skip ?_;(try dsimp only [thenK,blockK,noGotoK]))
  (first|refine qE ?_|refine qD ?_);(simp only [go_sem,↓dP,↓reduceIte];with_reducible and_intros;all_goals first|apply qA|exact qC|skip)
  (refine Ok.ret ?_;(try dsimp only [thenK,blockK,noGotoK]);simp only [toList_mk,List.toList_toArray,retK_ret,retK_normal,resOK,resV,celV,rowV,frzAll,frzT,subV,subL,go_sem,↓dP,↓reduceIte])
  refine DEq.bool ?_
  rw [e1,e2,rowT_at ps t w h0 h1]
end Go.Proofs.Leaf
namespace Go.Proofs.Leaf
open Go Go.RX Go.Proofs
set_option maxRecDepth 10000
variable [Glob]
def qL (ps:List Piece) (w h s n t:Nat):Bool:=decide (t &&& s = t) && can ps w n t && can ps w (h - n) (s - t)
def divU (ps:List Piece) (w h s:Nat):Bool:=(List.range w).any (fun n => decide (n ≠ 0) && (List.range (s + 1)).any (fun t => qU ps w h s n t))
def divL (ps:List Piece) (w h s:Nat):Bool:=(List.range h).any (fun n => decide (n ≠ 0) && (List.range (s + 1)).any (fun t => qL ps w h s n t))
def divB (ps:List Piece) (w h s:Nat):Bool:=divU ps w h s || divL ps w h s
theorem divU_yes {ps:List Piece} {w h s n t:Nat} (h0:0 < n) (h1:n < w) (ht:t<=s) (hq:qU ps w h s n t = true):divU ps w h s = true:=by
 rw [divU,any_iff]
 refine ⟨n,List.mem_range.2 h1,?_⟩
 rw [Bool.and_eq_true,decide_eq_true_eq,any_iff]
 exact ⟨by omega,t,List.mem_range.2 (by omega),hq⟩
theorem divL_yes {ps:List Piece} {w h s n t:Nat} (h0:0 < n) (h1:n < h) (ht:t<=s) (hq:qL ps w h s n t = true):divL ps w h s = true:=by
 rw [divL,any_iff]
 refine ⟨n,List.mem_range.2 h1,?_⟩
 rw [Bool.and_eq_true,decide_eq_true_eq,any_iff]
 exact ⟨by omega,t,List.mem_range.2 (by omega),hq⟩
theorem divU_no {ps:List Piece} {w h s:Nat} (hq:∀ n,0 < n->n < w->∀ t,t < s + 1->qU ps w h s n t = false):divU ps w h s = false:=by
 rw [divU,List.any_eq_false]
 intro n hn
 rw [Bool.and_eq_true,decide_eq_true_eq,any_iff]
 rintro ⟨h0,t,ht,h1⟩
 rw [hq n (by omega) (List.mem_range.1 hn) t (List.mem_range.1 ht)] at h1;cases h1
theorem divL_no {ps:List Piece} {w h s:Nat} (hq:∀ n,0 < n->n < h->∀ t,t < s + 1->qL ps w h s n t = false):divL ps w h s = false:=by
 rw [divL,List.any_eq_false]
 intro n hn
 rw [Bool.and_eq_true,decide_eq_true_eq,any_iff]
 rintro ⟨h0,t,ht,h1⟩
 rw [hq n (by omega) (List.mem_range.1 hn) t (List.mem_range.1 ht)] at h1;cases h1
theorem tab_can {ps:List Piece} (hg:good ps) {w h s:Nat}:(decide (s = 0) || (List.range ps.length).any (fun n => decide (s = 2 ^ n) && alone (ps.getD n default) w h) || divB ps w h s) = can ps w h s:=by
 rw [← tabF_can hg (w + h + 1) w h s (by omega),tabF]
 congr 1
 unfold divB divU divL
 congr 1
 ·refine any_congr (fun n hn => ?_)
  have hn:=List.mem_range.1 hn
  by_cases hz:n = 0
  ·simp [hz]
  ·congr 1
   exact any_congr (fun t _ => by rw [qU,tabF_can hg (w + h) n h t (by omega),tabF_can hg (w + h) (w - n) h _ (by omega)])
 ·refine any_congr (fun n hn => ?_)
  have hn:=List.mem_range.1 hn
  by_cases hz:n = 0
  ·simp [hz]
  ·congr 1
   exact any_congr (fun t _ => by rw [qL,tabF_can hg (w + h) w n t (by omega),tabF_can hg (w + h) w (h - n) _ (by omega)])
set_option maxHeartbeats 2000000 in
theorem c_rdivided (ps:List Piece) (W H s w h:Nat) (hs:s < 1024) (w0:0 < w) (w1:w<=W) (h0:0 < h) (h1:h<=H) (hW:W<=6) (hH:H<=6) :
  Ctr Tryz.prog 120 [.d (slD 1 rowsD (tabT ps W H s)),.d (slD 1 rowD (rowsT ps s H (w - 1))),.d (slD 1 boolD (rowT ps s w (h - 1))),iS s,iS w,iS h] (bS (divB ps w h s)):=by
 (refine Ctr.mk (fn:=Tryz.f120) rfl rfl rfl rfl rfl Tryz.results120 ?_;intro _;dsimp only [args,List.toList_toArray])
 (first|refine qE ?_|refine qD ?_);(simp only [go_sem,↓dP,↓reduceIte];with_reducible and_intros;all_goals first|apply qA|exact qC|skip)
 refine Ok.seq ?_
 (first|refine qE ?_|refine qD ?_);(simp only [go_sem,↓dP,↓reduceIte];with_reducible and_intros;all_goals first|apply qA|exact qC|skip)
 refine Ok.block ?_
 refine Ok.count (w - 1) (fun i => ⟨[(0,.d (slD 1 rowsD (tabT ps W H s))),(1,.d (slD 1 rowD (rowsT ps s H (w - 1)))),(2,.d (slD 1 boolD (rowT ps s w (h - 1)))),(3,iS s),(4,iS w),(5,iS h),(13,iS (i + 1))],[],[]⟩)
  (fun i => ∀ n,0 < n->n < i + 1->∀ t,t < s + 1->qU ps w h s n t = false) ⟨fun n _ hn => by omega,?_⟩ ?_ ?_
 ·(refine Sub.of ([]) ([]) ?_ ?_ ?_ rfl rfl<;>simp only [subB,subB1,subT,subT1,newT,subE,subV,subL,go_sem,↓dP,↓reduceIte]<;>(try (repeat' with_reducible apply And.intro))<;>(try first | exact DEq.refl _ | refine DEq.int ?_ | refine DEq.bool ?_ | omega))
 ·intro i hi hJ
  refine Ok.seq ?_;((first|refine qE ?_|refine qD ?_);(simp only [go_sem,↓dP,↓reduceIte];with_reducible and_intros;all_goals first|apply qA|exact qC|skip));refine Ok.cond rfl (fun _ => ?_) (fun hb => by simp at hb;omega);(refine Ok.skip ?_;(try dsimp only [thenK,blockK,noGotoK]));refine Ok.seq ?_;refine Ok.block ?_
  (first|refine qE ?_|refine qD ?_);(simp only [go_sem,↓dP,↓reduceIte];with_reducible and_intros;all_goals first|apply qA|exact qC|skip)
  refine Ok.block ?_
  refine Ok.count (s + 1) (fun j => ⟨[(0,.d (slD 1 rowsD (tabT ps W H s))),(1,.d (slD 1 rowD (rowsT ps s H (w - 1)))),(2,.d (slD 1 boolD (rowT ps s w (h - 1)))),(3,iS s),(4,iS w),(5,iS h),(13,iS (i + 1)),(14,iS j)],[],[]⟩)
   (fun j => ∀ t,t < j->qU ps w h s (i + 1) t = false) ⟨fun t ht => by omega,?_⟩ ?_ ?_
  ·(refine Sub.of ([]) ([]) ?_ ?_ ?_ rfl rfl<;>simp only [subB,subB1,subT,subT1,newT,subE,subV,subL,go_sem,↓dP,↓reduceIte]<;>(try (repeat' with_reducible apply And.intro))<;>(try first | exact DEq.refl _ | refine DEq.int ?_ | refine DEq.bool ?_ | omega))
  ·intro j hj hJ2
   have a1:=c_rcut ps W H s j (i + 1) h (w - 1) hs (by omega) (by omega) (by omega) h0 h1 (fun _ => by omega) hW hH (by omega)
   have a2:=c_rcut ps W H s (s - j) (w - (i + 1)) h (w - 1) hs (by omega) (by omega) (by omega) h0 h1 (fun _ => by omega) hW hH (by omega)
   rw [show ((s - j:Nat):Int) = (s:Int) - j by omega,show ((w - (i + 1):Nat):Int) = (w:Int) - (i + 1) by omega] at a2
   rw [show ((i + 1:Nat):Int) = (i:Int) + 1 by omega] at a1
   refine Ok.seq ?_;((first|refine qE ?_|refine qD ?_);(simp only [go_sem,↓dP,↓reduceIte];with_reducible and_intros;all_goals first|apply qA|exact qC|skip));refine Ok.cond rfl (fun _ => ?_) (fun hb => by simp at hb;omega);(refine Ok.skip ?_;(try dsimp only [thenK,blockK,noGotoK]));refine Ok.seq ?_;refine Ok.block ?_
   (first|refine qE ?_|refine qD ?_);(simp only [go_sem,↓dP,↓reduceIte];with_reducible and_intros;all_goals first|apply qA|exact qC|skip)
   (refine AskI.ret (c_rpart j s (by omega) hs) ?_;simp only [go_sem,↓dP,↓reduceIte];with_reducible and_intros;all_goals first|apply qA|exact qC|skip)
   (refine AskGI.ret (fun _ => a1) ?_;simp only [go_sem,↓dP,↓reduceIte];with_reducible and_intros;all_goals first|apply qA|exact qC|skip)
   (refine AskGI.ret (fun _ => a2) ?_;simp only [go_sem,↓dP,↓reduceIte];with_reducible and_intros;all_goals first|apply qA|exact qC|skip)
   refine Ok.cond rfl ?_ ?_
   ·intro hx
    have hq:qU ps w h s (i + 1) j = true:=by
     unfold qU
     revert hx
     cases decide (j &&& s = j)<;>cases can ps (i + 1) h j<;>simp
    (first|refine qE ?_|refine qD ?_);(simp only [go_sem,↓dP,↓reduceIte];with_reducible and_intros;all_goals first|apply qA|exact qC|skip)
    (refine Ok.ret ?_;(try dsimp only [thenK,blockK,noGotoK]);simp only [toList_mk,List.toList_toArray,retK_ret,retK_normal,resOK,resV,celV,rowV,frzAll,frzT,subV,subL,go_sem,↓dP,↓reduceIte])
    refine DEq.bool ?_
    rw [divB,divU_yes (by omega) (by omega) (by omega) hq];rfl
   ·intro hx
    have hq:qU ps w h s (i + 1) j = false:=by
     unfold qU
     revert hx
     cases decide (j &&& s = j)<;>cases can ps (i + 1) h j<;>simp
    (refine Ok.skip ?_;(try dsimp only [thenK,blockK,noGotoK]))
    (first|refine qE ?_|refine qD ?_);(simp only [go_sem,↓dP,↓reduceIte];with_reducible and_intros;all_goals first|apply qA|exact qC|skip)
    (try dsimp only [thenK,blockK,noGotoK])
    refine ⟨fun t ht => ?_,?_⟩
    ·by_cases e:t = j
     ·subst e;exact hq
     ·exact hJ2 t (by omega)
    (refine Sub.of ([]) ([]) ?_ ?_ ?_ rfl rfl<;>simp only [subB,subB1,subT,subT1,newT,subE,subV,subL,go_sem,↓dP,↓reduceIte]<;>(try (repeat' with_reducible apply And.intro))<;>(try first | exact DEq.refl _ | refine DEq.int ?_ | refine DEq.bool ?_ | omega))
  ·intro hJ2
   refine Ok.seq ?_;((first|refine qE ?_|refine qD ?_);(simp only [go_sem,↓dP,↓reduceIte];with_reducible and_intros;all_goals first|apply qA|exact qC|skip));refine Ok.cond rfl (fun hb => by simp at hb;omega) (fun _ => ?_);(refine Ok.exit ?_;simp only [thenK_exit,blockK_exit,noGotoK_exit,thenK_normal,blockK_normal,noGotoK_normal,↓reduceIte,Nat.reduceEqDiff])
   (try dsimp only [thenK,blockK,noGotoK])
   (first|refine qE ?_|refine qD ?_);(simp only [go_sem,↓dP,↓reduceIte];with_reducible and_intros;all_goals first|apply qA|exact qC|skip)
   (try dsimp only [thenK,blockK,noGotoK])
   refine ⟨fun n hn0 hn t ht => ?_,?_⟩
   ·by_cases e:n = i + 1
    ·subst e;exact hJ2 t ht
    ·exact hJ n hn0 (by omega) t ht
   (refine Sub.of ([]) ([]) ?_ ?_ ?_ rfl rfl<;>simp only [subB,subB1,subT,subT1,newT,subE,subV,subL,go_sem,↓dP,↓reduceIte]<;>(try (repeat' with_reducible apply And.intro))<;>(try first | exact DEq.refl _ | refine DEq.int ?_ | refine DEq.bool ?_ | omega))
 intro hJ
 have hU:divU ps w h s = false:=divU_no (fun n hn0 hn t ht => hJ n hn0 (by omega) t ht)
 refine Ok.seq ?_;((first|refine qE ?_|refine qD ?_);(simp only [go_sem,↓dP,↓reduceIte];with_reducible and_intros;all_goals first|apply qA|exact qC|skip));refine Ok.cond rfl (fun hb => by simp at hb;omega) (fun _ => ?_);(refine Ok.exit ?_;simp only [thenK_exit,blockK_exit,noGotoK_exit,thenK_normal,blockK_normal,noGotoK_normal,↓reduceIte,Nat.reduceEqDiff])
 refine Ok.seq ?_
 (first|refine qE ?_|refine qD ?_);(simp only [go_sem,↓dP,↓reduceIte];with_reducible and_intros;all_goals first|apply qA|exact qC|skip)
 refine Ok.block ?_
 refine Ok.count (h - 1) (fun i => ⟨[(0,.d (slD 1 rowsD (tabT ps W H s))),(1,.d (slD 1 rowD (rowsT ps s H (w - 1)))),(2,.d (slD 1 boolD (rowT ps s w (h - 1)))),(3,iS s),(4,iS w),(5,iS h),(15,iS (i + 1))],[],[]⟩)
  (fun i => ∀ n,0 < n->n < i + 1->∀ t,t < s + 1->qL ps w h s n t = false) ⟨fun n _ hn => by omega,?_⟩ ?_ ?_
 ·(refine Sub.of ([]) ([]) ?_ ?_ ?_ rfl rfl<;>simp only [subB,subB1,subT,subT1,newT,subE,subV,subL,go_sem,↓dP,↓reduceIte]<;>(try (repeat' with_reducible apply And.intro))<;>(try first | exact DEq.refl _ | refine DEq.int ?_ | refine DEq.bool ?_ | omega))
 ·intro i hi hJ
  refine Ok.seq ?_;((first|refine qE ?_|refine qD ?_);(simp only [go_sem,↓dP,↓reduceIte];with_reducible and_intros;all_goals first|apply qA|exact qC|skip));refine Ok.cond rfl (fun _ => ?_) (fun hb => by simp at hb;omega);(refine Ok.skip ?_;(try dsimp only [thenK,blockK,noGotoK]));refine Ok.seq ?_;refine Ok.block ?_
  (first|refine qE ?_|refine qD ?_);(simp only [go_sem,↓dP,↓reduceIte];with_reducible and_intros;all_goals first|apply qA|exact qC|skip)
  refine Ok.block ?_
  refine Ok.count (s + 1) (fun j => ⟨[(0,.d (slD 1 rowsD (tabT ps W H s))),(1,.d (slD 1 rowD (rowsT ps s H (w - 1)))),(2,.d (slD 1 boolD (rowT ps s w (h - 1)))),(3,iS s),(4,iS w),(5,iS h),(15,iS (i + 1)),(16,iS j)],[],[]⟩)
   (fun j => ∀ t,t < j->qL ps w h s (i + 1) t = false) ⟨fun t ht => by omega,?_⟩ ?_ ?_
  ·(refine Sub.of ([]) ([]) ?_ ?_ ?_ rfl rfl<;>simp only [subB,subB1,subT,subT1,newT,subE,subV,subL,go_sem,↓dP,↓reduceIte]<;>(try (repeat' with_reducible apply And.intro))<;>(try first | exact DEq.refl _ | refine DEq.int ?_ | refine DEq.bool ?_ | omega))
  ·intro j hj hJ2
   have a1:=c_rlow ps W H s j w (i + 1) (h - 1) hs (by omega) w0 w1 (by omega) (by omega) (fun _ => by omega) hW hH (by omega)
   have a2:=c_rlow ps W H s (s - j) w (h - (i + 1)) (h - 1) hs (by omega) w0 w1 (by omega) (by omega) (fun _ => by omega) hW hH (by omega)
   rw [show ((s - j:Nat):Int) = (s:Int) - j by omega,show ((h - (i + 1):Nat):Int) = (h:Int) - (i + 1) by omega] at a2
   rw [show ((i + 1:Nat):Int) = (i:Int) + 1 by omega] at a1
   refine Ok.seq ?_;((first|refine qE ?_|refine qD ?_);(simp only [go_sem,↓dP,↓reduceIte];with_reducible and_intros;all_goals first|apply qA|exact qC|skip));refine Ok.cond rfl (fun _ => ?_) (fun hb => by simp at hb;omega);(refine Ok.skip ?_;(try dsimp only [thenK,blockK,noGotoK]));refine Ok.seq ?_;refine Ok.block ?_
   (first|refine qE ?_|refine qD ?_);(simp only [go_sem,↓dP,↓reduceIte];with_reducible and_intros;all_goals first|apply qA|exact qC|skip)
   (refine AskI.ret (c_rpart j s (by omega) hs) ?_;simp only [go_sem,↓dP,↓reduceIte];with_reducible and_intros;all_goals first|apply qA|exact qC|skip)
   (refine AskGI.ret (fun _ => a1) ?_;simp only [go_sem,↓dP,↓reduceIte];with_reducible and_intros;all_goals first|apply qA|exact qC|skip)
   (refine AskGI.ret (fun _ => a2) ?_;simp only [go_sem,↓dP,↓reduceIte];with_reducible and_intros;all_goals first|apply qA|exact qC|skip)
   refine Ok.cond rfl ?_ ?_
   ·intro hx
    have hq:qL ps w h s (i + 1) j = true:=by
     unfold qL
     revert hx
     cases decide (j &&& s = j)<;>cases can ps w (i + 1) j<;>simp
    (first|refine qE ?_|refine qD ?_);(simp only [go_sem,↓dP,↓reduceIte];with_reducible and_intros;all_goals first|apply qA|exact qC|skip)
    (refine Ok.ret ?_;(try dsimp only [thenK,blockK,noGotoK]);simp only [toList_mk,List.toList_toArray,retK_ret,retK_normal,resOK,resV,celV,rowV,frzAll,frzT,subV,subL,go_sem,↓dP,↓reduceIte])
    refine DEq.bool ?_
    rw [divB,divL_yes (by omega) (by omega) (by omega) hq,Bool.or_true]
   ·intro hx
    have hq:qL ps w h s (i + 1) j = false:=by
     unfold qL
     revert hx
     cases decide (j &&& s = j)<;>cases can ps w (i + 1) j<;>simp
    (refine Ok.skip ?_;(try dsimp only [thenK,blockK,noGotoK]))
    (first|refine qE ?_|refine qD ?_);(simp only [go_sem,↓dP,↓reduceIte];with_reducible and_intros;all_goals first|apply qA|exact qC|skip)
    (try dsimp only [thenK,blockK,noGotoK])
    refine ⟨fun t ht => ?_,?_⟩
    ·by_cases e:t = j
     ·subst e;exact hq
     ·exact hJ2 t (by omega)
    (refine Sub.of ([]) ([]) ?_ ?_ ?_ rfl rfl<;>simp only [subB,subB1,subT,subT1,newT,subE,subV,subL,go_sem,↓dP,↓reduceIte]<;>(try (repeat' with_reducible apply And.intro))<;>(try first | exact DEq.refl _ | refine DEq.int ?_ | refine DEq.bool ?_ | omega))
  ·intro hJ2
   refine Ok.seq ?_;((first|refine qE ?_|refine qD ?_);(simp only [go_sem,↓dP,↓reduceIte];with_reducible and_intros;all_goals first|apply qA|exact qC|skip));refine Ok.cond rfl (fun hb => by simp at hb;omega) (fun _ => ?_);(refine Ok.exit ?_;simp only [thenK_exit,blockK_exit,noGotoK_exit,thenK_normal,blockK_normal,noGotoK_normal,↓reduceIte,Nat.reduceEqDiff])
   (try dsimp only [thenK,blockK,noGotoK])
   (first|refine qE ?_|refine qD ?_);(simp only [go_sem,↓dP,↓reduceIte];with_reducible and_intros;all_goals first|apply qA|exact qC|skip)
   (try dsimp only [thenK,blockK,noGotoK])
   refine ⟨fun n hn0 hn t ht => ?_,?_⟩
   ·by_cases e:n = i + 1
    ·subst e;exact hJ2 t ht
    ·exact hJ n hn0 (by omega) t ht
   (refine Sub.of ([]) ([]) ?_ ?_ ?_ rfl rfl<;>simp only [subB,subB1,subT,subT1,newT,subE,subV,subL,go_sem,↓dP,↓reduceIte]<;>(try (repeat' with_reducible apply And.intro))<;>(try first | exact DEq.refl _ | refine DEq.int ?_ | refine DEq.bool ?_ | omega))
 intro hJ
 have hL:divL ps w h s = false:=divL_no (fun n hn0 hn t ht => hJ n hn0 (by omega) t ht)
 refine Ok.seq ?_;((first|refine qE ?_|refine qD ?_);(simp only [go_sem,↓dP,↓reduceIte];with_reducible and_intros;all_goals first|apply qA|exact qC|skip));refine Ok.cond rfl (fun hb => by simp at hb;omega) (fun _ => ?_);(refine Ok.exit ?_;simp only [thenK_exit,blockK_exit,noGotoK_exit,thenK_normal,blockK_normal,noGotoK_normal,↓reduceIte,Nat.reduceEqDiff])
 (first|refine qE ?_|refine qD ?_);(simp only [go_sem,↓dP,↓reduceIte];with_reducible and_intros;all_goals first|apply qA|exact qC|skip)
 (refine Ok.ret ?_;(try dsimp only [thenK,blockK,noGotoK]);simp only [toList_mk,List.toList_toArray,retK_ret,retK_normal,resOK,resV,celV,rowV,frzAll,frzT,subV,subL,go_sem,↓dP,↓reduceIte])
 refine DEq.bool ?_
 rw [divB,hU,hL];rfl
set_option maxHeartbeats 2000000 in
theorem c_rTable (ps : List Piece) (W H : Nat) (hg : good ps) (hn : ps.length ≤ 9) (hW : W ≤ 6) (hH : H ≤ 6) :
    Ctr Tryz.prog 84 [.d (slD 4 pieD ps), iS W, iS H] (.d (slD 1 rowsD (tabT ps W H (2 ^ ps.length)))) := by
  have hpw : 2 ^ ps.length ≤ 2 ^ 9 := Nat.pow_le_pow_right (by decide) hn
  generalize hN : 2 ^ ps.length = N at hpw
  have c_rpower' := c_rpower ps.length (by omega)
  rw [hN] at c_rpower'
  (refine Ctr.mk (fn := Tryz.f84) rfl rfl rfl rfl rfl Tryz.results84 ?_; intro _; dsimp only [args, List.toList_toArray])
  (first|refine qE ?_|refine qD ?_);(simp only [go_sem,↓dP,↓reduceIte];with_reducible and_intros;all_goals first|apply qA|exact qC|skip)
  (first|refine qE ?_|refine qD ?_);(simp only [go_sem,↓dP,↓reduceIte];with_reducible and_intros;all_goals first|apply qA|exact qC|skip)
  (first|refine qE ?_|refine qD ?_);(simp only [go_sem,↓dP,↓reduceIte];with_reducible and_intros;all_goals first|apply qA|exact qC|skip)
  refine Ok.seq ?_
  (first|refine qE ?_|refine qD ?_);(simp only [go_sem,↓dP,↓reduceIte];with_reducible and_intros;all_goals first|apply qA|exact qC|skip)
  refine Ok.block ?_
  refine Ok.count N (fun s => ⟨[(0, .d (slD 4 pieD ps)), (1, iS W), (2, iS H), (7, iS ps.length), (8, .tk 0), (9, iS s)], [], [ownD 120 1 rowsD (tabT ps W H s)]⟩) (fun _ => True) ⟨trivial, ?_⟩ ?_ ?_
  · (refine Sub.of ([]) ([none]) ?_ ?_ ?_ rfl rfl <;> simp only [subB, subB1, subT, subT1, newT, subE, subV, subL, go_sem,↓dP,↓reduceIte] <;> (try (repeat' with_reducible apply And.intro)) <;> (try first | exact DEq.refl _ | refine DEq.int ?_ | refine DEq.bool ?_ | omega))
    simp [tabT]
  · intro s hs _
    have l0 := tabT_len ps W H s
    refine Ok.seq ?_
    (first|refine qE ?_|refine qD ?_);(simp only [go_sem,↓dP,↓reduceIte];with_reducible and_intros;all_goals first|apply qA|exact qC|skip)
    (refine AskI.ret (c_rpower') ?_; simp only [go_sem,↓dP,↓reduceIte];with_reducible and_intros;all_goals first|apply qA|exact qC|skip)
    refine Ok.cond rfl (fun _ => ?_) (fun hb => by simp at hb; omega)
    (refine Ok.skip ?_; (try dsimp only [thenK, blockK, noGotoK]))
    refine Ok.seq ?_
    refine Ok.block ?_
    (first|refine qE ?_|refine qD ?_);(simp only [go_sem,↓dP,↓reduceIte];with_reducible and_intros;all_goals first|apply qA|exact qC|skip)
    refine Ok.seq ?_
    (first|refine qE ?_|refine qD ?_);(simp only [go_sem,↓dP,↓reduceIte];with_reducible and_intros;all_goals first|apply qA|exact qC|skip)
    refine Ok.block ?_
    refine Ok.count W (fun i => ⟨[(0, .d (slD 4 pieD ps)), (1, iS W), (2, iS H), (7, iS ps.length), (8, .tk 0), (9, iS s), (10, .tk 1), (11, iS (i + 1))], [], [ownD 120 1 rowsD (tabT ps W H s), ownD 119 1 rowD (rowsT ps s H i)]⟩) (fun _ => True) ⟨trivial, ?_⟩ ?_ ?_
    · (refine Sub.of ([]) ([some 0, some 1]) ?_ ?_ ?_ rfl rfl <;> simp only [subB, subB1, subT, subT1, newT, subE, subV, subL, go_sem,↓dP,↓reduceIte] <;> (try (repeat' with_reducible apply And.intro)) <;> (try first | exact DEq.refl _ | refine DEq.int ?_ | refine DEq.bool ?_ | omega))
      · exact fun _ _ _ _ => DEq.refl _
      · rw [rowsT_len]
      · intro a c ha hc
        obtain rfl : a = 0 := by omega
        obtain rfl : c = 0 := by omega
        exact DEq.nils rfl
    · intro i hi _
      have l1 := rowsT_len ps s H i
      refine Ok.seq ?_; ((first|refine qE ?_|refine qD ?_);(simp only [go_sem,↓dP,↓reduceIte];with_reducible and_intros;all_goals first|apply qA|exact qC|skip)); refine Ok.cond rfl (fun _ => ?_) (fun hb => by simp at hb; omega); (refine Ok.skip ?_; (try dsimp only [thenK, blockK, noGotoK])); refine Ok.seq ?_; refine Ok.block ?_
      (first|refine qE ?_|refine qD ?_);(simp only [go_sem,↓dP,↓reduceIte];with_reducible and_intros;all_goals first|apply qA|exact qC|skip)
      refine Ok.seq ?_
      (first|refine qE ?_|refine qD ?_);(simp only [go_sem,↓dP,↓reduceIte];with_reducible and_intros;all_goals first|apply qA|exact qC|skip)
      refine Ok.block ?_
      refine Ok.count H (fun k => ⟨[(0, .d (slD 4 pieD ps)), (1, iS W), (2, iS H), (7, iS ps.length), (8, .tk 0), (9, iS s), (10, .tk 1), (11, iS (i + 1)), (12, .tk 2), (13, iS (k + 1))], [], [ownD 120 1 rowsD (tabT ps W H s), ownD 119 1 rowD (rowsT ps s H i), ownD 4 1 boolD (rowT ps s (i + 1) k)]⟩) (fun _ => True) ⟨trivial, ?_⟩ ?_ ?_
      · (refine Sub.of ([]) ([some 0, some 1, some 2]) ?_ ?_ ?_ rfl rfl <;> simp only [subB, subB1, subT, subT1, newT, subE, subV, subL, go_sem,↓dP,↓reduceIte] <;> (try (repeat' with_reducible apply And.intro)) <;> (try first | exact DEq.refl _ | refine DEq.int ?_ | refine DEq.bool ?_ | omega))
        · exact fun _ _ _ _ => DEq.refl _
        · exact fun _ _ _ _ => DEq.refl _
        · rw [rowT_len]
        · intro a c ha hc
          obtain rfl : a = 0 := by omega
          obtain rfl : c = 0 := by omega
          exact .refl _
      · intro k hk _
        have l2 := rowT_len ps s (i + 1) k
        have a1 := c_rsingle s ps.length (by omega) (by omega)
        have a2 := c_ralone (ps.getD (max 0 (oneI (bitsOf s ps.length))).toNat default) (i + 1) (k + 1)
        have a3 := c_rdivided ps W H s (i + 1) (k + 1) (by omega) (by omega) (by omega) (by omega) (by omega) hW hH
        rw [show ((i + 1 : Nat) : Int) = (i : Int) + 1 by omega, show ((k + 1 : Nat) : Int) = (k : Int) + 1 by omega] at a2 a3
        rw [Nat.add_sub_cancel, Nat.add_sub_cancel] at a3
        refine Ok.seq ?_; ((first|refine qE ?_|refine qD ?_);(simp only [go_sem,↓dP,↓reduceIte];with_reducible and_intros;all_goals first|apply qA|exact qC|skip)); refine Ok.cond rfl (fun _ => ?_) (fun hb => by simp at hb; omega); (refine Ok.skip ?_; (try dsimp only [thenK, blockK, noGotoK])); refine Ok.seq ?_; refine Ok.block ?_
        (first|refine qE ?_|refine qD ?_);(simp only [go_sem,↓dP,↓reduceIte];with_reducible and_intros;all_goals first|apply qA|exact qC|skip)
        (refine AskGI.ret (fun _ => a1) ?_; simp only [go_sem,↓dP,↓reduceIte];with_reducible and_intros;all_goals first|apply qA|exact qC|skip)
        (refine AskGI.ret (fun _ => a1) ?_; simp only [go_sem,↓dP,↓reduceIte];with_reducible and_intros;all_goals first|apply qA|exact qC|skip)
        · intro h
          simp only [Bool.and_eq_true, beq_iff_eq, decide_eq_true_eq] at h
          have h3 : (oneI (bitsOf s ps.length)).toNat < ps.length := by
            match hL : bitsOf s ps.length with
            | [] => rw [hL] at h; simp [oneI] at h
            | [x] => simpa [oneI] using (bitsOf_one (by omega) hL).1
            | _ :: _ :: _ => rw [hL] at h; simp [oneI] at h
          omega
        (refine AskGI.ret (fun _ => a2) ?_; simp only [go_sem,↓dP,↓reduceIte];with_reducible and_intros;all_goals first|apply qA|exact qC|skip)
        (refine AskGI.ret (fun _ => a3) ?_; simp only [go_sem,↓dP,↓reduceIte];with_reducible and_intros;all_goals first|apply qA|exact qC|skip)
        (try dsimp only [thenK, blockK, noGotoK])
        (first|refine qE ?_|refine qD ?_);(simp only [go_sem,↓dP,↓reduceIte];with_reducible and_intros;all_goals first|apply qA|exact qC|skip)
        (try dsimp only [thenK, blockK, noGotoK])
        refine ⟨trivial, ?_⟩
        have hent := tab_can hg (w := i + 1) (h := k + 1) (s := s)
        rw [← oneI_alone (by omega)] at hent
        have hval : ((s : Int) == 0 || decide (0 ≤ oneI (bitsOf s ps.length)) && alone (ps.getD (max 0 (oneI (bitsOf s ps.length))).toNat default) (i + 1) (k + 1) || divB ps (i + 1) (k + 1) s) = can ps (i + 1) (k + 1) s := by
          rw [← hent, show ((s : Int) == 0) = decide (s = 0) by rw [Bool.eq_iff_iff]; simp]
          by_cases h0 : 0 ≤ oneI (bitsOf s ps.length)
          · rw [Int.max_eq_right h0]
          · simp [h0]
        rw [hval]
        (refine Sub.of ([]) ([some 0, some 1, some 4]) ?_ ?_ ?_ rfl rfl <;> simp only [subB, subB1, subT, subT1, newT, subE, subV, subL, go_sem,↓dP,↓reduceIte] <;> (try (repeat' with_reducible apply And.intro)) <;> (try first | exact DEq.refl _ | refine DEq.int ?_ | refine DEq.bool ?_ | omega))
        · exact fun _ _ _ _ => DEq.refl _
        · exact fun _ _ _ _ => DEq.refl _
        · rw [rowT_succ]; simp
        · rw [rowT_succ]
          exact snoc_D (fun c hc => by have : c = 0 := by omega
                                       subst this; rfl)
      · intro _
        refine Ok.seq ?_; ((first|refine qE ?_|refine qD ?_);(simp only [go_sem,↓dP,↓reduceIte];with_reducible and_intros;all_goals first|apply qA|exact qC|skip)); refine Ok.cond rfl (fun hb => by simp at hb; omega) (fun _ => ?_); (refine Ok.exit ?_; simp only [thenK_exit, blockK_exit, noGotoK_exit, thenK_normal, blockK_normal, noGotoK_normal, ↓reduceIte, Nat.reduceEqDiff])
        (try dsimp only [thenK, blockK, noGotoK])
        (first|refine qE ?_|refine qD ?_);(simp only [go_sem,↓dP,↓reduceIte];with_reducible and_intros;all_goals first|apply qA|exact qC|skip)
        (try dsimp only [thenK, blockK, noGotoK])
        (first|refine qE ?_|refine qD ?_);(simp only [go_sem,↓dP,↓reduceIte];with_reducible and_intros;all_goals first|apply qA|exact qC|skip)
        (try dsimp only [thenK, blockK, noGotoK])
        refine ⟨trivial, ?_⟩
        (refine Sub.of ([]) ([some 0, some 3]) ?_ ?_ ?_ rfl rfl <;> simp only [subB, subB1, subT, subT1, newT, subE, subV, subL, go_sem,↓dP,↓reduceIte] <;> (try (repeat' with_reducible apply And.intro)) <;> (try first | exact DEq.refl _ | refine DEq.int ?_ | refine DEq.bool ?_ | omega))
        · exact fun _ _ _ _ => DEq.refl _
        · rw [rowsT_succ]; simp
        · rw [rowsT_succ]
          exact snoc_D (fun c hc => by have : c = 0 := by omega
                                       subst this; rfl)
    · intro _
      refine Ok.seq ?_; ((first|refine qE ?_|refine qD ?_);(simp only [go_sem,↓dP,↓reduceIte];with_reducible and_intros;all_goals first|apply qA|exact qC|skip)); refine Ok.cond rfl (fun hb => by simp at hb; omega) (fun _ => ?_); (refine Ok.exit ?_; simp only [thenK_exit, blockK_exit, noGotoK_exit, thenK_normal, blockK_normal, noGotoK_normal, ↓reduceIte, Nat.reduceEqDiff])
      (try dsimp only [thenK, blockK, noGotoK])
      (first|refine qE ?_|refine qD ?_);(simp only [go_sem,↓dP,↓reduceIte];with_reducible and_intros;all_goals first|apply qA|exact qC|skip)
      (try dsimp only [thenK, blockK, noGotoK])
      (first|refine qE ?_|refine qD ?_);(simp only [go_sem,↓dP,↓reduceIte];with_reducible and_intros;all_goals first|apply qA|exact qC|skip)
      (try dsimp only [thenK, blockK, noGotoK])
      refine ⟨trivial, ?_⟩
      (refine Sub.of ([]) ([some 2]) ?_ ?_ ?_ rfl rfl <;> simp only [subB, subB1, subT, subT1, newT, subE, subV, subL, go_sem,↓dP,↓reduceIte] <;> (try (repeat' with_reducible apply And.intro)) <;> (try first | exact DEq.refl _ | refine DEq.int ?_ | refine DEq.bool ?_ | omega))
      · rw [tabT_succ]; simp
      · rw [tabT_succ]
        exact snoc_D (fun c hc => by have : c = 0 := by omega
                                     subst this; rfl)
  · intro _
    refine Ok.seq ?_
    (first|refine qE ?_|refine qD ?_);(simp only [go_sem,↓dP,↓reduceIte];with_reducible and_intros;all_goals first|apply qA|exact qC|skip)
    (refine AskI.ret (c_rpower') ?_; simp only [go_sem,↓dP,↓reduceIte];with_reducible and_intros;all_goals first|apply qA|exact qC|skip)
    refine Ok.cond rfl (fun hb => by simp at hb) (fun _ => ?_)
    (refine Ok.exit ?_; simp only [thenK_exit, blockK_exit, noGotoK_exit, thenK_normal, blockK_normal, noGotoK_normal, ↓reduceIte, Nat.reduceEqDiff])
    (first|refine qE ?_|refine qD ?_);(simp only [go_sem,↓dP,↓reduceIte];with_reducible and_intros;all_goals first|apply qA|exact qC|skip)
    (refine Ok.ret ?_; (try dsimp only [thenK, blockK, noGotoK]); simp only [toList_mk, List.toList_toArray, retK_ret, retK_normal, resOK, resV, celV, rowV, frzAll, frzT, subV, subL, go_sem,↓dP,↓reduceIte])
    exact .refl _
end Go.Proofs.Leaf
namespace Go.Proofs.Leaf
open Go Go.RX Go.Proofs
set_option maxRecDepth 10000
variable [Glob]
theorem rises_le {n:Nat} {L:List Nat} (h:rises n 0 L):L.length<=n:=by
 rcases rises_len h with h | rfl
 ·omega
 ·simp
theorem asI_append (L M:List Nat):asI (L ++ M) = asI L ++ asI M:=by simp
theorem rising_take {L:List Nat} (hp:L.Pairwise (· < ·)) {i:Nat} (hi:i < L.length):∀ x∈L.take i,x < L.getD i default:=by
 intro x hx
 rw [List.mem_take_iff_getElem] at hx
 obtain ⟨j,hj,rfl⟩:=hx
 rw [List.pairwise_iff_getElem] at hp
 rw [getD_lt hi]
 exact hp j i (by omega) hi (by omega)
theorem c_rnumber (L:List Nat) (n:Nat) (hL:rises n 0 L) (hn:n<=9):Ctr Tryz.prog 85 [ilS (asI L)] (iS (setL (asI L))):=by
 have hlen:=rises_le hL
 have hl:(asI L).length = L.length:=asI_len L
 (refine Ctr.mk (fn:=Tryz.f85) rfl rfl rfl rfl rfl Tryz.results85 ?_;intro _;dsimp only [args,List.toList_toArray])
 (first|refine qE ?_|refine qD ?_);(simp only [go_sem,↓dP,↓reduceIte];with_reducible and_intros;all_goals first|apply qA|exact qC|skip)
 (first|refine qE ?_|refine qD ?_);(simp only [go_sem,↓dP,↓reduceIte];with_reducible and_intros;all_goals first|apply qA|exact qC|skip)
 refine Ok.seq ?_
 (first|refine qE ?_|refine qD ?_);(simp only [go_sem,↓dP,↓reduceIte];with_reducible and_intros;all_goals first|apply qA|exact qC|skip)
 refine Ok.block ?_
 refine Ok.count L.length (fun i => ⟨[(0,ilS (asI L)),(3,iS (setL (asI (L.take i)))),(4,iS i)],[],[]⟩) (fun _ => True) ⟨trivial,?_⟩ ?_ ?_
 ·(refine Sub.of ([]) ([]) ?_ ?_ ?_ rfl rfl<;>simp only [subB,subB1,subT,subT1,newT,subE,subV,subL,go_sem,↓dP,↓reduceIte]<;>(try (repeat' with_reducible apply And.intro))<;>(try first | exact DEq.refl _ | refine DEq.int ?_ | refine DEq.bool ?_ | omega))
 ·intro i hi _
  have hm:=rises_mem hL _ (getD_mem hi)
  have hx:(asI L).getD i default = ((L.getD i default:Nat):Int):=asI_at hi
  have hs:setL (asI (L.take (i + 1))) = setL (asI (L.take i)) + 2 ^ (L.getD i default):=by
   rw [getD_take hi,asI_append,show asI [L.getD i default] = [((L.getD i default:Nat):Int)] from rfl,setL_snoc,Int.toNat_natCast]
   exact or_add (setL_bound (rising_take (rises_pw hL) hi))
  have h1:setL (asI (L.take i)) < 2 ^ 9:=by
   have:=setL_bound (n:=9) (L:=L.take i) (fun x hx => by have:=rises_mem hL x (List.mem_of_mem_take hx);omega)
   exact this
  have h2:2 ^ (L.getD i default) < 2 ^ 9:=Nat.pow_lt_pow_right (by decide) (by omega)
  have a1:=c_rpower (L.getD i default) (by omega)
  rw [← hx] at a1
  generalize hP:2 ^ (L.getD i default) = P at hs h2 a1
  refine Ok.seq ?_;((first|refine qE ?_|refine qD ?_);(simp only [go_sem,↓dP,↓reduceIte];with_reducible and_intros;all_goals first|apply qA|exact qC|skip));refine Ok.cond rfl (fun _ => ?_) (fun hb => by simp at hb;omega);(refine Ok.skip ?_;(try dsimp only [thenK,blockK,noGotoK]));refine Ok.seq ?_;refine Ok.block ?_
  (first|refine qE ?_|refine qD ?_);(simp only [go_sem,↓dP,↓reduceIte];with_reducible and_intros;all_goals first|apply qA|exact qC|skip)
  (refine AskI.ret (a1) ?_;simp only [go_sem,↓dP,↓reduceIte];with_reducible and_intros;all_goals first|apply qA|exact qC|skip)
  (try dsimp only [thenK,blockK,noGotoK])
  (first|refine qE ?_|refine qD ?_);(simp only [go_sem,↓dP,↓reduceIte];with_reducible and_intros;all_goals first|apply qA|exact qC|skip)
  (try dsimp only [thenK,blockK,noGotoK])
  refine ⟨trivial,?_⟩
  (refine Sub.of ([]) ([]) ?_ ?_ ?_ rfl rfl<;>simp only [subB,subB1,subT,subT1,newT,subE,subV,subL,go_sem,↓dP,↓reduceIte]<;>(try (repeat' with_reducible apply And.intro))<;>(try first | exact DEq.refl _ | refine DEq.int ?_ | refine DEq.bool ?_ | omega))
  rw [hs];omega
 ·intro _
  refine Ok.seq ?_;((first|refine qE ?_|refine qD ?_);(simp only [go_sem,↓dP,↓reduceIte];with_reducible and_intros;all_goals first|apply qA|exact qC|skip));refine Ok.cond rfl (fun hb => by simp at hb) (fun _ => ?_);(refine Ok.exit ?_;simp only [thenK_exit,blockK_exit,noGotoK_exit,thenK_normal,blockK_normal,noGotoK_normal,↓reduceIte,Nat.reduceEqDiff])
  (first|refine qE ?_|refine qD ?_);(simp only [go_sem,↓dP,↓reduceIte];with_reducible and_intros;all_goals first|apply qA|exact qC|skip)
  (refine Ok.ret ?_;(try dsimp only [thenK,blockK,noGotoK]);simp only [toList_mk,List.toList_toArray,retK_ret,retK_normal,resOK,resV,celV,rowV,frzAll,frzT,subV,subL,go_sem,↓dP,↓reduceIte])
  refine DEq.int ?_
  rw [List.take_length]
def Job.tab (J:Job):List (List (List Bool)):=tabT J.ps J.wide.toNat J.high.toNat (2 ^ J.ps.length)
theorem c_tab (J:Job) (h:J.sized):Ctr Tryz.prog 84 [.d (slD 4 pieD J.ps),iS J.wide,iS J.high] (.d (slD 1 rowsD J.tab)):=by
 have:=h.w0;have:=h.w1;have:=h.h0;have:=h.h1
 have a:=c_rTable J.ps J.wide.toNat J.high.toNat h.s.good h.n (by omega) (by omega)
 rwa [Int.toNat_of_nonneg (by omega),Int.toNat_of_nonneg (by omega)] at a
theorem tab_len (J:Job):J.tab.length = 2 ^ J.ps.length:=tabT_len _ _ _ _
theorem tab_len2 (J:Job) {s:Nat} (hs:s < 2 ^ J.ps.length):(J.tab.getD s default).length = J.wide.toNat + 1:=by
 rw [Job.tab,tabT_at _ _ _ hs,rowsT_len]
theorem tab_len3 {J:Job} (h:J.sized) {s:Nat} (hs:s < 2 ^ J.ps.length):((J.tab.getD s default).getD J.wide.toNat default).length = J.high.toNat + 1:=by
 have:=h.w0
 rw [Job.tab,tabT_at _ _ _ hs,rowsT_at _ _ _ (by omega) (Nat.le_refl _),rowT_len]
theorem tab_fit {J:Job} (h:J.sized) {s:Nat} (hs:s < 2 ^ J.ps.length):((J.tab.getD s default).getD J.wide.toNat default).getD J.high.toNat default = J.fit s:=by
 have:=h.w0;have:=h.h0
 rw [Job.tab,tabT_at _ _ _ hs,rowsT_at _ _ _ (by omega) (Nat.le_refl _),rowT_at _ _ _ (by omega) (Nat.le_refl _),Job.fit]
theorem c_rFits (J:Job) (h:J.sized) (L:List Nat) (hL:rises J.ps.length 0 L):Ctr Tryz.prog 44 [J.sv,ilS (asI L)] (bS (J.fit (setL (asI L)))):=by
 have h1:=h.w0;have h2:=h.w1;have h3:=h.h0;have h4:=h.h1;have h5:=h.n
 have hs:=setL_bound (fun x hx => (rises_mem hL x hx).2)
 have hp:2 ^ J.ps.length<=2 ^ 9:=Nat.pow_le_pow_right (by decide) h5
 have l1:=tab_len J
 have l2:=tab_len2 J hs
 have l3:=tab_len3 h hs
 (refine Ctr.mk (fn:=Tryz.f44) rfl rfl rfl rfl rfl Tryz.results44 ?_;intro _;dsimp only [args,List.toList_toArray])
 (first|refine qE ?_|refine qD ?_);(simp only [go_sem,↓dP,↓reduceIte];with_reducible and_intros;all_goals first|apply qA|exact qC|skip)
 (first|refine qE ?_|refine qD ?_);(simp only [go_sem,↓dP,↓reduceIte];with_reducible and_intros;all_goals first|apply qA|exact qC|skip)
 (refine AskI.ret (c_tab J h) ?_;simp only [go_sem,↓dP,↓reduceIte];with_reducible and_intros;all_goals first|apply qA|exact qC|skip)
 (refine AskI.ret (c_rnumber L _ hL h5) ?_;simp only [go_sem,↓dP,↓reduceIte];with_reducible and_intros;all_goals first|apply qA|exact qC|skip)
 (refine Ok.ret ?_;(try dsimp only [thenK,blockK,noGotoK]);simp only [toList_mk,List.toList_toArray,retK_ret,retK_normal,resOK,resV,celV,rowV,frzAll,frzT,subV,subL,go_sem,↓dP,↓reduceIte])
 refine DEq.bool ?_
 rw [tab_fit h hs]
end Go.Proofs.Leaf
namespace Go.Proofs.Leaf
open Go Go.RX Go.Proofs
set_option maxRecDepth 10000
variable [Glob]
def shortB (J:Job):Bool:=decide (J.gs.length<=5) && decide (J.ps.length<=7)
theorem c_lshort (J:Job) (h:J.far):Ctr Tryz.prog 23 [J.sv] (bS (shortB J)):=by
 have h1:=h.1
 have h2:=h.2
 (refine Ctr.mk (fn:=Tryz.f23) rfl rfl rfl rfl rfl Tryz.results23 ?_;intro _;dsimp only [args,List.toList_toArray])
 (first|refine qE ?_|refine qD ?_);(simp only [go_sem,↓dP,↓reduceIte];with_reducible and_intros;all_goals first|apply qA|exact qC|skip)
 (first|refine qE ?_|refine qD ?_);(simp only [go_sem,↓dP,↓reduceIte];with_reducible and_intros;all_goals first|apply qA|exact qC|skip)
 (refine Ok.ret ?_;(try dsimp only [thenK,blockK,noGotoK]);simp only [toList_mk,List.toList_toArray,retK_ret,retK_normal,resOK,resV,celV,rowV,frzAll,frzT,subV,subL,go_sem,↓dP,↓reduceIte])
 refine DEq.bool ?_
 unfold shortB
 by_cases g1:J.gs.length<=5<;>by_cases g2:J.ps.length<=7<;>simp [g1,g2]<;>omega
theorem short_held {J:Job} (h:shortB J = true):J.held:=by
 simp only [shortB,Bool.and_eq_true,decide_eq_true_eq] at h
 exact ⟨by omega,by omega⟩
def slimB (l:List Int):Bool:=decide (l.length<=8)
theorem c_lslim (l:List Int) (h:l.length<=9223372036854775807):Ctr Tryz.prog 14 [ilS l] (bS (slimB l)):=by
 (refine Ctr.mk (fn:=Tryz.f14) rfl rfl rfl rfl rfl Tryz.results14 ?_;intro _;dsimp only [args,List.toList_toArray])
 (first|refine qE ?_|refine qD ?_);(simp only [go_sem,↓dP,↓reduceIte];with_reducible and_intros;all_goals first|apply qA|exact qC|skip)
 (first|refine qE ?_|refine qD ?_);(simp only [go_sem,↓dP,↓reduceIte];with_reducible and_intros;all_goals first|apply qA|exact qC|skip)
 (refine Ok.ret ?_;(try dsimp only [thenK,blockK,noGotoK]);simp only [toList_mk,List.toList_toArray,retK_ret,retK_normal,resOK,resV,celV,rowV,frzAll,frzT,subV,subL,go_sem,↓dP,↓reduceIte])
 refine DEq.bool ?_
 unfold slimB
 by_cases g:l.length<=8<;>simp [g]<;>omega
end Go.Proofs.Leaf
namespace Go.Proofs.Leaf
open Go Go.RX Go.Proofs Go.RowKit
set_option maxRecDepth 10000
section
instance inst_g0_5:Glob:=g0
theorem c_Fits0 (J:Job) (hh:J.held) (l:List Int) (hl:l.length < 1000000) (hj:(jobB J && someB J.ps.length l) = false):Ctr Tryz.prog 40 [J.sv,ilS l] (.tup [bS false,iS 2]):=by
 (refine Ctr.mk (fn:=Tryz.f40) rfl rfl rfl rfl rfl Tryz.results40 ?_;intro _;dsimp only [args,List.toList_toArray])
 (first|refine qE ?_|refine qD ?_);(simp only [go_sem,↓dP,↓reduceIte];with_reducible and_intros;all_goals first|apply qA|exact qC|skip)
 refine Ok.seq ?_
 (first|refine qE ?_|refine qD ?_);(simp only [go_sem,↓dP,↓reduceIte];with_reducible and_intros;all_goals first|apply qA|exact qC|skip)
 (refine AskI.ret (c_isJob J hh) ?_;simp only [go_sem,↓dP,↓reduceIte];with_reducible and_intros;all_goals first|apply qA|exact qC|skip)
 (refine AskGI.ret (fun _ => c_arePieces J hh.2 l hl) ?_;simp only [go_sem,↓dP,↓reduceIte];with_reducible and_intros;all_goals first|apply qA|exact qC|skip)
 refine Ok.cond rfl (fun _ => ?_) (fun hb => by revert hb hj;cases jobB J<;>cases someB J.ps.length l<;>simp)
 (first|refine qE ?_|refine qD ?_);(simp only [go_sem,↓dP,↓reduceIte];with_reducible and_intros;all_goals first|apply qA|exact qC|skip)
 (refine Ok.ret ?_;(try dsimp only [thenK,blockK,noGotoK]);simp only [toList_mk,List.toList_toArray,retK_ret,retK_normal,resOK,resV,celV,rowV,frzAll,frzT,subV,subL,go_sem,↓dP,↓reduceIte])
 ((repeat' with_reducible apply And.intro)<;>(first | exact DEq.refl _ | refine DEq.int ?_ | refine DEq.bool ?_ | skip))
end
end Go.Proofs.Leaf
namespace Go.Proofs.YtdajcfdhcjbmmaaGreatDoor
open Go Go.RX Go.Proofs.Leaf Go.RowKit Go.ChangeShapes Go.WideShapes Go.ChangeAt
set_option maxRecDepth 100000
instance inst_gT_6:Glob:=gT
section
variable {H : Type} {enc : TypeId × Value → H} {W : World}
end
theorem opensAll_cons {t:TypeId} {ts:List TypeId} {As:List SV} (h:opensAll (t :: ts) As):∃ A Bs,As = A :: Bs/\opens t A/\opensAll ts Bs:=by
 cases As with
 | nil => exact h.elim
 | cons A Bs => exact ⟨A,Bs,rfl,h.1,h.2⟩
theorem opensAll_nil {As:List SV} (h:opensAll [] As):As = []:=by
 cases As with
 | nil => rfl
 | cons A Bs => exact h.elim
end Go.Proofs.YtdajcfdhcjbmmaaGreatDoor
namespace Go.Proofs.Leaf
open Go Go.RX Go.Proofs Go.RowKit
set_option maxRecDepth 100000
section
theorem law_Fits (J:Job) (hf:J.far) (l:List Int) (hl:l.length<=maxLen):Ctr Tryz.prog 9 [J.sv,ilS l] (bS true):=by
 have hl':l.length<=9223372036854775807:=Nat.le_trans hl (by decide)
 (refine Ctr.mk (fn:=Tryz.f9) rfl rfl rfl rfl rfl Tryz.results9 ?_;intro _;dsimp only [args,List.toList_toArray])
 (first|refine qE ?_|refine qD ?_);(simp only [go_sem,↓dP,↓reduceIte];with_reducible and_intros;all_goals first|apply qA|exact qC|skip)
 refine Ok.seq ?_
 (first|refine qE ?_|refine qD ?_);(simp only [go_sem,↓dP,↓reduceIte];with_reducible and_intros;all_goals first|apply qA|exact qC|skip)
 (refine AskI.ret (c_lshort J hf) ?_;simp only [go_sem,↓dP,↓reduceIte];with_reducible and_intros;all_goals first|apply qA|exact qC|skip)
 (refine AskGI.ret (fun _ => c_lslim l hl') ?_;simp only [go_sem,↓dP,↓reduceIte];with_reducible and_intros;all_goals first|apply qA|exact qC|skip)
 refine Ok.cond rfl ?_ ?_
 ·intro hs
  (first|refine qE ?_|refine qD ?_);(simp only [go_sem,↓dP,↓reduceIte];with_reducible and_intros;all_goals first|apply qA|exact qC|skip)
  (refine AskI.ret (c_known) ?_;simp only [go_sem,↓dP,↓reduceIte];with_reducible and_intros;all_goals first|apply qA|exact qC|skip)
  (refine Ok.ret ?_;(try dsimp only [thenK,blockK,noGotoK]);simp only [toList_mk,List.toList_toArray,retK_ret,retK_normal,resOK,resV,celV,rowV,frzAll,frzT,subV,subL,go_sem,↓dP,↓reduceIte])
  ((repeat' with_reducible apply And.intro)<;>(first | exact DEq.refl _ | refine DEq.int ?_ | refine DEq.bool ?_ | skip))
 intro hs
 (refine Ok.skip ?_;(try dsimp only [thenK,blockK,noGotoK]))
 have hs':shortB J = true/\slimB l = true:=by
  revert hs;cases shortB J<;>cases slimB l<;>simp
 obtain ⟨hsh,hsl⟩:=hs'
 have hh:=short_held hsh
 have hsl':l.length<=8:=by simpa [slimB] using hsl
 have hC:=c_Check J hh
 have hF0:=fun q => toT (c_Fits0 J hh l (by omega) q)
 cases hj:jobB J
 ·rw [hj] at hC
  (first|refine qE ?_|refine qD ?_);(simp only [go_sem,↓dP,↓reduceIte];with_reducible and_intros;all_goals first|apply qA|exact qC|skip)
  (refine AskI.ret (hC) ?_;simp only [go_sem,↓dP,↓reduceIte];with_reducible and_intros;all_goals first|apply qA|exact qC|skip)
  (first|refine qE ?_|refine qD ?_);(simp only [go_sem,↓dP,↓reduceIte];with_reducible and_intros;all_goals first|apply qA|exact qC|skip)
  (refine AskI.ret (hF0 (by rw [hj];rfl)) ?_;simp only [go_sem,↓dP,↓reduceIte];with_reducible and_intros;all_goals first|apply qA|exact qC|skip)
  refine Ok.seq ?_
  (first|refine qE ?_|refine qD ?_);(simp only [go_sem,↓dP,↓reduceIte];with_reducible and_intros;all_goals first|apply qA|exact qC|skip)
  (refine AskI.ret (c_rJob J hh) ?_;simp only [go_sem,↓dP,↓reduceIte];with_reducible and_intros;all_goals first|apply qA|exact qC|skip)
  refine Ok.cond rfl (fun _ => ?_) (fun hb => by rw [hj] at hb;cases hb)
  (first|refine qE ?_|refine qD ?_);(simp only [go_sem,↓dP,↓reduceIte];with_reducible and_intros;all_goals first|apply qA|exact qC|skip)
  (refine AskGI.ret (fun _ => c_known) ?_;simp only [go_sem,↓dP,↓reduceIte];with_reducible and_intros;all_goals first|apply qA|exact qC|skip)
  (refine Ok.ret ?_;(try dsimp only [thenK,blockK,noGotoK]);simp only [toList_mk,List.toList_toArray,retK_ret,retK_normal,resOK,resV,celV,rowV,frzAll,frzT,subV,subL,go_sem,↓dP,↓reduceIte])
  ((repeat' with_reducible apply And.intro)<;>(first | exact DEq.refl _ | refine DEq.int ?_ | refine DEq.bool ?_ | skip))
 rw [hj] at hC
 have h:=jobB_iff.1 hj
 cases hsm:someB J.ps.length l
 ·(first|refine qE ?_|refine qD ?_);(simp only [go_sem,↓dP,↓reduceIte];with_reducible and_intros;all_goals first|apply qA|exact qC|skip)
  (refine AskI.ret (hC) ?_;simp only [go_sem,↓dP,↓reduceIte];with_reducible and_intros;all_goals first|apply qA|exact qC|skip)
  (first|refine qE ?_|refine qD ?_);(simp only [go_sem,↓dP,↓reduceIte];with_reducible and_intros;all_goals first|apply qA|exact qC|skip)
  (refine AskI.ret (hF0 (by rw [hsm];simp)) ?_;simp only [go_sem,↓dP,↓reduceIte];with_reducible and_intros;all_goals first|apply qA|exact qC|skip)
  refine Ok.seq ?_
  (first|refine qE ?_|refine qD ?_);(simp only [go_sem,↓dP,↓reduceIte];with_reducible and_intros;all_goals first|apply qA|exact qC|skip)
  (refine AskI.ret (c_rJob J hh) ?_;simp only [go_sem,↓dP,↓reduceIte];with_reducible and_intros;all_goals first|apply qA|exact qC|skip)
  refine Ok.cond rfl (fun hb => by rw [hj] at hb;cases hb) (fun _ => ?_)
  (refine Ok.skip ?_;(try dsimp only [thenK,blockK,noGotoK]))
  refine Ok.seq ?_
  (first|refine qE ?_|refine qD ?_);(simp only [go_sem,↓dP,↓reduceIte];with_reducible and_intros;all_goals first|apply qA|exact qC|skip)
  (refine AskI.ret (c_rSome J hh.2 l (by omega)) ?_;simp only [go_sem,↓dP,↓reduceIte];with_reducible and_intros;all_goals first|apply qA|exact qC|skip)
  refine Ok.cond rfl (fun _ => ?_) (fun hb => by rw [hsm] at hb;cases hb)
  (first|refine qE ?_|refine qD ?_);(simp only [go_sem,↓dP,↓reduceIte];with_reducible and_intros;all_goals first|apply qA|exact qC|skip)
  (refine AskGI.ret (fun _ => c_known) ?_;simp only [go_sem,↓dP,↓reduceIte];with_reducible and_intros;all_goals first|apply qA|exact qC|skip)
  (refine Ok.ret ?_;(try dsimp only [thenK,blockK,noGotoK]);simp only [toList_mk,List.toList_toArray,retK_ret,retK_normal,resOK,resV,celV,rowV,frzAll,frzT,subV,subL,go_sem,↓dP,↓reduceIte])
  ((repeat' with_reducible apply And.intro)<;>(first | exact DEq.refl _ | refine DEq.int ?_ | refine DEq.bool ?_ | skip))
 ·obtain ⟨L,hL,rfl⟩:=someB_iff.1 hsm
  (first|refine qE ?_|refine qD ?_);(simp only [go_sem,↓dP,↓reduceIte];with_reducible and_intros;all_goals first|apply qA|exact qC|skip)
  (refine AskI.ret (hC) ?_;simp only [go_sem,↓dP,↓reduceIte];with_reducible and_intros;all_goals first|apply qA|exact qC|skip)
  (first|refine qE ?_|refine qD ?_);(simp only [go_sem,↓dP,↓reduceIte];with_reducible and_intros;all_goals first|apply qA|exact qC|skip)
  (refine AskI.ret (toT (c_Fits J h L hL)) ?_;simp only [go_sem,↓dP,↓reduceIte];with_reducible and_intros;all_goals first|apply qA|exact qC|skip)
  refine Ok.seq ?_
  (first|refine qE ?_|refine qD ?_);(simp only [go_sem,↓dP,↓reduceIte];with_reducible and_intros;all_goals first|apply qA|exact qC|skip)
  (refine AskI.ret (c_rJob J hh) ?_;simp only [go_sem,↓dP,↓reduceIte];with_reducible and_intros;all_goals first|apply qA|exact qC|skip)
  refine Ok.cond rfl (fun hb => by rw [hj] at hb;cases hb) (fun _ => ?_)
  (refine Ok.skip ?_;(try dsimp only [thenK,blockK,noGotoK]))
  refine Ok.seq ?_
  (first|refine qE ?_|refine qD ?_);(simp only [go_sem,↓dP,↓reduceIte];with_reducible and_intros;all_goals first|apply qA|exact qC|skip)
  (refine AskI.ret (c_rSome J hh.2 (asI L) (by omega)) ?_;simp only [go_sem,↓dP,↓reduceIte];with_reducible and_intros;all_goals first|apply qA|exact qC|skip)
  refine Ok.cond rfl (fun hb => by rw [hsm] at hb;cases hb) (fun _ => ?_)
  (refine Ok.skip ?_;(try dsimp only [thenK,blockK,noGotoK]))
  (first|refine qE ?_|refine qD ?_);(simp only [go_sem,↓dP,↓reduceIte];with_reducible and_intros;all_goals first|apply qA|exact qC|skip)
  (refine AskGI.ret (fun _ => c_rFits J h.sized L hL) ?_;simp only [go_sem,↓dP,↓reduceIte];with_reducible and_intros;all_goals first|apply qA|exact qC|skip)
  (refine AskGI.ret (fun _ => c_known) ?_;simp only [go_sem,↓dP,↓reduceIte];with_reducible and_intros;all_goals first|apply qA|exact qC|skip)
  (refine Ok.ret ?_;(try dsimp only [thenK,blockK,noGotoK]);simp only [toList_mk,List.toList_toArray,retK_ret,retK_normal,resOK,resV,celV,rowV,frzAll,frzT,subV,subL,go_sem,↓dP,↓reduceIte])
  ((repeat' with_reducible apply And.intro)<;>(first | exact DEq.refl _ | refine DEq.int ?_ | refine DEq.bool ?_ | skip))
end
end Go.Proofs.Leaf
namespace Go.Proofs.YtdajcfdhcjbmmaaGreatDoor
open Go Go.RX Go.Proofs.Leaf Go.RowKit Go.ChangeShapes Go.WideShapes Go.ChangeAt
set_option maxRecDepth 100000
theorem leafFits_ctr (As:List SV) (h:opensAll [25,26] As):Ctr Tryz.prog 9 As (bS true):=by
 obtain ⟨_,A1,rfl,h0,h⟩:=opensAll_cons h
 obtain ⟨_,A2,rfl,h1,h⟩:=opensAll_cons h
 obtain rfl:=opensAll_nil h
 obtain ⟨x0,rfl,y0⟩:=opens_job h0
 obtain ⟨x1,rfl,y1⟩:=opens_ints h1
 exact law_Fits x0 y0 x1 y1
theorem leafFits_facts:joinedFacts Tryz.prog 9 Tryz.f9 Rows.leafFitsSpec Rows.leafFitsRow = true:=by unfold joinedFacts;rw [enter_is,final_is,make_is];kernel_rfl
theorem leafFits_lifted (os:Os) (started:os.Started) (H:Type) (enc:TypeId×Value->H) :
  ReturnsInHanded {} Tryz.checked os 9 .any (fun w args => (Rows.leafFitsSpec.pre enc Tryz.prog Tryz.f9 [] false w args/\laidMetH Tryz.prog laid5 w)/\sizedMet enc Tryz.prog Tryz.f9 (OpenSpec.ofChange Rows.leafFitsSpec) false w args)
   (Rows.leafFitsSpec.post enc Tryz.prog Tryz.f9 false true false false):=by
 refine law_ctr (ts:=[25,26]) Rows.leafFitsSpec rfl started (by kernel_rfl) Tryz.func9 (by kernel_rfl) (by rw [Tryz.params9]) (by unfold argT;decide)
  (fun ds hd => ?_)
  (ChangeSpec.witness_shaped (enc:=enc) (C:=Tryz.checked) (os:=os) (X:=fun w _ => laidMetH Tryz.prog laid5 w) false (World.laidAll Tryz.prog os laid5) #[zJ,zL] 8 (World.laidAll_os _ _ _)
   (World.shaped_of_ZipB (by kernel_rfl) (by kernel_rfl)) (by kernel_rfl) (by kernel_rfl) (by kernel_rfl)
   (by rw [MakeChecks.laidMetH_plain _ _ _ (by kernel_rfl)];exact laidMet_laidAll _ (by kernel_rfl) (by kernel_rfl))) leafFits_ctr
 match ds,hd with
 | [d0,d1],_ => rfl
theorem leafFits_row:Rows.LeafFitsSaid :=
 OpenClaim.holds_of_wide 9 Tryz.f9 rfl rfl rfl rfl rfl rfl rfl ⟨rfl,rfl,rfl,rfl,rfl⟩ rfl rfl rfl rfl rfl (by kernel_rfl) Tryz.func9 leafFits_facts (of_decide_eq_true (by kernel_rfl))
  (by unfold Func.isWrapper;first | (rw [if_pos (by decide +kernel)];kernel_rfl) | (rw [if_neg (by decide +kernel)];exact ⟨rfl,rfl⟩)) (fun os started H enc _ => leafFits_lifted os started H enc)
theorem leafFits_card:Rows.LeafFitsCardSaid :=
 Claim7.holds_tied_plain_at .later [] [.data,.data,.data,.data,.pinned] true (true,"9e87e616c4e1775f9d0f73ad686290748eaae9f5c03add0b1bcc61ba8396e555") true leafFits_row
  (fun _ h => by cases h) (by kernel_rfl) (fun _ h => by cases h) leafFits_row_tie rfl ⟨rfl,rfl⟩ main_is rfl
  (fun f fn hf hfn => by
   obtain rfl:f = 9:=Option.some.inj ((show Tryz.prog.funcNamed "mahlstick/mahlsticklaw04.LeafFits" = some 9 by kernel_rfl).symm.trans hf) |>.symm
   obtain rfl:fn = Tryz.f9:=(Option.some.inj (Tryz.func9.symm.trans hfn)).symm
   exact ⟨by kernel_rfl,fun j t ht => by
    rw [Tryz.params9] at ht
    exact law_stand (ts:=[25,26]) (by unfold argT;decide) (by simpa using Array.mem_of_getElem? ht)⟩) (by kernel_rfl)
end Go.Proofs.YtdajcfdhcjbmmaaGreatDoor
