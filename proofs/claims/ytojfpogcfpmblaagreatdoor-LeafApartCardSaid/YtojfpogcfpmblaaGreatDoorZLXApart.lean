/-
  Pieces that are apart: LeafApart returns true at every input, and leaves it as it was.
  No condition beside those that the statement itself names.
-/
import Derived.Test.YtojfpogcfpmblaaGreatDoorB30
import Derived.ChangeMaps5
set_option linter.all false
namespace Go.Proofs.Leaf
theorem bit_lt {t n i:Nat} (h:t < 2 ^ n) (hi:n<=i):t.testBit i = false:=Nat.testBit_lt_two_pow (Nat.lt_of_lt_of_le h (Nat.pow_le_pow_right (by decide) hi))
end Go.Proofs.Leaf
namespace Go.Proofs.Leaf
open Go Go.RX Go.Proofs
set_option maxRecDepth 10000
variable [Glob]
theorem c_rin (n lo hi:Int):Ctr Tryz.prog 60 [iS n,iS lo,iS hi] (bS (inB n lo hi)):=by
 (refine Ctr.mk (fn:=Tryz.f60) rfl rfl rfl rfl rfl Tryz.results60 ?_;intro _;dsimp only [args,List.toList_toArray])
 (first|refine qE ?_|refine qD ?_);(simp only [go_sem,↓dP,↓reduceIte];with_reducible and_intros;all_goals first|apply qA|exact qC|skip)
 (first|refine qE ?_|refine qD ?_);(simp only [go_sem,↓dP,↓reduceIte];with_reducible and_intros;all_goals first|apply qA|exact qC|skip)
 (refine Ok.ret ?_;(try dsimp only [thenK,blockK,noGotoK]);simp only [toList_mk,List.toList_toArray,retK_ret,retK_normal,resOK,resV,celV,rowV,frzAll,frzT,subV,subL,go_sem,↓dP,↓reduceIte])
 exact .refl _
end Go.Proofs.Leaf
namespace Go.Proofs.Leaf
open Go Go.RX Go.Proofs
set_option maxRecDepth 10000
variable [Glob]
theorem c_rPiece (J:Job) (hh:J.ps.length < 1000000) (n:Int):Ctr Tryz.prog 33 [J.sv,iS n] (bS (inB n 0 (J.ps.length - 1))):=by
 (refine Ctr.mk (fn:=Tryz.f33) rfl rfl rfl rfl rfl Tryz.results33 ?_;intro _;dsimp only [args,List.toList_toArray])
 (first|refine qE ?_|refine qD ?_);(simp only [go_sem,↓dP,↓reduceIte];with_reducible and_intros;all_goals first|apply qA|exact qC|skip)
 (first|refine qE ?_|refine qD ?_);(simp only [go_sem,↓dP,↓reduceIte];with_reducible and_intros;all_goals first|apply qA|exact qC|skip)
 (refine AskI.ret (c_rin _ _ _) ?_;simp only [go_sem,↓dP,↓reduceIte];with_reducible and_intros;all_goals first|apply qA|exact qC|skip)
 (refine Ok.ret ?_;(try dsimp only [thenK,blockK,noGotoK]);simp only [toList_mk,List.toList_toArray,retK_ret,retK_normal,resOK,resV,celV,rowV,frzAll,frzT,subV,subL,go_sem,↓dP,↓reduceIte])
 exact .refl _
end Go.Proofs.Leaf
namespace Go.Proofs.Leaf
open Go Go.RX Go.Proofs
set_option maxRecDepth 10000
variable [Glob]
theorem c_rJob (J:Job) (hh:J.held):Ctr Tryz.prog 24 [J.sv] (bS (jobB J)):=by
 have hh1:=hh.1
 have hh2:=hh.2
 (refine Ctr.mk (fn:=Tryz.f24) rfl rfl rfl rfl rfl Tryz.results24 ?_;intro _;dsimp only [args,List.toList_toArray])
 (first|refine qE ?_|refine qD ?_);(simp only [go_sem,↓dP,↓reduceIte];with_reducible and_intros;all_goals first|apply qA|exact qC|skip)
 refine Ok.seq ?_
 (first|refine qE ?_|refine qD ?_);(simp only [go_sem,↓dP,↓reduceIte];with_reducible and_intros;all_goals first|apply qA|exact qC|skip)
 (refine AskI.ret (c_rin _ _ _) ?_;simp only [go_sem,↓dP,↓reduceIte];with_reducible and_intros;all_goals first|apply qA|exact qC|skip)
 (refine AskGI.ret (fun _ => c_rin _ _ _) ?_;simp only [go_sem,↓dP,↓reduceIte];with_reducible and_intros;all_goals first|apply qA|exact qC|skip)
 (refine AskGI.ret (fun _ => c_rin _ _ _) ?_;simp only [go_sem,↓dP,↓reduceIte];with_reducible and_intros;all_goals first|apply qA|exact qC|skip)
 ·intro h
  have:inB J.book 1 25 = true:=by revert h;cases inB J.book 1 25<;>simp
  rw [inB_iff] at this
  exact R64 (by omega) (by omega)
 (refine AskGI.ret (fun _ => c_rin _ _ _) ?_;simp only [go_sem,↓dP,↓reduceIte];with_reducible and_intros;all_goals first|apply qA|exact qC|skip)
 (refine AskGI.ret (fun _ => c_rin _ _ _) ?_;simp only [go_sem,↓dP,↓reduceIte];with_reducible and_intros;all_goals first|apply qA|exact qC|skip)
 (refine AskGI.ret (fun _ => c_rin _ _ _) ?_;simp only [go_sem,↓dP,↓reduceIte];with_reducible and_intros;all_goals first|apply qA|exact qC|skip)
 refine Ok.cond rfl ?_ ?_
 ·intro hb
  (first|refine qE ?_|refine qD ?_);(simp only [go_sem,↓dP,↓reduceIte];with_reducible and_intros;all_goals first|apply qA|exact qC|skip)
  (refine Ok.ret ?_;(try dsimp only [thenK,blockK,noGotoK]);simp only [toList_mk,List.toList_toArray,retK_ret,retK_normal,resOK,resV,celV,rowV,frzAll,frzT,subV,subL,go_sem,↓dP,↓reduceIte])
  refine DEq.bool ?_
  have:headB J = false:=by
   revert hb
   unfold headB
   cases inB J.wide 1 6<;>cases inB J.high 1 6<;>cases inB J.book 1 25<;>cases inB J.spoilt 0 (J.book - 1)<;>cases inB J.gs.length 1 3<;>cases inB J.ps.length 1 5<;>simp
  simp [jobB,this]
 intro hb
 have hhead:headB J = true:=by
  revert hb
  unfold headB
  cases inB J.wide 1 6<;>cases inB J.high 1 6<;>cases inB J.book 1 25<;>cases inB J.spoilt 0 (J.book - 1)<;>cases inB J.gs.length 1 3<;>cases inB J.ps.length 1 5<;>simp
 (refine Ok.skip ?_;(try dsimp only [thenK,blockK,noGotoK]))
 refine Ok.seq ?_
 (first|refine qE ?_|refine qD ?_);(simp only [go_sem,↓dP,↓reduceIte];with_reducible and_intros;all_goals first|apply qA|exact qC|skip)
 refine Ok.block ?_
 refine Ok.count J.gs.length (fun i => ⟨[(1,.p 0 0),(3,iS i)],[jobC J],[]⟩) (fun i => ∀ x∈J.gs.take i,(!groundB x) = false) ⟨fun x hx => by simp at hx,?_⟩ ?_ ?_
 ·(refine Sub.of ([0]) ([]) ?_ ?_ ?_ rfl rfl<;>simp only [subB,subB1,subT,subT1,newT,subE,subV,subL,go_sem,↓dP,↓reduceIte]<;>(try (repeat' with_reducible apply And.intro))<;>(try first | exact DEq.refl _ | refine DEq.int ?_ | refine DEq.bool ?_ | omega))
 ·intro i hi h0
  refine Ok.seq ?_;((first|refine qE ?_|refine qD ?_);(simp only [go_sem,↓dP,↓reduceIte];with_reducible and_intros;all_goals first|apply qA|exact qC|skip));refine Ok.cond rfl (fun _ => ?_) (fun hb => by simp at hb;omega);(refine Ok.skip ?_;(try dsimp only [thenK,blockK,noGotoK]));refine Ok.seq ?_;refine Ok.block ?_
  (first|refine qE ?_|refine qD ?_);(simp only [go_sem,↓dP,↓reduceIte];with_reducible and_intros;all_goals first|apply qA|exact qC|skip)
  (first|refine qE ?_|refine qD ?_);(simp only [go_sem,↓dP,↓reduceIte];with_reducible and_intros;all_goals first|apply qA|exact qC|skip)
  (refine AskI.ret (c_rin _ _ _) ?_;simp only [go_sem,↓dP,↓reduceIte];with_reducible and_intros;all_goals first|apply qA|exact qC|skip)
  (refine AskGI.ret (fun _ => c_rin _ _ _) ?_;simp only [go_sem,↓dP,↓reduceIte];with_reducible and_intros;all_goals first|apply qA|exact qC|skip)
  (refine AskGI.ret (fun _ => c_rin _ _ _) ?_;simp only [go_sem,↓dP,↓reduceIte];with_reducible and_intros;all_goals first|apply qA|exact qC|skip)
  (refine AskGI.ret (fun _ => c_rin _ _ _) ?_;simp only [go_sem,↓dP,↓reduceIte];with_reducible and_intros;all_goals first|apply qA|exact qC|skip)
  have hg:groundB (J.gs.getD i default) = (inB (J.gs.getD i default).rl 0 12 && inB (J.gs.getD i default).rh (J.gs.getD i default).rl 12 && inB (J.gs.getD i default).ll (J.gs.getD i default).rh 12 && inB (J.gs.getD i default).lh (J.gs.getD i default).ll 12):=rfl
  refine Ok.cond rfl ?_ ?_
  ·intro hx
   have hx':(!groundB (J.gs.getD i default)) = true:=by
    rw [hg]
    revert hx
    cases inB (J.gs.getD i default).rl 0 12<;>cases inB (J.gs.getD i default).rh (J.gs.getD i default).rl 12<;>cases inB (J.gs.getD i default).ll (J.gs.getD i default).rh 12<;>cases inB (J.gs.getD i default).lh (J.gs.getD i default).ll 12<;>simp
   (first|refine qE ?_|refine qD ?_);(simp only [go_sem,↓dP,↓reduceIte];with_reducible and_intros;all_goals first|apply qA|exact qC|skip)
   (refine Ok.ret ?_;(try dsimp only [thenK,blockK,noGotoK]);simp only [toList_mk,List.toList_toArray,retK_ret,retK_normal,resOK,resV,celV,rowV,frzAll,frzT,subV,subL,go_sem,↓dP,↓reduceIte])
   refine DEq.bool ?_
   have:J.gs.any (fun g => !groundB g) = true:=List.any_eq_true.2 ⟨_,getD_mem hi,hx'⟩
   rw [jobB,all_any,this];simp
  ·intro hx
   have hx':(!groundB (J.gs.getD i default)) = false:=by
    rw [hg]
    revert hx
    cases inB (J.gs.getD i default).rl 0 12<;>cases inB (J.gs.getD i default).rh (J.gs.getD i default).rl 12<;>cases inB (J.gs.getD i default).ll (J.gs.getD i default).rh 12<;>cases inB (J.gs.getD i default).lh (J.gs.getD i default).ll 12<;>simp
   (refine Ok.skip ?_;(try dsimp only [thenK,blockK,noGotoK]))
   (first|refine qE ?_|refine qD ?_);(simp only [go_sem,↓dP,↓reduceIte];with_reducible and_intros;all_goals first|apply qA|exact qC|skip)
   (try dsimp only [thenK,blockK,noGotoK])
   refine ⟨no_step (q:=fun g => !groundB g) hi h0 hx',?_⟩
   (refine Sub.of ([0]) ([]) ?_ ?_ ?_ rfl rfl<;>simp only [subB,subB1,subT,subT1,newT,subE,subV,subL,go_sem,↓dP,↓reduceIte]<;>(try (repeat' with_reducible apply And.intro))<;>(try first | exact DEq.refl _ | refine DEq.int ?_ | refine DEq.bool ?_ | omega))
 intro h0
 have hgs:J.gs.any (fun g => !groundB g) = false:=List.any_eq_false.2 (fun x hx => by simp [h0 x (by simpa using hx)])
 refine Ok.seq ?_;((first|refine qE ?_|refine qD ?_);(simp only [go_sem,↓dP,↓reduceIte];with_reducible and_intros;all_goals first|apply qA|exact qC|skip));refine Ok.cond rfl (fun hb => by simp at hb) (fun _ => ?_);(refine Ok.exit ?_;simp only [thenK_exit,blockK_exit,noGotoK_exit,thenK_normal,blockK_normal,noGotoK_normal,↓reduceIte,Nat.reduceEqDiff])
 refine Ok.seq ?_
 (first|refine qE ?_|refine qD ?_);(simp only [go_sem,↓dP,↓reduceIte];with_reducible and_intros;all_goals first|apply qA|exact qC|skip)
 refine Ok.block ?_
 refine Ok.count J.ps.length (fun i => ⟨[(1,.p 0 0),(5,iS i)],[jobC J],[]⟩) (fun i => ∀ x∈J.ps.take i,(!pieceB J.gs.length x) = false) ⟨fun x hx => by simp at hx,?_⟩ ?_ ?_
 ·(refine Sub.of ([0]) ([]) ?_ ?_ ?_ rfl rfl<;>simp only [subB,subB1,subT,subT1,newT,subE,subV,subL,go_sem,↓dP,↓reduceIte]<;>(try (repeat' with_reducible apply And.intro))<;>(try first | exact DEq.refl _ | refine DEq.int ?_ | refine DEq.bool ?_ | omega))
 ·intro i hi h0
  refine Ok.seq ?_;((first|refine qE ?_|refine qD ?_);(simp only [go_sem,↓dP,↓reduceIte];with_reducible and_intros;all_goals first|apply qA|exact qC|skip));refine Ok.cond rfl (fun _ => ?_) (fun hb => by simp at hb;omega);(refine Ok.skip ?_;(try dsimp only [thenK,blockK,noGotoK]));refine Ok.seq ?_;refine Ok.block ?_
  (first|refine qE ?_|refine qD ?_);(simp only [go_sem,↓dP,↓reduceIte];with_reducible and_intros;all_goals first|apply qA|exact qC|skip)
  (first|refine qE ?_|refine qD ?_);(simp only [go_sem,↓dP,↓reduceIte];with_reducible and_intros;all_goals first|apply qA|exact qC|skip)
  (refine AskI.ret (c_rin _ _ _) ?_;simp only [go_sem,↓dP,↓reduceIte];with_reducible and_intros;all_goals first|apply qA|exact qC|skip)
  (refine AskGI.ret (fun _ => c_rin _ _ _) ?_;simp only [go_sem,↓dP,↓reduceIte];with_reducible and_intros;all_goals first|apply qA|exact qC|skip)
  (refine AskGI.ret (fun _ => c_rin _ _ _) ?_;simp only [go_sem,↓dP,↓reduceIte];with_reducible and_intros;all_goals first|apply qA|exact qC|skip)
  have hg:pieceB J.gs.length (J.ps.getD i default) = (inB (J.ps.getD i default).w 1 6 && inB (J.ps.getD i default).h 1 6 && inB (J.ps.getD i default).g 0 (J.gs.length - 1)):=rfl
  refine Ok.cond rfl ?_ ?_
  ·intro hx
   have hx':(!pieceB J.gs.length (J.ps.getD i default)) = true:=by
    rw [hg]
    revert hx
    cases inB (J.ps.getD i default).w 1 6<;>cases inB (J.ps.getD i default).h 1 6<;>cases inB (J.ps.getD i default).g 0 (J.gs.length - 1)<;>simp
   (first|refine qE ?_|refine qD ?_);(simp only [go_sem,↓dP,↓reduceIte];with_reducible and_intros;all_goals first|apply qA|exact qC|skip)
   (refine Ok.ret ?_;(try dsimp only [thenK,blockK,noGotoK]);simp only [toList_mk,List.toList_toArray,retK_ret,retK_normal,resOK,resV,celV,rowV,frzAll,frzT,subV,subL,go_sem,↓dP,↓reduceIte])
   refine DEq.bool ?_
   have:J.ps.any (fun p => !pieceB J.gs.length p) = true:=List.any_eq_true.2 ⟨_,getD_mem hi,hx'⟩
   rw [jobB,all_any J.ps,this];simp
  ·intro hx
   have hx':(!pieceB J.gs.length (J.ps.getD i default)) = false:=by
    rw [hg]
    revert hx
    cases inB (J.ps.getD i default).w 1 6<;>cases inB (J.ps.getD i default).h 1 6<;>cases inB (J.ps.getD i default).g 0 (J.gs.length - 1)<;>simp
   (refine Ok.skip ?_;(try dsimp only [thenK,blockK,noGotoK]))
   (first|refine qE ?_|refine qD ?_);(simp only [go_sem,↓dP,↓reduceIte];with_reducible and_intros;all_goals first|apply qA|exact qC|skip)
   (try dsimp only [thenK,blockK,noGotoK])
   refine ⟨no_step (q:=fun p => !pieceB J.gs.length p) hi h0 hx',?_⟩
   (refine Sub.of ([0]) ([]) ?_ ?_ ?_ rfl rfl<;>simp only [subB,subB1,subT,subT1,newT,subE,subV,subL,go_sem,↓dP,↓reduceIte]<;>(try (repeat' with_reducible apply And.intro))<;>(try first | exact DEq.refl _ | refine DEq.int ?_ | refine DEq.bool ?_ | omega))
 ·intro h0
  have hps:J.ps.any (fun p => !pieceB J.gs.length p) = false:=List.any_eq_false.2 (fun x hx => by simp [h0 x (by simpa using hx)])
  refine Ok.seq ?_;((first|refine qE ?_|refine qD ?_);(simp only [go_sem,↓dP,↓reduceIte];with_reducible and_intros;all_goals first|apply qA|exact qC|skip));refine Ok.cond rfl (fun hb => by simp at hb) (fun _ => ?_);(refine Ok.exit ?_;simp only [thenK_exit,blockK_exit,noGotoK_exit,thenK_normal,blockK_normal,noGotoK_normal,↓reduceIte,Nat.reduceEqDiff])
  (first|refine qE ?_|refine qD ?_);(simp only [go_sem,↓dP,↓reduceIte];with_reducible and_intros;all_goals first|apply qA|exact qC|skip)
  (refine Ok.ret ?_;(try dsimp only [thenK,blockK,noGotoK]);simp only [toList_mk,List.toList_toArray,retK_ret,retK_normal,resOK,resV,celV,rowV,frzAll,frzT,subV,subL,go_sem,↓dP,↓reduceIte])
  refine DEq.bool ?_
  rw [jobB,hhead,all_any,all_any,hgs,hps]
  rfl
end Go.Proofs.Leaf
namespace Go.Proofs.Leaf
open Go Go.RX Go.Proofs
set_option maxRecDepth 10000
variable [Glob]
theorem asI_inj {L M:List Nat} (h:asI L = asI M):L = M:=by
 have:(asI L).map Int.toNat = (asI M).map Int.toNat:=by rw [h]
 simpa [List.map_map,Function.comp_def] using this
theorem asI_append (L M:List Nat):asI (L ++ M) = asI L ++ asI M:=by simp
theorem setL_bit (L:List Nat) (i:Nat):(setL (asI L)).testBit i = decide (i∈L):=by
 induction L using revRec with
 | nil => simp [setL]
 | append_singleton L x ih =>
  rw [asI_append,show asI [x] = [(x:Int)] from rfl,setL_snoc,Nat.testBit_or,ih,Nat.testBit_two_pow]
  simp only [Int.toNat_natCast,List.mem_append,List.mem_singleton]
  by_cases h1:i∈L<;>by_cases h2:x = i<;>simp [h1,h2]<;>omega
theorem setL_range (k n:Nat) (hn:n<=k) (p:Nat->Bool) (s:Nat) (hs:s < 2 ^ n) (h:∀ i,i < n->s.testBit i = p i):setL (asI ((List.range n).filter p)) = s:=by
 apply Nat.eq_of_testBit_eq
 intro i
 rw [setL_bit]
 by_cases hi:i < n
 ·rw [h i hi]
  cases hp:p i<;>simp [hi,hp]
 ·rw [bit_lt hs (by omega)]
  simp [hi]
def ofL (l:List Int) (n:Int):List Nat:=(List.range l.length).filter (fun i => l.getD i default == n)
theorem ofL_rises (l:List Int) (n:Int):rises l.length 0 (ofL l n):=by
 refine rises_of (List.Pairwise.filter _ List.pairwise_lt_range) (fun x hx => ?_)
 have:=List.mem_range.1 (List.mem_filter.1 hx).1
 omega
theorem ofL_mask (L:List Nat) (n:Nat):setL (asI (ofL (asI L) n)) = mask L n:=by
 unfold ofL
 rw [asI_len]
 refine setL_range L.length L.length (Nat.le_refl _) _ _ (mask_lt L n) (fun i hi => ?_)
 rw [mask_bit,asI_at hi,decide_eq_true hi,Bool.true_and,Bool.eq_iff_iff]
 simp only [decide_eq_true_eq,beq_iff_eq]
 have:L.getD i 0 = L.getD i default:=rfl
 rw [this];omega
theorem c_rOf (l : List Int) (n : Int) (hl : l.length < 1000) : Ctr Tryz.prog 64 [ilS l, iS n] (ilS (asI (ofL l n))) := by
  (refine Ctr.mk (fn := Tryz.f64) rfl rfl rfl rfl rfl Tryz.results64 ?_; intro _; dsimp only [args, List.toList_toArray])
  (first|refine qE ?_|refine qD ?_);(simp only [go_sem,↓dP,↓reduceIte];with_reducible and_intros;all_goals first|apply qA|exact qC|skip)
  (first|refine qE ?_|refine qD ?_);(simp only [go_sem,↓dP,↓reduceIte];with_reducible and_intros;all_goals first|apply qA|exact qC|skip)
  refine Ok.seq ?_
  (first|refine qE ?_|refine qD ?_);(simp only [go_sem,↓dP,↓reduceIte];with_reducible and_intros;all_goals first|apply qA|exact qC|skip)
  refine Ok.block ?_
  refine Ok.count l.length (fun i => ⟨[(0, ilS l), (1, iS n), (5, .tk 0), (6, iS i)], [], [ownD 3 1 intD (asI ((List.range i).filter (fun i => l.getD i default == n)))]⟩) (fun _ => True) ⟨trivial, ?_⟩ ?_ ?_
  · (refine Sub.of ([]) ([none]) ?_ ?_ ?_ rfl rfl <;> simp only [subB, subB1, subT, subT1, newT, subE, subV, subL, go_sem,↓dP,↓reduceIte] <;> (try (repeat' with_reducible apply And.intro)) <;> (try first | exact DEq.refl _ | refine DEq.int ?_ | refine DEq.bool ?_ | omega))
    simp
  · intro i hi _
    have hlen : (asI ((List.range i).filter (fun i => l.getD i default == n))).length ≤ i := by
      rw [asI_len]
      exact Nat.le_trans (List.length_filter_le _ _) (by simp)
    have hsn : asI ((List.range (i + 1)).filter (fun i => l.getD i default == n)) = asI ((List.range i).filter (fun i => l.getD i default == n)) ++ (if l.getD i default == n then [(i : Int)] else []) := by
      rw [List.range_succ, List.filter_append, asI_append]
      by_cases h : (l.getD i default == n) = true
      · simp only [List.filter_cons, List.filter_nil, h, if_true]; rfl
      · simp only [List.filter_cons, List.filter_nil, h, Bool.false_eq_true, if_false]; rfl
    refine Ok.seq ?_; ((first|refine qE ?_|refine qD ?_);(simp only [go_sem,↓dP,↓reduceIte];with_reducible and_intros;all_goals first|apply qA|exact qC|skip)); refine Ok.cond rfl (fun _ => ?_) (fun hb => by simp at hb; omega); (refine Ok.skip ?_; (try dsimp only [thenK, blockK, noGotoK])); refine Ok.seq ?_; refine Ok.block ?_
    (first|refine qE ?_|refine qD ?_);(simp only [go_sem,↓dP,↓reduceIte];with_reducible and_intros;all_goals first|apply qA|exact qC|skip)
    refine Ok.cond rfl ?_ ?_
    · intro hb
      rw [hb, if_pos rfl] at hsn
      (first|refine qE ?_|refine qD ?_);(simp only [go_sem,↓dP,↓reduceIte];with_reducible and_intros;all_goals first|apply qA|exact qC|skip)
      (try dsimp only [thenK, blockK, noGotoK])
      (first|refine qE ?_|refine qD ?_);(simp only [go_sem,↓dP,↓reduceIte];with_reducible and_intros;all_goals first|apply qA|exact qC|skip)
      (try dsimp only [thenK, blockK, noGotoK])
      refine ⟨trivial, ?_⟩
      rw [hsn]
      (refine Sub.of ([]) ([some 1]) ?_ ?_ ?_ rfl rfl <;> simp only [subB, subB1, subT, subT1, newT, subE, subV, subL, go_sem,↓dP,↓reduceIte] <;> (try (repeat' with_reducible apply And.intro)) <;> (try first | exact DEq.refl _ | refine DEq.int ?_ | refine DEq.bool ?_ | omega))
      · simp
      · exact snoc_D (fun c hc => by have : c = 0 := by omega
                                     subst this; rfl)
    · intro hb
      rw [hb, if_neg (by simp), List.append_nil] at hsn
      (refine Ok.skip ?_; (try dsimp only [thenK, blockK, noGotoK]))
      (try dsimp only [thenK, blockK, noGotoK])
      (first|refine qE ?_|refine qD ?_);(simp only [go_sem,↓dP,↓reduceIte];with_reducible and_intros;all_goals first|apply qA|exact qC|skip)
      (try dsimp only [thenK, blockK, noGotoK])
      refine ⟨trivial, ?_⟩
      rw [hsn]
      (refine Sub.of ([]) ([some 0]) ?_ ?_ ?_ rfl rfl <;> simp only [subB, subB1, subT, subT1, newT, subE, subV, subL, go_sem,↓dP,↓reduceIte] <;> (try (repeat' with_reducible apply And.intro)) <;> (try first | exact DEq.refl _ | refine DEq.int ?_ | refine DEq.bool ?_ | omega))
      exact fun _ _ _ _ => DEq.refl _
  · intro _
    refine Ok.seq ?_; ((first|refine qE ?_|refine qD ?_);(simp only [go_sem,↓dP,↓reduceIte];with_reducible and_intros;all_goals first|apply qA|exact qC|skip)); refine Ok.cond rfl (fun hb => by simp at hb) (fun _ => ?_); (refine Ok.exit ?_; simp only [thenK_exit, blockK_exit, noGotoK_exit, thenK_normal, blockK_normal, noGotoK_normal, ↓reduceIte, Nat.reduceEqDiff])
    (first|refine qE ?_|refine qD ?_);(simp only [go_sem,↓dP,↓reduceIte];with_reducible and_intros;all_goals first|apply qA|exact qC|skip)
    (refine Ok.ret ?_; (try dsimp only [thenK, blockK, noGotoK]); simp only [toList_mk, List.toList_toArray, retK_ret, retK_normal, resOK, resV, celV, rowV, frzAll, frzT, subV, subL, go_sem,↓dP,↓reduceIte])
    exact .refl _
def leavesI (l:List Int):Int:=l.foldl (fun n x => max n (x + 1)) 0
theorem leavesI_snoc (l:List Int) (x:Int):leavesI (l ++ [x]) = max (leavesI l) (x + 1):=by simp [leavesI,List.foldl_append]
theorem leavesI_asI (L:List Nat):leavesI (asI L) = leaves L:=by
 induction L using revRec with
 | nil => rfl
 | append_singleton L x ih =>
  rw [asI_append,show asI [x] = [(x:Int)] from rfl,leavesI_snoc,ih,leaves_snoc];omega
end Go.Proofs.Leaf
namespace Go.Proofs.Leaf
open Go Go.RX Go.Proofs
set_option maxRecDepth 10000
variable [Glob]
theorem grows_take:∀ (L:List Nat) (m i:Nat),grows L m = true->i < L.length->L.getD i default<=(L.take i).foldl (fun n x => max n (x + 1)) m
 | [],_,i,_,hi => by simp at hi
 | x :: L,m,0,h,_ => by
  simp only [grows,Bool.and_eq_true,decide_eq_true_eq] at h
  simpa using h.1
 | x :: L,m,i + 1,h,hi => by
  simp only [grows,Bool.and_eq_true,decide_eq_true_eq] at h
  simpa using grows_take L _ i h.2 (by simpa using hi)
end Go.Proofs.Leaf
namespace Go.Proofs.Leaf
open Go Go.RX Go.Proofs
set_option maxRecDepth 10000
variable [Glob]
def wordB (w:Int):Bool:=decide (1<=w) && decide (w<=3)
theorem c_lword (w:Int):Ctr Tryz.prog 35 [iS w] (bS (wordB w)):=by
 (refine Ctr.mk (fn:=Tryz.f35) rfl rfl rfl rfl rfl Tryz.results35 ?_;intro _;dsimp only [args,List.toList_toArray])
 (first|refine qE ?_|refine qD ?_);(simp only [go_sem,↓dP,↓reduceIte];with_reducible and_intros;all_goals first|apply qA|exact qC|skip)
 (first|refine qE ?_|refine qD ?_);(simp only [go_sem,↓dP,↓reduceIte];with_reducible and_intros;all_goals first|apply qA|exact qC|skip)
 (refine Ok.ret ?_;(try dsimp only [thenK,blockK,noGotoK]);simp only [toList_mk,List.toList_toArray,retK_ret,retK_normal,resOK,resV,celV,rowV,frzAll,frzT,subV,subL,go_sem,↓dP,↓reduceIte])
 exact .refl _
def shortB (J:Job):Bool:=decide (J.gs.length<=5) && decide (J.ps.length<=7)
theorem c_lshort (J:Job) (h:J.far):Ctr Tryz.prog 21 [J.sv] (bS (shortB J)):=by
 have h1:=h.1
 have h2:=h.2
 (refine Ctr.mk (fn:=Tryz.f21) rfl rfl rfl rfl rfl Tryz.results21 ?_;intro _;dsimp only [args,List.toList_toArray])
 (first|refine qE ?_|refine qD ?_);(simp only [go_sem,↓dP,↓reduceIte];with_reducible and_intros;all_goals first|apply qA|exact qC|skip)
 (first|refine qE ?_|refine qD ?_);(simp only [go_sem,↓dP,↓reduceIte];with_reducible and_intros;all_goals first|apply qA|exact qC|skip)
 (refine Ok.ret ?_;(try dsimp only [thenK,blockK,noGotoK]);simp only [toList_mk,List.toList_toArray,retK_ret,retK_normal,resOK,resV,celV,rowV,frzAll,frzT,subV,subL,go_sem,↓dP,↓reduceIte])
 refine DEq.bool ?_
 unfold shortB
 by_cases g1:J.gs.length<=5<;>by_cases g2:J.ps.length<=7<;>simp [g1,g2]<;>omega
theorem short_held {J:Job} (h:shortB J = true):J.held:=by
 simp only [shortB,Bool.and_eq_true,decide_eq_true_eq] at h
 exact ⟨by omega,by omega⟩
def slimB (l:List Int):Bool:=decide (l.length<=8)
theorem c_lslim (l:List Int) (h:l.length<=9223372036854775807):Ctr Tryz.prog 15 [ilS l] (bS (slimB l)):=by
 (refine Ctr.mk (fn:=Tryz.f15) rfl rfl rfl rfl rfl Tryz.results15 ?_;intro _;dsimp only [args,List.toList_toArray])
 (first|refine qE ?_|refine qD ?_);(simp only [go_sem,↓dP,↓reduceIte];with_reducible and_intros;all_goals first|apply qA|exact qC|skip)
 (first|refine qE ?_|refine qD ?_);(simp only [go_sem,↓dP,↓reduceIte];with_reducible and_intros;all_goals first|apply qA|exact qC|skip)
 (refine Ok.ret ?_;(try dsimp only [thenK,blockK,noGotoK]);simp only [toList_mk,List.toList_toArray,retK_ret,retK_normal,resOK,resV,celV,rowV,frzAll,frzT,subV,subL,go_sem,↓dP,↓reduceIte])
 refine DEq.bool ?_
 unfold slimB
 by_cases g:l.length<=8<;>simp [g]<;>omega
def rightB (J:Job):Bool:=shortB J && jobB J
theorem c_lright (J:Job) (h:J.far):Ctr Tryz.prog 14 [J.sv] (bS (rightB J)):=by
 (refine Ctr.mk (fn:=Tryz.f14) rfl rfl rfl rfl rfl Tryz.results14 ?_;intro _;dsimp only [args,List.toList_toArray])
 (first|refine qE ?_|refine qD ?_);(simp only [go_sem,↓dP,↓reduceIte];with_reducible and_intros;all_goals first|apply qA|exact qC|skip)
 (first|refine qE ?_|refine qD ?_);(simp only [go_sem,↓dP,↓reduceIte];with_reducible and_intros;all_goals first|apply qA|exact qC|skip)
 (refine AskI.ret (c_lshort J h) ?_;simp only [go_sem,↓dP,↓reduceIte];with_reducible and_intros;all_goals first|apply qA|exact qC|skip)
 (refine AskGI.ret (fun h => c_rJob J (short_held (by simpa using h))) ?_;simp only [go_sem,↓dP,↓reduceIte];with_reducible and_intros;all_goals first|apply qA|exact qC|skip)
 (refine Ok.ret ?_;(try dsimp only [thenK,blockK,noGotoK]);simp only [toList_mk,List.toList_toArray,retK_ret,retK_normal,resOK,resV,celV,rowV,frzAll,frzT,subV,subL,go_sem,↓dP,↓reduceIte])
 refine DEq.bool ?_
 unfold rightB
 cases shortB J<;>simp
end Go.Proofs.Leaf
namespace Go.Proofs.YtojfpogcfpmblaaGreatDoor
open Go Go.RX Go.Proofs.Leaf Go.RowKit Go.ChangeShapes Go.WideShapes Go.ChangeAt
set_option maxRecDepth 100000
section
variable {H : Type} {enc : TypeId × Value → H} {W : World}
end
theorem opensAll_cons {t:TypeId} {ts:List TypeId} {As:List SV} (h:opensAll (t :: ts) As):∃ A Bs,As = A :: Bs/\opens t A/\opensAll ts Bs:=by
 cases As with
 | nil => exact h.elim
 | cons A Bs => exact ⟨A,Bs,rfl,h.1,h.2⟩
theorem opensAll_nil {As:List SV} (h:opensAll [] As):As = []:=by
 cases As with
 | nil => rfl
 | cons A Bs => exact h.elim
end Go.Proofs.YtojfpogcfpmblaaGreatDoor
namespace Go.Proofs.Leaf
open Go Go.RX Go.Proofs Go.RowKit
set_option maxRecDepth 100000
section
theorem c_lfits (J:Job) (h:J.ok) (L:List Nat) (hL:rises J.ps.length 0 L):Ctr Tryz.prog 18 [J.sv,ilS (asI L)] (.tup [bS (J.fit (setL (asI L))),bS true]):=by
 (refine Ctr.mk (fn:=Tryz.f18) rfl rfl rfl rfl rfl Tryz.results18 ?_;intro _;dsimp only [args,List.toList_toArray])
 (first|refine qE ?_|refine qD ?_);(simp only [go_sem,↓dP,↓reduceIte];with_reducible and_intros;all_goals first|apply qA|exact qC|skip)
 (first|refine qE ?_|refine qD ?_);(simp only [go_sem,↓dP,↓reduceIte];with_reducible and_intros;all_goals first|apply qA|exact qC|skip)
 (refine AskI.ret (toT (c_Fits J h L hL)) ?_;simp only [go_sem,↓dP,↓reduceIte];with_reducible and_intros;all_goals first|apply qA|exact qC|skip)
 (first|refine qE ?_|refine qD ?_);(simp only [go_sem,↓dP,↓reduceIte];with_reducible and_intros;all_goals first|apply qA|exact qC|skip)
 (refine Ok.ret ?_;(try dsimp only [thenK,blockK,noGotoK]);simp only [toList_mk,List.toList_toArray,retK_ret,retK_normal,resOK,resV,celV,rowV,frzAll,frzT,subV,subL,go_sem,↓dP,↓reduceIte])
 ((repeat' with_reducible apply And.intro)<;>(first | exact DEq.refl _ | refine DEq.int ?_ | refine DEq.bool ?_ | skip))
end
section
instance inst_g0_5:Glob:=g0
end
section
instance inst_gT_6:Glob:=gT
end
end Go.Proofs.Leaf
namespace Go.Proofs.Leaf
open Go Go.RX Go.Proofs Go.RowKit
set_option maxRecDepth 100000
section
instance inst_g0_7:Glob:=g0
def cutB (J:Job) (l:List Int):Bool:=(cutsL J.fit J.ps.length).any (fun L => asI L == l)
theorem cutB_iff {J:Job} {l:List Int}:cutB J l = true ↔ ∃ L,L∈cutsL J.fit J.ps.length/\asI L = l:=by
 unfold cutB
 rw [List.any_eq_true]
 simp only [beq_iff_eq]
theorem cutB_no {J:Job} {l:List Int} (h:∀ L,L∈cutsL J.fit J.ps.length->asI L = l->False):cutB J l = false:=by
 rw [Bool.eq_false_iff]
 intro q
 obtain ⟨L,h1,h2⟩:=cutB_iff.1 q
 exact h L h1 h2
theorem grows_more:∀ (L:List Nat) (x n:Nat),grows (L ++ [x]) n = true ↔ grows L n = true/\x<=L.foldl (fun n x => max n (x + 1)) n
 | [],x,n => by simp [grows]
 | y :: L,x,n => by simp only [List.cons_append,grows,List.foldl_cons,Bool.and_eq_true,decide_eq_true_eq,grows_more L,and_assoc]
end
section
instance inst_gT_8:Glob:=gT
theorem c_lcutting (J:Job) (h:J.ok) (l:List Int) (hl:l.length<=100):Ctr Tryz.prog 28 [J.sv,ilS l] (.tup [bS (cutB J l),bS true]):=by
 have hp:=h.p1
 (refine Ctr.mk (fn:=Tryz.f28) rfl rfl rfl rfl rfl Tryz.results28 ?_;intro _;dsimp only [args,List.toList_toArray])
 (first|refine qE ?_|refine qD ?_);(simp only [go_sem,↓dP,↓reduceIte];with_reducible and_intros;all_goals first|apply qA|exact qC|skip)
 refine Ok.seq ?_
 (first|refine qE ?_|refine qD ?_);(simp only [go_sem,↓dP,↓reduceIte];with_reducible and_intros;all_goals first|apply qA|exact qC|skip)
 by_cases hn:l.length = J.ps.length
 rotate_left
 ·refine Ok.cond rfl (fun _ => ?_) (fun hb => by simp at hb;omega)
  rw [cutB_no (fun L h1 h2 => hn (by rw [← h2,asI_len];exact (mem_cutsL.1 h1).1))]
  (first|refine qE ?_|refine qD ?_);(simp only [go_sem,↓dP,↓reduceIte];with_reducible and_intros;all_goals first|apply qA|exact qC|skip)
  (refine Ok.ret ?_;(try dsimp only [thenK,blockK,noGotoK]);simp only [toList_mk,List.toList_toArray,retK_ret,retK_normal,resOK,resV,celV,rowV,frzAll,frzT,subV,subL,go_sem,↓dP,↓reduceIte])
  ((repeat' with_reducible apply And.intro)<;>(first | exact DEq.refl _ | refine DEq.int ?_ | refine DEq.bool ?_ | skip))
 refine Ok.cond rfl (fun hb => by simp at hb;omega) (fun _ => ?_)
 (refine Ok.skip ?_;(try dsimp only [thenK,blockK,noGotoK]))
 (first|refine qE ?_|refine qD ?_);(simp only [go_sem,↓dP,↓reduceIte];with_reducible and_intros;all_goals first|apply qA|exact qC|skip)
 refine Ok.seq ?_
 (first|refine qE ?_|refine qD ?_);(simp only [go_sem,↓dP,↓reduceIte];with_reducible and_intros;all_goals first|apply qA|exact qC|skip)
 refine Ok.block ?_
 refine Ok.count l.length (fun i => ⟨[(1,ilS l),(2,.p 0 0),(6,iS (leavesI (l.take i))),(7,iS i)],[jobC J],[]⟩) (fun i => ∃ L,l.take i = asI L/\grows L 0 = true) ⟨⟨[],rfl,rfl⟩,?_⟩ ?_ ?_
 ·(refine Sub.of ([0]) ([]) ?_ ?_ ?_ rfl rfl<;>simp only [subB,subB1,subT,subT1,newT,subE,subV,subL,go_sem,↓dP,↓reduceIte]<;>(try (repeat' with_reducible apply And.intro))<;>(try first | exact DEq.refl _ | refine DEq.int ?_ | refine DEq.bool ?_ | omega))
 ·rintro i hi ⟨L,hL,hg⟩
  have hLl:L.length = i:=by rw [← asI_len,← hL,List.length_take];omega
  have hle:=leaves_len L hg
  have hlv:leavesI (l.take i) = leaves L:=by rw [hL,leavesI_asI]
  have hsn:leavesI (l.take (i + 1)) = max (leavesI (l.take i)) (l.getD i default + 1):=by rw [getD_take hi,leavesI_snoc]
  have hgm:=grows_more L (l.getD i default).toNat 0
  rw [hlv] at hsn ⊢
  refine Ok.seq ?_;((first|refine qE ?_|refine qD ?_);(simp only [go_sem,↓dP,↓reduceIte];with_reducible and_intros;all_goals first|apply qA|exact qC|skip));refine Ok.cond rfl (fun _ => ?_) (fun hb => by simp at hb;omega);(refine Ok.skip ?_;(try dsimp only [thenK,blockK,noGotoK]));refine Ok.seq ?_;refine Ok.block ?_
  refine Ok.seq ?_
  (first|refine qE ?_|refine qD ?_);(simp only [go_sem,↓dP,↓reduceIte];with_reducible and_intros;all_goals first|apply qA|exact qC|skip)
  refine Ok.cond rfl ?_ ?_
  ·intro hq
   have hno:cutB J l = false:=cutB_no (fun M h1 h2 => by
    subst h2
    have hMg:=(mem_cutsL.1 h1).2.1
    have hi':i < M.length:=by rw [asI_len] at hi;exact hi
    have h3:M.getD i default<=leaves (M.take i):=grows_take M 0 i hMg hi'
    have h4:L = M.take i:=asI_inj (by rw [← hL];simp [List.map_take])
    rw [asI_at hi',h4] at hq
    simp only [Bool.or_eq_true,decide_eq_true_eq] at hq
    omega)
   rw [hno]
   (first|refine qE ?_|refine qD ?_);(simp only [go_sem,↓dP,↓reduceIte];with_reducible and_intros;all_goals first|apply qA|exact qC|skip)
   (refine Ok.ret ?_;(try dsimp only [thenK,blockK,noGotoK]);simp only [toList_mk,List.toList_toArray,retK_ret,retK_normal,resOK,resV,celV,rowV,frzAll,frzT,subV,subL,go_sem,↓dP,↓reduceIte])
   ((repeat' with_reducible apply And.intro)<;>(first | exact DEq.refl _ | refine DEq.int ?_ | refine DEq.bool ?_ | skip))
  ·intro hq
   simp only [Bool.or_eq_false_iff,decide_eq_false_iff_not] at hq
   (refine Ok.skip ?_;(try dsimp only [thenK,blockK,noGotoK]))
   (first|refine qE ?_|refine qD ?_);(simp only [go_sem,↓dP,↓reduceIte];with_reducible and_intros;all_goals first|apply qA|exact qC|skip)
   (try dsimp only [thenK,blockK,noGotoK])
   (first|refine qE ?_|refine qD ?_);(simp only [go_sem,↓dP,↓reduceIte];with_reducible and_intros;all_goals first|apply qA|exact qC|skip)
   (try dsimp only [thenK,blockK,noGotoK])
   refine ⟨⟨L ++ [(l.getD i default).toNat],?_,?_⟩,?_⟩
   ·rw [getD_take hi,hL,asI_append]
    congr 1
    show _ = [(((l.getD i default).toNat:Nat):Int)]
    rw [Int.toNat_of_nonneg (by omega)]
   ·exact hgm.2 ⟨hg,by show _<=leaves L;omega⟩
   ·(refine Sub.of ([0]) ([]) ?_ ?_ ?_ rfl rfl<;>simp only [subB,subB1,subT,subT1,newT,subE,subV,subL,go_sem,↓dP,↓reduceIte]<;>(try (repeat' with_reducible apply And.intro))<;>(try first | exact DEq.refl _ | refine DEq.int ?_ | refine DEq.bool ?_ | omega))
    rw [hsn]
 ·rintro ⟨L,hL,hg⟩
  rw [List.take_length] at hL
  subst hL
  have hLn:L.length = J.ps.length:=by rw [asI_len] at hn;exact hn
  have hle:=leaves_len L hg
  rw [List.take_length,leavesI_asI]
  refine Ok.seq ?_;((first|refine qE ?_|refine qD ?_);(simp only [go_sem,↓dP,↓reduceIte];with_reducible and_intros;all_goals first|apply qA|exact qC|skip));refine Ok.cond rfl (fun hb => by simp at hb) (fun _ => ?_);(refine Ok.exit ?_;simp only [thenK_exit,blockK_exit,noGotoK_exit,thenK_normal,blockK_normal,noGotoK_normal,↓reduceIte,Nat.reduceEqDiff])
  refine Ok.seq ?_
  (first|refine qE ?_|refine qD ?_);(simp only [go_sem,↓dP,↓reduceIte];with_reducible and_intros;all_goals first|apply qA|exact qC|skip)
  refine Ok.block ?_
  have hof:∀ k:Nat,Ctr Tryz.prog 64 [ilS (asI L),iS k] (ilS (asI (ofL (asI L) k))):=fun k => c_rOf (asI L) k (by omega)
  have hfk:∀ k:Nat,Ctr Tryz.prog 18 [J.sv,ilS (asI (ofL (asI L) k))] (.tup [bS (J.fit (mask L k)),bS true]):=fun k => by
   have hr:=ofL_rises (asI L) k
   rw [asI_len,hLn] at hr
   have:=c_lfits J h (ofL (asI L) k) hr
   rwa [ofL_mask] at this
  refine Ok.count (leaves L) (fun i => ⟨[(1,ilS (asI L)),(2,.p 0 0),(6,iS (leaves L)),(8,iS i)],[jobC J],[]⟩) (fun i => ∀ k,k < i->J.fit (mask L k) = true) ⟨fun k hk => by omega,?_⟩ ?_ ?_
  ·(refine Sub.of ([0]) ([]) ?_ ?_ ?_ rfl rfl<;>simp only [subB,subB1,subT,subT1,newT,subE,subV,subL,go_sem,↓dP,↓reduceIte]<;>(try (repeat' with_reducible apply And.intro))<;>(try first | exact DEq.refl _ | refine DEq.int ?_ | refine DEq.bool ?_ | omega))
  ·intro i hi h0
   refine Ok.seq ?_;((first|refine qE ?_|refine qD ?_);(simp only [go_sem,↓dP,↓reduceIte];with_reducible and_intros;all_goals first|apply qA|exact qC|skip));refine Ok.cond rfl (fun _ => ?_) (fun hb => by simp at hb;omega);(refine Ok.skip ?_;(try dsimp only [thenK,blockK,noGotoK]));refine Ok.seq ?_;refine Ok.block ?_
   (first|refine qE ?_|refine qD ?_);(simp only [go_sem,↓dP,↓reduceIte];with_reducible and_intros;all_goals first|apply qA|exact qC|skip)
   (refine AskI.ret (hof i) ?_;simp only [go_sem,↓dP,↓reduceIte];with_reducible and_intros;all_goals first|apply qA|exact qC|skip)
   (refine AskI.ret (hfk i) ?_;simp only [go_sem,↓dP,↓reduceIte];with_reducible and_intros;all_goals first|apply qA|exact qC|skip)
   (first|refine qE ?_|refine qD ?_);(simp only [go_sem,↓dP,↓reduceIte];with_reducible and_intros;all_goals first|apply qA|exact qC|skip)
   cases hq:J.fit (mask L i) with
   | false =>
    have hno:cutB J (asI L) = false:=cutB_no (fun M h1 h2 => by
     rw [asI_inj h2] at h1
     rw [(mem_cutsL.1 h1).2.2 i hi] at hq;cases hq)
    rw [hno]
    refine Ok.cond (b:=true) (by first | rfl | (simp only [go_sem,↓dP,↓reduceIte];rfl)) (fun _ => ?_) (fun hb => by cases hb)
    (first|refine qE ?_|refine qD ?_);(simp only [go_sem,↓dP,↓reduceIte];with_reducible and_intros;all_goals first|apply qA|exact qC|skip)
    (refine Ok.ret ?_;(try dsimp only [thenK,blockK,noGotoK]);simp only [toList_mk,List.toList_toArray,retK_ret,retK_normal,resOK,resV,celV,rowV,frzAll,frzT,subV,subL,go_sem,↓dP,↓reduceIte])
    ((repeat' with_reducible apply And.intro)<;>(first | exact DEq.refl _ | refine DEq.int ?_ | refine DEq.bool ?_ | skip))
   | true =>
    refine Ok.cond (b:=false) (by first | rfl | (simp only [go_sem,↓dP,↓reduceIte];rfl)) (fun hb => by cases hb) (fun _ => ?_)
    (refine Ok.skip ?_;(try dsimp only [thenK,blockK,noGotoK]))
    (try dsimp only [thenK,blockK,noGotoK])
    (first|refine qE ?_|refine qD ?_);(simp only [go_sem,↓dP,↓reduceIte];with_reducible and_intros;all_goals first|apply qA|exact qC|skip)
    (try dsimp only [thenK,blockK,noGotoK])
    refine ⟨fun k hk => ?_,?_⟩
    ·by_cases e:k = i
     ·rw [e];exact hq
     ·exact h0 k (by omega)
    ·(refine Sub.of ([0]) ([]) ?_ ?_ ?_ rfl rfl<;>simp only [subB,subB1,subT,subT1,newT,subE,subV,subL,go_sem,↓dP,↓reduceIte]<;>(try (repeat' with_reducible apply And.intro))<;>(try first | exact DEq.refl _ | refine DEq.int ?_ | refine DEq.bool ?_ | omega))
  ·intro h0
   have hyes:cutB J (asI L) = true:=cutB_iff.2 ⟨L,mem_cutsL.2 ⟨hLn,hg,h0⟩,rfl⟩
   rw [hyes]
   refine Ok.seq ?_;((first|refine qE ?_|refine qD ?_);(simp only [go_sem,↓dP,↓reduceIte];with_reducible and_intros;all_goals first|apply qA|exact qC|skip));refine Ok.cond rfl (fun hb => by simp at hb) (fun _ => ?_);(refine Ok.exit ?_;simp only [thenK_exit,blockK_exit,noGotoK_exit,thenK_normal,blockK_normal,noGotoK_normal,↓reduceIte,Nat.reduceEqDiff])
   (first|refine qE ?_|refine qD ?_);(simp only [go_sem,↓dP,↓reduceIte];with_reducible and_intros;all_goals first|apply qA|exact qC|skip)
   (refine Ok.ret ?_;(try dsimp only [thenK,blockK,noGotoK]);simp only [toList_mk,List.toList_toArray,retK_ret,retK_normal,resOK,resV,celV,rowV,frzAll,frzT,subV,subL,go_sem,↓dP,↓reduceIte])
   ((repeat' with_reducible apply And.intro)<;>(first | exact DEq.refl _ | refine DEq.int ?_ | refine DEq.bool ?_ | skip))
end
end Go.Proofs.Leaf
namespace Go.Proofs.Leaf
open Go Go.RX Go.Proofs Go.RowKit
set_option maxRecDepth 100000
def leavesW (l:List Int):Int:=l.foldl (fun n x => max n (IntKind.i64.wrap (x + 1))) 0
theorem leavesW_snoc (l:List Int) (x:Int):leavesW (l ++ [x]) = max (leavesW l) (IntKind.i64.wrap (x + 1)):=by simp [leavesW,List.foldl_append]
section
theorem c_rLeavesW (l:List Int) (hl:l.length < 1000000):Ctr Tryz.prog 27 [ilS l] (iS (leavesW l)):=by
 (refine Ctr.mk (fn:=Tryz.f27) rfl rfl rfl rfl rfl Tryz.results27 ?_;intro _;dsimp only [args,List.toList_toArray])
 (first|refine qE ?_|refine qD ?_);(simp only [go_sem,↓dP,↓reduceIte];with_reducible and_intros;all_goals first|apply qA|exact qC|skip)
 (first|refine qE ?_|refine qD ?_);(simp only [go_sem,↓dP,↓reduceIte];with_reducible and_intros;all_goals first|apply qA|exact qC|skip)
 refine Ok.seq ?_
 (first|refine qE ?_|refine qD ?_);(simp only [go_sem,↓dP,↓reduceIte];with_reducible and_intros;all_goals first|apply qA|exact qC|skip)
 refine Ok.block ?_
 refine Ok.count l.length (fun i => ⟨[(0,ilS l),(3,iS (leavesW (l.take i))),(4,iS i)],[],[]⟩) (fun _ => True) ⟨trivial,?_⟩ ?_ ?_
 ·(refine Sub.of ([]) ([]) ?_ ?_ ?_ rfl rfl<;>simp only [subB,subB1,subT,subT1,newT,subE,subV,subL,go_sem,↓dP,↓reduceIte]<;>(try (repeat' with_reducible apply And.intro))<;>(try first | exact DEq.refl _ | refine DEq.int ?_ | refine DEq.bool ?_ | omega))
 ·intro i hi _
  have hsn:leavesW (l.take (i + 1)) = max (leavesW (l.take i)) (IntKind.i64.wrap (l.getD i default + 1)):=by rw [getD_take hi,leavesW_snoc]
  refine Ok.seq ?_;((first|refine qE ?_|refine qD ?_);(simp only [go_sem,↓dP,↓reduceIte];with_reducible and_intros;all_goals first|apply qA|exact qC|skip));refine Ok.cond rfl (fun _ => ?_) (fun hb => by simp at hb;omega);(refine Ok.skip ?_;(try dsimp only [thenK,blockK,noGotoK]));refine Ok.seq ?_;refine Ok.block ?_
  ((first | refine RX.qT 5 ?h1 ?h2 ?h3 ?h4 ?_ | refine RX.qU 5 ?h1 ?h2 ?h3 ?h4 ?_);(case h1 => rfl);(case h2 => rfl);(case h3 => rfl);(case h4 => rfl);simp only [go_sem,↓dP,↓reduceIte];with_reducible and_intros;all_goals first|apply qA|exact qC|skip)
  intro Y a w hinv
  have hst:=St.of hinv rfl
  have e15:a.eval (.tmp 15) = .int .i64 (l.getD i default):=by
   obtain ⟨I,β,τ,hx,hm⟩:=hst.val (t:=15) rfl (fun _ _ _ e => by cases e)
   have:=mt_d hm
   show a.tmps.getD 15 undef = _
   generalize a.tmps.getD 15 undef = u at this
   cases this;rfl
  refine tail_val (v:=.int .i64 (IntKind.i64.wrap (l.getD i default + 1))) rfl (fun c e => by cases e) (run_bin_op (op:=.add) (t:=3) (t':=3) (x:=.tmp 15) (y:=.const (.int .i64 1)) rfl (by rw [e15];exact eqGuard_at_int ..) (by rw [e15];simp [Act.eval,binOp_add,Op.intArith])) ?_
  have hst2:=hst.putV (d:=16) (v:=.int .i64 (IntKind.i64.wrap (l.getD i default + 1))) (V:=iS (IntKind.i64.wrap (l.getD i default + 1))) (by decide) (fun _ _ _ _ => .d .int)
  (refine Ok.rest hst2 ?h1 ?h2 ?h3 ?_;(case h1 => rfl);(case h2 => rfl);(case h3 => rfl);simp only [go_sem,↓dP,↓reduceIte,bare];with_reducible and_intros;all_goals first|apply qA|exact qC|skip;(try dsimp only [thenK,blockK,noGotoK]))
  (first|refine qE ?_|refine qD ?_);(simp only [go_sem,↓dP,↓reduceIte];with_reducible and_intros;all_goals first|apply qA|exact qC|skip)
  (try dsimp only [thenK,blockK,noGotoK])
  refine ⟨trivial,?_⟩
  (refine Sub.of ([]) ([]) ?_ ?_ ?_ rfl rfl<;>simp only [subB,subB1,subT,subT1,newT,subE,subV,subL,go_sem,↓dP,↓reduceIte]<;>(try (repeat' with_reducible apply And.intro))<;>(try first | exact DEq.refl _ | refine DEq.int ?_ | refine DEq.bool ?_ | omega))
  rw [hsn]
 ·intro _
  rw [List.take_length]
  refine Ok.seq ?_;((first|refine qE ?_|refine qD ?_);(simp only [go_sem,↓dP,↓reduceIte];with_reducible and_intros;all_goals first|apply qA|exact qC|skip));refine Ok.cond rfl (fun hb => by simp at hb) (fun _ => ?_);(refine Ok.exit ?_;simp only [thenK_exit,blockK_exit,noGotoK_exit,thenK_normal,blockK_normal,noGotoK_normal,↓reduceIte,Nat.reduceEqDiff])
  (first|refine qE ?_|refine qD ?_);(simp only [go_sem,↓dP,↓reduceIte];with_reducible and_intros;all_goals first|apply qA|exact qC|skip)
  (refine Ok.ret ?_;(try dsimp only [thenK,blockK,noGotoK]);simp only [toList_mk,List.toList_toArray,retK_ret,retK_normal,resOK,resV,celV,rowV,frzAll,frzT,subV,subL,go_sem,↓dP,↓reduceIte])
  ((repeat' with_reducible apply And.intro)<;>(first | exact DEq.refl _ | refine DEq.int ?_ | refine DEq.bool ?_ | skip))
end
end Go.Proofs.Leaf
namespace Go.Proofs.Leaf
open Go Go.RX Go.Proofs Go.RowKit
set_option maxRecDepth 100000
section
instance inst_g0_9:Glob:=g0
theorem leavesW_asI:∀ (L:List Nat),(∀ x∈L,x < 1000)->leavesW (asI L) = leaves L:=by
 intro L
 induction L using revRec with
 | nil => intro _;rfl
 | append_singleton L x ih =>
  intro h
  have hx:=h x (by simp)
  rw [asI_append,show asI [x] = [(x:Int)] from rfl,leavesW_snoc,ih (fun y hy => h y (by simp [hy])),leaves_snoc,IntKind.wrap_i64]
  omega
end
section
instance inst_gT_10:Glob:=gT
end
end Go.Proofs.Leaf
namespace Go.Proofs.Leaf
open Go Go.RX Go.Proofs Go.RowKit
set_option maxRecDepth 100000
section
instance inst_g0_11:Glob:=g0
theorem sameN_all (B:List (List Nat)) (a b:Nat):sameN B a b B.length = (B.filter (fun l => l.getD a default == l.getD b default)).length:=by
 unfold sameN;rw [List.take_length]
theorem sameN_sym (B:List (List Nat)) (a b i:Nat):sameN B a b i = sameN B b a i:=by
 unfold sameN
 congr 1
 refine List.filter_congr (fun l _ => ?_)
 rw [Bool.eq_iff_iff,beq_iff_eq,beq_iff_eq]
 exact eq_comm
theorem word_same {B:List (List Nat)} {a b:Nat} {M:List Nat} (hM:M∈B) (hs:M.getD a default = M.getD b default):wordI (sameN B a b B.length) B.length ≠ 1:=by
 have:0 < sameN B a b B.length:=by
  rw [sameN_all]
  exact List.length_pos_of_mem (List.mem_filter.2 ⟨hM,by simpa using hs⟩)
 unfold wordI
 rw [if_neg (by omega)]
 split<;>decide
theorem word_apart {B:List (List Nat)} {a b:Nat} {M:List Nat} (hM:M∈B) (hs:¬ M.getD a default = M.getD b default):wordI (sameN B a b B.length) B.length ≠ 3:=by
 have h1:sameN B a b B.length ≠ B.length:=by
  rw [sameN_all]
  intro e
  have:=List.filter_eq_self.1 (List.Sublist.eq_of_length List.filter_sublist e) M hM
  exact hs (by simpa using this)
 unfold wordI
 by_cases h0:sameN B a b B.length = 0
 ·rw [if_pos h0];decide
 ·rw [if_neg h0,if_neg h1];decide
theorem word_none {B:List (List Nat)} {a b:Nat} (h:∀ M∈B,¬ M.getD a default = M.getD b default):wordI (sameN B a b B.length) B.length = 1:=by
 have:sameN B a b B.length = 0:=by
  rw [sameN_all,List.length_eq_zero_iff,List.filter_eq_nil_iff]
  intro M hM
  simpa using h M hM
 rw [this];rfl
theorem word_in (n m:Nat):1<=wordI n m/\wordI n m<=3:=by
 unfold wordI
 by_cases h0:n = 0
 ·rw [if_pos h0];decide
 ·rw [if_neg h0]
  by_cases h1:n = m
  ·rw [if_pos h1];decide
  ·rw [if_neg h1];decide
theorem two_fit {J:Job} (h:J.ok) {a b:Nat} {M:List Nat} (ha:a < J.ps.length) (hb:b < J.ps.length) (hM:M∈cutsL J.fit J.ps.length) (hs:M.getD a default = M.getD b default):J.fit (setL (asI [a,b])) = true:=by
 obtain ⟨h1,h2,h3⟩:=mem_cutsL.1 hM
 have hk:M.getD a default < leaves M:=leaves_le M _ (getD_mem (by omega))
 refine fit_sub h.sized _ _ ?_ (h3 _ hk)
 apply Nat.eq_of_testBit_eq
 intro i
 rw [Nat.testBit_and,setL_bit,mask_bit]
 have e0:∀ i,M.getD i 0 = M.getD i default:=fun _ => rfl
 by_cases q:i∈[a,b]
 ·simp only [List.mem_cons,List.not_mem_nil,or_false] at q
  rcases q with q | q
  ·have e1:decide (a < M.length) = true:=decide_eq_true (by omega)
   have e2:decide (M.getD a 0 = M.getD a default) = true:=decide_eq_true rfl
   rw [q,e1,e2];simp
  ·have e1:decide (b < M.length) = true:=decide_eq_true (by omega)
   have e2:decide (M.getD b 0 = M.getD a default) = true:=decide_eq_true hs.symm
   rw [q,e1,e2];simp
 ·simp [q]
theorem ceil_div {n b:Int} (hn:1<=n) (hb:1<=b):1<=(n + b - 1).tdiv b/\n<=(n + b - 1).tdiv b * b/\((n + b - 1).tdiv b - 1) * b < n/\(n + b - 1).tdiv b<=n:=by
 rw [Int.tdiv_eq_ediv_of_nonneg (by omega)]
 have h1:=Int.mul_ediv_add_emod (n + b - 1) b
 have h2:=Int.emod_nonneg (n + b - 1) (by omega:b ≠ 0)
 have h3:=Int.emod_lt_of_pos (n + b - 1) (by omega:0 < b)
 generalize (n + b - 1) / b = q at *
 generalize (n + b - 1) % b = r at *
 have e:(q - 1) * b = b * q - b:=by rw [Int.sub_mul,Int.one_mul,Int.mul_comm]
 have e2:q * b = b * q:=Int.mul_comm _ _
 have hq:1<=q:=by
  rcases Int.lt_or_le q 1 with q1 | q1
  ·have:b * q<=0:=Int.mul_nonpos_of_nonneg_of_nonpos (by omega) (by omega)
   omega
  ·exact q1
 refine ⟨hq,by omega,by omega,?_⟩
 rcases Int.lt_or_le n q with q1 | q1
 ·have:b * (q - 1) ≥ b * n:=Int.mul_le_mul_of_nonneg_left (by omega) (by omega)
  have e3:b * (q - 1) = b * q - b:=by rw [Int.mul_sub,Int.mul_one]
  have e4:b * n ≥ 1 * n:=Int.mul_le_mul_of_nonneg_right hb (by omega)
  omega
 ·exact q1
end
end Go.Proofs.Leaf
namespace Go.Proofs.Leaf
open Go Go.RX Go.Proofs Go.RowKit
set_option maxRecDepth 100000
theorem small_mul {a b:Int} (h1:0<=a) (h2:a<=100) (h3:0<=b) (h4:b<=25):0<=a * b/\a * b<=2500:=by
 have q1:=Int.mul_nonneg h1 h3
 have q2:a * b<=100 * b:=Int.mul_le_mul_of_nonneg_right h2 h3
 omega
section
instance inst_gT_12:Glob:=gT
theorem law_Apart (J:Job) (hf:J.far) (l:List Int) (hl:l.length<=maxLen) (a b:Int):Ctr Tryz.prog 8 [J.sv,ilS l,iS a,iS b] (bS true):=by
 have hl':l.length<=9223372036854775807:=Nat.le_trans hl (by decide)
 (refine Ctr.mk (fn:=Tryz.f8) rfl rfl rfl rfl rfl Tryz.results8 ?_;intro _;dsimp only [args,List.toList_toArray])
 (first|refine qE ?_|refine qD ?_);(simp only [go_sem,↓dP,↓reduceIte];with_reducible and_intros;all_goals first|apply qA|exact qC|skip)
 refine Ok.seq ?_
 (first|refine qE ?_|refine qD ?_);(simp only [go_sem,↓dP,↓reduceIte];with_reducible and_intros;all_goals first|apply qA|exact qC|skip)
 (refine AskI.ret (c_lright J hf) ?_;simp only [go_sem,↓dP,↓reduceIte];with_reducible and_intros;all_goals first|apply qA|exact qC|skip)
 (refine AskGI.ret (fun _ => c_lslim l hl') ?_;simp only [go_sem,↓dP,↓reduceIte];with_reducible and_intros;all_goals first|apply qA|exact qC|skip)
 (refine AskGI.ret (fun q => c_rPiece J (short_held (by simp [rightB] at q;simp [q])).2 a) ?_;simp only [go_sem,↓dP,↓reduceIte];with_reducible and_intros;all_goals first|apply qA|exact qC|skip)
 (refine AskGI.ret (fun q => c_rPiece J (short_held (by simp [rightB] at q;simp [q])).2 b) ?_;simp only [go_sem,↓dP,↓reduceIte];with_reducible and_intros;all_goals first|apply qA|exact qC|skip)
 refine Ok.cond rfl ?_ ?_
 ·intro hs
  (first|refine qE ?_|refine qD ?_);(simp only [go_sem,↓dP,↓reduceIte];with_reducible and_intros;all_goals first|apply qA|exact qC|skip)
  (refine AskI.ret (c_known) ?_;simp only [go_sem,↓dP,↓reduceIte];with_reducible and_intros;all_goals first|apply qA|exact qC|skip)
  (refine Ok.ret ?_;(try dsimp only [thenK,blockK,noGotoK]);simp only [toList_mk,List.toList_toArray,retK_ret,retK_normal,resOK,resV,celV,rowV,frzAll,frzT,subV,subL,go_sem,↓dP,↓reduceIte])
  ((repeat' with_reducible apply And.intro)<;>(first | exact DEq.refl _ | refine DEq.int ?_ | refine DEq.bool ?_ | skip))
 intro hs
 (refine Ok.skip ?_;(try dsimp only [thenK,blockK,noGotoK]))
 obtain ⟨hr,hsl,ha,hb,hab⟩:rightB J = true/\slimB l = true/\inB a 0 (J.ps.length - 1) = true/\inB b 0 (J.ps.length - 1) = true/\a < b:=by
  revert hs
  cases rightB J<;>cases slimB l<;>cases inB a 0 (J.ps.length - 1)<;>cases inB b 0 (J.ps.length - 1)<;>simp
 simp only [rightB,Bool.and_eq_true] at hr
 obtain ⟨hsh,hj⟩:=hr
 have hh:=short_held hsh
 have h:=jobB_iff.1 hj
 have hp:=h.p1
 have hsl':l.length<=8:=by simpa [slimB] using hsl
 rw [inB_iff] at ha hb
 obtain ⟨a,rfl⟩:∃ n:Nat,a = n:=⟨a.toNat,by omega⟩
 obtain ⟨b,rfl⟩:∃ n:Nat,b = n:=⟨b.toNat,by omega⟩
 have han:a < J.ps.length:=by omega
 have hbn:b < J.ps.length:=by omega
 have hC:=c_Cut J h
 have hS1:=c_Same J h a b han hbn (by omega)
 have hS2:=c_Same J h b a hbn han (by omega)
 have hK:=c_Books J h
 have hlen:=bsts_len (J:=J) hp
 have hmem:∀ m∈bsts J,m.length = J.ps.length/\grows m 0 = true:=fun m hm => bsts_mem hm
 have hcut:∀ m∈bsts J,m∈cutsL J.fit J.ps.length:=fun m hm => (mem_bestsL.1 hm).1
 have hbe:∀ x∈bsts J,∀ m∈cutsL J.fit J.ps.length,leaves m = leaves x->m∈bsts J:=fun x hx m hm e => mem_bestsL.2 ⟨hm,fun y hy => by rw [e];exact (mem_bestsL.1 hx).2 y hy⟩
 rw [sameN_sym _ b a] at hS2
 generalize bsts J = B at hC hS1 hS2 hK hlen hmem hcut hbe
 have hfw:J.fit (setL (asI [a,b])) = false->wordI (sameN B a b B.length) B.length = 1:=fun q => word_none (fun M hM e => by rw [two_fit h han hbn (hcut M hM) e] at q;cases q)
 have hwi:=word_in (sameN B a b B.length) B.length
 have hws:∀ M∈B,M.getD a default = M.getD b default->wordI (sameN B a b B.length) B.length ≠ 1:=fun M hM e => word_same hM e
 have hwa:∀ M∈B,¬ M.getD a default = M.getD b default->wordI (sameN B a b B.length) B.length ≠ 3:=fun M hM e => word_apart hM e
 generalize wordI (sameN B a b B.length) B.length = w at hS1 hS2 hfw hwi hws hwa
 have hF:Ctr Tryz.prog 18 [J.sv,litS [(a:Int),(b:Int)]] (.tup [bS (J.fit (setL (asI [a,b]))),bS true]):=by
  have:=c_lfits J h [a,b] ⟨Nat.zero_le _,han,by omega,hbn,trivial⟩
  exact this.args ⟨⟨.refl _,.refl _,.refl _,.refl _,.refl _,.refl _,trivial⟩,litD _,trivial⟩
 generalize J.fit (setL (asI [a,b])) = f at hF hfw
 cases B with
 | nil =>
  (first|refine qE ?_|refine qD ?_);(simp only [go_sem,↓dP,↓reduceIte];with_reducible and_intros;all_goals first|apply qA|exact qC|skip)
  (refine AskI.ret (hC) ?_;simp only [go_sem,↓dP,↓reduceIte];with_reducible and_intros;all_goals first|apply qA|exact qC|skip)
  (first|refine qE ?_|refine qD ?_);(simp only [go_sem,↓dP,↓reduceIte];with_reducible and_intros;all_goals first|apply qA|exact qC|skip)
  (refine AskI.ret (hS1) ?_;simp only [go_sem,↓dP,↓reduceIte];with_reducible and_intros;all_goals first|apply qA|exact qC|skip)
  (first|refine qE ?_|refine qD ?_);(simp only [go_sem,↓dP,↓reduceIte];with_reducible and_intros;all_goals first|apply qA|exact qC|skip)
  (refine AskI.ret (hS2) ?_;simp only [go_sem,↓dP,↓reduceIte];with_reducible and_intros;all_goals first|apply qA|exact qC|skip)
  (first|refine qE ?_|refine qD ?_);(simp only [go_sem,↓dP,↓reduceIte];with_reducible and_intros;all_goals first|apply qA|exact qC|skip)
  (refine AskI.ret (hK) ?_;simp only [go_sem,↓dP,↓reduceIte];with_reducible and_intros;all_goals first|apply qA|exact qC|skip)
  (first|refine qE ?_|refine qD ?_);(simp only [go_sem,↓dP,↓reduceIte];with_reducible and_intros;all_goals first|apply qA|exact qC|skip)
  (refine AskI.ret (c_lcutting J h l (by omega)) ?_;simp only [go_sem,↓dP,↓reduceIte];with_reducible and_intros;all_goals first|apply qA|exact qC|skip)
  (first|refine qE ?_|refine qD ?_);(simp only [go_sem,↓dP,↓reduceIte];with_reducible and_intros;all_goals first|apply qA|exact qC|skip)
  (refine AskI.ret (hF) ?_;simp only [go_sem,↓dP,↓reduceIte];with_reducible and_intros;all_goals first|apply qA|exact qC|skip)
  refine Ok.seq ?_
  (first|refine qE ?_|refine qD ?_);(simp only [go_sem,↓dP,↓reduceIte];with_reducible and_intros;all_goals first|apply qA|exact qC|skip)
  refine Ok.cond rfl (fun hb => by simp at hb) (fun _ => ?_)
  (refine Ok.skip ?_;(try dsimp only [thenK,blockK,noGotoK]))
  refine Ok.seq ?_
  (first|refine qE ?_|refine qD ?_);(simp only [go_sem,↓dP,↓reduceIte];with_reducible and_intros;all_goals first|apply qA|exact qC|skip)
  refine Ok.cond (b:=true) (by first | rfl | (simp only [go_sem,↓dP,↓reduceIte];rfl)) (fun _ => ?_) (fun hb => by cases hb)
  (first|refine qE ?_|refine qD ?_);(simp only [go_sem,↓dP,↓reduceIte];with_reducible and_intros;all_goals first|apply qA|exact qC|skip)
  (refine AskGI.ret (fun _ => c_known) ?_;simp only [go_sem,↓dP,↓reduceIte];with_reducible and_intros;all_goals first|apply qA|exact qC|skip)
  (refine Ok.ret ?_;(try dsimp only [thenK,blockK,noGotoK]);simp only [toList_mk,List.toList_toArray,retK_ret,retK_normal,resOK,resV,celV,rowV,frzAll,frzT,subV,subL,go_sem,↓dP,↓reduceIte])
  ((repeat' with_reducible apply And.intro)<;>(first | exact DEq.refl _ | refine DEq.int ?_ | refine DEq.bool ?_ | skip))
 | cons x L =>
  simp only [reduceCtorEq,if_false,List.head?_cons,Option.getD_some] at hC hS1 hS2 hK
  have hx:=hmem x (List.mem_cons_self ..)
  have hxv:=leaves_len x hx.2
  have hx1:1<=leaves x:=by
   cases x with
   | nil => have:=h.p0;simp at hx;omega
   | cons y x => have:=leaves_le (y :: x) y (List.mem_cons_self ..);omega
  have g1:=h.b0
  have g2:=h.b1
  have g3:=h.s0
  have g4:=h.s1
  have hlo:=ceil_div (n:=leaves x) (b:=J.book) (by omega) g1
  have hhi:=ceil_div (n:=leaves x) (b:=J.book - J.spoilt) (by omega) (by omega)
  have hlh:(booksJ J (leaves x)).1<=(booksJ J (leaves x)).2:=by
   show ((leaves x:Int) + J.book - 1).tdiv J.book<=((leaves x:Int) + (J.book - J.spoilt) - 1).tdiv (J.book - J.spoilt)
   generalize ((leaves x:Int) + J.book - 1).tdiv J.book = p at hlo ⊢
   generalize ((leaves x:Int) + (J.book - J.spoilt) - 1).tdiv (J.book - J.spoilt) = q at hhi ⊢
   have e:q * (J.book - J.spoilt)<=q * J.book:=Int.mul_le_mul_of_nonneg_left (by omega) (by omega)
   have e2:(p - 1) * J.book < q * J.book:=by omega
   have:=Int.lt_of_mul_lt_mul_right e2 (by omega)
   omega
  obtain ⟨lo,hi,hbk⟩:∃ lo hi,booksJ J (leaves x) = (lo,hi):=⟨_,_,rfl⟩
  have hlo':1<=lo/\(leaves x:Int)<=lo * J.book/\(lo - 1) * J.book < leaves x/\lo<=leaves x:=by
   have e:((leaves x:Int) + J.book - 1).tdiv J.book = lo:=congrArg Prod.fst hbk
   rw [e] at hlo;exact hlo
  have hhi':1<=hi/\(leaves x:Int)<=hi * (J.book - J.spoilt)/\(hi - 1) * (J.book - J.spoilt) < leaves x/\hi<=leaves x:=by
   have e:((leaves x:Int) + (J.book - J.spoilt) - 1).tdiv (J.book - J.spoilt) = hi:=congrArg Prod.snd hbk
   rw [e] at hhi;exact hhi
  have p1:=small_mul (a:=lo) (b:=J.book) (by omega) (by omega) (by omega) g2
  have p2:=small_mul (a:=lo - 1) (b:=J.book) (by omega) (by omega) (by omega) g2
  have p3:=small_mul (a:=hi) (b:=J.book - J.spoilt) (by omega) (by omega) (by omega) (by omega)
  have p4:=small_mul (a:=hi - 1) (b:=J.book - J.spoilt) (by omega) (by omega) (by omega) (by omega)
  rw [hbk] at hK hlh
  simp only at hlh
  clear hlo hhi
  (first|refine qE ?_|refine qD ?_);(simp only [go_sem,↓dP,↓reduceIte];with_reducible and_intros;all_goals first|apply qA|exact qC|skip)
  (refine AskI.ret (hC) ?_;simp only [go_sem,↓dP,↓reduceIte];with_reducible and_intros;all_goals first|apply qA|exact qC|skip)
  (first|refine qE ?_|refine qD ?_);(simp only [go_sem,↓dP,↓reduceIte];with_reducible and_intros;all_goals first|apply qA|exact qC|skip)
  (refine AskI.ret (hS1) ?_;simp only [go_sem,↓dP,↓reduceIte];with_reducible and_intros;all_goals first|apply qA|exact qC|skip)
  (first|refine qE ?_|refine qD ?_);(simp only [go_sem,↓dP,↓reduceIte];with_reducible and_intros;all_goals first|apply qA|exact qC|skip)
  (refine AskI.ret (hS2) ?_;simp only [go_sem,↓dP,↓reduceIte];with_reducible and_intros;all_goals first|apply qA|exact qC|skip)
  (first|refine qE ?_|refine qD ?_);(simp only [go_sem,↓dP,↓reduceIte];with_reducible and_intros;all_goals first|apply qA|exact qC|skip)
  (refine AskI.ret (hK) ?_;simp only [go_sem,↓dP,↓reduceIte];with_reducible and_intros;all_goals first|apply qA|exact qC|skip)
  (first|refine qE ?_|refine qD ?_);(simp only [go_sem,↓dP,↓reduceIte];with_reducible and_intros;all_goals first|apply qA|exact qC|skip)
  (refine AskI.ret (c_lcutting J h l (by omega)) ?_;simp only [go_sem,↓dP,↓reduceIte];with_reducible and_intros;all_goals first|apply qA|exact qC|skip)
  (first|refine qE ?_|refine qD ?_);(simp only [go_sem,↓dP,↓reduceIte];with_reducible and_intros;all_goals first|apply qA|exact qC|skip)
  (refine AskI.ret (hF) ?_;simp only [go_sem,↓dP,↓reduceIte];with_reducible and_intros;all_goals first|apply qA|exact qC|skip)
  refine Ok.seq ?_
  (first|refine qE ?_|refine qD ?_);(simp only [go_sem,↓dP,↓reduceIte];with_reducible and_intros;all_goals first|apply qA|exact qC|skip)
  refine Ok.cond rfl (fun hb => by simp at hb) (fun _ => ?_)
  (refine Ok.skip ?_;(try dsimp only [thenK,blockK,noGotoK]))
  refine Ok.seq ?_
  (first|refine qE ?_|refine qD ?_);(simp only [go_sem,↓dP,↓reduceIte];with_reducible and_intros;all_goals first|apply qA|exact qC|skip)
  refine Ok.cond (b:=false) (by first | rfl | (simp only [go_sem,↓dP,↓reduceIte];rfl)) (fun hb => by cases hb) (fun _ => ?_)
  (refine Ok.skip ?_;(try dsimp only [thenK,blockK,noGotoK]))
  refine Ok.seq ?_
  (first|refine qE ?_|refine qD ?_);(simp only [go_sem,↓dP,↓reduceIte];with_reducible and_intros;all_goals first|apply qA|exact qC|skip)
  (refine AskI.ret (c_lword w) ?_;simp only [go_sem,↓dP,↓reduceIte];with_reducible and_intros;all_goals first|apply qA|exact qC|skip)
  have hwB:wordB w = true:=by simp [wordB];omega
  refine Ok.cond rfl (fun hb => ?_) (fun _ => ?_)
  ·exfalso
   revert hb
   rw [hwB]
   cases f with
   | true => simp;omega
   | false => rw [hfw rfl];simp;omega
  (refine Ok.skip ?_;(try dsimp only [thenK,blockK,noGotoK]))
  refine Ok.seq ?_
  (first|refine qE ?_|refine qD ?_);(simp only [go_sem,↓dP,↓reduceIte];with_reducible and_intros;all_goals first|apply qA|exact qC|skip)
  all_goals try first | exact R64 (by omega) (by omega) | exact fun _ => R64 (by omega) (by omega)
  refine Ok.cond rfl (fun hb => ?_) (fun _ => ?_)
  ·exfalso
   revert hb
   simp;omega
  (refine Ok.skip ?_;(try dsimp only [thenK,blockK,noGotoK]))
  refine Ok.seq ?_
  (first|refine qE ?_|refine qD ?_);(simp only [go_sem,↓dP,↓reduceIte];with_reducible and_intros;all_goals first|apply qA|exact qC|skip)
  (refine AskGI.ret (fun _ => c_rLeavesW l (by omega)) ?_;simp only [go_sem,↓dP,↓reduceIte];with_reducible and_intros;all_goals first|apply qA|exact qC|skip)
  refine Ok.cond rfl ?_ ?_
  ·intro _
   (first|refine qE ?_|refine qD ?_);(simp only [go_sem,↓dP,↓reduceIte];with_reducible and_intros;all_goals first|apply qA|exact qC|skip)
   (refine AskI.ret (c_known) ?_;simp only [go_sem,↓dP,↓reduceIte];with_reducible and_intros;all_goals first|apply qA|exact qC|skip)
   (refine Ok.ret ?_;(try dsimp only [thenK,blockK,noGotoK]);simp only [toList_mk,List.toList_toArray,retK_ret,retK_normal,resOK,resV,celV,rowV,frzAll,frzT,subV,subL,go_sem,↓dP,↓reduceIte])
   ((repeat' with_reducible apply And.intro)<;>(first | exact DEq.refl _ | refine DEq.int ?_ | refine DEq.bool ?_ | skip))
  intro hq
  (refine Ok.skip ?_;(try dsimp only [thenK,blockK,noGotoK]))
  have hq':cutB J l = true/\leavesW l = leaves x:=by
   revert hq;cases cutB J l<;>simp
  obtain ⟨M,hM,rfl⟩:=cutB_iff.1 hq'.1
  have hMl:=(mem_cutsL.1 hM).1
  have hMg:=(mem_cutsL.1 hM).2.1
  have hMv:=leaves_len M hMg
  have hMe:leaves M = leaves x:=by
   have:=leavesW_asI M (fun y hy => by have:=leaves_le M y hy;omega)
   rw [this] at hq';omega
  have hMB:=hbe x (List.mem_cons_self ..) M hM hMe
  have hMs:=hws M hMB
  have hMa:=hwa M hMB
  have hAl:(asI M).length = M.length:=asI_len M
  have ea:(asI M).getD a default = ((M.getD a default:Nat):Int):=asI_at (by omega)
  have eb:(asI M).getD b default = ((M.getD b default:Nat):Int):=asI_at (by omega)
  (first|refine qE ?_|refine qD ?_);(simp only [go_sem,↓dP,↓reduceIte];with_reducible and_intros;all_goals first|apply qA|exact qC|skip)
  (first|refine qE ?_|refine qD ?_);(simp only [go_sem,↓dP,↓reduceIte];with_reducible and_intros;all_goals first|apply qA|exact qC|skip)
  (refine AskGI.ret (fun _ => c_known) ?_;simp only [go_sem,↓dP,↓reduceIte];with_reducible and_intros;all_goals first|apply qA|exact qC|skip)
  (refine Ok.ret ?_;(try dsimp only [thenK,blockK,noGotoK]);simp only [toList_mk,List.toList_toArray,retK_ret,retK_normal,resOK,resV,celV,rowV,frzAll,frzT,subV,subL,go_sem,↓dP,↓reduceIte])
  refine DEq.bool ?_
  rw [ea,eb]
  by_cases e:M.getD a default = M.getD b default
  ·rw [e]
   have:=hMs e
   simp;omega
  ·have:=hMa e
   have e2:(((M.getD a default:Nat):Int) == ((M.getD b default:Nat):Int)) = false:=by
    rw [beq_eq_false_iff_ne];omega
   rw [e2];simp;omega
end
end Go.Proofs.Leaf
namespace Go.Proofs.YtojfpogcfpmblaaGreatDoor
open Go Go.RX Go.Proofs.Leaf Go.RowKit Go.ChangeShapes Go.WideShapes Go.ChangeAt
set_option maxRecDepth 100000
theorem leafApart_ctr (As:List SV) (h:opensAll [25,26,3,3] As):Ctr Tryz.prog 8 As (bS true):=by
 obtain ⟨_,A1,rfl,h0,h⟩:=opensAll_cons h
 obtain ⟨_,A2,rfl,h1,h⟩:=opensAll_cons h
 obtain ⟨_,A3,rfl,h2,h⟩:=opensAll_cons h
 obtain ⟨_,A4,rfl,h3,h⟩:=opensAll_cons h
 obtain rfl:=opensAll_nil h
 obtain ⟨x0,rfl,y0⟩:=opens_job h0
 obtain ⟨x1,rfl,y1⟩:=opens_ints h1
 obtain ⟨x2,rfl,y2,z2⟩:=opens_int h2
 obtain ⟨x3,rfl,y3,z3⟩:=opens_int h3
 exact law_Apart x0 y0 x1 y1 x2 x3
theorem leafApart_facts:joinedFacts Tryz.prog 8 Tryz.f8 Rows.leafApartSpec Rows.leafApartRow = true:=by unfold joinedFacts;rw [enter_is,final_is,make_is];kernel_rfl
theorem leafApart_lifted (os:Os) (started:os.Started) (H:Type) (enc:TypeId×Value->H) :
  ReturnsInHanded {} Tryz.checked os 8 .any (fun w args => (Rows.leafApartSpec.pre enc Tryz.prog Tryz.f8 [] false w args/\laidMetH Tryz.prog laid5 w)/\sizedMet enc Tryz.prog Tryz.f8 (OpenSpec.ofChange Rows.leafApartSpec) false w args)
   (Rows.leafApartSpec.post enc Tryz.prog Tryz.f8 false true false false):=by
 refine law_ctr (ts:=[25,26,3,3]) Rows.leafApartSpec rfl started (by kernel_rfl) Tryz.func8 (by kernel_rfl) (by rw [Tryz.params8]) (by unfold argT;decide)
  (fun ds hd => ?_)
  (ChangeSpec.witness_shaped (enc:=enc) (C:=Tryz.checked) (os:=os) (X:=fun w _ => laidMetH Tryz.prog laid5 w) false (World.laidAll Tryz.prog os laid5) #[zJ,zL,zI,zI] 8 (World.laidAll_os _ _ _)
   (World.shaped_of_ZipB (by kernel_rfl) (by kernel_rfl)) (by kernel_rfl) (by kernel_rfl) (by kernel_rfl)
   (by rw [MakeChecks.laidMetH_plain _ _ _ (by kernel_rfl)];exact laidMet_laidAll _ (by kernel_rfl) (by kernel_rfl))) leafApart_ctr
 match ds,hd with
 | [d0,d1,d2,d3],_ => rfl
theorem leafApart_row:Rows.LeafApartSaid :=
 OpenClaim.holds_of_wide 8 Tryz.f8 rfl rfl rfl rfl rfl rfl rfl ⟨rfl,rfl,rfl,rfl,rfl⟩ rfl rfl rfl rfl rfl (by kernel_rfl) Tryz.func8 leafApart_facts (of_decide_eq_true (by kernel_rfl))
  (by unfold Func.isWrapper;first | (rw [if_pos (by decide +kernel)];kernel_rfl) | (rw [if_neg (by decide +kernel)];exact ⟨rfl,rfl⟩)) (fun os started H enc _ => leafApart_lifted os started H enc)
theorem leafApart_card:Rows.LeafApartCardSaid :=
 Claim7.holds_tied_plain_at .later [] [.data,.data,.data,.data,.pinned] true (true,"b9e665a4b67ae011e5ed22b8eb226cc6d74f55357845231d1045bbc61717fa8c") true leafApart_row
  (fun _ h => by cases h) (by kernel_rfl) (fun _ h => by cases h) leafApart_row_tie rfl ⟨rfl,rfl⟩ main_is rfl
  (fun f fn hf hfn => by
   obtain rfl:f = 8:=Option.some.inj ((show Tryz.prog.funcNamed "mahlstick/mahlsticklaw04.LeafApart" = some 8 by kernel_rfl).symm.trans hf) |>.symm
   obtain rfl:fn = Tryz.f8:=(Option.some.inj (Tryz.func8.symm.trans hfn)).symm
   exact ⟨by kernel_rfl,fun j t ht => by
    rw [Tryz.params8] at ht
    exact law_stand (ts:=[25,26,3,3]) (by unfold argT;decide) (by simpa using Array.mem_of_getElem? ht)⟩) (by kernel_rfl)
end Go.Proofs.YtojfpogcfpmblaaGreatDoor
