/-
  Contracts, part 31. No condition.
-/
import Derived.Test.YtmpnbmedikkggaaB29
set_option linter.all false
namespace Go.Proofs.Leaf
open Go Go.RX Go.Proofs
set_option maxRecDepth 10000
section
abbrev bpCs (B:Bk) (l:Nat) (us:Array Value):List SV :=
 [.d B.ref,.d (.ref 1 (dget [.raw (.func (.yield l) #[] #[])])),.d (.ref 1 (dget [.raw (.func (.func 82) #[] us)]))]
abbrev bpG (B:Bk) (l:Nat) (us:Array Value) (Jq Jx:Jt) (n:Nat) (hJ:Stab Jq) (hJx:Stab Jx):Gst :=
 itG (fun _ => False) Jq Jx n us (bpCs B l us) (fun _ e => by cases e) hJ hJx
def handsB (ap:Int) (s:Stk):List Int:=(List.range (if s.rd then 1 else (ap + 1).toNat)).map (fun (i:Nat) => (i:Int))
theorem hands_at {ap:Int} {s:Stk} {x:Nat} (h:x < (handsB ap s).length):(handsB ap s).getD x default = x:=by
 unfold handsB at h ⊢
 simp at h
 simp [List.getD_eq_getElem?_getD,h]
theorem hands_len (ap:Int) (s:Stk):(handsB ap s).length = if s.rd then 1 else (ap + 1).toNat:=by simp [handsB]
theorem c_bplans11 (B:Bk) (hB:B.ok) (l:Nat) (us:Array Value) (Jq Jx:Jt) (hJ:Stab Jq) (hJx:Stab Jx) (xs:List SV) (hR:Rounds Try.prog l xs Jq Jx) (hus:us.size = 3) :
  ∀ (rest:List Stk) (now:List Int) (i:Nat),now.length + rest.length = B.ss.length->B.ss.drop now.length = rest->i + (plansB B.ap rest now).length<=xs.length->(∀ q,q < (plansB B.ap rest now).length->xs.getD (i + q) .any = ilS ((plansB B.ap rest now).getD q [])) ->
  @CalJ _ (bpG B l us Jq Jx xs.length hJ hJx) Try.prog 82 us [ilS now] (some i) (fun b => if b = true then some (i + (plansB B.ap rest now).length) else none):=by
 have hs6:=hB.s6
 have ha0:=hB.a0
 have ha3:=hB.a3
 intro rest
 induction rest with
 | nil =>
  intro now i hlen hdrop hi hx
  refine @CalJ.mk _ (bpG B l us Jq Jx xs.length hJ hJx) _ _ _ _ (bpCs B l us) _ _ Try.f82 _ _ _ rfl rfl rfl rfl rfl rfl hus (fun hc => hc.2.2.2.2.1) (fun Is ws => ?_)
  letI:=gsF (bpG B l us Jq Jx xs.length hJ hJx) Is ws
  dsimp only [args,List.cons_append,List.nil_append]
  (first | refine OkJ.first (fun _ => ?_) | refine OkJ.walk (fun _ => ?_))
  (first|refine qE ?_|refine qD ?_);(simp only [go_sem,↓dP,↓reduceIte];with_reducible and_intros;all_goals first|apply qA|exact qC|skip)
  (try dsimp only [thenJ,blockJ,noGotoJ,thenK,blockK,noGotoK])
  refine OkJ.scope ?_
  refine OkJ.seq ?_
  (first | refine OkJ.first (fun _ => ?_) | refine OkJ.walk (fun _ => ?_))
  (first|refine qE ?_|refine qD ?_);(simp only [go_sem,↓dP,↓reduceIte];with_reducible and_intros;all_goals first|apply qA|exact qC|skip)
  (try dsimp only [thenJ,blockJ,noGotoJ,thenK,blockK,noGotoK])
  refine OkJ.cond rfl (fun _ => ?_) (fun hb => by simp at hb;simp at hlen;omega)
  refine OkJ.seq ?_
  (refine OkJ.tail 2 ?h1 ?h2 ?h3 ?h4 ?_;(case h1 => rfl);(case h2 => rfl);(case h3 => rfl);(case h4 => rfl);intro I0 w0 hc;simp only [go_sem,↓dP,↓reduceIte];with_reducible and_intros;all_goals first|apply qA|exact qC|skip)
  (intro a w hst;simp only [go_sem,↓dP,↓reduceIte] at hst)
  have e1:plansB B.ap [] now = [now]:=rfl
  rw [e1] at hi hx ⊢
  refine tail_in rfl (hook_yield hc hst rfl rfl rfl rfl rfl (by decide) rfl rfl (fun b => if b = true then some (i + 1) else none) (round_itF hR (fun _ _ _ _ _ _ _ _ => trivial) (by have:i + 1<=xs.length:=hi;omega) (hx 0 Nat.zero_lt_one) Is ws) ?_)
  intro b I1 a1 w1 hc1 hs1
  (refine RX.hrest hs1 ?h1 ?h2 ?h3 ?_;(case h1 => rfl);(case h2 => rfl);(case h3 => rfl);simp only [go_sem,↓dP,↓reduceIte,bare];with_reducible and_intros;all_goals first|apply qA|exact qC|skip)
  intro a2 w2 hs2
  refine ⟨_,_,_,_,?_,hc1,hs2⟩
  (try dsimp only [thenJ,blockJ,noGotoJ,thenK,blockK,noGotoK])
  (refine OkJ.ret ?_;(try dsimp only [thenJ,blockJ,noGotoJ]))
  exact ⟨.inl rfl,b,rfl,rfl⟩
 | cons s rest ih =>
  intro now i hlen hdrop hi hx
  have hlt:now.length < B.ss.length:=by simp at hlen;omega
  have hn:B.ss.getD now.length default = s:=by
   have:=congrArg (fun l => l.head?) hdrop
   simp only [List.head?_drop,List.head?_cons] at this
   rw [List.getD_eq_getElem?_getD,this];rfl
  refine @CalJ.mk _ (bpG B l us Jq Jx xs.length hJ hJx) _ _ _ _ (bpCs B l us) _ _ Try.f82 _ _ _ rfl rfl rfl rfl rfl rfl hus (fun hc => hc.2.2.2.2.1) (fun Is ws => ?_)
  letI:=gsF (bpG B l us Jq Jx xs.length hJ hJx) Is ws
  dsimp only [args,List.cons_append,List.nil_append]
  (first | refine OkJ.first (fun _ => ?_) | refine OkJ.walk (fun _ => ?_))
  (first|refine qE ?_|refine qD ?_);(simp only [go_sem,↓dP,↓reduceIte];with_reducible and_intros;all_goals first|apply qA|exact qC|skip)
  (try dsimp only [thenJ,blockJ,noGotoJ,thenK,blockK,noGotoK])
  refine OkJ.scope ?_
  refine OkJ.seq ?_
  (first | refine OkJ.first (fun _ => ?_) | refine OkJ.walk (fun _ => ?_))
  (first|refine qE ?_|refine qD ?_);(simp only [go_sem,↓dP,↓reduceIte];with_reducible and_intros;all_goals first|apply qA|exact qC|skip)
  (try dsimp only [thenJ,blockJ,noGotoJ,thenK,blockK,noGotoK])
  refine OkJ.cond rfl (fun hb => by simp at hb;omega) (fun _ => ?_)
  (refine OkJ.skip ?_;(try dsimp only [thenJ,blockJ,noGotoJ]))
  refine OkJ.seq ?_
  refine OkJ.label ?_
  (try dsimp only [thenJ,blockJ,noGotoJ,thenK,blockK,noGotoK])
  refine OkJ.seq ?_
  (first | refine OkJ.first (fun _ => ?_) | refine OkJ.walk (fun _ => ?_))
  (first|refine qE ?_|refine qD ?_);(simp only [go_sem,↓dP,↓reduceIte];with_reducible and_intros;all_goals first|apply qA|exact qC|skip)
  (try dsimp only [thenJ,blockJ,noGotoJ,thenK,blockK,noGotoK])
  refine OkJ.block ?_
  obtain ⟨L,hL⟩:∃ L,L = handsB B.ap s:=⟨_,rfl⟩
  obtain ⟨F,hF⟩:∃ F:Int->List (List Int),F = fun h => plansB B.ap rest (now ++ [h]):=⟨_,rfl⟩
  have hplan:plansB B.ap (s :: rest) now = L.flatMap F:=by rw [hL,hF];rfl
  have hlen2:L.length = if s.rd then 1 else (B.ap + 1).toNat:=by rw [hL];exact hands_len _ _
  have hat:∀ x,x < L.length->L.getD x default = x:=fun x hx => by rw [hL] at hx ⊢;exact hands_at hx
  have hle1:(L.length:Int)<=B.ap + 1:=by rw [hlen2];split<;>omega
  rw [hplan] at hi hx ⊢
  refine OkJ.count L.length (fun x => { env:=[(0,ilS now),(1,.d B.ref),(2,.d (.ref 1 (dget [.raw (.func (.yield l) #[] #[])]))),(3,.d (.ref 1 (dget [.raw (.func (.func 82) #[] us)]))),(18,iS (B.ap + 1)),(19,iS x)],bx:=[],tk:=[] }) (fun x => some (i + ((L.take x).flatMap F).length)) ⟨?_,rfl⟩ (fun x hxL => ?_) ?_
  ·(refine Sub.of ([]) ([]) ?_ ?_ ?_ rfl rfl<;>simp only [subB,subB1,subT,subT1,newT,subE,subV,subL,go_sem,↓dP,↓reduceIte]<;>(try (repeat' with_reducible apply And.intro))<;>(try first | exact DEq.refl _ | refine DEq.int ?_ | refine DEq.bool ?_ | omega))
  ·have hx2:=hat x hxL
   have hx3:s.rd = true->x = 0:=fun q => by rw [hlen2,if_pos q] at hxL;omega
   (first | refine OkJ.first (fun _ => ?_) | refine OkJ.walk (fun _ => ?_))
   (first|refine qE ?_|refine qD ?_);(simp only [go_sem,↓dP,↓reduceIte];with_reducible and_intros;all_goals first|apply qA|exact qC|skip)
   (try dsimp only [thenJ,blockJ,noGotoJ,thenK,blockK,noGotoK])
   refine OkJ.seq ?_
   refine OkJ.cond rfl (fun _ => ?_) (fun hb => by simp at hb;omega)
   (refine OkJ.skip ?_;(try dsimp only [thenJ,blockJ,noGotoJ]))
   refine OkJ.seq ?_
   refine OkJ.block ?_
   refine OkJ.seq ?_
   (first | refine OkJ.first (fun _ => ?_) | refine OkJ.walk (fun _ => ?_))
   (first|refine qE ?_|refine qD ?_);(simp only [go_sem,↓dP,↓reduceIte];with_reducible and_intros;all_goals first|apply qA|exact qC|skip)
   (try dsimp only [thenJ,blockJ,noGotoJ,thenK,blockK,noGotoK])
   refine OkJ.seq ?_
   (first | refine OkJ.first (fun _ => ?_) | refine OkJ.walk (fun _ => ?_))
   (first|refine qE ?_|refine qD ?_);(simp only [go_sem,↓dP,↓reduceIte];with_reducible and_intros;all_goals first|apply qA|exact qC|skip)
   rw [hn]
   (try dsimp only [thenJ,blockJ,noGotoJ,thenK,blockK,noGotoK])
   refine OkJ.cond rfl (fun hb => ?_) (fun _ => ?_)
   ·exfalso
    simp at hb
    have:=hx3 hb.2
    omega
   (refine OkJ.skip ?_;(try dsimp only [thenJ,blockJ,noGotoJ]))
   refine OkJ.seq ?_
   (refine OkJ.tail 6 ?h1 ?h2 ?h3 ?h4 ?_;(case h1 => rfl);(case h2 => rfl);(case h3 => rfl);(case h4 => rfl);intro I0 w0 hc;simp only [go_sem,↓dP,↓reduceIte];with_reducible and_intros;all_goals first|apply qA|exact qC|skip)
   (refine AskI.own (CtrF.own (o_Clone_int now (by omega))) ?_;simp only [go_sem,↓dP,↓reduceIte];with_reducible and_intros;all_goals first|apply qA|exact qC|skip)
   (intro a w hst;simp only [go_sem,↓dP,↓reduceIte] at hst)
   have hst:=(hst.frz 1 rfl).only [(33,.d (.raw (.func (.func 82) #[] us))),(38,ilS (now ++ [(x:Int)])),(0,ilS now),(1,.d B.ref),(2,.d (.ref 1 (dget [.raw (.func (.yield l) #[] #[])]))),(3,.d (.ref 1 (dget [.raw (.func (.func 82) #[] us)]))),(18,iS (B.ap + 1)),(19,iS x)] (by
    simp only [subE,subV,subL,go_sem,↓dP,↓reduceIte]
    ((repeat' with_reducible apply And.intro)<;>(first | exact DEq.refl _ | refine DEq.int ?_ | refine DEq.bool ?_ | skip))
    refine DEq.sl (n':=(now ++ [(x:Int)]).length) (by rw [List.length_append];rfl) (snoc_D (f:=intD) (o:=now) (x:=(x:Int)) (k:=1) (ys:=[.int .i64 (x:Int)]) (fun c hc => ?_))
    have:c = 0:=by omega
    subst this;rfl)
   have hFx:F (L.getD x default) = plansB B.ap rest (now ++ [(x:Int)]):=by rw [hx2,hF]
   have hle:=flat_le L F hxL
   have hrec:=ih (now ++ [(x:Int)]) (i + ((L.take x).flatMap F).length) (by rw [List.length_append];simp at hlen ⊢;omega) (by rw [List.length_append,← List.drop_drop,hdrop];rfl) (by rw [← hFx];omega) (fun q hq => by
    rw [← hFx] at hq ⊢
    rw [Nat.add_assoc,hx _ (by omega),flat_at L F hxL hq])
   refine tail_in rfl (hook_rec (f:=33) (g:=82) (us:=us) (xs:=[38]) hc hst rfl rfl rfl rfl rfl (by decide) rfl rfl (CalJ.from (G:=bpG B l us Jq Jx xs.length hJ hJx) hrec) ?_)
   intro b I1 a1 w1 hc1 hst
   refine tail_val rfl (fun c e => by cases e) (run_not rfl (hst.bool (t:=39) rfl)) ?_
   have hst:=hst.putV (d:=40) (v:=.bool (!b)) (V:=bS (!b)) (by decide) (fun _ _ _ _ => .d .bool)
   refine tail_end ⟨_,_,_,_,?_,hc1,hst⟩
   (try dsimp only [thenJ,blockJ,noGotoJ,thenK,blockK,noGotoK])
   cases b with
   | true =>
    refine OkJ.cond (b:=false) rfl (fun hb => by cases hb) (fun _ => ?_)
    (refine OkJ.skip ?_;(try dsimp only [thenJ,blockJ,noGotoJ]))
    (first | refine OkJ.first (fun _ => ?_) | refine OkJ.walk (fun _ => ?_))
    (first|refine qE ?_|refine qD ?_);(simp only [go_sem,↓dP,↓reduceIte];with_reducible and_intros;all_goals first|apply qA|exact qC|skip)
    (try dsimp only [thenJ,blockJ,noGotoJ,thenK,blockK,noGotoK])
    refine ⟨?_,?_⟩
    ·(refine Sub.of ([]) ([]) ?_ ?_ ?_ rfl rfl<;>simp only [subB,subB1,subT,subT1,newT,subE,subV,subL,go_sem,↓dP,↓reduceIte]<;>(try (repeat' with_reducible apply And.intro))<;>(try first | exact DEq.refl _ | refine DEq.int ?_ | refine DEq.bool ?_ | omega))
    ·rw [flat_take L F hxL,hFx,if_pos rfl,Nat.add_assoc]
   | false =>
    refine OkJ.cond (b:=true) rfl (fun _ => ?_) (fun hb => by cases hb)
    (first | refine OkJ.first (fun _ => ?_) | refine OkJ.walk (fun _ => ?_))
    (first|refine qE ?_|refine qD ?_);(simp only [go_sem,↓dP,↓reduceIte];with_reducible and_intros;all_goals first|apply qA|exact qC|skip)
    (try dsimp only [thenJ,blockJ,noGotoJ,thenK,blockK,noGotoK])
    (refine OkJ.ret ?_;(try dsimp only [thenJ,blockJ,noGotoJ]))
    exact ⟨.inl rfl,false,rfl,rfl⟩
  ·by_cases hend:(L.length:Int) = B.ap + 1
   ·(first | refine OkJ.first (fun _ => ?_) | refine OkJ.walk (fun _ => ?_))
    (first|refine qE ?_|refine qD ?_);(simp only [go_sem,↓dP,↓reduceIte];with_reducible and_intros;all_goals first|apply qA|exact qC|skip)
    (try dsimp only [thenJ,blockJ,noGotoJ,thenK,blockK,noGotoK])
    refine OkJ.seq ?_
    refine OkJ.cond rfl (fun hb => by simp at hb;omega) (fun _ => ?_)
    (refine OkJ.exit ?_;(try simp only [thenJ,blockJ,noGotoJ,↓reduceIte,Nat.reduceEqDiff]))
    (first | refine OkJ.first (fun _ => ?_) | refine OkJ.walk (fun _ => ?_))
    (first|refine qE ?_|refine qD ?_);(simp only [go_sem,↓dP,↓reduceIte];with_reducible and_intros;all_goals first|apply qA|exact qC|skip)
    (try dsimp only [thenJ,blockJ,noGotoJ,thenK,blockK,noGotoK])
    (refine OkJ.ret ?_;(try dsimp only [thenJ,blockJ,noGotoJ]))
    rw [List.take_length]
    exact ⟨.inl rfl,true,rfl,rfl⟩
   ·have hrd:s.rd = true:=by
     cases hq:s.rd with
     | true => rfl
     | false => rw [hq] at hlen2;simp at hlen2;omega
    have hL1:L.length = 1:=by rw [hlen2,if_pos hrd]
    (first | refine OkJ.first (fun _ => ?_) | refine OkJ.walk (fun _ => ?_))
    (first|refine qE ?_|refine qD ?_);(simp only [go_sem,↓dP,↓reduceIte];with_reducible and_intros;all_goals first|apply qA|exact qC|skip)
    (try dsimp only [thenJ,blockJ,noGotoJ,thenK,blockK,noGotoK])
    refine OkJ.seq ?_
    refine OkJ.cond rfl (fun _ => ?_) (fun hb => by simp at hb;omega)
    (refine OkJ.skip ?_;(try dsimp only [thenJ,blockJ,noGotoJ]))
    refine OkJ.seq ?_
    refine OkJ.block ?_
    refine OkJ.seq ?_
    (first | refine OkJ.first (fun _ => ?_) | refine OkJ.walk (fun _ => ?_))
    (first|refine qE ?_|refine qD ?_);(simp only [go_sem,↓dP,↓reduceIte];with_reducible and_intros;all_goals first|apply qA|exact qC|skip)
    (try dsimp only [thenJ,blockJ,noGotoJ,thenK,blockK,noGotoK])
    refine OkJ.seq ?_
    (first | refine OkJ.first (fun _ => ?_) | refine OkJ.walk (fun _ => ?_))
    (first|refine qE ?_|refine qD ?_);(simp only [go_sem,↓dP,↓reduceIte];with_reducible and_intros;all_goals first|apply qA|exact qC|skip)
    rw [hn,hrd]
    (try dsimp only [thenJ,blockJ,noGotoJ,thenK,blockK,noGotoK])
    refine OkJ.cond rfl (fun hb => ?_) (fun hb => by rw [hL1] at hb;simp at hb)
    (refine OkJ.exit ?_;(try simp only [thenJ,blockJ,noGotoJ,↓reduceIte,Nat.reduceEqDiff]))
    (first | refine OkJ.first (fun _ => ?_) | refine OkJ.walk (fun _ => ?_))
    (first|refine qE ?_|refine qD ?_);(simp only [go_sem,↓dP,↓reduceIte];with_reducible and_intros;all_goals first|apply qA|exact qC|skip)
    (try dsimp only [thenJ,blockJ,noGotoJ,thenK,blockK,noGotoK])
    (refine OkJ.ret ?_;(try dsimp only [thenJ,blockJ,noGotoJ]))
    rw [List.take_length]
    exact ⟨.inl rfl,true,rfl,rfl⟩
theorem it_bplans1 (B:Bk) (hB:B.ok):It Try.prog 81 [.d B.ref] ((plansB B.ap B.ss []).map ilS):=by
 refine ⟨⟨Try.f81,rfl,rfl,rfl⟩,fun I w vs l Jq Jx _ hI _ hl hA hJ hJx hR h0 => ?_⟩
 refine calls_of_wp (fn:=Try.f81) rfl rfl ?_
 have hst:=St.start (N:=Try.f81.ntmps) (A:=[.d (.raw (.func (.yield l) #[] #[])),.d B.ref]) (I:=I) (w:=w) (vs:=#[.func (.yield l) #[] #[]] ++ vs) trivial hI (fun b _ e => by cases e) (by simp [hl]) (Nat.le_of_ble_eq_true rfl) (by
  intro i u s hu hs
  cases i with
  | zero =>
   rw [Array.getElem?_append_left (by simp)] at hu
   simp at hu hs;subst hu;subst hs;exact fun Y => .d (.raw rfl)
  | succ i =>
   refine hA i u s ?_ (by simpa using hs)
   rw [Array.getElem?_append_right (by simp)] at hu
   simpa using hu)
 have hc0:(itG (fun _ => False) Jq Jx ((plansB B.ap B.ss []).map ilS).length #[] [] (fun _ e => by cases e) hJ hJx).Cx (some 0) I w:=⟨hI,fun _ _ h => h,fun _ h => h.elim,trivial,fun i u s hu => by simp at hu,h0⟩
 refine (wpIn_wide (n:=0)).1 ?_
 letI:Bas:=⟨I,w⟩
 dsimp only [RX.start,args] at hst
 refine Ok.first hst ?_
 (first|refine qE ?_|refine qD ?_);(simp only [go_sem,↓dP,↓reduceIte];with_reducible and_intros;all_goals first|apply qA|exact qC|skip)
 intro a w1 hst
 refine Ok.first hst ?_
 (first|refine qE ?_|refine qD ?_);(simp only [go_sem,↓dP,↓reduceIte];with_reducible and_intros;all_goals first|apply qA|exact qC|skip)
 intro a w1 hst
 refine wpIn_seq ?_
 (refine hT 0 ?h1 ?h2 ?h3 ?h4 hst ?_;(case h1 => rfl);(case h2 => rfl);(case h3 => rfl);(case h4 => rfl);simp only [go_sem,↓dP,↓reduceIte];with_reducible and_intros;all_goals first|apply qA|exact qC|skip)
 intro Y a w1 hinv
 have hst:=St.of hinv rfl
 obtain ⟨us,hus⟩:∃ us:Array Value,us = #[a.tmps.getD 1 undef,a.tmps.getD 2 undef,a.tmps.getD 3 undef]:=⟨_,rfl⟩
 refine tail_val (v:=.func (.func 82) #[] us) rfl (fun c e => by cases e) (run_mkf rfl (by rw [hus];simp [Act.eval])) ?_
 have hst:=hst.putV (d:=4) (v:=.func (.func 82) #[] us) (V:=.d (.raw (.func (.func 82) #[] us))) (by decide) (fun _ _ _ _ => .d (.raw rfl))
 have hv:∀ t,t ≠ 4->(a.put (some 4) (.func (.func 82) #[] us)).tmps.getD t undef = a.tmps.getD t undef:=fun t ht => by
  show (a.tmps.setIfInBounds 4 _).getD t undef = _
  rw [Array.getD_eq_getD_getElem?,Array.getD_eq_getD_getElem?,Array.getElem?_setIfInBounds_ne (by omega)]
 obtain ⟨w2,hrun,hst⟩:=hst.store1 (P:=Try.prog) (o:={ dst:=none,op:=Op.store 85 (Operand.tmp 3) (Operand.tmp 4),type:=0,pos:= "",after:=#[],guard:=none }) (tx:=3) (ty:=4) (b:=1) (v:=.func (.func 82) #[] us) rfl rfl rfl rfl rfl rfl rfl (hst.raw (t:=4) rfl) rfl
 refine tail_skp rfl (fun c e => by cases e) hrun (tail_end ?_)
 have hst:=((hst.sub (Sub.frzB (b:=0) rfl rfl)).sub (Sub.frzB (b:=1) rfl rfl)).sub ((Sub.refB (b:=0) rfl rfl rfl).trans (Sub.refB (b:=1) rfl rfl rfl))
 have hst:=hst.only [(1,.d B.ref),(2,.d (.ref 1 (dget [.raw (.func (.yield l) #[] #[])]))),(3,.d (.ref 1 (dget [.raw (.func (.func 82) #[] us)])))] (by
  simp only [refE,refV,subE,subV,subL,go_sem,↓dP,↓reduceIte]
  ((repeat' with_reducible apply And.intro)<;>(first | exact DEq.refl _ | refine DEq.int ?_ | refine DEq.bool ?_ | skip)))
 obtain ⟨I1,hst,hc1,_,_⟩:=@St.anew _ (itG (fun _ => False) Jq Jx ((plansB B.ap B.ss []).map ilS).length #[] [] (fun _ e => by cases e) hJ hJx) _ _ _ _ _ _ _ hc0 hst rfl rfl rfl
 have hr:=hst.reps rfl rfl rfl
 have hv2:∀ t,t ≠ 4->((a.put (some 4) (.func (.func 82) #[] us)).put none undef).tmps.getD t undef = a.tmps.getD t undef:=hv
 have hc2:(bpG B l us Jq Jx ((plansB B.ap B.ss []).map ilS).length hJ hJx).Cx (some 0) I1 w2:=by
  obtain ⟨q1,q2,q3,q4,_,q6⟩:=hc1
  refine ⟨q1,q2,q3,q4,fun i u s hu hs => ?_,q6⟩
  have e1:=hr 1;have e2:=hr 2;have e3:=hr 3
  rw [hv2 _ (by decide)] at e1 e2 e3
  rw [hus] at hu
  rcases i with _ | _ | _ | i
  ·cases hu;cases hs;exact e1
  ·cases hu;cases hs;exact e2
  ·cases hu;cases hs;exact e3
  ·simp at hu
 letI:=bpG B l us Jq Jx ((plansB B.ap B.ss []).map ilS).length hJ hJx
 show Code.wpIn _ _ _ _ _ _ _
 (refine hT 1 ?h1 ?h2 ?h3 ?h4 hst ?_;(case h1 => rfl);(case h2 => rfl);(case h3 => rfl);(case h4 => rfl);simp only [go_sem,↓dP,↓reduceIte];with_reducible and_intros;all_goals first|apply qA|exact qC|skip)
 intro Y a3 w3 hinv
 have hst:=St.of hinv rfl
 have hrec:=c_bplans11 B hB l us Jq Jx hJ hJx _ hR (by rw [hus];rfl) B.ss [] 0 (by simp) rfl (by simp) (fun q hq => by
  rw [Nat.zero_add,List.getD_eq_getElem?_getD,List.getElem?_map,List.getElem?_eq_getElem hq,List.getD_eq_getElem?_getD,List.getElem?_eq_getElem hq];rfl)
 refine tail_in rfl (hook_recG hc2 hst rfl rfl rfl rfl rfl (by decide) rfl rfl ?_ hrec ?_)
 ·intro I2 _ i u s hu hs
  cases i with
  | zero => simp [Act.eval] at hu hs;subst hu;subst hs;exact fun Y => .d .sl0
  | succ i => simp at hs
 ·intro b I2 a4 w4 hc4 hst
  refine tail_end ?_
  obtain ⟨I5,_,hc5,hd,_⟩:=hst.anew hc4 rfl rfl rfl
  have hJ2:∃ I' V',Jq ((plansB B.ap B.ss []).map ilS).length I' V' w4∨∃ i,i < ((plansB B.ap B.ss []).map ilS).length/\Jx i I' V' w4:=by
   obtain ⟨_,_,_,_,_,q6⟩:=hc5
   cases b with
   | true =>
    rw [if_pos rfl,Nat.zero_add] at q6
    exact ⟨I5,_,.inl (by rw [List.length_map];exact q6)⟩
   | false =>
    exact ⟨I5,_,.inr q6⟩
  obtain ⟨v,hv⟩:=results_nothing (P:=Try.prog) (fn:=Try.f81) rfl a4.tmps w4
  exact ⟨hd,v,hv,⟨v,rfl⟩,hJ2⟩
abbrev bplD (B:Bk):DV:=.clo 81 1 (dget [B.ref])
theorem c_bplans (B:Bk):Ctr Try.prog 63 [B.sv] (.d (bplD B)):=by
 (refine Ctr.mk (fn:=Try.f63) rfl rfl rfl rfl rfl Try.results63 ?_;intro _;dsimp only [args,List.toList_toArray])
 (first|refine qE ?_|refine qD ?_);(simp only [go_sem,↓dP,↓reduceIte];with_reducible and_intros;all_goals first|apply qA|exact qC|skip)
 refine Ok.sub (Sub.frzB (b:=0) rfl rfl) ?_
 (first|refine qE ?_|refine qD ?_);(simp only [go_sem,↓dP,↓reduceIte];with_reducible and_intros;all_goals first|apply qA|exact qC|skip)
 (refine Ok.ret ?_;(try dsimp only [thenK,blockK,noGotoK]);simp only [toList_mk,List.toList_toArray,retK_ret,retK_normal,resOK,resV,celV,rowV,frzAll,frzT,subV,subL,go_sem,↓dP,↓reduceIte])
 exact .refl _
end
end Go.Proofs.Leaf
namespace Go.Proofs.Leaf
open Go Go.RX Go.Proofs
set_option maxRecDepth 10000
variable [Glob]
abbrev tmS (x:List Int×Nat):SV:=.agg [ilS x.1,iS x.2]
abbrev tmD (x:List Int×Nat):Nat->DV:=cutD (x.1,(x.2:Int))
abbrev soonD:DV:=.clo 66 0 (fun _ => .nilI)
theorem c_sooner (x y:List Int×Nat):Ctr Try.prog 66 [tmS x,tmS y] (bS (decide (x.2 < y.2))):=by
 (refine Ctr.mk (fn:=Try.f66) rfl rfl rfl rfl rfl Try.results66 ?_;intro _;dsimp only [args,List.toList_toArray])
 (first|refine qE ?_|refine qD ?_);(simp only [go_sem,↓dP,↓reduceIte];with_reducible and_intros;all_goals first|apply qA|exact qC|skip)
 (first|refine qE ?_|refine qD ?_);(simp only [go_sem,↓dP,↓reduceIte];with_reducible and_intros;all_goals first|apply qA|exact qC|skip)
 (refine Ok.ret ?_;(try dsimp only [thenK,blockK,noGotoK]);simp only [toList_mk,List.toList_toArray,retK_ret,retK_normal,resOK,resV,celV,rowV,frzAll,frzT,subV,subL,go_sem,↓dP,↓reduceIte])
 refine DEq.bool ?_
 rw [decide_eq_decide]
 omega
abbrev bstT (L:List (List Int×Nat)):List (List Int×Nat):=bestF (fun x => x.2) L
theorem bstT_succ {L:List (List Int×Nat)} {i:Nat} (hi:i < L.length):bstT (L.take (i + 1)) = stepB (fun x => x.2) (bstT (L.take i)) (L.getD i default):=by
 unfold bstT bestF
 rw [getD_take hi,List.foldl_append];rfl
theorem c_bbest (L:List (List Int×Nat)) (hL:L.length<=100000):Ctr Try.prog 65 [.d (slD 2 tmD L),.d soonD] (.d (slD 2 tmD (bstT L))):=by
 (refine Ctr.mk (fn:=Try.f65) rfl rfl rfl rfl rfl Try.results65 ?_;intro _;dsimp only [args,List.toList_toArray])
 (first|refine qE ?_|refine qD ?_);(simp only [go_sem,↓dP,↓reduceIte];with_reducible and_intros;all_goals first|apply qA|exact qC|skip)
 (first|refine qE ?_|refine qD ?_);(simp only [go_sem,↓dP,↓reduceIte];with_reducible and_intros;all_goals first|apply qA|exact qC|skip)
 refine Ok.seq ?_
 (first|refine qE ?_|refine qD ?_);(simp only [go_sem,↓dP,↓reduceIte];with_reducible and_intros;all_goals first|apply qA|exact qC|skip)
 refine Ok.block ?_
 refine Ok.count L.length (fun i => ⟨[(1,.d soonD),(5,.tk 0),(8,.d (slD 2 tmD L)),(9,iS L.length),(10,iS i)],[],[ownD 91 2 tmD (bstT (L.take i))]⟩) (fun _ => True) ⟨trivial,?_⟩ ?_ ?_
 ·(refine Sub.of ([]) ([none]) ?_ ?_ ?_ rfl rfl<;>simp only [subB,subB1,subT,subT1,newT,subE,subV,subL,go_sem,↓dP,↓reduceIte]<;>(try (repeat' with_reducible apply And.intro))<;>(try first | exact DEq.refl _ | refine DEq.int ?_ | refine DEq.bool ?_ | omega))
  rfl
 ·intro i hi _
  have hsucc:=bstT_succ hi
  have hlen:(bstT (L.take i)).length<=100000:=by
   have h1:(bstT (L.take i)).length<=(L.take i).length:=by
    unfold bstT;rw [bestF_eq];exact List.length_filter_le _ _
   rw [List.length_take] at h1;omega
  obtain ⟨x,hx⟩:∃ x,L.getD i default = x:=⟨_,rfl⟩
  obtain ⟨out,hout⟩:∃ out,bstT (L.take i) = out:=⟨_,rfl⟩
  rw [hout] at hlen hsucc ⊢
  rw [hx] at hsucc
  ((first|refine qE ?_|refine qD ?_);(simp only [go_sem,↓dP,↓reduceIte];with_reducible and_intros;all_goals first|apply qA|exact qC|skip));refine Ok.seq ?_;refine Ok.cond rfl (fun _ => ?_) (fun hb => by simp at hb;omega);(refine Ok.skip ?_;(try dsimp only [thenK,blockK,noGotoK]));refine Ok.seq ?_;refine Ok.block ?_
  (first|refine qE ?_|refine qD ?_);(simp only [go_sem,↓dP,↓reduceIte];with_reducible and_intros;all_goals first|apply qA|exact qC|skip)
  rw [hx]
  refine Ok.join ⟨[(1,.d soonD),(5,.tk 0),(7,.p 0 0),(8,.d (slD 2 tmD L)),(9,iS L.length),(10,iS i)],[{ frz:=false,xs:=[ilS x.1,iS x.2] }],[ownD 91 2 tmD (if (decide (0 < out.length) && decide (x.2 < (out.getD 0 default).2)) = true then [] else out)]⟩ ?_ ?_
  ·(first|refine qE ?_|refine qD ?_);(simp only [go_sem,↓dP,↓reduceIte];with_reducible and_intros;all_goals first|apply qA|exact qC|skip)
   all_goals try (intro h;simpa using h)
   (refine AskGI.ret (fun _ => c_sooner x (out.getD 0 default)) ?_;simp only [go_sem,↓dP,↓reduceIte];with_reducible and_intros;all_goals first|apply qA|exact qC|skip)
   refine Ok.cond rfl ?_ ?_
   ·intro hb
    (first|refine qE ?_|refine qD ?_);(simp only [go_sem,↓dP,↓reduceIte];with_reducible and_intros;all_goals first|apply qA|exact qC|skip)
    (try dsimp only [thenK,blockK,noGotoK])
    (refine Sub.of ([0]) ([none]) ?_ ?_ ?_ rfl rfl<;>simp only [subB,subB1,subT,subT1,newT,subE,subV,subL,go_sem,↓dP,↓reduceIte]<;>(try (repeat' with_reducible apply And.intro))<;>(try first | exact DEq.refl _ | refine DEq.int ?_ | refine DEq.bool ?_ | omega))
    rw [if_pos (by simpa using hb)];rfl
   ·intro hb
    have hne:¬ (decide (0 < out.length) && decide (x.2 < (out.getD 0 default).2)) = true:=by
     intro q;rw [← Bool.not_eq_true] at hb;exact hb (by simpa using q)
    (refine Ok.skip ?_;(try dsimp only [thenK,blockK,noGotoK]))
    (try dsimp only [thenK,blockK,noGotoK])
    rw [if_neg hne]
    (refine Sub.of ([0]) ([some 0]) ?_ ?_ ?_ rfl rfl<;>simp only [subB,subB1,subT,subT1,newT,subE,subV,subL,go_sem,↓dP,↓reduceIte]<;>(try (repeat' with_reducible apply And.intro))<;>(try first | exact DEq.refl _ | refine DEq.int ?_ | refine DEq.bool ?_ | omega))
    exact fun _ _ _ _ => .refl _
  obtain ⟨out',hout',hlen',hstep⟩:∃ out',(if (decide (0 < out.length) && decide (x.2 < (out.getD 0 default).2)) = true then [] else out) = out'/\out'.length<=100000/\stepB (fun x => x.2) out x = (match out' with | [] => [x] | y :: r => if y.2 < x.2 then y :: r else y :: r ++ [x]):=by
   refine ⟨_,rfl,?_,?_⟩
   ·split
    ·simp
    ·exact hlen
   ·cases out with
    | nil => rfl
    | cons y r =>
     by_cases h2:x.2 < y.2
     ·rw [if_pos (by simp;exact h2)]
      simp only [stepB,if_pos h2]
     ·rw [if_neg (by simp;omega)]
      simp only [stepB,if_neg h2]
  rw [hout']
  have hs2:=hsucc.trans hstep
  refine Ok.seq ?_
  (first|refine qE ?_|refine qD ?_);(simp only [go_sem,↓dP,↓reduceIte];with_reducible and_intros;all_goals first|apply qA|exact qC|skip)
  all_goals try (intro h;have:out'.length ≠ 0:=fun e => by rw [e] at h;simp at h)
  all_goals try omega
  (refine AskGI.ret (fun _ => c_sooner (out'.getD 0 default) x) ?_;simp only [go_sem,↓dP,↓reduceIte];with_reducible and_intros;all_goals first|apply qA|exact qC|skip)
  refine Ok.cond rfl ?_ ?_
  ·intro hb
   have e:bstT (L.take (i + 1)) = out' ++ [x]:=by
    rw [hs2]
    cases out' with
    | nil => rfl
    | cons y r =>
     have h2:¬ y.2 < x.2:=by simp at hb;omega
     simp only [if_neg h2]
   (first|refine qE ?_|refine qD ?_);(simp only [go_sem,↓dP,↓reduceIte];with_reducible and_intros;all_goals first|apply qA|exact qC|skip)
   (try dsimp only [thenK,blockK,noGotoK])
   (first|refine qE ?_|refine qD ?_);(simp only [go_sem,↓dP,↓reduceIte];with_reducible and_intros;all_goals first|apply qA|exact qC|skip)
   (try dsimp only [thenK,blockK,noGotoK])
   refine ⟨trivial,?_⟩
   (refine Sub.of ([]) ([some 1]) ?_ ?_ ?_ rfl rfl<;>simp only [subB,subB1,subT,subT1,newT,subE,subV,subL,go_sem,↓dP,↓reduceIte]<;>(try (repeat' with_reducible apply And.intro))<;>(try first | exact DEq.refl _ | refine DEq.int ?_ | refine DEq.bool ?_ | omega))
   ·rw [e];simp
   ·rw [e]
    exact snoc_D (fun c hc => by
     match c,hc with
     | 0,_ => exact .refl _
     | 1,_ => exact .refl _)
  ·intro hb
   have e:bstT (L.take (i + 1)) = out':=by
    rw [hs2]
    cases out' with
    | nil => simp at hb
    | cons y r =>
     have h2:y.2 < x.2:=by simp at hb;omega
     simp only [if_pos h2]
   (refine Ok.skip ?_;(try dsimp only [thenK,blockK,noGotoK]))
   (try dsimp only [thenK,blockK,noGotoK])
   (first|refine qE ?_|refine qD ?_);(simp only [go_sem,↓dP,↓reduceIte];with_reducible and_intros;all_goals first|apply qA|exact qC|skip)
   (try dsimp only [thenK,blockK,noGotoK])
   refine ⟨trivial,?_⟩
   rw [e]
   (refine Sub.of ([]) ([some 0]) ?_ ?_ ?_ rfl rfl<;>simp only [subB,subB1,subT,subT1,newT,subE,subV,subL,go_sem,↓dP,↓reduceIte]<;>(try (repeat' with_reducible apply And.intro))<;>(try first | exact DEq.refl _ | refine DEq.int ?_ | refine DEq.bool ?_ | omega))
   exact fun _ _ _ _ => .refl _
 ·intro _
  ((first|refine qE ?_|refine qD ?_);(simp only [go_sem,↓dP,↓reduceIte];with_reducible and_intros;all_goals first|apply qA|exact qC|skip));refine Ok.seq ?_;refine Ok.cond rfl (fun hb => by simp at hb) (fun _ => ?_);(refine Ok.exit ?_;simp only [thenK_exit,blockK_exit,noGotoK_exit,thenK_normal,blockK_normal,noGotoK_normal,↓reduceIte,Nat.reduceEqDiff])
  (first|refine qE ?_|refine qD ?_);(simp only [go_sem,↓dP,↓reduceIte];with_reducible and_intros;all_goals first|apply qA|exact qC|skip)
  (refine Ok.ret ?_;(try dsimp only [thenK,blockK,noGotoK]);simp only [toList_mk,List.toList_toArray,retK_ret,retK_normal,resOK,resV,celV,rowV,frzAll,frzT,subV,subL,go_sem,↓dP,↓reduceIte])
  rw [List.take_length]
  exact .refl _
end Go.Proofs.Leaf
namespace Go.Proofs.Leaf
open Go Go.RX Go.Proofs
set_option maxRecDepth 10000
section
variable [Glob]
abbrev keptL (q:Int->Bool) (l:List Int):List Int:=l.filter (fun x => !q x)
structure DelX (q:Int->Bool) (l:List Int) where
 j:Nat
 cur:List Int
 jl:j<=l.length
 len:cur.length = l.length
 kept:cur.take (keptL q (l.take j)).length = keptL q (l.take j)
 old:∀ t,j<=t->cur.getD t default = l.getD t default
theorem kept_le (q:Int->Bool) (l:List Int) (j:Nat):(keptL q (l.take j)).length<=j:=Nat.le_trans (List.length_filter_le _ _) (by rw [List.length_take];omega)
theorem kept_succ {q:Int->Bool} {l:List Int} {j:Nat} (h:j < l.length):keptL q (l.take (j + 1)) = keptL q (l.take j) ++ (if q (l.getD j default) = true then [] else [l.getD j default]):=by
 unfold keptL
 rw [getD_take h,List.filter_append]
 congr 1
 cases hq:q (l.getD j default)<;>simp only [List.filter_cons,List.filter_nil,hq]<;>rfl
theorem take_setL {cur:List Int} {i:Nat} (h:i < cur.length) (x:Int):(cur.set i x).take (i + 1) = cur.take i ++ [x]:=by
 rw [List.take_succ_eq_append_getElem (by simpa using h),List.take_set_of_le (Nat.le_refl _)]
 simp
def DelX.skip {q:Int->Bool} {l:List Int} (p:DelX q l) (h:p.j < l.length) (hq:q (l.getD p.j default) = true):DelX q l :=
 ⟨p.j + 1,p.cur,h,p.len,by rw [kept_succ h,if_pos hq,List.append_nil];exact p.kept,fun t ht => p.old t (by omega)⟩
def DelX.keep {q:Int->Bool} {l:List Int} (p:DelX q l) (h:p.j < l.length) (hq:q (l.getD p.j default) = false):DelX q l :=
 ⟨p.j + 1,p.cur.set (keptL q (l.take p.j)).length (l.getD p.j default),h,by rw [List.length_set];exact p.len,by
  rw [kept_succ h,hq,if_neg (by simp),List.length_append]
  show (p.cur.set _ _).take ((keptL q (l.take p.j)).length + 1) = _
  rw [take_setL (by rw [p.len];have:=kept_le q l p.j;omega),p.kept],fun t ht => by
  have:=kept_le q l p.j
  rw [List.getD_eq_getElem?_getD,List.getElem?_set_ne (by omega),← List.getD_eq_getElem?_getD]
  exact p.old t (by omega)⟩
theorem run_move {P:Program} {ρ:Operand->Value} {o:Oper} {x:Operand} {v:Value} {w:World} (ho:o.op = .move x∨o.op = .assign x) (hx:ρ x = v):(execOp ρ o).run P w = .ok (.value v) w:=by
 rcases ho with ho | ho<;>simp [execOp,ho,hx]
end
end Go.Proofs.Leaf
namespace Go.Proofs.Leaf
open Go Go.RX Go.Proofs Go.RowKit
set_option maxRecDepth 10000
section
end
section
variable [Glob]
end
section
theorem map2 {α β:Type} (f:α->β) (x y:α):#[x,y].map f = #[f x,f y]:=by simp
end
end Go.Proofs.Leaf
namespace Go.Proofs.Leaf
open Go Go.RX Go.Proofs Go.RowKit
set_option maxRecDepth 10000
section
structure Bef (Ib:Nat->Prop) (wb:World) (I V:Nat->Prop) (W:World):Prop where
 keep:Keep wb.heap.size wb W
 i0:∀ c,I c->Ib c∨wb.heap.size<=c
 vn:∀ c,V c->wb.heap.size<=c
theorem Bef.ext {Ib wb I I' V V' W W'} (h:Bef Ib wb I V W) (he:Ext I I' V V' W W'):Bef Ib wb I' V' W':=by
 have hs:=h.keep.size
 refine ⟨h.keep.ext he hs (fun c hc hv => by have:=h.vn c hv;omega) (fun _ => trivial),fun c hc => ?_,fun c hc => ?_⟩
 ·rcases he.i2 c hc with q | q
  ·exact h.i0 c q
  ·omega
 ·rcases he.v2 c hc with q | q
  ·exact h.vn c q
  ·omega
def lvJ (Ib:Nat->Prop) (wb:World) (b T:Nat) (q:List Nat->Bool) (XS:List (List Nat)):Jt:=fun i I V W => ¬ I b/\¬ V b/\(∀ k,k < i->q (XS.getD k []) = false)/\Bef Ib wb I V W/\∃ v,W.heap[b]? = some (.cells #[v] T (0,0))/\v.oneCell' = true
def lvX (Ib:Nat->Prop) (wb:World) (b T:Nat) (q:List Nat->Bool) (XS:List (List Nat)):Jt:=fun i I V W => ¬ I b/\¬ V b/\(∀ k,k < i->q (XS.getD k []) = false)/\q (XS.getD i []) = true/\(∀ b,I b->b < W.heap.size)/\(∀ b,I b->¬ V b)/\Bef Ib wb I V W /\
 ∃ v,W.heap[b]? = some (.cells #[v] T (0,0))/\v.oneCell' = true/\RepS I W v (ilS (asI (XS.getD i [])))
theorem lvJ_stab {Ib wb b T q XS}:Stab (lvJ Ib wb b T q XS):=by
 rintro i I I' V V' W W' ⟨h1,h2,h3,hB,v,h4,h5⟩ he
 have hlt:=(Array.getElem?_eq_some_iff.1 h4).1
 refine ⟨fun hc => ?_,fun hc => ?_,h3,hB.ext he,v,(he.same b hlt h2).trans h4,h5⟩
 ·rcases he.i2 b hc with q | q
  ·exact h1 q
  ·omega
 ·rcases he.v2 b hc with q | q
  ·exact h2 q
  ·omega
theorem lvX_stab {Ib wb b T q XS}:Stab (lvX Ib wb b T q XS):=by
 rintro i I I' V V' W W' ⟨h1,h2,h3,h4,h5,h6,hB,v,h7,h8,h9⟩ he
 have hlt:=(Array.getElem?_eq_some_iff.1 h7).1
 have hsz:=he.size
 refine ⟨fun hc => ?_,fun hc => ?_,h3,h4,fun c hc => ?_,he.dis,hB.ext he,v,(he.same b hlt h2).trans h7,h8,h9.ext he h5 h6⟩
 ·rcases he.i2 b hc with q | q
  ·exact h1 q
  ·omega
 ·rcases he.v2 b hc with q | q
  ·exact h2 q
  ·omega
 ·rcases he.i2 c hc with q | q
  ·have:=h5 c q;omega
  ·omega
abbrev lvG (Ib:Nat->Prop) (wb:World) (b T:Nat) (q:List Nat->Bool) (XS:List (List Nat)):Gst:=itG (fun _ => False) (lvJ Ib wb b T q XS) (lvX Ib wb b T q XS) XS.length #[] [] (fun _ e => by cases e) lvJ_stab lvX_stab
end
end Go.Proofs.Leaf
namespace Go.Proofs.Leaf
open Go Go.RX Go.Proofs Go.RowKit
set_option maxRecDepth 10000
section
abbrev outP (b:Nat):Value:=.pointer (some ⟨b,0,none⟩)
end
end Go.Proofs.Leaf
namespace Go.Proofs.Leaf
open Go Go.RX Go.Proofs Go.RowKit
set_option maxRecDepth 10000
section
abbrev lisCs (J:Job) (many:Nat) (gd:FuncId) (ud us:Array Value):List SV :=
 [.d (.ref 1 (dget [iD many])),.d (.ref 1 (dget [.raw (.func (.func gd) #[] ud)])),.d J.ref,.d (.ref 1 (dget [.raw (.func (.func 56) #[] us)]))]
abbrev lisG (Ib:Nat->Prop) (wb:World) (J:Job) (b T:Nat) (q:List Nat->Bool) (XS:List (List Nat)) (ud:Array Value) (cd:List SV) (many:Nat) (gd:FuncId) (us:Array Value):Gst:=gsU (gsU (lvG Ib wb b T q XS) ud cd) us (lisCs J many gd ud us)
theorem asI_snoc (l:List Nat) (x:Nat):asI (l ++ [x]) = asI l ++ [(x:Int)]:=by simp [asI]
end
end Go.Proofs.Leaf
namespace Go.Proofs.Leaf
open Go Go.RX Go.Proofs Go.RowKit
set_option maxRecDepth 10000
section
theorem range_at {n x:Nat} (h:x < (List.range n).length):(List.range n).getD x default = x:=by
 rw [List.getD_eq_getElem?_getD,List.getElem?_eq_getElem h];simp
end
end Go.Proofs.Leaf
namespace Go.Proofs.Leaf
open Go Go.RX Go.Proofs Go.RowKit
set_option maxRecDepth 10000
variable [Glob]
abbrev knD (J:Job) (m:Nat):List DV:=[iD J.wide,iD J.high,iD J.book,iD J.spoilt,slD 4 groD J.gs,slD 4 pieD J.ps,.raw (.map (some m))]
abbrev ctCs (J:Job) (m l:Nat) (us:Array Value):List SV :=
 [.d J.ref,.d (.ref 1 (dget [.raw (.func (.yield l) #[] #[])])),.d (.ref 7 (dget (knD J m))),.d (.ref 1 (dget [.raw (.func (.func 98) #[] us)]))]
abbrev ctS (x:List Nat×Nat):SV:=.agg [ilS (asI x.1),iS x.2]
abbrev ctG (J:Job) (m l:Nat) (us:Array Value) (Jq Jx:Jt) (n:Nat) (hM:∀ b,Glob.M = some b->b = m) (hJq:Stab Jq) (hJx:Stab Jx):Gst:=gsU (itG (fun b => b = m) Jq Jx n #[] [] hM hJq hJx) us (ctCs J m l us)
theorem c_cuttings11 (J : Job) (m : Nat) (hK : IsMemo J.ps m) (hM : ∀ b, Glob.M = some b → b = m)
    (hG : ∀ w w' : World, Glob.G w → w.heap.size ≤ w'.heap.size → w'.os = w.os → w'.tape = w.tape → w'.output = w.output → (∀ b, b = m → w'.heap[b]? = w.heap[b]?) → Glob.G w')
    (hJ : J.sized) (l : Nat) (us : Array Value) (hus : us.size = 4) (Jq Jx : Jt) (hJq : Stab Jq) (hJx : Stab Jx) (ys : List (List Nat × Nat)) (hR : @Rounds g0 Try.prog l (ys.map ctS) Jq Jx) :
    ∀ (k : Nat) (now sets : List Nat) (i : Nat), now.length + k = J.ps.length → sets.length ≤ now.length → (∀ x ∈ sets, x < 2 ^ now.length) → i + (putK J.fit k now sets).length ≤ ys.length → (∀ p, p < (putK J.fit k now sets).length → ys.getD (i + p) ([], 0) = (putK J.fit k now sets).getD p ([], 0)) →
      @CalJ _ (ctG J m l us Jq Jx (ys.map ctS).length hM hJq hJx) Try.prog 98 us [ilS (asI now), ilS (asI sets)] (some i) (fun r => if r = true then some (i + (putK J.fit k now sets).length) else none) := by
  have hn9 := hJ.n
  intro k
  induction k with
  | zero =>
    intro now sets i hlen hsl hsm hi hx
    refine @CalJ.mk _ (ctG J m l us Jq Jx (ys.map ctS).length hM hJq hJx) _ _ _ _ (ctCs J m l us) _ _ Try.f98 _ _ _ rfl rfl rfl rfl rfl rfl hus (fun hc => hc.2) (fun Is ws => ?_)
    letI := gsF (ctG J m l us Jq Jx (ys.map ctS).length hM hJq hJx) Is ws
    have hnl : (asI now).length = now.length := asI_len now
    have hsl2 : (asI sets).length = sets.length := asI_len sets
    dsimp only [args, List.cons_append, List.nil_append]
    (first | refine OkJ.first (fun _ => ?_) | refine OkJ.walk (fun _ => ?_))
    (first|refine qE ?_|refine qD ?_);(simp only [go_sem,↓dP,↓reduceIte];with_reducible and_intros;all_goals first|apply qA|exact qC|skip)
    (try dsimp only [thenJ, blockJ, noGotoJ, thenK, blockK, noGotoK])
    refine OkJ.scope ?_
    refine OkJ.seq ?_
    (first | refine OkJ.first (fun _ => ?_) | refine OkJ.walk (fun _ => ?_))
    (first|refine qE ?_|refine qD ?_);(simp only [go_sem,↓dP,↓reduceIte];with_reducible and_intros;all_goals first|apply qA|exact qC|skip)
    (try dsimp only [thenJ, blockJ, noGotoJ, thenK, blockK, noGotoK])
    refine OkJ.cond rfl (fun _ => ?_) (fun hb => by simp at hb; simp at hlen; omega)
    refine OkJ.seq ?_
    (refine OkJ.tail 5 ?h1 ?h2 ?h3 ?h4 ?_; (case h1 => rfl); (case h2 => rfl); (case h3 => rfl); (case h4 => rfl); intro I0 w0 hc; simp only [go_sem,↓dP,↓reduceIte];with_reducible and_intros;all_goals first|apply qA|exact qC|skip)
    (intro a w hst; simp only [go_sem,↓dP,↓reduceIte] at hst)
    have e1 : putK J.fit 0 now sets = [(now, sets.length)] := rfl
    rw [e1] at hi hx ⊢
    have hi' : i < (ys.map ctS).length := by rw [List.length_map]; have : i + 1 ≤ ys.length := hi; omega
    have hX : (ys.map ctS).getD i .any = ctS (now, sets.length) := by
      have h1 : ys.getD i ([], 0) = (now, sets.length) := hx 0 Nat.zero_lt_one
      rw [List.length_map] at hi'
      rw [List.getD_eq_getElem?_getD, List.getElem?_eq_getElem hi'] at h1
      rw [List.getD_eq_getElem?_getD, List.getElem?_map, List.getElem?_eq_getElem hi']
      show ctS _ = _
      rw [show ys[i] = (now, sets.length) from h1]
    have hst := hst.only [(17, .d (.raw (.func (.yield l) #[] #[]))), (21, ctS (now, sets.length)), (0, ilS (asI now))] (by
      simp only [subE, subV, subL, go_sem,↓dP,↓reduceIte]
      ((repeat' with_reducible apply And.intro) <;> (first | exact DEq.refl _ | refine DEq.int ?_ | refine DEq.bool ?_ | skip))
      omega)
    refine tail_in rfl (hook_yield (f := 17) (x := 21) (d := 22) (l := l) hc hst rfl rfl rfl rfl rfl (by decide) rfl rfl (fun b => if b = true then some (i + 1) else none) (roundF' (G := ctG J m l us Jq Jx (ys.map ctS).length hM hJq hJx) (roundU (fun I w v hc hv => round_it hR hG hi' hX hc hv))) ?_)
    intro b1 I1 a1 w1 hc1 hs1
    (refine RX.hrest hs1 ?h1 ?h2 ?h3 ?_; (case h1 => rfl); (case h2 => rfl); (case h3 => rfl); simp only [go_sem,↓dP,↓reduceIte, bare]; with_reducible and_intros;all_goals first|apply qA|exact qC|skip)
    intro a2 w2 hs2
    refine ⟨_, _, _, _, ?_, hc1, hs2⟩
    (try dsimp only [thenJ, blockJ, noGotoJ, thenK, blockK, noGotoK])
    (refine OkJ.ret ?_; (try dsimp only [thenJ, blockJ, noGotoJ]))
    exact ⟨.inl rfl, b1, rfl, rfl⟩
  | succ k ih =>
    intro now sets i hlen hsl hsm hi hx
    refine @CalJ.mk _ (ctG J m l us Jq Jx (ys.map ctS).length hM hJq hJx) _ _ _ _ (ctCs J m l us) _ _ Try.f98 _ _ _ rfl rfl rfl rfl rfl rfl hus (fun hc => hc.2) (fun Is ws => ?_)
    letI := gsF (ctG J m l us Jq Jx (ys.map ctS).length hM hJq hJx) Is ws
    have hnl : (asI now).length = now.length := asI_len now
    have hsl2 : (asI sets).length = sets.length := asI_len sets
    obtain ⟨F, hF⟩ : ∃ F : Nat → List (List Nat × Nat), F = fun n => if J.fit (sets.getD n 0 ||| 2 ^ now.length) = true then putK J.fit k (now ++ [n]) (next sets n (sets.getD n 0 ||| 2 ^ now.length)) else [] := ⟨_, rfl⟩
    have hput : putK J.fit (k + 1) now sets = (List.range (sets.length + 1)).flatMap F := by rw [hF]; rfl
    rw [hput] at hi hx ⊢
    dsimp only [args, List.cons_append, List.nil_append]
    (first | refine OkJ.first (fun _ => ?_) | refine OkJ.walk (fun _ => ?_))
    (first|refine qE ?_|refine qD ?_);(simp only [go_sem,↓dP,↓reduceIte];with_reducible and_intros;all_goals first|apply qA|exact qC|skip)
    (try dsimp only [thenJ, blockJ, noGotoJ, thenK, blockK, noGotoK])
    refine OkJ.scope ?_
    refine OkJ.seq ?_
    (first | refine OkJ.first (fun _ => ?_) | refine OkJ.walk (fun _ => ?_))
    (first|refine qE ?_|refine qD ?_);(simp only [go_sem,↓dP,↓reduceIte];with_reducible and_intros;all_goals first|apply qA|exact qC|skip)
    (try dsimp only [thenJ, blockJ, noGotoJ, thenK, blockK, noGotoK])
    refine OkJ.cond rfl (fun hb => by simp at hb; omega) (fun _ => ?_)
    (refine OkJ.skip ?_; (try dsimp only [thenJ, blockJ, noGotoJ]))
    refine OkJ.seq ?_
    refine OkJ.label ?_
    (try dsimp only [thenJ, blockJ, noGotoJ, thenK, blockK, noGotoK])
    refine OkJ.seq ?_
    (first | refine OkJ.first (fun _ => ?_) | refine OkJ.walk (fun _ => ?_))
    (first|refine qE ?_|refine qD ?_);(simp only [go_sem,↓dP,↓reduceIte];with_reducible and_intros;all_goals first|apply qA|exact qC|skip)
    (try dsimp only [thenJ, blockJ, noGotoJ, thenK, blockK, noGotoK])
    refine OkJ.block ?_
    refine OkJ.count (sets.length + 1) (fun n => { env := [(0, ilS (asI now)), (1, ilS (asI sets)), (2, .d J.ref), (3, .d (.ref 1 (dget [.raw (.func (.yield l) #[] #[])]))), (4, .d (.ref 7 (dget (knD J m)))), (5, .d (.ref 1 (dget [.raw (.func (.func 98) #[] us)]))), (25, iS ((sets.length + 1 : Nat) : Int)), (26, iS n)], bx := [], tk := [] }) (fun n => some (i + (((List.range (sets.length + 1)).take n).flatMap F).length)) ⟨?_, rfl⟩ (fun n hn => ?_) ?_
    · (refine Sub.of ([]) ([]) ?_ ?_ ?_ rfl rfl <;> simp only [subB, subB1, subT, subT1, newT, subE, subV, subL, go_sem,↓dP,↓reduceIte] <;> (try (repeat' with_reducible apply And.intro)) <;> (try first | exact DEq.refl _ | refine DEq.int ?_ | refine DEq.bool ?_ | omega))
      omega
    · have hnL : n < (List.range (sets.length + 1)).length := by rw [List.length_range]; exact hn
      (first | refine OkJ.first (fun _ => ?_) | refine OkJ.walk (fun _ => ?_))
      (first|refine qE ?_|refine qD ?_);(simp only [go_sem,↓dP,↓reduceIte];with_reducible and_intros;all_goals first|apply qA|exact qC|skip)
      (try dsimp only [thenJ, blockJ, noGotoJ, thenK, blockK, noGotoK])
      refine OkJ.seq ?_
      refine OkJ.cond rfl (fun _ => ?_) (fun hb => by simp at hb; omega)
      (refine OkJ.skip ?_; (try dsimp only [thenJ, blockJ, noGotoJ]))
      refine OkJ.seq ?_
      refine OkJ.block ?_
      (first | refine OkJ.first (fun _ => ?_) | refine OkJ.walk (fun _ => ?_))
      (first|refine qE ?_|refine qD ?_);(simp only [go_sem,↓dP,↓reduceIte];with_reducible and_intros;all_goals first|apply qA|exact qC|skip)
      (try dsimp only [thenJ, blockJ, noGotoJ, thenK, blockK, noGotoK])
      (first | refine OkJ.first (fun _ => ?_) | refine OkJ.walk (fun _ => ?_))
      (first|refine qE ?_|refine qD ?_);(simp only [go_sem,↓dP,↓reduceIte];with_reducible and_intros;all_goals first|apply qA|exact qC|skip)
      (refine AskI.own (CtrF.own (o_Clone_int (asI sets) (by omega))) ?_; simp only [go_sem,↓dP,↓reduceIte];with_reducible and_intros;all_goals first|apply qA|exact qC|skip)
      (try dsimp only [thenJ, blockJ, noGotoJ, thenK, blockK, noGotoK])
      obtain ⟨nx, hnx⟩ : ∃ nx : List Nat, nx = if n = sets.length then sets ++ [0] else sets := ⟨_, rfl⟩
      refine OkJ.meet { env := [(0, ilS (asI now)), (1, ilS (asI sets)), (2, .d J.ref), (3, .d (.ref 1 (dget [.raw (.func (.yield l) #[] #[])]))), (4, .d (.ref 7 (dget (knD J m)))), (5, .d (.ref 1 (dget [.raw (.func (.func 98) #[] us)]))), (25, iS ((sets.length + 1 : Nat) : Int)), (26, iS n), (9, iS n), (10, .tk 0)], bx := [], tk := [ownD 3 1 intD (asI nx)] } ?_ ?_
      · (first | refine OkJ.first (fun _ => ?_) | refine OkJ.walk (fun _ => ?_))
        (first|refine qE ?_|refine qD ?_);(simp only [go_sem,↓dP,↓reduceIte];with_reducible and_intros;all_goals first|apply qA|exact qC|skip)
        (try dsimp only [thenJ, blockJ, noGotoJ, thenK, blockK, noGotoK])
        refine OkJ.cond rfl (fun hb => ?_) (fun hb => ?_)
        · have hns : n = sets.length := by simp at hb; omega
          rw [if_pos hns] at hnx
          (first | refine OkJ.first (fun _ => ?_) | refine OkJ.walk (fun _ => ?_))
          (first|refine qE ?_|refine qD ?_);(simp only [go_sem,↓dP,↓reduceIte];with_reducible and_intros;all_goals first|apply qA|exact qC|skip)
          (try dsimp only [thenJ, blockJ, noGotoJ, thenK, blockK, noGotoK])
          refine ⟨?_, rfl⟩
          rw [hnx, asI_snoc]
          (refine Sub.of ([]) ([some 1]) ?_ ?_ ?_ rfl rfl <;> simp only [subB, subB1, subT, subT1, newT, subE, subV, subL, go_sem,↓dP,↓reduceIte] <;> (try (repeat' with_reducible apply And.intro)) <;> (try first | exact DEq.refl _ | refine DEq.int ?_ | refine DEq.bool ?_ | omega))
          · rw [List.length_append]; rfl
          · exact snoc_D (fun c hc => by have : c = 0 := by omega
                                         subst this; rfl)
        · have hns : n ≠ sets.length := by simp at hb; omega
          rw [if_neg hns] at hnx
          (refine OkJ.skip ?_; (try dsimp only [thenJ, blockJ, noGotoJ]))
          refine ⟨?_, rfl⟩
          rw [hnx]
          (refine Sub.of ([]) ([some 0]) ?_ ?_ ?_ rfl rfl <;> simp only [subB, subB1, subT, subT1, newT, subE, subV, subL, go_sem,↓dP,↓reduceIte] <;> (try (repeat' with_reducible apply And.intro)) <;> (try first | exact DEq.refl _ | refine DEq.int ?_ | refine DEq.bool ?_ | omega))
          exact fun _ _ _ _ => .refl _
      · have hnxl : n < nx.length := by
          rw [hnx]; split
          · rename_i h; rw [h, List.length_append]; simp
          · omega
        have hnx0 : nx.getD n 0 = sets.getD n 0 := by
          rw [hnx]; split
          · rename_i h; rw [h]; simp
          · rfl
        have hv0 : sets.getD n 0 < 2 ^ now.length := by
          by_cases h : n < sets.length
          · rw [List.getD_eq_getElem?_getD, List.getElem?_eq_getElem h]; exact hsm _ (List.getElem_mem h)
          · rw [List.getD_eq_getElem?_getD, List.getElem?_eq_none (by omega)]; exact Nat.pow_pos (by decide)
        have hp9 : 2 ^ now.length ≤ 2 ^ 8 := Nat.pow_le_pow_right (by decide) (by omega)
        obtain ⟨v, hv⟩ : ∃ v, v = sets.getD n 0 ||| 2 ^ now.length := ⟨_, rfl⟩
        have hv1 : v < 2 ^ (now.length + 1) := by
          rw [hv]
          exact Nat.or_lt_two_pow (by rw [Nat.pow_succ]; omega) (by rw [Nat.pow_succ]; omega)
        have hanx : (asI nx).length = nx.length := asI_len nx
        have hgx : (asI nx).getD n default = ((nx.getD n 0 : Nat) : Int) := by
          unfold asI
          rw [List.getD_eq_getElem?_getD, List.getElem?_map, List.getElem?_eq_getElem hnxl, List.getD_eq_getElem?_getD, List.getElem?_eq_getElem hnxl]; rfl
        have hor := bits_or_i64 (sets.getD n 0) (2 ^ now.length) (by omega) (by omega)
        have hpc : (1 : Int) * 2 ^ now.length = ((2 ^ now.length : Nat) : Int) := by simp
        have hset : asI (nx.set n v) = (asI nx).set n (v : Int) := by unfold asI; rw [List.map_set]
        have hsetl : (asI (nx.set n v)).length = nx.length := by rw [asI_len, List.length_set]
        have hgs : (asI (nx.set n v)).getD n default = (v : Int) := by
          rw [hset, List.getD_eq_getElem?_getD, List.getElem?_set_self (by omega)]; rfl
        have hRp : R .i64 (1 * 2 ^ (asI now).length) := by
          rw [hnl, hpc]
          generalize 2 ^ now.length = Q at hp9 ⊢
          exact R64 (by omega) (by omega)
        (first | refine OkJ.first (fun _ => ?_) | refine OkJ.walk (fun _ => ?_))
        (first|refine qE ?_|refine qD ?_);(simp only [go_sem,↓dP,↓reduceIte];with_reducible and_intros;all_goals first|apply qA|exact qC|skip)
        (try dsimp only [thenJ, blockJ, noGotoJ, thenK, blockK, noGotoK])
        refine OkJ.sub (σ' := { env := [(0, ilS (asI now)), (1, ilS (asI sets)), (2, .d J.ref), (3, .d (.ref 1 (dget [.raw (.func (.yield l) #[] #[])]))), (4, .d (.ref 7 (dget (knD J m)))), (5, .d (.ref 1 (dget [.raw (.func (.func 98) #[] us)]))), (25, iS ((sets.length + 1 : Nat) : Int)), (26, iS n), (9, iS n), (10, .tk 0)], bx := [], tk := [ownD 3 1 intD (asI (nx.set n v))] }) ?_ ?_
        · (refine Sub.of ([]) ([some 0]) ?_ ?_ ?_ rfl rfl <;> simp only [subB, subB1, subT, subT1, newT, subE, subV, subL, go_sem,↓dP,↓reduceIte] <;> (try (repeat' with_reducible apply And.intro)) <;> (try first | exact DEq.refl _ | refine DEq.int ?_ | refine DEq.bool ?_ | omega))
          · intro a c ha hc
            have : c = 0 := by omega
            subst this
            by_cases e : a = n
            · subst e
              rw [if_pos ⟨rfl, by decide⟩, hgs]
              refine DEq.int ?_
              rw [hgx, hnx0, hnl, hpc, hor, hv]
            · rw [if_neg (fun h => e h.1), hset]
              rw [List.getD_eq_getElem?_getD (l := (asI nx).set n (v : Int)), List.getElem?_set_ne (fun h => e h.symm), ← List.getD_eq_getElem?_getD]
              exact .refl _
        have hfit := c_knife_fits J m hK hJ v (by
          have : 2 ^ (now.length + 1) ≤ 2 ^ 9 := Nat.pow_le_pow_right (by decide) (by omega)
          omega)
        refine OkJ.seq ?_
        (first | refine OkJ.first (fun _ => ?_) | refine OkJ.walk (fun _ => ?_))
        (first|refine qE ?_|refine qD ?_);(simp only [go_sem,↓dP,↓reduceIte];with_reducible and_intros;all_goals first|apply qA|exact qC|skip)
        rw [hgs]
        (refine AskI.ret (hfit) ?_; simp only [go_sem,↓dP,↓reduceIte];with_reducible and_intros;all_goals first|apply qA|exact qC|skip)
        (try dsimp only [thenJ, blockJ, noGotoJ, thenK, blockK, noGotoK])
        have hnext : nx.set n v = next sets n v := by
          rw [hnx]; unfold next
          split
          · rename_i h; rw [h, List.set_append_right _ _ (Nat.le_refl _), Nat.sub_self]; rfl
          · rfl
        have hft := flat_take (List.range (sets.length + 1)) F hnL
        have hle := flat_le (List.range (sets.length + 1)) F hnL
        rw [range_at hnL] at hft hle
        cases hfv : J.fit v with
        | false =>
          have hFn : F n = [] := by rw [hF]; simp only; rw [← hv, hfv]; rfl
          refine OkJ.cond (b := true) rfl (fun _ => ?_) (fun hb => by cases hb)
          (refine OkJ.exit ?_; (try simp only [thenJ, blockJ, noGotoJ, ↓reduceIte, Nat.reduceEqDiff]))
          (first | refine OkJ.first (fun _ => ?_) | refine OkJ.walk (fun _ => ?_))
          (first|refine qE ?_|refine qD ?_);(simp only [go_sem,↓dP,↓reduceIte];with_reducible and_intros;all_goals first|apply qA|exact qC|skip)
          (try dsimp only [thenJ, blockJ, noGotoJ, thenK, blockK, noGotoK])
          refine ⟨?_, ?_⟩
          · (refine Sub.of ([]) ([]) ?_ ?_ ?_ rfl rfl <;> simp only [subB, subB1, subT, subT1, newT, subE, subV, subL, go_sem,↓dP,↓reduceIte] <;> (try (repeat' with_reducible apply And.intro)) <;> (try first | exact DEq.refl _ | refine DEq.int ?_ | refine DEq.bool ?_ | omega))
            all_goals (try omega)
          · rw [hft, hFn]; rfl
        | true =>
          have hFn : F n = putK J.fit k (now ++ [n]) (next sets n v) := by rw [hF]; simp only; rw [← hv, if_pos hfv]
          refine OkJ.cond (b := false) rfl (fun hb => by cases hb) (fun _ => ?_)
          (refine OkJ.skip ?_; (try dsimp only [thenJ, blockJ, noGotoJ]))
          refine OkJ.seq ?_
          (refine OkJ.tail 7 ?h1 ?h2 ?h3 ?h4 ?_; (case h1 => rfl); (case h2 => rfl); (case h3 => rfl); (case h4 => rfl); intro I0 w0 hc; simp only [go_sem,↓dP,↓reduceIte];with_reducible and_intros;all_goals first|apply qA|exact qC|skip)
          (refine AskI.own (CtrF.own (o_Clone_int (asI now) (by omega))) ?_; simp only [go_sem,↓dP,↓reduceIte];with_reducible and_intros;all_goals first|apply qA|exact qC|skip)
          (intro a w hst; simp only [go_sem,↓dP,↓reduceIte] at hst)
          have hst := ((hst.frz 0 rfl).frz 2 rfl).only [(54, .d (.raw (.func (.func 98) #[] us))), (59, ilS (asI (now ++ [n]))), (60, ilS (asI (next sets n v))), (0, ilS (asI now)), (1, ilS (asI sets)), (2, .d J.ref), (3, .d (.ref 1 (dget [.raw (.func (.yield l) #[] #[])]))), (4, .d (.ref 7 (dget (knD J m)))), (5, .d (.ref 1 (dget [.raw (.func (.func 98) #[] us)]))), (25, iS ((sets.length + 1 : Nat) : Int)), (26, iS n)] (by
            simp only [subE, subV, subL, go_sem,↓dP,↓reduceIte]
            ((repeat' with_reducible apply And.intro) <;> (first | exact DEq.refl _ | refine DEq.int ?_ | refine DEq.bool ?_ | skip))
            · rw [asI_snoc]
              refine DEq.sl (n' := (asI now ++ [(n : Int)]).length) (by rw [List.length_append]; rfl) (snoc_D (f := intD) (o := asI now) (x := (n : Int)) (k := 1) (ys := [.int .i64 (n : Int)]) (fun c hc => ?_))
              have : c = 0 := by omega
              subst this
              rfl
            · rw [hnext]; exact .refl _)
          rw [hFn] at hft hle
          have hnl2 : (next sets n v).length ≤ now.length + 1 := by
            rw [← hnext, List.length_set, hnx]; split
            · rw [List.length_append]; simp; omega
            · omega
          have hsm2 : ∀ x ∈ next sets n v, x < 2 ^ (now ++ [n]).length := by
            intro x hx
            rw [List.length_append]
            show x < 2 ^ (now.length + 1)
            rw [← hnext] at hx
            rcases List.mem_or_eq_of_mem_set hx with h | h
            · rw [hnx] at h
              have hpp : 0 < 2 ^ now.length := Nat.pow_pos (by decide)
              have : x < 2 ^ now.length := by
                split at h
                · rw [List.mem_append] at h
                  rcases h with h | h
                  · exact hsm x h
                  · simp at h; omega
                · exact hsm x h
              rw [Nat.pow_succ]; omega
            · rw [h]; exact hv1
          have hrec := ih (now ++ [n]) (next sets n v) (i + (((List.range (sets.length + 1)).take n).flatMap F).length) (by rw [List.length_append]; simp; omega) (by rw [List.length_append]; exact hnl2) hsm2 (by omega) (fun p hp => by
            have := flat_at (List.range (sets.length + 1)) F hnL (q := p) (by rw [range_at hnL, hFn]; exact hp) ([], 0)
            rw [range_at hnL, hFn] at this
            rw [Nat.add_assoc, hx _ (by omega), this])
          refine tail_in rfl (hook_rec (f := 54) (g := 98) (us := us) (xs := [59, 60]) hc hst rfl rfl rfl rfl rfl (by decide) rfl rfl (CalJ.from (G := ctG J m l us Jq Jx (ys.map ctS).length hM hJq hJx) hrec) ?_)
          intro b1 I1 a1 w1 hc1 hst
          (refine RX.hrest hst ?h1 ?h2 ?h3 ?_; (case h1 => rfl); (case h2 => rfl); (case h3 => rfl); simp only [go_sem,↓dP,↓reduceIte, bare]; with_reducible and_intros;all_goals first|apply qA|exact qC|skip)
          intro a2 w2 hst
          refine ⟨_, _, _, _, ?_, hc1, hst⟩
          (try dsimp only [thenJ, blockJ, noGotoJ, thenK, blockK, noGotoK])
          cases b1 with
          | true =>
            refine OkJ.cond (b := false) rfl (fun hb => by cases hb) (fun _ => ?_)
            (refine OkJ.skip ?_; (try dsimp only [thenJ, blockJ, noGotoJ]))
            (first | refine OkJ.first (fun _ => ?_) | refine OkJ.walk (fun _ => ?_))
            (first|refine qE ?_|refine qD ?_);(simp only [go_sem,↓dP,↓reduceIte];with_reducible and_intros;all_goals first|apply qA|exact qC|skip)
            (try dsimp only [thenJ, blockJ, noGotoJ, thenK, blockK, noGotoK])
            refine ⟨?_, ?_⟩
            · (refine Sub.of ([]) ([]) ?_ ?_ ?_ rfl rfl <;> simp only [subB, subB1, subT, subT1, newT, subE, subV, subL, go_sem,↓dP,↓reduceIte] <;> (try (repeat' with_reducible apply And.intro)) <;> (try first | exact DEq.refl _ | refine DEq.int ?_ | refine DEq.bool ?_ | omega))
              all_goals (try omega)
            · rw [hft, if_pos rfl, Nat.add_assoc]
          | false =>
            refine OkJ.cond (b := true) rfl (fun _ => ?_) (fun hb => by cases hb)
            (first | refine OkJ.first (fun _ => ?_) | refine OkJ.walk (fun _ => ?_))
            (first|refine qE ?_|refine qD ?_);(simp only [go_sem,↓dP,↓reduceIte];with_reducible and_intros;all_goals first|apply qA|exact qC|skip)
            (try dsimp only [thenJ, blockJ, noGotoJ, thenK, blockK, noGotoK])
            (refine OkJ.ret ?_; (try dsimp only [thenJ, blockJ, noGotoJ]))
            exact ⟨.inl rfl, false, rfl, rfl⟩
    · (first | refine OkJ.first (fun _ => ?_) | refine OkJ.walk (fun _ => ?_))
      (first|refine qE ?_|refine qD ?_);(simp only [go_sem,↓dP,↓reduceIte];with_reducible and_intros;all_goals first|apply qA|exact qC|skip)
      (try dsimp only [thenJ, blockJ, noGotoJ, thenK, blockK, noGotoK])
      refine OkJ.seq ?_
      refine OkJ.cond rfl (fun hb => by simp at hb) (fun _ => ?_)
      (refine OkJ.exit ?_; (try simp only [thenJ, blockJ, noGotoJ, ↓reduceIte, Nat.reduceEqDiff]))
      (first | refine OkJ.first (fun _ => ?_) | refine OkJ.walk (fun _ => ?_))
      (first|refine qE ?_|refine qD ?_);(simp only [go_sem,↓dP,↓reduceIte];with_reducible and_intros;all_goals first|apply qA|exact qC|skip)
      (try dsimp only [thenJ, blockJ, noGotoJ, thenK, blockK, noGotoK])
      (refine OkJ.ret ?_; (try dsimp only [thenJ, blockJ, noGotoJ]))
      rw [List.take_of_length_le (by simp)]
      exact ⟨.inl rfl, true, rfl, rfl⟩
end Go.Proofs.Leaf
namespace Go.Proofs.Leaf
open Go Go.RX Go.Proofs Go.RowKit
set_option maxRecDepth 10000
section
def cO (I:Nat->Prop) (w:World) (b:Nat):Prop:=I b/\∃ cs T fz,w.heap[b]? = some (.cells cs T fz)
theorem rep_sl_cells {I:Nat->Prop} {w:World} {v:Value} {k n:Nat} {g:Nat->Nat->DV} (h:Rep I w v (.sl k n g)) (hk:0 < k) (hg:∀ i j,i < n->j < k->flatD (g i j)):Rep (cO I w) w v (.sl k n g):=by
 cases h with
 | sl0 => exact .sl0
 | sl1 hc => exact .sl1 hc
 | sl us hI hn hc hcell hrep =>
  rename_i b o cap
  by_cases h0:n = 0
  ·subst h0;exact .sl1 hc
  ·refine .sl us ⟨hI,?_⟩ hn hc hcell (fun i j hi hj => hg i j hi hj _ _ _ _ _ (hrep i j hi hj))
   have:=hcell 0 0 (by omega) hk
   unfold World.cell? at this
   cases hb:w.heap[b]? with
   | none => rw [hb] at this;simp at this
   | some ob =>
    rw [hb] at this
    cases ob with
    | cells cs T fz => exact ⟨_,_,_,rfl⟩
    | _ => simp at this
theorem agg_turn {I I':Nat->Prop} {w w':World} {v:Value} {ds ds':List DV} (h:RepS I w v (.agg (ds.map .d))) (hl:ds.length = ds'.length) (hf:∀ (cs:Array Value),v = .agg cs->∀ (i:Nat) (u:Value) (x y:DV),cs[i]? = some u->ds[i]? = some x->ds'[i]? = some y->Rep I w u x->Rep I' w' u y):RepS I' w' v (.agg (ds'.map .d)):=by
 have h0:=h (fun _ => none)
 cases h0 with
 | agg hl0 h1 h2 =>
  intro Y
  refine .agg (by rw [hl0];simp [hl]) (fun i u x hu hx => ?_) h2
  rw [List.getElem?_map] at hx
  cases hd:ds'[i]? with
  | none => rw [hd] at hx;cases hx
  | some y =>
   rw [hd] at hx;cases hx
   have hi:i < ds'.length:=(List.getElem?_eq_some_iff.1 hd).1
   have hx0:ds[i]? = some (ds[i]'(by omega)):=List.getElem?_eq_getElem _
   have:=h1 i u (.d (ds[i]'(by omega))) hu (by rw [List.getElem?_map,hx0];rfl)
   exact .d (hf _ rfl i u _ y hu hx0 hd (mt_d this))
theorem flat_gro (g:Ground) (j:Nat):flatD (groD g j):=by
 rcases j with _ | _ | _ | _ | j
 ·exact .int
 ·exact .int
 ·exact .int
 ·exact .int
 ·exact .nilI
theorem flat_pie (p:Piece) (j:Nat):flatD (pieD p j):=by
 rcases j with _ | _ | _ | _ | j
 ·exact .int
 ·exact .int
 ·exact .bool
 ·exact .int
 ·exact .nilI
def MkKnife (J J':Job) (more:DV):Prop:=∀ (I:Nat->Prop) (w:World) (vs:Array Value),(∀ b,I b->b < w.heap.size)->vs.size = 2->(∀ (j:Nat) (u:Value) (s:SV),vs[j]? = some u->[J.sv,.d more][j]? = some s->RepS I w u s) ->
 Calls Try.prog 97 vs w (fun e w' => ∃ v m I',e = .returned v/\Keep w.heap.size w w'/\(∀ b,I b->I' b)/\(∀ b,I' b->I b∨(w.heap.size<=b/\b < w'.heap.size))/\¬ I' m/\w.heap.size<=m/\m < w'.heap.size/\(∃ clk,w'.heap[m]? = some (.map #[] clk))/\RepS I' w' v (knS J' m))
theorem mkKnife (J J':Job) (more:DV) (hc:Ctr Try.prog 97 [J.sv,.d more] (kn0 J')) (hmore:∀ I w u,Rep I w u more->Rep (cO I w) w u more):MkKnife J J' more:=by
 intro I w vs hI hlv hA
 refine (hc.2 (cO I w) w vs trivial (fun b hb => hI b hb.1) (fun b _ e => by cases e) hlv (fun j u s hu hs => ?_)).mono (fun e w' hq => ?_)
 ·have h:=hA j u s hu hs
  rcases j with _ | _ | j
  ·cases hs
   refine agg_turn (ds:=J.cells) (ds':=J.cells) h rfl (fun cs _ i u x y _ hx hy hr => ?_)
   rw [hx] at hy;cases hy
   rcases i with _ | _ | _ | _ | _ | _ | i<;>cases hx
   ·cases hr;exact .int
   ·cases hr;exact .int
   ·cases hr;exact .int
   ·cases hr;exact .int
   ·exact rep_sl_cells hr (by decide) (fun _ _ _ _ => flat_gro _ _)
   ·exact rep_sl_cells hr (by decide) (fun _ _ _ _ => flat_pie _ _)
  ·cases hs;exact fun Y => .d (hmore _ _ _ (mt_d (h (fun _ => none))))
  ·simp at hs
 ·obtain ⟨v,rfl,hr,hk⟩:=hq
  have hr':RepS (fun b => cO I w b∨(w.heap.size<=b/\b < w'.heap.size)) w' v (.agg (([iD J'.wide,iD J'.high,iD J'.book,iD J'.spoilt,slD 4 groD J'.gs,slD 4 pieD J'.ps,.mp 0 0 (fun _ _ => .nilI)]:List DV).map .d)):=hr
  have h0:=hr' (fun _ => none)
  obtain ⟨cs,rfl,hcs,r,es,clk,h6,hIr,hm,hn⟩:∃ cs,v = .agg cs/\cs.size = 7/\∃ r es clk,cs[6]? = some (.map (some r))/\(cO I w r∨(w.heap.size<=r/\r < w'.heap.size))/\w'.heap[r]? = some (.map es clk)/\es.size = 0:=by
   cases h0 with
   | agg hl0 h1 h2 =>
    rename_i cs
    have h7:cs.size = 7:=by rw [hl0];rfl
    have h6:cs[6]? = some (cs[6]'(by omega)):=Array.getElem?_eq_getElem _
    have:=mt_d (h1 6 _ (.d (.mp 0 0 (fun _ _ => .nilI))) h6 rfl)
    refine ⟨cs,rfl,h7,?_⟩
    rw [h6]
    generalize cs[6]'(by omega) = u at this
    cases this with
    | mp es clk us hI' hm hn => exact ⟨_,es,clk,rfl,hI',hm,hn⟩
  have hrn:w.heap.size<=r/\r < w'.heap.size:=by
   rcases hIr with ⟨hi,c1,T1,f1,hc1⟩ | q
   ·have hlt:=hI r hi
    have:=hk.block r hlt (fun e => by cases e)
    rw [hc1,hm] at this;cases this
   ·exact q
  obtain rfl:es = #[]:=Array.eq_empty_of_size_eq_zero hn
  have hcr:∀ b,cO (fun b => cO I w b∨(w.heap.size<=b/\b < w'.heap.size)) w' b->(I b∨(w.heap.size<=b/\b < w'.heap.size))/\b ≠ r:=by
   rintro b ⟨hb,c1,T1,f1,hc1⟩
   exact ⟨hb.imp (fun q => q.1) (fun q => q),fun e => by subst e;rw [hm] at hc1;cases hc1⟩
  refine ⟨_,r,fun b => (I b∨(w.heap.size<=b/\b < w'.heap.size))/\b ≠ r,rfl,hk,fun b hb => ⟨.inl hb,fun e => by have:=hI b hb;omega⟩,fun b hb => hb.1,fun h => h.2 rfl,hrn.1,hrn.2,⟨clk,hm⟩,?_⟩
  refine agg_turn (ds':=knD J' r) hr' rfl (fun cs' he i u x y hu hx hy hr => ?_)
  cases he
  rcases i with _ | _ | _ | _ | _ | _ | _ | i<;>cases hx<;>cases hy
  ·cases hr;exact .int
  ·cases hr;exact .int
  ·cases hr;exact .int
  ·cases hr;exact .int
  ·exact (rep_sl_cells hr (by decide) (fun _ _ _ _ => flat_gro _ _)).mono hcr (fun _ _ => rfl)
  ·exact (rep_sl_cells hr (by decide) (fun _ _ _ _ => flat_pie _ _)).mono hcr (fun _ _ => rfl)
  ·rw [h6] at hu;cases hu;exact .raw rfl
theorem mkKnife0 (J:Job) (hl:J.ps.length < 1000000):MkKnife J J .nils:=mkKnife J J .nils (c_knifeOf0 J hl) (fun I w u h => by cases h;exact .nils)
end
end Go.Proofs.Leaf
namespace Go.Proofs.Leaf
open Go Go.RX Go.Proofs Go.RowKit
set_option maxRecDepth 10000
section
abbrev wkD (B:Bk) (plan:List Int) (m:Nat):List DV:=[iD B.ap,slD 1 intD B.bs,slD 5 stkD B.ss,slD 1 intD plan,.raw (.map (some m)),iD (-1),iD 0]
abbrev wk0 (B:Bk) (plan:List Int):SV:=.agg [iS B.ap,ilS B.bs,.d (slD 5 stkD B.ss),ilS plan,.d (.mp 0 0 (fun _ _ => .nilI)),iS (-1),iS 0]
theorem c_workOf (B:Bk) (plan:List Int):Ctr Try.prog 35 [B.sv,ilS plan] (wk0 B plan):=by
 (refine Ctr.mk (fn:=Try.f35) rfl rfl rfl rfl rfl Try.results35 ?_;intro _;dsimp only [args,List.toList_toArray])
 (first|refine qE ?_|refine qD ?_);(simp only [go_sem,↓dP,↓reduceIte];with_reducible and_intros;all_goals first|apply qA|exact qC|skip)
 (first|refine qE ?_|refine qD ?_);(simp only [go_sem,↓dP,↓reduceIte];with_reducible and_intros;all_goals first|apply qA|exact qC|skip)
 (refine Ok.ret ?_;(try dsimp only [thenK,blockK,noGotoK]);simp only [toList_mk,List.toList_toArray,retK_ret,retK_normal,resOK,resV,celV,rowV,frzAll,frzT,subV,subL,go_sem,↓dP,↓reduceIte])
 ((repeat' with_reducible apply And.intro)<;>(first | exact DEq.refl _ | refine DEq.int ?_ | refine DEq.bool ?_ | skip))
theorem flat_int (n:Int) (j:Nat):flatD (intD n j):=by
 rcases j with _ | j
 ·exact .int
 ·exact .nilI
theorem rep_cells {I:Nat->Prop} {w:World} {v:Value} {k n:Nat} {g:Nat->Nat->DV} (h:Rep I w v (.sl k n g)) (hk:0 < k) (hg:∀ i j u,i < n->j < k->Rep I w u (g i j)->Rep (cO I w) w u (g i j)):Rep (cO I w) w v (.sl k n g):=by
 cases h with
 | sl0 => exact .sl0
 | sl1 hc => exact .sl1 hc
 | sl us hI hn hc hcell hrep =>
  rename_i b o cap
  by_cases h0:n = 0
  ·subst h0;exact .sl1 hc
  ·refine .sl us ⟨hI,?_⟩ hn hc hcell (fun i j hi hj => hg i j _ hi hj (hrep i j hi hj))
   have:=hcell 0 0 (by omega) hk
   unfold World.cell? at this
   cases hb:w.heap[b]? with
   | none => rw [hb] at this;simp at this
   | some ob =>
    rw [hb] at this
    cases ob with
    | cells cs T fz => exact ⟨_,_,_,rfl⟩
    | _ => simp at this
theorem rep_ints {I:Nat->Prop} {w:World} {v:Value} {l:List Int} (h:Rep I w v (slD 1 intD l)):Rep (cO I w) w v (slD 1 intD l):=rep_sl_cells h (by decide) (fun _ _ _ _ => flat_int _ _)
theorem rep_stk {I:Nat->Prop} {w:World} {v:Value} {l:List Stk} (h:Rep I w v (slD 5 stkD l)):Rep (cO I w) w v (slD 5 stkD l):=rep_cells h (by decide) (fun i j u _ _ hr => by
 rcases j with _ | _ | _ | _ | _ | j
 ·cases hr;exact .int
 ·cases hr;exact .bool
 ·cases hr;exact .int
 ·cases hr;exact .int
 ·exact rep_ints hr
 ·cases hr;exact .nilI)
theorem mkWork (B:Bk) (plan:List Int) (I:Nat->Prop) (w:World) (vs:Array Value) (hI:∀ b,I b->b < w.heap.size) (hlv:vs.size = 2) (hA:∀ (j:Nat) (u:Value) (s:SV),vs[j]? = some u->[B.sv,ilS plan][j]? = some s->RepS I w u s) :
  Calls Try.prog 35 vs w (fun e w' => ∃ v m I',e = .returned v/\Keep w.heap.size w w'/\(∀ b,I b->I' b)/\(∀ b,I' b->I b∨(w.heap.size<=b/\b < w'.heap.size))/\¬ I' m/\w.heap.size<=m/\m < w'.heap.size/\(∃ clk,w'.heap[m]? = some (.map #[] clk))/\RepS I' w' v (wkS B plan m)):=by
 refine ((c_workOf B plan).2 (cO I w) w vs trivial (fun b hb => hI b hb.1) (fun b _ e => by cases e) hlv (fun j u s hu hs => ?_)).mono (fun e w' hq => ?_)
 ·have h:=hA j u s hu hs
  rcases j with _ | _ | j
  ·cases hs
   refine agg_turn (ds:=B.cells) (ds':=B.cells) h rfl (fun cs _ i u x y _ hx hy hr => ?_)
   rw [hx] at hy;cases hy
   rcases i with _ | _ | _ | i<;>cases hx
   ·cases hr;exact .int
   ·exact rep_ints hr
   ·exact rep_stk hr
  ·cases hs;exact fun Y => .d (rep_ints (mt_d (h (fun _ => none))))
  ·simp at hs
 ·obtain ⟨v,rfl,hr,hk⟩:=hq
  have hr':RepS (fun b => cO I w b∨(w.heap.size<=b/\b < w'.heap.size)) w' v (.agg (([iD B.ap,slD 1 intD B.bs,slD 5 stkD B.ss,slD 1 intD plan,.mp 0 0 (fun _ _ => .nilI),iD (-1),iD 0]:List DV).map .d)):=hr
  have h0:=hr' (fun _ => none)
  obtain ⟨cs,rfl,hcs,r,es,clk,h6,hIr,hm,hn⟩:∃ cs,v = .agg cs/\cs.size = 7/\∃ r es clk,cs[4]? = some (.map (some r))/\(cO I w r∨(w.heap.size<=r/\r < w'.heap.size))/\w'.heap[r]? = some (.map es clk)/\es.size = 0:=by
   cases h0 with
   | agg hl0 h1 h2 =>
    rename_i cs
    have h7:cs.size = 7:=by rw [hl0];rfl
    have h6:cs[4]? = some (cs[4]'(by omega)):=Array.getElem?_eq_getElem _
    have:=mt_d (h1 4 _ (.d (.mp 0 0 (fun _ _ => .nilI))) h6 rfl)
    refine ⟨cs,rfl,h7,?_⟩
    rw [h6]
    generalize cs[4]'(by omega) = u at this
    cases this with
    | mp es clk us hI' hm hn => exact ⟨_,es,clk,rfl,hI',hm,hn⟩
  have hrn:w.heap.size<=r/\r < w'.heap.size:=by
   rcases hIr with ⟨hi,c1,T1,f1,hc1⟩ | q
   ·have hlt:=hI r hi
    have:=hk.block r hlt (fun e => by cases e)
    rw [hc1,hm] at this;cases this
   ·exact q
  obtain rfl:es = #[]:=Array.eq_empty_of_size_eq_zero hn
  have hcr:∀ b,cO (fun b => cO I w b∨(w.heap.size<=b/\b < w'.heap.size)) w' b->(I b∨(w.heap.size<=b/\b < w'.heap.size))/\b ≠ r:=by
   rintro b ⟨hb,c1,T1,f1,hc1⟩
   exact ⟨hb.imp (fun q => q.1) (fun q => q),fun e => by subst e;rw [hm] at hc1;cases hc1⟩
  refine ⟨_,r,fun b => (I b∨(w.heap.size<=b/\b < w'.heap.size))/\b ≠ r,rfl,hk,fun b hb => ⟨.inl hb,fun e => by have:=hI b hb;omega⟩,fun b hb => hb.1,fun h => h.2 rfl,hrn.1,hrn.2,⟨clk,hm⟩,?_⟩
  refine agg_turn (ds':=wkD B plan r) hr' rfl (fun cs' he i u x y hu hx hy hr => ?_)
  cases he
  rcases i with _ | _ | _ | _ | _ | _ | _ | i<;>cases hx<;>cases hy
  ·cases hr;exact .int
  ·exact (rep_ints hr).mono hcr (fun _ _ => rfl)
  ·exact (rep_stk hr).mono hcr (fun _ _ => rfl)
  ·exact (rep_ints hr).mono hcr (fun _ _ => rfl)
  ·rw [h6] at hu;cases hu;exact .raw rfl
  ·cases hr;exact .int
  ·cases hr;exact .int
theorem isMemoE_memo (f:Nat->Nat->Int) (m:Nat):@IsMemoE (memoE f m) f m:=@IsMemoE.mk (memoE f m) f m (fun w h => h) (fun w w' _ h _ _ => h) rfl
end
end Go.Proofs.Leaf
namespace Go.Proofs.Leaf
open Go Go.RX Go.Proofs Go.RowKit
set_option maxRecDepth 10000
theorem isMemo_memo (ps:List Piece) (m:Nat):@IsMemo (memo ps m) ps m:=@IsMemo.mk (memo ps m) ps m (fun w h => h) (fun w w' _ h _ _ => h) rfl
section
theorem it_cuttings1 (J:Job) (hJ:J.sized):It Try.prog 96 [.d J.ref] ((putK J.fit J.ps.length [] []).map ctS):=by
 refine ⟨⟨Try.f96,rfl,rfl,rfl⟩,fun I w vs l Jq Jx _ hI _ hl hA hJq hJx hR h0 => ?_⟩
 have hn9:=hJ.n
 refine calls_of_wp (fn:=Try.f96) rfl rfl ?_
 have hst:=St.start (N:=Try.f96.ntmps) (A:=[.d (.raw (.func (.yield l) #[] #[])),.d J.ref]) (I:=I) (w:=w) (vs:=#[.func (.yield l) #[] #[]] ++ vs) trivial hI (fun b _ e => by cases e) (by simp [hl]) (Nat.le_of_ble_eq_true rfl) (by
  intro i u s hu hs
  cases i with
  | zero =>
   rw [Array.getElem?_append_left (by simp)] at hu
   simp at hu hs;subst hu;subst hs;exact fun Y => .d (.raw rfl)
  | succ i =>
   refine hA i u s ?_ (by simpa using hs)
   rw [Array.getElem?_append_right (by simp)] at hu
   simpa using hu)
 refine (wpIn_wide (n:=0)).1 ?_
 letI:Bas:=⟨I,w⟩
 dsimp only [RX.start,args] at hst
 refine Ok.first hst ?_
 (first|refine qE ?_|refine qD ?_);(simp only [go_sem,↓dP,↓reduceIte];with_reducible and_intros;all_goals first|apply qA|exact qC|skip)
 intro a w1 hst
 show Code.wpIn _ _ _ _ _ _ _
 refine wpIn_seq ?_
 (refine hT 1 ?h1 ?h2 ?h3 ?h4 hst ?_;(case h1 => rfl);(case h2 => rfl);(case h3 => rfl);(case h4 => rfl);simp only [go_sem,↓dP,↓reduceIte];with_reducible and_intros;all_goals first|apply qA|exact qC|skip)
 intro Y a w1 hinv
 have hst:=St.of hinv rfl
 have hst:=(hst.sealt 2 0 rfl rfl rfl).only [(5,J.sv),(2,.d (.ref 1 (dget [.raw (.func (.yield l) #[] #[])]))),(1,.d J.ref)] (by
  simp only [subE,subV,subL,go_sem,↓dP,↓reduceIte]
  ((repeat' with_reducible apply And.intro)<;>(first | exact DEq.refl _ | refine DEq.int ?_ | refine DEq.bool ?_ | skip)))
 obtain ⟨I1,hst,i1,i2,i3,_,hk1,_,hd1⟩:=hst.rebase rfl rfl rfl hI
 have hr:=hst.reps rfl rfl rfl
 have hsz:a.tmps.size = Try.f96.ntmps:=by obtain ⟨_,_,_,hx⟩:=hst (fun _ => none);exact hx.sz
 have hkn:=mkKnife0 J (by omega) I1 w1 #[a.tmps.getD 5 undef,.slice none 0 0] i3 rfl (by
  intro k u s hu hs
  rcases k with _ | _ | k
  ·cases hu;cases hs;exact hr 5
  ·cases hu;cases hs;exact fun Y => .d .nils
  ·simp at hs)
 refine tail_callFn (fn:=Try.f97) rfl rfl rfl rfl (by rw [map2];rfl) hkn (fun e w2 hq => ?_)
 obtain ⟨v,m,I2,rfl,hk2,j1,j2,hmI,hm1,hm2,⟨clk,hmm⟩,hrv⟩:=hq
 refine ⟨v,rfl,?_⟩
 have hs1:=hk1.size
 have hs2:=hk2.size
 have hkp:Kpt I1 I2 w1 w2:=⟨hk2.size,j1,fun b hb => hk2.block b (i3 b hb) (fun e => by cases e)⟩
 have j3:∀ b,I2 b->b < w2.heap.size:=fun b hb => by
  rcases j2 b hb with q | q
  ·have:=i3 b q;omega
  ·exact q.2
 have e2:=(hr 2).kept hkp
 have e1:=(hr 1).kept hkp
 have hmM:MemoOK J.ps w2 m:=⟨#[],clk,hmm,fun e he => by simp at he⟩
 have hExt:Ext I I2 (fun _ => False) (fun b => b = m) w w2:=by
  refine ⟨hk2.os.trans hk1.os,hk2.tape.trans hk1.tape,hk2.output.trans hk1.output,by omega,fun k hk _ => (hk2.block k (by omega) (fun e => by cases e)).trans (hk1.block k hk (fun e => by cases e)),fun b hb => j1 b (i1 b hb),fun b hb => ?_,fun b hb => hb.elim,fun b hb => .inr (by subst hb;omega),fun b hb e => hmI (e ▸ hb)⟩
  rcases j2 b hb with q | q
  ·rcases i2 b q with q | q
   ·exact .inl q
   ·exact .inr (by omega)
  ·exact .inr (by omega)
 have hJ0:=hJq 0 _ _ _ _ _ _ h0 hExt
 letI GM:Glob:=memo J.ps m
 have hst:@St GM _ { env:=[(6,knS J m),(2,.d (.ref 1 (dget [.raw (.func (.yield l) #[] #[])]))),(1,.d J.ref)],bx:=[],tk:=[] } I2 Try.f96.ntmps w2 (a.put (some 6) v) w2:=by
  refine @St.data GM _ _ _ _ _ _ (fun _ => none) (fun _ => none) (fun _ => none) (by rw [put_sz];exact hsz) hd1 j3 (fun b hb e => ?_) hmM (dat_cons ?_ (dat_cons ?_ (dat_cons ?_ dat_nil))) (fun p hp => by cases hp)
  ·cases e;exact hmI hb
  ·rw [put_eq (by rw [hsz];decide)];exact hrv
  ·rw [put_ne (by decide)];exact e2
  ·rw [put_ne (by decide)];exact e1
 letI:Bas:=⟨I2,w2⟩
 (refine RX.hrest hst ?h1 ?h2 ?h3 ?_;(case h1 => rfl);(case h2 => rfl);(case h3 => rfl);simp only [go_sem,↓dP,↓reduceIte,bare];with_reducible and_intros;all_goals first|apply qA|exact qC|skip)
 intro a2 w3 hst
 show Code.wpIn _ _ _ _ _ _ _
 refine Ok.first hst ?_
 (first|refine qE ?_|refine qD ?_);(simp only [go_sem,↓dP,↓reduceIte];with_reducible and_intros;all_goals first|apply qA|exact qC|skip)
 intro a w4 hst
 show Code.wpIn _ _ _ _ _ _ _
 refine wpIn_seq ?_
 (refine hT 0 ?h1 ?h2 ?h3 ?h4 hst ?_;(case h1 => rfl);(case h2 => rfl);(case h3 => rfl);(case h4 => rfl);simp only [go_sem,↓dP,↓reduceIte];with_reducible and_intros;all_goals first|apply qA|exact qC|skip)
 intro Y a w4 hinv
 have hst:=St.of hinv rfl
 obtain ⟨us,hus⟩:∃ us:Array Value,us = #[a.tmps.getD 1 undef,a.tmps.getD 2 undef,a.tmps.getD 3 undef,a.tmps.getD 4 undef]:=⟨_,rfl⟩
 refine tail_val (v:=.func (.func 98) #[] us) rfl (fun c e => by cases e) (run_mkf rfl (by rw [hus];simp [Act.eval])) ?_
 have hst:=hst.putV (d:=7) (v:=.func (.func 98) #[] us) (V:=.d (.raw (.func (.func 98) #[] us))) (by decide) (fun _ _ _ _ => .d (.raw rfl))
 have hv:∀ t,t ≠ 7->(a.put (some 7) (.func (.func 98) #[] us)).tmps.getD t undef = a.tmps.getD t undef:=fun t ht => put_ne (fun e => ht e.symm)
 obtain ⟨w5,hrun,hst⟩:=hst.store1 (P:=Try.prog) (o:={ dst:=none,op:=Op.store 72 (Operand.tmp 4) (Operand.tmp 7),type:=0,pos:= "",after:=#[],guard:=none }) (tx:=4) (ty:=7) (b:=1) (v:=.func (.func 98) #[] us) rfl rfl rfl rfl rfl rfl rfl (hst.raw (t:=7) rfl) rfl
 refine tail_skp rfl (fun c e => by cases e) hrun (tail_end ?_)
 have hst:=(hst.sealt 3 0 rfl rfl rfl).sealt 4 1 rfl rfl rfl
 have hst:=hst.only [(1,.d J.ref),(2,.d (.ref 1 (dget [.raw (.func (.yield l) #[] #[])]))),(3,.d (.ref 7 (dget (knD J m)))),(4,.d (.ref 1 (dget [.raw (.func (.func 98) #[] us)])))] (by
  simp only [subE,subV,subL,go_sem,↓dP,↓reduceIte]
  ((repeat' with_reducible apply And.intro)<;>(first | exact DEq.refl _ | refine DEq.int ?_ | refine DEq.bool ?_ | skip)))
 have hM:∀ b,Glob.M = some b->b = m:=fun b e => by cases e;rfl
 have hG:∀ w w':World,Glob.G w->w.heap.size<=w'.heap.size->w'.os = w.os->w'.tape = w.tape->w'.output = w.output->(∀ b,b = m->w'.heap[b]? = w.heap[b]?)->Glob.G w':=by
  rintro w w' ⟨es,clk,h,k⟩ _ _ _ _ hb
  exact ⟨es,clk,(hb m rfl).trans h,k⟩
 have hc0:(itG (fun b => b = m) Jq Jx ((putK J.fit J.ps.length [] []).map ctS).length #[] [] hM hJq hJx).Cx (some 0) I2 w2 :=
  ⟨j3,fun b hb e => hmI (e ▸ hb),fun b hb => by subst hb;exact hm2,hmM,fun i u s hu => by simp at hu,hJ0⟩
 letI G0:=itG (fun b => b = m) Jq Jx ((putK J.fit J.ps.length [] []).map ctS).length #[] [] hM hJq hJx
 obtain ⟨I3,hst,hc1,_,_⟩:=hst.anew (j:=(some 0:Option Nat)) hc0 rfl rfl rfl
 have hr:=hst.reps rfl rfl rfl
 have hv2:∀ t,t ≠ 7->((a.put (some 7) (.func (.func 98) #[] us)).put none undef).tmps.getD t undef = a.tmps.getD t undef:=hv
 have hc2:(ctG J m l us Jq Jx ((putK J.fit J.ps.length [] []).map ctS).length hM hJq hJx).Cx (some 0) I3 w5:=by
  refine ⟨hc1,fun i u s hu hs => ?_⟩
  have e1:=hr 1;have e2:=hr 2;have e3:=hr 3;have e4:=hr 4
  rw [hv2 _ (by decide)] at e1 e2 e3 e4
  rw [hus] at hu
  rcases i with _ | _ | _ | _ | i
  ·cases hu;cases hs;exact e1
  ·cases hu;cases hs;exact e2
  ·cases hu;cases hs;exact e3
  ·cases hu;cases hs;exact e4
  ·simp at hu
 letI:=ctG J m l us Jq Jx ((putK J.fit J.ps.length [] []).map ctS).length hM hJq hJx
 show Code.wpIn _ _ _ _ _ _ _
 (refine hT 1 ?h1 ?h2 ?h3 ?h4 hst ?_;(case h1 => rfl);(case h2 => rfl);(case h3 => rfl);(case h4 => rfl);simp only [go_sem,↓dP,↓reduceIte];with_reducible and_intros;all_goals first|apply qA|exact qC|skip)
 intro Y a3 w6 hinv
 have hst:=St.of hinv rfl
 have hrec:=c_cuttings11 J m (isMemo_memo J.ps m) hM hG hJ l us (by rw [hus];rfl) Jq Jx hJq hJx _ hR J.ps.length [] [] 0 (by simp) (Nat.le_refl _) (fun x hx => by simp at hx) (by simp) (fun p hp => by rw [Nat.zero_add])
 refine tail_in rfl (hook_recG hc2 hst rfl rfl rfl rfl rfl (by decide) rfl rfl ?_ hrec ?_)
 ·intro I4 _ i u s hu hs
  rcases i with _ | _ | i
  ·simp [Act.eval] at hu hs;subst hu;subst hs;exact fun Y => .d .sl0
  ·simp [Act.eval] at hu hs;subst hu;subst hs;exact fun Y => .d .sl0
  ·simp at hs
 ·intro b I4 a4 w7 hc4 hst
  refine tail_end ?_
  obtain ⟨I5,_,hc5,hd,_⟩:=hst.anew hc4 rfl rfl rfl
  have hJ2:∃ I' V',Jq ((putK J.fit J.ps.length [] []).map ctS).length I' V' w7∨∃ i,i < ((putK J.fit J.ps.length [] []).map ctS).length/\Jx i I' V' w7:=by
   obtain ⟨⟨_,_,_,_,_,q6⟩,_⟩:=hc5
   cases b with
   | true =>
    rw [if_pos rfl,Nat.zero_add] at q6
    exact ⟨I5,_,.inl (by rw [List.length_map];exact q6)⟩
   | false =>
    exact ⟨I5,_,.inr q6⟩
  obtain ⟨v,hv⟩:=results_nothing (P:=Try.prog) (fn:=Try.f96) rfl a4.tmps w7
  exact ⟨hd,v,hv,⟨v,rfl⟩,hJ2⟩
end
end Go.Proofs.Leaf
namespace Go.Proofs.Leaf
open Go Go.RX Go.Proofs
set_option maxRecDepth 10000
variable [Glob]
abbrev ctsD (J:Job):DV:=.clo 96 1 (dget [J.ref])
theorem c_cuttings (J:Job):Ctr Try.prog 76 [J.sv] (.d (ctsD J)):=by
 (refine Ctr.mk (fn:=Try.f76) rfl rfl rfl rfl rfl Try.results76 ?_;intro _;dsimp only [args,List.toList_toArray])
 (first|refine qE ?_|refine qD ?_);(simp only [go_sem,↓dP,↓reduceIte];with_reducible and_intros;all_goals first|apply qA|exact qC|skip)
 refine Ok.sub (Sub.frzB (b:=0) rfl rfl) ?_
 (first|refine qE ?_|refine qD ?_);(simp only [go_sem,↓dP,↓reduceIte];with_reducible and_intros;all_goals first|apply qA|exact qC|skip)
 (refine Ok.ret ?_;(try dsimp only [thenK,blockK,noGotoK]);simp only [toList_mk,List.toList_toArray,retK_ret,retK_normal,resOK,resV,celV,rowV,frzAll,frzT,subV,subL,go_sem,↓dP,↓reduceIte])
 exact .refl _
theorem c_bests_1 (x y:List Nat×Nat):Ctr Try.prog 77 [ctS x,ctS y] (bS (decide ((x.2:Int) < y.2))):=by
 (refine Ctr.mk (fn:=Try.f77) rfl rfl rfl rfl rfl Try.results77 ?_;intro _;dsimp only [args,List.toList_toArray])
 (first|refine qE ?_|refine qD ?_);(simp only [go_sem,↓dP,↓reduceIte];with_reducible and_intros;all_goals first|apply qA|exact qC|skip)
 (first|refine qE ?_|refine qD ?_);(simp only [go_sem,↓dP,↓reduceIte];with_reducible and_intros;all_goals first|apply qA|exact qC|skip)
 (refine Ok.ret ?_;(try dsimp only [thenK,blockK,noGotoK]);simp only [toList_mk,List.toList_toArray,retK_ret,retK_normal,resOK,resV,celV,rowV,frzAll,frzT,subV,subL,go_sem,↓dP,↓reduceIte])
 ((repeat' with_reducible apply And.intro)<;>(first | exact DEq.refl _ | refine DEq.int ?_ | refine DEq.bool ?_ | skip))
end Go.Proofs.Leaf
