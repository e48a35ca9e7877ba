/-
  The theorem of one gilder: TopLaid returns true at every input, and leaves it as it was.
  No condition beside those that the statement itself names.
-/
import Derived.Test.YtmpnbmedikkggaaGTopLaid03
set_option linter.all false
namespace Go.Proofs.Leaf
open Go Go.RX Go.Proofs
set_option maxRecDepth 10000
section
theorem c_plans11 (J:Job) (hf km:Nat) (ck:Nat->DV) (pieces:List Int) (l:Nat) (us:Array Value) (Jq Jx:Jt) (hJ:Stab Jq) (hJx:Stab Jx) (xs:List SV) (hR:Rounds Try.prog l xs Jq Jx) (hus:us.size = 5) (hp:pieces.length<=100) (span:Int->Int×Int) (hs:∀ n∈pieces,Ctr Try.prog hf (J.sv :: iS n :: take ck 0 km) (spS (span n)))
  (hb:∀ n∈pieces,-1000<=(span n).1/\(span n).2<=1000):∀ (rest now:List Int) (i:Nat),now.length + rest.length = pieces.length->pieces.drop now.length = rest->i + (planL (rest.map span) now).length<=xs.length->(∀ q,q < (planL (rest.map span) now).length->xs.getD (i + q) .any = ilS ((planL (rest.map span) now).getD q [])) ->
  @CalJ _ (plG J hf km ck pieces l us Jq Jx xs.length hJ hJx) Try.prog 54 us [ilS now] (some i) (fun b => if b = true then some (i + (planL (rest.map span) now).length) else none):=by
 intro rest
 induction rest with
 | nil =>
  intro now i hlen hdrop hi hx
  refine @CalJ.mk _ (plG J hf km ck pieces l us Jq Jx xs.length hJ hJx) _ _ _ _ (plCs J hf km ck pieces l us) _ _ Try.f54 _ _ _ rfl rfl rfl rfl rfl rfl hus (fun hc => hc.2.2.2.2.1) (fun Is ws => ?_)
  letI:=gsF (plG J hf km ck pieces l us Jq Jx xs.length hJ hJx) Is ws
  dsimp only [args,List.cons_append,List.nil_append]
  (first | refine OkJ.first (fun _ => ?_) | refine OkJ.walk (fun _ => ?_))
  (first|refine qE ?_|refine qD ?_);(simp only [go_sem,↓dP,↓reduceIte];with_reducible and_intros;all_goals first|apply qA|exact qC|skip)
  (try dsimp only [thenJ,blockJ,noGotoJ,thenK,blockK,noGotoK])
  refine OkJ.seq ?_
  (first | refine OkJ.first (fun _ => ?_) | refine OkJ.walk (fun _ => ?_))
  (first|refine qE ?_|refine qD ?_);(simp only [go_sem,↓dP,↓reduceIte];with_reducible and_intros;all_goals first|apply qA|exact qC|skip)
  (try dsimp only [thenJ,blockJ,noGotoJ,thenK,blockK,noGotoK])
  refine OkJ.cond rfl (fun _ => ?_) (fun hb => by simp at hb;simp at hlen;omega)
  refine OkJ.seq ?_
  (refine OkJ.tail 2 ?h1 ?h2 ?h3 ?h4 ?_;(case h1 => rfl);(case h2 => rfl);(case h3 => rfl);(case h4 => rfl);intro I0 w0 hc;simp only [go_sem,↓dP,↓reduceIte];with_reducible and_intros;all_goals first|apply qA|exact qC|skip)
  (intro a w hst;simp only [go_sem,↓dP,↓reduceIte] at hst)
  have e1:planL (List.map span []) now = [now]:=rfl
  rw [e1] at hi hx ⊢
  refine tail_in rfl (hook_yield hc hst rfl rfl rfl rfl rfl (by decide) rfl rfl (fun b => if b = true then some (i + 1) else none) (round_itF hR (fun _ _ _ _ _ _ _ _ => trivial) (by have:i + 1<=xs.length:=hi;omega) (hx 0 Nat.zero_lt_one) Is ws) ?_)
  intro b I1 a1 w1 hc1 hs1
  (refine RX.hrest hs1 ?h1 ?h2 ?h3 ?_;(case h1 => rfl);(case h2 => rfl);(case h3 => rfl);simp only [go_sem,↓dP,↓reduceIte,bare];with_reducible and_intros;all_goals first|apply qA|exact qC|skip)
  intro a2 w2 hs2
  refine ⟨_,_,_,_,?_,hc1,hs2⟩
  (try dsimp only [thenJ,blockJ,noGotoJ,thenK,blockK,noGotoK])
  (refine OkJ.ret ?_;(try dsimp only [thenJ,blockJ,noGotoJ]))
  exact ⟨.inl rfl,b,rfl,rfl⟩
 | cons n rest ih =>
  intro now i hlen hdrop hi hx
  have hlt:now.length < pieces.length:=by simp at hlen;omega
  have hn:pieces.getD now.length default = n:=by
   have:=congrArg (fun l => l.head?) hdrop
   simp only [List.head?_drop,List.head?_cons] at this
   rw [List.getD_eq_getElem?_getD,this];rfl
  have hmem:n∈pieces:=by rw [← hn];exact getD_mem' hlt
  refine @CalJ.mk _ (plG J hf km ck pieces l us Jq Jx xs.length hJ hJx) _ _ _ _ (plCs J hf km ck pieces l us) _ _ Try.f54 _ _ _ rfl rfl rfl rfl rfl rfl hus (fun hc => hc.2.2.2.2.1) (fun Is ws => ?_)
  letI:=gsF (plG J hf km ck pieces l us Jq Jx xs.length hJ hJx) Is ws
  dsimp only [args,List.cons_append,List.nil_append]
  (first | refine OkJ.first (fun _ => ?_) | refine OkJ.walk (fun _ => ?_))
  (first|refine qE ?_|refine qD ?_);(simp only [go_sem,↓dP,↓reduceIte];with_reducible and_intros;all_goals first|apply qA|exact qC|skip)
  (try dsimp only [thenJ,blockJ,noGotoJ,thenK,blockK,noGotoK])
  refine OkJ.seq ?_
  (first | refine OkJ.first (fun _ => ?_) | refine OkJ.walk (fun _ => ?_))
  (first|refine qE ?_|refine qD ?_);(simp only [go_sem,↓dP,↓reduceIte];with_reducible and_intros;all_goals first|apply qA|exact qC|skip)
  (try dsimp only [thenJ,blockJ,noGotoJ,thenK,blockK,noGotoK])
  refine OkJ.cond rfl (fun hb => by simp at hb;omega) (fun _ => ?_)
  (refine OkJ.skip ?_;(try dsimp only [thenJ,blockJ,noGotoJ]))
  (first | refine OkJ.first (fun _ => ?_) | refine OkJ.walk (fun _ => ?_))
  (first|refine qE ?_|refine qD ?_);(simp only [go_sem,↓dP,↓reduceIte];with_reducible and_intros;all_goals first|apply qA|exact qC|skip)
  rw [hn]
  (refine AskI.ret (hs n hmem) ?_;simp only [go_sem,↓dP,↓reduceIte];with_reducible and_intros;all_goals first|apply qA|exact qC|skip)
  (try dsimp only [thenJ,blockJ,noGotoJ,thenK,blockK,noGotoK])
  refine OkJ.seq ?_
  (first | refine OkJ.first (fun _ => ?_) | refine OkJ.walk (fun _ => ?_))
  (first|refine qE ?_|refine qD ?_);(simp only [go_sem,↓dP,↓reduceIte];with_reducible and_intros;all_goals first|apply qA|exact qC|skip)
  (try dsimp only [thenJ,blockJ,noGotoJ,thenK,blockK,noGotoK])
  refine OkJ.block ?_
  obtain ⟨L,hL⟩:∃ L,L = hoursL (span n).1 (span n).2:=⟨_,rfl⟩
  obtain ⟨F,hF⟩:∃ F:Int->List (List Int),F = fun h => if h∈now then [] else planL (rest.map span) (now ++ [h]):=⟨_,rfl⟩
  have hplan:planL ((n :: rest).map span) now = L.flatMap F:=by rw [hL,hF];rfl
  have hlen2:L.length = ((span n).2 + 1 - (span n).1).toNat:=by rw [hL];exact hours_len _ _
  have hat:∀ x,x < L.length->L.getD x default = (span n).1 + x:=fun x hx => by rw [hL] at hx ⊢;exact hours_at hx
  have hb':=hb n hmem
  rw [hplan] at hi hx ⊢
  refine OkJ.count L.length (fun x => { env:=[(0,ilS now),(1,.d (.ref 1 (dget [slD 1 intD pieces]))),(2,.d (.ref 1 (dget [.raw (.func (.yield l) #[] #[])]))),(3,.d (.ref 1 (dget [.clo hf km ck]))),(4,.d J.ref),(5,.d (.ref 1 (dget [.raw (.func (.func 54) #[] us)]))),(8,.d (.ref 2 (dget [iD (span n).1,iD (span n).2]))),(9,iS ((span n).1 + x))],bx:=[],tk:=[] }) (fun x => some (i + ((L.take x).flatMap F).length)) ⟨?_,rfl⟩ (fun x hxL => ?_) ?_
  ·refine (Sub.frzB (b:=0) rfl rfl).trans ((Sub.refB (b:=0) rfl rfl rfl).trans (Sub.of [] [] trivial trivial ?_ rfl rfl))
   simp only [subE,subV,subL,go_sem,↓dP,↓reduceIte,refE,refV]
   ((repeat' with_reducible apply And.intro)<;>(first | exact DEq.refl _ | refine DEq.int ?_ | refine DEq.bool ?_ | skip))
   omega
  ·have hx1:(span n).1 + (x:Int)<=(span n).2:=by omega
   have hx2:=hat x hxL
   refine OkJ.seq ?_
   (first | refine OkJ.first (fun _ => ?_) | refine OkJ.walk (fun _ => ?_))
   (first|refine qE ?_|refine qD ?_);(simp only [go_sem,↓dP,↓reduceIte];with_reducible and_intros;all_goals first|apply qA|exact qC|skip)
   (try dsimp only [thenJ,blockJ,noGotoJ,thenK,blockK,noGotoK])
   refine OkJ.cond rfl (fun _ => ?_) (fun hb => by simp at hb;omega)
   (refine OkJ.skip ?_;(try dsimp only [thenJ,blockJ,noGotoJ]))
   refine OkJ.seq ?_
   refine OkJ.block ?_
   refine OkJ.seq ?_
   have hcon:=c_Contains_int now ((span n).1 + x) (by omega)
   by_cases hm:(span n).1 + (x:Int)∈now
   ·rw [decide_eq_true hm] at hcon
    (refine OkJ.tail 11 ?h1 ?h2 ?h3 ?h4 ?_;(case h1 => rfl);(case h2 => rfl);(case h3 => rfl);(case h4 => rfl);intro I0 w0 hc;simp only [go_sem,↓dP,↓reduceIte];with_reducible and_intros;all_goals first|apply qA|exact qC|skip)
    (refine AskI.ret (hcon) ?_;simp only [go_sem,↓dP,↓reduceIte];with_reducible and_intros;all_goals first|apply qA|exact qC|skip)
    (refine AskGI.own (fun hb => CtrF.own (o_Clone_int now (by omega))) ?_ ?_;simp only [go_sem,↓dP,↓reduceIte];with_reducible and_intros;all_goals first|apply qA|exact qC|skip)
    (intro a w hst;simp only [go_sem,↓dP,↓reduceIte] at hst)
    refine tail_if (b:=false) rfl (yielded_at (t:=38) rfl rfl (hst.bool rfl)) (fun e => by cases e) (fun _ => ?_)
    have hst:=hst.putV (d:=45) (v:=undef) (V:=.any) (by decide) (fun _ _ _ _ => .any)
    refine tail_if (b:=false) rfl (yielded_at (t:=38) rfl rfl (hst.bool rfl)) (fun e => by cases e) (fun _ => ?_)
    have hst:=hst.putV (d:=46) (v:=undef) (V:=.any) (by decide) (fun _ _ _ _ => .any)
    refine tail_val rfl (fun c e => by cases e) (run_pick rfl (hst.bool (t:=38) rfl)) ?_
    have hst:=hst.putV (d:=47) (v:=.bool false) (V:=bS false) (by decide) (fun _ _ _ _ => .d .bool)
    refine tail_end ⟨_,_,_,_,?_,hc,hst⟩
    (try dsimp only [thenJ,blockJ,noGotoJ,thenK,blockK,noGotoK])
    refine OkJ.cond (b:=false) (by first | rfl | (simp only [go_sem,↓dP,↓reduceIte];rfl)) (fun hb => by cases hb) (fun _ => ?_)
    (refine OkJ.skip ?_;(try dsimp only [thenJ,blockJ,noGotoJ]))
    (first | refine OkJ.first (fun _ => ?_) | refine OkJ.walk (fun _ => ?_))
    (first|refine qE ?_|refine qD ?_);(simp only [go_sem,↓dP,↓reduceIte];with_reducible and_intros;all_goals first|apply qA|exact qC|skip)
    (try dsimp only [thenJ,blockJ,noGotoJ,thenK,blockK,noGotoK])
    refine ⟨?_,?_⟩
    ·(refine Sub.of ([]) ([]) ?_ ?_ ?_ rfl rfl<;>simp only [subB,subB1,subT,subT1,newT,subE,subV,subL,go_sem,↓dP,↓reduceIte]<;>(try (repeat' with_reducible apply And.intro))<;>(try first | exact DEq.refl _ | refine DEq.int ?_ | refine DEq.bool ?_ | omega))
     omega
    ·rw [flat_take L F hxL,hx2,hF];simp only [if_pos hm,List.length_nil,Nat.add_zero]
   ·rw [decide_eq_false hm] at hcon
    (refine OkJ.tail 11 ?h1 ?h2 ?h3 ?h4 ?_;(case h1 => rfl);(case h2 => rfl);(case h3 => rfl);(case h4 => rfl);intro I0 w0 hc;simp only [go_sem,↓dP,↓reduceIte];with_reducible and_intros;all_goals first|apply qA|exact qC|skip)
    (refine AskI.ret (hcon) ?_;simp only [go_sem,↓dP,↓reduceIte];with_reducible and_intros;all_goals first|apply qA|exact qC|skip)
    (refine AskGI.own (fun hb => CtrF.own (o_Clone_int now (by omega))) ?_ ?_;simp only [go_sem,↓dP,↓reduceIte];with_reducible and_intros;all_goals first|apply qA|exact qC|skip)
    (intro a w hst;simp only [go_sem,↓dP,↓reduceIte] at hst)
    have hst:=(hst.frz 1 rfl).only [(38,bS true),(39,.d (.raw (.func (.func 54) #[] us))),(44,ilS (now ++ [(span n).1 + (x:Int)])),(0,ilS now),(1,.d (.ref 1 (dget [slD 1 intD pieces]))),(2,.d (.ref 1 (dget [.raw (.func (.yield l) #[] #[])]))),(3,.d (.ref 1 (dget [.clo hf km ck]))),(4,.d J.ref),(5,.d (.ref 1 (dget [.raw (.func (.func 54) #[] us)]))),(8,.d (.ref 2 (dget [iD (span n).1,iD (span n).2]))),(9,iS ((span n).1 + x))] (by
     simp only [subE,subV,subL,go_sem,↓dP,↓reduceIte]
     ((repeat' with_reducible apply And.intro)<;>(first | exact DEq.refl _ | refine DEq.int ?_ | refine DEq.bool ?_ | skip))
     refine DEq.sl (n':=(now ++ [(span n).1 + (x:Int)]).length) (by rw [List.length_append];rfl) (snoc_D (f:=intD) (o:=now) (x:=(span n).1 + (x:Int)) (k:=1) (ys:=[.int .i64 ((span n).1 + (x:Int))]) (fun c hc => ?_))
     have:c = 0:=by omega
     subst this;rfl)
    have hFx:F (L.getD x default) = planL (rest.map span) (now ++ [(span n).1 + (x:Int)]):=by rw [hx2,hF];simp only [if_neg hm]
    have hle:=flat_le L F hxL
    have hrec:=ih (now ++ [(span n).1 + (x:Int)]) (i + ((L.take x).flatMap F).length) (by rw [List.length_append];simp at hlen ⊢;omega) (by rw [List.length_append,← List.drop_drop,hdrop];rfl) (by rw [← hFx];omega) (fun q hq => by
     rw [← hFx] at hq ⊢
     rw [Nat.add_assoc,hx _ (by omega),flat_at L F hxL hq])
    refine tail_if (b:=true) rfl (yielded_at (t:=38) rfl rfl (hst.bool rfl)) (fun _ => ?_) (fun e => absurd rfl e)
    refine hook_rec (f:=39) (g:=54) (us:=us) (xs:=[44]) hc hst rfl rfl rfl rfl rfl (by decide) rfl rfl (CalJ.from (G:=plG J hf km ck pieces l us Jq Jx xs.length hJ hJx) hrec) ?_
    intro b I1 a1 w1 hc1 hst
    refine tail_if (b:=true) rfl (yielded_at (t:=38) rfl rfl (hst.bool rfl)) (fun _ => ?_) (fun e => absurd rfl e)
    refine Oper.wp_in (fun c e => by cases e) (wp_val (run_not rfl (hst.bool (t:=45) rfl)) ?_)
    have hst:=hst.putV (d:=46) (v:=.bool (!b)) (V:=bS (!b)) (by decide) (fun _ _ _ _ => .d .bool)
    refine tail_val rfl (fun c e => by cases e) (run_pickT rfl (hst.bool (t:=38) rfl) (hst.bool (t:=46) rfl)) ?_
    have hst:=hst.putV (d:=47) (v:=.bool (!b)) (V:=bS (!b)) (by decide) (fun _ _ _ _ => .d .bool)
    refine tail_end ⟨_,_,_,_,?_,hc1,hst⟩
    (try dsimp only [thenJ,blockJ,noGotoJ,thenK,blockK,noGotoK])
    cases b with
    | true =>
     refine OkJ.cond (b:=false) rfl (fun hb => by cases hb) (fun _ => ?_)
     (refine OkJ.skip ?_;(try dsimp only [thenJ,blockJ,noGotoJ]))
     (first | refine OkJ.first (fun _ => ?_) | refine OkJ.walk (fun _ => ?_))
     (first|refine qE ?_|refine qD ?_);(simp only [go_sem,↓dP,↓reduceIte];with_reducible and_intros;all_goals first|apply qA|exact qC|skip)
     (try dsimp only [thenJ,blockJ,noGotoJ,thenK,blockK,noGotoK])
     refine ⟨?_,?_⟩
     ·(refine Sub.of ([]) ([]) ?_ ?_ ?_ rfl rfl<;>simp only [subB,subB1,subT,subT1,newT,subE,subV,subL,go_sem,↓dP,↓reduceIte]<;>(try (repeat' with_reducible apply And.intro))<;>(try first | exact DEq.refl _ | refine DEq.int ?_ | refine DEq.bool ?_ | omega))
      omega
     ·rw [flat_take L F hxL,hFx,if_pos rfl,Nat.add_assoc]
    | false =>
     refine OkJ.cond (b:=true) rfl (fun _ => ?_) (fun hb => by cases hb)
     (first | refine OkJ.first (fun _ => ?_) | refine OkJ.walk (fun _ => ?_))
     (first|refine qE ?_|refine qD ?_);(simp only [go_sem,↓dP,↓reduceIte];with_reducible and_intros;all_goals first|apply qA|exact qC|skip)
     (try dsimp only [thenJ,blockJ,noGotoJ,thenK,blockK,noGotoK])
     (refine OkJ.ret ?_;(try dsimp only [thenJ,blockJ,noGotoJ]))
     exact ⟨.inl rfl,false,rfl,rfl⟩
  ·refine OkJ.seq ?_
   (first | refine OkJ.first (fun _ => ?_) | refine OkJ.walk (fun _ => ?_))
   (first|refine qE ?_|refine qD ?_);(simp only [go_sem,↓dP,↓reduceIte];with_reducible and_intros;all_goals first|apply qA|exact qC|skip)
   (try dsimp only [thenJ,blockJ,noGotoJ,thenK,blockK,noGotoK])
   refine OkJ.cond rfl (fun hb => by simp at hb;omega) (fun _ => ?_)
   (refine OkJ.exit ?_;(try simp only [thenJ,blockJ,noGotoJ,↓reduceIte,Nat.reduceEqDiff]))
   (first | refine OkJ.first (fun _ => ?_) | refine OkJ.walk (fun _ => ?_))
   (first|refine qE ?_|refine qD ?_);(simp only [go_sem,↓dP,↓reduceIte];with_reducible and_intros;all_goals first|apply qA|exact qC|skip)
   (try dsimp only [thenJ,blockJ,noGotoJ,thenK,blockK,noGotoK])
   (refine OkJ.ret ?_;(try dsimp only [thenJ,blockJ,noGotoJ]))
   rw [List.take_length]
   exact ⟨.inl rfl,true,rfl,rfl⟩
end
end Go.Proofs.Leaf
namespace Go.Proofs.Leaf
open Go Go.RX Go.Proofs
set_option maxRecDepth 10000
section
theorem it_plans1 (J:Job) (hf km:Nat) (ck:Nat->DV) (pieces:List Int) (hp:pieces.length<=100) (span:Int->Int×Int) (hs:∀ n∈pieces,Ctr Try.prog hf (J.sv :: iS n :: take ck 0 km) (spS (span n)))
  (hb:∀ n∈pieces,-1000<=(span n).1/\(span n).2<=1000):It Try.prog 53 [.d (.ref 1 (dget [slD 1 intD pieces])),.d (.ref 1 (dget [.clo hf km ck])),.d J.ref] ((planL (pieces.map span) []).map ilS):=by
 refine ⟨⟨Try.f53,rfl,rfl,rfl⟩,fun I w vs l Jq Jx _ hI _ hl hA hJ hJx hR h0 => ?_⟩
 refine calls_of_wp (fn:=Try.f53) rfl rfl ?_
 have hst:=St.start (N:=Try.f53.ntmps) (A:=[.d (.raw (.func (.yield l) #[] #[])),.d (.ref 1 (dget [slD 1 intD pieces])),.d (.ref 1 (dget [.clo hf km ck])),.d J.ref]) (I:=I) (w:=w) (vs:=#[.func (.yield l) #[] #[]] ++ vs) trivial hI (fun b _ e => by cases e) (by simp [hl]) (Nat.le_of_ble_eq_true rfl) (by
  intro i u s hu hs
  cases i with
  | zero =>
   rw [Array.getElem?_append_left (by simp)] at hu
   simp at hu hs;subst hu;subst hs;exact fun Y => .d (.raw rfl)
  | succ i =>
   refine hA i u s ?_ (by simpa using hs)
   rw [Array.getElem?_append_right (by simp)] at hu
   simpa using hu)
 have hc0:(itG (fun _ => False) Jq Jx ((planL (pieces.map span) []).map ilS).length #[] [] (fun _ e => by cases e) hJ hJx).Cx (some 0) I w:=⟨hI,fun _ _ h => h,fun _ h => h.elim,trivial,fun i u s hu => by simp at hu,h0⟩
 refine (wpIn_wide (n:=0)).1 ?_
 letI:Bas:=⟨I,w⟩
 dsimp only [RX.start,args] at hst
 refine Ok.first hst ?_
 (first|refine qE ?_|refine qD ?_);(simp only [go_sem,↓dP,↓reduceIte];with_reducible and_intros;all_goals first|apply qA|exact qC|skip)
 intro a w1 hst
 refine Ok.first hst ?_
 (first|refine qE ?_|refine qD ?_);(simp only [go_sem,↓dP,↓reduceIte];with_reducible and_intros;all_goals first|apply qA|exact qC|skip)
 intro a w1 hst
 refine wpIn_seq ?_
 (refine hT 0 ?h1 ?h2 ?h3 ?h4 hst ?_;(case h1 => rfl);(case h2 => rfl);(case h3 => rfl);(case h4 => rfl);simp only [go_sem,↓dP,↓reduceIte];with_reducible and_intros;all_goals first|apply qA|exact qC|skip)
 intro Y a w1 hinv
 have hst:=St.of hinv rfl
 obtain ⟨us,hus⟩:∃ us:Array Value,us = #[a.tmps.getD 1 undef,a.tmps.getD 4 undef,a.tmps.getD 2 undef,a.tmps.getD 3 undef,a.tmps.getD 5 undef]:=⟨_,rfl⟩
 refine tail_val (v:=.func (.func 54) #[] us) rfl (fun c e => by cases e) (run_mkf rfl (by rw [hus];simp [Act.eval])) ?_
 have hst:=hst.putV (d:=6) (v:=.func (.func 54) #[] us) (V:=.d (.raw (.func (.func 54) #[] us))) (by decide) (fun _ _ _ _ => .d (.raw rfl))
 have hv:∀ t,t ≠ 6->(a.put (some 6) (.func (.func 54) #[] us)).tmps.getD t undef = a.tmps.getD t undef:=fun t ht => by
  show (a.tmps.setIfInBounds 6 _).getD t undef = _
  rw [Array.getD_eq_getD_getElem?,Array.getD_eq_getD_getElem?,Array.getElem?_setIfInBounds_ne (by omega)]
 obtain ⟨w2,hrun,hst⟩:=hst.store1 (P:=Try.prog) (o:={ dst:=none,op:=Op.store 85 (Operand.tmp 5) (Operand.tmp 6),type:=0,pos:= "",after:=#[],guard:=none }) (tx:=5) (ty:=6) (b:=1) (v:=.func (.func 54) #[] us) rfl rfl rfl rfl rfl rfl rfl (hst.raw (t:=6) rfl) rfl
 refine tail_skp rfl (fun c e => by cases e) hrun (tail_end ?_)
 have hst:=((hst.sub (Sub.frzB (b:=0) rfl rfl)).sub (Sub.frzB (b:=1) rfl rfl)).sub ((Sub.refB (b:=0) rfl rfl rfl).trans (Sub.refB (b:=1) rfl rfl rfl))
 have hst:=hst.only [(1,.d (.ref 1 (dget [slD 1 intD pieces]))),(4,.d (.ref 1 (dget [.raw (.func (.yield l) #[] #[])]))),(2,.d (.ref 1 (dget [.clo hf km ck]))),(3,.d J.ref),(5,.d (.ref 1 (dget [.raw (.func (.func 54) #[] us)])))] (by
  simp only [refE,refV,subE,subV,subL,go_sem,↓dP,↓reduceIte]
  ((repeat' with_reducible apply And.intro)<;>(first | exact DEq.refl _ | refine DEq.int ?_ | refine DEq.bool ?_ | skip)))
 obtain ⟨I1,hst,hc1,_,_⟩:=@St.anew _ (itG (fun _ => False) Jq Jx ((planL (pieces.map span) []).map ilS).length #[] [] (fun _ e => by cases e) hJ hJx) _ _ _ _ _ _ _ hc0 hst rfl rfl rfl
 have hr:=hst.reps rfl rfl rfl
 have hv2:∀ t,t ≠ 6->((a.put (some 6) (.func (.func 54) #[] us)).put none undef).tmps.getD t undef = a.tmps.getD t undef:=hv
 have hc2:(plG J hf km ck pieces l us Jq Jx ((planL (pieces.map span) []).map ilS).length hJ hJx).Cx (some 0) I1 w2:=by
  obtain ⟨q1,q2,q3,q4,_,q6⟩:=hc1
  refine ⟨q1,q2,q3,q4,fun i u s hu hs => ?_,q6⟩
  have e1:=hr 1;have e4:=hr 4;have e2:=hr 2;have e3:=hr 3;have e5:=hr 5
  rw [hv2 _ (by decide)] at e1 e4 e2 e3 e5
  rw [hus] at hu
  rcases i with _ | _ | _ | _ | _ | i
  ·cases hu;cases hs;exact e1
  ·cases hu;cases hs;exact e4
  ·cases hu;cases hs;exact e2
  ·cases hu;cases hs;exact e3
  ·cases hu;cases hs;exact e5
  ·simp at hu
 letI:=plG J hf km ck pieces l us Jq Jx ((planL (pieces.map span) []).map ilS).length hJ hJx
 show Code.wpIn _ _ _ _ _ _ _
 (refine hT 1 ?h1 ?h2 ?h3 ?h4 hst ?_;(case h1 => rfl);(case h2 => rfl);(case h3 => rfl);(case h4 => rfl);simp only [go_sem,↓dP,↓reduceIte];with_reducible and_intros;all_goals first|apply qA|exact qC|skip)
 intro Y a3 w3 hinv
 have hst:=St.of hinv rfl
 have hrec:=c_plans11 J hf km ck pieces l us Jq Jx hJ hJx _ hR (by rw [hus];rfl) hp span hs hb pieces [] 0 (by simp) rfl (by simp) (fun q hq => by
  rw [Nat.zero_add,List.getD_eq_getElem?_getD,List.getElem?_map,List.getElem?_eq_getElem hq,List.getD_eq_getElem?_getD,List.getElem?_eq_getElem hq];rfl)
 refine tail_in rfl (hook_recG hc2 hst rfl rfl rfl rfl rfl (by decide) rfl rfl ?_ hrec ?_)
 ·intro I2 _ i u s hu hs
  cases i with
  | zero => simp [Act.eval] at hu hs;subst hu;subst hs;exact fun Y => .d .sl0
  | succ i => simp at hs
 ·intro b I2 a4 w4 hc4 hst
  refine tail_end ?_
  obtain ⟨I5,_,hc5,hd,_⟩:=hst.anew hc4 rfl rfl rfl
  have hJ2:∃ I' V',Jq ((planL (pieces.map span) []).map ilS).length I' V' w4∨∃ i,i < ((planL (pieces.map span) []).map ilS).length/\Jx i I' V' w4:=by
   obtain ⟨_,_,_,_,_,q6⟩:=hc5
   cases b with
   | true =>
    rw [if_pos rfl,Nat.zero_add] at q6
    exact ⟨I5,_,.inl (by rw [List.length_map];exact q6)⟩
   | false =>
    exact ⟨I5,_,.inr q6⟩
  obtain ⟨v,hv⟩:=results_nothing (P:=Try.prog) (fn:=Try.f53) rfl a4.tmps w4
  exact ⟨hd,v,hv,⟨v,rfl⟩,hJ2⟩
end
end Go.Proofs.Leaf
