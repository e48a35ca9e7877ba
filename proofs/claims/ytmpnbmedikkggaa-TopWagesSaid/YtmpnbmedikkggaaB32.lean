/-
  Contracts, part 33. No condition.
-/
import Derived.Test.YtmpnbmedikkggaaB31
set_option linter.all false
namespace Go.Proofs.Leaf
open Go Go.RX Go.Proofs Go.RowKit
set_option maxRecDepth 10000
section
abbrev cuD (x:List Nat×Nat):Nat->DV:=cutD (asI x.1,(x.2:Int))
abbrev cuC (x:List Nat×Nat):Nat->DV:=dget [slD 1 intD (asI x.1),iD x.2]
abbrev bstL (L:List (List Nat×Nat)):List (List Nat×Nat):=bestF (fun x => x.2) L
abbrev betD:DV:=.clo 77 0 (fun _ => .nilI)
def bstH (n b T:Nat) (L:List (List Nat×Nat)) (i:Nat) (I V:Nat->Prop) (W:World):Prop :=
 ∃ v,Cl n b #[v] T I W/\Hold n 110 2 (bstL (L.take i)).length (fun j => cuD ((bstL (L.take i)).getD j default)) v I V W
def bstJ (w0:World) (I0:Nat->Prop) (n b T:Nat) (v3:Value) (L:List (List Nat×Nat)):Jt:=fun i I V W =>
 Par w0 I0 n I V W/\bstH n b T L i I V W/\RepS I W v3 (.d (.ref 1 (dget [betD])))
def bstA (w0:World) (I0:Nat->Prop) (n b T:Nat) (v3:Value) (L:List (List Nat×Nat)) (i:Nat) (a:Act) (I V:Nat->Prop) (W:World):Prop :=
 bstJ w0 I0 n b T v3 L i I V W/\a.tmps.size = Try.f75.ntmps/\a.defers = []/\a.tmps.getD 5 undef = outP b/\a.tmps.getD 3 undef = v3/\RepS I W (a.tmps.getD 6 undef) (.d (.ref 2 (cuC (L.getD i default))))
theorem bst_succ {L:List (List Nat×Nat)} {i:Nat} (hi:i < L.length):bstL (L.take (i + 1)) = stepB (fun x => x.2) (bstL (L.take i)) (L.getD i default):=by
 unfold bstL bestF
 rw [getD_take hi,List.foldl_append];rfl
theorem add_plain (b o j:Nat):(⟨b,o,none⟩:Addr).add j = ⟨b,o + j,none⟩:=by unfold Addr.add;split<;>simp_all
theorem run_loadCl {P:Program} {a:Act} {o:Oper} {t:TypeId} {x:Operand} {b T n:Nat} {u:Value} {I:Nat->Prop} {w:World} (ho:o.op = .load t x) (hx:a.eval x = .pointer (some ⟨b,0,none⟩)) (hl:ldT P t = some (false,1)) (hc:Cl n b #[u] T I w):(execOp a.eval o).run P w = .ok (.value u) w:=by
 have h:=run_load_row (P:=P) (w:=w) (b:=b) (off:=0) hl (us:=[u]) rfl (fun j v hj => by
  match j,hj with
  | 0,hj =>
   simp at hj;subst hj
   unfold World.cell?
   rw [hc.2.2];rfl)
 exact run_load_op ho hx h
theorem raw_eq {I:Nat->Prop} {w:World} {u v:Value} (h:Rep I w u (.raw v)):u = v:=by cases h;rfl
theorem bst_see {n b T:Nat} {v3 v6 v:Value} {out:List (List Nat×Nat)} {x:List Nat×Nat} {I V:Nat->Prop} {W:World} {a:Act} {N:Nat} (hlt:∀ c,I c->c < W.heap.size) (hs:n<=W.heap.size)
  (hB:Cl n b #[v] T I W) (hH:Hold n 110 2 out.length (fun j => cuD (out.getD j default)) v I V W) (h3:RepS I W v3 (.d (.ref 1 (dget [betD])))) (h6:RepS I W v6 (.d (.ref 2 (cuC x))))
  (q1:a.tmps.size = N) (q2:a.defers = []) (q5:a.tmps.getD 5 undef = outP b) (q3:a.tmps.getD 3 undef = v3) (q6:a.tmps.getD 6 undef = v6) :
  @St g0 ⟨[],[(3,v3),(5,outP b),(6,v6)]⟩ { env:=[(3,.d (.ref 1 (dget [betD]))),(5,.d (.ref 1 (dget [.sl 2 out.length (fun j => cuD (out.getD j default))]))),(6,.d (.ref 2 (cuC x)))],bx:=[],tk:=[] } (fun c => I c∨v.ownBlock = some c∨c = b) N W a W:=by
 have hblt:=hB.1
 refine @St.data _ ⟨[],[(3,v3),(5,outP b),(6,v6)]⟩ _ _ _ _ _ (fun _ => none) (fun _ => none) (fun _ => none) q1 q2 (fun c hc => ?_) (fun b _ e => by cases e) trivial (dat_cons ?_ (dat_cons ?_ (dat_cons ?_ dat_nil))) ?_
 ·rcases hc with q | q | q
  ·exact hlt c q
  ·exact (hH.lt c q).2
  ·omega
 ·rw [q3];exact fun Y => (h3 Y).mono (fun _ h => .inl h) (fun _ _ => rfl) (fun _ _ h => h) (fun _ _ h => h)
 ·rw [q5]
  refine fun Y => .d (.ref (fun _ => v) (.inr (.inr rfl)) (fun k hk => ?_) (fun k hk => ?_))
  ·have:k = 0:=by omega
   subst this
   unfold World.cell?
   rw [hB.2.2];rfl
  ·have:k = 0:=by omega
   subst this
   exact hH.data.mono (fun c h => h.imp (fun q => q) (fun q => .inl q)) (fun _ _ => rfl)
 ·rw [q6];exact fun Y => (h6 Y).mono (fun _ h => .inl h) (fun _ _ => rfl) (fun _ _ h => h) (fun _ _ h => h)
 ·intro p hp
  simp at hp
  rcases hp with rfl | rfl | rfl
  ·exact q3
  ·exact q5
  ·exact q6
theorem c_best (gf k:Nat) (c:Nat->DV) (L:List (List Nat×Nat)) (hL:L.length<=100000) (hit:It Try.prog gf (take c 0 k) (L.map ctS)) :
  Ctr Try.prog 75 [.d (.clo gf k c),.d betD] (.d (.sl 2 (bstL L).length (fun j => cuD ((bstL L).getD j default)))):=by
 refine Ctr.marks (fn:=Try.f75) rfl rfl rfl rfl rfl rfl (fun I w a _ hI _ hst => ?_)
 dsimp only [args] at hst
 letI:Bas:=⟨I,w⟩
 refine Ok.first hst ?_
 (first|refine qE ?_|refine qD ?_);(simp only [go_sem,↓dP,↓reduceIte];with_reducible and_intros;all_goals first|apply qA|exact qC|skip)
 intro a w1 hst
 show Code.wpIn _ _ _ _ _ _ _
 refine Ok.first hst ?_
 (first|refine qE ?_|refine qD ?_);(simp only [go_sem,↓dP,↓reduceIte];with_reducible and_intros;all_goals first|apply qA|exact qC|skip)
 intro a w1 hst
 show Code.wpIn _ _ _ _ _ _ _
 refine wpIn_seq ?_
 refine Ok.first hst ?_
 (first|refine qE ?_|refine qD ?_);(simp only [go_sem,↓dP,↓reduceIte];with_reducible and_intros;all_goals first|apply qA|exact qC|skip)
 intro a w1 hst
 show Code.wpIn _ _ _ _ _ _ _
 have hst:=hst.sealt 3 0 rfl rfl rfl
 obtain ⟨I1,bl,i1,i2,i3,_,hkeep,hdf,hsz,hdat,_,hptr,hbox⟩:=hst.parked rfl hI
 obtain ⟨n5,l5,o5,cs5,T5,hc5,s5,o51,hrp⟩:=hbox 1 _ rfl rfl rfl
 obtain ⟨u5,rfl⟩:∃ u5,cs5 = #[u5]:=Array.size_eq_one_iff.1 s5
 have hp5:a.tmps.getD 5 undef = outP (bl 1):=hptr 5 1 0 rfl
 have hu5:u5 = .slice none 0 0:=by
  have:=mt_d (hrp 0 u5 .nils rfl rfl (fun _ => none))
  cases this;rfl
 subst hu5
 have hdf:a.defers = []:=hdf
 generalize bl 1 = b at *
 have h7:=mt_d (hdat 7 _ rfl (fun _ => none))
 obtain ⟨us,hg,hus,hrus⟩:∃ us:Array Value,a.tmps.getD 7 undef = .func (.func gf) #[] us/\us.size = k/\∀ i u,us[i]? = some u->Rep I1 w1 u (c i):=by
  generalize a.tmps.getD 7 undef = v at h7
  cases h7 with
  | clo h1 h2 => exact ⟨_,rfl,h1,fun i u hu => h2 i u hu⟩
 have h3:RepS I1 w1 (a.tmps.getD 3 undef) (.d (.ref 1 (dget [betD]))):=hdat 3 _ rfl
 obtain ⟨v3,hv3⟩:∃ v3,a.tmps.getD 3 undef = v3:=⟨_,rfl⟩
 rw [hv3] at h3
 have hpar:Par w I w1.heap.size I1 (fun _ => False) w1:=⟨hkeep.size,hkeep,fun b hb => (i2 b hb).imp (fun q => q) (fun q => q.1),fun b hb => hb.elim,Nat.le_refl _,i3,fun _ _ h => h,fun _ h => h.elim⟩
 refine wpIn_block ?_
 refine wp_rangeIt (I0:=I1) hg hdf hit trivial i3 (fun b _ e => by cases e) (by rw [hus,take_len]) ?reps (bstJ w I w1.heap.size b T5 v3 L) (fun _ _ _ _ => False)
  (bstA w I w1.heap.size b T5 v3 L)
  ?st1 ?st2 ?pu1 ?pu2 ?pu3 ⟨hpar,⟨_,⟨l5,o5,hc5⟩,Hold.nil _ _ _ _ _ _ _⟩,h3⟩ ?assign ?body ?done ?stop
 case st1 => rintro i I I' V V' W W' ⟨h1,⟨v,h2,h4⟩,h3⟩ he;exact ⟨h1.ext he,⟨v,h2.ext h1 he,h4.ext he h1.lt h1.dis⟩,h3.ext he h1.lt h1.dis⟩
 case st2 => rintro i I I' V V' W W' h;exact h.elim
 case pu1 => rintro i I V W k o o' hk ⟨h1,⟨v,h2,h4⟩,h3⟩ hko ho hik;exact ⟨h1.put hk,⟨v,h2.put hko ho,h4.put hko ho hik⟩,h3.putO hik⟩
 case pu2 => rintro i I V W k o o' hk h;exact h.elim
 case pu3 => rintro i a' I V W k o o' hk ⟨⟨h1,⟨v,h2,h4⟩,h3⟩,q1,q2,q3,q4,q5⟩ hko ho hik;exact ⟨⟨h1.put hk,⟨v,h2.put hko ho,h4.put hko ho hik⟩,h3.putO hik⟩,q1,q2,q3,q4,q5.putO hik⟩
 case reps =>
  intro j u s hu hs
  have:=take_at c k 0 j s hs
  rw [Nat.zero_add] at this
  subst this
  exact fun Y => .d (hrus j u hu)
 case assign =>
  rintro l i I2 V W v hi ⟨hP,⟨v5,hB,hH⟩,h3⟩ _ _ _ _ hv
  have hi':i < L.length:=by simpa using hi
  have hx:(L.map ctS).getD i .any = ctS (L.getD i default):=by
   rw [List.getD_eq_getElem?_getD,List.getElem?_map,List.getElem?_eq_getElem hi',getD_lt hi'];rfl
  rw [hx] at hv
  letI:Rnd:=⟨some l⟩
  letI:Bas:=⟨I2,W⟩
  have hs0:St { env:=[(3,.d (.raw v3)),(5,.d (.raw (outP b))),(8,ctS (L.getD i default))],bx:=[],tk:=[] } I2 a.tmps.size W { tmps:=a.tmps.setIfInBounds 8 v,defers:=[] } W:=by
   refine St.data (β:=fun _ => none) (τ:=fun _ => none) (Y:=fun _ => none) (by simp) rfl hP.lt (fun b _ e => by cases e) trivial (dat_cons (repS_raw ?_ (mt_d (h3 (fun _ => none))).one) (dat_cons (repS_raw ?_ rfl) (dat_cons ?_ dat_nil)))
   ·show (a.tmps.setIfInBounds 8 v).getD 3 undef = _
    rw [tmp_ne (by decide),hv3]
   ·show (a.tmps.setIfInBounds 8 v).getD 5 undef = _
    rw [tmp_ne (by decide),hp5]
   ·show RepS I2 W ((a.tmps.setIfInBounds 8 v).getD 8 undef) _
    rw [tmp_eq (by rw [hsz];decide)]
    exact hv
  refine Ok.enter (N:=a.tmps.size) hs0 ?_
  rw [hsz]
  (first|refine qE ?_|refine qD ?_);(simp only [go_sem,↓dP,↓reduceIte];with_reducible and_intros;all_goals first|apply qA|exact qC|skip)
  intro a2 W2 hst2
  have hst2:=(hst2.sealt 6 0 rfl rfl rfl).only [(6,.d (.ref 2 (cuC (L.getD i default)))),(3,.d (.raw v3)),(5,.d (.raw (outP b)))] (by
   simp only [subE,subV,subL,go_sem,↓dP,↓reduceIte]
   ((repeat' with_reducible apply And.intro)<;>(first | exact DEq.refl _ | refine DEq.int ?_ | refine DEq.bool ?_ | skip)))
  obtain ⟨I3,hst3,j1,j2,_,_,hk3,_,hd3⟩:=hst2.rebase rfl rfl rfl hP.lt
  have hr:=hst3.reps rfl rfl rfl
  obtain ⟨hY,hP3⟩:=hP.yq hk3 j1 j2
  have j3:∀ b,I3 b->I2 b∨W.heap.size<=b:=fun b hb => (j2 b hb).imp (fun q => q) (fun q => q.1)
  refine ⟨I3,hY,⟨hP3,⟨v5,hB.keep hP hk3 j3,hH.keep hk3 hP.lt j1 j3⟩,h3.kept ⟨hk3.size,j1,fun b hb => hk3.block b (hP.lt b hb) (fun e => by cases e)⟩⟩,?_,hd3,?_,?_,hr 6⟩
  ·obtain ⟨_,_,_,hx⟩:=hst3 (fun _ => none);rw [hx.sz]
  ·exact hst3.raw (t:=5) rfl
  ·exact hst3.raw (t:=3) rfl
 case body =>
  rintro l i I2 V W a2 hi ⟨⟨hP,⟨v,hB,hH⟩,h3⟩,q1,q2,q5,q3,q6⟩ _ _ _ _
  have hi':i < L.length:=by simpa using hi
  letI:Rnd:=⟨some l⟩
  have hlen:(bstL (L.take i)).length<=100000:=by
   have h1:(bstL (L.take i)).length<=(L.take i).length:=by
    unfold bstL;rw [bestF_eq];exact List.length_filter_le _ _
   rw [List.length_take] at h1;omega
  have hsucc:=bst_succ hi'
  obtain ⟨x,hx⟩:∃ x,L.getD i default = x:=⟨_,rfl⟩
  rw [hx] at q6 hsucc
  obtain ⟨out,hout⟩:∃ out,bstL (L.take i) = out:=⟨_,rfl⟩
  rw [hout] at hH hlen hsucc
  show Code.wpIn fen 0 Try.prog _ _ _ _
  refine wpIn_block ?_
  refine wpIn_seq (wpIn_mono (Q:=fun e ac Wc => e = .normal/\∃ (out':List (List Nat×Nat)) (v':Value),out'.length<=100000/\stepB (fun x => x.2) out x = (match out' with | [] => [x] | y :: r => if y.2 < x.2 then y :: r else y :: r ++ [x]) /\
    Par w I w1.heap.size I2 V Wc/\Yq I2 I2 V W Wc/\Cl w1.heap.size b #[v'] T5 I2 Wc/\Hold w1.heap.size 110 2 out'.length (fun j => cuD (out'.getD j default)) v' I2 V Wc/\RepS I2 Wc v3 (.d (.ref 1 (dget [betD]))) /\
    ac.tmps.size = Try.f75.ntmps/\ac.defers = []/\ac.tmps.getD 5 undef = outP b/\ac.tmps.getD 3 undef = v3/\RepS I2 Wc (ac.tmps.getD 6 undef) (.d (.ref 2 (cuC x)))) ?_ ?_)
  ·
   obtain ⟨v6,hv6⟩:∃ v6,a2.tmps.getD 6 undef = v6:=⟨_,rfl⟩
   have hst:=bst_see hP.lt hP.sz hB hH h3 (hv6 ▸ q6) q1 q2 q5 q3 hv6
   letI:Dfr:=⟨[],[(3,v3),(5,outP b),(6,v6)]⟩
   letI:Bas:=⟨fun c => I2 c∨v.ownBlock = some c∨c = b,W⟩
   refine Ok.first hst ?_
   (first|refine qE ?_|refine qD ?_);(simp only [go_sem,↓dP,↓reduceIte];with_reducible and_intros;all_goals first|apply qA|exact qC|skip)
   ·intro h;simpa using h
   (refine AskGI.ret (fun _ => c_bests_1 x (out.getD 0 default)) ?_;simp only [go_sem,↓dP,↓reduceIte];with_reducible and_intros;all_goals first|apply qA|exact qC|skip)
   intro a3 W3 hst3
   obtain ⟨_,_,_,hx3⟩:=hst3 (fun _ => none)
   have hk3:Keep W.heap.size W W3:=hx3.bel
   have hf3:=hx3.fx (3,v3) (.head _)
   have hf5:=hx3.fx (5,outP b) (.tail _ (.head _))
   have hf6:=hx3.fx (6,v6) (.tail _ (.tail _ (.head _)))
   have hz3:=hx3.sz
   have hd3:a3.defers = []:=hx3.df
   obtain ⟨hY,hP3⟩:=hP.yq hk3 (I':=I2) (fun _ h => h) (fun _ h => .inl h)
   have hB3:=hB.same hP.sz hk3
   have hH3:=hH.keep hk3 hP.lt (fun _ h => h) (fun _ h => .inl h)
   have h33:=h3.same hP.lt hk3
   have h63:RepS I2 W3 v6 (.d (.ref 2 (cuC x))):=(hv6 ▸ q6).same hP.lt hk3
   refine hand_cond hst3 rfl (fun hb => ?_) (fun hb => ?_)
   ·have hne:out ≠ []/\x.2 < (out.getD 0 default).2:=by
     simp only [Bool.and_eq_true,decide_eq_true_eq] at hb
     refine ⟨fun e => by rw [e] at hb;simp at hb,by omega⟩
    refine wpIn_region ?_
    obtain ⟨y1,hP4,hB4,ho⟩:=hP3.row n5 hB3 (cs:=#[.slice none 0 0])
    refine tail_skp (m:=0) (k:=0) rfl (fun c e => by cases e) (run_storeCl (a:=a3) (b:=b) (I:=I2) (T:=T5) (u:=v) (v:=.slice none 0 0) rfl rfl hf5 rfl rfl rfl hB3) ?_
    refine tail_end ⟨rfl,[],.slice none 0 0,by simp,?_,hP4,hY.trans y1,hB4,Hold.nil _ _ _ _ _ _ _,h33.row hB3.2.1,hz3,hd3,hf5,hf3,?_⟩
    ·obtain ⟨y,r,rfl⟩:∃ y r,out = y :: r:=by
      cases out with
      | nil => exact absurd rfl hne.1
      | cons y r => exact ⟨y,r,rfl⟩
     have h2:x.2 < y.2:=by simpa using hne.2
     simp only [stepB,if_pos h2]
    ·rw [show (a3.put none undef).tmps.getD 6 undef = v6 from hf6];exact h63.row hB3.2.1
   ·refine wpIn_skip ⟨rfl,out,v,hlen,?_,hP3,hY,hB3,hH3,h33,hz3,hd3,hf5,hf3,by rw [hf6];exact h63⟩
    cases out with
    | nil => rfl
    | cons y r =>
     have h2:¬ x.2 < y.2:=by simp at hb;omega
     simp only [stepB,if_neg h2]
  ·rintro e ac Wc ⟨rfl,out',v',hlen',hstep,hPc,hYc,hBc,hHc,h3c,z1,z2,z5,z3,z6⟩
   show Code.wpIn fen 0 Try.prog _ _ _ _
   obtain ⟨v6,hv6⟩:∃ v6,ac.tmps.getD 6 undef = v6:=⟨_,rfl⟩
   have hst:=bst_see hPc.lt hPc.sz hBc hHc h3c (hv6 ▸ z6) z1 z2 z5 z3 hv6
   letI:Dfr:=⟨[],[(3,v3),(5,outP b),(6,v6)]⟩
   letI:Bas:=⟨fun c => I2 c∨v'.ownBlock = some c∨c = b,Wc⟩
   refine Ok.first hst ?_
   (first|refine qE ?_|refine qD ?_);(simp only [go_sem,↓dP,↓reduceIte];with_reducible and_intros;all_goals first|apply qA|exact qC|skip)
   ·intro h
    have:out'.length ≠ 0:=fun e => by rw [e] at h;simp at h
    omega
   (refine AskGI.ret (fun _ => c_bests_1 (out'.getD 0 default) x) ?_;simp only [go_sem,↓dP,↓reduceIte];with_reducible and_intros;all_goals first|apply qA|exact qC|skip)
   intro a3 W3 hst3
   obtain ⟨_,_,_,hx3⟩:=hst3 (fun _ => none)
   have hk3:Keep Wc.heap.size Wc W3:=hx3.bel
   have hf3:=hx3.fx (3,v3) (.head _)
   have hf5:=hx3.fx (5,outP b) (.tail _ (.head _))
   have hf6:=hx3.fx (6,v6) (.tail _ (.tail _ (.head _)))
   have hz3:=hx3.sz
   have hd3:a3.defers = []:=hx3.df
   obtain ⟨hY3,hP3⟩:=hPc.yq hk3 (I':=I2) (fun _ h => h) (fun _ h => .inl h)
   have hB3:=hBc.same hPc.sz hk3
   have hH3:=hHc.keep hk3 hPc.lt (fun _ h => h) (fun _ h => .inl h)
   have h33:=h3c.same hPc.lt hk3
   have h63:RepS I2 W3 v6 (.d (.ref 2 (cuC x))):=(hv6 ▸ z6).same hPc.lt hk3
   refine hand_cond hst3 rfl (fun hb => ?_) (fun hb => ?_)
   ·have e:bstL (L.take (i + 1)) = out' ++ [x]:=by
     rw [hsucc,hstep]
     cases out' with
     | nil => rfl
     | cons y r =>
      have h2:¬ y.2 < x.2:=by simp at hb;omega
      simp only [if_neg h2]
    obtain ⟨b6,o6,us6,e6,hI6,hc6,hr6⟩:∃ (b6 o6:Nat) (us:Nat->Value),v6 = .pointer (some ⟨b6,o6,none⟩)/\I2 b6/\(∀ j,j < 2->W3.cell? ⟨b6,o6 + j,none⟩ = some (us j))/\∀ j,j < 2->Rep I2 W3 (us j) (cuC x j):=by
     have hm:=mt_d (h63 (fun _ => none))
     generalize v6 = u at hm
     cases hm with
     | ref us q1 q2 q3 => exact ⟨_,_,us,rfl,q1,q2,q3⟩
    have hone:v'.oneCell' = true:=hH3.one
    have r0:Rep I2 W3 (us6 0) (cuC x 0):=hr6 0 (by decide)
    have r1:Rep I2 W3 (us6 1) (cuC x 1):=hr6 1 (by decide)
    have hst7:@St g0 ⟨[],[(5,outP b)]⟩ { env:=[(5,.d (.ref 1 (dget [.raw v']))),(6,.d (.ref 2 (dget [.raw (us6 0),.raw (us6 1)])))],bx:=[],tk:=[] } (fun c => I2 c∨c = b) Try.f75.ntmps W3 a3 W3:=by
     refine @St.data _ ⟨[],[(5,outP b)]⟩ _ _ _ _ _ (fun _ => none) (fun _ => none) (fun _ => none) hz3 hd3 (fun c hc => ?_) (fun b _ e => by cases e) trivial (dat_cons ?_ (dat_cons ?_ dat_nil)) ?_
     ·rcases hc with q | q
      ·exact hP3.lt c q
      ·have:=hB3.1;have:=hP3.sz;omega
     ·rw [hf5]
      refine fun Y => .d (.ref (fun _ => v') (.inr rfl) (fun k hk => ?_) (fun k hk => ?_))
      ·have:k = 0:=by omega
       subst this
       unfold World.cell?
       rw [hB3.2.2];rfl
      ·have:k = 0:=by omega
       subst this
       exact .raw hone
     ·rw [hf6,e6]
      refine fun Y => .d (.ref us6 (.inl hI6) hc6 (fun k hk => ?_))
      match k,hk with
      | 0,_ => exact .raw r0.one
      | 1,_ => exact .raw r1.one
     ·intro p hp
      simp at hp
      subst hp
      exact hf5
    letI:Dfr:=⟨[],[(5,outP b)]⟩
    letI:Bas:=⟨fun c => I2 c∨c = b,W3⟩
    (refine hT 3 ?h1 ?h2 ?h3 ?h4 hst7 ?_;(case h1 => rfl);(case h2 => rfl);(case h3 => rfl);(case h4 => rfl);simp only [go_sem,↓dP,↓reduceIte];with_reducible and_intros;all_goals first|apply qA|exact qC|skip)
    intro Y a4 W4 hinv
    have hst:=St.of hinv rfl
    obtain ⟨I4,_,_,hx4⟩:=hst (fun _ => none)
    have hk4:Keep W3.heap.size W3 W4:=hx4.bel
    have hf5:=hx4.fx (5,outP b) (.head _)
    have hz4:=hx4.sz
    have hd4:a4.defers = []:=hx4.df
    have h32:=hst.raw (t:=32) rfl
    have h34:=mt_d ((hx4.env 34).un (fun _ _ _ e => by cases e))
    obtain ⟨b9,o9,c9,e34,hcell9⟩:∃ b9 o9 c9,a4.tmps.getD 34 undef = .slice (some ⟨b9,o9,none⟩) 1 c9/\∀ j,j < 2->W4.cell? ⟨b9,o9 + j,none⟩ = some (us6 j):=by
     generalize a4.tmps.getD 34 undef = u at h34
     cases h34 with
     | sl us q1 q2 q3 q4 q5 =>
      refine ⟨_,_,_,rfl,fun j hj => ?_⟩
      have w1:=q4 0 j (by decide) hj
      have w2:=q5 0 j (by decide) hj
      rw [Nat.zero_mul,Nat.zero_add] at w1
      rw [w1]
      match j,hj,w2 with
      | 0,_,w2 => exact congrArg some (raw_eq w2)
      | 1,_,w2 => exact congrArg some (raw_eq w2)
    obtain ⟨hY4,hP4⟩:=hP3.yq hk4 (I':=I2) (fun _ h => h) (fun _ h => .inl h)
    have hB4:=hB3.same hP3.sz hk4
    have hH4:=hH3.keep hk4 hP3.lt (fun _ h => h) (fun _ h => .inl h)
    have h34':=h33.same hP3.lt hk4
    have hkI:∀ c,I2 c->W4.heap[c]? = W3.heap[c]?:=fun c hc => hk4.block c (hP3.lt c hc) (fun e => by cases e)
    have s0:Rep I2 W4 (us6 0) (cuC x 0):=r0.mono (fun _ h => h) hkI
    have s1:Rep I2 W4 (us6 1) (cuC x 1):=r1.mono (fun _ h => h) hkI
    refine tail_ex rfl (fun c e => by cases e) (hH4.app (t:=107) (x:=.tmp 32) (y:=.tmp 34) (hh:=fun _ => cuC x) (news:=[us6 0,us6 1]) Tryz_elT_107 Tryz_zeroT_110 rfl (by decide) rfl h32 e34 rfl (fun j u hj => ?_) (fun u hu => ?_) (fun i j hi hj => ?_) (room_of (by omega) (by decide)) hP4.sz hP4.lt hP4.vlt) ?_
    ·rw [add_plain]
     match j,hj with
     | 0,hj => rw [← hj];exact hcell9 0 (by decide)
     | 1,hj => rw [← hj];exact hcell9 1 (by decide)
     | j + 2,hj => simp at hj
    ·simp at hu
     rcases hu with rfl | rfl
     ·exact s0.one
     ·exact s1.one
    ·have:i = 0:=by omega
     subst this
     match j,hj with
     | 0,_ => exact ⟨_,rfl,s0⟩
     | 1,_ => exact ⟨_,rfl,s1⟩
    rintro v2 W5 ⟨hH5,hgr,hnew⟩
    obtain ⟨hnI,hobs⟩:(∀ b',v'.ownBlock = some b'->w1.heap.size<=b')/\(∀ b',v'.ownBlock = some b'->¬ I2 b'/\¬ V b'):=by
     refine ⟨fun b' hb' => (hH4.lt b' hb').1,?_⟩
     obtain ⟨_,_,_,_,q⟩:=hH4
     exact q
    obtain ⟨y5,hP5⟩:=hP4.grown hgr hnI hobs
    have hY5:=Yq.grown y5 hgr (fun b' hb' => hH4.cells hb')
    have hnb:∀ b',v'.ownBlock = some b'->b' ≠ b:=fun b' hb' e => by
     have:=hnI b' hb';have:=hB4.1;omega
    have hB5:=hB4.grown hP4.sz hgr (fun q => hnb b q rfl)
    have h35:RepS I2 W5 v3 (.d (.ref 1 (dget [betD]))):=h34'.kept ⟨hgr.size,fun _ h => h,fun c hc => hgr.block c (hP4.lt c hc) (fun q => (hobs c q.symm).1 hc)⟩
    have hf5':(a4.put (some 35) v2).tmps.getD 5 undef = outP b:=(put_ne (by decide)).trans hf5
    have hv35:(a4.put (some 35) v2).tmps.getD 35 undef = v2:=put_eq (by rw [hz4];decide)
    refine tail_skp rfl (fun c e => by cases e) (run_storeCl (a:=a4.put (some 35) v2) (b:=b) (I:=I2) (T:=T5) (u:=v') (v:=v2) rfl rfl hf5' rfl hv35 hH5.one hB5) ?_
    obtain ⟨y6,hP6,hB6,ho⟩:=hP5.row n5 hB5 (cs:=#[v2])
    have hne:v2.ownBlock ≠ some b:=fun q => by
     rcases hnew b q with q | q
     ·exact hnb b q rfl
     ·have:=hB4.1;have:=hP4.sz;omega
    refine tail_end ⟨I2,((((hYc.trans hY3).trans hY4).trans hY5).trans y6),hP6,⟨v2,hB6,?_⟩,h35.row hB5.2.1⟩
    rw [e]
    have hfin:=(hH5.row (cs:=#[v2]) hne hB5.2.1).congr (g':=fun j => cuD ((out' ++ [x]).getD j default)) (fun i j hi hj => by
     have hlt:i < (out' ++ [x]).length:=by rw [List.length_append];exact hi
     by_cases h:i < out'.length
     ·rw [if_pos h]
      rw [List.getD_eq_getElem?_getD (l:=out' ++ [x]),List.getElem?_append_left h,← List.getD_eq_getElem?_getD]
     ·rw [if_neg h]
      have:i = out'.length:=by omega
      subst this
      rw [List.getD_eq_getElem?_getD (l:=out' ++ [x]),List.getElem?_append_right (Nat.le_refl _),Nat.sub_self]
      match j,hj with
      | 0,_ => rfl
      | 1,_ => rfl)
    have el:(out' ++ [x]).length = out'.length + 1:=by simp
    rw [el]
    exact hfin
   ·refine wpIn_skip ⟨I2,hYc.trans hY3,hP3,⟨v',hB3,?_⟩,h33⟩
    have e:bstL (L.take (i + 1)) = out':=by
     rw [hsucc,hstep]
     cases out' with
     | nil => simp at hb
     | cons y r =>
      have h2:y.2 < x.2:=by simp at hb;omega
      simp only [if_pos h2]
    rw [e];exact hH3
 case done =>
  rintro D I2 V W hD ⟨hP,⟨v,hB,hH⟩,h3⟩ hnD hmD
  have htk:L.take (L.map ctS).length = L:=by rw [List.length_map,List.take_length]
  rw [htk] at hH
  show Code.wpIn fen 0 Try.prog (.seq (.region _ _ _) .ret) _ _ _
  refine wpIn_seq (wpIn_region ?_)
  have hp5':({ a with defers:=[markOf D] }:Act).tmps.getD 5 undef = outP b:=hp5
  have hz':({ a with defers:=[markOf D] }:Act).tmps.size = Try.f75.ntmps:=hsz
  have hd':({ a with defers:=[markOf D] }:Act).defers = [markOf D]:=rfl
  generalize ({ a with defers:=[markOf D] }:Act) = a9 at hp5' hz' hd'
  refine tail_val (m:=0) (k:=1) rfl (fun c e => by cases e) (run_loadCl (b:=b) (I:=I2) (T:=T5) (n:=w1.heap.size) (u:=v) rfl hp5' Tryz_ldT_107 hB) ?_
  refine tail_val rfl (fun c e => by cases e) (run_move (v:=v) (.inr rfl) (put_eq (by rw [hz'];decide))) ?_
  refine tail_end (wpIn_ret ?_)
  have hlt:=hH.lt
  have hdis:∀ c,v.ownBlock = some c->¬ I2 c/\¬ V c:=by
   obtain ⟨_,_,_,_,q⟩:=hH
   exact q
  refine ⟨.inl rfl,.inr ⟨D,{ env:=[(4,.d (.sl 2 (bstL L).length (fun j => cuD ((bstL L).getD j default))))],bx:=[],tk:=[] },hmD,?_,?_⟩⟩
  ·show resOK Try.prog [.tmp 4] _ _
   ((try dsimp only [thenK,blockK,noGotoK]);simp only [toList_mk,List.toList_toArray,retK_ret,retK_normal,resOK,resV,celV,rowV,frzAll,frzT,subV,subL,go_sem,↓dP,↓reduceIte])
   exact .refl _
  ·have hP':=hP.put (o':=.deferred none) hD
   have hownD:∀ c,v.ownBlock = some c->c ≠ D:=fun c hc e => by
    obtain ⟨cs,T,fz,q⟩:=hH.cells hc
    rw [e,hmD] at q;cases q
   refine @St.boxes _ ⟨[markOf D],[]⟩ _ (fun c => I2 c∨v.ownBlock = some c) _ _ _ _ _ _ [] (by rw [put_sz,put_sz];exact hz') hd' (fun c hc => ?_) (fun b _ e => by cases e) trivial (fun c hc => ?_) hP'.keep rfl (fun i i' b hi hi' => by simp at hi) (fun i blk c hi hc => by simp at hi) (bat_cons (.inl ?_) bat_nil) (fun p hp => by cases hp)
   ·rcases hc with q | q
    ·exact hP'.lt c q
    ·rw [World.putObj_size];exact (hlt c q).2
   ·rcases hc with q | q
    ·exact hP.i0 c q
    ·have:=(hlt c q).1;have:=hkeep.size;exact .inr (by omega)
   ·rw [put_eq (by rw [put_sz,hz'];decide)]
    refine fun Y => .d (hH.data.mono (fun _ h => h) (fun c hc => putObj_other (fun e => ?_)))
    rcases hc with q | q
    ·exact hnD (e ▸ q)
    ·exact hownD c q e
 case stop =>
  rintro D i I2 V W hD hi h;exact h.elim
end
end Go.Proofs.Leaf
