/-
  Contracts, part 30. No condition.
-/
import Derived.Test.YtojfpogcfpmblaaGreatDoorB28
import Derived.Defers
import Derived.Recover
import Derived.Lib.Join
import Derived.Lib.AppendIntMem
import Derived.Lib.SplitLaws
import Derived.Lib.ItoaLen
import Derived.Shelf.Strings.Builder1
import Derived.Shelf.Strings.Builder2
import Derived.Shelf.Strings.OnBuilder
import Derived.Shelf.Utf8.RuneCount
import Derived.Shelf.Strconv.Itoa0
import Derived.Shelf.Strconv.Itoa1
import Derived.Shelf.LaysM
import Derived.Shelf.Strconv.Itoa2
import Derived.Shelf.Strconv.Itoa3
import Derived.Shelf.Strings.Search1
import Derived.Shelf.Strings.Search2
import Derived.Shelf.Strings.Search3
import Derived.Shelf.Strings.Count
import Derived.Shelf.Strings.Shaped
import Derived.Shelf.Strings.Split
import Derived.Shelf.Strings.SplitShaped
import Derived.Shelf.Unicode.Decode
import Derived.Shelf.Strings.RuneCount
import Derived.Shelf.Strings.Explode
import Derived.Shelf.Unicode.DecodeSlow
import Derived.Shelf.Unicode.DecodeAny
import Derived.Test.YtojfpogcfpmblaaGreatDoorProg
import Derived.Lib.LaidTab
import Derived.Lib.ItoaNum
set_option linter.all false
namespace Go.Proofs.Leaf
open Go Go.RX Go.Proofs Go.RowKit
set_option maxRecDepth 10000
section
abbrev cuD (x:List Nat×Nat):Nat->DV:=cutD (asI x.1,(x.2:Int))
abbrev cuC (x:List Nat×Nat):Nat->DV:=dget [slD 1 intD (asI x.1),iD x.2]
abbrev bstL (L:List (List Nat×Nat)):List (List Nat×Nat):=bestF (fun x => x.2) L
abbrev betD:DV:=.clo 111 0 (fun _ => .nilI)
def bstH (n b T:Nat) (L:List (List Nat×Nat)) (i:Nat) (I V:Nat->Prop) (W:World):Prop :=
 ∃ v,Cl n b #[v] T I W/\Hold n 93 2 (bstL (L.take i)).length (fun j => cuD ((bstL (L.take i)).getD j default)) v I V W
def bstJ (w0:World) (I0:Nat->Prop) (n b T:Nat) (v3:Value) (L:List (List Nat×Nat)):Jt:=fun i I V W =>
 Par w0 I0 n I V W/\bstH n b T L i I V W/\RepS I W v3 (.d (.ref 1 (dget [betD])))
def bstA (w0:World) (I0:Nat->Prop) (n b T:Nat) (v3:Value) (L:List (List Nat×Nat)) (i:Nat) (a:Act) (I V:Nat->Prop) (W:World):Prop :=
 bstJ w0 I0 n b T v3 L i I V W/\a.tmps.size = Tryz.f109.ntmps/\a.defers = []/\a.tmps.getD 5 undef = outP b/\a.tmps.getD 3 undef = v3/\RepS I W (a.tmps.getD 6 undef) (.d (.ref 2 (cuC (L.getD i default))))
theorem bst_succ {L:List (List Nat×Nat)} {i:Nat} (hi:i < L.length):bstL (L.take (i + 1)) = stepB (fun x => x.2) (bstL (L.take i)) (L.getD i default):=by
 unfold bstL bestF
 rw [getD_take hi,List.foldl_append];rfl
theorem add_plain (b o j:Nat):(⟨b,o,none⟩:Addr).add j = ⟨b,o + j,none⟩:=by unfold Addr.add;split<;>simp_all
theorem run_loadCl {P:Program} {a:Act} {o:Oper} {t:TypeId} {x:Operand} {b T n:Nat} {u:Value} {I:Nat->Prop} {w:World} (ho:o.op = .load t x) (hx:a.eval x = .pointer (some ⟨b,0,none⟩)) (hl:ldT P t = some (false,1)) (hc:Cl n b #[u] T I w):(execOp a.eval o).run P w = .ok (.value u) w:=by
 have h:=run_load_row (P:=P) (w:=w) (b:=b) (off:=0) hl (us:=[u]) rfl (fun j v hj => by
  match j,hj with
  | 0,hj =>
   simp at hj;subst hj
   unfold World.cell?
   rw [hc.2.2];rfl)
 exact run_load_op ho hx h
theorem raw_eq {I:Nat->Prop} {w:World} {u v:Value} (h:Rep I w u (.raw v)):u = v:=by cases h;rfl
theorem bst_see {n b T:Nat} {v3 v6 v:Value} {out:List (List Nat×Nat)} {x:List Nat×Nat} {I V:Nat->Prop} {W:World} {a:Act} {N:Nat} (hlt:∀ c,I c->c < W.heap.size) (hs:n<=W.heap.size)
  (hB:Cl n b #[v] T I W) (hH:Hold n 93 2 out.length (fun j => cuD (out.getD j default)) v I V W) (h3:RepS I W v3 (.d (.ref 1 (dget [betD])))) (h6:RepS I W v6 (.d (.ref 2 (cuC x))))
  (q1:a.tmps.size = N) (q2:a.defers = []) (q5:a.tmps.getD 5 undef = outP b) (q3:a.tmps.getD 3 undef = v3) (q6:a.tmps.getD 6 undef = v6) :
  @St g0 ⟨[],[(3,v3),(5,outP b),(6,v6)]⟩ { env:=[(3,.d (.ref 1 (dget [betD]))),(5,.d (.ref 1 (dget [.sl 2 out.length (fun j => cuD (out.getD j default))]))),(6,.d (.ref 2 (cuC x)))],bx:=[],tk:=[] } (fun c => I c∨v.ownBlock = some c∨c = b) N W a W:=by
 have hblt:=hB.1
 refine @St.data _ ⟨[],[(3,v3),(5,outP b),(6,v6)]⟩ _ _ _ _ _ (fun _ => none) (fun _ => none) (fun _ => none) q1 q2 (fun c hc => ?_) (fun b _ e => by cases e) trivial (dat_cons ?_ (dat_cons ?_ (dat_cons ?_ dat_nil))) ?_
 ·rcases hc with q | q | q
  ·exact hlt c q
  ·exact (hH.lt c q).2
  ·omega
 ·rw [q3];exact fun Y => (h3 Y).mono (fun _ h => .inl h) (fun _ _ => rfl) (fun _ _ h => h) (fun _ _ h => h)
 ·rw [q5]
  refine fun Y => .d (.ref (fun _ => v) (.inr (.inr rfl)) (fun k hk => ?_) (fun k hk => ?_))
  ·have:k = 0:=by omega
   subst this
   unfold World.cell?
   rw [hB.2.2];rfl
  ·have:k = 0:=by omega
   subst this
   exact hH.data.mono (fun c h => h.imp (fun q => q) (fun q => .inl q)) (fun _ _ => rfl)
 ·rw [q6];exact fun Y => (h6 Y).mono (fun _ h => .inl h) (fun _ _ => rfl) (fun _ _ h => h) (fun _ _ h => h)
 ·intro p hp
  simp at hp
  rcases hp with rfl | rfl | rfl
  ·exact q3
  ·exact q5
  ·exact q6
theorem c_best (gf k:Nat) (c:Nat->DV) (L:List (List Nat×Nat)) (hL:L.length<=100000) (hit:It Tryz.prog gf (take c 0 k) (L.map ctS)) :
  Ctr Tryz.prog 109 [.d (.clo gf k c),.d betD] (.d (.sl 2 (bstL L).length (fun j => cuD ((bstL L).getD j default)))):=by
 refine Ctr.marks (fn:=Tryz.f109) rfl rfl rfl rfl rfl rfl (fun I w a _ hI _ hst => ?_)
 dsimp only [args] at hst
 letI:Bas:=⟨I,w⟩
 refine Ok.first hst ?_
 (first|refine qE ?_|refine qD ?_);(simp only [go_sem,↓dP,↓reduceIte];with_reducible and_intros;all_goals first|apply qA|exact qC|skip)
 intro a w1 hst
 show Code.wpIn _ _ _ _ _ _ _
 refine Ok.first hst ?_
 (first|refine qE ?_|refine qD ?_);(simp only [go_sem,↓dP,↓reduceIte];with_reducible and_intros;all_goals first|apply qA|exact qC|skip)
 intro a w1 hst
 show Code.wpIn _ _ _ _ _ _ _
 refine wpIn_seq ?_
 refine Ok.first hst ?_
 (first|refine qE ?_|refine qD ?_);(simp only [go_sem,↓dP,↓reduceIte];with_reducible and_intros;all_goals first|apply qA|exact qC|skip)
 intro a w1 hst
 show Code.wpIn _ _ _ _ _ _ _
 have hst:=hst.sealt 3 0 rfl rfl rfl
 obtain ⟨I1,bl,i1,i2,i3,_,hkeep,hdf,hsz,hdat,_,hptr,hbox⟩:=hst.parked rfl hI
 obtain ⟨n5,l5,o5,cs5,T5,hc5,s5,o51,hrp⟩:=hbox 1 _ rfl rfl rfl
 obtain ⟨u5,rfl⟩:∃ u5,cs5 = #[u5]:=Array.size_eq_one_iff.1 s5
 have hp5:a.tmps.getD 5 undef = outP (bl 1):=hptr 5 1 0 rfl
 have hu5:u5 = .slice none 0 0:=by
  have:=mt_d (hrp 0 u5 .nils rfl rfl (fun _ => none))
  cases this;rfl
 subst hu5
 have hdf:a.defers = []:=hdf
 generalize bl 1 = b at *
 have h7:=mt_d (hdat 7 _ rfl (fun _ => none))
 obtain ⟨us,hg,hus,hrus⟩:∃ us:Array Value,a.tmps.getD 7 undef = .func (.func gf) #[] us/\us.size = k/\∀ i u,us[i]? = some u->Rep I1 w1 u (c i):=by
  generalize a.tmps.getD 7 undef = v at h7
  cases h7 with
  | clo h1 h2 => exact ⟨_,rfl,h1,fun i u hu => h2 i u hu⟩
 have h3:RepS I1 w1 (a.tmps.getD 3 undef) (.d (.ref 1 (dget [betD]))):=hdat 3 _ rfl
 obtain ⟨v3,hv3⟩:∃ v3,a.tmps.getD 3 undef = v3:=⟨_,rfl⟩
 rw [hv3] at h3
 have hpar:Par w I w1.heap.size I1 (fun _ => False) w1:=⟨hkeep.size,hkeep,fun b hb => (i2 b hb).imp (fun q => q) (fun q => q.1),fun b hb => hb.elim,Nat.le_refl _,i3,fun _ _ h => h,fun _ h => h.elim⟩
 refine wpIn_block ?_
 refine wp_rangeIt (I0:=I1) hg hdf hit trivial i3 (fun b _ e => by cases e) (by rw [hus,take_len]) ?reps (bstJ w I w1.heap.size b T5 v3 L) (fun _ _ _ _ => False)
  (bstA w I w1.heap.size b T5 v3 L)
  ?st1 ?st2 ?pu1 ?pu2 ?pu3 ⟨hpar,⟨_,⟨l5,o5,hc5⟩,Hold.nil _ _ _ _ _ _ _⟩,h3⟩ ?assign ?body ?done ?stop
 case st1 => rintro i I I' V V' W W' ⟨h1,⟨v,h2,h4⟩,h3⟩ he;exact ⟨h1.ext he,⟨v,h2.ext h1 he,h4.ext he h1.lt h1.dis⟩,h3.ext he h1.lt h1.dis⟩
 case st2 => rintro i I I' V V' W W' h;exact h.elim
 case pu1 => rintro i I V W k o o' hk ⟨h1,⟨v,h2,h4⟩,h3⟩ hko ho hik;exact ⟨h1.put hk,⟨v,h2.put hko ho,h4.put hko ho hik⟩,h3.putO hik⟩
 case pu2 => rintro i I V W k o o' hk h;exact h.elim
 case pu3 => rintro i a' I V W k o o' hk ⟨⟨h1,⟨v,h2,h4⟩,h3⟩,q1,q2,q3,q4,q5⟩ hko ho hik;exact ⟨⟨h1.put hk,⟨v,h2.put hko ho,h4.put hko ho hik⟩,h3.putO hik⟩,q1,q2,q3,q4,q5.putO hik⟩
 case reps =>
  intro j u s hu hs
  have:=take_at c k 0 j s hs
  rw [Nat.zero_add] at this
  subst this
  exact fun Y => .d (hrus j u hu)
 case assign =>
  rintro l i I2 V W v hi ⟨hP,⟨v5,hB,hH⟩,h3⟩ _ _ _ _ hv
  have hi':i < L.length:=by simpa using hi
  have hx:(L.map ctS).getD i .any = ctS (L.getD i default):=by
   rw [List.getD_eq_getElem?_getD,List.getElem?_map,List.getElem?_eq_getElem hi',getD_lt hi'];rfl
  rw [hx] at hv
  letI:Rnd:=⟨some l⟩
  letI:Bas:=⟨I2,W⟩
  have hs0:St { env:=[(3,.d (.raw v3)),(5,.d (.raw (outP b))),(8,ctS (L.getD i default))],bx:=[],tk:=[] } I2 a.tmps.size W { tmps:=a.tmps.setIfInBounds 8 v,defers:=[] } W:=by
   refine St.data (β:=fun _ => none) (τ:=fun _ => none) (Y:=fun _ => none) (by simp) rfl hP.lt (fun b _ e => by cases e) trivial (dat_cons (repS_raw ?_ (mt_d (h3 (fun _ => none))).one) (dat_cons (repS_raw ?_ rfl) (dat_cons ?_ dat_nil)))
   ·show (a.tmps.setIfInBounds 8 v).getD 3 undef = _
    rw [tmp_ne (by decide),hv3]
   ·show (a.tmps.setIfInBounds 8 v).getD 5 undef = _
    rw [tmp_ne (by decide),hp5]
   ·show RepS I2 W ((a.tmps.setIfInBounds 8 v).getD 8 undef) _
    rw [tmp_eq (by rw [hsz];decide)]
    exact hv
  refine Ok.enter (N:=a.tmps.size) hs0 ?_
  rw [hsz]
  (first|refine qE ?_|refine qD ?_);(simp only [go_sem,↓dP,↓reduceIte];with_reducible and_intros;all_goals first|apply qA|exact qC|skip)
  intro a2 W2 hst2
  have hst2:=(hst2.sealt 6 0 rfl rfl rfl).only [(6,.d (.ref 2 (cuC (L.getD i default)))),(3,.d (.raw v3)),(5,.d (.raw (outP b)))] (by
   simp only [subE,subV,subL,go_sem,↓dP,↓reduceIte]
   ((repeat' with_reducible apply And.intro)<;>(first | exact DEq.refl _ | refine DEq.int ?_ | refine DEq.bool ?_ | skip)))
  obtain ⟨I3,hst3,j1,j2,_,_,hk3,_,hd3⟩:=hst2.rebase rfl rfl rfl hP.lt
  have hr:=hst3.reps rfl rfl rfl
  obtain ⟨hY,hP3⟩:=hP.yq hk3 j1 j2
  have j3:∀ b,I3 b->I2 b∨W.heap.size<=b:=fun b hb => (j2 b hb).imp (fun q => q) (fun q => q.1)
  refine ⟨I3,hY,⟨hP3,⟨v5,hB.keep hP hk3 j3,hH.keep hk3 hP.lt j1 j3⟩,h3.kept ⟨hk3.size,j1,fun b hb => hk3.block b (hP.lt b hb) (fun e => by cases e)⟩⟩,?_,hd3,?_,?_,hr 6⟩
  ·obtain ⟨_,_,_,hx⟩:=hst3 (fun _ => none);rw [hx.sz]
  ·exact hst3.raw (t:=5) rfl
  ·exact hst3.raw (t:=3) rfl
 case body =>
  rintro l i I2 V W a2 hi ⟨⟨hP,⟨v,hB,hH⟩,h3⟩,q1,q2,q5,q3,q6⟩ _ _ _ _
  have hi':i < L.length:=by simpa using hi
  letI:Rnd:=⟨some l⟩
  have hlen:(bstL (L.take i)).length<=100000:=by
   have h1:(bstL (L.take i)).length<=(L.take i).length:=by
    unfold bstL;rw [bestF_eq];exact List.length_filter_le _ _
   rw [List.length_take] at h1;omega
  have hsucc:=bst_succ hi'
  obtain ⟨x,hx⟩:∃ x,L.getD i default = x:=⟨_,rfl⟩
  rw [hx] at q6 hsucc
  obtain ⟨out,hout⟩:∃ out,bstL (L.take i) = out:=⟨_,rfl⟩
  rw [hout] at hH hlen hsucc
  show Code.wpIn fen 0 Tryz.prog _ _ _ _
  refine wpIn_block ?_
  refine wpIn_seq (wpIn_mono (Q:=fun e ac Wc => e = .normal/\∃ (out':List (List Nat×Nat)) (v':Value),out'.length<=100000/\stepB (fun x => x.2) out x = (match out' with | [] => [x] | y :: r => if y.2 < x.2 then y :: r else y :: r ++ [x]) /\
    Par w I w1.heap.size I2 V Wc/\Yq I2 I2 V W Wc/\Cl w1.heap.size b #[v'] T5 I2 Wc/\Hold w1.heap.size 93 2 out'.length (fun j => cuD (out'.getD j default)) v' I2 V Wc/\RepS I2 Wc v3 (.d (.ref 1 (dget [betD]))) /\
    ac.tmps.size = Tryz.f109.ntmps/\ac.defers = []/\ac.tmps.getD 5 undef = outP b/\ac.tmps.getD 3 undef = v3/\RepS I2 Wc (ac.tmps.getD 6 undef) (.d (.ref 2 (cuC x)))) ?_ ?_)
  ·
   obtain ⟨v6,hv6⟩:∃ v6,a2.tmps.getD 6 undef = v6:=⟨_,rfl⟩
   have hst:=bst_see hP.lt hP.sz hB hH h3 (hv6 ▸ q6) q1 q2 q5 q3 hv6
   letI:Dfr:=⟨[],[(3,v3),(5,outP b),(6,v6)]⟩
   letI:Bas:=⟨fun c => I2 c∨v.ownBlock = some c∨c = b,W⟩
   refine Ok.first hst ?_
   (first|refine qE ?_|refine qD ?_);(simp only [go_sem,↓dP,↓reduceIte];with_reducible and_intros;all_goals first|apply qA|exact qC|skip)
   ·intro h;simpa using h
   (refine AskGI.ret (fun _ => c_bests_1 x (out.getD 0 default)) ?_;simp only [go_sem,↓dP,↓reduceIte];with_reducible and_intros;all_goals first|apply qA|exact qC|skip)
   intro a3 W3 hst3
   obtain ⟨_,_,_,hx3⟩:=hst3 (fun _ => none)
   have hk3:Keep W.heap.size W W3:=hx3.bel
   have hf3:=hx3.fx (3,v3) (.head _)
   have hf5:=hx3.fx (5,outP b) (.tail _ (.head _))
   have hf6:=hx3.fx (6,v6) (.tail _ (.tail _ (.head _)))
   have hz3:=hx3.sz
   have hd3:a3.defers = []:=hx3.df
   obtain ⟨hY,hP3⟩:=hP.yq hk3 (I':=I2) (fun _ h => h) (fun _ h => .inl h)
   have hB3:=hB.same hP.sz hk3
   have hH3:=hH.keep hk3 hP.lt (fun _ h => h) (fun _ h => .inl h)
   have h33:=h3.same hP.lt hk3
   have h63:RepS I2 W3 v6 (.d (.ref 2 (cuC x))):=(hv6 ▸ q6).same hP.lt hk3
   refine hand_cond hst3 rfl (fun hb => ?_) (fun hb => ?_)
   ·have hne:out ≠ []/\x.2 < (out.getD 0 default).2:=by
     simp only [Bool.and_eq_true,decide_eq_true_eq] at hb
     refine ⟨fun e => by rw [e] at hb;simp at hb,by omega⟩
    refine wpIn_region ?_
    obtain ⟨y1,hP4,hB4,ho⟩:=hP3.row n5 hB3 (cs:=#[.slice none 0 0])
    refine tail_skp (m:=0) (k:=0) rfl (fun c e => by cases e) (run_storeCl (a:=a3) (b:=b) (I:=I2) (T:=T5) (u:=v) (v:=.slice none 0 0) rfl rfl hf5 rfl rfl rfl hB3) ?_
    refine tail_end ⟨rfl,[],.slice none 0 0,by simp,?_,hP4,hY.trans y1,hB4,Hold.nil _ _ _ _ _ _ _,h33.row hB3.2.1,hz3,hd3,hf5,hf3,?_⟩
    ·obtain ⟨y,r,rfl⟩:∃ y r,out = y :: r:=by
      cases out with
      | nil => exact absurd rfl hne.1
      | cons y r => exact ⟨y,r,rfl⟩
     have h2:x.2 < y.2:=by simpa using hne.2
     simp only [stepB,if_pos h2]
    ·rw [show (a3.put none undef).tmps.getD 6 undef = v6 from hf6];exact h63.row hB3.2.1
   ·refine wpIn_skip ⟨rfl,out,v,hlen,?_,hP3,hY,hB3,hH3,h33,hz3,hd3,hf5,hf3,by rw [hf6];exact h63⟩
    cases out with
    | nil => rfl
    | cons y r =>
     have h2:¬ x.2 < y.2:=by simp at hb;omega
     simp only [stepB,if_neg h2]
  ·rintro e ac Wc ⟨rfl,out',v',hlen',hstep,hPc,hYc,hBc,hHc,h3c,z1,z2,z5,z3,z6⟩
   show Code.wpIn fen 0 Tryz.prog _ _ _ _
   obtain ⟨v6,hv6⟩:∃ v6,ac.tmps.getD 6 undef = v6:=⟨_,rfl⟩
   have hst:=bst_see hPc.lt hPc.sz hBc hHc h3c (hv6 ▸ z6) z1 z2 z5 z3 hv6
   letI:Dfr:=⟨[],[(3,v3),(5,outP b),(6,v6)]⟩
   letI:Bas:=⟨fun c => I2 c∨v'.ownBlock = some c∨c = b,Wc⟩
   refine Ok.first hst ?_
   (first|refine qE ?_|refine qD ?_);(simp only [go_sem,↓dP,↓reduceIte];with_reducible and_intros;all_goals first|apply qA|exact qC|skip)
   ·intro h
    have:out'.length ≠ 0:=fun e => by rw [e] at h;simp at h
    omega
   (refine AskGI.ret (fun _ => c_bests_1 (out'.getD 0 default) x) ?_;simp only [go_sem,↓dP,↓reduceIte];with_reducible and_intros;all_goals first|apply qA|exact qC|skip)
   intro a3 W3 hst3
   obtain ⟨_,_,_,hx3⟩:=hst3 (fun _ => none)
   have hk3:Keep Wc.heap.size Wc W3:=hx3.bel
   have hf3:=hx3.fx (3,v3) (.head _)
   have hf5:=hx3.fx (5,outP b) (.tail _ (.head _))
   have hf6:=hx3.fx (6,v6) (.tail _ (.tail _ (.head _)))
   have hz3:=hx3.sz
   have hd3:a3.defers = []:=hx3.df
   obtain ⟨hY3,hP3⟩:=hPc.yq hk3 (I':=I2) (fun _ h => h) (fun _ h => .inl h)
   have hB3:=hBc.same hPc.sz hk3
   have hH3:=hHc.keep hk3 hPc.lt (fun _ h => h) (fun _ h => .inl h)
   have h33:=h3c.same hPc.lt hk3
   have h63:RepS I2 W3 v6 (.d (.ref 2 (cuC x))):=(hv6 ▸ z6).same hPc.lt hk3
   refine hand_cond hst3 rfl (fun hb => ?_) (fun hb => ?_)
   ·have e:bstL (L.take (i + 1)) = out' ++ [x]:=by
     rw [hsucc,hstep]
     cases out' with
     | nil => rfl
     | cons y r =>
      have h2:¬ y.2 < x.2:=by simp at hb;omega
      simp only [if_neg h2]
    obtain ⟨b6,o6,us6,e6,hI6,hc6,hr6⟩:∃ (b6 o6:Nat) (us:Nat->Value),v6 = .pointer (some ⟨b6,o6,none⟩)/\I2 b6/\(∀ j,j < 2->W3.cell? ⟨b6,o6 + j,none⟩ = some (us j))/\∀ j,j < 2->Rep I2 W3 (us j) (cuC x j):=by
     have hm:=mt_d (h63 (fun _ => none))
     generalize v6 = u at hm
     cases hm with
     | ref us q1 q2 q3 => exact ⟨_,_,us,rfl,q1,q2,q3⟩
    have hone:v'.oneCell' = true:=hH3.one
    have r0:Rep I2 W3 (us6 0) (cuC x 0):=hr6 0 (by decide)
    have r1:Rep I2 W3 (us6 1) (cuC x 1):=hr6 1 (by decide)
    have hst7:@St g0 ⟨[],[(5,outP b)]⟩ { env:=[(5,.d (.ref 1 (dget [.raw v']))),(6,.d (.ref 2 (dget [.raw (us6 0),.raw (us6 1)])))],bx:=[],tk:=[] } (fun c => I2 c∨c = b) Tryz.f109.ntmps W3 a3 W3:=by
     refine @St.data _ ⟨[],[(5,outP b)]⟩ _ _ _ _ _ (fun _ => none) (fun _ => none) (fun _ => none) hz3 hd3 (fun c hc => ?_) (fun b _ e => by cases e) trivial (dat_cons ?_ (dat_cons ?_ dat_nil)) ?_
     ·rcases hc with q | q
      ·exact hP3.lt c q
      ·have:=hB3.1;have:=hP3.sz;omega
     ·rw [hf5]
      refine fun Y => .d (.ref (fun _ => v') (.inr rfl) (fun k hk => ?_) (fun k hk => ?_))
      ·have:k = 0:=by omega
       subst this
       unfold World.cell?
       rw [hB3.2.2];rfl
      ·have:k = 0:=by omega
       subst this
       exact .raw hone
     ·rw [hf6,e6]
      refine fun Y => .d (.ref us6 (.inl hI6) hc6 (fun k hk => ?_))
      match k,hk with
      | 0,_ => exact .raw r0.one
      | 1,_ => exact .raw r1.one
     ·intro p hp
      simp at hp
      subst hp
      exact hf5
    letI:Dfr:=⟨[],[(5,outP b)]⟩
    letI:Bas:=⟨fun c => I2 c∨c = b,W3⟩
    (refine hT 3 ?h1 ?h2 ?h3 ?h4 hst7 ?_;(case h1 => rfl);(case h2 => rfl);(case h3 => rfl);(case h4 => rfl);simp only [go_sem,↓dP,↓reduceIte];with_reducible and_intros;all_goals first|apply qA|exact qC|skip)
    intro Y a4 W4 hinv
    have hst:=St.of hinv rfl
    obtain ⟨I4,_,_,hx4⟩:=hst (fun _ => none)
    have hk4:Keep W3.heap.size W3 W4:=hx4.bel
    have hf5:=hx4.fx (5,outP b) (.head _)
    have hz4:=hx4.sz
    have hd4:a4.defers = []:=hx4.df
    have h32:=hst.raw (t:=32) rfl
    have h34:=mt_d ((hx4.env 34).un (fun _ _ _ e => by cases e))
    obtain ⟨b9,o9,c9,e34,hcell9⟩:∃ b9 o9 c9,a4.tmps.getD 34 undef = .slice (some ⟨b9,o9,none⟩) 1 c9/\∀ j,j < 2->W4.cell? ⟨b9,o9 + j,none⟩ = some (us6 j):=by
     generalize a4.tmps.getD 34 undef = u at h34
     cases h34 with
     | sl us q1 q2 q3 q4 q5 =>
      refine ⟨_,_,_,rfl,fun j hj => ?_⟩
      have w1:=q4 0 j (by decide) hj
      have w2:=q5 0 j (by decide) hj
      rw [Nat.zero_mul,Nat.zero_add] at w1
      rw [w1]
      match j,hj,w2 with
      | 0,_,w2 => exact congrArg some (raw_eq w2)
      | 1,_,w2 => exact congrArg some (raw_eq w2)
    obtain ⟨hY4,hP4⟩:=hP3.yq hk4 (I':=I2) (fun _ h => h) (fun _ h => .inl h)
    have hB4:=hB3.same hP3.sz hk4
    have hH4:=hH3.keep hk4 hP3.lt (fun _ h => h) (fun _ h => .inl h)
    have h34':=h33.same hP3.lt hk4
    have hkI:∀ c,I2 c->W4.heap[c]? = W3.heap[c]?:=fun c hc => hk4.block c (hP3.lt c hc) (fun e => by cases e)
    have s0:Rep I2 W4 (us6 0) (cuC x 0):=r0.mono (fun _ h => h) hkI
    have s1:Rep I2 W4 (us6 1) (cuC x 1):=r1.mono (fun _ h => h) hkI
    refine tail_ex rfl (fun c e => by cases e) (hH4.app (t:=90) (x:=.tmp 32) (y:=.tmp 34) (hh:=fun _ => cuC x) (news:=[us6 0,us6 1]) Tryz_elT_90 Tryz_zeroT_93 rfl (by decide) rfl h32 e34 rfl (fun j u hj => ?_) (fun u hu => ?_) (fun i j hi hj => ?_) (room_of (by omega) (by decide)) hP4.sz hP4.lt hP4.vlt) ?_
    ·rw [add_plain]
     match j,hj with
     | 0,hj => rw [← hj];exact hcell9 0 (by decide)
     | 1,hj => rw [← hj];exact hcell9 1 (by decide)
     | j + 2,hj => simp at hj
    ·simp at hu
     rcases hu with rfl | rfl
     ·exact s0.one
     ·exact s1.one
    ·have:i = 0:=by omega
     subst this
     match j,hj with
     | 0,_ => exact ⟨_,rfl,s0⟩
     | 1,_ => exact ⟨_,rfl,s1⟩
    rintro v2 W5 ⟨hH5,hgr,hnew⟩
    obtain ⟨hnI,hobs⟩:(∀ b',v'.ownBlock = some b'->w1.heap.size<=b')/\(∀ b',v'.ownBlock = some b'->¬ I2 b'/\¬ V b'):=by
     refine ⟨fun b' hb' => (hH4.lt b' hb').1,?_⟩
     obtain ⟨_,_,_,_,q⟩:=hH4
     exact q
    obtain ⟨y5,hP5⟩:=hP4.grown hgr hnI hobs
    have hY5:=Yq.grown y5 hgr (fun b' hb' => hH4.cells hb')
    have hnb:∀ b',v'.ownBlock = some b'->b' ≠ b:=fun b' hb' e => by
     have:=hnI b' hb';have:=hB4.1;omega
    have hB5:=hB4.grown hP4.sz hgr (fun q => hnb b q rfl)
    have h35:RepS I2 W5 v3 (.d (.ref 1 (dget [betD]))):=h34'.kept ⟨hgr.size,fun _ h => h,fun c hc => hgr.block c (hP4.lt c hc) (fun q => (hobs c q.symm).1 hc)⟩
    have hf5':(a4.put (some 35) v2).tmps.getD 5 undef = outP b:=(put_ne (by decide)).trans hf5
    have hv35:(a4.put (some 35) v2).tmps.getD 35 undef = v2:=put_eq (by rw [hz4];decide)
    refine tail_skp rfl (fun c e => by cases e) (run_storeCl (a:=a4.put (some 35) v2) (b:=b) (I:=I2) (T:=T5) (u:=v') (v:=v2) rfl rfl hf5' rfl hv35 hH5.one hB5) ?_
    obtain ⟨y6,hP6,hB6,ho⟩:=hP5.row n5 hB5 (cs:=#[v2])
    have hne:v2.ownBlock ≠ some b:=fun q => by
     rcases hnew b q with q | q
     ·exact hnb b q rfl
     ·have:=hB4.1;have:=hP4.sz;omega
    refine tail_end ⟨I2,((((hYc.trans hY3).trans hY4).trans hY5).trans y6),hP6,⟨v2,hB6,?_⟩,h35.row hB5.2.1⟩
    rw [e]
    have hfin:=(hH5.row (cs:=#[v2]) hne hB5.2.1).congr (g':=fun j => cuD ((out' ++ [x]).getD j default)) (fun i j hi hj => by
     have hlt:i < (out' ++ [x]).length:=by rw [List.length_append];exact hi
     by_cases h:i < out'.length
     ·rw [if_pos h]
      rw [List.getD_eq_getElem?_getD (l:=out' ++ [x]),List.getElem?_append_left h,← List.getD_eq_getElem?_getD]
     ·rw [if_neg h]
      have:i = out'.length:=by omega
      subst this
      rw [List.getD_eq_getElem?_getD (l:=out' ++ [x]),List.getElem?_append_right (Nat.le_refl _),Nat.sub_self]
      match j,hj with
      | 0,_ => rfl
      | 1,_ => rfl)
    have el:(out' ++ [x]).length = out'.length + 1:=by simp
    rw [el]
    exact hfin
   ·refine wpIn_skip ⟨I2,hYc.trans hY3,hP3,⟨v',hB3,?_⟩,h33⟩
    have e:bstL (L.take (i + 1)) = out':=by
     rw [hsucc,hstep]
     cases out' with
     | nil => simp at hb
     | cons y r =>
      have h2:y.2 < x.2:=by simp at hb;omega
      simp only [if_pos h2]
    rw [e];exact hH3
 case done =>
  rintro D I2 V W hD ⟨hP,⟨v,hB,hH⟩,h3⟩ hnD hmD
  have htk:L.take (L.map ctS).length = L:=by rw [List.length_map,List.take_length]
  rw [htk] at hH
  show Code.wpIn fen 0 Tryz.prog (.seq (.region _ _ _) .ret) _ _ _
  refine wpIn_seq (wpIn_region ?_)
  have hp5':({ a with defers:=[markOf D] }:Act).tmps.getD 5 undef = outP b:=hp5
  have hz':({ a with defers:=[markOf D] }:Act).tmps.size = Tryz.f109.ntmps:=hsz
  have hd':({ a with defers:=[markOf D] }:Act).defers = [markOf D]:=rfl
  generalize ({ a with defers:=[markOf D] }:Act) = a9 at hp5' hz' hd'
  refine tail_val (m:=0) (k:=1) rfl (fun c e => by cases e) (run_loadCl (b:=b) (I:=I2) (T:=T5) (n:=w1.heap.size) (u:=v) rfl hp5' Tryz_ldT_90 hB) ?_
  refine tail_val rfl (fun c e => by cases e) (run_move (v:=v) (.inr rfl) (put_eq (by rw [hz'];decide))) ?_
  refine tail_end (wpIn_ret ?_)
  have hlt:=hH.lt
  have hdis:∀ c,v.ownBlock = some c->¬ I2 c/\¬ V c:=by
   obtain ⟨_,_,_,_,q⟩:=hH
   exact q
  refine ⟨.inl rfl,.inr ⟨D,{ env:=[(4,.d (.sl 2 (bstL L).length (fun j => cuD ((bstL L).getD j default))))],bx:=[],tk:=[] },hmD,?_,?_⟩⟩
  ·show resOK Tryz.prog [.tmp 4] _ _
   ((try dsimp only [thenK,blockK,noGotoK]);simp only [toList_mk,List.toList_toArray,retK_ret,retK_normal,resOK,resV,celV,rowV,frzAll,frzT,subV,subL,go_sem,↓dP,↓reduceIte])
   exact .refl _
  ·have hP':=hP.put (o':=.deferred none) hD
   have hownD:∀ c,v.ownBlock = some c->c ≠ D:=fun c hc e => by
    obtain ⟨cs,T,fz,q⟩:=hH.cells hc
    rw [e,hmD] at q;cases q
   refine @St.boxes _ ⟨[markOf D],[]⟩ _ (fun c => I2 c∨v.ownBlock = some c) _ _ _ _ _ _ [] (by rw [put_sz,put_sz];exact hz') hd' (fun c hc => ?_) (fun b _ e => by cases e) trivial (fun c hc => ?_) hP'.keep rfl (fun i i' b hi hi' => by simp at hi) (fun i blk c hi hc => by simp at hi) (bat_cons (.inl ?_) bat_nil) (fun p hp => by cases hp)
   ·rcases hc with q | q
    ·exact hP'.lt c q
    ·rw [World.putObj_size];exact (hlt c q).2
   ·rcases hc with q | q
    ·exact hP.i0 c q
    ·have:=(hlt c q).1;have:=hkeep.size;exact .inr (by omega)
   ·rw [put_eq (by rw [put_sz,hz'];decide)]
    refine fun Y => .d (hH.data.mono (fun _ h => h) (fun c hc => putObj_other (fun e => ?_)))
    rcases hc with q | q
    ·exact hnD (e ▸ q)
    ·exact hownD c q e
 case stop =>
  rintro D i I2 V W hD hi h;exact h.elim
end
end Go.Proofs.Leaf
namespace Go.Proofs.Leaf
open Go Go.RX Go.Proofs
set_option maxRecDepth 10000
variable [Glob]
abbrev bsts (J:Job):List (List Nat):=bestsL J.fit J.ps.length
abbrev prs (B:List (List Nat)):List (List Nat×Nat):=B.map (fun l => (l,leaves l))
abbrev bstD (B:List (List Nat)):DV:=.sl 2 B.length (fun j => cuD ((prs B).getD j default))
theorem fit_sub {J:Job} (hJ:J.sized):∀ s t,t &&& s = t->J.fit s = true->J.fit t = true :=
 fun s t h hs => can_fewer hJ.s.good (J.wide.toNat + J.high.toNat) _ _ s t (Nat.le_refl _) h hs
theorem puts_eq {J:Job} (hJ:J.sized):putK J.fit J.ps.length [] [] = prs (cutsL J.fit J.ps.length):=putK_all (fit_sub hJ) _
theorem lists_len {J:Job} (hn:J.ps.length<=5):(cutsL J.fit J.ps.length).length<=3125:=by
 have h1:=listsK_len J.ps.length []
 have h2:(leaves [] + J.ps.length) ^ J.ps.length<=5 ^ 5:=Nat.le_trans (Nat.pow_le_pow_left (by simp [leaves];omega) _) (Nat.pow_le_pow_right (by decide) (by omega))
 have h3:(cutsL J.fit J.ps.length).length<=(listsK J.ps.length []).length:=List.length_filter_le _ _
 omega
theorem bsts_len {J:Job} (hn:J.ps.length<=5):(bsts J).length<=3125:=by
 refine Nat.le_trans ?_ (lists_len hn)
 unfold bsts bestsL
 rw [bestF_eq]
 exact List.length_filter_le _ _
theorem bst_prs (J:Job) (hJ:J.sized):bstL (putK J.fit J.ps.length [] []) = prs (bsts J):=by
 rw [puts_eq hJ]
 unfold bstL prs
 rw [bestF_map]
 rfl
theorem prs_at {B:List (List Nat)} {i:Nat} (h:i < B.length):(prs B).getD i default = (B.getD i default,leaves (B.getD i default)):=by
 simp [prs,List.getD_eq_getElem?_getD,h]
theorem c_bests (J:Job) (hJ:J.sized) (hn:J.ps.length<=5):Ctr Tryz.prog 59 [J.sv] (.d (bstD (bsts J))):=by
 have hb:Ctr Tryz.prog 109 [.d (ctsD J),.d betD] (.d (bstD (bsts J))):=by
  have:=c_best 133 1 (dget [J.ref]) (putK J.fit J.ps.length [] []) (by rw [puts_eq hJ,List.length_map];have:=lists_len hn;omega) (it_cuttings1 J hJ)
  rw [bst_prs J hJ,List.length_map] at this
  exact Ctr.any this
 (refine Ctr.mk (fn:=Tryz.f59) rfl rfl rfl rfl rfl Tryz.results59 ?_;intro _;dsimp only [args,List.toList_toArray])
 (first|refine qE ?_|refine qD ?_);(simp only [go_sem,↓dP,↓reduceIte];with_reducible and_intros;all_goals first|apply qA|exact qC|skip)
 (first|refine qE ?_|refine qD ?_);(simp only [go_sem,↓dP,↓reduceIte];with_reducible and_intros;all_goals first|apply qA|exact qC|skip)
 (refine AskI.ret (c_cuttings J) ?_;simp only [go_sem,↓dP,↓reduceIte];with_reducible and_intros;all_goals first|apply qA|exact qC|skip)
 (refine AskI.ret (hb) ?_;simp only [go_sem,↓dP,↓reduceIte];with_reducible and_intros;all_goals first|apply qA|exact qC|skip)
 (refine Ok.ret ?_;(try dsimp only [thenK,blockK,noGotoK]);simp only [toList_mk,List.toList_toArray,retK_ret,retK_normal,resOK,resV,celV,rowV,frzAll,frzT,subV,subL,go_sem,↓dP,↓reduceIte])
 exact .refl _
theorem c_Cut (J:Job) (h:J.ok):Ctr Tryz.prog 22 [J.sv] (.tup [ilS (asI ((bsts J).head?.getD [])),iS ((leaves ((bsts J).head?.getD []):Nat):Int),iS (if bsts J = [] then 5 else 0)]):=by
 have hb:=c_bests J h.sized h.p1
 have hlen:=bsts_len (J:=J) h.p1
 have hat:=fun (i:Nat) (hi:i < (bsts J).length) => prs_at hi
 generalize bsts J = B at hb hlen hat ⊢
 (refine Ctr.mk (fn:=Tryz.f22) rfl rfl rfl rfl rfl Tryz.results22 ?_;intro _;dsimp only [args,List.toList_toArray])
 (first|refine qE ?_|refine qD ?_);(simp only [go_sem,↓dP,↓reduceIte];with_reducible and_intros;all_goals first|apply qA|exact qC|skip)
 refine Ok.seq ?_
 (first|refine qE ?_|refine qD ?_);(simp only [go_sem,↓dP,↓reduceIte];with_reducible and_intros;all_goals first|apply qA|exact qC|skip)
 (refine AskI.ret (c_isJob J h.held) ?_;simp only [go_sem,↓dP,↓reduceIte];with_reducible and_intros;all_goals first|apply qA|exact qC|skip)
 refine Ok.cond rfl (fun hb => by rw [jobB_iff.2 h] at hb;cases hb) (fun _ => ?_)
 (refine Ok.skip ?_;(try dsimp only [thenK,blockK,noGotoK]))
 (first|refine qE ?_|refine qD ?_);(simp only [go_sem,↓dP,↓reduceIte];with_reducible and_intros;all_goals first|apply qA|exact qC|skip)
 (refine AskI.ret (hb) ?_;simp only [go_sem,↓dP,↓reduceIte];with_reducible and_intros;all_goals first|apply qA|exact qC|skip)
 refine Ok.seq ?_
 (first|refine qE ?_|refine qD ?_);(simp only [go_sem,↓dP,↓reduceIte];with_reducible and_intros;all_goals first|apply qA|exact qC|skip)
 cases B with
 | nil =>
  refine Ok.cond (b:=true) (by first | rfl | (simp only [go_sem,↓dP,↓reduceIte];rfl)) (fun _ => ?_) (fun hb => by cases hb)
  (first|refine qE ?_|refine qD ?_);(simp only [go_sem,↓dP,↓reduceIte];with_reducible and_intros;all_goals first|apply qA|exact qC|skip)
  (refine Ok.ret ?_;(try dsimp only [thenK,blockK,noGotoK]);simp only [toList_mk,List.toList_toArray,retK_ret,retK_normal,resOK,resV,celV,rowV,frzAll,frzT,subV,subL,go_sem,↓dP,↓reduceIte])
  ((repeat' with_reducible apply And.intro)<;>(first | exact DEq.refl _ | refine DEq.int ?_ | refine DEq.bool ?_ | skip))
  exact DEq.nils rfl
 | cons l r =>
  refine Ok.cond rfl (fun hb => by simp at hb;omega) (fun _ => ?_)
  (refine Ok.skip ?_;(try dsimp only [thenK,blockK,noGotoK]))
  (first|refine qE ?_|refine qD ?_);(simp only [go_sem,↓dP,↓reduceIte];with_reducible and_intros;all_goals first|apply qA|exact qC|skip)
  (refine Ok.ret ?_;(try dsimp only [thenK,blockK,noGotoK]);simp only [toList_mk,List.toList_toArray,retK_ret,retK_normal,resOK,resV,celV,rowV,frzAll,frzT,subV,subL,go_sem,↓dP,↓reduceIte])
  ((repeat' with_reducible apply And.intro)<;>(first | exact DEq.refl _ | refine DEq.int ?_ | refine DEq.bool ?_ | skip))
theorem c_Ways (J:Job) (h:J.ok):Ctr Tryz.prog 23 [J.sv] (.tup [iS (bsts J).length,iS 0]):=by
 have hb:=c_bests J h.sized h.p1
 have hlen:=bsts_len (J:=J) h.p1
 generalize bsts J = B at hb hlen ⊢
 (refine Ctr.mk (fn:=Tryz.f23) rfl rfl rfl rfl rfl Tryz.results23 ?_;intro _;dsimp only [args,List.toList_toArray])
 (first|refine qE ?_|refine qD ?_);(simp only [go_sem,↓dP,↓reduceIte];with_reducible and_intros;all_goals first|apply qA|exact qC|skip)
 refine Ok.seq ?_
 (first|refine qE ?_|refine qD ?_);(simp only [go_sem,↓dP,↓reduceIte];with_reducible and_intros;all_goals first|apply qA|exact qC|skip)
 (refine AskI.ret (c_isJob J h.held) ?_;simp only [go_sem,↓dP,↓reduceIte];with_reducible and_intros;all_goals first|apply qA|exact qC|skip)
 refine Ok.cond rfl (fun hb => by rw [jobB_iff.2 h] at hb;cases hb) (fun _ => ?_)
 (refine Ok.skip ?_;(try dsimp only [thenK,blockK,noGotoK]))
 (first|refine qE ?_|refine qD ?_);(simp only [go_sem,↓dP,↓reduceIte];with_reducible and_intros;all_goals first|apply qA|exact qC|skip)
 (refine AskI.ret (hb) ?_;simp only [go_sem,↓dP,↓reduceIte];with_reducible and_intros;all_goals first|apply qA|exact qC|skip)
 (refine Ok.ret ?_;(try dsimp only [thenK,blockK,noGotoK]);simp only [toList_mk,List.toList_toArray,retK_ret,retK_normal,resOK,resV,celV,rowV,frzAll,frzT,subV,subL,go_sem,↓dP,↓reduceIte])
 ((repeat' with_reducible apply And.intro)<;>(first | exact DEq.refl _ | refine DEq.int ?_ | refine DEq.bool ?_ | skip))
end Go.Proofs.Leaf
namespace Go.Proofs.Leaf
open Go Go.RX Go.Proofs Go.RowKit
attribute [local go_sem] Oper.semAt_some
set_option maxRecDepth 100000
theorem al_new {w:World} (o:Obj) {n:Nat} (h:w.heap.size = n):(w.alloc o).heap[n]? = some o:=by subst h;exact World.alloc_heap_new w o
theorem al_old {w:World} (o:Obj) {n:Nat} {x:Obj} (h:w.heap[n]? = some x):(w.alloc o).heap[n]? = some x:=by
 rw [← h];exact Below.heap_alloc _ _ _ (Array.getElem?_eq_some_iff.1 h).1
theorem al_sz {w:World} (o:Obj) {n:Nat} (h:w.heap.size = n):(w.alloc o).heap.size = n + 1:=by subst h;simp
theorem cell_at {W:World} {B:Nat} {cs:Array Value} {T:TypeId} {fz:Nat×Nat} (h:W.heap[B]? = some (.cells cs T fz)) (j:Nat):W.cell? ⟨B,j,none⟩ = cs[j]?:=by
 simp [World.cell?,h]
theorem st_same {W:World} {B:Nat} {cs:Array Value} {T:TypeId} {fz:Nat×Nat} (h:W.heap[B]? = some (.cells cs T fz)) (j:Nat) (v:Value):(W.setCell ⟨B,j,none⟩ v).heap[B]? = some (.cells (cs.setIfInBounds j v) T fz):=by
 obtain ⟨hlt,hk⟩:=Array.getElem?_eq_some_iff.1 h
 show (W.heap.modify B _)[B]? = _
 rw [Array.getElem?_eq_getElem (by rw [Array.size_modify];exact hlt),Array.getElem_modify_self,hk]
 rfl
structure But (B:Nat) (w w':World):Prop where
 os:w'.os = w.os
 tape:w'.tape = w.tape
 output:w'.output = w.output
 size:w.heap.size<=w'.heap.size
 block:∀ k,k < w.heap.size->k ≠ B->w'.heap[k]? = w.heap[k]?
set_option maxHeartbeats 4000000 in
theorem catch_idle (p:Addr) (w:World) :
  CallsD Tryz.prog 115 #[.pointer (some p)] .returning w fun e u' w' => e = .returned (.tuple #[])/\u' = .returning/\w' = w:=by
 refine callsD_of_wpS Tryz.func115 rfl fun c₀ cs hu => ?_
 have hnil:∀ w:World,(binOp BinOp.eql 20 .nilIface .nilIface).run Tryz.prog w = .ok (.bool true) w:=fun _ => by kernel_rfl
 simp only [Tryz.ntmps115,List.size_toArray,List.length_cons,List.length_nil,Nat.reduceAdd,Nat.reduceSub,Array.replicate_succ,Array.replicate_zero,List.push_toArray,List.append_toArray,List.nil_append,List.cons_append]
 apply wpS_seq
 apply wpS_region
 simp [wpOpsS,go_sem,recoverD,hu,Exit.thenS]
 refine wpS_of_wp ?_
 go_wp2
 cases c₀
 simp_all [bodyPostS,results,Tryz.results115,go_sem]
set_option maxHeartbeats 4000000 in
theorem catch_apart (B:Nat) (s x:Int) (w:World) (h1:w.heap[B]? = some (.cells #[.int .i64 x] 39)) :
  CallsD Tryz.prog 115 #[.pointer (some ⟨B,0,none⟩)] (.panicking [{ v:=.iface 146 (.agg #[.int .i64 s]),recovered:=false }]) w fun e u' w' => e = .returned (.tuple #[])/\settle u' = .returning /\
   w'.heap[B]? = some (.cells #[.int .i64 7] 39)/\But B w w':=by
 refine callsD_of_wpS Tryz.func115 rfl fun c₀ cs hu => ?_
 have hnil:∀ (v:Value) (w:World),(binOp BinOp.eql 20 (.iface 146 v) .nilIface).run Tryz.prog w = .ok (.bool false) w:=fun _ _ => by kernel_rfl
 have hta:∀ (v:Value) (w:World),(Instr.typeAssert (.iface 146 v) 20 146 true).run Tryz.prog w = .ok (.tuple #[v,.bool true]) w:=fun _ _ => by kernel_rfl
 have hlt:=(Array.getElem?_eq_some_iff.1 h1).1
 have hA1:=al_old (.cells #[.int .i64 s] 146) h1
 have g10:=cell_at hA1 0
 simp only [List.getElem?_toArray,List.getElem?_cons_zero,List.getElem?_cons_succ] at g10
 have f10:(w.alloc (.cells #[.int .i64 s] 146)).frozen? ⟨B,0,none⟩ = false:=by simp [World.frozen?,hA1]
 simp only [Tryz.ntmps115,List.size_toArray,List.length_cons,List.length_nil,Nat.reduceAdd,Nat.reduceSub,Array.replicate_succ,Array.replicate_zero,List.push_toArray,List.append_toArray,List.nil_append,List.cons_append]
 apply wpS_seq
 apply wpS_region
 simp [wpOpsS,go_sem,recoverD,hu,Exit.thenS]
 refine wpS_of_wp ?_
 go_wp2
 refine ⟨rfl,.panicking [{ v:=.iface 146 (.agg #[.int .i64 s]),recovered:=true }],rfl,.tuple #[],results_none rfl _ _ _,rfl,rfl,?_⟩
 have s1:=st_same h1 0 (.int .i64 7)
 refine ⟨al_old _ s1,rfl,rfl,rfl,?_,fun k hk hne => ?_⟩
 ·simp [World.setCell,Array.size_modify]
 ·rw [Below.heap_alloc _ _ k (by simp [World.setCell,Array.size_modify];exact hk),Below.heap_setCell _ _ _ k hne]
theorem enters_of' {P:Program} {f:FuncId} (h:∃ fn,P.funcs[f]? = some fn/\(fn.name == "runtime.NumGoroutine") = false/\fn.body.isNone = false) (args:Array Value) (w:World):(callFunc f args).run P w = .ok (.enter f args) w:=by
 obtain ⟨fn,h1,h2,h3⟩:=h
 have h4:fn.name ≠ "runtime.NumGoroutine":=by simpa using h2
 cases hb:fn.body with
 | none => rw [hb] at h3;cases h3
 | some c => simp [callFunc,h1,h4,hb,mark]
abbrev attW (w:World):World:=w.alloc (.cells #[.int .i64 0] 39)
theorem But.trans {B:Nat} {a b c:World} (h:But B a b) (k:But B b c):But B a c :=
 ⟨k.os.trans h.os,k.tape.trans h.tape,k.output.trans h.output,Nat.le_trans h.size k.size,fun i hi hne => (k.block i (Nat.lt_of_lt_of_le hi h.size) hne).trans (h.block i hi hne)⟩
set_option maxHeartbeats 4000000 in
theorem att_ok (f:Nat) (caps:Array Value) (w:World) (hent:∃ fn,Tryz.prog.funcs[f]? = some fn/\(fn.name == "runtime.NumGoroutine") = false/\fn.body.isNone = false) (R:World->Prop)
  (hf:Calls Tryz.prog f caps (attW w) fun e w1 => e = .returned (.tuple #[])/\w1.heap[w.heap.size]? = some (.cells #[.int .i64 0] 39)/\R w1) :
  Calls Tryz.prog 69 #[.func (.func f) #[] caps] w fun e w' => e = .returned (.int .i64 0)/\∃ w1,R w1/\But w.heap.size w1 w':=by
 have hmf:∀ (fn:Fn) (first cap:Array Value) (w:World),(Instr.makeFunc fn first cap).run Tryz.prog w = .ok (.func fn first cap) w:=fun _ _ _ _ => rfl
 have he:=enters_of' hent
 refine calls_of_wp_defers Tryz.func69 rfl ?_
 simp only [Tryz.ntmps69,List.size_toArray,List.length_cons,List.length_nil,Nat.reduceAdd,Nat.reduceSub,Array.replicate_succ,Array.replicate_zero,List.push_toArray,List.append_toArray,List.nil_append,List.cons_append]
 go_wp2
 refine hf.mono ?_
 rintro e w1 ⟨rfl,k1,hR⟩
 have g:=cell_at k1 0
 simp only [List.getElem?_toArray,List.getElem?_cons_zero,List.getElem?_cons_succ] at g
 have f0:w1.frozen? ⟨w.heap.size,0,none⟩ = false:=by simp [World.frozen?,k1]
 go_wp2
 have k2:=st_same k1 0 (.int .i64 0)
 have hB:But w.heap.size w1 (w1.setCell ⟨w.heap.size,0,none⟩ (.int .i64 0)):=⟨rfl,rfl,rfl,by simp [World.setCell,Array.size_modify],fun k _ hne => Below.heap_setCell _ _ _ k hne⟩
 generalize (w1.setCell ⟨w.heap.size,0,none⟩ (.int .i64 0)) = w2 at k2 hB
 refine leaves_cons (f:=115) (args:=#[.pointer (some ⟨w.heap.size,0,none⟩)]) (by simp) (by simp [go_sem]) ?_
 refine (catch_idle ⟨w.heap.size,0,none⟩ _).mono ?_
 rintro e u' w'' ⟨rfl,rfl,rfl⟩
 have q:=cell_at k2 0
 simp [Leaves,settle,results,Tryz.results69,go_sem,q]
 exact ⟨_,hR,hB⟩
set_option maxHeartbeats 4000000 in
theorem att_apart (f:Nat) (caps:Array Value) (s:Int) (w:World) (hent:∃ fn,Tryz.prog.funcs[f]? = some fn/\(fn.name == "runtime.NumGoroutine") = false/\fn.body.isNone = false) (R:World->Prop)
  (hf:Calls Tryz.prog f caps (attW w) fun e w1 => e = .panicked [{ v:=.iface 146 (.agg #[.int .i64 s]),recovered:=false }]/\w1.heap[w.heap.size]? = some (.cells #[.int .i64 0] 39)/\R w1) :
  Calls Tryz.prog 69 #[.func (.func f) #[] caps] w fun e w' => e = .returned (.int .i64 7)/\∃ w1,R w1/\But w.heap.size w1 w':=by
 have hmf:∀ (fn:Fn) (first cap:Array Value) (w:World),(Instr.makeFunc fn first cap).run Tryz.prog w = .ok (.func fn first cap) w:=fun _ _ _ _ => rfl
 have he:=enters_of' hent
 refine calls_of_wp_defers Tryz.func69 rfl ?_
 simp only [Tryz.ntmps69,List.size_toArray,List.length_cons,List.length_nil,Nat.reduceAdd,Nat.reduceSub,Array.replicate_succ,Array.replicate_zero,List.push_toArray,List.append_toArray,List.nil_append,List.cons_append]
 go_wp2
 refine hf.mono ?_
 rintro e w1 ⟨rfl,k1,hR⟩
 refine leaves_cons (f:=115) (args:=#[.pointer (some ⟨w.heap.size,0,none⟩)]) (by simp) (by simp [go_sem]) ?_
 refine (catch_apart w.heap.size s 0 _ k1).mono ?_
 rintro e u' w'' ⟨rfl,hset,k2,hB⟩
 have q:=cell_at k2 0
 simp only [List.getElem?_toArray,List.getElem?_cons_zero,List.getElem?_cons_succ] at q
 simp only [hset]
 simp [Leaves,results,Tryz.results69,go_sem,q]
 exact ⟨_,hR,hB⟩
end Go.Proofs.Leaf
namespace Go.Proofs.Leaf
open Go Go.RX Go.Proofs Go.RowKit
set_option maxRecDepth 10000
section
variable [Glob]
theorem tup0_val {I:Nat->Prop} {w:World} {v:Value} (h:RepS I w v (.tup [])):v = .tuple #[]:=by
 have h0:=h (fun _ => none)
 cases h0 with
 | @tup cs xs hl h =>
  obtain ⟨l⟩:=cs
  cases l with
  | nil => rfl
  | cons a l => simp at hl
theorem keep_att {w w1 w':World} (hk:Keep (attW w).heap.size (attW w) w1) (hG:Glob.G w) (hb:But w.heap.size w1 w'):Keep w.heap.size w w':=by
 have hF:Glob.F<=w.heap.size:=Glob.lo _ hG
 have hal:Below w.heap.size w (attW w):=(Below.refl _ w).alloc (Nat.le_refl _) _
 have hGa:Glob.G (attW w):=Glob.st _ _ hG (hal.mono hF)
 have h1:=hk.size
 have h2:(attW w).heap.size = w.heap.size + 1:=World.size_alloc _ _
 refine ⟨hb.os.trans (hk.os.trans hal.os),hb.tape.trans (hk.tape.trans hal.tape),hb.output.trans (hk.output.trans hal.output),by have:=hb.size;omega,fun k hk' hM => ?_,fun _ => ?_⟩
 ·rw [hb.block k (by omega) (by omega),hk.block k (by omega) hM];exact hal.block k hk'
 ·exact Glob.st _ _ (hk.gl hGa) ⟨hb.os,hb.tape,hb.output,hb.size,fun k hk' => hb.block k (by omega) (by omega)⟩
theorem clo_vals {I:Nat->Prop} {w:World} {v:Value} {f n:Nat} {c:Nat->DV} (h:RepS I w v (.d (.clo f n c))):∃ us:Array Value,v = .func (.func f) #[] us/\us.size = n/\∀ (j:Nat) (u:Value),us[j]? = some u->Rep I w u (c j):=by
 have h:=mt_d (h (fun _ => none))
 cases h with
 | clo h1 h2 => exact ⟨_,rfl,h1,h2⟩
theorem clo_args {I:Nat->Prop} {w w':World} {us:Array Value} {n:Nat} {c:Nat->DV} (hr:∀ (j:Nat) (u:Value),us[j]? = some u->Rep I w u (c j)) (hk:∀ b,I b->w'.heap[b]? = w.heap[b]?) :
  ∀ (j:Nat) (u:Value) (s:SV),us[j]? = some u->(take c 0 n)[j]? = some s->RepS I w' u s:=fun j u s hu hs => by
 have:=take_at c n 0 j s hs
 rw [Nat.zero_add] at this
 subst this
 exact fun Y => .d ((hr j u hu).mono (fun _ h => h) hk)
theorem att_pre {I:Nat->Prop} {w:World} (hG:Glob.G w) (hI:∀ b,I b->b < w.heap.size):Glob.G (attW w)/\(∀ b,I b->b < (attW w).heap.size)/\(∀ b,I b->(attW w).heap[b]? = w.heap[b]?)/\(attW w).heap[w.heap.size]? = some (.cells #[.int .i64 0] 39)/\w.heap.size < (attW w).heap.size/\Glob.M ≠ some w.heap.size:=by
 have hF:Glob.F<=w.heap.size:=Glob.lo _ hG
 have hal:Below w.heap.size w (attW w):=(Below.refl _ w).alloc (Nat.le_refl _) _
 have h2:(attW w).heap.size = w.heap.size + 1:=World.size_alloc _ _
 refine ⟨Glob.st _ _ hG (hal.mono hF),fun b hb => by have:=hI b hb;omega,fun b hb => hal.block b (hI b hb),al_new _ rfl,by omega,fun e => ?_⟩
 have:=Glob.mF _ e
 omega
theorem c_att_ok (f n:Nat) (c:Nat->DV) (hf:Ctr Tryz.prog f (take c 0 n) (.tup [])):Ctr Tryz.prog 69 [.d (.clo f n c)] (iS 0):=by
 refine ⟨⟨Tryz.f69,rfl,rfl,rfl⟩,fun I w vs hG hI hM hl hA => ?_⟩
 obtain ⟨v0,rfl⟩:∃ v0,vs = #[v0]:=Array.size_eq_one_iff.1 hl
 obtain ⟨us,rfl,hus,hr⟩:=clo_vals (hA 0 v0 _ rfl rfl)
 obtain ⟨p1,p2,p3,p4,p5,p6⟩:=att_pre hG hI
 refine (att_ok f us w hf.1 (fun w1 => Keep (attW w).heap.size (attW w) w1) ((hf.2 I (attW w) us p1 p2 hM (by rw [hus,take_len]) (clo_args hr p3)).mono ?_)).mono ?_
 ·rintro e w1 ⟨v,rfl,hv,hk⟩
  exact ⟨by rw [tup0_val hv],(hk.block _ p5 p6).trans p4,hk⟩
 ·rintro e w' ⟨rfl,w1,hk,hb⟩
  exact ⟨_,rfl,fun Y => .d .int,keep_att hk hG hb⟩
theorem c_att_apart (f n:Nat) (c:Nat->DV) (s:Nat) (hf:CtrP Tryz.prog f (take c 0 n) (apartD s)):Ctr Tryz.prog 69 [.d (.clo f n c)] (iS 7):=by
 refine ⟨⟨Tryz.f69,rfl,rfl,rfl⟩,fun I w vs hG hI hM hl hA => ?_⟩
 obtain ⟨v0,rfl⟩:∃ v0,vs = #[v0]:=Array.size_eq_one_iff.1 hl
 obtain ⟨us,rfl,hus,hr⟩:=clo_vals (hA 0 v0 _ rfl rfl)
 obtain ⟨p1,p2,p3,p4,p5,p6⟩:=att_pre hG hI
 refine (att_apart f us s w hf.1 (fun w1 => Keep (attW w).heap.size (attW w) w1) ((hf.2 I (attW w) us p1 p2 hM (by rw [hus,take_len]) (clo_args hr p3)).mono ?_)).mono ?_
 ·rintro e w1 ⟨v,I',rfl,_,_,hv,hk⟩
  refine ⟨?_,(hk.block _ p5 p6).trans p4,hk⟩
  have:v = .iface 146 (.agg #[.int .i64 s]):=by
   cases hv with
   | ifc hl hr =>
    rename_i us
    obtain ⟨u,rfl⟩:∃ u,us = #[u]:=Array.size_eq_one_iff.1 hl
    have:=hr 0 u rfl
    change Rep I' w1 u (iD s) at this
    cases this;rfl
  rw [this]
 ·rintro e w' ⟨rfl,w1,hk,hb⟩
  exact ⟨_,rfl,fun Y => .d .int,keep_att hk hG hb⟩
end
section
theorem kn0_memo {I:Nat->Prop} {w:World} {v:Value} {J:Job} (h:RepS I w v (kn0 J)):∃ m clk,I m/\w.heap[m]? = some (.map #[] clk)/\RepS (fun b => I b/\b ≠ m) w v (knS J m):=by
 have hr':RepS I w v (.agg (([iD J.wide,iD J.high,iD J.book,iD J.spoilt,slD 4 groD J.gs,slD 4 pieD J.ps,.mp 0 0 (fun _ _ => .nilI)]:List DV).map .d)):=h
 have h0:=hr' (fun _ => none)
 obtain ⟨cs,rfl,hcs,r,es,clk,h6,hIr,hm,hn⟩:∃ cs,v = .agg cs/\cs.size = 7/\∃ r es clk,cs[6]? = some (.map (some r))/\I r/\w.heap[r]? = some (.map es clk)/\es.size = 0:=by
  cases h0 with
  | agg hl0 h1 h2 =>
   rename_i cs
   have h7:cs.size = 7:=by rw [hl0];rfl
   have h6:cs[6]? = some (cs[6]'(by omega)):=Array.getElem?_eq_getElem _
   have:=mt_d (h1 6 _ (.d (.mp 0 0 (fun _ _ => .nilI))) h6 rfl)
   refine ⟨cs,rfl,h7,?_⟩
   rw [h6]
   generalize cs[6]'(by omega) = u at this
   cases this with
   | mp es clk us hI' hm hn => exact ⟨_,es,clk,rfl,hI',hm,hn⟩
 obtain rfl:es = #[]:=Array.eq_empty_of_size_eq_zero hn
 have hcr:∀ b,cO I w b->I b/\b ≠ r:=by
  rintro b ⟨hb,c1,T1,f1,hc1⟩
  exact ⟨hb,fun e => by subst e;rw [hm] at hc1;cases hc1⟩
 refine ⟨r,clk,hIr,hm,?_⟩
 refine agg_turn (ds':=knD J r) hr' rfl (fun cs' he i u x y hu hx hy hr => ?_)
 cases he
 rcases i with _ | _ | _ | _ | _ | _ | _ | i<;>cases hx<;>cases hy
 ·cases hr;exact .int
 ·cases hr;exact .int
 ·cases hr;exact .int
 ·cases hr;exact .int
 ·exact (rep_sl_cells hr (by decide) (fun _ _ _ _ => flat_gro _ _)).mono hcr (fun _ _ => rfl)
 ·exact (rep_sl_cells hr (by decide) (fun _ _ _ _ => flat_pie _ _)).mono hcr (fun _ _ => rfl)
 ·rw [h6] at hu;cases hu;exact .raw rfl
theorem memo_new {I I0:Nat->Prop} {w0 w:World} {m clk:Nat} (hm:w.heap[m]? = some (.map #[] clk)) (hI:I m) (hi:∀ b,I b->I0 b∨w0.heap.size<=b) (hk:Keep w0.heap.size w0 w) (h0:∀ b,I0 b->b < w0.heap.size) (hc:∀ b,I0 b->∃ cs T fz,w0.heap[b]? = some (.cells cs T fz)):w0.heap.size<=m:=by
 rcases hi m hI with q | q
 ·obtain ⟨cs,T,fz,e⟩:=hc m q
  have:=hk.block m (h0 m q) (fun e => by cases e)
  rw [e,hm] at this;cases this
 ·exact q
theorem keep_memo {ps:List Piece} {m n:Nat} {w w':World} (h:@Keep (memo ps m) w.heap.size w w') (hn:n<=m) (hnw:n<=w.heap.size):Keep n w w':=by
 obtain ⟨h1,h2,h3,h4,h5,_⟩:=h
 exact ⟨h1,h2,h3,h4,fun k hk _ => h5 k (by omega) (fun e => by cases e;omega),fun _ => trivial⟩
theorem fits_new {I I0:Nat->Prop} {w0 w:World} {v:Value} {J:Job} (hJ:J.sized) (s:Nat) (hs:s < 1024) (h:RepS I w v (kn0 J)) (hlt:∀ b,I b->b < w.heap.size) (hi:∀ b,I b->I0 b∨w0.heap.size<=b) (hk:Keep w0.heap.size w0 w) (h0:∀ b,I0 b->b < w0.heap.size) (hc:∀ b,I0 b->∃ cs T fz,w0.heap[b]? = some (.cells cs T fz)) :
  Calls Tryz.prog 74 #[v,.int .i64 s] w (fun e w' => e = .returned (.bool (J.fit s))/\Keep w0.heap.size w w'):=by
 obtain ⟨m,clk,hIm,hm,hr⟩:=kn0_memo h
 have hnew:=memo_new hm hIm hi hk h0 hc
 have hmM:MemoOK J.ps w m:=⟨#[],clk,hm,fun e he => by simp at he⟩
 have hctr:=@c_knife_fits (memo J.ps m) J m (isMemo_memo J.ps m) hJ s hs
 refine (hctr.2 (fun b => I b/\b ≠ m) w #[v,.int .i64 s] hmM (fun b hb => hlt b hb.1) (fun b hb e => by cases e;exact hb.2 rfl) rfl (fun j u y hu hy => ?_)).mono ?_
 ·rcases j with _ | _ | j
  ·cases hu;cases hy;exact hr
  ·cases hu;cases hy;exact fun Y => .d .int
  ·simp at hu
 ·rintro e w' ⟨u,rfl,hu,hk'⟩
  have:=mt_d (hu (fun _ => none))
  cases this
  exact ⟨rfl,keep_memo hk' hnew hk.size⟩
theorem must_new {I I0:Nat->Prop} {w0 w:World} {v:Value} {J:Job} (hJ:J.sized) (s:Nat) (hs:s < 1024) (h:RepS I w v (kn0 J)) (hlt:∀ b,I b->b < w.heap.size) (hi:∀ b,I b->I0 b∨w0.heap.size<=b) (hk:Keep w0.heap.size w0 w) (h0:∀ b,I0 b->b < w0.heap.size) (hc:∀ b,I0 b->∃ cs T fz,w0.heap[b]? = some (.cells cs T fz)) (hfit:J.fit s = true) :
  Calls Tryz.prog 72 #[v,.int .i64 s] w (fun e w' => e = .returned (.tuple #[])/\Keep w0.heap.size w w'):=by
 obtain ⟨m,clk,hIm,hm,hr⟩:=kn0_memo h
 have hnew:=memo_new hm hIm hi hk h0 hc
 have hmM:MemoOK J.ps w m:=⟨#[],clk,hm,fun e he => by simp at he⟩
 have hctr:=@c_knife_must (memo J.ps m) J m (isMemo_memo J.ps m) hJ s hs hfit
 refine (hctr.2 (fun b => I b/\b ≠ m) w #[v,.int .i64 s] hmM (fun b hb => hlt b hb.1) (fun b hb e => by cases e;exact hb.2 rfl) rfl (fun j u y hu hy => ?_)).mono ?_
 ·rcases j with _ | _ | j
  ·cases hu;cases hy;exact hr
  ·cases hu;cases hy;exact fun Y => .d .int
  ·simp at hu
 ·rintro e w' ⟨u,rfl,hu,hk'⟩
  exact ⟨by rw [@tup0_val (memo J.ps m) _ _ _ hu],keep_memo hk' hnew hk.size⟩
end
end Go.Proofs.Leaf
namespace Go.Proofs.Leaf
open Go Go.RX Go.Proofs Go.RowKit
set_option maxRecDepth 10000
section
theorem St.flatEnd {env:List (Nat×SV)} {I0:Nat->Prop} {N:Nat} {w0 w:World} {a:Act} (hsz:a.tmps.size = N) (hdf:a.defers = []) (hk:Keep w0.heap.size w0 w) (henv:∀ t,lk env t = .any∨RepS (fun _ => False) w (a.tmps.getD t undef) (lk env t)):St { env:=env,bx:=[],tk:=[] } I0 N w0 a w :=
 St.boxes (I:=fun _ => False) [] hsz hdf (fun _ h => h.elim) (fun b _ e => by cases e) trivial (fun _ h => h.elim) hk rfl (fun i i' b hi hi' => by simp at hi) (fun i blk c hi hc => by simp at hi) (fun t => (henv t).imp (fun q => q) (fun q => .inl q))
theorem job_cells {I:Nat->Prop} {w:World} {v:Value} {J:Job} (h:RepS I w v J.sv):RepS (cO I w) w v J.sv:=by
 refine agg_turn (ds:=J.cells) (ds':=J.cells) h rfl (fun cs _ i u x y _ hx hy hr => ?_)
 rw [hx] at hy;cases hy
 rcases i with _ | _ | _ | _ | _ | _ | i<;>cases hx
 ·cases hr;exact .int
 ·cases hr;exact .int
 ·cases hr;exact .int
 ·cases hr;exact .int
 ·exact rep_sl_cells hr (by decide) (fun _ _ _ _ => flat_gro _ _)
 ·exact rep_sl_cells hr (by decide) (fun _ _ _ _ => flat_pie _ _)
theorem flat_int (n:Int) (j:Nat):flatD (intD n j):=by
 rcases j with _ | j
 ·exact .int
 ·exact .nilI
theorem ints_cells {I:Nat->Prop} {w:World} {v:Value} {l:List Int} (h:RepS I w v (ilS l)):RepS (cO I w) w v (ilS l) :=
 fun Y => .d (rep_sl_cells (mt_d (h Y)) (by decide) (fun _ _ _ _ => flat_int _ _))
def cellsS (s:SV):Prop:=∀ I w v,RepS I w v s->RepS (cO I w) w v s
theorem Ctr.cells {f:FuncId} {fn:Func} {c:Code} {A:List SV} {r:SV} {N:Nat} {rs:Array ResultVar} (hf:Tryz.prog.funcs[f]? = some fn) (hb:fn.body = some c) (hname:(fn.name == "runtime.NumGoroutine") = false) (hN:fn.ntmps = N) (hn:Nat.ble A.length N = true) (hr:fn.results = rs) (hA:∀ s∈A,cellsS s)
  (h:∀ I w a,(∀ b,I b->b < w.heap.size)->(∀ b,I b->∃ cs T fz,w.heap[b]? = some (.cells cs T fz))->St { env:=RX.args 0 A,bx:=[],tk:=[] } I N w a w->c.wpIn fen 0 Tryz.prog (endM Tryz.prog rs.toList r I N w) a w):Ctr Tryz.prog f A r:=by
 have hC:∀ I w vs,(∀ b,I b->b < w.heap.size)->(∀ b,I b->∃ cs T fz,w.heap[b]? = some (.cells cs T fz))->vs.size = A.length->(∀ (j:Nat) (u:Value) (s:SV),vs[j]? = some u->A[j]? = some s->RepS I w u s) ->
   Calls Tryz.prog f vs w fun e w' => ∃ v,e = .returned v/\RepS (fun b => I b∨(w.heap.size<=b/\b < w'.heap.size)) w' v r/\Keep w.heap.size w w':=by
  subst hN;subst hr
  intro I w vs hI hc hl hA
  refine (callsIn_wide (n:=0)).1 ?_
  refine callsIn_of_wp_marks hf hb trivial ?_ rfl
  refine wpIn_mono (h I w _ hI hc (St.start trivial hI (fun b _ e => by cases e) hl (Nat.le_of_ble_eq_true hn) hA)) ?_
  rintro e a' w' ⟨he,hq⟩
  have key:LeavesInM Fence.wide 0 Tryz.prog fn a'.tmps (fun e w' => ∃ v,e = .returned v/\RepS (fun b => I b∨(w.heap.size<=b/\b < w'.heap.size)) w' v r/\Keep w.heap.size w w') a'.defers .returning w':=by
   rcases hq with ⟨σ,h1,h2⟩ | ⟨D,σ,h0,h1,h2⟩
   ·obtain ⟨hd,v,hv,v',q1,q2,q3⟩:=res_fin h1 h2
    rw [hd]
    exact ⟨v,hv,v',q1,q2,q3⟩
   ·obtain ⟨hd,v,hv,v',q1,q2,q3⟩:=@res_fin _ _ ⟨[markOf D],[]⟩ _ _ _ _ _ _ _ _ h1 h2
    rw [hd]
    exact ⟨by simp,.inl ⟨D,_,rfl,run_takeDeferred h0,v,hv,v',q1,q2,q3⟩⟩
  rcases he with rfl | rfl<;>exact key
 refine ⟨⟨fn,hf,hname,by simp [hb]⟩,fun I w vs _ hI _ hl hA' => (hC (cO I w) w vs (fun b hb => hI b hb.1) (fun b hb => hb.2) hl (fun j u s hu hs => hA s (List.mem_of_getElem? hs) I w u (hA' j u s hu hs))).mono ?_⟩
 rintro e w' ⟨v,rfl,hr,hk⟩
 exact ⟨v,rfl,fun Y => (hr Y).mono (fun b hb => hb.imp (fun q => q.1) (fun q => q)) (fun _ _ => rfl) (fun _ _ h => h) (fun _ _ h => h),hk⟩
theorem cells_job (J:Job):cellsS J.sv:=fun I w v h => job_cells h
theorem cells_ints (l:List Int):cellsS (ilS l):=fun I w v h => ints_cells h
theorem rises_set {J:Job} (h:J.ok) {L:List Nat} (hL:rises J.ps.length 0 L):setL (asI L) < 2 ^ J.ps.length/\2 ^ J.ps.length<=32/\(∀ x∈asI L,0<=x/\x < 20)/\L.length<=5:=by
 have hp:=h.p1
 refine ⟨setL_bound (fun x hx => (rises_mem hL x hx).2),?_,fun x hx => ?_,?_⟩
 ·have:2 ^ J.ps.length<=2 ^ 5:=Nat.pow_le_pow_right (by decide) hp
  omega
 ·obtain ⟨y,hy,rfl⟩:=asI_mem hx
  have:=(rises_mem hL y hy).2
  omega
 ·rcases rises_len hL with q | q
  ·omega
  ·rw [q];simp
theorem c_Fits (J:Job) (h:J.ok) (L:List Nat) (hL:rises J.ps.length 0 L):Ctr Tryz.prog 50 [J.sv,ilS (asI L)] (.tup [bS (J.fit (setL (asI L))),iS 0]):=by
 obtain ⟨s1,s2,s3,s4⟩:=rises_set h hL
 have hp:=h.p1
 have hj:=jobB_iff.2 h
 have hsm:someB J.ps.length (asI L) = true:=someB_iff.2 ⟨L,hL,rfl⟩
 have hl:(asI L).length < 1000000:=by rw [asI_len];omega
 refine Ctr.cells (fn:=Tryz.f50) rfl rfl rfl rfl rfl rfl (fun s hs => ?_) (fun I w a hI hc hst => ?_)
 ·simp only [List.mem_cons,List.not_mem_nil,or_false] at hs
  rcases hs with rfl | rfl
  ·exact cells_job J
  ·exact cells_ints _
 dsimp only [args] at hst
 letI:Bas:=⟨I,w⟩
 refine Ok.first hst ?_
 (first|refine qE ?_|refine qD ?_);(simp only [go_sem,↓dP,↓reduceIte];with_reducible and_intros;all_goals first|apply qA|exact qC|skip)
 intro a w1 hst
 show Code.wpIn _ _ _ _ _ _ _
 refine wpIn_seq ?_
 refine Ok.first hst ?_
 (first|refine qE ?_|refine qD ?_);(simp only [go_sem,↓dP,↓reduceIte];with_reducible and_intros;all_goals first|apply qA|exact qC|skip)
 (refine AskI.ret (c_isJob J h.held) ?_;simp only [go_sem,↓dP,↓reduceIte];with_reducible and_intros;all_goals first|apply qA|exact qC|skip)
 (refine AskGI.ret (fun _ => c_arePieces J (by omega) (asI L) hl) ?_;simp only [go_sem,↓dP,↓reduceIte];with_reducible and_intros;all_goals first|apply qA|exact qC|skip)
 intro a w1 hst
 rw [hj,hsm] at hst
 show Code.wpIn _ _ _ _ _ _ _
 refine hand_cond hst rfl (fun hb => by simp at hb) (fun _ => ?_)
 refine wpIn_skip ?_
 show Code.wpIn _ _ _ _ _ _ _
 refine wpIn_seq ?_
 (refine hT 4 ?h1 ?h2 ?h3 ?h4 hst ?_;(case h1 => rfl);(case h2 => rfl);(case h3 => rfl);(case h4 => rfl);simp only [go_sem,↓dP,↓reduceIte];with_reducible and_intros;all_goals first|apply qA|exact qC|skip)
 (refine AskI.ret (c_knifeOf0 J (by omega)) ?_;simp only [go_sem,↓dP,↓reduceIte];with_reducible and_intros;all_goals first|apply qA|exact qC|skip)
 (refine AskI.ret (c_bits (asI L) hl s3) ?_;simp only [go_sem,↓dP,↓reduceIte];with_reducible and_intros;all_goals first|apply qA|exact qC|skip)
 intro Y a w3 hinv
 have hst:=St.of hinv rfl
 obtain ⟨I3,β,τ,hx⟩:=hst (fun _ => none)
 have k16:RepS I3 w3 (a.tmps.getD 16 undef) (kn0 J):=mt_aggd (ds:=[iD J.wide,iD J.high,iD J.book,iD J.spoilt,slD 4 groD J.gs,slD 4 pieD J.ps,.mp 0 0 (fun _ _ => .nilI)]) ((hx.env 16).un (fun _ _ _ e => by cases e))
 have k18:a.tmps.getD 18 undef = .int .i64 (setL (asI L)):=by
  have:=mt_d ((hx.env 18).un (fun _ _ _ e => by cases e))
  generalize a.tmps.getD 18 undef = u at this
  cases this;rfl
 have hk:Keep w.heap.size w w3:=hx.bel
 have hsz:=hx.sz
 have hdf:a.defers = []:=hx.df
 have hfit:=fits_new h.sized (setL (asI L)) (by omega) k16 hx.hI hx.i0 hk hI hc
 refine tail_callFn (fn:=Tryz.f74) rfl rfl rfl rfl (by rw [map2];show #[a.tmps.getD 16 undef,a.tmps.getD 18 undef] = _;rw [k18]) hfit (fun e w4 hq => ?_)
 obtain ⟨rfl,hk4⟩:=hq
 refine ⟨_,rfl,?_⟩
 refine tail_val rfl (fun c e => by cases e) (run_move (v:=.bool (J.fit (setL (asI L)))) (.inr rfl) (put_eq (by rw [hsz];decide))) ?_
 refine tail_val rfl (fun c e => by cases e) (run_move (v:=.int .i64 0) (.inr rfl) rfl) ?_
 refine tail_end (wpIn_ret ?_)
 refine ⟨.inl rfl,.inl ⟨{ env:=[(4,bS (J.fit (setL (asI L)))),(5,iS 0)],bx:=[],tk:=[] },?_,?_⟩⟩
 ·show resOK Tryz.prog [.tmp 4,.tmp 5] _ _
  ((try dsimp only [thenK,blockK,noGotoK]);simp only [toList_mk,List.toList_toArray,retK_ret,retK_normal,resOK,resV,celV,rowV,frzAll,frzT,subV,subL,go_sem,↓dP,↓reduceIte])
  ((repeat' with_reducible apply And.intro)<;>(first | exact DEq.refl _ | refine DEq.int ?_ | refine DEq.bool ?_ | skip))
 ·refine St.flatEnd (by rw [put_sz,put_sz,put_sz];exact hsz) hdf (hk.trans hk4) (dat_cons ?_ (dat_cons ?_ dat_nil))
  ·rw [put_ne (by decide),put_eq (by rw [put_sz,hsz];decide)];exact fun Y => .d .bool
  ·rw [put_eq (by rw [put_sz,put_sz,hsz];decide)];exact fun Y => .d .int
end
end Go.Proofs.Leaf
namespace Go.Proofs.Leaf
open Go Go.RX Go.Proofs
set_option maxRecDepth 10000
variable [Glob]
theorem bsts_mem {J:Job} {l:List Nat} (h:l∈bsts J):l.length = J.ps.length/\grows l 0 = true:=by
 have:=(mem_bestsL.1 h).1
 exact ⟨(mem_cutsL.1 this).1,(mem_cutsL.1 this).2.1⟩
theorem sameN_succ {B:List (List Nat)} {a b i:Nat} (hi:i < B.length):sameN B a b (i + 1) = sameN B a b i + (if (B.getD i default).getD a default = (B.getD i default).getD b default then 1 else 0):=by
 unfold sameN
 rw [getD_take hi,List.filter_append,List.length_append]
 congr 1
 rw [List.filter_cons]
 by_cases h:(B.getD i default).getD a default = (B.getD i default).getD b default
 ·rw [if_pos (by simpa using h),if_pos h];rfl
 ·rw [if_neg (by simpa using h),if_neg h];rfl
theorem sameN_le (B:List (List Nat)) (a b i:Nat):sameN B a b i<=i:=by
 unfold sameN
 refine Nat.le_trans (List.length_filter_le _ _) ?_
 rw [List.length_take];omega
theorem asI_getD {l:List Nat} {a:Nat} (h:a < l.length):(asI l).getD a default = ((l.getD a default:Nat):Int):=by
 simp [List.getD_eq_getElem?_getD,h]
theorem c_Same (J:Job) (h:J.ok) (a b:Nat) (ha:a < J.ps.length) (hb:b < J.ps.length) (hab:a ≠ b) :
  Ctr Tryz.prog 30 [J.sv,iS a,iS b] (.tup [iS (if bsts J = [] then 0 else wordI (sameN (bsts J) a b (bsts J).length) (bsts J).length),iS (if bsts J = [] then 7 else 0)]):=by
 have hB:=c_bests J h.sized h.p1
 have hlen:=bsts_len (J:=J) h.p1
 have hmem:∀ l∈bsts J,l.length = J.ps.length/\grows l 0 = true:=fun l hl => bsts_mem hl
 have hat:=fun (i:Nat) (hi:i < (bsts J).length) => prs_at hi
 have hp:=h.p1
 generalize bsts J = B at hB hlen hmem hat ⊢
 have h1:=c_hasPiece J h.held.2 a
 have h2:=c_hasPiece J h.held.2 b
 (refine Ctr.mk (fn:=Tryz.f30) rfl rfl rfl rfl rfl Tryz.results30 ?_;intro _;dsimp only [args,List.toList_toArray])
 (first|refine qE ?_|refine qD ?_);(simp only [go_sem,↓dP,↓reduceIte];with_reducible and_intros;all_goals first|apply qA|exact qC|skip)
 refine Ok.seq ?_
 (first|refine qE ?_|refine qD ?_);(simp only [go_sem,↓dP,↓reduceIte];with_reducible and_intros;all_goals first|apply qA|exact qC|skip)
 (refine AskI.ret (c_isJob J h.held) ?_;simp only [go_sem,↓dP,↓reduceIte];with_reducible and_intros;all_goals first|apply qA|exact qC|skip)
 (refine AskGI.ret (fun _ => h1) ?_;simp only [go_sem,↓dP,↓reduceIte];with_reducible and_intros;all_goals first|apply qA|exact qC|skip)
 (refine AskGI.ret (fun _ => h2) ?_;simp only [go_sem,↓dP,↓reduceIte];with_reducible and_intros;all_goals first|apply qA|exact qC|skip)
 refine Ok.cond rfl (fun hb => ?_) (fun _ => ?_)
 ·rw [jobB_iff.2 h] at hb
  simp [inB] at hb
  omega
 (refine Ok.skip ?_;(try dsimp only [thenK,blockK,noGotoK]))
 (first|refine qE ?_|refine qD ?_);(simp only [go_sem,↓dP,↓reduceIte];with_reducible and_intros;all_goals first|apply qA|exact qC|skip)
 (refine AskI.ret (hB) ?_;simp only [go_sem,↓dP,↓reduceIte];with_reducible and_intros;all_goals first|apply qA|exact qC|skip)
 (first|refine qE ?_|refine qD ?_);(simp only [go_sem,↓dP,↓reduceIte];with_reducible and_intros;all_goals first|apply qA|exact qC|skip)
 refine Ok.seq ?_
 (first|refine qE ?_|refine qD ?_);(simp only [go_sem,↓dP,↓reduceIte];with_reducible and_intros;all_goals first|apply qA|exact qC|skip)
 refine Ok.block ?_
 refine Ok.count B.length (fun i => ⟨[(1,iS a),(2,iS b),(8,.d (bstD B)),(9,iS (sameN B a b i)),(34,.d (bstD B)),(35,iS B.length),(36,iS i)],[],[]⟩) (fun _ => True) ⟨trivial,?_⟩ ?_ ?_
 ·(refine Sub.of ([]) ([]) ?_ ?_ ?_ rfl rfl<;>simp only [subB,subB1,subT,subT1,newT,subE,subV,subL,go_sem,↓dP,↓reduceIte]<;>(try (repeat' with_reducible apply And.intro))<;>(try first | exact DEq.refl _ | refine DEq.int ?_ | refine DEq.bool ?_ | omega))
 ·intro i hi _
  have hx:=hat i hi
  obtain ⟨hl,_⟩:=hmem _ (getD_mem hi)
  have hsn:=sameN_succ (a:=a) (b:=b) hi
  have hsl:=sameN_le B a b i
  have ea:=asI_getD (l:=B.getD i default) (a:=a) (by omega)
  have eb:=asI_getD (l:=B.getD i default) (a:=b) (by omega)
  ((first|refine qE ?_|refine qD ?_);(simp only [go_sem,↓dP,↓reduceIte];with_reducible and_intros;all_goals first|apply qA|exact qC|skip));refine Ok.seq ?_;refine Ok.cond rfl (fun _ => ?_) (fun hb => by simp at hb;omega);(refine Ok.skip ?_;(try dsimp only [thenK,blockK,noGotoK]));refine Ok.seq ?_;refine Ok.block ?_
  (first|refine qE ?_|refine qD ?_);(simp only [go_sem,↓dP,↓reduceIte];with_reducible and_intros;all_goals first|apply qA|exact qC|skip)
  rw [hx]
  (first|refine qE ?_|refine qD ?_);(simp only [go_sem,↓dP,↓reduceIte];with_reducible and_intros;all_goals first|apply qA|exact qC|skip)
  ·simp only [List.length_map];omega
  ·simp only [List.length_map];omega
  rw [ea,eb]
  refine Ok.cond rfl ?_ ?_
  ·intro hc
   have e:(B.getD i default).getD a default = (B.getD i default).getD b default:=by simp at hc ⊢;omega
   rw [if_pos e] at hsn
   (first|refine qE ?_|refine qD ?_);(simp only [go_sem,↓dP,↓reduceIte];with_reducible and_intros;all_goals first|apply qA|exact qC|skip)
   (try dsimp only [thenK,blockK,noGotoK])
   (first|refine qE ?_|refine qD ?_);(simp only [go_sem,↓dP,↓reduceIte];with_reducible and_intros;all_goals first|apply qA|exact qC|skip)
   (try dsimp only [thenK,blockK,noGotoK])
   refine ⟨trivial,?_⟩
   (refine Sub.of ([]) ([]) ?_ ?_ ?_ rfl rfl<;>simp only [subB,subB1,subT,subT1,newT,subE,subV,subL,go_sem,↓dP,↓reduceIte]<;>(try (repeat' with_reducible apply And.intro))<;>(try first | exact DEq.refl _ | refine DEq.int ?_ | refine DEq.bool ?_ | omega))
   rw [hsn];omega
  ·intro hc
   have e:¬ (B.getD i default).getD a default = (B.getD i default).getD b default:=by simp at hc ⊢;omega
   rw [if_neg e] at hsn
   (refine Ok.skip ?_;(try dsimp only [thenK,blockK,noGotoK]))
   (try dsimp only [thenK,blockK,noGotoK])
   (first|refine qE ?_|refine qD ?_);(simp only [go_sem,↓dP,↓reduceIte];with_reducible and_intros;all_goals first|apply qA|exact qC|skip)
   (try dsimp only [thenK,blockK,noGotoK])
   refine ⟨trivial,?_⟩
   (refine Sub.of ([]) ([]) ?_ ?_ ?_ rfl rfl<;>simp only [subB,subB1,subT,subT1,newT,subE,subV,subL,go_sem,↓dP,↓reduceIte]<;>(try (repeat' with_reducible apply And.intro))<;>(try first | exact DEq.refl _ | refine DEq.int ?_ | refine DEq.bool ?_ | omega))
   rw [hsn];omega
 ·intro _
  have hsl:=sameN_le B a b B.length
  ((first|refine qE ?_|refine qD ?_);(simp only [go_sem,↓dP,↓reduceIte];with_reducible and_intros;all_goals first|apply qA|exact qC|skip));refine Ok.seq ?_;refine Ok.cond rfl (fun hb => by simp at hb) (fun _ => ?_);(refine Ok.exit ?_;simp only [thenK_exit,blockK_exit,noGotoK_exit,thenK_normal,blockK_normal,noGotoK_normal,↓reduceIte,Nat.reduceEqDiff])
  refine Ok.seq ?_
  refine Ok.block ?_
  (first|refine qE ?_|refine qD ?_);(simp only [go_sem,↓dP,↓reduceIte];with_reducible and_intros;all_goals first|apply qA|exact qC|skip)
  refine Ok.cond rfl (fun hc => ?_) (fun hc => ?_)
  ·have e:B = []:=by
    cases B with
    | nil => rfl
    | cons x r => simp at hc;omega
   rw [if_pos e,if_pos e]
   (first|refine qE ?_|refine qD ?_);(simp only [go_sem,↓dP,↓reduceIte];with_reducible and_intros;all_goals first|apply qA|exact qC|skip)
   (refine Ok.ret ?_;(try dsimp only [thenK,blockK,noGotoK]);simp only [toList_mk,List.toList_toArray,retK_ret,retK_normal,resOK,resV,celV,rowV,frzAll,frzT,subV,subL,go_sem,↓dP,↓reduceIte])
   ((repeat' with_reducible apply And.intro)<;>(first | exact DEq.refl _ | refine DEq.int ?_ | refine DEq.bool ?_ | skip))
  have e:B ≠ []:=fun e => by rw [e] at hc;simp at hc
  have e0:B.length ≠ 0:=fun q => e (List.length_eq_zero_iff.1 q)
  rw [if_neg e,if_neg e]
  unfold wordI
  (first|refine qE ?_|refine qD ?_);(simp only [go_sem,↓dP,↓reduceIte];with_reducible and_intros;all_goals first|apply qA|exact qC|skip)
  refine Ok.cond rfl (fun hc => ?_) (fun hc => ?_)
  ·rw [if_pos (by simp at hc;omega)]
   (first|refine qE ?_|refine qD ?_);(simp only [go_sem,↓dP,↓reduceIte];with_reducible and_intros;all_goals first|apply qA|exact qC|skip)
   (refine Ok.ret ?_;(try dsimp only [thenK,blockK,noGotoK]);simp only [toList_mk,List.toList_toArray,retK_ret,retK_normal,resOK,resV,celV,rowV,frzAll,frzT,subV,subL,go_sem,↓dP,↓reduceIte])
   ((repeat' with_reducible apply And.intro)<;>(first | exact DEq.refl _ | refine DEq.int ?_ | refine DEq.bool ?_ | skip))
  rw [if_neg (by simp at hc;omega)]
  (first|refine qE ?_|refine qD ?_);(simp only [go_sem,↓dP,↓reduceIte];with_reducible and_intros;all_goals first|apply qA|exact qC|skip)
  refine Ok.cond rfl (fun hc => ?_) (fun hc => ?_)
  ·rw [if_pos (by simp at hc;omega)]
   (first|refine qE ?_|refine qD ?_);(simp only [go_sem,↓dP,↓reduceIte];with_reducible and_intros;all_goals first|apply qA|exact qC|skip)
   (refine Ok.ret ?_;(try dsimp only [thenK,blockK,noGotoK]);simp only [toList_mk,List.toList_toArray,retK_ret,retK_normal,resOK,resV,celV,rowV,frzAll,frzT,subV,subL,go_sem,↓dP,↓reduceIte])
   ((repeat' with_reducible apply And.intro)<;>(first | exact DEq.refl _ | refine DEq.int ?_ | refine DEq.bool ?_ | skip))
  rw [if_neg (by simp at hc;omega)]
  (refine Ok.skip ?_;(try dsimp only [thenK,blockK,noGotoK]))
  (try dsimp only [thenK,blockK,noGotoK])
  (first|refine qE ?_|refine qD ?_);(simp only [go_sem,↓dP,↓reduceIte];with_reducible and_intros;all_goals first|apply qA|exact qC|skip)
  (refine Ok.ret ?_;(try dsimp only [thenK,blockK,noGotoK]);simp only [toList_mk,List.toList_toArray,retK_ret,retK_normal,resOK,resV,celV,rowV,frzAll,frzT,subV,subL,go_sem,↓dP,↓reduceIte])
  ((repeat' with_reducible apply And.intro)<;>(first | exact DEq.refl _ | refine DEq.int ?_ | refine DEq.bool ?_ | skip))
theorem c_Books (J:Job) (h:J.ok):Ctr Tryz.prog 31 [J.sv] (.tup [spS (if bsts J = [] then (0,0) else booksJ J (leaves ((bsts J).head?.getD []):Nat)),iS (if bsts J = [] then 5 else 0)]):=by
 have hB:=c_bests J h.sized h.p1
 have hlen:=bsts_len (J:=J) h.p1
 have hmem:∀ l∈bsts J,l.length = J.ps.length/\grows l 0 = true:=fun l hl => bsts_mem hl
 have hp:=h.p1
 have h1:=h.b0;have h2:=h.b1;have h3:=h.s0;have h4:=h.s1
 generalize bsts J = B at hB hlen hmem ⊢
 (refine Ctr.mk (fn:=Tryz.f31) rfl rfl rfl rfl rfl Tryz.results31 ?_;intro _;dsimp only [args,List.toList_toArray])
 (first|refine qE ?_|refine qD ?_);(simp only [go_sem,↓dP,↓reduceIte];with_reducible and_intros;all_goals first|apply qA|exact qC|skip)
 refine Ok.seq ?_
 (first|refine qE ?_|refine qD ?_);(simp only [go_sem,↓dP,↓reduceIte];with_reducible and_intros;all_goals first|apply qA|exact qC|skip)
 (refine AskI.ret (c_isJob J h.held) ?_;simp only [go_sem,↓dP,↓reduceIte];with_reducible and_intros;all_goals first|apply qA|exact qC|skip)
 refine Ok.cond rfl (fun hb => by rw [jobB_iff.2 h] at hb;cases hb) (fun _ => ?_)
 (refine Ok.skip ?_;(try dsimp only [thenK,blockK,noGotoK]))
 (first|refine qE ?_|refine qD ?_);(simp only [go_sem,↓dP,↓reduceIte];with_reducible and_intros;all_goals first|apply qA|exact qC|skip)
 (refine AskI.ret (hB) ?_;simp only [go_sem,↓dP,↓reduceIte];with_reducible and_intros;all_goals first|apply qA|exact qC|skip)
 refine Ok.seq ?_
 (first|refine qE ?_|refine qD ?_);(simp only [go_sem,↓dP,↓reduceIte];with_reducible and_intros;all_goals first|apply qA|exact qC|skip)
 cases B with
 | nil =>
  refine Ok.cond (b:=true) (by first | rfl | (simp only [go_sem,↓dP,↓reduceIte];rfl)) (fun _ => ?_) (fun hb => by cases hb)
  (first|refine qE ?_|refine qD ?_);(simp only [go_sem,↓dP,↓reduceIte];with_reducible and_intros;all_goals first|apply qA|exact qC|skip)
  (refine Ok.ret ?_;(try dsimp only [thenK,blockK,noGotoK]);simp only [toList_mk,List.toList_toArray,retK_ret,retK_normal,resOK,resV,celV,rowV,frzAll,frzT,subV,subL,go_sem,↓dP,↓reduceIte])
  ((repeat' with_reducible apply And.intro)<;>(first | exact DEq.refl _ | refine DEq.int ?_ | refine DEq.bool ?_ | skip))
 | cons l r =>
  refine Ok.cond rfl (fun hb => by simp at hb;omega) (fun _ => ?_)
  (refine Ok.skip ?_;(try dsimp only [thenK,blockK,noGotoK]))
  obtain ⟨g1,g2⟩:=hmem l (List.mem_cons_self ..)
  have hle:=leaves_len l g2
  have d1:=tdiv_in (a:=(leaves l:Nat) + J.book - 1) (b:=J.book) (by omega) (by omega) (by omega)
  have d2:=tdiv_in (a:=(leaves l:Nat) + (J.book - J.spoilt) - 1) (b:=J.book - J.spoilt) (by omega) (by omega) (by omega)
  have e0:(prs (l :: r)).getD 0 default = (l,leaves l):=rfl
  (first|refine qE ?_|refine qD ?_);(simp only [go_sem,↓dP,↓reduceIte];with_reducible and_intros;all_goals first|apply qA|exact qC|skip)
  (first|refine qE ?_|refine qD ?_);(simp only [go_sem,↓dP,↓reduceIte];with_reducible and_intros;all_goals first|apply qA|exact qC|skip)
  all_goals first | omega | (exact R64 (by omega) (by omega)) | skip
  (refine Ok.ret ?_;(try dsimp only [thenK,blockK,noGotoK]);simp only [toList_mk,List.toList_toArray,retK_ret,retK_normal,resOK,resV,celV,rowV,frzAll,frzT,subV,subL,go_sem,↓dP,↓reduceIte])
  ((repeat' with_reducible apply And.intro)<;>(first | exact DEq.refl _ | refine DEq.int ?_ | refine DEq.bool ?_ | skip))
end Go.Proofs.Leaf
namespace Go.Proofs.Leaf
open Go Go.RX Go.Proofs Go.RowKit
set_option maxRecDepth 10000
section
theorem cells_jref (J:Job):cellsS (.d J.ref):=by
 intro I w v h Y
 refine .d ?_
 have h:=mt_d (h (fun _ => none))
 cases h with
 | ref us hI hcell hrep =>
  refine .ref us ⟨hI,?_⟩ hcell (fun j hj => ?_)
  ·have:=hcell 0 (by decide)
   unfold World.cell? at this
   rename_i b o
   cases hb:w.heap[b]? with
   | none => rw [hb] at this;simp at this
   | some ob =>
    rw [hb] at this
    cases ob with
    | cells cs T fz => exact ⟨_,_,_,rfl⟩
    | _ => simp at this
  ·have hr:=hrep j hj
   match j,hj with
   | 0,_ => exact flatD.int (k:=.i64) (n:=J.wide) _ _ _ _ _ hr
   | 1,_ => exact flatD.int (k:=.i64) (n:=J.high) _ _ _ _ _ hr
   | 2,_ => exact flatD.int (k:=.i64) (n:=J.book) _ _ _ _ _ hr
   | 3,_ => exact flatD.int (k:=.i64) (n:=J.spoilt) _ _ _ _ _ hr
   | 4,_ => exact rep_sl_cells hr (by decide) (fun _ _ _ _ => flat_gro _ _)
   | 5,_ => exact rep_sl_cells hr (by decide) (fun _ _ _ _ => flat_pie _ _)
theorem cells_flat1 {x:DV} (hx:flatD x):cellsS (.d (.ref 1 (dget [x]))):=by
 intro I w v h Y
 refine .d ?_
 have h:=mt_d (h (fun _ => none))
 cases h with
 | ref us hI hcell hrep =>
  refine .ref us ⟨hI,?_⟩ hcell (fun j hj => ?_)
  ·have:=hcell 0 (by decide)
   unfold World.cell? at this
   rename_i b o
   cases hb:w.heap[b]? with
   | none => rw [hb] at this;simp at this
   | some ob =>
    rw [hb] at this
    cases ob with
    | cells cs T fz => exact ⟨_,_,_,rfl⟩
    | _ => simp at this
  ·have:j = 0:=by omega
   subst this
   exact hx _ _ _ _ _ (hrep 0 hj)
theorem c_Rest_1 (J:Job) (hJ:J.sized) (s:Nat) (hs:s < 1024) (hf:J.fit s = true):Ctr Tryz.prog 70 [.d J.ref,.d (.ref 1 (dget [iD s]))] (.tup []):=by
 have hn:=hJ.n
 refine Ctr.cells (fn:=Tryz.f70) rfl rfl rfl rfl rfl rfl (fun s hs => ?_) (fun I w a hI hc hst => ?_)
 ·simp only [List.mem_cons,List.not_mem_nil,or_false] at hs
  rcases hs with rfl | rfl
  ·exact cells_jref J
  ·exact cells_flat1 .int
 dsimp only [args] at hst
 letI:Bas:=⟨I,w⟩
 (refine hT 3 ?h1 ?h2 ?h3 ?h4 hst ?_;(case h1 => rfl);(case h2 => rfl);(case h3 => rfl);(case h4 => rfl);simp only [go_sem,↓dP,↓reduceIte];with_reducible and_intros;all_goals first|apply qA|exact qC|skip)
 (refine AskI.ret (c_knifeOf0 J (by omega)) ?_;simp only [go_sem,↓dP,↓reduceIte];with_reducible and_intros;all_goals first|apply qA|exact qC|skip)
 intro Y a w3 hinv
 have hst:=St.of hinv rfl
 obtain ⟨I3,β,τ,hx⟩:=hst (fun _ => none)
 have k3:RepS I3 w3 (a.tmps.getD 3 undef) (kn0 J):=mt_aggd (ds:=[iD J.wide,iD J.high,iD J.book,iD J.spoilt,slD 4 groD J.gs,slD 4 pieD J.ps,.mp 0 0 (fun _ _ => .nilI)]) ((hx.env 3).un (fun _ _ _ e => by cases e))
 have k4:a.tmps.getD 4 undef = .int .i64 s:=by
  have:=mt_d ((hx.env 4).un (fun _ _ _ e => by cases e))
  generalize a.tmps.getD 4 undef = u at this
  cases this;rfl
 have hk:Keep w.heap.size w w3:=hx.bel
 have hsz:=hx.sz
 have hdf:a.defers = []:=hx.df
 have hm:=must_new hJ s hs k3 hx.hI hx.i0 hk hI hc hf
 refine tail_callFn (fn:=Tryz.f72) rfl rfl rfl rfl (by rw [map2];show #[a.tmps.getD 3 undef,a.tmps.getD 4 undef] = _;rw [k4]) hm (fun e w4 hq => ?_)
 obtain ⟨rfl,hk4⟩:=hq
 refine ⟨_,rfl,?_⟩
 refine tail_end ⟨.inr rfl,.inl ⟨{ env:=[],bx:=[],tk:=[] },?_,?_⟩⟩
 ·show resOK Tryz.prog [] _ _
  ((try dsimp only [thenK,blockK,noGotoK]);simp only [toList_mk,List.toList_toArray,retK_ret,retK_normal,resOK,resV,celV,rowV,frzAll,frzT,subV,subL,go_sem,↓dP,↓reduceIte])
 ·exact St.flatEnd (by rw [put_sz];exact hsz) hdf (hk.trans hk4) dat_nil
end
end Go.Proofs.Leaf
namespace Go.Proofs.Leaf
open Go Go.RX Go.Proofs Go.RowKit
set_option maxRecDepth 10000
section
theorem cells_ref {n:Nat} {c:Nat->DV} (h0:0 < n) (hf:∀ j,j < n->flatD (c j)):cellsS (.d (.ref n c)):=by
 intro I w v h Y
 refine .d ?_
 have h:=mt_d (h (fun _ => none))
 cases h with
 | ref us hI hcell hrep =>
  refine .ref us ⟨hI,?_⟩ hcell (fun j hj => hf j hj _ _ _ _ _ (hrep j hj))
  have:=hcell 0 h0
  unfold World.cell? at this
  rename_i b o
  cases hb:w.heap[b]? with
  | none => rw [hb] at this;simp at this
  | some ob =>
   rw [hb] at this
   cases ob with
   | cells cs T fz => exact ⟨_,_,_,rfl⟩
   | _ => simp at this
abbrev sizP (x:Nat×Nat):Piece:=⟨x.1,x.2,false,0⟩
abbrev moreJ (J:Job) (x:Nat×Nat):Job:={ J with ps:=J.ps ++ [sizP x] }
def restQ (J:Job) (s:Nat) (x:Nat×Nat):Bool:=(moreJ J x).fit (s ||| 2 ^ J.ps.length)
abbrev szC (x:Nat×Nat):Nat->DV:=dget [iD x.1,iD x.2]
theorem bits_or (s n:Nat) (hs:s < 512) (hn:n < 9):bits .or .i64 s ((1:Int) * 2 ^ n) = ((s ||| 2 ^ n:Nat):Int)/\R .i64 ((1:Int) * 2 ^ n)/\s ||| 2 ^ n < 1024:=by
 have hp:2 ^ n<=2 ^ 8:=Nat.pow_le_pow_right (by decide) (by omega)
 have hpc:(1:Int) * 2 ^ n = ((2 ^ n:Nat):Int):=by simp
 have hor:=bits_or_i64 s (2 ^ n) (by omega) (by omega)
 have hv:s ||| 2 ^ n < 2 ^ 10:=Nat.or_lt_two_pow (by omega) (by omega)
 refine ⟨by rw [hpc,hor],?_,by omega⟩
 rw [hpc]
 generalize 2 ^ n = Q at hp ⊢
 exact R64 (by omega) (by omega)
theorem arr2 {α:Type} {cs:Array α} (h:cs.size = 2):∃ x y,cs = #[x,y]:=by
 obtain ⟨l⟩:=cs
 match l,h with
 | [x,y],_ => exact ⟨x,y,rfl⟩
theorem run_storeRow {P:Program} {ρ:Operand->Value} {a:Act} {o:Oper} {t:TypeId} {x y:Operand} {b T n:Nat} {cs:Array Value} {us:Array Value} {I:Nat->Prop} {w:World} (hρ:ρ = a.eval) (ho:o.op = .store t x y) (hx:ρ x = .pointer (some ⟨b,0,none⟩)) (hn:szT P t = some us.size) (hy:ρ y = .agg us) (hv:∀ u∈us,u.oneCell' = true) (hs:cs.size = us.size) (hc:Cl n b cs T I w) :
  (execOp ρ o).run P w = .ok .skip (w.setRow b us):=by
 subst hρ
 have hcell:(a.eval y).cells = us:=by rw [hy];rfl
 have:=run_store_op (P:=P) (w:=w) (a:=a) ho hx hn (by rw [hcell]) hc.2.2 (by omega) (by rw [hcell];exact hv)
 have e:(cs.toList.take 0 ++ us.toList ++ cs.toList.drop (0 + us.size)).toArray = us:=by
  rw [List.drop_of_length_le (by rw [Array.length_toList];omega)];simp
 rw [this,hcell,e]
theorem Bk.two {I:Nat->Prop} {n b T:Nat} {w0 W:World} {u v:Value} {s t:SV} (h0:w0.heap.size<=b) (h:Cl n b #[u,v] T I W) (hu:u.oneCell' = true) (hv:v.oneCell' = true) (hs:RepS I W u s) (ht:RepS I W v t):Bk I w0 W b { frz:=false,xs:=[s,t] } :=
 ⟨rfl,rfl,h0,h.2.1,_,T,h.2.2,rfl,fun j u' x hu' hx => by
  rcases j with _ | _ | j
  ·cases hu';cases hx;exact .inr hs
  ·cases hu';cases hx;exact .inr ht
  ·simp at hx,fun u' hu' => by
  simp at hu'
  rcases hu' with rfl | rfl
  ·exact hu
  ·exact hv⟩
def rstJ (w0:World) (I0:Nat->Prop) (n b4 b5 T4 T5:Nat) (v2 v6:Value) (J:Job) (s:Nat) (X:List (Nat×Nat)):Jt:=fun i I V W =>
 Par w0 I0 n I V W/\(∃ x y,Cl n b4 #[x,y] T4 I W)/\(∃ z,Cl n b5 #[z] T5 I W)/\RepS I W v2 (.d J.ref)/\RepS I W v6 (.d (.ref 1 (dget [iD s])))/\∀ k,k < i->restQ J s (X.getD k default) = false
def rstR (w0:World) (I0:Nat->Prop) (n b4 b5 T4 T5:Nat) (J:Job) (s:Nat) (X:List (Nat×Nat)):Jt:=fun i I V W =>
 Par w0 I0 n I V W/\Cl n b4 #[.int .i64 (X.getD i default).1,.int .i64 (X.getD i default).2] T4 I W/\Cl n b5 #[.int .i64 0] T5 I W/\restQ J s (X.getD i default) = true/\∀ k,k < i->restQ J s (X.getD k default) = false
def rstA (w0:World) (I0:Nat->Prop) (n b4 b5 T4 T5:Nat) (v2 v6:Value) (J:Job) (s:Nat) (X:List (Nat×Nat)) (i:Nat) (a:Act) (I V:Nat->Prop) (W:World):Prop :=
 rstJ w0 I0 n b4 b5 T4 T5 v2 v6 J s X i I V W/\a.tmps.size = Tryz.f36.ntmps/\a.defers = []/\a.tmps.getD 4 undef = outP b4/\a.tmps.getD 5 undef = outP b5/\a.tmps.getD 2 undef = v2/\a.tmps.getD 6 undef = v6/\RepS I W (a.tmps.getD 8 undef) (.d (.ref 2 (szC (X.getD i default))))
abbrev sizX (J:Job):List (Nat×Nat):=sizesL J.wide.toNat J.high.toNat
def restF (J:Job) (s:Nat):Option (Nat×Nat):=(sizX J).find? (restQ J s)
theorem restF_at {J:Job} {s i:Nat} (hi:i < (sizX J).length) (h1:restQ J s ((sizX J).getD i default) = true) (h0:∀ k,k < i->restQ J s ((sizX J).getD k default) = false):restF J s = some ((sizX J).getD i default):=by
 unfold restF
 generalize sizX J = X at hi h1 h0 ⊢
 rw [List.find?_eq_some_iff_getElem]
 refine ⟨h1,i,hi,(getD_lt hi).symm,fun j hj => ?_⟩
 have:=h0 j hj
 rw [getD_lt (by omega)] at this
 simp [this]
theorem restF_no {J:Job} {s:Nat} (h0:∀ k,k < (sizX J).length->restQ J s ((sizX J).getD k default) = false):restF J s = none:=by
 unfold restF
 rw [List.find?_eq_none]
 intro x hx
 obtain ⟨i,hi,rfl⟩:=List.mem_iff_getElem.1 hx
 have:=h0 i hi
 rw [getD_lt hi] at this
 simp [this]
theorem more_sized {J:Job} (h:J.ok) {x:Nat×Nat} (hx:x∈sizX J):(moreJ J x).sized:=by
 have h1:=mem_sizesL.1 hx
 have hp:=h.p1;have hw:=h.w1;have hh:=h.h1;have hw0:=h.w0;have hh0:=h.h0
 have hs:=h.sized.s
 refine ⟨h.w0,h.w1,h.h0,h.h1,by simp;omega,?_⟩
 refine ⟨by simp;omega,fun p hp => ?_⟩
 simp only [List.mem_append,List.mem_singleton] at hp
 rcases hp with hp | rfl
 ·exact hs.2 p hp
 ·refine ⟨?_,?_,?_,?_⟩<;>simp only [sizP]<;>omega
theorem c_Rest (J:Job) (h:J.ok) (L:List Nat) (hL:rises J.ps.length 0 L) (hf:J.fit (setL (asI L)) = true):Ctr Tryz.prog 36 [J.sv,ilS (asI L)] (.tup [szS ((restF J (setL (asI L))).getD (0,0)),iS (if (restF J (setL (asI L))).isSome = true then 0 else 5)]):=by
 obtain ⟨s1,s2,s3,s4⟩:=rises_set h hL
 have hsm:someB J.ps.length (asI L) = true:=someB_iff.2 ⟨L,hL,rfl⟩
 have hl:(asI L).length < 1000000:=by rw [asI_len];omega
 obtain ⟨s,hs⟩:∃ s,setL (asI L) = s:=⟨_,rfl⟩
 have hcb:=c_bits (asI L) hl s3
 rw [hs] at s1 hf hcb ⊢
 have hp1:=h.p1
 have hatt:=c_att_ok 70 2 (dget [J.ref,.ref 1 (dget [iD s])]) (c_Rest_1 J h.sized s (by omega) hf)
 have hit:=it_sizes1 J h.sized
 refine Ctr.cells (fn:=Tryz.f36) rfl rfl rfl rfl rfl rfl (fun s hs => ?_) (fun I w a hI hc hst => ?_)
 ·simp only [List.mem_cons,List.not_mem_nil,or_false] at hs
  rcases hs with rfl | rfl
  ·exact cells_job J
  ·exact cells_ints _
 dsimp only [args] at hst
 letI:Bas:=⟨I,w⟩
 refine Ok.first hst ?_
 (first|refine qE ?_|refine qD ?_);(simp only [go_sem,↓dP,↓reduceIte];with_reducible and_intros;all_goals first|apply qA|exact qC|skip)
 intro a w1 hst
 show Code.wpIn _ _ _ _ _ _ _
 refine wpIn_seq ?_
 refine Ok.first hst ?_
 (first|refine qE ?_|refine qD ?_);(simp only [go_sem,↓dP,↓reduceIte];with_reducible and_intros;all_goals first|apply qA|exact qC|skip)
 (refine AskI.ret (c_isJob J h.held) ?_;simp only [go_sem,↓dP,↓reduceIte];with_reducible and_intros;all_goals first|apply qA|exact qC|skip)
 (refine AskGI.ret (fun _ => c_arePieces J h.held.2 (asI L) hl) ?_;simp only [go_sem,↓dP,↓reduceIte];with_reducible and_intros;all_goals first|apply qA|exact qC|skip)
 intro a w1 hst
 rw [jobB_iff.2 h,hsm] at hst
 show Code.wpIn _ _ _ _ _ _ _
 refine hand_cond hst rfl (fun hb => by simp at hb) (fun _ => ?_)
 refine wpIn_skip ?_
 show Code.wpIn _ _ _ _ _ _ _
 refine Ok.first hst ?_
 (first|refine qE ?_|refine qD ?_);(simp only [go_sem,↓dP,↓reduceIte];with_reducible and_intros;all_goals first|apply qA|exact qC|skip)
 (refine AskI.ret (hcb) ?_;simp only [go_sem,↓dP,↓reduceIte];with_reducible and_intros;all_goals first|apply qA|exact qC|skip)
 intro a w1 hst
 have hst:=hst.sub ((Sub.frzB (b:=0) rfl rfl).trans (Sub.frzB (b:=3) rfl rfl))
 show Code.wpIn _ _ _ _ _ _ _
 refine wpIn_seq ?_
 refine Ok.first hst ?_
 (first|refine qE ?_|refine qD ?_);(simp only [go_sem,↓dP,↓reduceIte];with_reducible and_intros;all_goals first|apply qA|exact qC|skip)
 (refine AskI.ret (hatt) ?_;simp only [go_sem,↓dP,↓reduceIte];with_reducible and_intros;all_goals first|apply qA|exact qC|skip)
 intro a w1 hst
 show Code.wpIn _ _ _ _ _ _ _
 refine Ok.first hst ?_
 (first|refine qE ?_|refine qD ?_);(simp only [go_sem,↓dP,↓reduceIte];with_reducible and_intros;all_goals first|apply qA|exact qC|skip)
 intro a w1 hst
 show Code.wpIn _ _ _ _ _ _ _
 refine hand_cond hst rfl (fun hb => by simp at hb) (fun _ => ?_)
 refine wpIn_skip ?_
 show Code.wpIn _ _ _ _ _ _ _
 refine wpIn_seq ?_
 refine Ok.first hst ?_
 (first|refine qE ?_|refine qD ?_);(simp only [go_sem,↓dP,↓reduceIte];with_reducible and_intros;all_goals first|apply qA|exact qC|skip)
 (refine AskI.ret (c_sizes J) ?_;simp only [go_sem,↓dP,↓reduceIte];with_reducible and_intros;all_goals first|apply qA|exact qC|skip)
 intro a w1 hst
 show Code.wpIn _ _ _ _ _ _ _
 have hst:=(hst.sub (Sub.ref1 (t:=2) (b:=0) rfl rfl rfl)).sub (Sub.ref1 (t:=6) (b:=3) rfl rfl rfl)
 obtain ⟨I1,bl,i1,i2,i3,_,hkeep,hdf,hsz,hdat,hinj,hptr,hbox⟩:=hst.parked rfl hI
 obtain ⟨n4,l4,o4,cs4,T4,hc4,s4',_,_⟩:=hbox 1 _ rfl rfl rfl
 obtain ⟨n5,l5,o5,cs5,T5,hc5,s5,_,_⟩:=hbox 2 _ rfl rfl rfl
 obtain ⟨x4,y4,rfl⟩:∃ x4 y4,cs4 = #[x4,y4]:=arr2 s4'
 obtain ⟨z5,rfl⟩:∃ z5,cs5 = #[z5]:=Array.size_eq_one_iff.1 s5
 have hne:bl 1 ≠ bl 2:=fun e => by have:=hinj 1 2 _ _ rfl rfl e;omega
 have hp4:a.tmps.getD 4 undef = outP (bl 1):=hptr 4 1 0 rfl
 have hp5:a.tmps.getD 5 undef = outP (bl 2):=hptr 5 2 0 rfl
 have hdf:a.defers = []:=hdf
 generalize bl 1 = b4 at *
 generalize bl 2 = b5 at *
 have h28:=mt_d (hdat 28 _ rfl (fun _ => none))
 obtain ⟨us,hg,hus,hrus⟩:∃ us:Array Value,a.tmps.getD 28 undef = .func (.func 117) #[] us/\us.size = 1/\∀ i u,us[i]? = some u->Rep I1 w1 u (dget [J.ref] i):=by
  generalize a.tmps.getD 28 undef = v at h28
  cases h28 with
  | clo h1 h2 => exact ⟨_,rfl,h1,fun i u hu => h2 i u hu⟩
 have g2:RepS I1 w1 (a.tmps.getD 2 undef) (.d J.ref):=hdat 2 _ rfl
 have g6:RepS I1 w1 (a.tmps.getD 6 undef) (.d (.ref 1 (dget [iD s]))):=hdat 6 _ rfl
 obtain ⟨v2,hv2⟩:∃ v2,a.tmps.getD 2 undef = v2:=⟨_,rfl⟩
 obtain ⟨v6,hv6⟩:∃ v6,a.tmps.getD 6 undef = v6:=⟨_,rfl⟩
 rw [hv2] at g2
 rw [hv6] at g6
 have hpar:Par w I w1.heap.size I1 (fun _ => False) w1:=⟨hkeep.size,hkeep,fun b hb => (i2 b hb).imp (fun q => q) (fun q => q.1),fun b hb => hb.elim,Nat.le_refl _,i3,fun _ _ h => h,fun _ h => h.elim⟩
 have hXl:(sizX J).length = ((sizX J).map szS).length:=by rw [List.length_map]
 have fin:∀ (D:Nat) (W:World) (I2 V:Nat->Prop) (x:Nat×Nat) (e:Int) (ac:Act),ac.tmps.size = Tryz.f36.ntmps->ac.defers = [markOf D]->ac.tmps.getD 4 undef = outP b4->ac.tmps.getD 5 undef = outP b5->w1.heap.size<=D->¬ I2 D->W.heap[D]? = some (.deferred (some []))->Par w I w1.heap.size I2 V W->Cl w1.heap.size b4 #[.int .i64 x.1,.int .i64 x.2] T4 I2 W->Cl w1.heap.size b5 #[.int .i64 e] T5 I2 W ->
   endM Tryz.prog Tryz.f36.results.toList (.tup [szS x,iS e]) I Tryz.f36.ntmps w .ret ac W:=by
  intro D W I2 V x e ac z1 z2 z4 z5 hD hnD hmD hP hB4 hB5
  have hP':=hP.put (o':=.deferred none) hD
  refine ⟨.inl rfl,.inr ⟨D,{ env:=[(4,.p 0 0),(5,.p 1 0)],bx:=[{ frz:=false,xs:=[iS x.1,iS x.2] },{ frz:=false,xs:=[iS e] }],tk:=[] },hmD,?_,?_⟩⟩
  ·show resOK Tryz.prog [.cell 4 62,.cell 5 39] _ _
   ((try dsimp only [thenK,blockK,noGotoK]);simp only [toList_mk,List.toList_toArray,retK_ret,retK_normal,resOK,resV,celV,rowV,frzAll,frzT,subV,subL,go_sem,↓dP,↓reduceIte])
   ((repeat' with_reducible apply And.intro)<;>(first | exact DEq.refl _ | refine DEq.int ?_ | refine DEq.bool ?_ | skip))
  ·refine @St.boxes _ ⟨[markOf D],[]⟩ _ I2 _ _ _ _ _ _ [b4,b5] z1 z2 hP'.lt (fun b _ e => by cases e) trivial hP'.i0 hP'.keep rfl (fun i i' b hi hi' => ?_) (fun i blk c hi hc => ?_) (bat_cons (.inr ⟨0,b4,rfl,rfl,z4⟩) (bat_cons (.inr ⟨1,b5,rfl,rfl,z5⟩) bat_nil)) (fun p hp => by cases hp)
   ·rcases i with _ | _ | i<;>rcases i' with _ | _ | i'<;>simp at hi hi'<;>first | rfl | (subst hi;exact absurd hi' hne) | (subst hi;exact absurd hi'.symm hne)
   ·rcases i with _ | _ | i
    ·cases hi;cases hc;exact Bk.two n4 (hB4.put hmD rfl) rfl rfl (fun Y => .d .int) (fun Y => .d .int)
    ·cases hi;cases hc;exact Bk.one n5 (hB5.put hmD rfl) rfl (fun Y => .d .int)
    ·simp at hi
 refine wpIn_block ?_
 refine wp_rangeIt (I0:=I1) hg hdf hit trivial i3 (fun b _ e => by cases e) (by rw [hus];rfl) ?reps (rstJ w I w1.heap.size b4 b5 T4 T5 v2 v6 J s (sizX J)) (rstR w I w1.heap.size b4 b5 T4 T5 J s (sizX J))
  (rstA w I w1.heap.size b4 b5 T4 T5 v2 v6 J s (sizX J))
  ?st1 ?st2 ?pu1 ?pu2 ?pu3 ⟨hpar,⟨_,_,l4,o4,hc4⟩,⟨_,l5,o5,hc5⟩,g2,g6,fun k hk => by omega⟩ ?assign ?body ?done ?stop
 case st1 => rintro i I I' V V' W W' ⟨h1,⟨x,y,h2⟩,⟨z,h3⟩,h4,h5,h6⟩ he;exact ⟨h1.ext he,⟨x,y,h2.ext h1 he⟩,⟨z,h3.ext h1 he⟩,h4.ext he h1.lt h1.dis,h5.ext he h1.lt h1.dis,h6⟩
 case st2 => rintro i I I' V V' W W' ⟨h1,h2,h3,h4⟩ he;exact ⟨h1.ext he,h2.ext h1 he,h3.ext h1 he,h4⟩
 case pu1 => rintro i I V W k o o' hk ⟨h1,⟨x,y,h2⟩,⟨z,h3⟩,h4,h5,h6⟩ hko ho hik;exact ⟨h1.put hk,⟨x,y,h2.put hko ho⟩,⟨z,h3.put hko ho⟩,h4.putO hik,h5.putO hik,h6⟩
 case pu2 => rintro i I V W k o o' hk ⟨h1,h2,h3,h4⟩ hko ho hik;exact ⟨h1.put hk,h2.put hko ho,h3.put hko ho,h4⟩
 case pu3 => rintro i a' I V W k o o' hk ⟨⟨h1,⟨x,y,h2⟩,⟨z,h3⟩,h4,h5,h6⟩,q1,q2,q3,q4,q5,q6,q7⟩ hko ho hik;exact ⟨⟨h1.put hk,⟨x,y,h2.put hko ho⟩,⟨z,h3.put hko ho⟩,h4.putO hik,h5.putO hik,h6⟩,q1,q2,q3,q4,q5,q6,q7.putO hik⟩
 case reps =>
  intro j u s hu hs
  rcases j with _ | j
  ·cases hs;exact fun Y => .d (hrus 0 u hu)
  ·simp at hs
 case assign =>
  rintro l i I2 V W v hi ⟨hP,⟨x,y,hB4⟩,⟨z,hB5⟩,e2,e6,h6⟩ _ _ _ _ hv
  have hi':i < (sizX J).length:=by rw [hXl];exact hi
  have hx:((sizX J).map szS).getD i .any = szS ((sizX J).getD i default):=by
   rw [List.getD_eq_getElem?_getD,List.getElem?_map,List.getElem?_eq_getElem hi',getD_lt hi'];rfl
  rw [hx] at hv
  letI:Rnd:=⟨some l⟩
  letI:Bas:=⟨I2,W⟩
  have hs0:St { env:=[(2,.d (.raw v2)),(4,.d (.raw (outP b4))),(5,.d (.raw (outP b5))),(6,.d (.raw v6)),(29,szS ((sizX J).getD i default))],bx:=[],tk:=[] } I2 a.tmps.size W { tmps:=a.tmps.setIfInBounds 29 v,defers:=[] } W:=by
   refine St.data (β:=fun _ => none) (τ:=fun _ => none) (Y:=fun _ => none) (by simp) rfl hP.lt (fun b _ e => by cases e) trivial (dat_cons (repS_raw ?_ (mt_d (e2 (fun _ => none))).one) (dat_cons (repS_raw ?_ rfl) (dat_cons (repS_raw ?_ rfl) (dat_cons (repS_raw ?_ (mt_d (e6 (fun _ => none))).one) (dat_cons ?_ dat_nil)))))
   ·show (a.tmps.setIfInBounds 29 v).getD 2 undef = _
    rw [tmp_ne (by decide),hv2]
   ·show (a.tmps.setIfInBounds 29 v).getD 4 undef = _
    rw [tmp_ne (by decide),hp4]
   ·show (a.tmps.setIfInBounds 29 v).getD 5 undef = _
    rw [tmp_ne (by decide),hp5]
   ·show (a.tmps.setIfInBounds 29 v).getD 6 undef = _
    rw [tmp_ne (by decide),hv6]
   ·show RepS I2 W ((a.tmps.setIfInBounds 29 v).getD 29 undef) _
    rw [tmp_eq (by rw [hsz];decide)]
    exact hv
  refine Ok.enter (N:=a.tmps.size) hs0 ?_
  rw [hsz]
  (first|refine qE ?_|refine qD ?_);(simp only [go_sem,↓dP,↓reduceIte];with_reducible and_intros;all_goals first|apply qA|exact qC|skip)
  intro a2 W2 hst2
  have hst2:=(hst2.sealt 8 0 rfl rfl rfl).only [(8,.d (.ref 2 (szC ((sizX J).getD i default)))),(2,.d (.raw v2)),(4,.d (.raw (outP b4))),(5,.d (.raw (outP b5))),(6,.d (.raw v6))] (by
   simp only [subE,subV,subL,go_sem,↓dP,↓reduceIte]
   ((repeat' with_reducible apply And.intro)<;>(first | exact DEq.refl _ | refine DEq.int ?_ | refine DEq.bool ?_ | skip)))
  obtain ⟨I3,hst3,j1,j2,_,_,hk3,_,hd3⟩:=hst2.rebase rfl rfl rfl hP.lt
  have hr:=hst3.reps rfl rfl rfl
  obtain ⟨hY,hP3⟩:=hP.yq hk3 j1 j2
  have j3:∀ b,I3 b->I2 b∨W.heap.size<=b:=fun b hb => (j2 b hb).imp (fun q => q) (fun q => q.1)
  have hkp:Kpt I2 I3 W W2:=⟨hk3.size,j1,fun b hb => hk3.block b (hP.lt b hb) (fun e => by cases e)⟩
  refine ⟨I3,hY,⟨hP3,⟨x,y,hB4.keep hP hk3 j3⟩,⟨z,hB5.keep hP hk3 j3⟩,e2.kept hkp,e6.kept hkp,h6⟩,?_,hd3,?_,?_,?_,?_,hr 8⟩
  ·obtain ⟨_,_,_,hx⟩:=hst3 (fun _ => none);rw [hx.sz]
  ·exact hst3.raw (t:=4) rfl
  ·exact hst3.raw (t:=5) rfl
  ·exact hst3.raw (t:=2) rfl
  ·exact hst3.raw (t:=6) rfl
 case body =>
  rintro l i I2 V W a2 hi ⟨⟨hP,⟨x,y,hB4⟩,⟨z,hB5⟩,e2,e6,h6⟩,q1,qd,q4,q5,q2,q6,q8⟩ _ _ _ _
  have hi':i < (sizX J).length:=by rw [hXl];exact hi
  letI:Rnd:=⟨some l⟩
  show Code.wpIn fen 0 Tryz.prog _ _ _ _
  refine wpIn_block ?_
  obtain ⟨X,hX⟩:∃ X,(sizX J).getD i default = X:=⟨_,rfl⟩
  have hXm:X∈sizX J:=by rw [← hX];exact getD_mem hi'
  have hXs:=mem_sizesL.1 hXm
  have hJs:=more_sized h hXm
  have hw1:=h.w1;have hh1:=h.h1
  rw [hX] at q8
  obtain ⟨v8,hv8⟩:∃ v8,a2.tmps.getD 8 undef = v8:=⟨_,rfl⟩
  rw [hv8] at q8
  refine wpIn_seq ?_
  have hs7:@St g0 ⟨[],[(2,v2),(4,outP b4),(5,outP b5),(6,v6),(8,v8)]⟩ { env:=[(2,.d J.ref),(6,.d (.ref 1 (dget [iD s]))),(8,.d (.ref 2 (szC X)))],bx:=[],tk:=[] } (cO I2 W) Tryz.f36.ntmps W a2 W:=by
   refine @St.data _ ⟨[],[(2,v2),(4,outP b4),(5,outP b5),(6,v6),(8,v8)]⟩ _ _ _ _ _ (fun _ => none) (fun _ => none) (fun _ => none) q1 qd (fun c hc => hP.lt c hc.1) (fun b _ e => by cases e) trivial (dat_cons ?_ (dat_cons ?_ (dat_cons ?_ dat_nil))) ?_
   ·rw [q2];exact cells_jref J _ _ _ e2
   ·rw [q6];exact cells_flat1 .int _ _ _ e6
   ·rw [hv8]
    refine cells_ref (by decide) (fun j hj => ?_) _ _ _ q8
    match j,hj with
    | 0,_ => exact flatD.int
    | 1,_ => exact flatD.int
   ·intro p hp
    simp at hp
    rcases hp with rfl | rfl | rfl | rfl | rfl
    ·exact q2
    ·exact q4
    ·exact q5
    ·exact q6
    ·exact hv8
  letI:Dfr:=⟨[],[(2,v2),(4,outP b4),(5,outP b5),(6,v6),(8,v8)]⟩
  letI:Bas:=⟨cO I2 W,W⟩
  obtain ⟨hb1,hb2,hb3⟩:=bits_or s J.ps.length (by omega) (by omega)
  have hkn:Ctr Tryz.prog 71 [J.sv,.d (.sl 4 1 (fun i j => dget [iD X.1,iD X.2,.bool false,.int .i64 0] (i * 4 + j)))] (kn0 (moreJ J X)) :=
   (c_knifeOf1 J (by omega) (sizP X)).args ⟨⟨.refl _,.refl _,.refl _,.refl _,.refl _,.refl _,trivial⟩,DEq.sl rfl (fun i j hi hj => by
    have:i = 0:=by omega
    subst this
    match j,hj with
    | 0,_ => exact .refl _
    | 1,_ => exact .refl _
    | 2,_ => exact .refl _
    | 3,_ => exact .refl _),trivial⟩
  (refine hT 14 ?h1 ?h2 ?h3 ?h4 hs7 ?_;(case h1 => rfl);(case h2 => rfl);(case h3 => rfl);(case h4 => rfl);simp only [go_sem,↓dP,↓reduceIte];with_reducible and_intros;all_goals first|apply qA|exact qC|skip)
  (refine AskI.ret (hkn) ?_;simp only [go_sem,↓dP,↓reduceIte];with_reducible and_intros;all_goals first|apply qA|exact qC|skip)
  intro Y a3 W3 hinv
  have hst:=St.of hinv rfl
  obtain ⟨I3,β,τ,hx⟩:=hst (fun _ => none)
  have k37:RepS I3 W3 (a3.tmps.getD 37 undef) (kn0 (moreJ J X)):=mt_aggd (ds:=[iD J.wide,iD J.high,iD J.book,iD J.spoilt,slD 4 groD J.gs,slD 4 pieD (J.ps ++ [sizP X]),.mp 0 0 (fun _ _ => .nilI)]) ((hx.env 37).un (fun _ _ _ e => by cases e))
  have k43:a3.tmps.getD 43 undef = .int .i64 (s ||| 2 ^ J.ps.length:Nat):=by
   have:=mt_d ((hx.env 43).un (fun _ _ _ e => by cases e))
   generalize a3.tmps.getD 43 undef = u at this
   change Rep _ _ _ (.int .i64 (bits BinOp.or IntKind.i64 s (1 * 2 ^ J.ps.length))) at this
   rw [hb1] at this
   cases this;rfl
  have hk:Keep W.heap.size W W3:=hx.bel
  have hsz3:=hx.sz
  have hdf3:a3.defers = []:=hx.df
  have f4:=hx.fx (4,outP b4) (.tail _ (.head _))
  have f5:=hx.fx (5,outP b5) (.tail _ (.tail _ (.head _)))
  have f2:=hx.fx (2,v2) (.head _)
  have f6:=hx.fx (6,v6) (.tail _ (.tail _ (.tail _ (.head _))))
  have f8:=hx.fx (8,v8) (.tail _ (.tail _ (.tail _ (.tail _ (.head _)))))
  have hfits:=fits_new hJs (s ||| 2 ^ J.ps.length) hb3 k37 hx.hI hx.i0 hk (fun b hb => hP.lt b hb.1) (fun b hb => hb.2)
  refine tail_callFn (fn:=Tryz.f74) rfl rfl rfl rfl (by rw [map2];show #[a3.tmps.getD 37 undef,a3.tmps.getD 43 undef] = _;rw [k43]) hfits (fun e W4 hq => ?_)
  obtain ⟨rfl,hk4⟩:=hq
  refine ⟨_,rfl,?_⟩
  have hkW:=hk.trans hk4
  have e4:(a3.put (some 44) (.bool (restQ J s X))).tmps.getD 4 undef = outP b4:=(put_ne (by decide)).trans f4
  have e5:(a3.put (some 44) (.bool (restQ J s X))).tmps.getD 5 undef = outP b5:=(put_ne (by decide)).trans f5
  have e8:(a3.put (some 44) (.bool (restQ J s X))).tmps.getD 8 undef = v8:=(put_ne (by decide)).trans f8
  have e44:(a3.put (some 44) (.bool (restQ J s X))).tmps.getD 44 undef = .bool (restQ J s X):=put_eq (by rw [hsz3];decide)
  have ez:(a3.put (some 44) (.bool (restQ J s X))).tmps.size = Tryz.f36.ntmps:=put_sz.trans hsz3
  have ed:(a3.put (some 44) (.bool (restQ J s X))).defers = []:=hdf3
  show wpOpsIn fen 0 Tryz.prog _ _ (List.range' _ 0) (a3.put (some 44) (.bool (restQ J s X))) W4
  generalize a3.put (some 44) (.bool (restQ J s X)) = a4 at e4 e5 e8 e44 ez ed
  refine tail_end ?_
  show Code.wpIn _ _ _ _ _ _ _
  obtain ⟨hY4,hP4⟩:=hP.yq hkW (I':=I2) (fun _ h => h) (fun _ h => .inl h)
  have hB44:=hB4.same hP.sz hkW
  have hB54:=hB5.same hP.sz hkW
  have r2:=e2.same hP.lt hkW
  have r6:=e6.same hP.lt hkW
  have r8:=q8.same hP.lt hkW
  have hstb:@St g0 dfr0 { env:=[(44,bS (restQ J s X))],bx:=[],tk:=[] } I2 Tryz.f36.ntmps W4 a4 W4:=@St.flatEnd _ _ _ _ _ _ ez ed (Keep.refl _ _) (dat_cons (by rw [e44];exact fun Y => .d .bool) dat_nil)
  refine @hand_cond _ dfr0 _ _ _ _ _ _ _ _ _ _ _ _ _ hstb rfl (fun hb => ?_) (fun hb => ?_)
  ·obtain ⟨b8,o8,us8,e8',hc8,hr8⟩:∃ (b8 o8:Nat) (us:Nat->Value),v8 = .pointer (some ⟨b8,o8,none⟩)/\(∀ j,j < 2->W4.cell? ⟨b8,o8 + j,none⟩ = some (us j))/\∀ j,j < 2->Rep I2 W4 (us j) (szC X j):=by
    have hm:=mt_d (r8 (fun _ => none))
    generalize v8 = u at hm
    cases hm with
    | ref us q1 q2 q3 => exact ⟨_,_,us,rfl,q2,q3⟩
   have u0:us8 0 = .int .i64 X.1:=by
    have:=hr8 0 (by decide)
    generalize us8 0 = u at this
    change Rep _ _ _ (iD X.1) at this
    cases this;rfl
   have u1:us8 1 = .int .i64 X.2:=by
    have:=hr8 1 (by decide)
    generalize us8 1 = u at this
    change Rep _ _ _ (iD X.2) at this
    cases this;rfl
   have hload:=run_load_row (P:=Tryz.prog) (w:=W4) (b:=b8) (off:=o8) Tryz_ldT_62 (us:=[.int .i64 X.1,.int .i64 X.2]) rfl (fun j v hj => by
    match j,hj with
    | 0,hj => simp at hj;rw [hc8 0 (by decide),u0,hj]
    | 1,hj => simp at hj;rw [hc8 1 (by decide),u1,hj]
    | j + 2,hj => simp at hj)
   show Code.wpIn fen 0 Tryz.prog (.seq (.region _ _ _) .ret) _ _ _
   refine wpIn_seq (wpIn_region ?_)
   refine tail_val (m:=0) (k:=2) rfl (fun c e => by cases e) (run_load_op rfl (e8.trans e8') hload) ?_
   have e4':(a4.put (some 45) (.agg #[.int .i64 X.1,.int .i64 X.2])).tmps.getD 4 undef = outP b4:=(put_ne (by decide)).trans e4
   have e5':(a4.put (some 45) (.agg #[.int .i64 X.1,.int .i64 X.2])).tmps.getD 5 undef = outP b5:=(put_ne (by decide)).trans e5
   have e45:(a4.put (some 45) (.agg #[.int .i64 X.1,.int .i64 X.2])).tmps.getD 45 undef = .agg #[.int .i64 X.1,.int .i64 X.2]:=put_eq (by rw [ez];decide)
   show wpOpsIn fen 0 Tryz.prog _ _ (List.range' _ 2) (a4.put (some 45) (.agg #[.int .i64 X.1,.int .i64 X.2])) W4
   generalize a4.put (some 45) (.agg #[.int .i64 X.1,.int .i64 X.2]) = a8 at e4' e5' e45
   obtain ⟨y1,hP1,hC4,ho1⟩:=hP4.row n4 hB44 (cs:=#[.int .i64 X.1,.int .i64 X.2])
   have hC5:=hB54.row (b:=b4) (cs:=#[.int .i64 X.1,.int .i64 X.2]) (Ne.symm hne)
   refine tail_skp rfl (fun c e => by cases e) (run_storeRow (a:=a8) (b:=b4) (I:=I2) (T:=T4) (cs:=#[x,y]) (us:=#[.int .i64 X.1,.int .i64 X.2]) rfl rfl e4' rfl e45 (fun u hu => by simp at hu;rcases hu with rfl | rfl<;>rfl) rfl hB44) ?_
   obtain ⟨y2,hP2,hC5',ho2⟩:=hP1.row n5 hC5 (cs:=#[.int .i64 0])
   refine tail_skp rfl (fun c e => by cases e) (run_storeCl (a:=a8.put none undef) (b:=b5) (I:=I2) (T:=T5) (u:=z) (v:=.int .i64 0) rfl rfl e5' rfl rfl rfl hC5) ?_
   refine tail_end (wpIn_ret ?_)
   refine ⟨I2,(hY4.trans y1).trans y2,hP2,?_,hC5',by rw [hX];exact hb,h6⟩
   rw [hX];exact hC4.row hne
  ·refine wpIn_skip ?_
   refine ⟨I2,hY4,hP4,⟨x,y,hB44⟩,⟨z,hB54⟩,r2,r6,fun k hk => ?_⟩
   by_cases e:k = i
   ·subst e;rw [hX];exact hb
   ·exact h6 k (by omega)
 case done =>
  rintro D I2 V W hD ⟨hP,⟨x,y,hB4⟩,⟨z,hB5⟩,e2,e6,h6⟩ hnD hmD
  rw [← hXl] at h6
  rw [restF_no h6]
  show Code.wpIn fen 0 Tryz.prog (.seq (.region _ _ _) .ret) _ _ _
  refine wpIn_seq (wpIn_region ?_)
  have hz:(zeroValue 62).run Tryz.prog W = .ok (.agg #[.int .i64 0,.int .i64 0]) W:=by kernel_rfl
  have hp4':({ a with defers:=[markOf D] }:Act).tmps.getD 4 undef = outP b4:=hp4
  have hp5':({ a with defers:=[markOf D] }:Act).tmps.getD 5 undef = outP b5:=hp5
  have hz':({ a with defers:=[markOf D] }:Act).tmps.size = Tryz.f36.ntmps:=hsz
  have hd':({ a with defers:=[markOf D] }:Act).defers = [markOf D]:=rfl
  generalize ({ a with defers:=[markOf D] }:Act) = a9 at hp4' hp5' hz' hd'
  refine tail_val (m:=0) (k:=2) rfl (fun c e => by cases e) (v:=.agg #[.int .i64 0,.int .i64 0]) (w':=W) (by simp [execOp,Instr.build,hz];rfl) ?_
  have e4:(a9.put (some 46) (.agg #[.int .i64 0,.int .i64 0])).tmps.getD 4 undef = outP b4:=(put_ne (by decide)).trans hp4'
  have e5:(a9.put (some 46) (.agg #[.int .i64 0,.int .i64 0])).tmps.getD 5 undef = outP b5:=(put_ne (by decide)).trans hp5'
  have e46:(a9.put (some 46) (.agg #[.int .i64 0,.int .i64 0])).tmps.getD 46 undef = .agg #[.int .i64 0,.int .i64 0]:=put_eq (by rw [hz'];decide)
  have ez:(a9.put (some 46) (.agg #[.int .i64 0,.int .i64 0])).tmps.size = Tryz.f36.ntmps:=put_sz.trans hz'
  have ed:(a9.put (some 46) (.agg #[.int .i64 0,.int .i64 0])).defers = [markOf D]:=hd'
  generalize a9.put (some 46) (.agg #[.int .i64 0,.int .i64 0]) = a8 at e4 e5 e46 ez ed
  obtain ⟨y1,hP1,hC4,ho1⟩:=hP.row n4 hB4 (cs:=#[.int .i64 0,.int .i64 0])
  have hC5:=hB5.row (b:=b4) (cs:=#[.int .i64 0,.int .i64 0]) (Ne.symm hne)
  refine tail_skp rfl (fun c e => by cases e) (run_storeRow (a:=a8) (b:=b4) (I:=I2) (T:=T4) (cs:=#[x,y]) (us:=#[.int .i64 0,.int .i64 0]) rfl rfl e4 rfl e46 (fun u hu => by simp at hu;subst hu;rfl) rfl hB4) ?_
  obtain ⟨y2,hP2,hC5',ho2⟩:=hP1.row n5 hC5 (cs:=#[.int .i64 5])
  refine tail_skp rfl (fun c e => by cases e) (run_storeCl (a:=a8.put none undef) (b:=b5) (I:=I2) (T:=T5) (u:=z) (v:=.int .i64 5) rfl rfl e5 rfl rfl rfl hC5) ?_
  refine tail_end (wpIn_ret ?_)
  have hs1:=hP.sz
  have b4D:b4 ≠ D:=by have:=hB4.1;omega
  have b5D:b5 ≠ D:=by have:=hB5.1;omega
  exact fin D _ I2 V (0,0) 5 ((a8.put none undef).put none undef) ez ed e4 e5 hD hnD ((ho2 D (Ne.symm b5D)).trans ((ho1 D (Ne.symm b4D)).trans hmD)) hP2 (hC4.row hne) hC5'
 case stop =>
  rintro D i I2 V W hD hi ⟨hP,hB4,hB5,h5,h6⟩ hnD hmD
  rw [restF_at (by rw [hXl];exact hi) h5 h6]
  exact fin D W I2 V _ 0 { a with defers:=[markOf D] } hsz rfl hp4 hp5 hD hnD hmD hP hB4 hB5
end
end Go.Proofs.Leaf
namespace Go.Proofs.Leaf
open Go Go.RX Go.Proofs Go.RowKit
set_option maxRecDepth 10000
section
theorem Ctr.cellsR {f:FuncId} {fn:Func} {c:Code} {A:List SV} {r:SV} {N:Nat} (hf:Tryz.prog.funcs[f]? = some fn) (hb:fn.body = some c) (hname:(fn.name == "runtime.NumGoroutine") = false) (hN:fn.ntmps = N) (hn:Nat.ble A.length N = true) (hA:∀ s∈A,cellsS s)
  (h:∀ I w a,(∀ b,I b->b < w.heap.size)->(∀ b,I b->∃ cs T fz,w.heap[b]? = some (.cells cs T fz))->St { env:=RX.args 0 A,bx:=[],tk:=[] } I N w a w ->
   c.wpIn fen 0 Tryz.prog (fun e a' w' => (e = .ret∨e = .normal)/\a'.defers = []/\∃ v,(results fn a'.tmps).run Tryz.prog w' = .ok v w'/\RepS (fun b => I b∨(w.heap.size<=b/\b < w'.heap.size)) w' v r/\Keep w.heap.size w w') a w):Ctr Tryz.prog f A r:=by
 have hC:∀ I w vs,(∀ b,I b->b < w.heap.size)->(∀ b,I b->∃ cs T fz,w.heap[b]? = some (.cells cs T fz))->vs.size = A.length->(∀ (j:Nat) (u:Value) (s:SV),vs[j]? = some u->A[j]? = some s->RepS I w u s) ->
   Calls Tryz.prog f vs w fun e w' => ∃ v,e = .returned v/\RepS (fun b => I b∨(w.heap.size<=b/\b < w'.heap.size)) w' v r/\Keep w.heap.size w w':=by
  subst hN
  intro I w vs hI hc hl hA
  refine calls_of_wp hf hb ?_
  refine wp_mono ((wpIn_wide (n:=0)).1 (h I w _ hI hc (St.start trivial hI (fun b _ e => by cases e) hl (Nat.le_of_ble_eq_true hn) hA))) ?_
  rintro e a' w' ⟨he,hd,v,hv,q1,q2⟩
  rcases he with rfl | rfl<;>exact ⟨hd,v,hv,v,rfl,q1,q2⟩
 refine ⟨⟨fn,hf,hname,by simp [hb]⟩,fun I w vs _ hI _ hl hA' => (hC (cO I w) w vs (fun b hb => hI b hb.1) (fun b hb => hb.2) hl (fun j u s hu hs => hA s (List.mem_of_getElem? hs) I w u (hA' j u s hu hs))).mono ?_⟩
 rintro e w' ⟨v,rfl,hr,hk⟩
 exact ⟨v,rfl,fun Y => (hr Y).mono (fun b hb => hb.imp (fun q => q.1) (fun q => q)) (fun _ _ => rfl) (fun _ _ h => h) (fun _ _ h => h),hk⟩
abbrev alsoQ (J:Job) (s:Nat) (x:Int):Bool:=s.testBit x.toNat || !J.fit (s ||| 2 ^ x.toNat)
abbrev alsoX (J:Job) (s:Nat):List Int:=keptL (alsoQ J s) (upI J.ps.length)
set_option maxHeartbeats 2000000 in
theorem c_Also (J:Job) (h:J.ok) (L:List Nat) (hL:rises J.ps.length 0 L):Ctr Tryz.prog 37 [J.sv,ilS (asI L)] (.tup [ilS (if J.fit (setL (asI L)) = true then alsoX J (setL (asI L)) else []),iS (if J.fit (setL (asI L)) = true then 0 else 7)]):=by
 obtain ⟨s1,s2,s3,s4⟩:=rises_set h hL
 have hsm:someB J.ps.length (asI L) = true:=someB_iff.2 ⟨L,hL,rfl⟩
 have hl:(asI L).length < 1000000:=by rw [asI_len];omega
 obtain ⟨s,hs⟩:∃ s,setL (asI L) = s:=⟨_,rfl⟩
 have hcb:=c_bits (asI L) hl s3
 rw [hs] at s1 hcb ⊢
 have hp1:=h.p1
 refine Ctr.cellsR (fn:=Tryz.f37) rfl rfl rfl rfl rfl (fun s hs => ?_) (fun I w a hI hc hst => ?_)
 ·simp only [List.mem_cons,List.not_mem_nil,or_false] at hs
  rcases hs with rfl | rfl
  ·exact cells_job J
  ·exact cells_ints _
 dsimp only [args] at hst
 letI:Bas:=⟨I,w⟩
 refine Ok.first hst ?_
 (first|refine qE ?_|refine qD ?_);(simp only [go_sem,↓dP,↓reduceIte];with_reducible and_intros;all_goals first|apply qA|exact qC|skip)
 intro a w1 hst
 show Code.wpIn _ _ _ _ _ _ _
 refine wpIn_seq ?_
 refine Ok.first hst ?_
 (first|refine qE ?_|refine qD ?_);(simp only [go_sem,↓dP,↓reduceIte];with_reducible and_intros;all_goals first|apply qA|exact qC|skip)
 (refine AskI.ret (c_isJob J h.held) ?_;simp only [go_sem,↓dP,↓reduceIte];with_reducible and_intros;all_goals first|apply qA|exact qC|skip)
 (refine AskGI.ret (fun _ => c_arePieces J h.held.2 (asI L) hl) ?_;simp only [go_sem,↓dP,↓reduceIte];with_reducible and_intros;all_goals first|apply qA|exact qC|skip)
 intro a w1 hst
 rw [jobB_iff.2 h,hsm] at hst
 show Code.wpIn _ _ _ _ _ _ _
 refine hand_cond hst rfl (fun hb => by simp at hb) (fun _ => ?_)
 refine wpIn_skip ?_
 show Code.wpIn _ _ _ _ _ _ _
 refine wpIn_seq ?_
 (refine hT 4 ?h1 ?h2 ?h3 ?h4 hst ?_;(case h1 => rfl);(case h2 => rfl);(case h3 => rfl);(case h4 => rfl);simp only [go_sem,↓dP,↓reduceIte];with_reducible and_intros;all_goals first|apply qA|exact qC|skip)
 (refine AskI.ret (c_knifeOf0 J (by omega)) ?_;simp only [go_sem,↓dP,↓reduceIte];with_reducible and_intros;all_goals first|apply qA|exact qC|skip)
 (refine AskI.ret (hcb) ?_;simp only [go_sem,↓dP,↓reduceIte];with_reducible and_intros;all_goals first|apply qA|exact qC|skip)
 intro Y a w3 hinv
 have hst:=St.of hinv rfl
 have hst:=(hst.sub ((Sub.frzB (b:=0) rfl rfl))).sub (Sub.ref1 (t:=2) (b:=0) rfl rfl rfl)
 obtain ⟨I3,β,τ,hx⟩:=hst (fun _ => none)
 have k19:RepS I3 w3 (a.tmps.getD 19 undef) (kn0 J):=mt_aggd (ds:=[iD J.wide,iD J.high,iD J.book,iD J.spoilt,slD 4 groD J.gs,slD 4 pieD J.ps,.mp 0 0 (fun _ _ => .nilI)]) ((hx.env 19).un (fun _ _ _ e => by cases e))
 have k21:RepS (fun _ => False) w3 (a.tmps.getD 21 undef) (iS s):=by
  have:=mt_d ((hx.env 21).un (fun _ _ _ e => by cases e))
  generalize a.tmps.getD 21 undef = u at this
  cases this;exact fun Y => .d .int
 have k2:RepS I3 w3 (a.tmps.getD 2 undef) (.d J.ref):=fun Y => .d (mt_d ((hx.env 2).un (fun _ _ _ e => by cases e)))
 obtain ⟨m,clk,hIm,hm,hr⟩:=kn0_memo k19
 have hk:Keep w.heap.size w w3:=hx.bel
 have hnew:=memo_new hm hIm hx.i0 hk hI hc
 have hmM:MemoOK J.ps w3 m:=⟨#[],clk,hm,fun e he => by simp at he⟩
 have hsub:∀ b,cO I3 w3 b->I3 b/\b ≠ m:=by
  rintro b ⟨hb,c1,T1,f1,hc1⟩
  exact ⟨hb,fun e => by subst e;rw [hm] at hc1;cases hc1⟩
 have k2':RepS (fun b => I3 b/\b ≠ m) w3 (a.tmps.getD 2 undef) (.d J.ref):=fun Y => (cells_jref J _ _ _ k2 Y).mono hsub (fun _ _ => rfl) (fun _ _ h => h) (fun _ _ h => h)
 have hK:=isMemo_memo J.ps m
 have hlt3:=hx.hI
 have hi3:=hx.i0
 have hsz:=hx.sz
 have hdf:a.defers = []:=hx.df
 have hst:@St (memo J.ps m) dfr0 { env:=[(19,knS J m),(21,iS s),(2,.d J.ref)],bx:=[],tk:=[] } (fun b => I3 b/\b ≠ m) Tryz.f37.ntmps w3 a w3 :=
  @St.data (memo J.ps m) dfr0 _ _ _ _ _ (fun _ => none) (fun _ => none) (fun _ => none) hsz hdf (fun b hb => hlt3 b hb.1) (fun b hb e => by cases e;exact hb.2 rfl) hmM (dat_cons hr (dat_cons (fun Y => (k21 Y).mono (fun _ h => h.elim) (fun _ h => h.elim) (fun _ _ h => h) (fun _ _ h => h)) (dat_cons k2' dat_nil))) (fun p hp => by cases hp)
 have last:∀ (a':Act) (w':World) (r:SV) (σ:Sy),resOK Tryz.prog Tryz.f37.results.toList r σ->@St (memo J.ps m) dfr0 σ (fun b => I3 b/\b ≠ m) Tryz.f37.ntmps w3 a' w' ->
   a'.defers = []/\∃ v,(results Tryz.f37 a'.tmps).run Tryz.prog w' = .ok v w'/\RepS (fun b => I b∨(w.heap.size<=b/\b < w'.heap.size)) w' v r/\Keep w.heap.size w w':=by
  intro a' w' r σ h1 h2
  obtain ⟨hd,v,hv,v',q1,q2,q3⟩:=@res_fin (memo J.ps m) Tryz.prog dfr0 _ _ _ _ _ _ _ _ h1 h2
  cases q1
  have hk':=hk.trans (keep_memo q3 hnew hk.size)
  have hs3:=hk.size
  have hs4:=(keep_memo q3 hnew hk.size).size
  refine ⟨hd,v,hv,fun Y => (q2 Y).mono (fun b hb => ?_) (fun _ _ => rfl) (fun _ _ h => h) (fun _ _ h => h),hk'⟩
  rcases hb with hb | hb
  ·rcases hi3 b hb.1 with q | q
   ·exact .inl q
   ·have:=hlt3 b hb.1;exact .inr ⟨q,by omega⟩
  ·exact .inr ⟨by omega,hb.2⟩
 letI GM:Glob:=memo J.ps m
 letI:Bas:=⟨fun b => I3 b/\b ≠ m,w3⟩
 (refine RX.hrest hst ?h1 ?h2 ?h3 ?_;(case h1 => rfl);(case h2 => rfl);(case h3 => rfl);simp only [go_sem,↓dP,↓reduceIte,bare];with_reducible and_intros;all_goals first|apply qA|exact qC|skip)
 intro a w4 hst
 show Code.wpIn _ _ _ _ _ _ _
 refine wpIn_seq ?_
 have hst:=hst.sub ((Sub.frzB (b:=0) rfl rfl).trans (Sub.frzB (b:=1) rfl rfl))
 by_cases hf:J.fit s = true
 ·have hatt:=c_att_ok 75 2 (dget [.ref 7 (dget (knD J m)),.ref 1 (dget [iD s])]) (c_Also_1 J m hK h.sized s (by omega) hf)
  rw [if_pos hf,if_pos hf]
  refine Ok.first hst ?_
  (first|refine qE ?_|refine qD ?_);(simp only [go_sem,↓dP,↓reduceIte];with_reducible and_intros;all_goals first|apply qA|exact qC|skip)
  (refine AskI.ret (hatt) ?_;simp only [go_sem,↓dP,↓reduceIte];with_reducible and_intros;all_goals first|apply qA|exact qC|skip)
  intro a w4 hst
  show Code.wpIn _ _ _ _ _ _ _
  refine Ok.first hst ?_
  (first|refine qE ?_|refine qD ?_);(simp only [go_sem,↓dP,↓reduceIte];with_reducible and_intros;all_goals first|apply qA|exact qC|skip)
  intro a w4 hst
  show Code.wpIn _ _ _ _ _ _ _
  refine hand_cond hst rfl (fun hb => by simp at hb) (fun _ => ?_)
  refine wpIn_skip ?_
  show Code.wpIn _ _ _ _ _ _ _
  refine wpIn_seq ?_
  (refine hT 1 ?h1 ?h2 ?h3 ?h4 hst ?_;(case h1 => rfl);(case h2 => rfl);(case h3 => rfl);(case h4 => rfl);simp only [go_sem,↓dP,↓reduceIte];with_reducible and_intros;all_goals first|apply qA|exact qC|skip)
  intro Y a w5 hinv
  have hst:=St.of hinv rfl
  have hst:=(hst.sub (Sub.ref1 (t:=6) (b:=0) rfl rfl rfl)).sub (Sub.ref1 (t:=7) (b:=1) rfl rfl rfl)
  have hst:=hst.only [(27,J.sv),(6,.d (.ref 7 (dget (knD J m)))),(7,.d (.ref 1 (dget [iD s])))] (by
   simp only [subE,subV,subL,go_sem,↓dP,↓reduceIte]
   ((repeat' with_reducible apply And.intro)<;>(first | exact DEq.refl _ | refine DEq.int ?_ | refine DEq.bool ?_ | skip)))
  obtain ⟨I4,hst,j1,j2,j3,j4,hk5,hG5,hd5⟩:=hst.rebase rfl rfl rfl (fun b hb => hlt3 b hb.1)
  have hrr:=hst.reps rfl rfl rfl
  have hsz5:a.tmps.size = Tryz.f37.ntmps:=by obtain ⟨_,_,_,hx⟩:=hst (fun _ => none);exact hx.sz
  have gu:RepS I4 w5 (.func (.func 78) #[] #[a.tmps.getD 7 undef,a.tmps.getD 6 undef]) (.d (.clo 78 2 (dget [.ref 1 (dget [iD s]),.ref 7 (dget (knD J m))]))):=fun Y => .d (.clo rfl (fun j u hu => by
   rcases j with _ | _ | j
   ·cases hu;exact mt_d (hrr 7 (fun _ => none))
   ·cases hu;exact mt_d (hrr 6 (fun _ => none))
   ·simp at hu))
  have hq:∀ x∈upI J.ps.length,Ctr Tryz.prog 78 (iS x :: take (dget [.ref 1 (dget [iD s]),.ref 7 (dget (knD J m))]) 0 2) (bS (alsoQ J s x)):=fun x hx => by
   obtain ⟨h0,h1⟩:=upI_mem.1 hx
   obtain ⟨n,rfl⟩:∃ n:Nat,x = n:=⟨x.toNat,by omega⟩
   exact c_Also_2 J m hK h.sized s n (by omega) (by omega)
  have hdel:=del_everyG J (by omega) 78 2 _ _ hq hG5 j4 j3 (hrr 27) gu
  refine tail_callFn (fn:=Tryz.f77) rfl rfl rfl rfl (by simp [Act.eval]) hdel (fun e w6 hq => ?_)
  obtain ⟨v,rfl,hB,hcall⟩:=hq
  refine ⟨v,rfl,?_⟩
  refine tail_val (v:=.func (.func 78) #[] #[a.tmps.getD 7 undef,a.tmps.getD 6 undef]) rfl (fun c e => by cases e) (run_mkf rfl ?_) ?_
  ·rw [map2]
   show #[(a.put (some 28) v).tmps.getD 7 undef,(a.put (some 28) v).tmps.getD 6 undef] = _
   rw [put_ne (by decide),put_ne (by decide)]
  refine tail_callFn (fn:=Tryz.f76) rfl rfl rfl rfl ?_ hcall (fun e w7 hq => ?_)
  ·rw [map2]
   show #[((a.put (some 28) v).put (some 29) _).tmps.getD 28 undef,((a.put (some 28) v).put (some 29) _).tmps.getD 29 undef] = _
   rw [put_ne (by decide),put_eq (by rw [hsz5];decide),put_eq (by rw [put_sz,hsz5];decide)]
  obtain ⟨v2,xs,rfl,p1,p2,p3⟩:=hq
  refine ⟨v2,rfl,?_⟩
  have hk7:Keep w3.heap.size w3 w7:=hk5.trans (p3.mono hk5.size)
  have hlt:=p1.lt
  have hrep:Rep (fun b => v2.ownBlock = some b) w7 v2 (slD 1 intD (alsoX J s)):=ownsRow.rep p1 (fun i j hi hj => by
   have:j = 0:=by omega
   subst this
   rw [Nat.mul_one,Nat.add_zero]
   exact ⟨_,p2 i hi,.int⟩) (fun b hb => hb)
  refine tail_val rfl (fun c e => by cases e) (run_move (v:=v2) (.inr rfl) (put_eq (by rw [put_sz,put_sz,hsz5];decide))) ?_
  refine tail_val rfl (fun c e => by cases e) (run_move (v:=.int .i64 0) (.inr rfl) rfl) ?_
  refine tail_end (wpIn_ret ⟨.inl rfl,last _ _ _ { env:=[(4,ilS (alsoX J s)),(5,iS 0)],bx:=[],tk:=[] } ?_ ?_⟩)
  ·show resOK Tryz.prog [.tmp 4,.tmp 5] _ _
   ((try dsimp only [thenK,blockK,noGotoK]);simp only [toList_mk,List.toList_toArray,retK_ret,retK_normal,resOK,resV,celV,rowV,frzAll,frzT,subV,subL,go_sem,↓dP,↓reduceIte])
   ((repeat' with_reducible apply And.intro)<;>(first | exact DEq.refl _ | refine DEq.int ?_ | refine DEq.bool ?_ | skip))
  ·refine St.boxes (I:=fun b => v2.ownBlock = some b) [] (by rw [put_sz,put_sz,put_sz,put_sz,put_sz];exact hsz5) hd5 (fun b hb => (hlt b hb).2) (fun b hb e => by cases e;exact hb.2 rfl) hmM (fun b hb => .inr ?_) hk7 rfl (fun i i' b hi hi' => by simp at hi) (fun i blk c hi hc => by simp at hi) (bat_cons (.inl ?_) (bat_cons (.inl ?_) bat_nil))
   ·have:=(hlt b hb).1;have:=hk5.size;omega
   ·rw [put_ne (by decide),put_eq (by rw [put_sz,put_sz,put_sz,hsz5];decide)];exact fun Y => .d hrep
   ·rw [put_eq (by rw [put_sz,put_sz,put_sz,put_sz,hsz5];decide)];exact fun Y => .d .int
 ·have hff:J.fit s = false:=by simpa using hf
  have hatt:=c_att_apart 75 2 (dget [.ref 7 (dget (knD J m)),.ref 1 (dget [iD s])]) s (c_Also_1p J m hK h.sized s (by omega) hff)
  rw [if_neg hf,if_neg hf]
  refine Ok.first hst ?_
  (first|refine qE ?_|refine qD ?_);(simp only [go_sem,↓dP,↓reduceIte];with_reducible and_intros;all_goals first|apply qA|exact qC|skip)
  (refine AskI.ret (hatt) ?_;simp only [go_sem,↓dP,↓reduceIte];with_reducible and_intros;all_goals first|apply qA|exact qC|skip)
  intro a w4 hst
  show Code.wpIn _ _ _ _ _ _ _
  refine Ok.first hst ?_
  (first|refine qE ?_|refine qD ?_);(simp only [go_sem,↓dP,↓reduceIte];with_reducible and_intros;all_goals first|apply qA|exact qC|skip)
  intro a w4 hst
  show Code.wpIn _ _ _ _ _ _ _
  refine hand_cond hst rfl (fun _ => ?_) (fun hb => by simp at hb)
  show Code.wpIn fen 0 Tryz.prog (.seq (.region _ _ _) .ret) _ _ _
  refine Ok.first hst ?_
  (first|refine qE ?_|refine qD ?_);(simp only [go_sem,↓dP,↓reduceIte];with_reducible and_intros;all_goals first|apply qA|exact qC|skip)
  intro a w5 hst
  refine wpIn_ret ⟨.inl rfl,last _ _ _ _ ?_ hst⟩
  show resOK Tryz.prog [.tmp 4,.tmp 5] _ _
  ((try dsimp only [thenK,blockK,noGotoK]);simp only [toList_mk,List.toList_toArray,retK_ret,retK_normal,resOK,resV,celV,rowV,frzAll,frzT,subV,subL,go_sem,↓dP,↓reduceIte])
  ((repeat' with_reducible apply And.intro)<;>(first | exact DEq.refl _ | refine DEq.int ?_ | refine DEq.bool ?_ | skip))
  exact DEq.nils rfl
end
end Go.Proofs.Leaf
namespace Go.Proofs.Leaf
open Go Go.RX Go.Proofs
set_option maxRecDepth 10000
theorem mulB {a b A B:Int} (h1:-A<=a) (h2:a<=A) (h3:-B<=b) (h4:b<=B):-(A * B)<=a * b/\a * b<=A * B:=by
 have hA:0<=A:=by omega
 have hB:0<=B:=by omega
 have e1:0<=(A - a) * (B + b):=Int.mul_nonneg (by omega) (by omega)
 have e2:0<=(A + a) * (B - b):=Int.mul_nonneg (by omega) (by omega)
 have e3:0<=(A + a) * (B + b):=Int.mul_nonneg (by omega) (by omega)
 have e4:0<=(A - a) * (B - b):=Int.mul_nonneg (by omega) (by omega)
 simp only [Int.sub_mul,Int.mul_sub,Int.add_mul,Int.mul_add] at e1 e2 e3 e4
 constructor<;>omega
theorem tdivN (n:Nat):(n:Int).tdiv 10 = ((n / 10:Nat):Int):=by rw [Int.tdiv_eq_ediv_of_nonneg (by omega)];simp
theorem tmodN (n:Nat):(n:Int).tmod 10 = ((n % 10:Nat):Int):=by rw [Int.tmod_eq_emod_of_nonneg (by omega)];simp
theorem R8 {n:Int} (h0:0<=n) (h1:n<=255):R .u8 n:=by
 unfold R
 show IntKind.wrap .u8 n = n
 unfold IntKind.wrap
 simp [IntKind.signed,IntKind.bits]
 omega
theorem R32 {n:Int} (h1:-2147483648<=n) (h2:n<=2147483647):R .i32 n:=by unfold R;rw [IntKind.wrap_i32];omega
theorem decLen (n:Nat) (h:n < 1000000):(Lib.decDigits n).length<=21:=by
 rw [← Lib.itoa_nonneg]
 exact Lib.itoa_length_le _ (by omega) (by omega)
def rowL (w:List UInt8) (ns:List Int):List UInt8:=w ++ ns.flatMap (fun n => 32 :: Lib.itoa n)
theorem rowL_nil (w:List UInt8):rowL w [] = w:=by simp [rowL]
theorem rowL_snoc (w:List UInt8) (ns:List Int) (n:Int):rowL w (ns ++ [n]) = rowL w ns ++ [32] ++ Lib.itoa n:=by simp [rowL]
theorem itoaLen (n:Int) (h0:0<=n) (h1:n < 1000000):(Lib.itoa n).length<=21:=Lib.itoa_length_le _ (by omega) (by omega)
theorem rowL_len (w:List UInt8):∀ (ns:List Int),(∀ n∈ns,0<=n/\n < 1000000)->(rowL w ns).length<=w.length + 22 * ns.length
 | [],_ => by simp [rowL]
 | n :: r,h => by
  have ih:=rowL_len w r (fun x hx => h x (List.mem_cons_of_mem _ hx))
  have hn:=h n (List.mem_cons_self ..)
  have:=itoaLen n hn.1 hn.2
  simp only [rowL,List.length_append,List.flatMap_cons,List.length_cons] at ih ⊢
  omega
def rowSum (i:Nat):Nat->List UInt8->Nat
 | _,[] => 0
 | k,b :: r => b.toNat * (k + 1) * (i + 1) + rowSum i (k + 1) r
def rowsSum:Nat->List (List UInt8)->Nat
 | _,[] => 0
 | i,r :: l => rowSum i 0 r + rowsSum (i + 1) l
theorem rowSum_snoc (i:Nat) (b:UInt8):∀ (r:List UInt8) (k:Nat),rowSum i k (r ++ [b]) = rowSum i k r + b.toNat * (k + r.length + 1) * (i + 1)
 | [],k => by simp [rowSum]
 | c :: r,k => by
  have ih:=rowSum_snoc i b r (k + 1)
  simp only [List.cons_append,rowSum,ih,List.length_cons]
  have:k + 1 + r.length + 1 = k + (r.length + 1) + 1:=by omega
  rw [this];omega
theorem rowsSum_snoc (r:List UInt8):∀ (l:List (List UInt8)) (i:Nat),rowsSum i (l ++ [r]) = rowsSum i l + rowSum (i + l.length) 0 r
 | [],i => by simp [rowsSum]
 | c :: l,i => by
  have ih:=rowsSum_snoc r l (i + 1)
  simp only [List.cons_append,rowsSum,ih,List.length_cons]
  have:i + 1 + l.length = i + (l.length + 1):=by omega
  rw [this];omega
theorem rowSum_le (i:Nat) (hi:i < 1000):∀ (r:List UInt8) (k:Nat),k + r.length<=1000->rowSum i k r<=255000000 * r.length
 | [],k,_ => by simp [rowSum]
 | c :: r,k,h => by
  simp only [List.length_cons] at h ⊢
  have ih:=rowSum_le i hi r (k + 1) (by omega)
  have hc:c.toNat<=255:=by have:=c.toNat_lt;omega
  have h1:c.toNat * (k + 1)<=255 * 1000:=Nat.mul_le_mul hc (by omega)
  have h2:c.toNat * (k + 1) * (i + 1)<=255 * 1000 * 1000:=Nat.mul_le_mul h1 (by omega)
  simp only [rowSum];omega
theorem rowsSum_le:∀ (l:List (List UInt8)) (i:Nat),i + l.length<=1000->(∀ r∈l,r.length<=1000)->rowsSum i l<=255000000000 * l.length
 | [],i,_,_ => by simp [rowsSum]
 | r :: l,i,h,hr => by
  simp only [List.length_cons] at h ⊢
  have ih:=rowsSum_le l (i + 1) (by omega) (fun x hx => hr x (List.mem_cons_of_mem _ hx))
  have h1:=hr r (List.mem_cons_self ..)
  have h2:=rowSum_le i (by omega) r 0 (by omega)
  simp only [rowsSum];omega
def flatL (l:List (List UInt8)):List UInt8:=l.flatMap (· ++ [10])
theorem flatL_snoc (l:List (List UInt8)) (r:List UInt8):flatL (l ++ [r]) = flatL l ++ r ++ [10]:=by simp [flatL]
theorem flatL_len:∀ (l:List (List UInt8)),(∀ r∈l,r.length<=1000)->(flatL l).length<=1001 * l.length
 | [],_ => by simp [flatL]
 | r :: l,h => by
  have ih:=flatL_len l (fun x hx => h x (List.mem_cons_of_mem _ hx))
  have h1:=h r (List.mem_cons_self ..)
  simp only [flatL,List.flatMap_cons,List.length_append,List.length_cons,List.length_nil] at ih ⊢
  omega
def endL (c:Nat):List UInt8:=[101,110,100,32] ++ Lib.decDigits (c / 100) ++ Lib.decDigits (c / 10 % 10) ++ Lib.decDigits (c % 10)
def sealedL (l:List (List UInt8)):List UInt8:=flatL l ++ endL (rowsSum 0 l % 191) ++ [10]
theorem getD0 (l:List UInt8) (i:Nat):l.getD i 0 = l.getD i default:=rfl
theorem tdivC (n:Nat):(n:Int).tdiv 100 = ((n / 100:Nat):Int):=by rw [Int.tdiv_eq_ediv_of_nonneg (by omega)];simp
theorem join_tail (l:List (List UInt8)) (h:l ≠ []):Lib.joinTail [10] l = [10] ++ Lib.join l [10]:=by
 cases l with
 | nil => exact (h rfl).elim
 | cons y t => rw [Lib.join_cons];simp [Lib.joinTail]
theorem join_flat (e:List UInt8):∀ l:List (List UInt8),Lib.join (l ++ [e]) [10] = flatL l ++ e
 | [] => by simp [Lib.join_one,flatL]
 | x :: l => by
  rw [List.cons_append,Lib.join_cons,join_tail _ (by simp),join_flat e l]
  simp [flatL]
theorem endL_len {c:Nat} (h:c < 191):(endL c).length<=67:=by
 have l1:=decLen (c / 100) (by omega)
 have l2:=decLen (c / 10 % 10) (by omega)
 have l3:=decLen (c % 10) (by omega)
 simp only [endL,List.length_append,List.length_cons,List.length_nil];omega
def strD (l:List UInt8):Nat->DV
 | 0 => .str l | _ => .nilI
theorem strD_0 (l:List UInt8):strD l 0 = .str l:=Eq.trans rfl rfl
attribute [go_sem] strD_0
abbrev strsD (l:List (List UInt8)):DV:=.sl 1 l.length (fun i => strD (l.getD i default))
def splitL (s sep:List UInt8):List (List UInt8):=(Lib.splitB ⟨sep.toArray⟩ 0 (Lib.countB ⟨s.toArray⟩ ⟨sep.toArray⟩) ⟨s.toArray⟩).map (·.data.toList)
def digit (b:UInt8):Bool:=decide (48<=b.toNat) && decide (b.toNat<=57)
def numL (l:List UInt8):Nat:=l.foldl (fun n b => 10 * n + (b.toNat - 48)) 0
theorem numL_snoc (l:List UInt8) (b:UInt8):numL (l ++ [b]) = 10 * numL l + (b.toNat - 48):=by simp [numL]
def isNum (w:List UInt8):Prop:=w ≠ []/\(∀ b∈w,digit b = true)/\w.length<=2/\Lib.itoa (numL w) = w
theorem decode_digit (l:List UInt8) (p:Nat) (hp:p < l.length) (h:digit (l.getD p 0) = true):Utf8.decode ⟨l.toArray⟩ p = ((l.getD p 0).toNat,1):=by
 simp only [digit,Bool.and_eq_true,decide_eq_true_eq] at h
 have hb:(ByteArray.get! ⟨l.toArray⟩ (p + 0)) = l.getD p 0:=by
  show (l.toArray)[p + 0]! = _
  rw [Nat.add_zero,getElem!_pos l.toArray p (by simpa using hp),getD0,getD_lt hp]
  simp
 unfold Utf8.decode
 simp only [hb]
 rw [if_pos (by omega)]
theorem numL_lt (l:List UInt8):∀ i,(∀ b∈l,digit b = true)->i<=l.length->numL (l.take i) < 10 ^ i
 | 0,_,_ => by simp [numL]
 | i + 1,h,hi => by
  have ih:=numL_lt l i h (by omega)
  have hd:=h _ (getD_mem (i:=i) (by omega))
  simp only [digit,Bool.and_eq_true,decide_eq_true_eq] at hd
  rw [getD_take (by omega),numL_snoc,Nat.pow_succ]
  omega
theorem decode_none (l:List UInt8) (p:Nat) (hp:p < l.length) (h:digit (l.getD p 0) = false):¬ (48<=(Utf8.decode ⟨l.toArray⟩ p).1/\(Utf8.decode ⟨l.toArray⟩ p).1<=57):=by
 have hb:(ByteArray.get! ⟨l.toArray⟩ (p + 0)) = l.getD p 0:=by
  show (l.toArray)[p + 0]! = _
  rw [Nat.add_zero,getElem!_pos l.toArray p (by simpa using hp),getD0,getD_lt hp]
  simp
 have hd:¬ (48<=(l.getD p 0).toNat/\(l.getD p 0).toNat<=57):=by
  intro hh
  simp only [digit,Bool.and_eq_false_iff,decide_eq_false_iff_not] at h
  omega
 have hr:Utf8.runeError = 65533:=rfl
 unfold Utf8.decode
 simp only [hb]
 generalize (l.getD p 0).toNat = b at hd
 (repeat' split)<;>(try simp only [Bool.and_eq_true,decide_eq_true_eq,ge_iff_le] at *)<;>(try dsimp only)<;>omega
theorem numL_lt' (l:List UInt8):∀ i,(∀ k,k < i->digit (l.getD k 0) = true)->i<=l.length->numL (l.take i) < 10 ^ i
 | 0,_,_ => by simp [numL]
 | i + 1,h,hi => by
  have ih:=numL_lt' l i (fun k hk => h k (by omega)) (by omega)
  have hd:=h i (by omega)
  simp only [digit,Bool.and_eq_true,decide_eq_true_eq] at hd
  rw [getD_take (by omega),numL_snoc,Nat.pow_succ]
  have:(l.getD i default).toNat = (l.getD i 0).toNat:=rfl
  omega
theorem stop_at {w:List UInt8} (h:¬ isNum w):∃ k0,k0<=w.length/\(∀ k,k < k0->digit (w.getD k 0) = true)/\(0 < k0->w.length<=2) /\
  ((k0 < w.length/\(digit (w.getD k0 0) = false∨2 < w.length))∨(k0 = w.length/\(w = []∨Lib.itoa (numL w) ≠ w))):=by
 by_cases hl:2 < w.length
 ·exact ⟨0,by omega,fun k hk => by omega,fun h => by omega,.inl ⟨by omega,.inr hl⟩⟩
 ·cases hf:w.findIdx? (fun b => !digit b) with
  | some k0 =>
   obtain ⟨h1,h2,h3⟩:=List.findIdx?_eq_some_iff_getElem.1 hf
   refine ⟨k0,by omega,fun k hk => ?_,fun _ => by omega,.inl ⟨h1,.inl ?_⟩⟩
   ·rw [getD0,getD_lt (by omega)]
    simpa using h3 k hk
   ·rw [getD0,getD_lt h1];simpa using h2
  | none =>
   have h0:=List.findIdx?_eq_none_iff.1 hf
   have hd:∀ b∈w,digit b = true:=fun b hb => by simpa using h0 b hb
   refine ⟨w.length,Nat.le_refl _,fun k hk => hd _ (getD_mem hk),fun _ => by omega,.inr ⟨rfl,?_⟩⟩
   by_cases hw:w = []
   ·exact .inl hw
   ·exact .inr (fun e => h ⟨hw,hd,by omega,e⟩)
def spl (c:UInt8):List UInt8->List (List UInt8)
 | [] => [[]]
 | b :: l => if b = c then [] :: spl c l else
  match spl c l with
  | [] => [[b]]
  | x :: r => (b :: x) :: r
theorem spl_ne (c:UInt8):∀ l,spl c l ≠ []
 | [] => by simp [spl]
 | b :: l => by
  unfold spl
  split
  ·simp
  ·split<;>simp
theorem splitK_spl (c:UInt8):∀ l,Lib.splitK [c] 0 (Lib.count l [c]) l = spl c l
 | [] => by
  rw [Lib.count_miss (by simp [Lib.index])]
  rfl
 | b :: l => by
  have ih:=splitK_spl c l
  by_cases h:b = c
  ·subst h
   have hix:Lib.index (b :: l) [b] = ((0:Nat):Int):=by rw [Lib.index];simp [List.isPrefixOf]
   rw [Lib.count_cons_eq,Nat.add_comm,Lib.splitK,if_neg (by rw [hix];decide),hix]
   simp only [spl,if_true]
   rw [← ih]
   simp
  ·rw [Lib.count_cons_ne b c l h]
   simp only [spl,if_neg h]
   rw [← ih]
   have hp:([c]:List UInt8).isPrefixOf (b :: l) = false:=by simp [List.isPrefixOf,Ne.symm h]
   have hix:Lib.index (b :: l) [c] = if Lib.index l [c] == -1 then -1 else Lib.index l [c] + 1:=by rw [Lib.index,hp];simp
   by_cases hm:Lib.index l [c] = -1
   ·rw [Lib.count_miss hm]
    rfl
   ·have hge:=Lib.index_ge l [c]
    obtain ⟨j,hj⟩:∃ j:Nat,Lib.index l [c] = j:=⟨(Lib.index l [c]).toNat,by omega⟩
    have hm2:¬ (Lib.index l [c] == -1) = true:=fun e => hm (beq_iff_eq.1 e)
    rw [Lib.count_hit (by simp) hj,Nat.add_comm 1]
    simp only [Lib.splitK,hix,if_neg hm2]
    rw [if_neg (by simp only [beq_iff_eq];omega),hj]
    have e1:(((j:Nat):Int) + 1).toNat = j + 1:=by omega
    have e2:((j:Nat):Int).toNat = j:=by omega
    simp only [e1,e2,Nat.add_zero,List.take_succ_cons,List.length_cons,List.length_nil,List.drop_succ_cons,Nat.zero_add]
theorem splitL_spl (c:UInt8) (l:List UInt8):splitL l [c] = spl c l:=by
 unfold splitL
 rw [Lib.splitB_data]
 exact splitK_spl c l
theorem spl_short (c:UInt8):∀ (l:List UInt8),∀ x∈spl c l,x.length<=l.length
 | [],x,h => by simp [spl] at h;subst h;simp
 | b :: l,x,h => by
  simp only [spl] at h
  split at h
  ·simp only [List.mem_cons] at h
   rcases h with rfl | h
   ·simp
   ·have:=spl_short c l x h;simp only [List.length_cons];omega
  ·split at h
   ·exact absurd ‹_› (spl_ne c l)
   ·rename_i y r hy
    simp only [List.mem_cons] at h
    rcases h with rfl | h
    ·have:=spl_short c l y (by rw [hy];simp);simp only [List.length_cons];omega
    ·have:=spl_short c l x (by rw [hy];simp [h]);simp only [List.length_cons];omega
theorem splitL_short (c:UInt8) (l:List UInt8) (i:Nat):((splitL l [c]).getD i default).length<=l.length:=by
 by_cases h:i < (splitL l [c]).length
 ·have:=getD_mem h
  rw [splitL_spl] at this ⊢
  exact spl_short c l _ this
 ·rw [List.getD_eq_getElem?_getD,List.getElem?_eq_none (by omega)]
  exact Nat.zero_le _
theorem splitL_pos (s sep:List UInt8) (h1:1<=sep.length):0 < (splitL s sep).length:=by
 have hlen:=Lib.splitB_all ⟨sep.toArray⟩ h1 0 _ ⟨s.toArray⟩ rfl
 rw [splitL,List.length_map,hlen];omega
theorem splitL_len (s sep:List UInt8) (h1:1<=sep.length):(splitL s sep).length<=s.length + 1:=by
 have hlen:=Lib.splitB_all ⟨sep.toArray⟩ h1 0 _ ⟨s.toArray⟩ rfl
 have hcnt:=Lib.countB_le ⟨sep.toArray⟩ h1 _ ⟨s.toArray⟩ (Nat.le_refl _)
 have hss:(⟨s.toArray⟩:ByteArray).size = s.length:=rfl
 rw [splitL,List.length_map,hlen];omega
end Go.Proofs.Leaf
namespace Go.Proofs.Leaf
open Go Go.RX Go.Proofs
set_option maxRecDepth 10000
def leafW:List UInt8:=[108,101,97,102]
def groundW:List UInt8:=[103,114,111,117,110,100]
def pieceW:List UInt8:=[112,105,101,99,101]
def eitherW:List UInt8:=[101,105,116,104,101,114]
def kindW (turn:Bool):List UInt8:=if turn then eitherW else pieceW
def Job.nums (J:Job):List Int:=[J.wide,J.high,J.book,J.spoilt]
def Ground.nums (g:Ground):List Int:=[g.rl,g.rh,g.ll,g.lh]
def Piece.nums (p:Piece):List Int:=[p.w,p.h,p.g]
def groundRow (g:Ground):List UInt8:=rowL groundW g.nums
def pieceRow (p:Piece):List UInt8:=rowL (kindW p.turn) p.nums
def rowsOf (J:Job):List (List UInt8):=rowL leafW J.nums :: (J.gs.map groundRow ++ J.ps.map pieceRow)
def pl (n:Int):Prop:=0<=n/\n < 100
structure Job.plain (J:Job):Prop where
 n:∀ n∈J.nums,pl n
 g:∀ g∈J.gs,∀ n∈g.nums,pl n
 p:∀ p∈J.ps,∀ n∈p.nums,pl n
instance (w:List UInt8):Decidable (isNum w):=by unfold isNum;infer_instance
def nums (ws:List (List UInt8)) (n:Nat):Prop:=ws.length = n/\∀ w∈ws,isNum w
instance (ws:List (List UInt8)) (n:Nat):Decidable (nums ws n):=by unfold nums;infer_instance
theorem num_lt {w:List UInt8} (h:isNum w):numL w < 100:=by
 have h1:=numL_lt w w.length h.2.1 (Nat.le_refl _)
 rw [List.take_length] at h1
 have h2:10 ^ w.length<=10 ^ 2:=Nat.pow_le_pow_right (by decide) h.2.2.1
 omega
def nth' (ws:List (List UInt8)) (i:Nat):Int:=(numL (ws.getD i default):Nat)
theorem pl_num {W:List (List UInt8)} {a n:Nat} (h:nums (W.drop a) n) {i:Nat} (h1:a<=i) (h2:i < a + n):pl (nth' W i):=by
 have hl:=h.1
 rw [List.length_drop] at hl
 have:=num_lt (h.2 (W.getD i default) (by
  have:(W.drop a).getD (i - a) default = W.getD i default:=by
   simp only [List.getD_eq_getElem?_getD,List.getElem?_drop]
   rw [show a + (i - a) = i by omega]
  rw [← this]
  exact getD_mem (by rw [List.length_drop];omega)))
 unfold pl nth'
 omega
abbrev PS:=List Ground×List Piece
def isKind (w:List UInt8):Prop:=w = leafW∨w = groundW∨w = pieceW∨w = eitherW
instance (w:List UInt8):Decidable (isKind w):=by unfold isKind;infer_instance
def stepP (st:PS) (r:List UInt8):Option PS :=
 let W:=splitL r [32]
 if isKind (W.getD 0 default)/\(∀ w∈W.drop 1,isNum w) then
  if W.getD 0 default = groundW then
   if W.length = 5 then some (st.1 ++ [⟨nth' W 1,nth' W 2,nth' W 3,nth' W 4⟩],st.2) else none
  else if W.length = 4 then some (st.1,st.2 ++ [⟨nth' W 1,nth' W 2,W.getD 0 default == eitherW,nth' W 3⟩]) else none
 else none
def midL (rows:List (List UInt8)):List (List UInt8):=(rows.drop 1).take (rows.length - 3)
def preL (m:List (List UInt8)) (i:Nat):Option PS:=(m.take i).foldlM stepP ([],[])
def mkS (W:List (List UInt8)) (st:PS):Job:=⟨nth' W 1,nth' W 2,nth' W 3,nth' W 4,st.1,st.2⟩
def parseP (t:List UInt8):Option Job :=
 let rows:=splitL t [10]
 let W:=splitL (rows.getD 0 default) [32]
 if 3<=rows.length/\isKind (W.getD 0 default)/\nums (W.drop 1) 4 then
  match preL (midL rows) (midL rows).length with
  | none => none
  | some st => if sealedL (rowsOf (mkS W st)) = t then some (mkS W st) else none
 else none
theorem preL_zero (m:List (List UInt8)):preL m 0 = some ([],[]):=rfl
theorem preL_succ (m:List (List UInt8)) {i:Nat} (h:i < m.length):preL m (i + 1) = (preL m i).bind (fun st => stepP st (m.getD i default)):=by
 unfold preL
 rw [getD_take h,List.foldlM_append]
 cases (m.take i).foldlM stepP ([],[]) with
 | none => rfl
 | some st =>
  show List.foldlM stepP st [m.getD i default] = stepP st (m.getD i default)
  rw [List.foldlM_cons]
  cases stepP st (m.getD i default)<;>rfl
theorem preL_none (m:List (List UInt8)) {i:Nat} (h:preL m i = none):∀ n,i + n<=m.length->preL m (i + n) = none
 | 0,_ => h
 | n + 1,hn => by
  rw [← Nat.add_assoc,preL_succ m (by omega),preL_none m h n (by omega)];rfl
theorem preL_fail (m:List (List UInt8)) {i:Nat} {st:PS} (hi:i < m.length) (h:preL m i = some st) (hs:stepP st (m.getD i default) = none):preL m m.length = none:=by
 have h1:preL m (i + 1) = none:=by rw [preL_succ m hi,h];exact hs
 have h2:=preL_none m h1 (m.length - (i + 1)) (by omega)
 rwa [show i + 1 + (m.length - (i + 1)) = m.length by omega] at h2
def nrows (st:PS):Nat:=st.1.length + st.2.length
structure PlainP (st:PS):Prop where
 g:∀ g∈st.1,∀ n∈g.nums,pl n
 p:∀ p∈st.2,∀ n∈p.nums,pl n
theorem PlainP.ground {st:PS} (hp:PlainP st) {g:Ground} (hg:∀ n∈g.nums,pl n):PlainP (st.1 ++ [g],st.2)/\nrows (st.1 ++ [g],st.2) = nrows st + 1:=by
 refine ⟨⟨fun x hx => ?_,hp.p⟩,by simp only [nrows,List.length_append,List.length_cons,List.length_nil];omega⟩
 simp only [List.mem_append,List.mem_singleton] at hx
 rcases hx with hx | rfl
 ·exact hp.g x hx
 ·exact hg
theorem PlainP.piece {st:PS} (hp:PlainP st) {p:Piece} (hg:∀ n∈p.nums,pl n):PlainP (st.1,st.2 ++ [p])/\nrows (st.1,st.2 ++ [p]) = nrows st + 1:=by
 refine ⟨⟨hp.g,fun x hx => ?_⟩,by simp only [nrows,List.length_append,List.length_cons,List.length_nil];omega⟩
 simp only [List.mem_append,List.mem_singleton] at hx
 rcases hx with hx | rfl
 ·exact hp.p x hx
 ·exact hg
theorem pl4 {W:List (List UInt8)} (hn:nums (W.drop 1) 4):∀ n∈(⟨nth' W 1,nth' W 2,nth' W 3,nth' W 4⟩:Ground).nums,pl n:=by
 intro n h
 simp only [Ground.nums,List.mem_cons,List.not_mem_nil,or_false] at h
 rcases h with rfl | rfl | rfl | rfl
 ·exact pl_num hn (i:=1) (by omega) (by omega)
 ·exact pl_num hn (i:=2) (by omega) (by omega)
 ·exact pl_num hn (i:=3) (by omega) (by omega)
 ·exact pl_num hn (i:=4) (by omega) (by omega)
theorem pl3 {W:List (List UInt8)} (hn:nums (W.drop 1) 3) (b:Bool):∀ n∈(⟨nth' W 1,nth' W 2,b,nth' W 3⟩:Piece).nums,pl n:=by
 intro n h
 simp only [Piece.nums,List.mem_cons,List.not_mem_nil,or_false] at h
 rcases h with rfl | rfl | rfl
 ·exact pl_num hn (i:=1) (by omega) (by omega)
 ·exact pl_num hn (i:=2) (by omega) (by omega)
 ·exact pl_num hn (i:=3) (by omega) (by omega)
theorem nums_of {W:List (List UInt8)} {n:Nat} (h:∀ w∈W.drop 1,isNum w) (hl:W.length = n + 1):nums (W.drop 1) n:=⟨by rw [List.length_drop];omega,h⟩
section
variable {st : PS} {r : List UInt8} {V : List (List UInt8)}
theorem stepP_bad (hV:splitL r [32] = V) (h:¬ (isKind (V.getD 0 default)/\(∀ w∈V.drop 1,isNum w))):stepP st r = none:=by
 subst hV;unfold stepP;dsimp only;rw [if_neg h]
theorem stepP_ground (hV:splitL r [32] = V) (hb:V.getD 0 default = groundW) (hn:∀ w∈V.drop 1,isNum w):stepP st r = if V.length = 5 then some (st.1 ++ [⟨nth' V 1,nth' V 2,nth' V 3,nth' V 4⟩],st.2) else none:=by
 subst hV;unfold stepP;dsimp only;rw [if_pos ⟨.inr (.inl hb),hn⟩,if_pos hb]
theorem stepP_piece (hV:splitL r [32] = V) (hk:isKind (V.getD 0 default)) (hb:V.getD 0 default ≠ groundW) (hn:∀ w∈V.drop 1,isNum w):stepP st r = if V.length = 4 then some (st.1,st.2 ++ [⟨nth' V 1,nth' V 2,V.getD 0 default == eitherW,nth' V 3⟩]) else none:=by
 subst hV;unfold stepP;dsimp only;rw [if_pos ⟨hk,hn⟩,if_neg hb]
end
theorem stepP_plain {st st':PS} {r:List UInt8} (h:stepP st r = some st') (hp:PlainP st):PlainP st'/\nrows st' = nrows st + 1:=by
 obtain ⟨W,hW⟩:∃ W,splitL r [32] = W:=⟨_,rfl⟩
 by_cases hk:isKind (W.getD 0 default)/\(∀ w∈W.drop 1,isNum w)
 ·by_cases hg:W.getD 0 default = groundW
  ·rw [stepP_ground hW hg hk.2] at h
   split at h
   ·rename_i hl
    cases h
    exact hp.ground (pl4 (nums_of hk.2 hl))
   ·cases h
  ·rw [stepP_piece hW hk.1 hg hk.2] at h
   split at h
   ·rename_i hl
    cases h
    exact hp.piece (pl3 (nums_of hk.2 hl) _)
   ·cases h
 ·rw [stepP_bad hW hk] at h;cases h
theorem preL_plain (m:List (List UInt8)):∀ (i:Nat) (st:PS),i<=m.length->preL m i = some st->PlainP st/\nrows st = i
 | 0,st,_,h => by
  rw [preL_zero] at h
  cases h
  exact ⟨⟨by simp,by simp⟩,rfl⟩
 | i + 1,st,hi,h => by
  rw [preL_succ m (by omega)] at h
  cases hp:preL m i with
  | none => rw [hp] at h;cases h
  | some s0 =>
   rw [hp] at h
   have ⟨h1,h2⟩:=preL_plain m i s0 (by omega) hp
   have ⟨h3,h4⟩:=stepP_plain (show stepP s0 _ = some st from h) h1
   exact ⟨h3,by omega⟩
theorem mkS_plain {W:List (List UInt8)} {st:PS} (hn:nums (W.drop 1) 4) (hp:PlainP st):(mkS W st).plain:=⟨pl4 hn,hp.g,hp.p⟩
section
variable {t : List UInt8} {rows W : List (List UInt8)}
theorem parse_few (hr:splitL t [10] = rows) (h:¬ 3<=rows.length):parseP t = none:=by
 subst hr;unfold parseP;dsimp only;rw [if_neg (fun q => h q.1)]
theorem parse_head (hr:splitL t [10] = rows) (hW:splitL (rows.getD 0 default) [32] = W) (h:¬ (isKind (W.getD 0 default)/\nums (W.drop 1) 4)):parseP t = none:=by
 subst hr;subst hW;unfold parseP;dsimp only;rw [if_neg (fun q => h q.2)]
theorem parse_line (hr:splitL t [10] = rows) (h:preL (midL rows) (midL rows).length = none):parseP t = none:=by
 subst hr;unfold parseP;dsimp only;split
 ·rw [h]
 ·rfl
theorem parse_all (hr:splitL t [10] = rows) (hW:splitL (rows.getD 0 default) [32] = W) (h3:3<=rows.length) (hk:isKind (W.getD 0 default)) (h4:nums (W.drop 1) 4) {st:PS} (h:preL (midL rows) (midL rows).length = some st) :
  parseP t = if sealedL (rowsOf (mkS W st)) = t then some (mkS W st) else none:=by
 subst hr;subst hW;unfold parseP;dsimp only;rw [if_pos ⟨h3,hk,h4⟩,h]
end
end Go.Proofs.Leaf
namespace Go.Proofs.Leaf
open Go Go.RX Go.Proofs
set_option maxRecDepth 10000
abbrev RS:=List Int×PS
structure PlainR (st:RS):Prop where
 hl:st.1.length = 4
 hn:∀ n∈st.1,pl n
 st:PlainP st.2
section
variable {i : Nat} {st : RS} {r : List UInt8} {V : List (List UInt8)}
end
end Go.Proofs.Leaf
namespace Go.Proofs
open Go.Shelf
def Tryz.lays156_ren:Go.Shelf.Ren:=⟨fun | 156 => 148 | 165 => 155 | 166 => 156 | 169 => 157 | 240 => 163 | 241 => 164 | 276 => 174 | 277 => 175 | n => n,fun | 31 => 131 | 9 => 9 | 3 => 3 | 4 => 4 | 0 => 0 | 20 => 20 | 72 => 193 | 76 => 196 | 70 => 191 | 37 => 182 | 75 => 195 | 127 => 204 | 164 => 212 | 5 => 5 | 80 => 198 | n => n,fun | n => n⟩
theorem Tryz.lays156:Go.Proofs.Lays.n156 Tryz.prog Tryz.lays156_ren:={
 mixed:=by kernel_rfl
 f156:=Tryz.func148.trans (congrArg some (by kernel_rfl))
 f165:=Tryz.func155.trans (congrArg some (by kernel_rfl))
 f166:=Tryz.func156.trans (congrArg some (by kernel_rfl))
 f169:=Tryz.func157.trans (congrArg some (by kernel_rfl))
 f240:=Tryz.func163.trans (congrArg some (by kernel_rfl))
 f241:=Tryz.func164.trans (congrArg some (by kernel_rfl))
 f276:=Tryz.func174.trans (congrArg some (by kernel_rfl))
 f277:=Tryz.func175.trans (congrArg some (by kernel_rfl))
 t0:=Tryz.underlying0
 a0:=Tryz.isAgg0
 z0:=Tryz.sizeOf0
 v0:=Tryz.zeroValue0
 t3:=Tryz.underlying3
 a3:=Tryz.isAgg3
 z3:=Tryz.sizeOf3
 v3:=Tryz.zeroValue3
 t4:=Tryz.underlying4
 a4:=Tryz.isAgg4
 z4:=Tryz.sizeOf4
 v4:=Tryz.zeroValue4
 t9:=Tryz.underlying9
 a9:=Tryz.isAgg9
 z9:=Tryz.sizeOf9
 v9:=Tryz.zeroValue9
 t20:=Tryz.underlying20
 a20:=Tryz.isAgg20
 z20:=Tryz.sizeOf20
 v20:=Tryz.zeroValue20
 t31:=Tryz.underlying131
 a31:=Tryz.isAgg131
 z31:=Tryz.sizeOf131
 v31:=Tryz.zeroValue131
 t37:=Tryz.underlying182
 a37:=Tryz.isAgg182
 z37:=Tryz.sizeOf182
 v37:=Tryz.zeroValue182
 t70:=Tryz.underlying191
 a70:=Tryz.isAgg191
 z70:=Tryz.sizeOf191
 v70:=Tryz.zeroValue191
 t72:=Tryz.underlying193
 a72:=Tryz.isAgg193
 z72:=Tryz.sizeOf193
 v72:=Tryz.zeroValue193
 t75:=Tryz.underlying195
 a75:=Tryz.isAgg195
 z75:=Tryz.sizeOf195
 v75:=Tryz.zeroValue195
 t76:=Tryz.underlying196
 a76:=Tryz.isAgg196
 z76:=Tryz.sizeOf196
 v76:=Tryz.zeroValue196
 t127:=Tryz.underlying204
 a127:=Tryz.isAgg204
 z127:=Tryz.sizeOf204
 v127:=Tryz.zeroValue204
 t164:=Tryz.underlying212
 a164:=Tryz.isAgg212
 z164:=Tryz.sizeOf212
 v164:=Tryz.zeroValue212 }
theorem Tryz.Builder_Extra_156:Builder.Extra Tryz.prog Tryz.lays156_ren:={
 sizeBuilder:=by kernel_rfl
 liesBuilder:=by kernel_rfl
 t5:=Tryz.underlying5
 a5:=Tryz.isAgg5
 z5:=Tryz.sizeOf5
 v5:=Tryz.zeroValue5
 infoByte:=by kernel_rfl
 cellsByte:=by kernel_rfl
 sizeByte:=by kernel_rfl
 neB5:=by decide }
open Go.RowKit in
theorem Tryz.strings_Join (bk o c:Nat) (xs:List ByteArray) (sep:ByteArray) (w:World) (hcells:∀ (j:Nat) x,xs[j]? = some x->w.cell? ⟨bk,o + j,none⟩ = some (.string x)) (hbk:bk < w.heap.size) (hN:xs.length<=140737488355328) (hcap:xs.length<=c) (hlen:(Lib.join (xs.map (·.data.toList)) sep.data.toList).length<=140737488355328) :
  Calls Tryz.prog 148 #[.slice (some ⟨bk,o,none⟩) xs.length c,.string sep] w fun e w' => e = .returned (.string ⟨(Lib.join (xs.map (·.data.toList)) sep.data.toList).toArray⟩)/\Below w.heap.size w w':=Any.strings_Join Tryz.lays156 Tryz.Builder_Extra_156 bk o c xs sep w hcells hbk hN hcap hlen
def Tryz.laysM171_ren:Go.Shelf.Ren:=⟨fun | 171 => 146 | 243 => 154 | 246 => 162 | 283 => 170 | 284 => 171 | 285 => 172 | 286 => 173 | 129 => 179 | 317 => 178 | 318 => 180 | 319 => 181 | 320 => 182 | 337 => 183 | 338 => 184 | n => n,fun | 3 => 3 | 9 => 9 | 2 => 2 | 4 => 4 | 171 => 206 | 0 => 0 | 53 => 207 | 37 => 182 | 5 => 5 | 173 => 210 | 212 => 223 | 51 => 219 | 20 => 20 | 213 => 224 | 46 => 205 | 232 => 227 | 233 => 228 | n => n,fun | 17 => 3 | 18 => 4 | 19 => 5 | n => n⟩
theorem Tryz.laysM171:Go.Proofs.LaysM.n171 Tryz.prog Tryz.laysM171_ren:={
 mixed:=by kernel_rfl
 f129:=Tryz.func179.trans (congrArg some (by kernel_rfl))
 f171:=Tryz.func146.trans (congrArg some (by kernel_rfl))
 f243:=Tryz.func154.trans (congrArg some (by kernel_rfl))
 f246:=Tryz.func162.trans (congrArg some (by kernel_rfl))
 f283:=Tryz.func170.trans (congrArg some (by kernel_rfl))
 f284:=Tryz.func171.trans (congrArg some (by kernel_rfl))
 f285:=Tryz.func172.trans (congrArg some (by kernel_rfl))
 f286:=Tryz.func173.trans (congrArg some (by kernel_rfl))
 f317:=Tryz.func178.trans (congrArg some (by kernel_rfl))
 f318:=Tryz.func180.trans (congrArg some (by kernel_rfl))
 f319:=Tryz.func181.trans (congrArg some (by kernel_rfl))
 f320:=Tryz.func182.trans (congrArg some (by kernel_rfl))
 f337:=Tryz.func183.trans (congrArg some (by kernel_rfl))
 f338:=Tryz.func184.trans (congrArg some (by kernel_rfl))
 t0:=Tryz.underlying0
 a0:=Tryz.isAgg0
 z0:=Tryz.sizeOf0
 v0:=Tryz.zeroValue0
 t2:=Tryz.underlying2
 a2:=Tryz.isAgg2
 z2:=Tryz.sizeOf2
 v2:=Tryz.zeroValue2
 t3:=Tryz.underlying3
 a3:=Tryz.isAgg3
 z3:=Tryz.sizeOf3
 v3:=Tryz.zeroValue3
 t4:=Tryz.underlying4
 a4:=Tryz.isAgg4
 z4:=Tryz.sizeOf4
 v4:=Tryz.zeroValue4
 t5:=Tryz.underlying5
 a5:=Tryz.isAgg5
 z5:=Tryz.sizeOf5
 v5:=Tryz.zeroValue5
 t9:=Tryz.underlying9
 a9:=Tryz.isAgg9
 z9:=Tryz.sizeOf9
 v9:=Tryz.zeroValue9
 t20:=Tryz.underlying20
 a20:=Tryz.isAgg20
 z20:=Tryz.sizeOf20
 v20:=Tryz.zeroValue20
 t37:=Tryz.underlying182
 a37:=Tryz.isAgg182
 z37:=Tryz.sizeOf182
 v37:=Tryz.zeroValue182
 t46:=Tryz.underlying205
 a46:=Tryz.isAgg205
 z46:=Tryz.sizeOf205
 v46:=Tryz.zeroValue205
 t51:=Tryz.underlying219
 a51:=Tryz.isAgg219
 z51:=Tryz.sizeOf219
 v51:=Tryz.zeroValue219
 t53:=Tryz.underlying207
 a53:=Tryz.isAgg207
 z53:=Tryz.sizeOf207
 v53:=Tryz.zeroValue207
 t171:=Tryz.underlying206
 a171:=Tryz.isAgg206
 z171:=Tryz.sizeOf206
 v171:=Tryz.zeroValue206
 t173:=Tryz.underlying210
 a173:=Tryz.isAgg210
 z173:=Tryz.sizeOf210
 v173:=Tryz.zeroValue210
 t212:=Tryz.underlying223
 a212:=Tryz.isAgg223
 z212:=Tryz.sizeOf223
 v212:=Tryz.zeroValue223
 t213:=Tryz.underlying224
 a213:=Tryz.isAgg224
 z213:=Tryz.sizeOf224
 t232:=Tryz.underlying227
 a232:=Tryz.isAgg227
 z232:=Tryz.sizeOf227
 v232:=Tryz.zeroValue227
 t233:=Tryz.underlying228
 a233:=Tryz.isAgg228
 z233:=Tryz.sizeOf228
 v233:=Tryz.zeroValue228
 g17:=by kernel_rfl
 g18:=by kernel_rfl
 g19:=by kernel_rfl
 i0:=by kernel_rfl
 i2:=by kernel_rfl
 i3:=by kernel_rfl
 i4:=by kernel_rfl
 i5:=by kernel_rfl
 i9:=by kernel_rfl
 i20:=by kernel_rfl
 i37:=by kernel_rfl
 i46:=by kernel_rfl
 i51:=by kernel_rfl
 i53:=by kernel_rfl
 i171:=by kernel_rfl
 i173:=by kernel_rfl
 i212:=by kernel_rfl
 i232:=by kernel_rfl
 i233:=by kernel_rfl
 m17:=by kernel_rfl
 m18:=by kernel_rfl
 m19:=by kernel_rfl }
open Go.RowKit Go.Sort Go.Lib in
theorem Tryz.strconv_Itoa (n:Int) (h0:-9223372036854775808<=n) (h1:n<=9223372036854775807) (w:World) (htab:Lib.TabIs Tryz.prog w "internal/strconv.uint64pow10" .u64 Lib.pow10Tab) :
  Calls Tryz.prog 146 #[.int .i64 n] w fun e w' => e = .returned (.string ⟨(Lib.itoa n).toArray⟩)/\∃ k os,w' = grow (w.drewN k) os:=Any.strconv_Itoa Tryz.laysM171 n h0 h1 w htab
def Tryz.lays146_ren:Go.Shelf.Ren:=⟨fun | 146 => 126 | 221 => 143 | 268 => 151 | 138 => 152 | 143 => 153 | 195 => 158 | 197 => 159 | 218 => 160 | 219 => 161 | 260 => 165 | 217 => 166 | 225 => 167 | 224 => 168 | 267 => 169 | 266 => 176 | 314 => 177 | n => n,fun | 9 => 9 | 31 => 131 | 3 => 3 | 4 => 4 | 0 => 0 | 105 => 200 | 21 => 21 | 5 => 5 | 46 => 205 | 119 => 215 | 139 => 218 | 138 => 217 | 146 => 220 | 51 => 219 | n => n,fun | 1 => 0 | 3 => 1 | 4 => 2 | n => n⟩
theorem Tryz.lays146:Go.Proofs.Lays.n146 Tryz.prog Tryz.lays146_ren:={
 mixed:=by kernel_rfl
 f138:=Tryz.func152.trans (congrArg some (by kernel_rfl))
 f143:=Tryz.func153.trans (congrArg some (by kernel_rfl))
 f146:=Tryz.func126.trans (congrArg some (by kernel_rfl))
 f195:=Tryz.func158.trans (congrArg some (by kernel_rfl))
 f197:=Tryz.func159.trans (congrArg some (by kernel_rfl))
 f217:=Tryz.func166.trans (congrArg some (by kernel_rfl))
 f218:=Tryz.func160.trans (congrArg some (by kernel_rfl))
 f219:=Tryz.func161.trans (congrArg some (by kernel_rfl))
 f221:=Tryz.func143.trans (congrArg some (by kernel_rfl))
 f224:=Tryz.func168.trans (congrArg some (by kernel_rfl))
 f225:=Tryz.func167.trans (congrArg some (by kernel_rfl))
 f260:=Tryz.func165.trans (congrArg some (by kernel_rfl))
 f266:=Tryz.func176.trans (congrArg some (by kernel_rfl))
 f267:=Tryz.func169.trans (congrArg some (by kernel_rfl))
 f268:=Tryz.func151.trans (congrArg some (by kernel_rfl))
 f314:=Tryz.func177.trans (congrArg some (by kernel_rfl))
 t0:=Tryz.underlying0
 a0:=Tryz.isAgg0
 z0:=Tryz.sizeOf0
 v0:=Tryz.zeroValue0
 t3:=Tryz.underlying3
 a3:=Tryz.isAgg3
 z3:=Tryz.sizeOf3
 v3:=Tryz.zeroValue3
 t4:=Tryz.underlying4
 a4:=Tryz.isAgg4
 z4:=Tryz.sizeOf4
 v4:=Tryz.zeroValue4
 t5:=Tryz.underlying5
 a5:=Tryz.isAgg5
 z5:=Tryz.sizeOf5
 v5:=Tryz.zeroValue5
 t9:=Tryz.underlying9
 a9:=Tryz.isAgg9
 z9:=Tryz.sizeOf9
 v9:=Tryz.zeroValue9
 t21:=Tryz.underlying21
 a21:=Tryz.isAgg21
 z21:=Tryz.sizeOf21
 v21:=Tryz.zeroValue21
 t31:=Tryz.underlying131
 a31:=Tryz.isAgg131
 z31:=Tryz.sizeOf131
 v31:=Tryz.zeroValue131
 t46:=Tryz.underlying205
 a46:=Tryz.isAgg205
 z46:=Tryz.sizeOf205
 v46:=Tryz.zeroValue205
 t51:=Tryz.underlying219
 a51:=Tryz.isAgg219
 z51:=Tryz.sizeOf219
 v51:=Tryz.zeroValue219
 t105:=Tryz.underlying200
 a105:=Tryz.isAgg200
 z105:=Tryz.sizeOf200
 v105:=Tryz.zeroValue200
 t119:=Tryz.underlying215
 a119:=Tryz.isAgg215
 z119:=Tryz.sizeOf215
 t138:=Tryz.underlying217
 a138:=Tryz.isAgg217
 z138:=Tryz.sizeOf217
 v138:=Tryz.zeroValue217
 t139:=Tryz.underlying218
 a139:=Tryz.isAgg218
 z139:=Tryz.sizeOf218
 v139:=Tryz.zeroValue218
 t146:=Tryz.underlying220
 a146:=Tryz.isAgg220
 z146:=Tryz.sizeOf220
 v146:=Tryz.zeroValue220
 g1:=by kernel_rfl
 g3:=by kernel_rfl
 g4:=by kernel_rfl }
open Go.RowKit Go.Lib in
theorem Tryz.strings_Split (s sep:ByteArray) (m:Int) (w:World) (hs:s.size < 4294967281) (hm:w.cell? ⟨0,0,none⟩ = some (.int .i64 m)) (h1:1<=sep.size) :
  Calls Tryz.prog 126 #[.string s,.string sep] w fun e w' =>
   e = .returned (.slice (some ⟨w.heap.size,0,none⟩) (Lib.countB s sep + 1) (Lib.countB s sep + 1))/\w' = w.alloc (.cells ((Lib.splitB sep 0 (Lib.countB s sep) s).map Value.string).toArray 9):=Any.strings_Split Tryz.lays146 (by kernel_rfl) s sep m w hs hm h1
end Go.Proofs
namespace Go.Proofs.Leaf
open Go Go.RX Go.Proofs Go.RowKit
set_option maxRecDepth 10000
def Tabs (w:World):Prop:=Lib.TabIs Tryz.prog w "internal/strconv.uint64pow10" .u64 Lib.pow10Tab/\∃ m,w.cell? ⟨0,0,none⟩ = some (.int .i64 m)
theorem Tabs.lo (w:World) (h:Tabs w):4<=w.heap.size:=by
 obtain ⟨h1,m,h2⟩:=h
 have hg0:Tryz.prog.globalNamed "internal/strconv.uint64pow10" = some 3:=by kernel_rfl
 have q1:0 < w.heap.size:=by
  rcases Nat.lt_or_ge 0 w.heap.size with h | h
  ·exact h
  ·unfold World.cell? at h2
   rw [Array.getElem?_eq_none h] at h2;cases h2
 have q2:3 < w.heap.size:=by
  rcases Nat.lt_or_ge 3 w.heap.size with h | h
  ·exact h
  ·unfold Lib.TabIs World.var? at h1
   rw [hg0] at h1
   simp only [Option.bind_some] at h1
   rw [Array.getElem?_eq_none h] at h1;cases h1
 omega
theorem Tabs.st (w w':World) (h:Tabs w) (hb:Go.RowKit.Below 4 w w'):Tabs w':=by
 obtain ⟨h1,m,h2⟩:=h
 have hg0:Tryz.prog.globalNamed "internal/strconv.uint64pow10" = some 3:=by kernel_rfl
 refine ⟨?_,m,?_⟩
 ·unfold Lib.TabIs World.var? at h1 ⊢
  rw [hg0] at h1 ⊢
  simp only [Option.bind_some] at h1 ⊢
  rw [hb.block 3 (by decide)];exact h1
 ·unfold World.cell? at h2 ⊢
  rw [hb.block 0 (by decide)];exact h2
abbrev gT:Glob:={ G:=Tabs,M:=none,F:=4,lo:=Tabs.lo,st:=Tabs.st,mF:=fun m e => by cases e }
section
instance inst_gT_2:Glob:=gT
theorem str_val {I:Nat->Prop} {w:World} {v:Value} {l:List UInt8} (h:RepS I w v (.d (.str l))):v = .string ⟨l.toArray⟩:=by
 have h:=mt_d (h (fun _ => none))
 cases h with
 | @str s l h =>
  obtain ⟨⟨d⟩⟩:=s
  simp at h;subst h;rfl
theorem rep_str' (I:Nat->Prop) (w:World) (l:List UInt8):Rep I w (.string ⟨l.toArray⟩) (.str l):=.str rfl
theorem keepT {n:Nat} {w w':World} (h:Below n w w') (hn:4<=n):Keep n w w':=Keep.of hn h
theorem c_Itoa (n:Int) (h0:-9223372036854775808<=n) (h1:n<=9223372036854775807):Ctr Tryz.prog 146 [iS n] (.d (.str (Lib.itoa n))):=by
 refine ⟨⟨Tryz.f146,Tryz.func146,rfl,rfl⟩,fun I w vs hG hI _ hsz hrep => ?_⟩
 obtain ⟨v0,rfl⟩:∃ v0,vs = #[v0]:=Array.size_eq_one_iff.1 hsz
 have h:=mt_d (hrep 0 v0 _ rfl rfl (fun _ => none))
 obtain rfl:v0 = .int .i64 n:=by cases h;rfl
 refine (Tryz.strconv_Itoa n h0 h1 w hG.1).mono ?_
 rintro e w' ⟨rfl,k,os,rfl⟩
 exact ⟨_,rfl,fun Y => .d (rep_str' _ _ _),keepT (Lib.below_grow _ w (Nat.le_refl _) k os) (Tabs.lo w hG)⟩
theorem c_Split (s sep:List UInt8) (hs:s.length < 4294967281) (h1:1<=sep.length):Ctr Tryz.prog 126 [.d (.str s),.d (.str sep)] (.d (strsD (splitL s sep))):=by
 refine ⟨⟨Tryz.f126,Tryz.func126,rfl,rfl⟩,fun I w vs hG hI _ hsz hrep => ?_⟩
 obtain ⟨v0,v1,rfl⟩:=arr2 hsz
 obtain rfl:=str_val (hrep 0 v0 _ rfl rfl)
 obtain rfl:=str_val (hrep 1 v1 _ rfl rfl)
 have hlo:=Tabs.lo w hG
 obtain ⟨_,m,hm⟩:=hG
 have hlen:=Lib.splitB_all ⟨sep.toArray⟩ h1 0 _ ⟨s.toArray⟩ rfl
 have hcnt:=Lib.countB_le ⟨sep.toArray⟩ h1 _ ⟨s.toArray⟩ (Nat.le_refl _)
 have hss:(⟨s.toArray⟩:ByteArray).size = s.length:=rfl
 refine (Tryz.strings_Split ⟨s.toArray⟩ ⟨sep.toArray⟩ m w hs hm h1).mono ?_
 rintro e w' ⟨rfl,rfl⟩
 refine ⟨_,rfl,fun Y => .d ?_,keepT ((Below.refl _ w).alloc (Nat.le_refl _) _) hlo⟩
 have hl:(splitL s sep).length = Lib.countB ⟨s.toArray⟩ ⟨sep.toArray⟩ + 1:=by
  rw [splitL,List.length_map,hlen]
 show Rep _ _ _ (.sl 1 (splitL s sep).length _)
 rw [hl]
 refine .sl (fun i j => .string ⟨((splitL s sep).getD i default).toArray⟩) (.inr ⟨Nat.le_refl _,by simp⟩) (Nat.le_refl _) ?_ (fun i j hi hj => ?_) (fun i j hi hj => ?_)
 ·unfold maxLen;omega
 ·have:j = 0:=by omega
  subst this
  have hi':i < (Lib.splitB ⟨sep.toArray⟩ 0 (Lib.countB ⟨s.toArray⟩ ⟨sep.toArray⟩) ⟨s.toArray⟩).length:=by rw [hlen];exact hi
  rw [cell_at (al_new _ rfl)]
  simp only [splitL,List.getD_eq_getElem?_getD,List.getElem?_map,Nat.zero_add,Nat.mul_one,Nat.add_zero,List.getElem?_toArray,List.getElem?_eq_getElem hi',Option.map_some,Option.getD_some]
 ·have:j = 0:=by omega
  subst this
  exact rep_str' _ _ _
theorem c_Join (l:List (List UInt8)) (sep:List UInt8) (hN:l.length<=100000) (hlen:(Lib.join l sep).length<=140737488355328) (h1:1<=l.length):Ctr Tryz.prog 148 [.d (strsD l),.d (.str sep)] (.d (.str (Lib.join l sep))):=by
 refine ⟨⟨Tryz.f148,Tryz.func148,rfl,rfl⟩,fun I w vs hG hI _ hsz hrep => ?_⟩
 obtain ⟨v0,v1,rfl⟩:=arr2 hsz
 obtain rfl:=str_val (hrep 1 v1 _ rfl rfl)
 have h0:=mt_d (hrep 0 v0 _ rfl rfl (fun _ => none))
 have hx:(l.map (fun s => (⟨s.toArray⟩:ByteArray))).map (·.data.toList) = l:=by simp [List.map_map,Function.comp_def]
 change Rep _ _ _ (.sl 1 l.length (fun i => strD (l.getD i default))) at h0
 generalize hn:l.length = n at h0
 cases h0 with
 | sl0 => omega
 | sl1 => omega
 | @sl b o _ cap _ _ us hIb hc hcap hcell hrep' =>
  subst hn
  have h:=Tryz.strings_Join b o cap (l.map (fun s => (⟨s.toArray⟩:ByteArray))) ⟨sep.toArray⟩ w (fun j x hj => by
   simp only [List.getElem?_map,Option.map_eq_some_iff] at hj
   obtain ⟨s,hs,rfl⟩:=hj
   obtain ⟨hj',hs'⟩:=List.getElem?_eq_some_iff.1 hs
   have c1:=hcell j 0 hj' (by omega)
   have c2:=hrep' j 0 hj' (by omega)
   have e:l.getD j default = s:=by rw [getD_lt hj',hs']
   dsimp only at c2
   rw [e] at c2
   have c3:=str_val (I:=I) (w:=w) (l:=s) (fun Y => .d c2)
   rw [c3] at c1
   simpa using c1) (hI b hIb) (by simpa using Nat.le_trans hN (by decide)) (by simpa using hc) (by rw [hx];exact hlen)
  rw [List.length_map,hx] at h
  refine h.mono ?_
  rintro e w' ⟨rfl,hB⟩
  exact ⟨_,rfl,fun Y => .d (rep_str' _ _ _),keepT hB (Tabs.lo w hG)⟩
end
end Go.Proofs.Leaf
namespace Go.Proofs.Leaf
open Go Go.RX Go.Proofs
set_option maxRecDepth 10000
variable [Glob]
theorem bysT_row:bysT Tryz.prog 182 = true:=by kernel_rfl
attribute [go_sem] bysT_row
theorem byt_p {x:Int} (h0:0<=x) (h1:x < 256):∀ i,i < 1->dget [.int .u8 x] (i * 1) = .int .u8 (byt (dget [.int .u8 x] (i * 1))).toNat:=by
 intro i hi
 have:i = 0:=by omega
 subst this
 show DV.int .u8 x = .int .u8 (UInt8.ofNat x.toNat).toNat
 rw [UInt8.toNat_ofNat',Nat.mod_eq_of_lt (by omega)]
 congr 1
 omega
theorem byt_s (x:Int) (m:Nat) (h:x = m):List.map (fun i => byt (dget [DV.int .u8 x] (i * 1))) (List.range 0 ++ [0]) = [UInt8.ofNat m]:=by
 subst h
 rfl
theorem c_tDecimal:∀ n:Nat,n < 1000000->Ctr Tryz.prog 130 [iS n] (.d (.str (Lib.decDigits n))):=by
 intro n
 induction n using Nat.strongRecOn with
 | _ n ih =>
 intro hn
 (refine Ctr.mk (fn:=Tryz.f130) rfl rfl rfl rfl rfl Tryz.results130 ?_;intro _;dsimp only [args,List.toList_toArray])
 (first|refine qE ?_|refine qD ?_);(simp only [go_sem,↓dP,↓reduceIte];with_reducible and_intros;all_goals first|apply qA|exact qC|skip)
 refine Ok.seq ?_
 (first|refine qE ?_|refine qD ?_);(simp only [go_sem,↓dP,↓reduceIte];with_reducible and_intros;all_goals first|apply qA|exact qC|skip)
 refine Ok.cond rfl (fun hb => by simp at hb;omega) (fun _ => ?_)
 (refine Ok.skip ?_;(try dsimp only [thenK,blockK,noGotoK]))
 refine Ok.seq ?_
 (first|refine qE ?_|refine qD ?_);(simp only [go_sem,↓dP,↓reduceIte];with_reducible and_intros;all_goals first|apply qA|exact qC|skip)
 refine Ok.cond rfl (fun hb => by simp at hb;omega) (fun _ => ?_)
 (refine Ok.skip ?_;(try dsimp only [thenK,blockK,noGotoK]))
 refine Ok.seq ?_
 (first|refine qE ?_|refine qD ?_);(simp only [go_sem,↓dP,↓reduceIte];with_reducible and_intros;all_goals first|apply qA|exact qC|skip)
 refine Ok.cond rfl ?_ ?_
 ·intro hb
  have hb':n < 10:=by simp at hb;omega
  (first|refine qE ?_|refine qD ?_);(simp only [go_sem,↓dP,↓reduceIte];with_reducible and_intros;all_goals first|apply qA|exact qC|skip)
  ·exact R8 (by omega) (by omega)
  ·exact byt_p (by omega) (by omega)
  (refine Ok.ret ?_;(try dsimp only [thenK,blockK,noGotoK]);simp only [toList_mk,List.toList_toArray,retK_ret,retK_normal,resOK,resV,celV,rowV,frzAll,frzT,subV,subL,go_sem,↓dP,↓reduceIte])
  refine DEq.str ?_
  rw [byt_s _ (48 + n) (by omega),Lib.decDigits,dif_pos hb']
 ·intro hb
  have hb':¬ n < 10:=by simp at hb;omega
  (refine Ok.skip ?_;(try dsimp only [thenK,blockK,noGotoK]))
  (first|refine qE ?_|refine qD ?_);(simp only [go_sem,↓dP,↓reduceIte];with_reducible and_intros;all_goals first|apply qA|exact qC|skip)
  ·rw [tdivN];exact R64 (by omega) (by omega)
  rw [tdivN]
  (refine AskI.ret (ih (n / 10) (by omega) (by omega)) ?_;simp only [go_sem,↓dP,↓reduceIte];with_reducible and_intros;all_goals first|apply qA|exact qC|skip)
  ·rw [tmodN];exact R64 (by omega) (by omega)
  ·rw [tmodN];exact R8 (by omega) (by omega)
  ·rw [tmodN];exact byt_p (by omega) (by omega)
  ·rw [tmodN,byt_s _ (48 + n % 10) (by omega)]
   have:=decLen (n / 10) (by omega)
   simp only [strRoom,List.length_cons,List.length_nil]
   omega
  (refine Ok.ret ?_;(try dsimp only [thenK,blockK,noGotoK]);simp only [toList_mk,List.toList_toArray,retK_ret,retK_normal,resOK,resV,celV,rowV,frzAll,frzT,subV,subL,go_sem,↓dP,↓reduceIte])
  refine DEq.str ?_
  rw [tmodN,byt_s _ (48 + n % 10) (by omega)]
  conv => rhs;rw [Lib.decDigits,dif_neg hb']
theorem c_tRow (w:List UInt8) (ns:List Int) (hns:∀ n∈ns,0<=n/\n < 1000000) (hw:w.length<=1000) (hl:ns.length<=1000):Ctr Tryz.prog 100 [.d (.str w),.d (slD 1 intD ns)] (.d (.str (rowL w ns))):=by
 (refine Ctr.mk (fn:=Tryz.f100) rfl rfl rfl rfl rfl Tryz.results100 ?_;intro _;dsimp only [args,List.toList_toArray])
 (first|refine qE ?_|refine qD ?_);(simp only [go_sem,↓dP,↓reduceIte];with_reducible and_intros;all_goals first|apply qA|exact qC|skip)
 refine Ok.seq ?_
 (first|refine qE ?_|refine qD ?_);(simp only [go_sem,↓dP,↓reduceIte];with_reducible and_intros;all_goals first|apply qA|exact qC|skip)
 refine Ok.block ?_
 refine Ok.count ns.length (fun i => ⟨[(0,.d (.str (rowL w (ns.take i)))),(1,.d (slD 1 intD ns)),(5,iS i)],[],[]⟩) (fun _ => True) ⟨trivial,?_⟩ ?_ ?_
 ·(refine Sub.of ([]) ([]) ?_ ?_ ?_ rfl rfl<;>simp only [subB,subB1,subT,subT1,newT,subE,subV,subL,go_sem,↓dP,↓reduceIte]<;>(try (repeat' with_reducible apply And.intro))<;>(try first | exact DEq.refl _ | refine DEq.int ?_ | refine DEq.bool ?_ | omega))
  refine DEq.str ?_
  rw [rowL_nil]
 ·intro i hi _
  have hb:=hns _ (getD_mem hi)
  have hlen:=rowL_len w (ns.take i) (fun x hx => hns x (List.mem_of_mem_take hx))
  have hti:(ns.take i).length = i:=by simp;omega
  have hil:=itoaLen _ hb.1 hb.2
  have hsn:rowL w (ns.take (i + 1)) = rowL w (ns.take i) ++ [32] ++ Lib.itoa (ns.getD i default):=by rw [getD_take hi,rowL_snoc]
  obtain ⟨m,hm⟩:∃ m:Nat,ns.getD i default = m:=⟨(ns.getD i default).toNat,by omega⟩
  rw [hm,Lib.itoa_nonneg] at hsn
  rw [hm,Lib.itoa_nonneg] at hil
  rw [hm] at hb
  refine Ok.seq ?_;((first|refine qE ?_|refine qD ?_);(simp only [go_sem,↓dP,↓reduceIte];with_reducible and_intros;all_goals first|apply qA|exact qC|skip));refine Ok.cond rfl (fun _ => ?_) (fun hb => by simp at hb;omega);(refine Ok.skip ?_;(try dsimp only [thenK,blockK,noGotoK]));refine Ok.seq ?_;refine Ok.block ?_
  (first|refine qE ?_|refine qD ?_);(simp only [go_sem,↓dP,↓reduceIte];with_reducible and_intros;all_goals first|apply qA|exact qC|skip)
  ·simp only [strRoom,List.length_cons,List.length_nil];omega
  rw [hm]
  (refine AskI.ret (c_tDecimal m (by omega)) ?_;simp only [go_sem,↓dP,↓reduceIte];with_reducible and_intros;all_goals first|apply qA|exact qC|skip)
  ·simp only [strRoom,List.length_append,List.length_cons,List.length_nil];omega
  (try dsimp only [thenK,blockK,noGotoK])
  (first|refine qE ?_|refine qD ?_);(simp only [go_sem,↓dP,↓reduceIte];with_reducible and_intros;all_goals first|apply qA|exact qC|skip)
  (try dsimp only [thenK,blockK,noGotoK])
  refine ⟨trivial,?_⟩
  (refine Sub.of ([]) ([]) ?_ ?_ ?_ rfl rfl<;>simp only [subB,subB1,subT,subT1,newT,subE,subV,subL,go_sem,↓dP,↓reduceIte]<;>(try (repeat' with_reducible apply And.intro))<;>(try first | exact DEq.refl _ | refine DEq.int ?_ | refine DEq.bool ?_ | omega))
  refine DEq.str ?_
  rw [hsn]
 ·intro _
  refine Ok.seq ?_;((first|refine qE ?_|refine qD ?_);(simp only [go_sem,↓dP,↓reduceIte];with_reducible and_intros;all_goals first|apply qA|exact qC|skip));refine Ok.cond rfl (fun hb => by simp at hb) (fun _ => ?_);(refine Ok.exit ?_;simp only [thenK_exit,blockK_exit,noGotoK_exit,thenK_normal,blockK_normal,noGotoK_normal,↓reduceIte,Nat.reduceEqDiff])
  (first|refine qE ?_|refine qD ?_);(simp only [go_sem,↓dP,↓reduceIte];with_reducible and_intros;all_goals first|apply qA|exact qC|skip)
  (refine Ok.ret ?_;(try dsimp only [thenK,blockK,noGotoK]);simp only [toList_mk,List.toList_toArray,retK_ret,retK_normal,resOK,resV,celV,rowV,frzAll,frzT,subV,subL,go_sem,↓dP,↓reduceIte])
  refine DEq.str ?_
  rw [List.take_length]
theorem c_tSealed (l:List (List UInt8)) (hl:l.length<=1000) (hr:∀ r∈l,r.length<=1000):Ctr Tryz.prog 101 [.d (strsD l),iS 191] (.d (.str (sealedL l))):=by
 (refine Ctr.mk (fn:=Tryz.f101) rfl rfl rfl rfl rfl Tryz.results101 ?_;intro _;dsimp only [args,List.toList_toArray])
 (first|refine qE ?_|refine qD ?_);(simp only [go_sem,↓dP,↓reduceIte];with_reducible and_intros;all_goals first|apply qA|exact qC|skip)
 (first|refine qE ?_|refine qD ?_);(simp only [go_sem,↓dP,↓reduceIte];with_reducible and_intros;all_goals first|apply qA|exact qC|skip)
 refine Ok.seq ?_
 (first|refine qE ?_|refine qD ?_);(simp only [go_sem,↓dP,↓reduceIte];with_reducible and_intros;all_goals first|apply qA|exact qC|skip)
 refine Ok.block ?_
 refine Ok.count l.length (fun i => ⟨[(0,.d (strsD l)),(1,iS 191),(5,.d (.str (flatL (l.take i)))),(6,iS (rowsSum 0 (l.take i):Nat)),(7,iS i)],[],[]⟩) (fun _ => True) ⟨trivial,?_⟩ ?_ ?_
 ·(refine Sub.of ([]) ([]) ?_ ?_ ?_ rfl rfl<;>simp only [subB,subB1,subT,subT1,newT,subE,subV,subL,go_sem,↓dP,↓reduceIte]<;>(try (repeat' with_reducible apply And.intro))<;>(try first | exact DEq.refl _ | refine DEq.int ?_ | refine DEq.bool ?_ | omega))
 ·intro i hi _
  have hlen:=hr _ (getD_mem hi)
  have hti:(l.take i).length = i:=by simp;omega
  have hs1:=rowsSum_le (l.take i) 0 (by omega) (fun x hx => hr x (List.mem_of_mem_take hx))
  have hfl:=flatL_len (l.take i) (fun x hx => hr x (List.mem_of_mem_take hx))
  have hsn:rowsSum 0 (l.take (i + 1)) = rowsSum 0 (l.take i) + rowSum i 0 (l.getD i default):=by
   rw [getD_take hi,rowsSum_snoc,hti,Nat.zero_add]
  have hfn:flatL (l.take (i + 1)) = flatL (l.take i) ++ l.getD i default ++ [10]:=by
   rw [getD_take hi,flatL_snoc]
  refine Ok.seq ?_;((first|refine qE ?_|refine qD ?_);(simp only [go_sem,↓dP,↓reduceIte];with_reducible and_intros;all_goals first|apply qA|exact qC|skip));refine Ok.cond rfl (fun _ => ?_) (fun hb => by simp at hb;omega);(refine Ok.skip ?_;(try dsimp only [thenK,blockK,noGotoK]));refine Ok.seq ?_;refine Ok.block ?_
  refine Ok.seq ?_
  (first|refine qE ?_|refine qD ?_);(simp only [go_sem,↓dP,↓reduceIte];with_reducible and_intros;all_goals first|apply qA|exact qC|skip)
  refine Ok.block ?_
  refine Ok.count (l.getD i default).length (fun k => ⟨[(0,.d (strsD l)),(1,iS 191),(5,.d (.str (flatL (l.take i)))),(6,iS ((rowsSum 0 (l.take i):Nat) + (rowSum i 0 ((l.getD i default).take k):Nat))),(7,iS i),(8,iS k)],[],[]⟩) (fun _ => True) ⟨trivial,?_⟩ ?_ ?_
  ·(refine Sub.of ([]) ([]) ?_ ?_ ?_ rfl rfl<;>simp only [subB,subB1,subT,subT1,newT,subE,subV,subL,go_sem,↓dP,↓reduceIte]<;>(try (repeat' with_reducible apply And.intro))<;>(try first | exact DEq.refl _ | refine DEq.int ?_ | refine DEq.bool ?_ | omega))
  ·intro k hk _
   have htk:((l.getD i default).take k).length = k:=by rw [List.length_take];omega
   have hs2:=rowSum_le i (by omega) ((l.getD i default).take k) 0 (by omega)
   have hrn:rowSum i 0 ((l.getD i default).take (k + 1)) = rowSum i 0 ((l.getD i default).take k) + ((l.getD i default).getD k 0).toNat * (k + 1) * (i + 1):=by
    rw [getD_take hk,rowSum_snoc,htk,Nat.zero_add,getD0]
   have hb:((l.getD i default).getD k 0).toNat<=255:=by have:=((l.getD i default).getD k 0).toNat_lt;omega
   have hk2:(l[i]?.getD default).length = (l.getD i default).length:=by rw [List.getD_eq_getElem?_getD]
   generalize hbb:((l.getD i default).getD k 0).toNat = b at hrn hb
   have e1:=mulB (a:=(b:Int)) (b:=(k:Int) + 1) (A:=255) (B:=1000) (by omega) (by omega) (by omega) (by omega)
   have e2:=mulB (a:=(b:Int) * ((k:Int) + 1)) (b:=(i:Int) + 1) (A:=255000) (B:=1000) (by omega) (by omega) (by omega) (by omega)
   refine Ok.seq ?_;((first|refine qE ?_|refine qD ?_);(simp only [go_sem,↓dP,↓reduceIte];with_reducible and_intros;all_goals first|apply qA|exact qC|skip));refine Ok.cond rfl (fun _ => ?_) (fun hb => by simp at hb;omega);(refine Ok.skip ?_;(try dsimp only [thenK,blockK,noGotoK]));refine Ok.seq ?_;refine Ok.block ?_
   (first|refine qE ?_|refine qD ?_);(simp only [go_sem,↓dP,↓reduceIte];with_reducible and_intros;all_goals first|apply qA|exact qC|skip)
   ·rw [hbb];exact R64 (by omega) (by omega)
   ·rw [hbb];exact R64 (by omega) (by omega)
   ·rw [hbb];exact R64 (by omega) (by omega)
   (try dsimp only [thenK,blockK,noGotoK])
   (first|refine qE ?_|refine qD ?_);(simp only [go_sem,↓dP,↓reduceIte];with_reducible and_intros;all_goals first|apply qA|exact qC|skip)
   (try dsimp only [thenK,blockK,noGotoK])
   refine ⟨trivial,?_⟩
   (refine Sub.of ([]) ([]) ?_ ?_ ?_ rfl rfl<;>simp only [subB,subB1,subT,subT1,newT,subE,subV,subL,go_sem,↓dP,↓reduceIte]<;>(try (repeat' with_reducible apply And.intro))<;>(try first | exact DEq.refl _ | refine DEq.int ?_ | refine DEq.bool ?_ | omega))
   rw [hrn,hbb]
   push_cast
   omega
  ·intro _
   refine Ok.seq ?_;((first|refine qE ?_|refine qD ?_);(simp only [go_sem,↓dP,↓reduceIte];with_reducible and_intros;all_goals first|apply qA|exact qC|skip));refine Ok.cond rfl (fun hb => by simp at hb) (fun _ => ?_);(refine Ok.exit ?_;simp only [thenK_exit,blockK_exit,noGotoK_exit,thenK_normal,blockK_normal,noGotoK_normal,↓reduceIte,Nat.reduceEqDiff])
   (first|refine qE ?_|refine qD ?_);(simp only [go_sem,↓dP,↓reduceIte];with_reducible and_intros;all_goals first|apply qA|exact qC|skip)
   ·simp only [strRoom];omega
   ·simp only [strRoom,List.length_append,List.length_cons,List.length_nil];omega
   (try dsimp only [thenK,blockK,noGotoK])
   (first|refine qE ?_|refine qD ?_);(simp only [go_sem,↓dP,↓reduceIte];with_reducible and_intros;all_goals first|apply qA|exact qC|skip)
   (try dsimp only [thenK,blockK,noGotoK])
   refine ⟨trivial,?_⟩
   (refine Sub.of ([]) ([]) ?_ ?_ ?_ rfl rfl<;>simp only [subB,subB1,subT,subT1,newT,subE,subV,subL,go_sem,↓dP,↓reduceIte]<;>(try (repeat' with_reducible apply And.intro))<;>(try first | exact DEq.refl _ | refine DEq.int ?_ | refine DEq.bool ?_ | omega))
   ·exact DEq.str (by rw [hfn])
   ·rw [hsn,List.take_length]
    push_cast
    omega
 ·intro _
  have hs1:=rowsSum_le l 0 (by omega) hr
  have hfl:=flatL_len l hr
  rw [List.take_length]
  refine Ok.seq ?_;((first|refine qE ?_|refine qD ?_);(simp only [go_sem,↓dP,↓reduceIte];with_reducible and_intros;all_goals first|apply qA|exact qC|skip));refine Ok.cond rfl (fun hb => by simp at hb) (fun _ => ?_);(refine Ok.exit ?_;simp only [thenK_exit,blockK_exit,noGotoK_exit,thenK_normal,blockK_normal,noGotoK_normal,↓reduceIte,Nat.reduceEqDiff])
  (first|refine qE ?_|refine qD ?_);(simp only [go_sem,↓dP,↓reduceIte];with_reducible and_intros;all_goals first|apply qA|exact qC|skip)
  rw [show ((rowsSum 0 l:Nat):Int).tmod 191 = ((rowsSum 0 l % 191:Nat):Int) from by rw [Int.tmod_eq_emod_of_nonneg (by omega)];simp]
  unfold sealedL
  have hc:rowsSum 0 l % 191 < 191:=Nat.mod_lt _ (by decide)
  generalize rowsSum 0 l % 191 = c at hc
  (first|refine qE ?_|refine qD ?_);(simp only [go_sem,↓dP,↓reduceIte];with_reducible and_intros;all_goals first|apply qA|exact qC|skip)
  ·simp only [strRoom,List.length_cons,List.length_nil];omega
  ·rw [tdivC];exact R64 (by omega) (by omega)
  rw [tdivC]
  have l1:=decLen (c / 100) (by omega)
  have l2:=decLen (c / 10 % 10) (by omega)
  have l3:=decLen (c % 10) (by omega)
  (refine AskI.ret (c_tDecimal (c / 100) (by omega)) ?_;simp only [go_sem,↓dP,↓reduceIte];with_reducible and_intros;all_goals first|apply qA|exact qC|skip)
  ·simp only [strRoom,List.length_append,List.length_cons,List.length_nil];omega
  ·rw [tdivN];exact R64 (by omega) (by omega)
  rw [tdivN,tmodN]
  (refine AskI.ret (c_tDecimal (c / 10 % 10) (by omega)) ?_;simp only [go_sem,↓dP,↓reduceIte];with_reducible and_intros;all_goals first|apply qA|exact qC|skip)
  ·simp only [strRoom,List.length_append,List.length_cons,List.length_nil];omega
  rw [tmodN]
  (refine AskI.ret (c_tDecimal (c % 10) (by omega)) ?_;simp only [go_sem,↓dP,↓reduceIte];with_reducible and_intros;all_goals first|apply qA|exact qC|skip)
  ·simp only [strRoom,List.length_append,List.length_cons,List.length_nil];omega
  ·simp only [strRoom,List.length_append,List.length_cons,List.length_nil];omega
  (refine Ok.ret ?_;(try dsimp only [thenK,blockK,noGotoK]);simp only [toList_mk,List.toList_toArray,retK_ret,retK_normal,resOK,resV,celV,rowV,frzAll,frzT,subV,subL,go_sem,↓dP,↓reduceIte])
  refine DEq.str ?_
  simp [endL]
structure Job.small (J:Job):Prop where
 n:∀ n∈J.nums,0<=n/\n < 1000000
 g:∀ g∈J.gs,∀ n∈g.nums,0<=n/\n < 1000000
 p:∀ p∈J.ps,∀ n∈p.nums,0<=n/\n < 1000000
 l:J.gs.length + J.ps.length<=600
theorem Job.plain.small {J:Job} (h:J.plain) (hl:J.gs.length + J.ps.length<=600):J.small:=by
 have e:∀ {n:Int},pl n->0<=n/\n < 1000000:=fun h => ⟨h.1,by have:=h.2;omega⟩
 exact ⟨fun n hn => e (h.n n hn),fun g hg n hn => e (h.g g hg n hn),fun p hp n hn => e (h.p p hp n hn),hl⟩
theorem nums_len (ns:List Int) (h:∀ n∈ns,0<=n/\n < 1000000) (w:List UInt8) (hw:w.length<=20) (hn:ns.length<=6):(rowL w ns).length<=1000:=by
 have:=rowL_len w ns h
 omega
theorem kind_len (b:Bool):(kindW b).length<=20:=by cases b<;>decide
theorem rows_short (J:Job) (hs:J.small):∀ r∈rowsOf J,r.length<=1000:=by
 intro r hr
 simp only [rowsOf,List.mem_cons,List.mem_append,List.mem_map] at hr
 rcases hr with rfl | ⟨g,hg,rfl⟩ | ⟨p,hp,rfl⟩
 ·exact nums_len _ hs.n _ (by decide) (by simp [Job.nums])
 ·exact nums_len _ (hs.g g hg) _ (by decide) (by simp [Ground.nums])
 ·exact nums_len _ (hs.p p hp) _ (kind_len _) (by simp [Piece.nums])
theorem rows_len (J:Job):(rowsOf J).length = 1 + J.gs.length + J.ps.length:=by simp [rowsOf];omega
def rowsG (J:Job) (i:Nat):List (List UInt8):=rowL leafW J.nums :: (J.gs.take i).map groundRow
def rowsK (J:Job) (i:Nat):List (List UInt8):=rowL leafW J.nums :: (J.gs.map groundRow ++ (J.ps.take i).map pieceRow)
theorem rowsG_succ (J:Job) {i:Nat} (h:i < J.gs.length):rowsG J (i + 1) = rowsG J i ++ [groundRow (J.gs.getD i default)]:=by
 simp only [rowsG,getD_take h,List.map_append,List.map_cons,List.map_nil,List.cons_append]
theorem rowsG_all (J:Job):rowsG J J.gs.length = rowsK J 0:=by simp [rowsG,rowsK]
theorem rowsK_succ (J:Job) {i:Nat} (h:i < J.ps.length):rowsK J (i + 1) = rowsK J i ++ [pieceRow (J.ps.getD i default)]:=by
 simp only [rowsK,getD_take h,List.map_append,List.map_cons,List.map_nil,List.cons_append,List.append_assoc]
theorem rowsK_all (J:Job):rowsK J J.ps.length = rowsOf J:=by simp [rowsK,rowsOf]
theorem rowsG_len (J:Job) (i:Nat):(rowsG J i).length<=1 + J.gs.length:=by simp [rowsG];omega
theorem rowsK_len (J:Job) (i:Nat):(rowsK J i).length<=1 + J.gs.length + J.ps.length:=by simp [rowsK];omega
theorem c_row4 (w:List UInt8) (hw:w.length<=1000) (a b c d:Int) (h:∀ n∈[a,b,c,d],0<=n/\n < 1000000) :
  Ctr Tryz.prog 100 [.d (.str w),.d (.sl 1 4 (fun i j => dget [iD a,iD b,iD c,iD d] (i * 1 + j)))] (.d (.str (rowL w [a,b,c,d]))) :=
 (c_tRow w [a,b,c,d] h hw (by simp)).args ⟨.refl _,ints_D [a,b,c,d],trivial⟩
theorem c_row3 (w:List UInt8) (hw:w.length<=1000) (a b c:Int) (h:∀ n∈[a,b,c],0<=n/\n < 1000000) :
  Ctr Tryz.prog 100 [.d (.str w),.d (.sl 1 3 (fun i j => dget [iD a,iD b,iD c] (i * 1 + j)))] (.d (.str (rowL w [a,b,c]))) :=
 (c_tRow w [a,b,c] h hw (by simp)).args ⟨.refl _,ints_D [a,b,c],trivial⟩
theorem str_snoc (x:List UInt8):∀ c,c < 1->dget [DV.str x] c = strD x c:=fun c hc => by
 have:c = 0:=by omega
 subst this;rfl
theorem c_rPrint (J:Job) (hs:J.small):Ctr Tryz.prog 57 [J.sv] (.d (.str (sealedL (rowsOf J)))):=by
 have hl:=hs.l
 (refine Ctr.mk (fn:=Tryz.f57) rfl rfl rfl rfl rfl Tryz.results57 ?_;intro _;dsimp only [args,List.toList_toArray])
 (first|refine qE ?_|refine qD ?_);(simp only [go_sem,↓dP,↓reduceIte];with_reducible and_intros;all_goals first|apply qA|exact qC|skip)
 (first|refine qE ?_|refine qD ?_);(simp only [go_sem,↓dP,↓reduceIte];with_reducible and_intros;all_goals first|apply qA|exact qC|skip)
 (refine AskI.ret (c_row4 leafW (by decide) _ _ _ _ hs.n) ?_;simp only [go_sem,↓dP,↓reduceIte];with_reducible and_intros;all_goals first|apply qA|exact qC|skip)
 refine Ok.seq ?_
 (first|refine qE ?_|refine qD ?_);(simp only [go_sem,↓dP,↓reduceIte];with_reducible and_intros;all_goals first|apply qA|exact qC|skip)
 refine Ok.block ?_
 refine Ok.count J.gs.length (fun i => ⟨[(1,.p 0 0),(3,.tk 0),(4,iS i)],[jobC J],[ownD 9 1 strD (rowsG J i)]⟩) (fun _ => True) ⟨trivial,?_⟩ ?_ ?_
 ·(refine Sub.of ([0]) ([some 0]) ?_ ?_ ?_ rfl rfl<;>simp only [subB,subB1,subT,subT1,newT,subE,subV,subL,go_sem,↓dP,↓reduceIte]<;>(try (repeat' with_reducible apply And.intro))<;>(try first | exact DEq.refl _ | refine DEq.int ?_ | refine DEq.bool ?_ | omega))
  ·rfl
  ·intro i j hi hj
   have h1:i = 0:=by omega
   have h2:j = 0:=by omega
   subst h1;subst h2
   exact .refl _
 ·intro i hi _
  have hx:=hs.g _ (getD_mem hi)
  have hgl:=rowsG_len J i
  refine Ok.seq ?_;((first|refine qE ?_|refine qD ?_);(simp only [go_sem,↓dP,↓reduceIte];with_reducible and_intros;all_goals first|apply qA|exact qC|skip));refine Ok.cond rfl (fun _ => ?_) (fun hb => by simp at hb;omega);(refine Ok.skip ?_;(try dsimp only [thenK,blockK,noGotoK]));refine Ok.seq ?_;refine Ok.block ?_
  (first|refine qE ?_|refine qD ?_);(simp only [go_sem,↓dP,↓reduceIte];with_reducible and_intros;all_goals first|apply qA|exact qC|skip)
  (first|refine qE ?_|refine qD ?_);(simp only [go_sem,↓dP,↓reduceIte];with_reducible and_intros;all_goals first|apply qA|exact qC|skip)
  (refine AskI.ret (c_row4 groundW (by decide) _ _ _ _ hx) ?_;simp only [go_sem,↓dP,↓reduceIte];with_reducible and_intros;all_goals first|apply qA|exact qC|skip)
  (try dsimp only [thenK,blockK,noGotoK])
  (first|refine qE ?_|refine qD ?_);(simp only [go_sem,↓dP,↓reduceIte];with_reducible and_intros;all_goals first|apply qA|exact qC|skip)
  (try dsimp only [thenK,blockK,noGotoK])
  refine ⟨trivial,?_⟩
  (refine Sub.of ([0]) ([some 2]) ?_ ?_ ?_ rfl rfl<;>simp only [subB,subB1,subT,subT1,newT,subE,subV,subL,go_sem,↓dP,↓reduceIte]<;>(try (repeat' with_reducible apply And.intro))<;>(try first | exact DEq.refl _ | refine DEq.int ?_ | refine DEq.bool ?_ | omega))
  ·rw [rowsG_succ J hi];simp
  ·rw [rowsG_succ J hi]
   exact snoc_D (str_snoc _)
 ·intro _
  refine Ok.seq ?_;((first|refine qE ?_|refine qD ?_);(simp only [go_sem,↓dP,↓reduceIte];with_reducible and_intros;all_goals first|apply qA|exact qC|skip));refine Ok.cond rfl (fun hb => by simp at hb) (fun _ => ?_);(refine Ok.exit ?_;simp only [thenK_exit,blockK_exit,noGotoK_exit,thenK_normal,blockK_normal,noGotoK_normal,↓reduceIte,Nat.reduceEqDiff])
  refine Ok.seq ?_
  (first|refine qE ?_|refine qD ?_);(simp only [go_sem,↓dP,↓reduceIte];with_reducible and_intros;all_goals first|apply qA|exact qC|skip)
  refine Ok.block ?_
  refine Ok.count J.ps.length (fun i => ⟨[(1,.p 0 0),(3,.tk 0),(6,iS i)],[jobC J],[ownD 9 1 strD (rowsK J i)]⟩) (fun _ => True) ⟨trivial,?_⟩ ?_ ?_
  ·rw [rowsG_all]
   (refine Sub.of ([0]) ([some 0]) ?_ ?_ ?_ rfl rfl<;>simp only [subB,subB1,subT,subT1,newT,subE,subV,subL,go_sem,↓dP,↓reduceIte]<;>(try (repeat' with_reducible apply And.intro))<;>(try first | exact DEq.refl _ | refine DEq.int ?_ | refine DEq.bool ?_ | omega))
   exact fun _ _ _ _ => DEq.refl _
  ·intro i hi _
   have hx:=hs.p _ (getD_mem hi)
   have hkl:=rowsK_len J i
   refine Ok.seq ?_;((first|refine qE ?_|refine qD ?_);(simp only [go_sem,↓dP,↓reduceIte];with_reducible and_intros;all_goals first|apply qA|exact qC|skip));refine Ok.cond rfl (fun _ => ?_) (fun hb => by simp at hb;omega);(refine Ok.skip ?_;(try dsimp only [thenK,blockK,noGotoK]));refine Ok.seq ?_;refine Ok.block ?_
   (first|refine qE ?_|refine qD ?_);(simp only [go_sem,↓dP,↓reduceIte];with_reducible and_intros;all_goals first|apply qA|exact qC|skip)
   (first|refine qE ?_|refine qD ?_);(simp only [go_sem,↓dP,↓reduceIte];with_reducible and_intros;all_goals first|apply qA|exact qC|skip)
   refine Ok.seq ?_
   (first|refine qE ?_|refine qD ?_);(simp only [go_sem,↓dP,↓reduceIte];with_reducible and_intros;all_goals first|apply qA|exact qC|skip)
   refine Ok.cond rfl ?_ ?_
   ·intro hb
    have hr:pieceRow (J.ps.getD i default) = rowL eitherW (J.ps.getD i default).nums:=by simp only [pieceRow,hb,kindW,if_true]
    (first|refine qE ?_|refine qD ?_);(simp only [go_sem,↓dP,↓reduceIte];with_reducible and_intros;all_goals first|apply qA|exact qC|skip)
    (first|refine qE ?_|refine qD ?_);(simp only [go_sem,↓dP,↓reduceIte];with_reducible and_intros;all_goals first|apply qA|exact qC|skip)
    (refine AskI.ret (c_row3 eitherW (by decide) _ _ _ hx) ?_;simp only [go_sem,↓dP,↓reduceIte];with_reducible and_intros;all_goals first|apply qA|exact qC|skip)
    (try dsimp only [thenK,blockK,noGotoK])
    (first|refine qE ?_|refine qD ?_);(simp only [go_sem,↓dP,↓reduceIte];with_reducible and_intros;all_goals first|apply qA|exact qC|skip)
    (try dsimp only [thenK,blockK,noGotoK])
    refine ⟨trivial,?_⟩
    (refine Sub.of ([0]) ([some 2]) ?_ ?_ ?_ rfl rfl<;>simp only [subB,subB1,subT,subT1,newT,subE,subV,subL,go_sem,↓dP,↓reduceIte]<;>(try (repeat' with_reducible apply And.intro))<;>(try first | exact DEq.refl _ | refine DEq.int ?_ | refine DEq.bool ?_ | omega))
    ·rw [rowsK_succ J hi];simp
    ·rw [rowsK_succ J hi,hr]
     exact snoc_D (str_snoc _)
   ·intro hb
    have hr:pieceRow (J.ps.getD i default) = rowL pieceW (J.ps.getD i default).nums:=by simp only [pieceRow,hb,kindW];rfl
    (refine Ok.skip ?_;(try dsimp only [thenK,blockK,noGotoK]))
    (first|refine qE ?_|refine qD ?_);(simp only [go_sem,↓dP,↓reduceIte];with_reducible and_intros;all_goals first|apply qA|exact qC|skip)
    (refine AskI.ret (c_row3 pieceW (by decide) _ _ _ hx) ?_;simp only [go_sem,↓dP,↓reduceIte];with_reducible and_intros;all_goals first|apply qA|exact qC|skip)
    (try dsimp only [thenK,blockK,noGotoK])
    (first|refine qE ?_|refine qD ?_);(simp only [go_sem,↓dP,↓reduceIte];with_reducible and_intros;all_goals first|apply qA|exact qC|skip)
    (try dsimp only [thenK,blockK,noGotoK])
    refine ⟨trivial,?_⟩
    (refine Sub.of ([0]) ([some 2]) ?_ ?_ ?_ rfl rfl<;>simp only [subB,subB1,subT,subT1,newT,subE,subV,subL,go_sem,↓dP,↓reduceIte]<;>(try (repeat' with_reducible apply And.intro))<;>(try first | exact DEq.refl _ | refine DEq.int ?_ | refine DEq.bool ?_ | omega))
    ·rw [rowsK_succ J hi];simp
    ·rw [rowsK_succ J hi,hr]
     exact snoc_D (str_snoc _)
  ·intro _
   rw [rowsK_all]
   refine Ok.seq ?_;((first|refine qE ?_|refine qD ?_);(simp only [go_sem,↓dP,↓reduceIte];with_reducible and_intros;all_goals first|apply qA|exact qC|skip));refine Ok.cond rfl (fun hb => by simp at hb) (fun _ => ?_);(refine Ok.exit ?_;simp only [thenK_exit,blockK_exit,noGotoK_exit,thenK_normal,blockK_normal,noGotoK_normal,↓reduceIte,Nat.reduceEqDiff])
   (first|refine qE ?_|refine qD ?_);(simp only [go_sem,↓dP,↓reduceIte];with_reducible and_intros;all_goals first|apply qA|exact qC|skip)
   (refine AskI.ret (c_tSealed _ (by have:=rows_len J;omega) (rows_short J hs)) ?_;simp only [go_sem,↓dP,↓reduceIte];with_reducible and_intros;all_goals first|apply qA|exact qC|skip)
   (refine Ok.ret ?_;(try dsimp only [thenK,blockK,noGotoK]);simp only [toList_mk,List.toList_toArray,retK_ret,retK_normal,resOK,resV,celV,rowV,frzAll,frzT,subV,subL,go_sem,↓dP,↓reduceIte])
   ((repeat' with_reducible apply And.intro)<;>(first | exact DEq.refl _ | refine DEq.int ?_ | refine DEq.bool ?_ | skip))
end Go.Proofs.Leaf
namespace Go.Proofs.Leaf
open Go Go.RX Go.Proofs
set_option maxRecDepth 10000
theorem met_head_kind:metT Tryz.prog 176 "mahlstick/leaf.kind" = some 200:=by kernel_rfl
theorem met_head_numbers:metT Tryz.prog 176 "mahlstick/leaf.numbers" = some 201:=by kernel_rfl
theorem met_floor_kind:metT Tryz.prog 178 "mahlstick/leaf.kind" = some 202:=by kernel_rfl
theorem met_floor_numbers:metT Tryz.prog 178 "mahlstick/leaf.numbers" = some 203:=by kernel_rfl
theorem met_shape_kind:metT Tryz.prog 180 "mahlstick/leaf.kind" = some 204:=by kernel_rfl
theorem met_shape_numbers:metT Tryz.prog 180 "mahlstick/leaf.numbers" = some 205:=by kernel_rfl
attribute [go_sem] met_head_kind met_head_numbers met_floor_kind met_floor_numbers met_shape_kind met_shape_numbers
section
variable [Glob]
theorem c_words:Ctr Tryz.prog 144 [] (.agg [.d (.str leafW),.d (.str groundW),.d (.str pieceW),.d (.str eitherW)]):=by
 (refine Ctr.mk (fn:=Tryz.f144) rfl rfl rfl rfl rfl Tryz.results144 ?_;intro _;dsimp only [args,List.toList_toArray])
 (first|refine qE ?_|refine qD ?_);(simp only [go_sem,↓dP,↓reduceIte];with_reducible and_intros;all_goals first|apply qA|exact qC|skip)
 (first|refine qE ?_|refine qD ?_);(simp only [go_sem,↓dP,↓reduceIte];with_reducible and_intros;all_goals first|apply qA|exact qC|skip)
 (refine Ok.ret ?_;(try dsimp only [thenK,blockK,noGotoK]);simp only [toList_mk,List.toList_toArray,retK_ret,retK_normal,resOK,resV,celV,rowV,frzAll,frzT,subV,subL,go_sem,↓dP,↓reduceIte])
 exact ⟨.refl _,.refl _,.refl _,.refl _⟩
theorem c_head_kind (J:Job):Ctr Tryz.prog 200 [J.sv] (iS 0):=by
 (refine Ctr.mk (fn:=Tryz.f200) rfl rfl rfl rfl rfl Tryz.results200 ?_;intro _;dsimp only [args,List.toList_toArray])
 (first|refine qE ?_|refine qD ?_);(simp only [go_sem,↓dP,↓reduceIte];with_reducible and_intros;all_goals first|apply qA|exact qC|skip)
 (first|refine qE ?_|refine qD ?_);(simp only [go_sem,↓dP,↓reduceIte];with_reducible and_intros;all_goals first|apply qA|exact qC|skip)
 (refine Ok.ret ?_;(try dsimp only [thenK,blockK,noGotoK]);simp only [toList_mk,List.toList_toArray,retK_ret,retK_normal,resOK,resV,celV,rowV,frzAll,frzT,subV,subL,go_sem,↓dP,↓reduceIte])
 exact .refl _
theorem c_head_numbers (J:Job):Ctr Tryz.prog 201 [J.sv] (.d (slD 1 intD J.nums)):=by
 (refine Ctr.mk (fn:=Tryz.f201) rfl rfl rfl rfl rfl Tryz.results201 ?_;intro _;dsimp only [args,List.toList_toArray])
 (first|refine qE ?_|refine qD ?_);(simp only [go_sem,↓dP,↓reduceIte];with_reducible and_intros;all_goals first|apply qA|exact qC|skip)
 (first|refine qE ?_|refine qD ?_);(simp only [go_sem,↓dP,↓reduceIte];with_reducible and_intros;all_goals first|apply qA|exact qC|skip)
 (refine Ok.ret ?_;(try dsimp only [thenK,blockK,noGotoK]);simp only [toList_mk,List.toList_toArray,retK_ret,retK_normal,resOK,resV,celV,rowV,frzAll,frzT,subV,subL,go_sem,↓dP,↓reduceIte])
 exact ints_D J.nums
theorem c_floor_kind (g:Ground):Ctr Tryz.prog 202 [g.sv] (iS 1):=by
 (refine Ctr.mk (fn:=Tryz.f202) rfl rfl rfl rfl rfl Tryz.results202 ?_;intro _;dsimp only [args,List.toList_toArray])
 (first|refine qE ?_|refine qD ?_);(simp only [go_sem,↓dP,↓reduceIte];with_reducible and_intros;all_goals first|apply qA|exact qC|skip)
 (first|refine qE ?_|refine qD ?_);(simp only [go_sem,↓dP,↓reduceIte];with_reducible and_intros;all_goals first|apply qA|exact qC|skip)
 (refine Ok.ret ?_;(try dsimp only [thenK,blockK,noGotoK]);simp only [toList_mk,List.toList_toArray,retK_ret,retK_normal,resOK,resV,celV,rowV,frzAll,frzT,subV,subL,go_sem,↓dP,↓reduceIte])
 exact .refl _
theorem c_floor_numbers (g:Ground):Ctr Tryz.prog 203 [g.sv] (.d (slD 1 intD g.nums)):=by
 (refine Ctr.mk (fn:=Tryz.f203) rfl rfl rfl rfl rfl Tryz.results203 ?_;intro _;dsimp only [args,List.toList_toArray])
 (first|refine qE ?_|refine qD ?_);(simp only [go_sem,↓dP,↓reduceIte];with_reducible and_intros;all_goals first|apply qA|exact qC|skip)
 (first|refine qE ?_|refine qD ?_);(simp only [go_sem,↓dP,↓reduceIte];with_reducible and_intros;all_goals first|apply qA|exact qC|skip)
 (refine Ok.ret ?_;(try dsimp only [thenK,blockK,noGotoK]);simp only [toList_mk,List.toList_toArray,retK_ret,retK_normal,resOK,resV,celV,rowV,frzAll,frzT,subV,subL,go_sem,↓dP,↓reduceIte])
 exact ints_D g.nums
theorem c_shape_kind (p:Piece):Ctr Tryz.prog 204 [p.sv] (iS (if p.turn = true then 3 else 2)):=by
 (refine Ctr.mk (fn:=Tryz.f204) rfl rfl rfl rfl rfl Tryz.results204 ?_;intro _;dsimp only [args,List.toList_toArray])
 (first|refine qE ?_|refine qD ?_);(simp only [go_sem,↓dP,↓reduceIte];with_reducible and_intros;all_goals first|apply qA|exact qC|skip)
 refine Ok.seq ?_
 (first|refine qE ?_|refine qD ?_);(simp only [go_sem,↓dP,↓reduceIte];with_reducible and_intros;all_goals first|apply qA|exact qC|skip)
 refine Ok.cond rfl (fun hb => ?_) (fun hb => ?_)
 ·rw [if_pos hb]
  (first|refine qE ?_|refine qD ?_);(simp only [go_sem,↓dP,↓reduceIte];with_reducible and_intros;all_goals first|apply qA|exact qC|skip)
  (refine Ok.ret ?_;(try dsimp only [thenK,blockK,noGotoK]);simp only [toList_mk,List.toList_toArray,retK_ret,retK_normal,resOK,resV,celV,rowV,frzAll,frzT,subV,subL,go_sem,↓dP,↓reduceIte])
  exact .refl _
 ·rw [if_neg (by rw [hb];simp)]
  (refine Ok.skip ?_;(try dsimp only [thenK,blockK,noGotoK]))
  (first|refine qE ?_|refine qD ?_);(simp only [go_sem,↓dP,↓reduceIte];with_reducible and_intros;all_goals first|apply qA|exact qC|skip)
  (refine Ok.ret ?_;(try dsimp only [thenK,blockK,noGotoK]);simp only [toList_mk,List.toList_toArray,retK_ret,retK_normal,resOK,resV,celV,rowV,frzAll,frzT,subV,subL,go_sem,↓dP,↓reduceIte])
  exact .refl _
theorem c_shape_numbers (p:Piece):Ctr Tryz.prog 205 [p.sv] (.d (slD 1 intD p.nums)):=by
 (refine Ctr.mk (fn:=Tryz.f205) rfl rfl rfl rfl rfl Tryz.results205 ?_;intro _;dsimp only [args,List.toList_toArray])
 (first|refine qE ?_|refine qD ?_);(simp only [go_sem,↓dP,↓reduceIte];with_reducible and_intros;all_goals first|apply qA|exact qC|skip)
 (first|refine qE ?_|refine qD ?_);(simp only [go_sem,↓dP,↓reduceIte];with_reducible and_intros;all_goals first|apply qA|exact qC|skip)
 (refine Ok.ret ?_;(try dsimp only [thenK,blockK,noGotoK]);simp only [toList_mk,List.toList_toArray,retK_ret,retK_normal,resOK,resV,celV,rowV,frzAll,frzT,subV,subL,go_sem,↓dP,↓reduceIte])
 exact ints_D p.nums
end
abbrev groL (g:Ground):List DV:=[iD g.rl,iD g.rh,iD g.ll,iD g.lh]
abbrev pieL (p:Piece):List DV:=[iD p.w,iD p.h,.bool p.turn,iD p.g]
section
theorem told_mk (t n:Nat) (cs:List DV) (wd:List UInt8) (ns:List Int) (kn nn:Nat) (k:Int) (hns:∀ n∈ns,0<=n/\n < 1000000) (hlen:ns.length<=6) (hw:wd.length<=20)
  (hm1:metT Tryz.prog t "mahlstick/leaf.kind" = some kn) (hm2:metT Tryz.prog t "mahlstick/leaf.numbers" = some nn)
  (h1:Ctr Tryz.prog kn [.agg (take (dget cs) 0 n)] (iS k)) (h2:Ctr Tryz.prog nn [.agg (take (dget cs) 0 n)] (.d (slD 1 intD ns))) (hk:0<=k/\k < 4) (hwd:[leafW,groundW,pieceW,eitherW].getD k.toNat [] = wd) :
  Ctr Tryz.prog 147 [.d (.ifc t n (dget cs))] (.d (.str (rowL wd ns))):=by
 have hcases:k = 0∨k = 1∨k = 2∨k = 3:=by omega
 (refine Ctr.mk (fn:=Tryz.f147) rfl rfl rfl rfl rfl Tryz.results147 ?_;intro _;dsimp only [args,List.toList_toArray])
 (first|refine qE ?_|refine qD ?_);(simp only [go_sem,↓dP,↓reduceIte];with_reducible and_intros;all_goals first|apply qA|exact qC|skip)
 (first|refine qE ?_|refine qD ?_);(simp only [go_sem,↓dP,↓reduceIte,hm1,hm2];with_reducible and_intros;all_goals first|apply qA|exact qC|skip)
 (refine AskI.ret (c_words) ?_;simp only [go_sem,↓dP,↓reduceIte];with_reducible and_intros;all_goals first|apply qA|exact qC|skip)
 (simp only [go_sem,↓dP,↓reduceIte,hm1,hm2];with_reducible and_intros;all_goals first|apply qA|exact qC|skip)
 (refine AskI.ret (h1) ?_;simp only [go_sem,↓dP,↓reduceIte];with_reducible and_intros;all_goals first|apply qA|exact qC|skip)
 have e:one (List.take 1 (List.drop (k.toNat * 1) [SV.d (DV.str leafW),SV.d (DV.str groundW),SV.d (DV.str pieceW),SV.d (DV.str eitherW)])) = .d (.str wd):=by
  rcases hcases with rfl | rfl | rfl | rfl<;>rw [← hwd]<;>rfl
 rw [e]
 (simp only [go_sem,↓dP,↓reduceIte];with_reducible and_intros;all_goals first|apply qA|exact qC|skip)
 refine Ok.seq ?_
 (first|refine qE ?_|refine qD ?_);(simp only [go_sem,↓dP,↓reduceIte,hm1,hm2];with_reducible and_intros;all_goals first|apply qA|exact qC|skip)
 (refine AskI.ret (h2) ?_;simp only [go_sem,↓dP,↓reduceIte];with_reducible and_intros;all_goals first|apply qA|exact qC|skip)
 refine Ok.block ?_
 refine Ok.count ns.length (fun i => ⟨[(3,.d (.str (rowL wd (ns.take i)))),(11,.d (slD 1 intD ns)),(12,iS ns.length),(13,iS i)],[],[]⟩) (fun _ => True) ⟨trivial,?_⟩ ?_ ?_
 ·(refine Sub.of ([]) ([]) ?_ ?_ ?_ rfl rfl<;>simp only [subB,subB1,subT,subT1,newT,subE,subV,subL,go_sem,↓dP,↓reduceIte]<;>(try (repeat' with_reducible apply And.intro))<;>(try first | exact DEq.refl _ | refine DEq.int ?_ | refine DEq.bool ?_ | omega))
  refine DEq.str ?_
  rw [rowL_nil]
 ·intro i hi _
  have hb:=hns _ (getD_mem hi)
  have hl:=rowL_len wd (ns.take i) (fun x hx => hns x (List.mem_of_mem_take hx))
  have hti:(ns.take i).length = i:=by simp;omega
  have hil:=itoaLen _ hb.1 hb.2
  have hsn:rowL wd (ns.take (i + 1)) = rowL wd (ns.take i) ++ [32] ++ Lib.itoa (ns.getD i default):=by rw [getD_take hi,rowL_snoc]
  ((first|refine qE ?_|refine qD ?_);(simp only [go_sem,↓dP,↓reduceIte];with_reducible and_intros;all_goals first|apply qA|exact qC|skip));refine Ok.seq ?_;refine Ok.cond rfl (fun _ => ?_) (fun hb => by simp at hb;omega);(refine Ok.skip ?_;(try dsimp only [thenK,blockK,noGotoK]));refine Ok.seq ?_;refine Ok.block ?_
  (first|refine qE ?_|refine qD ?_);(simp only [go_sem,↓dP,↓reduceIte];with_reducible and_intros;all_goals first|apply qA|exact qC|skip)
  (first|refine qE ?_|refine qD ?_);(simp only [go_sem,↓dP,↓reduceIte];with_reducible and_intros;all_goals first|apply qA|exact qC|skip)
  (refine AskI.ret (c_Itoa _ (by omega) (by omega)) ?_;simp only [go_sem,↓dP,↓reduceIte];with_reducible and_intros;all_goals first|apply qA|exact qC|skip)
  ·simp only [strRoom,List.length_cons,List.length_nil];omega
  ·simp only [strRoom,List.length_append,List.length_cons,List.length_nil];omega
  (try dsimp only [thenK,blockK,noGotoK])
  (first|refine qE ?_|refine qD ?_);(simp only [go_sem,↓dP,↓reduceIte];with_reducible and_intros;all_goals first|apply qA|exact qC|skip)
  (try dsimp only [thenK,blockK,noGotoK])
  refine ⟨trivial,?_⟩
  (refine Sub.of ([]) ([]) ?_ ?_ ?_ rfl rfl<;>simp only [subB,subB1,subT,subT1,newT,subE,subV,subL,go_sem,↓dP,↓reduceIte]<;>(try (repeat' with_reducible apply And.intro))<;>(try first | exact DEq.refl _ | refine DEq.int ?_ | refine DEq.bool ?_ | omega))
  refine DEq.str ?_
  rw [hsn];simp
 ·intro _
  ((first|refine qE ?_|refine qD ?_);(simp only [go_sem,↓dP,↓reduceIte];with_reducible and_intros;all_goals first|apply qA|exact qC|skip));refine Ok.seq ?_;refine Ok.cond rfl (fun hb => by simp at hb) (fun _ => ?_);(refine Ok.exit ?_;simp only [thenK_exit,blockK_exit,noGotoK_exit,thenK_normal,blockK_normal,noGotoK_normal,↓reduceIte,Nat.reduceEqDiff])
  (first|refine qE ?_|refine qD ?_);(simp only [go_sem,↓dP,↓reduceIte];with_reducible and_intros;all_goals first|apply qA|exact qC|skip)
  (refine Ok.ret ?_;(try dsimp only [thenK,blockK,noGotoK]);simp only [toList_mk,List.toList_toArray,retK_ret,retK_normal,resOK,resV,celV,rowV,frzAll,frzT,subV,subL,go_sem,↓dP,↓reduceIte])
  refine DEq.str ?_
  rw [List.take_length]
theorem c_told_head (J:Job) (h:∀ n∈J.nums,0<=n/\n < 1000000):Ctr Tryz.prog 147 [.d (.ifc 176 6 (dget J.cells))] (.d (.str (rowL leafW J.nums))) :=
 told_mk 176 6 J.cells leafW J.nums _ _ 0 h (by simp [Job.nums]) (by decide) met_head_kind met_head_numbers (c_head_kind J) (c_head_numbers J) (by omega) rfl
theorem c_told_floor (g:Ground) (h:∀ n∈g.nums,0<=n/\n < 1000000):Ctr Tryz.prog 147 [.d (.ifc 178 4 (dget (groL g)))] (.d (.str (groundRow g))) :=
 told_mk 178 4 (groL g) groundW g.nums _ _ 1 h (by simp [Ground.nums]) (by decide) met_floor_kind met_floor_numbers (c_floor_kind g) (c_floor_numbers g) (by omega) rfl
theorem c_told_shape (p:Piece) (h:∀ n∈p.nums,0<=n/\n < 1000000):Ctr Tryz.prog 147 [.d (.ifc 180 4 (dget (pieL p)))] (.d (.str (pieceRow p))) :=
 told_mk 180 4 (pieL p) (kindW p.turn) p.nums _ _ (if p.turn = true then 3 else 2) h (by simp [Piece.nums]) (kind_len _) met_shape_kind met_shape_numbers (c_shape_kind p) (c_shape_numbers p) (by cases p.turn<;>decide) (by cases p.turn<;>rfl)
theorem c_text (J:Job) (hs:J.small):Ctr Tryz.prog 129 [J.sv] (.d (.str (sealedL (rowsOf J)))):=by
 have hl:=hs.l
 (refine Ctr.mk (fn:=Tryz.f129) rfl rfl rfl rfl rfl Tryz.results129 ?_;intro _;dsimp only [args,List.toList_toArray])
 (first|refine qE ?_|refine qD ?_);(simp only [go_sem,↓dP,↓reduceIte];with_reducible and_intros;all_goals first|apply qA|exact qC|skip)
 (first|refine qE ?_|refine qD ?_);(simp only [go_sem,↓dP,↓reduceIte];with_reducible and_intros;all_goals first|apply qA|exact qC|skip)
 (refine AskI.ret (c_told_head J hs.n) ?_;simp only [go_sem,↓dP,↓reduceIte];with_reducible and_intros;all_goals first|apply qA|exact qC|skip)
 refine Ok.seq ?_
 (first|refine qE ?_|refine qD ?_);(simp only [go_sem,↓dP,↓reduceIte];with_reducible and_intros;all_goals first|apply qA|exact qC|skip)
 refine Ok.block ?_
 refine Ok.count J.gs.length (fun i => ⟨[(1,.p 0 0),(3,.tk 0),(18,.d (slD 4 groD J.gs)),(19,iS J.gs.length),(20,iS i)],[jobC J],[ownD 9 1 strD (rowsG J i)]⟩) (fun _ => True) ⟨trivial,?_⟩ ?_ ?_
 ·(refine Sub.of ([0]) ([some 0]) ?_ ?_ ?_ rfl rfl<;>simp only [subB,subB1,subT,subT1,newT,subE,subV,subL,go_sem,↓dP,↓reduceIte]<;>(try (repeat' with_reducible apply And.intro))<;>(try first | exact DEq.refl _ | refine DEq.int ?_ | refine DEq.bool ?_ | omega))
  ·rfl
  ·intro i j hi hj
   have h1:i = 0:=by omega
   have h2:j = 0:=by omega
   subst h1;subst h2
   exact .refl _
 ·intro i hi _
  have hx:=hs.g _ (getD_mem hi)
  have hgl:=rowsG_len J i
  ((first|refine qE ?_|refine qD ?_);(simp only [go_sem,↓dP,↓reduceIte];with_reducible and_intros;all_goals first|apply qA|exact qC|skip));refine Ok.seq ?_;refine Ok.cond rfl (fun _ => ?_) (fun hb => by simp at hb;omega);(refine Ok.skip ?_;(try dsimp only [thenK,blockK,noGotoK]));refine Ok.seq ?_;refine Ok.block ?_
  (first|refine qE ?_|refine qD ?_);(simp only [go_sem,↓dP,↓reduceIte];with_reducible and_intros;all_goals first|apply qA|exact qC|skip)
  (first|refine qE ?_|refine qD ?_);(simp only [go_sem,↓dP,↓reduceIte];with_reducible and_intros;all_goals first|apply qA|exact qC|skip)
  (refine AskI.ret (c_told_floor _ hx) ?_;simp only [go_sem,↓dP,↓reduceIte];with_reducible and_intros;all_goals first|apply qA|exact qC|skip)
  (try dsimp only [thenK,blockK,noGotoK])
  (first|refine qE ?_|refine qD ?_);(simp only [go_sem,↓dP,↓reduceIte];with_reducible and_intros;all_goals first|apply qA|exact qC|skip)
  (try dsimp only [thenK,blockK,noGotoK])
  refine ⟨trivial,?_⟩
  (refine Sub.of ([0]) ([some 2]) ?_ ?_ ?_ rfl rfl<;>simp only [subB,subB1,subT,subT1,newT,subE,subV,subL,go_sem,↓dP,↓reduceIte]<;>(try (repeat' with_reducible apply And.intro))<;>(try first | exact DEq.refl _ | refine DEq.int ?_ | refine DEq.bool ?_ | omega))
  ·rw [rowsG_succ J hi];simp
  ·rw [rowsG_succ J hi]
   exact snoc_D (str_snoc _)
 intro _
 ((first|refine qE ?_|refine qD ?_);(simp only [go_sem,↓dP,↓reduceIte];with_reducible and_intros;all_goals first|apply qA|exact qC|skip));refine Ok.seq ?_;refine Ok.cond rfl (fun hb => by simp at hb) (fun _ => ?_);(refine Ok.exit ?_;simp only [thenK_exit,blockK_exit,noGotoK_exit,thenK_normal,blockK_normal,noGotoK_normal,↓reduceIte,Nat.reduceEqDiff])
 refine Ok.seq ?_
 (first|refine qE ?_|refine qD ?_);(simp only [go_sem,↓dP,↓reduceIte];with_reducible and_intros;all_goals first|apply qA|exact qC|skip)
 refine Ok.block ?_
 refine Ok.count J.ps.length (fun i => ⟨[(1,.p 0 0),(3,.tk 0),(33,.d (slD 4 pieD J.ps)),(34,iS J.ps.length),(35,iS i)],[jobC J],[ownD 9 1 strD (rowsK J i)]⟩) (fun _ => True) ⟨trivial,?_⟩ ?_ ?_
 ·rw [rowsG_all]
  (refine Sub.of ([0]) ([some 0]) ?_ ?_ ?_ rfl rfl<;>simp only [subB,subB1,subT,subT1,newT,subE,subV,subL,go_sem,↓dP,↓reduceIte]<;>(try (repeat' with_reducible apply And.intro))<;>(try first | exact DEq.refl _ | refine DEq.int ?_ | refine DEq.bool ?_ | omega))
  exact fun _ _ _ _ => DEq.refl _
 ·intro i hi _
  have hx:=hs.p _ (getD_mem hi)
  have hkl:=rowsK_len J i
  ((first|refine qE ?_|refine qD ?_);(simp only [go_sem,↓dP,↓reduceIte];with_reducible and_intros;all_goals first|apply qA|exact qC|skip));refine Ok.seq ?_;refine Ok.cond rfl (fun _ => ?_) (fun hb => by simp at hb;omega);(refine Ok.skip ?_;(try dsimp only [thenK,blockK,noGotoK]));refine Ok.seq ?_;refine Ok.block ?_
  (first|refine qE ?_|refine qD ?_);(simp only [go_sem,↓dP,↓reduceIte];with_reducible and_intros;all_goals first|apply qA|exact qC|skip)
  (first|refine qE ?_|refine qD ?_);(simp only [go_sem,↓dP,↓reduceIte];with_reducible and_intros;all_goals first|apply qA|exact qC|skip)
  (refine AskI.ret (c_told_shape _ hx) ?_;simp only [go_sem,↓dP,↓reduceIte];with_reducible and_intros;all_goals first|apply qA|exact qC|skip)
  (try dsimp only [thenK,blockK,noGotoK])
  (first|refine qE ?_|refine qD ?_);(simp only [go_sem,↓dP,↓reduceIte];with_reducible and_intros;all_goals first|apply qA|exact qC|skip)
  (try dsimp only [thenK,blockK,noGotoK])
  refine ⟨trivial,?_⟩
  (refine Sub.of ([0]) ([some 2]) ?_ ?_ ?_ rfl rfl<;>simp only [subB,subB1,subT,subT1,newT,subE,subV,subL,go_sem,↓dP,↓reduceIte]<;>(try (repeat' with_reducible apply And.intro))<;>(try first | exact DEq.refl _ | refine DEq.int ?_ | refine DEq.bool ?_ | omega))
  ·rw [rowsK_succ J hi];simp
  ·rw [rowsK_succ J hi]
   exact snoc_D (str_snoc _)
 intro _
 rw [rowsK_all]
 have hrl:(rowsOf J).length<=601:=by have:=rows_len J;omega
 have hr:=rows_short J hs
 generalize rowsOf J = l at hrl hr ⊢
 ((first|refine qE ?_|refine qD ?_);(simp only [go_sem,↓dP,↓reduceIte];with_reducible and_intros;all_goals first|apply qA|exact qC|skip));refine Ok.seq ?_;refine Ok.cond rfl (fun hb => by simp at hb) (fun _ => ?_);(refine Ok.exit ?_;simp only [thenK_exit,blockK_exit,noGotoK_exit,thenK_normal,blockK_normal,noGotoK_normal,↓reduceIte,Nat.reduceEqDiff])
 (first|refine qE ?_|refine qD ?_);(simp only [go_sem,↓dP,↓reduceIte];with_reducible and_intros;all_goals first|apply qA|exact qC|skip)
 refine Ok.seq ?_
 (first|refine qE ?_|refine qD ?_);(simp only [go_sem,↓dP,↓reduceIte];with_reducible and_intros;all_goals first|apply qA|exact qC|skip)
 refine Ok.block ?_
 refine Ok.count l.length (fun i => ⟨[(3,.tk 0),(8,iS (rowsSum 0 (l.take i):Nat)),(47,.tk 0),(48,iS l.length),(49,iS i)],[],[ownD 9 1 strD l]⟩) (fun _ => True) ⟨trivial,?_⟩ ?_ ?_
 ·(refine Sub.of ([]) ([some 0]) ?_ ?_ ?_ rfl rfl<;>simp only [subB,subB1,subT,subT1,newT,subE,subV,subL,go_sem,↓dP,↓reduceIte]<;>(try (repeat' with_reducible apply And.intro))<;>(try first | exact DEq.refl _ | refine DEq.int ?_ | refine DEq.bool ?_ | omega))
  exact fun _ _ _ _ => DEq.refl _
 ·intro i hi _
  have hlen:=hr _ (getD_mem hi)
  have hti:(l.take i).length = i:=by simp;omega
  have hs1:=rowsSum_le (l.take i) 0 (by omega) (fun x hx => hr x (List.mem_of_mem_take hx))
  have hsn:rowsSum 0 (l.take (i + 1)) = rowsSum 0 (l.take i) + rowSum i 0 (l.getD i default):=by
   rw [getD_take hi,rowsSum_snoc,hti,Nat.zero_add]
  ((first|refine qE ?_|refine qD ?_);(simp only [go_sem,↓dP,↓reduceIte];with_reducible and_intros;all_goals first|apply qA|exact qC|skip));refine Ok.seq ?_;refine Ok.cond rfl (fun _ => ?_) (fun hb => by simp at hb;omega);(refine Ok.skip ?_;(try dsimp only [thenK,blockK,noGotoK]));refine Ok.seq ?_;refine Ok.block ?_
  (first|refine qE ?_|refine qD ?_);(simp only [go_sem,↓dP,↓reduceIte];with_reducible and_intros;all_goals first|apply qA|exact qC|skip)
  (first|refine qE ?_|refine qD ?_);(simp only [go_sem,↓dP,↓reduceIte];with_reducible and_intros;all_goals first|apply qA|exact qC|skip)
  refine Ok.block ?_
  refine Ok.count (l.getD i default).length (fun k => ⟨[(3,.tk 0),(8,iS ((rowsSum 0 (l.take i):Nat) + (rowSum i 0 ((l.getD i default).take k):Nat))),(9,iS i),(10,.d (.str (l.getD i default))),(47,.tk 0),(48,iS l.length),(49,iS i),(55,iS (l.getD i default).length),(56,iS k)],[],[ownD 9 1 strD l]⟩) (fun _ => True) ⟨trivial,?_⟩ ?_ ?_
  ·(refine Sub.of ([]) ([some 0]) ?_ ?_ ?_ rfl rfl<;>simp only [subB,subB1,subT,subT1,newT,subE,subV,subL,go_sem,↓dP,↓reduceIte]<;>(try (repeat' with_reducible apply And.intro))<;>(try first | exact DEq.refl _ | refine DEq.int ?_ | refine DEq.bool ?_ | omega))
   all_goals first | (exact fun _ _ _ _ => DEq.refl _) | simp [rowSum]
  ·intro k hk _
   have htk:((l.getD i default).take k).length = k:=by rw [List.length_take];omega
   have hs2:=rowSum_le i (by omega) ((l.getD i default).take k) 0 (by omega)
   have hrn:rowSum i 0 ((l.getD i default).take (k + 1)) = rowSum i 0 ((l.getD i default).take k) + ((l.getD i default).getD k 0).toNat * (k + 1) * (i + 1):=by
    rw [getD_take hk,rowSum_snoc,htk,Nat.zero_add,getD0]
   have hb:((l.getD i default).getD k 0).toNat<=255:=by have:=((l.getD i default).getD k 0).toNat_lt;omega
   have hk2:(l[i]?.getD default).length = (l.getD i default).length:=by rw [List.getD_eq_getElem?_getD]
   generalize hbb:((l.getD i default).getD k 0).toNat = b at hrn hb
   have e1:=mulB (a:=(b:Int)) (b:=(k:Int) + 1) (A:=255) (B:=1000) (by omega) (by omega) (by omega) (by omega)
   have e2:=mulB (a:=(b:Int) * ((k:Int) + 1)) (b:=(i:Int) + 1) (A:=255000) (B:=1000) (by omega) (by omega) (by omega) (by omega)
   ((first|refine qE ?_|refine qD ?_);(simp only [go_sem,↓dP,↓reduceIte];with_reducible and_intros;all_goals first|apply qA|exact qC|skip));refine Ok.seq ?_;refine Ok.cond rfl (fun _ => ?_) (fun hb => by simp at hb;omega);(refine Ok.skip ?_;(try dsimp only [thenK,blockK,noGotoK]));refine Ok.seq ?_;refine Ok.block ?_
   (first|refine qE ?_|refine qD ?_);(simp only [go_sem,↓dP,↓reduceIte];with_reducible and_intros;all_goals first|apply qA|exact qC|skip)
   (first|refine qE ?_|refine qD ?_);(simp only [go_sem,↓dP,↓reduceIte];with_reducible and_intros;all_goals first|apply qA|exact qC|skip)
   ·rw [hbb];exact R64 (by omega) (by omega)
   ·rw [hbb];exact R64 (by omega) (by omega)
   ·rw [hbb];exact R64 (by omega) (by omega)
   (try dsimp only [thenK,blockK,noGotoK])
   (first|refine qE ?_|refine qD ?_);(simp only [go_sem,↓dP,↓reduceIte];with_reducible and_intros;all_goals first|apply qA|exact qC|skip)
   (try dsimp only [thenK,blockK,noGotoK])
   refine ⟨trivial,?_⟩
   (refine Sub.of ([]) ([some 0]) ?_ ?_ ?_ rfl rfl<;>simp only [subB,subB1,subT,subT1,newT,subE,subV,subL,go_sem,↓dP,↓reduceIte]<;>(try (repeat' with_reducible apply And.intro))<;>(try first | exact DEq.refl _ | refine DEq.int ?_ | refine DEq.bool ?_ | omega))
   all_goals first | (exact fun _ _ _ _ => DEq.refl _) | (rw [hrn,hbb];push_cast;omega)
  ·intro _
   ((first|refine qE ?_|refine qD ?_);(simp only [go_sem,↓dP,↓reduceIte];with_reducible and_intros;all_goals first|apply qA|exact qC|skip));refine Ok.seq ?_;refine Ok.cond rfl (fun hb => by simp at hb) (fun _ => ?_);(refine Ok.exit ?_;simp only [thenK_exit,blockK_exit,noGotoK_exit,thenK_normal,blockK_normal,noGotoK_normal,↓reduceIte,Nat.reduceEqDiff])
   (try dsimp only [thenK,blockK,noGotoK])
   (first|refine qE ?_|refine qD ?_);(simp only [go_sem,↓dP,↓reduceIte];with_reducible and_intros;all_goals first|apply qA|exact qC|skip)
   (try dsimp only [thenK,blockK,noGotoK])
   refine ⟨trivial,?_⟩
   (refine Sub.of ([]) ([some 0]) ?_ ?_ ?_ rfl rfl<;>simp only [subB,subB1,subT,subT1,newT,subE,subV,subL,go_sem,↓dP,↓reduceIte]<;>(try (repeat' with_reducible apply And.intro))<;>(try first | exact DEq.refl _ | refine DEq.int ?_ | refine DEq.bool ?_ | omega))
   all_goals first | (exact fun _ _ _ _ => DEq.refl _) | (rw [hsn,List.take_length];push_cast;omega)
 intro _
 have hs1:=rowsSum_le l 0 (by omega) hr
 have hfl:=flatL_len l hr
 rw [List.take_length]
 ((first|refine qE ?_|refine qD ?_);(simp only [go_sem,↓dP,↓reduceIte];with_reducible and_intros;all_goals first|apply qA|exact qC|skip));refine Ok.seq ?_;refine Ok.cond rfl (fun hb => by simp at hb) (fun _ => ?_);(refine Ok.exit ?_;simp only [thenK_exit,blockK_exit,noGotoK_exit,thenK_normal,blockK_normal,noGotoK_normal,↓reduceIte,Nat.reduceEqDiff])
 (first|refine qE ?_|refine qD ?_);(simp only [go_sem,↓dP,↓reduceIte];with_reducible and_intros;all_goals first|apply qA|exact qC|skip)
 rw [show ((rowsSum 0 l:Nat):Int).tmod 191 = ((rowsSum 0 l % 191:Nat):Int) from by rw [Int.tmod_eq_emod_of_nonneg (by omega)];simp]
 unfold sealedL
 have hc:rowsSum 0 l % 191 < 191:=Nat.mod_lt _ (by decide)
 generalize rowsSum 0 l % 191 = c at hc
 have l1:=decLen (c / 100) (by omega)
 have l2:=decLen (c / 10 % 10) (by omega)
 have l3:=decLen (c % 10) (by omega)
 (first|refine qE ?_|refine qD ?_);(simp only [go_sem,↓dP,↓reduceIte];with_reducible and_intros;all_goals first|apply qA|exact qC|skip)
 ·rw [tdivC];exact R64 (by omega) (by omega)
 rw [tdivC]
 have i1:Lib.itoa ((c / 100:Nat):Int) = Lib.decDigits (c / 100):=Lib.itoa_nonneg _
 have i2:Lib.itoa ((c / 10 % 10:Nat):Int) = Lib.decDigits (c / 10 % 10):=Lib.itoa_nonneg _
 have i3:Lib.itoa ((c % 10:Nat):Int) = Lib.decDigits (c % 10):=Lib.itoa_nonneg _
 have h1:=c_Itoa ((c / 100:Nat):Int) (by omega) (by omega)
 rw [i1] at h1
 have h2:=c_Itoa ((c / 10 % 10:Nat):Int) (by omega) (by omega)
 rw [i2] at h2
 have h3:=c_Itoa ((c % 10:Nat):Int) (by omega) (by omega)
 rw [i3] at h3
 have hel:=endL_len hc
 (refine AskI.ret (h1) ?_;simp only [go_sem,↓dP,↓reduceIte];with_reducible and_intros;all_goals first|apply qA|exact qC|skip)
 ·simp only [strRoom,List.length_append,List.length_cons,List.length_nil];omega
 ·rw [tdivN];exact R64 (by omega) (by omega)
 rw [tdivN,tmodN]
 (refine AskI.ret (h2) ?_;simp only [go_sem,↓dP,↓reduceIte];with_reducible and_intros;all_goals first|apply qA|exact qC|skip)
 ·simp only [strRoom,List.length_append,List.length_cons,List.length_nil];omega
 rw [tmodN]
 (refine AskI.ret (h3) ?_;simp only [go_sem,↓dP,↓reduceIte];with_reducible and_intros;all_goals first|apply qA|exact qC|skip)
 ·simp only [strRoom,List.length_append,List.length_cons,List.length_nil];omega
 have hjl:(Lib.join (l ++ [endL c]) [10]).length<=1000000:=by
  rw [join_flat,List.length_append];omega
 have hjn:=c_Join (l ++ [endL c]) [10] (by simp;omega) (by omega) (by simp)
 refine Ok.sub (σ':=⟨[(3,.tk 0)],[],[ownD 9 1 strD (l ++ [endL c])]⟩) ?_ ?_
 ·(refine Sub.of ([]) ([some 2]) ?_ ?_ ?_ rfl rfl<;>simp only [subB,subB1,subT,subT1,newT,subE,subV,subL,go_sem,↓dP,↓reduceIte]<;>(try (repeat' with_reducible apply And.intro))<;>(try first | exact DEq.refl _ | refine DEq.int ?_ | refine DEq.bool ?_ | omega))
  ·simp
  ·have e:endL c = [101,110,100,32] ++ Lib.decDigits (c / 100) ++ Lib.decDigits (c / 10 % 10) ++ Lib.decDigits (c % 10):=rfl
   rw [e]
   exact snoc_D (str_snoc _)
 (first|refine qE ?_|refine qD ?_);(simp only [go_sem,↓dP,↓reduceIte];with_reducible and_intros;all_goals first|apply qA|exact qC|skip)
 (refine AskI.ret (hjn) ?_;simp only [go_sem,↓dP,↓reduceIte];with_reducible and_intros;all_goals first|apply qA|exact qC|skip)
 ·rw [join_flat];simp only [strRoom,List.length_append,List.length_cons,List.length_nil];omega
 (refine Ok.ret ?_;(try dsimp only [thenK,blockK,noGotoK]);simp only [toList_mk,List.toList_toArray,retK_ret,retK_normal,resOK,resV,celV,rowV,frzAll,frzT,subV,subL,go_sem,↓dP,↓reduceIte])
 refine DEq.str ?_
 rw [join_flat]
end
end Go.Proofs.Leaf
namespace Go.Proofs.Leaf
open Go Go.RX Go.Proofs
set_option maxRecDepth 10000
abbrev noT (w:List UInt8):DV:=.ifc 148 1 (dget [.str w])
section
variable [Glob]
theorem c_need_ok (why:List UInt8):Ctr Tryz.prog 127 [bS true,.d (.str why)] (.tup []):=by
 (refine Ctr.mk (fn:=Tryz.f127) rfl rfl rfl rfl rfl Tryz.results127 ?_;intro _;dsimp only [args,List.toList_toArray])
 (first|refine qE ?_|refine qD ?_);(simp only [go_sem,↓dP,↓reduceIte];with_reducible and_intros;all_goals first|apply qA|exact qC|skip)
 refine Ok.cond (b:=false) (by first | rfl | (simp only [go_sem,↓dP,↓reduceIte];rfl)) (fun hb => by cases hb) (fun _ => ?_)
 (refine Ok.skip ?_;(try dsimp only [thenK,blockK,noGotoK]))
 ((try dsimp only [thenK,blockK,noGotoK]);simp only [toList_mk,List.toList_toArray,retK_ret,retK_normal,resOK,resV,celV,rowV,frzAll,frzT,subV,subL,go_sem,↓dP,↓reduceIte])
theorem c_need_if {b:Bool} (h:b = true) (why:List UInt8):Ctr Tryz.prog 127 [bS b,.d (.str why)] (.tup []):=by
 subst h;exact c_need_ok why
theorem c_need_no {b:Bool} (h:b = false) (why:List UInt8):CtrP Tryz.prog 127 [bS b,.d (.str why)] (noT why):=by
 subst h
 (refine CtrP.mk (fn:=Tryz.f127) rfl rfl rfl rfl rfl ?_;intro _;dsimp only [args])
 (first|refine qE ?_|refine qD ?_);(simp only [go_sem,↓dP,↓reduceIte];with_reducible and_intros;all_goals first|apply qA|exact qC|skip)
 refine Ok.cond (b:=true) (by first | rfl | (simp only [go_sem,↓dP,↓reduceIte];rfl)) (fun _ => ?_) (fun hb => by cases hb)
 (first|refine qE ?_|refine qD ?_);(simp only [go_sem,↓dP,↓reduceIte];with_reducible and_intros;all_goals first|apply qA|exact qC|skip)
 exact .refl _
theorem c_Index_string (l:List (List UInt8)) (v:List UInt8) (hn:l.length < 1000000):Ctr Tryz.prog 145 [.d (strsD l),.d (.str v)] (iS (ixL (fun x => v == x) l)):=by
 (refine Ctr.mk (fn:=Tryz.f145) rfl rfl rfl rfl rfl Tryz.results145 ?_;intro _;dsimp only [args,List.toList_toArray])
 (first|refine qE ?_|refine qD ?_);(simp only [go_sem,↓dP,↓reduceIte];with_reducible and_intros;all_goals first|apply qA|exact qC|skip)
 refine Ok.seq ?_
 (first|refine qE ?_|refine qD ?_);(simp only [go_sem,↓dP,↓reduceIte];with_reducible and_intros;all_goals first|apply qA|exact qC|skip)
 refine Ok.block ?_
 refine Ok.count l.length (fun i => ⟨[(0,.d (strsD l)),(1,.d (.str v)),(7,iS l.length),(8,iS i)],[],[]⟩) (fun i => ∀ x∈l.take i,(v == x) = false) ⟨fun x hx => by simp at hx,?_⟩ ?_ ?_
 ·(refine Sub.of ([]) ([]) ?_ ?_ ?_ rfl rfl<;>simp only [subB,subB1,subT,subT1,newT,subE,subV,subL,go_sem,↓dP,↓reduceIte]<;>(try (repeat' with_reducible apply And.intro))<;>(try first | exact DEq.refl _ | refine DEq.int ?_ | refine DEq.bool ?_ | omega))
 ·intro i hi h0
  ((first|refine qE ?_|refine qD ?_);(simp only [go_sem,↓dP,↓reduceIte];with_reducible and_intros;all_goals first|apply qA|exact qC|skip));refine Ok.seq ?_;refine Ok.cond rfl (fun _ => ?_) (fun hb => by simp at hb;omega);(refine Ok.skip ?_;(try dsimp only [thenK,blockK,noGotoK]));refine Ok.seq ?_;refine Ok.block ?_
  (first|refine qE ?_|refine qD ?_);(simp only [go_sem,↓dP,↓reduceIte];with_reducible and_intros;all_goals first|apply qA|exact qC|skip)
  (first|refine qE ?_|refine qD ?_);(simp only [go_sem,↓dP,↓reduceIte];with_reducible and_intros;all_goals first|apply qA|exact qC|skip)
  refine Ok.cond rfl ?_ ?_
  ·intro hp
   (first|refine qE ?_|refine qD ?_);(simp only [go_sem,↓dP,↓reduceIte];with_reducible and_intros;all_goals first|apply qA|exact qC|skip)
   (refine Ok.ret ?_;(try dsimp only [thenK,blockK,noGotoK]);simp only [toList_mk,List.toList_toArray,retK_ret,retK_normal,resOK,resV,celV,rowV,frzAll,frzT,subV,subL,go_sem,↓dP,↓reduceIte])
   refine DEq.int ?_
   rw [ixL_at (q:=fun x => v == x) hi hp h0]
  ·intro hp
   (refine Ok.skip ?_;(try dsimp only [thenK,blockK,noGotoK]))
   (first|refine qE ?_|refine qD ?_);(simp only [go_sem,↓dP,↓reduceIte];with_reducible and_intros;all_goals first|apply qA|exact qC|skip)
   (try dsimp only [thenK,blockK,noGotoK])
   refine ⟨no_step (q:=fun x => v == x) hi h0 hp,?_⟩
   (refine Sub.of ([]) ([]) ?_ ?_ ?_ rfl rfl<;>simp only [subB,subB1,subT,subT1,newT,subE,subV,subL,go_sem,↓dP,↓reduceIte]<;>(try (repeat' with_reducible apply And.intro))<;>(try first | exact DEq.refl _ | refine DEq.int ?_ | refine DEq.bool ?_ | omega))
 ·intro h0
  ((first|refine qE ?_|refine qD ?_);(simp only [go_sem,↓dP,↓reduceIte];with_reducible and_intros;all_goals first|apply qA|exact qC|skip));refine Ok.seq ?_;refine Ok.cond rfl (fun hb => by simp at hb) (fun _ => ?_);(refine Ok.exit ?_;simp only [thenK_exit,blockK_exit,noGotoK_exit,thenK_normal,blockK_normal,noGotoK_normal,↓reduceIte,Nat.reduceEqDiff])
  (first|refine qE ?_|refine qD ?_);(simp only [go_sem,↓dP,↓reduceIte];with_reducible and_intros;all_goals first|apply qA|exact qC|skip)
  (refine Ok.ret ?_;(try dsimp only [thenK,blockK,noGotoK]);simp only [toList_mk,List.toList_toArray,retK_ret,retK_normal,resOK,resV,celV,rowV,frzAll,frzT,subV,subL,go_sem,↓dP,↓reduceIte])
  refine DEq.int ?_
  rw [ixL_no (q:=fun x => v == x) (fun x hx => h0 x (by simpa using hx))]
end
def kindN (w:List UInt8):Int:=ixL (fun x => w == x) [leafW,groundW,pieceW,eitherW]
section
instance inst_g0_3:Glob:=g0
theorem kindN_cases (w:List UInt8):(w = leafW/\kindN w = 0)∨(w = groundW/\kindN w = 1)∨(w = pieceW/\kindN w = 2)∨(w = eitherW/\kindN w = 3)∨(¬ isKind w/\kindN w = -1):=by
 by_cases h0:w = leafW
 ·subst h0;exact .inl ⟨rfl,by decide⟩
 by_cases h1:w = groundW
 ·subst h1;exact .inr (.inl ⟨rfl,by decide⟩)
 by_cases h2:w = pieceW
 ·subst h2;exact .inr (.inr (.inl ⟨rfl,by decide⟩))
 by_cases h3:w = eitherW
 ·subst h3;exact .inr (.inr (.inr (.inl ⟨rfl,by decide⟩)))
 ·refine .inr (.inr (.inr (.inr ⟨fun h => ?_,?_⟩)))
  ·rcases h with h | h | h | h
   ·exact h0 h
   ·exact h1 h
   ·exact h2 h
   ·exact h3 h
  ·unfold kindN
   exact ixL_no (fun x hx => by
    simp only [List.mem_cons,List.not_mem_nil,or_false] at hx
    rcases hx with rfl | rfl | rfl | rfl<;>simpa)
theorem kindN_is {w:List UInt8}:isKind w ↔ 0<=kindN w:=by
 rcases kindN_cases w with ⟨rfl,e⟩ | ⟨rfl,e⟩ | ⟨rfl,e⟩ | ⟨rfl,e⟩ | ⟨h,e⟩
 ·exact ⟨fun _ => by omega,fun _ => .inl rfl⟩
 ·exact ⟨fun _ => by omega,fun _ => .inr (.inl rfl)⟩
 ·exact ⟨fun _ => by omega,fun _ => .inr (.inr (.inl rfl))⟩
 ·exact ⟨fun _ => by omega,fun _ => .inr (.inr (.inr rfl))⟩
 ·exact ⟨fun q => absurd q h,fun q => by omega⟩
theorem kindN_ground {w:List UInt8}:kindN w = 1 ↔ w = groundW:=by
 rcases kindN_cases w with ⟨rfl,e⟩ | ⟨rfl,e⟩ | ⟨rfl,e⟩ | ⟨rfl,e⟩ | ⟨h,e⟩
 ·exact ⟨fun q => by omega,fun q => absurd q (by decide)⟩
 ·exact ⟨fun _ => rfl,fun _ => e⟩
 ·exact ⟨fun q => by omega,fun q => absurd q (by decide)⟩
 ·exact ⟨fun q => by omega,fun q => absurd q (by decide)⟩
 ·exact ⟨fun q => by omega,fun q => absurd (.inr (.inl q)) h⟩
theorem kindN_either {w:List UInt8}:kindN w = 3 ↔ w = eitherW:=by
 rcases kindN_cases w with ⟨rfl,e⟩ | ⟨rfl,e⟩ | ⟨rfl,e⟩ | ⟨rfl,e⟩ | ⟨h,e⟩
 ·exact ⟨fun q => by omega,fun q => absurd q (by decide)⟩
 ·exact ⟨fun q => by omega,fun q => absurd q (by decide)⟩
 ·exact ⟨fun q => by omega,fun q => absurd q (by decide)⟩
 ·exact ⟨fun _ => rfl,fun _ => e⟩
 ·exact ⟨fun q => by omega,fun q => absurd (.inr (.inr (.inr q))) h⟩
end
def numV (ws:List (List UInt8)):List Int:=ws.map (fun w => ((numL w:Nat):Int))
section
instance inst_gT_4:Glob:=gT
theorem c_names (v:List UInt8):Ctr Tryz.prog 145 [.d (.sl 1 4 (fun i j => dget [.str leafW,.str groundW,.str pieceW,.str eitherW] (i + j))),.d (.str v)] (iS (kindN v)) :=
 (c_Index_string [leafW,groundW,pieceW,eitherW] v (by decide)).args ⟨DEq.sl rfl (fun i j hi hj => by
  have:j = 0:=by omega
  subst this
  match i,hi with
  | 0,_ => exact .refl _
  | 1,_ => exact .refl _
  | 2,_ => exact .refl _
  | 3,_ => exact .refl _),.refl _,trivial⟩
theorem numV_snoc {ws:List (List UInt8)} {i:Nat} (hi:i < ws.length):numV (ws.take (i + 1)) = numV (ws.take i) ++ [((numL (ws.getD i default):Nat):Int)]:=by
 unfold numV
 rw [getD_take hi,List.map_append];rfl
theorem numV_len {ws:List (List UInt8)} {i:Nat} (hi:i<=ws.length):(numV (ws.take i)).length = i:=by
 unfold numV
 rw [List.length_map,List.length_take];omega
theorem drop_row (V:List (List UInt8)) (h:0 < V.length):DEq (.sl 1 ((V.length:Int) - 1).toNat (fun i j => strD (V.getD (1 + i) default) j)) (strsD (V.drop 1)):=by
 have:=slice_D (k:=1) (n:=((V.length:Int) - 1).toNat) (m:=V.length - 1) (a:=1) (f:=strD) (l:=V) (by omega) (by omega)
 rw [List.take_of_length_le (by rw [List.length_drop];omega)] at this
 exact this
theorem at_take {α:Type} [Inhabited α] {l:List α} {n i:Nat} (h:i < n) (hl:i < l.length):l.getD i default∈l.take n:=by
 rw [List.mem_take_iff_getElem]
 exact ⟨i,by omega,(getD_lt hl).symm⟩
theorem bad_at:∀ (ws:List (List UInt8)),(¬ ∀ w∈ws,isNum w)->∃ i,i < ws.length/\(∀ w∈ws.take i,isNum w)/\¬ isNum (ws.getD i default)
 | [],h => (h (fun w hw => by simp at hw)).elim
 | w :: ws,h => by
  by_cases hw:isNum w
  ·obtain ⟨i,h1,h2,h3⟩:=bad_at ws (fun h' => h (fun x hx => by
    simp only [List.mem_cons] at hx
    rcases hx with rfl | hx
    ·exact hw
    ·exact h' x hx))
   exact ⟨i + 1,by simp;omega,fun x hx => by
    simp only [List.take_succ_cons,List.mem_cons] at hx
    rcases hx with rfl | hx
    ·exact hw
    ·exact h2 x hx,by simpa using h3⟩
  ·exact ⟨0,by simp,by simp,by simpa using hw⟩
abbrev givS (r:List UInt8) (k:Int) (ws:List (List UInt8)) (i:Nat):Sy:=⟨[(0,.d (.str r)),(6,iS k),(7,.tk 0),(26,.d (strsD ws)),(27,iS ws.length),(28,iS i)],[],[ownD 3 1 intD (numV (ws.take i))]⟩
theorem given_walk (r : List UInt8) (V ws : List (List UInt8)) (hV : splitL r [32] = V) (hws : V.drop 1 = ws) (hr : r.length ≤ 1000) :
    (isKind (V.getD 0 default) ∧ (∀ w ∈ ws, isNum w) → Ctr Tryz.prog 128 [.d (.str r)] (.tup [iS (kindN (V.getD 0 default)), .d (slD 1 intD (numV ws))])) ∧
    (¬ (isKind (V.getD 0 default) ∧ (∀ w ∈ ws, isNum w)) → ∃ x, CtrP Tryz.prog 128 [.d (.str r)] (noT x)) := by
  have hV0 := splitL_pos r [32] (by decide)
  have hVl := splitL_len r [32] (by decide)
  have hsp := c_Split r [32] (by omega) (by decide)
  rw [hV] at hV0 hVl hsp
  have hwl : ws.length = V.length - 1 := by rw [← hws, List.length_drop]
  have hdr := drop_row V hV0
  rw [hws] at hdr
  refine ⟨fun ⟨hk, hw⟩ => ?_, fun hno => ?_⟩
  · (refine Ctr.mk (fn := Tryz.f128) rfl rfl rfl rfl rfl Tryz.results128 ?_; intro _; dsimp only [args, List.toList_toArray])
    (first|refine qE ?_|refine qD ?_);(simp only [go_sem,↓dP,↓reduceIte];with_reducible and_intros;all_goals first|apply qA|exact qC|skip)
    (first|refine qE ?_|refine qD ?_);(simp only [go_sem,↓dP,↓reduceIte];with_reducible and_intros;all_goals first|apply qA|exact qC|skip)
    (refine AskI.ret (hsp) ?_; simp only [go_sem,↓dP,↓reduceIte];with_reducible and_intros;all_goals first|apply qA|exact qC|skip)
    (first|refine qE ?_|refine qD ?_);(simp only [go_sem,↓dP,↓reduceIte];with_reducible and_intros;all_goals first|apply qA|exact qC|skip)
    (refine AskI.ret (c_words) ?_; simp only [go_sem,↓dP,↓reduceIte];with_reducible and_intros;all_goals first|apply qA|exact qC|skip)
    refine Ok.sub ((Sub.frzB (b := 0) rfl rfl).trans (Sub.refB (b := 0) rfl rfl rfl)) ?_
    simp only [refE, refV, ↓reduceIte, Nat.reduceEqDiff, List.length_cons, List.length_nil, Nat.reduceAdd, Nat.zero_add]
    (first|refine qE ?_|refine qD ?_);(simp only [go_sem,↓dP,↓reduceIte];with_reducible and_intros;all_goals first|apply qA|exact qC|skip)
    (refine AskI.ret (c_names _) ?_; simp only [go_sem,↓dP,↓reduceIte];with_reducible and_intros;all_goals first|apply qA|exact qC|skip)
    (first|refine qE ?_|refine qD ?_);(simp only [go_sem,↓dP,↓reduceIte];with_reducible and_intros;all_goals first|apply qA|exact qC|skip)
    (refine AskI.ret (c_need_if (by simpa using kindN_is.1 hk) _) ?_; simp only [go_sem,↓dP,↓reduceIte];with_reducible and_intros;all_goals first|apply qA|exact qC|skip)
    (first|refine qE ?_|refine qD ?_);(simp only [go_sem,↓dP,↓reduceIte];with_reducible and_intros;all_goals first|apply qA|exact qC|skip)
    refine Ok.seq ?_
    (first|refine qE ?_|refine qD ?_);(simp only [go_sem,↓dP,↓reduceIte];with_reducible and_intros;all_goals first|apply qA|exact qC|skip)
    refine Ok.block ?_
    refine Ok.count ws.length (fun i => givS r (kindN (V.getD 0 default)) ws i) (fun _ => True) ⟨trivial, ?_⟩ ?_ ?_
    · (refine Sub.of ([]) ([none]) ?_ ?_ ?_ rfl rfl <;> simp only [subB, subB1, subT, subT1, newT, subE, subV, subL, go_sem,↓dP,↓reduceIte] <;> (try (repeat' with_reducible apply And.intro)) <;> (try first | exact DEq.refl _ | refine DEq.int ?_ | refine DEq.bool ?_ | omega))
      all_goals first | exact hdr | (rw [hwl]; omega) | rfl
    · intro i hi _
      have hlen := numV_len (ws := ws) (i := i) (by omega)
      have hsn := numV_snoc hi
      obtain ⟨hne, hdig, hl3, hit⟩ := hw _ (getD_mem hi)
      generalize hW : ws.getD i default = w at hne hdig hl3 hit hsn
      ((first|refine qE ?_|refine qD ?_);(simp only [go_sem,↓dP,↓reduceIte];with_reducible and_intros;all_goals first|apply qA|exact qC|skip)); refine Ok.seq ?_; refine Ok.cond rfl (fun _ => ?_) (fun hb => by simp at hb; omega); (refine Ok.skip ?_; (try dsimp only [thenK, blockK, noGotoK])); refine Ok.seq ?_; refine Ok.block ?_
      (first|refine qE ?_|refine qD ?_);(simp only [go_sem,↓dP,↓reduceIte];with_reducible and_intros;all_goals first|apply qA|exact qC|skip)
      rw [hW]
      (first|refine qE ?_|refine qD ?_);(simp only [go_sem,↓dP,↓reduceIte];with_reducible and_intros;all_goals first|apply qA|exact qC|skip)
      refine Ok.seq ?_
      (first|refine qE ?_|refine qD ?_);(simp only [go_sem,↓dP,↓reduceIte];with_reducible and_intros;all_goals first|apply qA|exact qC|skip)
      refine Ok.block ?_
      refine Ok.count w.length (fun k => ⟨[(0, .d (.str r)), (6, iS (kindN (V.getD 0 default))), (7, .tk 0), (9, .d (.str w)), (10, iS (numL (w.take k) : Nat)), (26, .d (strsD ws)), (27, iS ws.length), (28, iS i), (33, .p 0 0)], [{ frz := false, xs := [], it := some (.str w k) }], [ownD 3 1 intD (numV (ws.take i))]⟩) (fun _ => True) ⟨trivial, ?_⟩ ?_ ?_
      · (refine Sub.of ([0]) ([some 0]) ?_ ?_ ?_ rfl rfl <;> simp only [subB, subB1, subT, subT1, newT, subE, subV, subL, go_sem,↓dP,↓reduceIte] <;> (try (repeat' with_reducible apply And.intro)) <;> (try first | exact DEq.refl _ | refine DEq.int ?_ | refine DEq.bool ?_ | omega))
        all_goals exact fun _ _ _ _ => DEq.refl _
      · intro k hk _
        have hd : digit (w.getD k 0) = true := hdig _ (getD_mem hk)
        have hdec := decode_digit w k hk hd
        (first|refine qE ?_|refine qD ?_);(simp only [go_sem,↓dP,↓reduceIte];with_reducible and_intros;all_goals first|apply qA|exact qC|skip)
        rw [if_pos hk, hdec]
        (simp only [go_sem,↓dP,↓reduceIte];with_reducible and_intros;all_goals first|apply qA|exact qC|skip)
        refine Ok.seq ?_
        refine Ok.cond (b := true) (by first | rfl | (simp only [go_sem,↓dP,↓reduceIte]; rfl)) (fun _ => ?_) (fun hb => by cases hb)
        (refine Ok.skip ?_; (try dsimp only [thenK, blockK, noGotoK]))
        refine Ok.block ?_
        (first|refine qE ?_|refine qD ?_);(simp only [go_sem,↓dP,↓reduceIte];with_reducible and_intros;all_goals first|apply qA|exact qC|skip)
        (first|refine qE ?_|refine qD ?_);(simp only [go_sem,↓dP,↓reduceIte];with_reducible and_intros;all_goals first|apply qA|exact qC|skip)
        simp only [digit, Bool.and_eq_true, decide_eq_true_eq] at hd
        have hnl := numL_lt w k hdig (by omega)
        have hpow : 10 ^ k ≤ 10 := by
          have := Nat.pow_le_pow_right (n := 10) (by decide) (show k ≤ 1 by omega)
          simpa using this
        have hns : numL (w.take (k + 1)) = 10 * numL (w.take k) + ((w.getD k 0).toNat - 48) := by rw [getD_take hk, numL_snoc]; rfl
        generalize hB : (w.getD k 0).toNat = b at hd hns
        (refine AskI.ret (c_need_if (by simp only [hB, Bool.and_eq_true, decide_eq_true_eq]; omega) _) ?_; simp only [go_sem,↓dP,↓reduceIte];with_reducible and_intros;all_goals first|apply qA|exact qC|skip)
        (first|refine qE ?_|refine qD ?_);(simp only [go_sem,↓dP,↓reduceIte];with_reducible and_intros;all_goals first|apply qA|exact qC|skip)
        · exact R32 (by omega) (by omega)
        (try dsimp only [thenK, blockK, noGotoK])
        refine ⟨trivial, ?_⟩
        (refine Sub.of ([0]) ([some 0]) ?_ ?_ ?_ rfl rfl <;> simp only [subB, subB1, subT, subT1, newT, subE, subV, subL, go_sem,↓dP,↓reduceIte] <;> (try (repeat' with_reducible apply And.intro)) <;> (try first | exact DEq.refl _ | refine DEq.int ?_ | refine DEq.bool ?_ | omega))
        all_goals first | (exact fun _ _ _ _ => DEq.refl _) | (rw [hns]; omega)
      · intro _
        (first|refine qE ?_|refine qD ?_);(simp only [go_sem,↓dP,↓reduceIte];with_reducible and_intros;all_goals first|apply qA|exact qC|skip)
        rw [if_neg (by omega)]
        (simp only [go_sem,↓dP,↓reduceIte];with_reducible and_intros;all_goals first|apply qA|exact qC|skip)
        refine Ok.seq ?_
        refine Ok.cond (b := false) (by first | rfl | (simp only [go_sem,↓dP,↓reduceIte]; rfl)) (fun hb => by cases hb) (fun _ => ?_)
        (refine Ok.exit ?_; simp only [thenK_exit, blockK_exit, noGotoK_exit, thenK_normal, blockK_normal, noGotoK_normal, ↓reduceIte, Nat.reduceEqDiff])
        have hnl := numL_lt w w.length hdig (Nat.le_refl _)
        rw [List.take_length] at hnl
        have hpow : 10 ^ w.length ≤ 100 := Nat.pow_le_pow_right (by decide) hl3
        rw [List.take_length]
        (first|refine qE ?_|refine qD ?_);(simp only [go_sem,↓dP,↓reduceIte];with_reducible and_intros;all_goals first|apply qA|exact qC|skip)
        (refine AskGI.ret (fun _ => c_Itoa _ (by omega) (by omega)) ?_; simp only [go_sem,↓dP,↓reduceIte];with_reducible and_intros;all_goals first|apply qA|exact qC|skip)
        rw [hit]
        (refine AskI.ret (c_need_if (by simp [hne]) _) ?_; simp only [go_sem,↓dP,↓reduceIte];with_reducible and_intros;all_goals first|apply qA|exact qC|skip)
        (first|refine qE ?_|refine qD ?_);(simp only [go_sem,↓dP,↓reduceIte];with_reducible and_intros;all_goals first|apply qA|exact qC|skip)
        (try dsimp only [thenK, blockK, noGotoK])
        (first|refine qE ?_|refine qD ?_);(simp only [go_sem,↓dP,↓reduceIte];with_reducible and_intros;all_goals first|apply qA|exact qC|skip)
        (try dsimp only [thenK, blockK, noGotoK])
        refine ⟨trivial, ?_⟩
        (refine Sub.of ([]) ([some 1]) ?_ ?_ ?_ rfl rfl <;> simp only [subB, subB1, subT, subT1, newT, subE, subV, subL, go_sem,↓dP,↓reduceIte] <;> (try (repeat' with_reducible apply And.intro)) <;> (try first | exact DEq.refl _ | refine DEq.int ?_ | refine DEq.bool ?_ | omega))
        · rw [hsn]; simp
        · rw [hsn]
          exact snoc_D (fun c hc => by have : c = 0 := by omega
                                       subst this; rfl)
    · intro _
      ((first|refine qE ?_|refine qD ?_);(simp only [go_sem,↓dP,↓reduceIte];with_reducible and_intros;all_goals first|apply qA|exact qC|skip)); refine Ok.seq ?_; refine Ok.cond rfl (fun hb => by simp at hb) (fun _ => ?_); (refine Ok.exit ?_; simp only [thenK_exit, blockK_exit, noGotoK_exit, thenK_normal, blockK_normal, noGotoK_normal, ↓reduceIte, Nat.reduceEqDiff])
      (first|refine qE ?_|refine qD ?_);(simp only [go_sem,↓dP,↓reduceIte];with_reducible and_intros;all_goals first|apply qA|exact qC|skip)
      (refine Ok.ret ?_; (try dsimp only [thenK, blockK, noGotoK]); simp only [toList_mk, List.toList_toArray, retK_ret, retK_normal, resOK, resV, celV, rowV, frzAll, frzT, subV, subL, go_sem,↓dP,↓reduceIte])
      simp only [List.take_length]
      ((repeat' with_reducible apply And.intro) <;> (first | exact DEq.refl _ | refine DEq.int ?_ | refine DEq.bool ?_ | skip))
  by_cases hk : isKind (V.getD 0 default)
  · have hb : ¬ ∀ w ∈ ws, isNum w := fun hb => hno ⟨hk, hb⟩
    obtain ⟨i0, hi0, hok, hbad⟩ := bad_at ws hb
    refine ⟨ws.getD i0 default, ?_⟩
    (refine CtrP.mk (fn := Tryz.f128) rfl rfl rfl rfl rfl ?_; intro _; dsimp only [args])
    (first|refine qE ?_|refine qD ?_);(simp only [go_sem,↓dP,↓reduceIte];with_reducible and_intros;all_goals first|apply qA|exact qC|skip)
    (first|refine qE ?_|refine qD ?_);(simp only [go_sem,↓dP,↓reduceIte];with_reducible and_intros;all_goals first|apply qA|exact qC|skip)
    (refine AskI.ret (hsp) ?_; simp only [go_sem,↓dP,↓reduceIte];with_reducible and_intros;all_goals first|apply qA|exact qC|skip)
    (first|refine qE ?_|refine qD ?_);(simp only [go_sem,↓dP,↓reduceIte];with_reducible and_intros;all_goals first|apply qA|exact qC|skip)
    (refine AskI.ret (c_words) ?_; simp only [go_sem,↓dP,↓reduceIte];with_reducible and_intros;all_goals first|apply qA|exact qC|skip)
    refine Ok.sub ((Sub.frzB (b := 0) rfl rfl).trans (Sub.refB (b := 0) rfl rfl rfl)) ?_
    simp only [refE, refV, ↓reduceIte, Nat.reduceEqDiff, List.length_cons, List.length_nil, Nat.reduceAdd, Nat.zero_add]
    (first|refine qE ?_|refine qD ?_);(simp only [go_sem,↓dP,↓reduceIte];with_reducible and_intros;all_goals first|apply qA|exact qC|skip)
    (refine AskI.ret (c_names _) ?_; simp only [go_sem,↓dP,↓reduceIte];with_reducible and_intros;all_goals first|apply qA|exact qC|skip)
    (first|refine qE ?_|refine qD ?_);(simp only [go_sem,↓dP,↓reduceIte];with_reducible and_intros;all_goals first|apply qA|exact qC|skip)
    (refine AskI.ret (c_need_if (by simpa using kindN_is.1 hk) _) ?_; simp only [go_sem,↓dP,↓reduceIte];with_reducible and_intros;all_goals first|apply qA|exact qC|skip)
    (first|refine qE ?_|refine qD ?_);(simp only [go_sem,↓dP,↓reduceIte];with_reducible and_intros;all_goals first|apply qA|exact qC|skip)
    refine Ok.seq ?_
    (first|refine qE ?_|refine qD ?_);(simp only [go_sem,↓dP,↓reduceIte];with_reducible and_intros;all_goals first|apply qA|exact qC|skip)
    refine Ok.block ?_
    refine Ok.count i0 (fun i => givS r (kindN (V.getD 0 default)) ws i) (fun _ => True) ⟨trivial, ?_⟩ ?_ ?_
    · (refine Sub.of ([]) ([none]) ?_ ?_ ?_ rfl rfl <;> simp only [subB, subB1, subT, subT1, newT, subE, subV, subL, go_sem,↓dP,↓reduceIte] <;> (try (repeat' with_reducible apply And.intro)) <;> (try first | exact DEq.refl _ | refine DEq.int ?_ | refine DEq.bool ?_ | omega))
      all_goals first | exact hdr | (rw [hwl]; omega) | rfl
    · intro i hi' _
      have hi : i < ws.length := by omega
      have hlen := numV_len (ws := ws) (i := i) (by omega)
      have hsn := numV_snoc hi
      obtain ⟨hne, hdig, hl3, hit⟩ := hok _ (at_take hi' hi)
      generalize hW : ws.getD i default = w at hne hdig hl3 hit hsn
      ((first|refine qE ?_|refine qD ?_);(simp only [go_sem,↓dP,↓reduceIte];with_reducible and_intros;all_goals first|apply qA|exact qC|skip)); refine Ok.seq ?_; refine Ok.cond rfl (fun _ => ?_) (fun hb => by simp at hb; omega); (refine Ok.skip ?_; (try dsimp only [thenK, blockK, noGotoK])); refine Ok.seq ?_; refine Ok.block ?_
      (first|refine qE ?_|refine qD ?_);(simp only [go_sem,↓dP,↓reduceIte];with_reducible and_intros;all_goals first|apply qA|exact qC|skip)
      rw [hW]
      (first|refine qE ?_|refine qD ?_);(simp only [go_sem,↓dP,↓reduceIte];with_reducible and_intros;all_goals first|apply qA|exact qC|skip)
      refine Ok.seq ?_
      (first|refine qE ?_|refine qD ?_);(simp only [go_sem,↓dP,↓reduceIte];with_reducible and_intros;all_goals first|apply qA|exact qC|skip)
      refine Ok.block ?_
      refine Ok.count w.length (fun k => ⟨[(0, .d (.str r)), (6, iS (kindN (V.getD 0 default))), (7, .tk 0), (9, .d (.str w)), (10, iS (numL (w.take k) : Nat)), (26, .d (strsD ws)), (27, iS ws.length), (28, iS i), (33, .p 0 0)], [{ frz := false, xs := [], it := some (.str w k) }], [ownD 3 1 intD (numV (ws.take i))]⟩) (fun _ => True) ⟨trivial, ?_⟩ ?_ ?_
      · (refine Sub.of ([0]) ([some 0]) ?_ ?_ ?_ rfl rfl <;> simp only [subB, subB1, subT, subT1, newT, subE, subV, subL, go_sem,↓dP,↓reduceIte] <;> (try (repeat' with_reducible apply And.intro)) <;> (try first | exact DEq.refl _ | refine DEq.int ?_ | refine DEq.bool ?_ | omega))
        all_goals exact fun _ _ _ _ => DEq.refl _
      · intro k hk _
        have hd : digit (w.getD k 0) = true := hdig _ (getD_mem hk)
        have hdec := decode_digit w k hk hd
        (first|refine qE ?_|refine qD ?_);(simp only [go_sem,↓dP,↓reduceIte];with_reducible and_intros;all_goals first|apply qA|exact qC|skip)
        rw [if_pos hk, hdec]
        (simp only [go_sem,↓dP,↓reduceIte];with_reducible and_intros;all_goals first|apply qA|exact qC|skip)
        refine Ok.seq ?_
        refine Ok.cond (b := true) (by first | rfl | (simp only [go_sem,↓dP,↓reduceIte]; rfl)) (fun _ => ?_) (fun hb => by cases hb)
        (refine Ok.skip ?_; (try dsimp only [thenK, blockK, noGotoK]))
        refine Ok.block ?_
        (first|refine qE ?_|refine qD ?_);(simp only [go_sem,↓dP,↓reduceIte];with_reducible and_intros;all_goals first|apply qA|exact qC|skip)
        (first|refine qE ?_|refine qD ?_);(simp only [go_sem,↓dP,↓reduceIte];with_reducible and_intros;all_goals first|apply qA|exact qC|skip)
        simp only [digit, Bool.and_eq_true, decide_eq_true_eq] at hd
        have hnl := numL_lt w k hdig (by omega)
        have hpow : 10 ^ k ≤ 10 := by
          have := Nat.pow_le_pow_right (n := 10) (by decide) (show k ≤ 1 by omega)
          simpa using this
        have hns : numL (w.take (k + 1)) = 10 * numL (w.take k) + ((w.getD k 0).toNat - 48) := by rw [getD_take hk, numL_snoc]; rfl
        generalize hB : (w.getD k 0).toNat = b at hd hns
        (refine AskI.ret (c_need_if (by simp only [hB, Bool.and_eq_true, decide_eq_true_eq]; omega) _) ?_; simp only [go_sem,↓dP,↓reduceIte];with_reducible and_intros;all_goals first|apply qA|exact qC|skip)
        (first|refine qE ?_|refine qD ?_);(simp only [go_sem,↓dP,↓reduceIte];with_reducible and_intros;all_goals first|apply qA|exact qC|skip)
        · exact R32 (by omega) (by omega)
        (try dsimp only [thenK, blockK, noGotoK])
        refine ⟨trivial, ?_⟩
        (refine Sub.of ([0]) ([some 0]) ?_ ?_ ?_ rfl rfl <;> simp only [subB, subB1, subT, subT1, newT, subE, subV, subL, go_sem,↓dP,↓reduceIte] <;> (try (repeat' with_reducible apply And.intro)) <;> (try first | exact DEq.refl _ | refine DEq.int ?_ | refine DEq.bool ?_ | omega))
        all_goals first | (exact fun _ _ _ _ => DEq.refl _) | (rw [hns]; omega)
      · intro _
        (first|refine qE ?_|refine qD ?_);(simp only [go_sem,↓dP,↓reduceIte];with_reducible and_intros;all_goals first|apply qA|exact qC|skip)
        rw [if_neg (by omega)]
        (simp only [go_sem,↓dP,↓reduceIte];with_reducible and_intros;all_goals first|apply qA|exact qC|skip)
        refine Ok.seq ?_
        refine Ok.cond (b := false) (by first | rfl | (simp only [go_sem,↓dP,↓reduceIte]; rfl)) (fun hb => by cases hb) (fun _ => ?_)
        (refine Ok.exit ?_; simp only [thenK_exit, blockK_exit, noGotoK_exit, thenK_normal, blockK_normal, noGotoK_normal, ↓reduceIte, Nat.reduceEqDiff])
        have hnl := numL_lt w w.length hdig (Nat.le_refl _)
        rw [List.take_length] at hnl
        have hpow : 10 ^ w.length ≤ 100 := Nat.pow_le_pow_right (by decide) hl3
        rw [List.take_length]
        (first|refine qE ?_|refine qD ?_);(simp only [go_sem,↓dP,↓reduceIte];with_reducible and_intros;all_goals first|apply qA|exact qC|skip)
        (refine AskGI.ret (fun _ => c_Itoa _ (by omega) (by omega)) ?_; simp only [go_sem,↓dP,↓reduceIte];with_reducible and_intros;all_goals first|apply qA|exact qC|skip)
        rw [hit]
        (refine AskI.ret (c_need_if (by simp [hne]) _) ?_; simp only [go_sem,↓dP,↓reduceIte];with_reducible and_intros;all_goals first|apply qA|exact qC|skip)
        (first|refine qE ?_|refine qD ?_);(simp only [go_sem,↓dP,↓reduceIte];with_reducible and_intros;all_goals first|apply qA|exact qC|skip)
        (try dsimp only [thenK, blockK, noGotoK])
        (first|refine qE ?_|refine qD ?_);(simp only [go_sem,↓dP,↓reduceIte];with_reducible and_intros;all_goals first|apply qA|exact qC|skip)
        (try dsimp only [thenK, blockK, noGotoK])
        refine ⟨trivial, ?_⟩
        (refine Sub.of ([]) ([some 1]) ?_ ?_ ?_ rfl rfl <;> simp only [subB, subB1, subT, subT1, newT, subE, subV, subL, go_sem,↓dP,↓reduceIte] <;> (try (repeat' with_reducible apply And.intro)) <;> (try first | exact DEq.refl _ | refine DEq.int ?_ | refine DEq.bool ?_ | omega))
        · rw [hsn]; simp
        · rw [hsn]
          exact snoc_D (fun c hc => by have : c = 0 := by omega
                                       subst this; rfl)
    · intro _
      generalize hW : ws.getD i0 default = w at hbad
      have hlen := numV_len (ws := ws) (i := i0) (by omega)
      ((first|refine qE ?_|refine qD ?_);(simp only [go_sem,↓dP,↓reduceIte];with_reducible and_intros;all_goals first|apply qA|exact qC|skip)); refine Ok.seq ?_; refine Ok.cond rfl (fun _ => ?_) (fun hb => by simp at hb; omega); (refine Ok.skip ?_; (try dsimp only [thenK, blockK, noGotoK])); refine Ok.seq ?_; refine Ok.block ?_
      (first|refine qE ?_|refine qD ?_);(simp only [go_sem,↓dP,↓reduceIte];with_reducible and_intros;all_goals first|apply qA|exact qC|skip)
      rw [hW]
      (first|refine qE ?_|refine qD ?_);(simp only [go_sem,↓dP,↓reduceIte];with_reducible and_intros;all_goals first|apply qA|exact qC|skip)
      refine Ok.seq ?_
      (first|refine qE ?_|refine qD ?_);(simp only [go_sem,↓dP,↓reduceIte];with_reducible and_intros;all_goals first|apply qA|exact qC|skip)
      refine Ok.block ?_

      obtain ⟨k0, hk0, hpre, hl0, hstop⟩ := stop_at hbad
      refine Ok.count k0 (fun k => ⟨[(0, .d (.str r)), (6, iS (kindN (V.getD 0 default))), (7, .tk 0), (9, .d (.str w)), (10, iS (numL (w.take k) : Nat)), (26, .d (strsD ws)), (27, iS ws.length), (28, iS i0), (33, .p 0 0)], [{ frz := false, xs := [], it := some (.str w k) }], [ownD 3 1 intD (numV (ws.take i0))]⟩) (fun _ => True) ⟨trivial, ?_⟩ ?_ ?_
      · (refine Sub.of ([0]) ([some 0]) ?_ ?_ ?_ rfl rfl <;> simp only [subB, subB1, subT, subT1, newT, subE, subV, subL, go_sem,↓dP,↓reduceIte] <;> (try (repeat' with_reducible apply And.intro)) <;> (try first | exact DEq.refl _ | refine DEq.int ?_ | refine DEq.bool ?_ | omega))
        all_goals exact fun _ _ _ _ => DEq.refl _
      · intro k hk' _
        have hk : k < w.length := by omega
        have hl3 := hl0 (by omega)
        have hd : digit (w.getD k 0) = true := hpre k hk'
        have hdec := decode_digit w k hk hd
        (first|refine qE ?_|refine qD ?_);(simp only [go_sem,↓dP,↓reduceIte];with_reducible and_intros;all_goals first|apply qA|exact qC|skip)
        rw [if_pos hk, hdec]
        (simp only [go_sem,↓dP,↓reduceIte];with_reducible and_intros;all_goals first|apply qA|exact qC|skip)
        refine Ok.seq ?_
        refine Ok.cond (b := true) (by first | rfl | (simp only [go_sem,↓dP,↓reduceIte]; rfl)) (fun _ => ?_) (fun hb => by cases hb)
        (refine Ok.skip ?_; (try dsimp only [thenK, blockK, noGotoK]))
        refine Ok.block ?_
        (first|refine qE ?_|refine qD ?_);(simp only [go_sem,↓dP,↓reduceIte];with_reducible and_intros;all_goals first|apply qA|exact qC|skip)
        (first|refine qE ?_|refine qD ?_);(simp only [go_sem,↓dP,↓reduceIte];with_reducible and_intros;all_goals first|apply qA|exact qC|skip)
        simp only [digit, Bool.and_eq_true, decide_eq_true_eq] at hd
        have hnl := numL_lt' w k (fun i hi => hpre i (by omega)) (by omega)
        have hpow : 10 ^ k ≤ 10 := by
          have := Nat.pow_le_pow_right (n := 10) (by decide) (show k ≤ 1 by omega)
          simpa using this
        have hns : numL (w.take (k + 1)) = 10 * numL (w.take k) + ((w.getD k 0).toNat - 48) := by rw [getD_take hk, numL_snoc]; rfl
        generalize hB : (w.getD k 0).toNat = b at hd hns
        (refine AskI.ret (c_need_if (by simp only [hB, Bool.and_eq_true, decide_eq_true_eq]; omega) _) ?_; simp only [go_sem,↓dP,↓reduceIte];with_reducible and_intros;all_goals first|apply qA|exact qC|skip)
        (first|refine qE ?_|refine qD ?_);(simp only [go_sem,↓dP,↓reduceIte];with_reducible and_intros;all_goals first|apply qA|exact qC|skip)
        · exact R32 (by omega) (by omega)
        (try dsimp only [thenK, blockK, noGotoK])
        refine ⟨trivial, ?_⟩
        (refine Sub.of ([0]) ([some 0]) ?_ ?_ ?_ rfl rfl <;> simp only [subB, subB1, subT, subT1, newT, subE, subV, subL, go_sem,↓dP,↓reduceIte] <;> (try (repeat' with_reducible apply And.intro)) <;> (try first | exact DEq.refl _ | refine DEq.int ?_ | refine DEq.bool ?_ | omega))
        all_goals first | (exact fun _ _ _ _ => DEq.refl _) | (rw [hns]; omega)
      · intro _
        rcases hstop with ⟨hk, hst⟩ | ⟨hk, hst⟩
        · have hdec : digit (w.getD k0 0) = false → _ := decode_none w k0 hk
          (first|refine qE ?_|refine qD ?_);(simp only [go_sem,↓dP,↓reduceIte];with_reducible and_intros;all_goals first|apply qA|exact qC|skip)
          rw [if_pos hk]
          (simp only [go_sem,↓dP,↓reduceIte];with_reducible and_intros;all_goals first|apply qA|exact qC|skip)
          refine Ok.seq ?_
          refine Ok.cond (b := true) (by first | rfl | (simp only [go_sem,↓dP,↓reduceIte]; rfl)) (fun _ => ?_) (fun hb => by cases hb)
          (refine Ok.skip ?_; (try dsimp only [thenK, blockK, noGotoK]))
          refine Ok.block ?_
          (first|refine qE ?_|refine qD ?_);(simp only [go_sem,↓dP,↓reduceIte];with_reducible and_intros;all_goals first|apply qA|exact qC|skip)
          (first|refine qE ?_|refine qD ?_);(simp only [go_sem,↓dP,↓reduceIte];with_reducible and_intros;all_goals first|apply qA|exact qC|skip)
          have hc : (decide ((48 : Int) ≤ ((Utf8.decode ⟨w.toArray⟩ k0).1 : Int)) && decide (((Utf8.decode ⟨w.toArray⟩ k0).1 : Int) ≤ 57) && decide ((w.length : Int) ≤ 2)) = false := by
            simp only [Bool.and_eq_false_iff, decide_eq_false_iff_not]
            rcases hst with h | h
            · have := hdec h; omega
            · omega
          (refine AskI.pan (c_need_no hc _) ?_; simp only [go_sem,↓dP,↓reduceIte];with_reducible and_intros;all_goals first|apply qA|exact qC|skip)
          exact .refl _
        · subst hk
          (first|refine qE ?_|refine qD ?_);(simp only [go_sem,↓dP,↓reduceIte];with_reducible and_intros;all_goals first|apply qA|exact qC|skip)
          rw [if_neg (by omega)]
          (simp only [go_sem,↓dP,↓reduceIte];with_reducible and_intros;all_goals first|apply qA|exact qC|skip)
          refine Ok.seq ?_
          refine Ok.cond (b := false) (by first | rfl | (simp only [go_sem,↓dP,↓reduceIte]; rfl)) (fun hb => by cases hb) (fun _ => ?_)
          (refine Ok.exit ?_; simp only [thenK_exit, blockK_exit, noGotoK_exit, thenK_normal, blockK_normal, noGotoK_normal, ↓reduceIte, Nat.reduceEqDiff])
          have hl3 : w.length ≤ 2 := by
            rcases Nat.eq_zero_or_pos w.length with h | h
            · omega
            · exact hl0 h
          have hnl := numL_lt' w w.length hpre (Nat.le_refl _)
          rw [List.take_length] at hnl
          have hpow : 10 ^ w.length ≤ 100 := Nat.pow_le_pow_right (by decide) hl3
          rw [List.take_length]
          (first|refine qE ?_|refine qD ?_);(simp only [go_sem,↓dP,↓reduceIte];with_reducible and_intros;all_goals first|apply qA|exact qC|skip)
          (refine AskGI.ret (fun _ => c_Itoa _ (by omega) (by omega)) ?_; simp only [go_sem,↓dP,↓reduceIte];with_reducible and_intros;all_goals first|apply qA|exact qC|skip)
          have hc : (w != [] && Lib.itoa ((numL w : Nat) : Int) == w) = false := by
            rcases hst with h | h
            · subst h; rfl
            · simp [h]
          (refine AskI.pan (c_need_no hc _) ?_; simp only [go_sem,↓dP,↓reduceIte];with_reducible and_intros;all_goals first|apply qA|exact qC|skip)
          exact .refl _
  · refine ⟨r, ?_⟩
    have hc : decide ((0 : Int) ≤ kindN (V.getD 0 default)) = false := by
      have : ¬ 0 ≤ kindN (V.getD 0 default) := fun q => hk (kindN_is.2 q)
      simpa using this
    (refine CtrP.mk (fn := Tryz.f128) rfl rfl rfl rfl rfl ?_; intro _; dsimp only [args])
    (first|refine qE ?_|refine qD ?_);(simp only [go_sem,↓dP,↓reduceIte];with_reducible and_intros;all_goals first|apply qA|exact qC|skip)
    (first|refine qE ?_|refine qD ?_);(simp only [go_sem,↓dP,↓reduceIte];with_reducible and_intros;all_goals first|apply qA|exact qC|skip)
    (refine AskI.ret (hsp) ?_; simp only [go_sem,↓dP,↓reduceIte];with_reducible and_intros;all_goals first|apply qA|exact qC|skip)
    (first|refine qE ?_|refine qD ?_);(simp only [go_sem,↓dP,↓reduceIte];with_reducible and_intros;all_goals first|apply qA|exact qC|skip)
    (refine AskI.ret (c_words) ?_; simp only [go_sem,↓dP,↓reduceIte];with_reducible and_intros;all_goals first|apply qA|exact qC|skip)
    refine Ok.sub ((Sub.frzB (b := 0) rfl rfl).trans (Sub.refB (b := 0) rfl rfl rfl)) ?_
    simp only [refE, refV, ↓reduceIte, Nat.reduceEqDiff, List.length_cons, List.length_nil, Nat.reduceAdd, Nat.zero_add]
    (first|refine qE ?_|refine qD ?_);(simp only [go_sem,↓dP,↓reduceIte];with_reducible and_intros;all_goals first|apply qA|exact qC|skip)
    (refine AskI.ret (c_names _) ?_; simp only [go_sem,↓dP,↓reduceIte];with_reducible and_intros;all_goals first|apply qA|exact qC|skip)
    (first|refine qE ?_|refine qD ?_);(simp only [go_sem,↓dP,↓reduceIte];with_reducible and_intros;all_goals first|apply qA|exact qC|skip)
    (refine AskI.pan (c_need_no hc _) ?_; simp only [go_sem,↓dP,↓reduceIte];with_reducible and_intros;all_goals first|apply qA|exact qC|skip)
    exact .refl _
end
end Go.Proofs.Leaf
namespace Go.Proofs.Leaf
open Go Go.RX Go.Proofs Go.RowKit
set_option maxRecDepth 10000
section
variable [Glob]
def CtrN (f:FuncId) (A:List SV):Prop :=
 (∃ fn,Tryz.prog.funcs[f]? = some fn/\(fn.name == "runtime.NumGoroutine") = false/\fn.body.isNone = false) /\
 ∀ (I:Nat->Prop) (w:World) (vs:Array Value),Glob.G w->(∀ b,I b->b < w.heap.size)->(∀ b,I b->Glob.M ≠ some b)->vs.size = A.length->(∀ (j:Nat) (u:Value) (s:SV),vs[j]? = some u->A[j]? = some s->RepS I w u s) ->
  Calls Tryz.prog f vs w fun e w' => ∃ t,e = .panicked [{ v:=.iface 148 (.agg #[.string t]),recovered:=false }]/\Keep w.heap.size w w'
theorem noT_val {I:Nat->Prop} {w:World} {v:Value} {x:List UInt8} (h:Rep I w v (noT x)):∃ t,v = .iface 148 (.agg #[.string t]):=by
 cases h with
 | ifc hl hr =>
  rename_i us
  obtain ⟨u,rfl⟩:∃ u,us = #[u]:=Array.size_eq_one_iff.1 hl
  have:=hr 0 u rfl
  change Rep I w u (.str x) at this
  cases this;exact ⟨_,rfl⟩
theorem two_mk {S:Type} {f:FuncId} {fn:Func} {c:Code} {A:List SV} {N:Nat} (rv:S->SV) (o:Option S) (hf:Tryz.prog.funcs[f]? = some fn) (hb:fn.body = some c) (hname:(fn.name == "runtime.NumGoroutine") = false) (hN:fn.ntmps = N) (hn:Nat.ble A.length N = true) {rs:Array ResultVar} (hr:fn.results = rs)
  (h:∀ b:Bas,@Ok _ _ ⟨none⟩ b Tryz.prog N c { env:=args 0 A,bx:=[],tk:=[] } (fun e σ => ∃ s,o = some s/\retK Tryz.prog rs.toList (rv s) e σ) (fun d => o = none/\∃ x,DEq d (noT x))) :
  (∀ s,o = some s->Ctr Tryz.prog f A (rv s))/\(o = none->CtrN f A):=by
 subst hN;subst hr
 refine ⟨fun s hs => Ctr.of_body hf hb hname (Nat.le_of_ble_eq_true hn) (fun b => (h b).mono ?_ ?_),fun ho => ⟨⟨fn,hf,hname,by simp [hb]⟩,fun I w vs hG hI hM hl hA => ?_⟩⟩
 ·rintro e σ ⟨s',hs',hk⟩
  rw [hs] at hs';cases hs'
  exact hk
 ·rintro d ⟨h0,_⟩
  rw [hs] at h0;cases h0
 ·refine calls_of_wp hf hb ?_
  refine wp_mono ((wpIn_wide (n:=0)).1 (h ⟨I,w⟩ _ w (St.start hG hI hM hl (Nat.le_of_ble_eq_true hn) hA))) ?_
  intro e a' w' hq
  cases e with
  | panic ch =>
   obtain ⟨d',⟨_,x,hd⟩,hdf,⟨v,I',rfl,h1,h2,h3⟩,hbel⟩:=hq
   obtain ⟨t,rfl⟩:=noT_val (hd _ _ _ h3)
   exact ⟨hdf,t,rfl,hbel⟩
  | _ => obtain ⟨σ',⟨s,hs,_⟩,_⟩:=hq;rw [ho] at hs;cases hs
end
section
theorem numV_of {W:List (List UInt8)} {n:Nat} (h:W.length = n + 1):numV (W.drop 1) = (List.range n).map (fun i => nth' W (1 + i)):=by
 refine List.ext_getElem (by simp [numV];omega) (fun i h1 h2 => ?_)
 simp only [numV,List.getElem_map,List.getElem_drop,List.getElem_range,nth']
 simp only [numV,List.length_map,List.length_drop] at h1
 rw [getD_lt (by omega)]
theorem tail_given {opsA:Array Oper} {m k N:Nat} [b:Bas] {σ:Sy} {K:Exit->Sy->Prop} {Kp:DV->Prop} {t:Nat} {dst:Option Tmp} {ty:TypeId} {pos:String} {af:Array Edge} {ts:Array TypeId} {r x:List UInt8} {Y:Nat->Option Bool} {a:Act} {w:World} (hinv:Inv Y (lk σ.env) (nth σ.bx) (nth σ.tk) b.I0 N b.w0 a w)
  (ho:opsA[m]? = some { dst:=dst,op:=.call ⟨.value (.func 128),#[.tmp t],ts⟩,type:=ty,pos:=pos,after:=af,guard:=none }) (ht:lk σ.env t = .d (.str r)) (hc:CtrP Tryz.prog 128 [.d (.str r)] (noT x)) (hk:Kp (noT x)):@wpOpsIn (@fen ⟨none⟩) 0 Tryz.prog opsA (QK K Kp b.I0 N b.w0) (List.range' m (k + 1)) a w:=by
 obtain ⟨I,β,τ,hx⟩:=hinv
 have hm:=hx.env t
 rw [ht] at hm
 have hv:a.tmps.getD t undef = .string ⟨r.toArray⟩:=by
  have h:=mt_d (hm.un (fun _ _ _ e => by cases e))
  generalize a.tmps.getD t undef = u at h
  cases h with
  | @str s l h =>
   obtain ⟨⟨d⟩⟩:=s
   simp at h;subst h;rfl
 have hcall:=hc.2 (fun _ => False) w #[.string ⟨r.toArray⟩] (hx.bel.gl hx.bs) (fun _ h => h.elim) (fun _ h => h.elim) rfl (fun j u s hu hs => by
  rcases j with _ | j
  ·cases hu;cases hs;exact fun Y => .d (.str rfl)
  ·simp at hs)
 refine tail_callP (fn:=Tryz.f128) ho rfl rfl rfl (vs:=#[.string ⟨r.toArray⟩]) ?_ hcall (fun e w' hq => ?_)
 ·simp only [List.map_toArray,List.map_cons,List.map_nil]
  rw [show a.eval (.tmp t) = a.tmps.getD t undef from rfl,hv]
 ·obtain ⟨v,I',rfl,h1,h2,h3,h4⟩:=hq
  exact ⟨_,rfl,_,hk,hx.pan h4 h1 (fun b hb => (h2 b hb).imp (fun q => q.elim) (fun q => q)) h3⟩
def parSt (t:List UInt8) (m:List (List UInt8)) (W:List (List UInt8)) (i:Nat) (st:PS):Sy :=
 ⟨[(0,.d (.str t)),(2,.p 0 0),(6,.p 1 0),(47,.d (strsD m)),(48,iS m.length),(49,iS i)],
  [{ frz:=false,xs:=[iS 0,iS 0,iS 0,iS 0,.d .nils,.d .nils] },{ frz:=false,xs:=[iS (nth' W 1),iS (nth' W 2),iS (nth' W 3),iS (nth' W 4),.tk 0,.tk 1] }],
  [ownD 96 4 groD st.1,ownD 34 4 pieD st.2]⟩
theorem parsed_walk (t : List UInt8) (ht : t.length ≤ 180) : (∀ J, parseP t = some J → Ctr Tryz.prog 99 [.d (.str t)] J.sv) ∧ (parseP t = none → CtrN 99 [.d (.str t)]) := by
  refine two_mk (fn := Tryz.f99) Job.sv (parseP t) rfl rfl rfl rfl rfl Tryz.results99 (fun b => ?_)
  dsimp only [args]
  have hrl := splitL_len t [10] (by decide)
  have hr0 := splitL_pos t [10] (by decide)
  have hrs := splitL_short 10 t
  have spr := c_Split t [10] (by omega) (by decide)
  obtain ⟨rows, hr⟩ : ∃ rows, splitL t [10] = rows := ⟨_, rfl⟩
  rw [hr] at hrl hr0 hrs spr
  have hW0 := splitL_pos (rows.getD 0 default) [32] (by decide)
  have hWl := splitL_len (rows.getD 0 default) [32] (by decide)
  have hW1 := hrs 0
  obtain ⟨W, hW⟩ : ∃ W, splitL (rows.getD 0 default) [32] = W := ⟨_, rfl⟩
  rw [hW] at hW0 hWl
  have hgw := given_walk (rows.getD 0 default) W (W.drop 1) hW rfl (by omega)
  (first|refine qE ?_|refine qD ?_);(simp only [go_sem,↓dP,↓reduceIte];with_reducible and_intros;all_goals first|apply qA|exact qC|skip)
  (first|refine qE ?_|refine qD ?_);(simp only [go_sem,↓dP,↓reduceIte];with_reducible and_intros;all_goals first|apply qA|exact qC|skip)
  (refine AskI.ret (spr) ?_; simp only [go_sem,↓dP,↓reduceIte];with_reducible and_intros;all_goals first|apply qA|exact qC|skip)
  (first|refine qE ?_|refine qD ?_);(simp only [go_sem,↓dP,↓reduceIte];with_reducible and_intros;all_goals first|apply qA|exact qC|skip)
  by_cases h3 : 3 ≤ rows.length
  rotate_left
  · have hc : decide ((3 : Int) ≤ (rows.length : Int)) = false := by simp; omega
    (refine AskI.pan (c_need_no hc _) ?_; simp only [go_sem,↓dP,↓reduceIte];with_reducible and_intros;all_goals first|apply qA|exact qC|skip)
    · exact parse_few hr h3
    · exact ⟨_, .refl _⟩
  have hc : decide ((3 : Int) ≤ (rows.length : Int)) = true := by simp; omega
  (refine AskI.ret (c_need_if hc _) ?_; simp only [go_sem,↓dP,↓reduceIte];with_reducible and_intros;all_goals first|apply qA|exact qC|skip)
  by_cases hgood : isKind (W.getD 0 default) ∧ (∀ w ∈ W.drop 1, isNum w)
  rotate_left
  · obtain ⟨x, hx⟩ := hgw.2 hgood
    ((first | refine qT 3 ?h1 ?h2 ?h3 ?h4 ?_ | refine qU 3 ?h1 ?h2 ?h3 ?h4 ?_); (case h1 => rfl); (case h2 => rfl); (case h3 => rfl); (case h4 => rfl); simp only [go_sem,↓dP,↓reduceIte];with_reducible and_intros;all_goals first|apply qA|exact qC|skip)
    intro Y a w hinv
    exact tail_given hinv rfl rfl hx ⟨parse_head hr hW (fun q => hgood ⟨q.1, q.2.2⟩), _, .refl _⟩
  (first|refine qE ?_|refine qD ?_);(simp only [go_sem,↓dP,↓reduceIte];with_reducible and_intros;all_goals first|apply qA|exact qC|skip)
  have hg1 := hgw.1 hgood
  by_cases h5 : W.length = 5
  rotate_left
  · (refine AskI.ret (hg1) ?_; simp only [go_sem,↓dP,↓reduceIte];with_reducible and_intros;all_goals first|apply qA|exact qC|skip)
    (first|refine qE ?_|refine qD ?_);(simp only [go_sem,↓dP,↓reduceIte];with_reducible and_intros;all_goals first|apply qA|exact qC|skip)
    have hc : (((numV (W.drop 1)).length : Int) == 4) = false := by
      have : (numV (W.drop 1)).length = W.length - 1 := by simp [numV]
      rw [this, beq_eq_false_iff_ne]; omega
    (refine AskI.pan (c_need_no hc _) ?_; simp only [go_sem,↓dP,↓reduceIte];with_reducible and_intros;all_goals first|apply qA|exact qC|skip)
    · exact parse_head hr hW (fun q => h5 (by have := q.2.1; rw [List.length_drop] at this; omega))
    · exact ⟨_, .refl _⟩
  have h4 : nums (W.drop 1) 4 := nums_of hgood.2 h5
  have hls : numV (W.drop 1) = [nth' W 1, nth' W 2, nth' W 3, nth' W 4] := (numV_of h5).trans rfl
  rw [hls] at hg1
  (refine AskI.ret (hg1) ?_; simp only [go_sem,↓dP,↓reduceIte];with_reducible and_intros;all_goals first|apply qA|exact qC|skip)
  (first|refine qE ?_|refine qD ?_);(simp only [go_sem,↓dP,↓reduceIte];with_reducible and_intros;all_goals first|apply qA|exact qC|skip)
  (refine AskI.ret (c_need_ok _) ?_; simp only [go_sem,↓dP,↓reduceIte];with_reducible and_intros;all_goals first|apply qA|exact qC|skip)
  (first|refine qE ?_|refine qD ?_);(simp only [go_sem,↓dP,↓reduceIte];with_reducible and_intros;all_goals first|apply qA|exact qC|skip)
  refine Ok.seq ?_
  (first|refine qE ?_|refine qD ?_);(simp only [go_sem,↓dP,↓reduceIte];with_reducible and_intros;all_goals first|apply qA|exact qC|skip)
  refine Ok.block ?_
  have hml : (midL rows).length = rows.length - 3 := by unfold midL; rw [List.length_take, List.length_drop]; omega
  have hmd : DEq (.sl 1 ((rows.length : Int) - 2 - 1).toNat (fun i j => strD (rows.getD (1 + i) default) j)) (strsD (midL rows)) := slice_D (k := 1) (f := strD) (l := rows) (a := 1) (m := rows.length - 3) (by omega) (by omega)
  have hmg : ∀ i, i < (midL rows).length → ((midL rows).getD i default).length ≤ t.length := by
    intro i hi
    rw [hml] at hi
    have e : (midL rows).getD i default = rows.getD (1 + i) default := by
      unfold midL
      rw [List.getD_eq_getElem?_getD, List.getD_eq_getElem?_getD, List.getElem?_take_of_lt hi, List.getElem?_drop]
    rw [e]; exact hrs _
  refine Ok.count (midL rows).length (fun i => parSt t (midL rows) W i ((preL (midL rows) i).getD ([], []))) (fun i => ∃ st, preL (midL rows) i = some st) ⟨⟨_, preL_zero _⟩, ?_⟩ ?_ ?_
  · simp only [preL_zero, Option.getD_some, parSt]
    (refine Sub.of ([0, 1]) ([none, none]) ?_ ?_ ?_ rfl rfl <;> simp only [subB, subB1, subT, subT1, newT, subE, subV, subL, go_sem,↓dP,↓reduceIte] <;> (try (repeat' with_reducible apply And.intro)) <;> (try first | exact DEq.refl _ | refine DEq.int ?_ | refine DEq.bool ?_ | omega))
    all_goals first | exact hmd | exact DEq.nils rfl | omega
  · rintro i hi ⟨⟨gs, ps⟩, hst⟩
    obtain ⟨hpl, hnr⟩ := preL_plain (midL rows) i _ (by omega) hst
    have hgl : gs.length ≤ 500 := by simp only [nrows] at hnr; omega
    have hpl' : ps.length ≤ 500 := by simp only [nrows] at hnr; omega
    have hpf := fun q => parse_line hr (preL_fail (midL rows) hi hst q)
    simp only [hst, Option.getD_some, parSt]
    have hLr := hmg i hi
    obtain ⟨r, hrow⟩ : ∃ r, (midL rows).getD i default = r := ⟨_, rfl⟩
    rw [hrow] at hLr hpf
    have hnx := preL_succ (midL rows) hi
    rw [hst, hrow] at hnx
    obtain ⟨V, hV⟩ : ∃ V, splitL r [32] = V := ⟨_, rfl⟩
    have hgv := given_walk r V (V.drop 1) hV rfl (by omega)
    ((first|refine qE ?_|refine qD ?_);(simp only [go_sem,↓dP,↓reduceIte];with_reducible and_intros;all_goals first|apply qA|exact qC|skip)); refine Ok.seq ?_; refine Ok.cond rfl (fun _ => ?_) (fun hb => by simp at hb; omega); (refine Ok.skip ?_; (try dsimp only [thenK, blockK, noGotoK])); refine Ok.seq ?_; refine Ok.block ?_
    (first|refine qE ?_|refine qD ?_);(simp only [go_sem,↓dP,↓reduceIte];with_reducible and_intros;all_goals first|apply qA|exact qC|skip)
    rw [hrow]
    by_cases hgood' : isKind (V.getD 0 default) ∧ (∀ w ∈ V.drop 1, isNum w)
    rotate_left
    · obtain ⟨x, hx⟩ := hgv.2 hgood'
      ((first | refine qT 1 ?h1 ?h2 ?h3 ?h4 ?_ | refine qU 1 ?h1 ?h2 ?h3 ?h4 ?_); (case h1 => rfl); (case h2 => rfl); (case h3 => rfl); (case h4 => rfl); simp only [go_sem,↓dP,↓reduceIte];with_reducible and_intros;all_goals first|apply qA|exact qC|skip)
      intro Y a w hinv
      exact tail_given hinv rfl rfl hx ⟨hpf (stepP_bad hV hgood'), _, .refl _⟩
    have hg2 := hgv.1 hgood'
    have hvl : (numV (V.drop 1)).length = V.length - 1 := by simp [numV]
    by_cases hgr : V.getD 0 default = groundW
    · have hstep := stepP_ground (st := (gs, ps)) hV hgr hgood'.2
      have hk1 := kindN_ground.2 hgr
      rw [hk1] at hg2
      by_cases hv5 : V.length = 5
      rotate_left
      · rw [if_neg hv5] at hstep
        (first|refine qE ?_|refine qD ?_);(simp only [go_sem,↓dP,↓reduceIte];with_reducible and_intros;all_goals first|apply qA|exact qC|skip)
        (refine AskI.ret (hg2) ?_; simp only [go_sem,↓dP,↓reduceIte];with_reducible and_intros;all_goals first|apply qA|exact qC|skip)
        refine Ok.seq ?_
        (first|refine qE ?_|refine qD ?_);(simp only [go_sem,↓dP,↓reduceIte];with_reducible and_intros;all_goals first|apply qA|exact qC|skip)
        refine Ok.cond (b := true) (by first | rfl | (simp only [go_sem,↓dP,↓reduceIte]; rfl)) (fun _ => ?_) (fun hb => by cases hb)
        (first|refine qE ?_|refine qD ?_);(simp only [go_sem,↓dP,↓reduceIte];with_reducible and_intros;all_goals first|apply qA|exact qC|skip)
        have hc : (((numV (V.drop 1)).length : Int) == 4) = false := by rw [hvl, beq_eq_false_iff_ne]; omega
        (refine AskI.pan (c_need_no hc _) ?_; simp only [go_sem,↓dP,↓reduceIte];with_reducible and_intros;all_goals first|apply qA|exact qC|skip)
        · exact hpf hstep
        · exact ⟨_, .refl _⟩
      rw [if_pos hv5] at hstep
      have hls : numV (V.drop 1) = [nth' V 1, nth' V 2, nth' V 3, nth' V 4] := (numV_of hv5).trans rfl
      rw [hls] at hg2
      have hnx' : preL (midL rows) (i + 1) = some (gs ++ [⟨nth' V 1, nth' V 2, nth' V 3, nth' V 4⟩], ps) := hnx.trans hstep
      (first|refine qE ?_|refine qD ?_);(simp only [go_sem,↓dP,↓reduceIte];with_reducible and_intros;all_goals first|apply qA|exact qC|skip)
      (refine AskI.ret (hg2) ?_; simp only [go_sem,↓dP,↓reduceIte];with_reducible and_intros;all_goals first|apply qA|exact qC|skip)
      refine Ok.seq ?_
      (first|refine qE ?_|refine qD ?_);(simp only [go_sem,↓dP,↓reduceIte];with_reducible and_intros;all_goals first|apply qA|exact qC|skip)
      refine Ok.cond (b := true) (by first | rfl | (simp only [go_sem,↓dP,↓reduceIte]; rfl)) (fun _ => ?_) (fun hb => by cases hb)
      (first|refine qE ?_|refine qD ?_);(simp only [go_sem,↓dP,↓reduceIte];with_reducible and_intros;all_goals first|apply qA|exact qC|skip)
      (refine AskI.ret (c_need_ok _) ?_; simp only [go_sem,↓dP,↓reduceIte];with_reducible and_intros;all_goals first|apply qA|exact qC|skip)
      (first|refine qE ?_|refine qD ?_);(simp only [go_sem,↓dP,↓reduceIte];with_reducible and_intros;all_goals first|apply qA|exact qC|skip)
      (try dsimp only [thenK, blockK, noGotoK])
      (refine Ok.exit ?_; simp only [thenK_exit, blockK_exit, noGotoK_exit, thenK_normal, blockK_normal, noGotoK_normal, ↓reduceIte, Nat.reduceEqDiff])
      (first|refine qE ?_|refine qD ?_);(simp only [go_sem,↓dP,↓reduceIte];with_reducible and_intros;all_goals first|apply qA|exact qC|skip)
      (try dsimp only [thenK, blockK, noGotoK])
      refine ⟨⟨_, hnx'⟩, ?_⟩
      simp only [hnx', Option.getD_some, parSt]
      (refine Sub.of ([0, 1]) ([some 2, some 1]) ?_ ?_ ?_ rfl rfl <;> simp only [subB, subB1, subT, subT1, newT, subE, subV, subL, go_sem,↓dP,↓reduceIte] <;> (try (repeat' with_reducible apply And.intro)) <;> (try first | exact DEq.refl _ | refine DEq.int ?_ | refine DEq.bool ?_ | omega))
      all_goals first
        | exact fun _ _ _ _ => DEq.refl _
        | exact snoc_D (fun c hc => by match c, hc with | 0, _ | 1, _ | 2, _ | 3, _ => rfl)
        | simp
    · have hstep := stepP_piece (st := (gs, ps)) hV hgood'.1 hgr hgood'.2
      have hk1 : ¬ kindN (V.getD 0 default) = 1 := fun q => hgr (kindN_ground.1 q)
      have hke : (kindN (V.getD 0 default) == 3) = (V.getD 0 default == eitherW) := by
        by_cases q : V.getD 0 default = eitherW
        · rw [kindN_either.2 q, q]; rfl
        · have q' : ¬ kindN (V.getD 0 default) = 3 := fun r => q (kindN_either.1 r)
          rw [beq_eq_false_iff_ne.2 q, beq_eq_false_iff_ne.2 q']
      generalize kindN (V.getD 0 default) = kk at hg2 hk1 hke
      by_cases hv4 : V.length = 4
      rotate_left
      · rw [if_neg hv4] at hstep
        (first|refine qE ?_|refine qD ?_);(simp only [go_sem,↓dP,↓reduceIte];with_reducible and_intros;all_goals first|apply qA|exact qC|skip)
        (refine AskI.ret (hg2) ?_; simp only [go_sem,↓dP,↓reduceIte];with_reducible and_intros;all_goals first|apply qA|exact qC|skip)
        refine Ok.seq ?_
        (first|refine qE ?_|refine qD ?_);(simp only [go_sem,↓dP,↓reduceIte];with_reducible and_intros;all_goals first|apply qA|exact qC|skip)
        refine Ok.cond rfl ?_ ?_
        · intro q; exact absurd (by simpa using q) hk1
        · intro _
          (refine Ok.skip ?_; (try dsimp only [thenK, blockK, noGotoK]))
          (first|refine qE ?_|refine qD ?_);(simp only [go_sem,↓dP,↓reduceIte];with_reducible and_intros;all_goals first|apply qA|exact qC|skip)
          have hc : (((numV (V.drop 1)).length : Int) == 3) = false := by rw [hvl, beq_eq_false_iff_ne]; omega
          (refine AskI.pan (c_need_no hc _) ?_; simp only [go_sem,↓dP,↓reduceIte];with_reducible and_intros;all_goals first|apply qA|exact qC|skip)
          · exact hpf hstep
          · exact ⟨_, .refl _⟩
      rw [if_pos hv4] at hstep
      have hls : numV (V.drop 1) = [nth' V 1, nth' V 2, nth' V 3] := (numV_of hv4).trans rfl
      rw [hls] at hg2
      have hnx' : preL (midL rows) (i + 1) = some (gs, ps ++ [⟨nth' V 1, nth' V 2, V.getD 0 default == eitherW, nth' V 3⟩]) := hnx.trans hstep
      (first|refine qE ?_|refine qD ?_);(simp only [go_sem,↓dP,↓reduceIte];with_reducible and_intros;all_goals first|apply qA|exact qC|skip)
      (refine AskI.ret (hg2) ?_; simp only [go_sem,↓dP,↓reduceIte];with_reducible and_intros;all_goals first|apply qA|exact qC|skip)
      refine Ok.seq ?_
      (first|refine qE ?_|refine qD ?_);(simp only [go_sem,↓dP,↓reduceIte];with_reducible and_intros;all_goals first|apply qA|exact qC|skip)
      refine Ok.cond rfl ?_ ?_
      · intro q; exact absurd (by simpa using q) hk1
      · intro _
        (refine Ok.skip ?_; (try dsimp only [thenK, blockK, noGotoK]))
        (first|refine qE ?_|refine qD ?_);(simp only [go_sem,↓dP,↓reduceIte];with_reducible and_intros;all_goals first|apply qA|exact qC|skip)
        (refine AskI.ret (c_need_ok _) ?_; simp only [go_sem,↓dP,↓reduceIte];with_reducible and_intros;all_goals first|apply qA|exact qC|skip)
        (first|refine qE ?_|refine qD ?_);(simp only [go_sem,↓dP,↓reduceIte];with_reducible and_intros;all_goals first|apply qA|exact qC|skip)
        (try dsimp only [thenK, blockK, noGotoK])
        (first|refine qE ?_|refine qD ?_);(simp only [go_sem,↓dP,↓reduceIte];with_reducible and_intros;all_goals first|apply qA|exact qC|skip)
        (try dsimp only [thenK, blockK, noGotoK])
        refine ⟨⟨_, hnx'⟩, ?_⟩
        simp only [hnx', Option.getD_some, parSt]
        (refine Sub.of ([0, 1]) ([some 0, some 2]) ?_ ?_ ?_ rfl rfl <;> simp only [subB, subB1, subT, subT1, newT, subE, subV, subL, go_sem,↓dP,↓reduceIte] <;> (try (repeat' with_reducible apply And.intro)) <;> (try first | exact DEq.refl _ | refine DEq.int ?_ | refine DEq.bool ?_ | omega))
        all_goals first
          | exact fun _ _ _ _ => DEq.refl _
          | exact snoc_D (fun c hc => by match c, hc with | 0, _ | 1, _ | 3, _ => rfl
                                                          | 2, _ => exact congrArg DV.bool hke)
          | simp
  · rintro ⟨⟨gs, ps⟩, hst⟩
    obtain ⟨hpl, hnr⟩ := preL_plain (midL rows) _ _ (Nat.le_refl _) hst
    have hfin := parse_all hr hW h3 hgood.1 h4 hst
    simp only [hst, Option.getD_some, parSt]
    have hsm : (mkS W (gs, ps)).small := (mkS_plain h4 hpl).small (by simp only [nrows] at hnr; show gs.length + ps.length ≤ 600; omega)
    ((first|refine qE ?_|refine qD ?_);(simp only [go_sem,↓dP,↓reduceIte];with_reducible and_intros;all_goals first|apply qA|exact qC|skip)); refine Ok.seq ?_; refine Ok.cond rfl (fun hb => by simp at hb) (fun _ => ?_); (refine Ok.exit ?_; simp only [thenK_exit, blockK_exit, noGotoK_exit, thenK_normal, blockK_normal, noGotoK_normal, ↓reduceIte, Nat.reduceEqDiff])
    refine Ok.sub (σ' := ⟨[(0, .d (.str t)), (2, .p 0 0), (6, .p 1 0)],
      [{ frz := false, xs := [iS 0, iS 0, iS 0, iS 0, .d .nils, .d .nils] }, { frz := false, xs := [iS (nth' W 1), iS (nth' W 2), iS (nth' W 3), iS (nth' W 4), .tk 0, .tk 1] }],
      [ownD 96 4 groD gs, ownD 34 4 pieD ps]⟩) ?_ ?_
    · (refine Sub.of ([0, 1]) ([some 0, some 1]) ?_ ?_ ?_ rfl rfl <;> simp only [subB, subB1, subT, subT1, newT, subE, subV, subL, go_sem,↓dP,↓reduceIte] <;> (try (repeat' with_reducible apply And.intro)) <;> (try first | exact DEq.refl _ | refine DEq.int ?_ | refine DEq.bool ?_ | omega))
      all_goals exact fun _ _ _ _ => DEq.refl _
    (first|refine qE ?_|refine qD ?_);(simp only [go_sem,↓dP,↓reduceIte];with_reducible and_intros;all_goals first|apply qA|exact qC|skip)
    (refine AskI.ret (c_text (mkS W (gs, ps)) hsm) ?_; simp only [go_sem,↓dP,↓reduceIte];with_reducible and_intros;all_goals first|apply qA|exact qC|skip)
    by_cases heq : sealedL (rowsOf (mkS W (gs, ps))) = t
    rotate_left
    · have hq : (sealedL (rowsOf (mkS W (gs, ps))) == t) = false := by simpa using heq
      (refine AskI.pan (c_need_no hq _) ?_; simp only [go_sem,↓dP,↓reduceIte];with_reducible and_intros;all_goals first|apply qA|exact qC|skip)
      · exact hfin.trans (if_neg heq)
      · exact ⟨_, .refl _⟩
    have hq : (sealedL (rowsOf (mkS W (gs, ps))) == t) = true := by simpa using heq
    (refine AskI.ret (c_need_if hq _) ?_; simp only [go_sem,↓dP,↓reduceIte];with_reducible and_intros;all_goals first|apply qA|exact qC|skip)
    (first|refine qE ?_|refine qD ?_);(simp only [go_sem,↓dP,↓reduceIte];with_reducible and_intros;all_goals first|apply qA|exact qC|skip)
    refine Ok.ret ?_
    (try dsimp only [thenK, blockK, noGotoK])
    refine ⟨_, hfin.trans (if_pos heq), ?_⟩
    ((try dsimp only [thenK, blockK, noGotoK]); simp only [toList_mk, List.toList_toArray, retK_ret, retK_normal, resOK, resV, celV, rowV, frzAll, frzT, subV, subL, go_sem,↓dP,↓reduceIte])
    exact ⟨.refl _, .refl _, .refl _, .refl _, .refl _, .refl _⟩
end
end Go.Proofs.Leaf
namespace Go.Proofs.Leaf
open Go Go.RX Go.Proofs Go.RowKit
attribute [local go_sem] Oper.semAt_some
set_option maxRecDepth 100000
abbrev zero6:Array Value:=#[.int .i64 0,.int .i64 0,.int .i64 0,.int .i64 0,.slice none 0 0,.slice none 0 0]
def put6 (W:World) (Q:Nat) (a b c d e f:Value):World :=
 (((((W.setCell ⟨Q,0,none⟩ a).setCell ⟨Q,1,none⟩ b).setCell ⟨Q,2,none⟩ c).setCell ⟨Q,3,none⟩ d).setCell ⟨Q,4,none⟩ e).setCell ⟨Q,5,none⟩ f
theorem put6_at {W:World} {Q:Nat} {T:TypeId} {x0 x1 x2 x3 x4 x5:Value} (hk:W.heap[Q]? = some (.cells #[x0,x1,x2,x3,x4,x5] T)) (a b c d e f:Value) :
  (put6 W Q a b c d e f).heap[Q]? = some (.cells #[a,b,c,d,e,f] T)/\But Q W (put6 W Q a b c d e f)/\(put6 W Q a b c d e f).heap.size = W.heap.size:=by
 have s0:=st_same hk 0 a
 have s1:=st_same s0 1 b
 have s2:=st_same s1 2 c
 have s3:=st_same s2 3 d
 have s4:=st_same s3 4 e
 have s5:=st_same s4 5 f
 refine ⟨by unfold put6;simpa using s5,⟨by simp only [put6,World.setCell],by simp only [put6,World.setCell],by simp only [put6,World.setCell],by simp [put6,World.setCell,Array.size_modify],fun k _ hk => ?_⟩,by simp [put6,World.setCell,Array.size_modify]⟩
 unfold put6
 rw [Below.heap_setCell _ ⟨Q,5,none⟩ _ k hk,Below.heap_setCell _ ⟨Q,4,none⟩ _ k hk,Below.heap_setCell _ ⟨Q,3,none⟩ _ k hk,Below.heap_setCell _ ⟨Q,2,none⟩ _ k hk,Below.heap_setCell _ ⟨Q,1,none⟩ _ k hk,Below.heap_setCell _ ⟨Q,0,none⟩ _ k hk]
section
theorem rep_slc {I:Nat->Prop} {w:World} {v:Value} {k n:Nat} {g:Nat->Nat->DV} (h:Rep I w v (.sl k n g)):∃ p l c,v = .slice p l c:=by
 cases h with
 | sl0 => exact ⟨_,_,_,rfl⟩
 | sl1 => exact ⟨_,_,_,rfl⟩
 | sl => exact ⟨_,_,_,rfl⟩
abbrev six (a b c d:Int) (p1:Option Addr) (l1 c1:Nat) (p2:Option Addr) (l2 c2:Nat):Array Value:=#[.int .i64 a,.int .i64 b,.int .i64 c,.int .i64 d,.slice p1 l1 c1,.slice p2 l2 c2]
theorem job_vals {I:Nat->Prop} {w:World} {v:Value} {J:Job} (h:RepS I w v J.sv):∃ a b c d p1 l1 c1 p2 l2 c2,v = .agg (six a b c d p1 l1 c1 p2 l2 c2):=by
 have h':RepS I w v (.agg (J.cells.map .d)):=h
 have h0:=h' (fun _ => none)
 cases h0 with
 | @agg cs xs hl0 h1 h2 =>
  have h6:cs.size = 6:=by rw [hl0];rfl
  have hx:∀ (i:Nat) (d:DV) (hi:i < cs.size),J.cells[i]? = some d->Rep I w cs[i] d:=fun i d hi hd => mt_d (h1 i _ (.d d) (Array.getElem?_eq_getElem hi) (by rw [List.getElem?_map,hd];rfl))
  obtain ⟨l⟩:=cs
  match l,h6 with
  | [x0,x1,x2,x3,x4,x5],_ =>
   have e0:=hx 0 _ (by simp) rfl
   have e1:=hx 1 _ (by simp) rfl
   have e2:=hx 2 _ (by simp) rfl
   have e3:=hx 3 _ (by simp) rfl
   have e4:=hx 4 _ (by simp) rfl
   have e5:=hx 5 _ (by simp) rfl
   simp only [List.getElem_toArray,List.getElem_cons_zero,List.getElem_cons_succ] at e0 e1 e2 e3 e4 e5
   obtain ⟨p1,l1,c1,rfl⟩:=rep_slc e4
   obtain ⟨p2,l2,c2,rfl⟩:=rep_slc e5
   cases e0;cases e1;cases e2;cases e3
   exact ⟨_,_,_,_,_,_,_,_,_,_,rfl⟩
def JobAt (Q n0:Nat) (J:Job) (W:World):Prop :=
 ∃ a b c d p1 l1 c1 p2 l2 c2,W.heap[Q]? = some (.cells (six a b c d p1 l1 c1 p2 l2 c2) 25) /\
  ∃ (N:Nat->Prop),(∀ k,N k->n0<=k/\k < W.heap.size)/\RepS N W (.agg (six a b c d p1 l1 c1 p2 l2 c2)) J.sv
theorem bel_of {n Q:Nat} {w w1 w':World} (hk:Keep n w w1) (hb:But Q w1 w') (hn:n<=w.heap.size) (hQ:n<=Q):Below n w w' :=
 ⟨hb.os.trans hk.os,hb.tape.trans hk.tape,hb.output.trans hk.output,Nat.le_trans hk.size hb.size,fun k hk' => (hb.block k (by have:=hk.size;omega) (by omega)).trans (hk.block k hk' (fun e => by cases e))⟩
theorem repS_str (I:Nat->Prop) (w:World) (l:List UInt8):RepS I w (.string ⟨l.toArray⟩) (.d (.str l)):=fun Y => .d (rep_str' _ _ _)
set_option maxHeartbeats 1000000 in
theorem cls_ok (t:List UInt8) (J:Job) (hp:Ctr Tryz.prog 99 [.d (.str t)] J.sv) (B Q:Nat) (W:World) (hG:Glob.G W) (hB:W.heap[B]? = some (.cells #[.string ⟨t.toArray⟩] 9)) (hQ:W.heap[Q]? = some (.cells zero6 25)) :
  Calls Tryz.prog 98 #[.pointer (some ⟨B,0,none⟩),.pointer (some ⟨Q,0,none⟩)] W fun e w1 => e = .returned (.tuple #[])/\But Q W w1/\JobAt Q W.heap.size J w1:=by
 have hlt:=(Array.getElem?_eq_some_iff.1 hQ).1
 have hcall:=hp.2 (fun _ => False) W #[.string ⟨t.toArray⟩] hG (fun k hk => hk.elim) (fun k hk => hk.elim) rfl (fun j u y hu hy => by
  cases j with
  | zero => simp at hu hy;subst hu;subst hy;exact repS_str _ _ _
  | succ j => simp at hy)
 have g:=cell_at hB 0
 simp only [List.getElem?_toArray,List.getElem?_cons_zero,List.getElem?_cons_succ] at g
 go_enter Tryz.func98,Tryz.ntmps98
 go_wp2_with (go_at_call 99;refine hcall.mono ?_;rintro e w1 ⟨v,rfl,hv,hW1⟩;obtain ⟨a,b,c,d,p1,l1,c1,p2,l2,c2,rfl⟩:=job_vals hv;have hk:=(hW1.block Q hlt (fun e => by cases e)).trans hQ;have q:=cell_at hk;have q0:=q 0;have q1:=q 1;have q2:=q 2;have q3:=q 3;have q4:=q 4;have q5:=q 5;clear q;simp only [List.getElem?_toArray,List.getElem?_cons_zero,List.getElem?_cons_succ] at q0 q1 q2 q3 q4 q5;have fz:∀ o,w1.frozen? ⟨Q,o,none⟩ = false:=fun o => by simp [World.frozen?,hk])
 obtain ⟨W',hW'⟩:∃ W',put6 w1 Q (.int .i64 a) (.int .i64 b) (.int .i64 c) (.int .i64 d) (.slice p1 l1 c1) (.slice p2 l2 c2) = W':=⟨_,rfl⟩
 have hput:=put6_at hk (.int .i64 a) (.int .i64 b) (.int .i64 c) (.int .i64 d) (.slice p1 l1 c1) (.slice p2 l2 c2)
 rw [hW'] at hput
 unfold put6 at hW'
 rw [hW']
 obtain ⟨s7,hb,hz⟩:=hput
 go_end0
 refine ⟨rfl,⟨hb.os.trans hW1.os,hb.tape.trans hW1.tape,hb.output.trans hW1.output,by rw [hz];exact hW1.size,fun k hk hkQ => by rw [hb.block k (by have:=hW1.size;omega) hkQ];exact hW1.block k hk (fun e => by cases e)⟩,a,b,c,d,p1,l1,c1,p2,l2,c2,s7,fun k => W.heap.size<=k/\k < w1.heap.size,fun k hk => ⟨hk.1,by rw [hz];exact hk.2⟩,?_⟩
 exact fun Y => (hv Y).mono (fun k hk => by rcases hk with hk | hk;exact hk.elim;exact hk) (fun k hk => by rcases hk with hk | hk;exact hk.elim;exact hb.block k hk.2 (by omega)) (fun _ _ h => h) (fun _ _ h => h)
end
end Go.Proofs.Leaf
namespace Go.Proofs.Leaf
open Go Go.RX Go.Proofs Go.RowKit
attribute [local go_sem] Oper.semAt_some
set_option maxRecDepth 100000
theorem hold_al (w:World) (o:Obj) (i:Nat) (h:i < w.heap.size):(w.alloc o).heap[i]? = w.heap[i]?:=by
 show (w.heap.push o)[i]? = _
 rw [Array.getElem?_push,if_neg (by omega)]
def readW (w:World) (t:List UInt8):World:=((w.alloc (.cells #[.string ⟨t.toArray⟩] 9)).alloc (.cells zero6 25)).alloc (.cells zero6 25)
theorem readW_size (w:World) (t:List UInt8):(readW w t).heap.size = w.heap.size + 1 + 1 + 1:=al_sz _ (al_sz _ (al_sz _ rfl))
theorem readW_below (w:World) (t:List UInt8):Below w.heap.size w (readW w t):=(((Below.refl _ w).alloc (Nat.le_refl _) _).alloc (by simp) _).alloc (by simp;omega) _
section
theorem read_pre (t:List UInt8) (w:World) (hG:Glob.G w):(readW w t).heap[w.heap.size]? = some (.cells #[.string ⟨t.toArray⟩] 9)/\(readW w t).heap[w.heap.size + 1]? = some (.cells zero6 25)/\(readW w t).heap[w.heap.size + 1 + 1]? = some (.cells zero6 25) /\
  Below w.heap.size w (attW (readW w t))/\Glob.G (attW (readW w t))/\(attW (readW w t)).heap.size = w.heap.size + 1 + 1 + 1 + 1:=by
 have hz:=readW_size w t
 have hB:=readW_below w t
 have hB2:Below w.heap.size w (attW (readW w t)):=hB.alloc (by omega) _
 exact ⟨al_old _ (al_old _ (al_new _ rfl)),al_old _ (al_new _ (al_sz _ rfl)),al_new _ (al_sz _ (al_sz _ rfl)),hB2,Glob.st _ _ hG (hB2.mono (Glob.lo _ hG)),al_sz _ hz⟩
theorem att_read (t:List UInt8) (J:Job) (hp:Ctr Tryz.prog 99 [.d (.str t)] J.sv) (w:World) (hG:Glob.G w) :
  Calls Tryz.prog 69 #[.func (.func 98) #[] #[.pointer (some ⟨w.heap.size,0,none⟩),.pointer (some ⟨w.heap.size + 1 + 1,0,none⟩)]] (readW w t) fun e w' => e = .returned (.int .i64 0)/\But (w.heap.size + 1 + 1) (readW w t) w'/\JobAt (w.heap.size + 1 + 1) (w.heap.size + 1 + 1 + 1 + 1) J w':=by
 obtain ⟨k0,k1,k2,hB,hG2,hz2⟩:=read_pre t w hG
 have hz:=readW_size w t
 have h:=cls_ok t J hp w.heap.size (w.heap.size + 1 + 1) (attW (readW w t)) hG2 (al_old _ k0) (al_old _ k2)
 rw [hz2] at h
 refine (att_ok 98 _ (readW w t) ⟨Tryz.f98,rfl,rfl,rfl⟩ (fun w1 => But (w.heap.size + 1 + 1) (attW (readW w t)) w1/\JobAt (w.heap.size + 1 + 1) (w.heap.size + 1 + 1 + 1 + 1) J w1) (h.mono ?_)).mono ?_
 ·rintro e w1 ⟨rfl,hb,hj⟩
  exact ⟨rfl,(hb.block _ (by omega) (by omega)).trans (al_new _ rfl),hb,hj⟩
 ·rintro e w' ⟨rfl,w1,⟨hb,a,b,c,d,p1,l1,c1,p2,l2,c2,h1,N,hN,hr⟩,hb'⟩
  have hbs:=hb.size
  have hlt:=(Array.getElem?_eq_some_iff.1 h1).1
  refine ⟨rfl,⟨hb'.os.trans hb.os,hb'.tape.trans hb.tape,hb'.output.trans hb.output,by have:=hb'.size;omega,fun k hk hne => ?_⟩,a,b,c,d,p1,l1,c1,p2,l2,c2,?_,N,fun k hk => ⟨(hN k hk).1,by have:=(hN k hk).2;have:=hb'.size;omega⟩,?_⟩
  ·rw [hb'.block k (by omega) (by omega),hb.block k (by omega) hne]
   exact hold_al _ _ k hk
  ·rw [hb'.block _ hlt (by omega)];exact h1
  ·exact fun Y => (hr Y).mono (fun _ h => h) (fun k hk => hb'.block k (hN k hk).2 (by have:=(hN k hk).1;omega)) (fun _ _ h => h) (fun _ _ h => h)
theorem two_rep {I:Nat->Prop} {w:World} {v:Value} {s:SV} {e:Int} (h:RepS I w v s):RepS I w (.tuple #[v,.int .i64 e]) (.tup [s,iS e]):=by
 intro Y
 refine .tup rfl (fun j u x hu hx => ?_)
 match j,hu,hx with
 | 0,hu,hx => simp at hu hx;subst hu;subst hx;exact h Y
 | 1,hu,hx => simp at hu hx;subst hu;subst hx;exact .d .int
 | j + 2,hu,hx => simp at hu
theorem below_but {n Q:Nat} {w W w1:World} (h:Below n w W) (hX:But Q W w1) (hQ:n<=Q) (hn:n<=w.heap.size:=by exact Nat.le_refl _):Below n w w1 :=
 ⟨hX.os.trans h.os,hX.tape.trans h.tape,hX.output.trans h.output,Nat.le_trans h.size hX.size,fun k hk => (hX.block k (by have:=h.size;omega) (by omega)).trans (h.block k hk)⟩
set_option maxHeartbeats 1000000 in
theorem c_Read_ok (t:List UInt8) (J:Job) (hp:Ctr Tryz.prog 99 [.d (.str t)] J.sv) (ht:t.length<=180) (hh:J.held) (hj:jobB J = true):Ctr Tryz.prog 55 [.d (.str t)] (.tup [J.sv,iS 0]):=by
 refine ⟨⟨Tryz.f55,Tryz.func55,rfl,rfl⟩,fun I w vs hG hI hM hsz hrep => ?_⟩
 obtain ⟨v0,rfl⟩:∃ v0,vs = #[v0]:=Array.size_eq_one_iff.1 hsz
 obtain rfl:=str_val (hrep 0 v0 _ rfl rfl)
 have hl:¬ (180:Int) < (t.length:Int):=by omega
 obtain ⟨k0,k1,k2,_,_,_⟩:=read_pre t w hG
 have hz:=readW_size w t
 have hBW:=readW_below w t
 have hmf:∀ (fn:Fn) (first cap:Array Value) (w:World),(Instr.makeFunc fn first cap).run Tryz.prog w = .ok (.func fn first cap) w:=fun _ _ _ _ => rfl
 have hatt:=att_read t J hp w hG
 go_enter Tryz.func55,Tryz.ntmps55
 go_wp2_with (first | (go_at_call 69;refine hatt.mono ?_;rintro e w1 ⟨rfl,hX,a,b,c,d,p1,l1,c1,p2,l2,c2,h1,N,hN,hF⟩;have hR1:=(hX.block _ (by omega) (by omega)).trans k1;have q:=cell_at h1;have q0:=q 0;have q1:=q 1;have q2:=q 2;have q3:=q 3;have q4:=q 4;have q5:=q 5;clear q;simp only [List.getElem?_toArray,List.getElem?_cons_zero,List.getElem?_cons_succ] at q0 q1 q2 q3 q4 q5) | (go_at_call 58;have hBw1:Below w.heap.size w w1:=below_but hBW hX (by omega);refine ((c_isJob J hh).2 N w1 _ (Glob.st _ _ hG (hBw1.mono (Glob.lo _ hG))) (fun k hk => (hN k hk).2) (fun k hk e => by cases e) rfl (fun j u y hu hy => by cases j with | zero => simp at hu hy;subst hu;subst hy;exact hF | succ j => simp at hy)).mono ?_;rintro e w2 ⟨v,rfl,hv,hK2⟩;obtain rfl:v = .bool true:=(by have:=mt_d (hv (fun _ => none));rw [hj] at this;cases this;rfl);have hz1:=hX.size;have hQ2:=(hK2.block (w.heap.size + 1 + 1) (by omega) (fun e => by cases e)).trans h1;have hR2:=(hK2.block (w.heap.size + 1) (by omega) (fun e => by cases e)).trans hR1;have u:=cell_at hQ2;have u0:=u 0;have u1:=u 1;have u2:=u 2;have u3:=u 3;have u4:=u 4;have u5:=u 5;clear u;have r:=cell_at hR2;have r0:=r 0;have r1:=r 1;have r2:=r 2;have r3:=r 3;have r4:=r 4;have r5:=r 5;clear r;simp only [zero6,List.getElem?_toArray,List.getElem?_cons_zero,List.getElem?_cons_succ] at u0 u1 u2 u3 u4 u5 r0 r1 r2 r3 r4 r5;have fz:∀ o,w2.frozen? ⟨w.heap.size + 1,o,none⟩ = false:=fun o => by simp [World.frozen?,hR2]))
 obtain ⟨W',hW'⟩:∃ W',put6 w2 (w.heap.size + 1) (.int .i64 a) (.int .i64 b) (.int .i64 c) (.int .i64 d) (.slice p1 l1 c1) (.slice p2 l2 c2) = W':=⟨_,rfl⟩
 have hput:=put6_at hR2 (.int .i64 a) (.int .i64 b) (.int .i64 c) (.int .i64 d) (.slice p1 l1 c1) (.slice p2 l2 c2)
 rw [hW'] at hput
 unfold put6 at hW'
 rw [hW']
 obtain ⟨s7,hb,hz'⟩:=hput
 have y:=cell_at s7
 have y0:=y 0
 have y1:=y 1
 have y2:=y 2
 have y3:=y 3
 have y4:=y 4
 have y5:=y 5
 clear y
 simp only [List.getElem?_toArray,List.getElem?_cons_zero,List.getElem?_cons_succ] at y0 y1 y2 y3 y4 y5
 have hB12:Keep w.heap.size w w2:=(keepT hBw1 (Glob.lo _ hG)).trans (hK2.mono hBw1.size)
 have hBf:Below w.heap.size w W':=bel_of hB12 hb (Nat.le_refl _) (by omega)
 refine bodyPost_ret (by simp [results,Tryz.results55,go_sem,y0,y1,y2,y3,y4,y5];rfl) rfl ?_
 refine ⟨_,rfl,?_,keepT hBf (Glob.lo _ hG)⟩
 refine two_rep (fun Y => (hF Y).mono (fun k hk => ?_) (fun k hk => ?_) (fun _ _ h => h) (fun _ _ h => h))
 ·have h1:=(hN k hk).1
  have h2:=(hN k hk).2
  have h3:=hK2.size
  exact .inr ⟨by omega,by rw [hz'];omega⟩
 ·have h1:=(hN k hk).1
  have h2:=(hN k hk).2
  have h3:=hK2.size
  rw [hb.block k (by omega) (by omega)];exact hK2.block k (by omega) (fun e => by cases e)
end
end Go.Proofs.Leaf
