/-
  The theorem of one gilder: TopLaid returns true at every input, and leaves it as it was.
  No condition beside those that the statement itself names.
-/
import Derived.Test.YtmpnbmedikkggaaGTopLaid05
set_option linter.all false
namespace Go.Proofs.Leaf
open Go Go.RX Go.Proofs
set_option maxRecDepth 10000
section
def firJ (w0:World) (I0:Nat->Prop) (n b2 b3:Nat) (u2 u3:Value) (T2 T3:Nat):Jt:=fun i I V W => i = 0/\Par w0 I0 n I V W/\Cl n b2 #[u2] T2 I W/\Cl n b3 #[u3] T3 I W
def firR (w0:World) (I0:Nat->Prop) (n b2 b3:Nat) (x:SV) (T2 T3:Nat):Jt:=fun i I V W => i = 0/\Par w0 I0 n I V W/\(∃ v,Cl n b2 #[v] T2 I W/\v.oneCell' = true/\RepS I W v x)/\Cl n b3 #[.bool true] T3 I W
theorem c_first (gf k:Nat) (c:Nat->DV) (L:List (List Int)) (hit:It Try.prog gf (take c 0 k) (L.map ilS)):Ctr Try.prog 20 [.d (.clo gf k c)] (optR L.head?):=by
 refine Ctr.marks (fn:=Try.f20) rfl rfl rfl rfl rfl rfl (fun I w a _ hI _ hst => ?_)
 dsimp only [args] at hst
 letI:Bas:=⟨I,w⟩
 refine Ok.first hst ?_
 (first|refine qE ?_|refine qD ?_);(simp only [go_sem,↓dP,↓reduceIte];with_reducible and_intros;all_goals first|apply qA|exact qC|skip)
 intro a w1 hst
 refine wpIn_seq ?_
 refine Ok.first hst ?_
 (first|refine qE ?_|refine qD ?_);(simp only [go_sem,↓dP,↓reduceIte];with_reducible and_intros;all_goals first|apply qA|exact qC|skip)
 intro a w1 hst
 obtain ⟨I1,bl,i1,i2,i3,_,hkeep,hdf,hsz,hdat,hinj,hptr,hbox⟩:=hst.parked rfl hI
 obtain ⟨n2,l2,o2,cs2,T2,hc2,s2,_,_⟩:=hbox 0 _ rfl rfl rfl
 obtain ⟨n3,l3,o3,cs3,T3,hc3,s3,_,_⟩:=hbox 1 _ rfl rfl rfl
 obtain ⟨u2,rfl⟩:∃ u2,cs2 = #[u2]:=Array.size_eq_one_iff.1 s2
 obtain ⟨u3,rfl⟩:∃ u3,cs3 = #[u3]:=Array.size_eq_one_iff.1 s3
 have hne:bl 0 ≠ bl 1:=fun e => by have:=hinj 0 1 _ _ rfl rfl e;omega
 have hp2:a.tmps.getD 2 undef = .pointer (some ⟨bl 0,0,none⟩):=hptr 2 0 0 rfl
 have hp3:a.tmps.getD 3 undef = .pointer (some ⟨bl 1,0,none⟩):=hptr 3 1 0 rfl
 have hdf:a.defers = []:=hdf
 generalize bl 0 = b2 at *
 generalize bl 1 = b3 at *
 have h5:=mt_d (hdat 5 _ rfl (fun _ => none))
 obtain ⟨us,hg,hus,hrus⟩:∃ us:Array Value,a.tmps.getD 5 undef = .func (.func gf) #[] us/\us.size = k/\∀ i u,us[i]? = some u->Rep I1 w1 u (c i):=by
  generalize a.tmps.getD 5 undef = v at h5
  cases h5 with
  | clo h1 h2 => exact ⟨_,rfl,h1,fun i u hu => h2 i u hu⟩
 have hpar:Par w I w1.heap.size I1 (fun _ => False) w1:=⟨hkeep.size,hkeep,fun b hb => (i2 b hb).imp (fun q => q) (fun q => q.1),fun b hb => hb.elim,Nat.le_refl _,i3,fun _ _ h => h,fun _ h => h.elim⟩
 have fin:∀ (D:Nat) (W:World) (I2 V:Nat->Prop) (x:List Int) (b:Bool) (v:Value),w1.heap.size<=D->¬ I2 D->W.heap[D]? = some (.deferred (some []))->Par w I w1.heap.size I2 V W->Cl w1.heap.size b2 #[v] T2 I2 W->v.oneCell' = true->RepS I2 W v (ilS x)->Cl w1.heap.size b3 #[.bool b] T3 I2 W ->
   endM Try.prog Try.f20.results.toList (.tup [ilS x,bS b]) I Try.f20.ntmps w .ret { a with defers:=[markOf D] } W:=by
  intro D W I2 V x b v hD hnD hmD hP hB2 hv hr hB3
  have hP':=hP.put (o':=.deferred none) hD
  refine ⟨.inl rfl,.inr ⟨D,{ env:=[(2,.p 0 0),(3,.p 1 0)],bx:=[{ frz:=false,xs:=[ilS x] },{ frz:=false,xs:=[bS b] }],tk:=[] },hmD,?_,?_⟩⟩
  ·show resOK Try.prog [.cell 2 32,.cell 3 4] _ _
   ((try dsimp only [thenK,blockK,noGotoK]);simp only [toList_mk,List.toList_toArray,retK_ret,retK_normal,resOK,resV,celV,rowV,frzAll,frzT,subV,subL,go_sem,↓dP,↓reduceIte])
   ((repeat' with_reducible apply And.intro)<;>(first | exact DEq.refl _ | refine DEq.int ?_ | refine DEq.bool ?_ | skip))
  ·refine @St.boxes _ ⟨[markOf D],[]⟩ _ I2 _ _ _ _ _ _ [b2,b3] hsz rfl hP'.lt (fun b _ e => by cases e) trivial hP'.i0 hP'.keep rfl (fun i i' b hi hi' => ?_) (fun i blk c hi hc => ?_) (bat_cons (.inr ⟨0,b2,rfl,rfl,hp2⟩) (bat_cons (.inr ⟨1,b3,rfl,rfl,hp3⟩) bat_nil)) (fun p hp => by cases hp)
   ·rcases i with _ | _ | i<;>rcases i' with _ | _ | i'<;>simp at hi hi'<;>first | rfl | (subst hi;exact absurd hi' hne) | (subst hi;exact absurd hi'.symm hne)
   ·rcases i with _ | _ | i
    ·cases hi;cases hc;exact Bk.one n2 (hB2.put hmD rfl) hv (hr.putO hnD)
    ·cases hi;cases hc;exact Bk.one n3 (hB3.put hmD rfl) rfl (fun Y => .d .bool)
    ·simp at hi
 show (Code.block 0 _).wpIn fen 0 Try.prog _ a w1
 refine wpIn_block ?_
 refine wp_rangeIt (I0:=I1) hg hdf hit trivial i3 (fun b _ e => by cases e) (by rw [hus,take_len]) ?reps (firJ w I w1.heap.size b2 b3 u2 u3 T2 T3) (firR w I w1.heap.size b2 b3 (ilS (L.head?.getD [])) T2 T3)
  (fun i a' I' V W => i = 0/\Par w I w1.heap.size I' V W/\Cl w1.heap.size b2 #[u2] T2 I' W/\Cl w1.heap.size b3 #[u3] T3 I' W/\a'.tmps.size = a.tmps.size/\a'.defers = []/\a'.tmps.getD 2 undef = a.tmps.getD 2 undef/\a'.tmps.getD 3 undef = a.tmps.getD 3 undef/\RepS I' W (a'.tmps.getD 4 undef) (ilS (L.head?.getD [])))
  ?st1 ?st2 ?pu1 ?pu2 ?pu3 ⟨rfl,hpar,⟨l2,o2,hc2⟩,⟨l3,o3,hc3⟩⟩ ?assign ?body ?done ?stop
 case st1 => rintro i I I' V V' W W' ⟨rfl,h1,h2,h3⟩ he;exact ⟨rfl,h1.ext he,h2.ext h1 he,h3.ext h1 he⟩
 case st2 => rintro i I I' V V' W W' ⟨rfl,h1,⟨v,h2,h2v,h2r⟩,h3⟩ he;exact ⟨rfl,h1.ext he,⟨v,h2.ext h1 he,h2v,h2r.ext he h1.lt h1.dis⟩,h3.ext h1 he⟩
 case pu1 => rintro i I V W k o o' hk ⟨rfl,h1,h2,h3⟩ hko ho hik;exact ⟨rfl,h1.put hk,h2.put hko ho,h3.put hko ho⟩
 case pu2 => rintro i I V W k o o' hk ⟨rfl,h1,⟨v,h2,h2v,h2r⟩,h3⟩ hko ho hik;exact ⟨rfl,h1.put hk,⟨v,h2.put hko ho,h2v,h2r.putO hik⟩,h3.put hko ho⟩
 case pu3 => rintro i a' I V W k o o' hk ⟨rfl,h1,h2,h3,q1,q2,q3,q4,q5⟩ hko ho hik;exact ⟨rfl,h1.put hk,h2.put hko ho,h3.put hko ho,q1,q2,q3,q4,q5.putO hik⟩
 case reps =>
  intro j u s hu hs
  have:=take_at c k 0 j s hs
  rw [Nat.zero_add] at this
  subst this
  exact fun Y => .d (hrus j u hu)
 case assign =>
  rintro l i I2 V W v hi ⟨rfl,hP,hB2,hB3⟩ _ _ _ _ hv
  have hx:(L.map ilS).getD 0 .any = ilS (L.head?.getD []):=by
   cases L with
   | nil => simp at hi
   | cons x r => rfl
  rw [hx] at hv
  letI:Rnd:=⟨some l⟩
  letI:Bas:=⟨I2,W⟩
  have hs0:St { env:=[(2,.d (.raw (.pointer (some ⟨b2,0,none⟩)))),(3,.d (.raw (.pointer (some ⟨b3,0,none⟩)))),(6,ilS (L.head?.getD []))],bx:=[],tk:=[] } I2 a.tmps.size W { tmps:=a.tmps.setIfInBounds 6 v,defers:=[] } W:=by
   refine St.data (β:=fun _ => none) (τ:=fun _ => none) (Y:=fun _ => none) (by simp) rfl hP.lt (fun b _ e => by cases e) trivial (dat_cons (repS_raw ?_ rfl) (dat_cons (repS_raw ?_ rfl) (dat_cons ?_ dat_nil)))
   ·show (a.tmps.setIfInBounds 6 v).getD 2 undef = _
    rw [tmp_ne (by decide),hp2]
   ·show (a.tmps.setIfInBounds 6 v).getD 3 undef = _
    rw [tmp_ne (by decide),hp3]
   ·show RepS I2 W ((a.tmps.setIfInBounds 6 v).getD 6 undef) _
    rw [tmp_eq (by rw [hsz];decide)]
    exact hv
  refine Ok.enter (N:=a.tmps.size) hs0 ?_
  rw [hsz]
  (first|refine qE ?_|refine qD ?_);(simp only [go_sem,↓dP,↓reduceIte];with_reducible and_intros;all_goals first|apply qA|exact qC|skip)
  intro a2 W2 hst2
  obtain ⟨I3,hst3,j1,j2,_,_,hk3,_,hd3⟩:=hst2.rebase rfl rfl rfl hP.lt
  have hr:=hst3.reps rfl rfl rfl
  obtain ⟨hY,hP3⟩:=hP.yq hk3 j1 j2
  have j3:∀ b,I3 b->I2 b∨W.heap.size<=b:=fun b hb => (j2 b hb).imp (fun q => q) (fun q => q.1)
  refine ⟨I3,hY,rfl,hP3,hB2.keep hP hk3 j3,hB3.keep hP hk3 j3,?_,hd3,?_,?_,?_⟩
  ·obtain ⟨_,_,_,hx⟩:=hst3 (fun _ => none);rw [hx.sz]
  ·rw [hst3.raw (t:=2) rfl,hp2]
  ·rw [hst3.raw (t:=3) rfl,hp3]
  ·exact hr 4
 case body =>
  rintro l i I2 V W a2 hi ⟨rfl,hP,hB2,hB3,q1,q2,q3,q4,q5⟩ _ _ _ _
  letI:Rnd:=⟨some l⟩
  show Code.wpIn fen 0 Try.prog _ _ _ _
  refine wpIn_block (wpIn_seq (wpIn_region ?_))
  have hone:(a2.tmps.getD 4 undef).oneCell' = true:=by
   rcases rep_slice (mt_d (q5 (fun _ => none))) with ⟨e,_⟩ | ⟨p,n,c,e⟩<;>rw [e]<;>rfl
  refine tail_val (m:=0) (k:=2) rfl (fun c e => by cases e) (v:=a2.tmps.getD 4 undef) (w':=W) (by simp [execOp,Act.eval]) ?_
  obtain ⟨y1,hP1,hC2,ho1⟩:=hP.row n2 hB2 (cs:=#[a2.tmps.getD 4 undef])
  have hC3:=hB3.row (b:=b2) (cs:=#[a2.tmps.getD 4 undef]) (Ne.symm hne)
  refine tail_skp rfl (fun c e => by cases e) (run_storeCl (a:=a2.put (some 7) (a2.tmps.getD 4 undef)) (b:=b2) (I:=I2) (T:=T2) (u:=u2) rfl rfl ?_ rfl ?_ hone hB2) ?_
  ·show (a2.tmps.setIfInBounds 7 _).getD 2 undef = _
   rw [tmp_ne (by decide),q3,hp2]
  ·show (a2.tmps.setIfInBounds 7 _).getD 7 undef = _
   rw [tmp_eq (by rw [q1,hsz];decide)]
  obtain ⟨y2,hP2,hC3',ho2⟩:=hP1.row n3 hC3 (cs:=#[.bool true])
  refine tail_skp rfl (fun c e => by cases e) (run_storeCl (a:=(a2.put (some 7) (a2.tmps.getD 4 undef)).put none undef) (b:=b3) (I:=I2) (T:=T3) (u:=u3) (v:=.bool true) rfl rfl ?_ rfl rfl rfl hC3) ?_
  ·show (a2.tmps.setIfInBounds 7 _).getD 3 undef = _
   rw [tmp_ne (by decide),q4,hp3]
  refine tail_end ?_
  refine wpIn_ret ?_
  exact ⟨I2,y1.trans y2,rfl,hP2,⟨_,hC2.row hne,hone,(q5.row hB2.2.1).row hB3.2.1⟩,hC3'⟩
 case done =>
  rintro D I2 V W hD ⟨h0,hP,hB2,hB3⟩ hnD hmD
  have hL:L = []:=by
   cases L with
   | nil => rfl
   | cons x r => simp at h0
  subst hL
  show (Code.seq _ _).wpIn _ _ _ _ _ _
  refine wpIn_seq (wpIn_region ?_)
  obtain ⟨y1,hP1,hC2,ho1⟩:=hP.row n2 hB2 (cs:=#[.slice none 0 0])
  have hC3:=hB3.row (b:=b2) (cs:=#[.slice none 0 0]) (Ne.symm hne)
  refine tail_skp (m:=0) (k:=1) rfl (fun c e => by cases e) (run_storeCl (a:={ a with defers:=[markOf D] }) (b:=b2) (I:=I2) (T:=T2) (u:=u2) (v:=.slice none 0 0) rfl rfl hp2 rfl rfl rfl hB2) ?_
  obtain ⟨y2,hP2,hC3',ho2⟩:=hP1.row n3 hC3 (cs:=#[.bool false])
  refine tail_skp rfl (fun c e => by cases e) (run_storeCl (a:={ a with defers:=[markOf D] }) (b:=b3) (I:=I2) (T:=T3) (u:=u3) (v:=.bool false) rfl rfl hp3 rfl rfl rfl hC3) ?_
  refine tail_end ?_
  refine wpIn_ret ?_
  exact fin D _ I2 V [] false (.slice none 0 0) hD hnD ((ho2 D (by omega)).trans ((ho1 D (by omega)).trans hmD)) hP2 (hC2.row hne) rfl (fun Y => .d .sl0) hC3'
 case stop =>
  rintro D i I2 V W hD hi ⟨rfl,hP,⟨v,hB2,hv1,hv2⟩,hB3⟩ hnD hmD
  cases L with
  | nil => simp at hi
  | cons x r => exact fin D W I2 V x true v hD hnD hmD hP hB2 hv1 hv2 hB3
end
end Go.Proofs.Leaf
namespace Go.Proofs.Leaf
open Go Go.RX Go.Proofs
set_option maxRecDepth 10000
variable [Glob]
abbrev plnD (J:Job) (hf km:Nat) (ck:Nat->DV) (pieces:List Int):DV:=.clo 53 3 (dget [.ref 1 (dget [slD 1 intD pieces]),.ref 1 (dget [.clo hf km ck]),J.ref])
theorem c_plans (J:Job) (hf km:Nat) (ck:Nat->DV) (pieces:List Int):Ctr Try.prog 21 [J.sv,ilS pieces,.d (.clo hf km ck)] (.d (plnD J hf km ck pieces)):=by
 (refine Ctr.mk (fn:=Try.f21) rfl rfl rfl rfl rfl Try.results21 ?_;intro _;dsimp only [args,List.toList_toArray])
 (first|refine qE ?_|refine qD ?_);(simp only [go_sem,↓dP,↓reduceIte];with_reducible and_intros;all_goals first|apply qA|exact qC|skip)
 refine Ok.sub ((Sub.frzB (b:=0) rfl rfl).trans ((Sub.frzB (b:=1) rfl rfl).trans (Sub.frzB (b:=2) rfl rfl))) ?_
 (first|refine qE ?_|refine qD ?_);(simp only [go_sem,↓dP,↓reduceIte];with_reducible and_intros;all_goals first|apply qA|exact qC|skip)
 (refine Ok.ret ?_;(try dsimp only [thenK,blockK,noGotoK]);simp only [toList_mk,List.toList_toArray,retK_ret,retK_normal,resOK,resV,celV,rowV,frzAll,frzT,subV,subL,go_sem,↓dP,↓reduceIte])
 exact .refl _
theorem c_firstplan (J:Job) (hf km:Nat) (ck:Nat->DV) (pieces:List Int) (hp:pieces.length<=100) (span:Int->Int×Int) (hs:∀ n∈pieces,@Ctr g0 Try.prog hf (J.sv :: iS n :: take ck 0 km) (spS (span n)))
  (hb:∀ n∈pieces,-1000<=(span n).1/\(span n).2<=1000):Ctr Try.prog 20 [.d (plnD J hf km ck pieces)] (optR (planL (pieces.map span) []).head?) :=
 Ctr.any (c_first 53 3 (dget [.ref 1 (dget [slD 1 intD pieces]),.ref 1 (dget [.clo hf km ck]),J.ref]) _ (it_plans1 J hf km ck pieces hp span hs hb))
theorem upI_mem {n:Nat} {x:Int}:x∈upI n ↔ 0<=x/\x < n:=by
 simp only [upI,List.mem_map,List.mem_range]
 constructor
 ·rintro ⟨i,h,rfl⟩;omega
 ·rintro ⟨h0,h1⟩;exact ⟨x.toNat,by omega,by omega⟩
theorem upI_spans (J:Job) (may:Bool):(upI J.ps.length).map (J.span may) = spans J may:=by
 apply List.ext_getElem
 ·simp [upI_len,spans_len]
 ·intro i h1 h2
  have hi:i < J.ps.length:=by simpa [upI_len] using h1
  have h3:=span_at J may hi
  rw [List.getD_eq_getElem?_getD,List.getElem?_eq_getElem h2] at h3
  simp [upI]
  exact h3.symm
theorem c_allplan (J:Job) (hJ:J.based) (ht:J.timed) (hn:J.ps.length<=100) (may:Bool):Ctr Try.prog 20 [.d (plnD J (if may = true then 24 else 23) 0 (fun _ => .nilI) (upI J.ps.length))] (optR (planOf J may)):=by
 have:=c_firstplan J (if may = true then 24 else 23) 0 (fun _ => .nilI) (upI J.ps.length) (by rw [upI_len];exact hn) (J.span may) (fun n hn => ?_) (fun n hn => ?_)
 ·rwa [upI_spans] at this
 ·obtain ⟨h0,h1⟩:=upI_mem.1 hn
  cases may
  ·exact @c_surely g0 J hJ n h0 h1
  ·exact @c_maybe g0 J hJ n h0 h1
 ·obtain ⟨h0,h1⟩:=upI_mem.1 hn
  have:=ht (J.ps.getD n.toNat default) (getD_mem' (by omega)) may
  show -1000<=(spanOf J.gs may (J.ps.getD n.toNat default)).1/\(spanOf J.gs may (J.ps.getD n.toNat default)).2<=1000
  omega
theorem c_Lays (J:Job) (hJ:J.based) (hh:J.held) (ht:J.timed) (hn:J.ps.length<=100) (hj:jobB J = true):Ctr Try.prog 7 [J.sv] (.tup [iS (laysW J),iS 0]):=by
 have h1:=c_allplan J hJ ht hn false
 have h2:=c_allplan J hJ ht hn true
 rw [if_neg (by decide)] at h1
 rw [if_pos rfl] at h2
 unfold laysW
 (refine Ctr.mk (fn:=Try.f7) rfl rfl rfl rfl rfl Try.results7 ?_;intro _;dsimp only [args,List.toList_toArray])
 (first|refine qE ?_|refine qD ?_);(simp only [go_sem,↓dP,↓reduceIte];with_reducible and_intros;all_goals first|apply qA|exact qC|skip)
 refine Ok.seq ?_
 (first|refine qE ?_|refine qD ?_);(simp only [go_sem,↓dP,↓reduceIte];with_reducible and_intros;all_goals first|apply qA|exact qC|skip)
 (refine AskI.ret (c_isJob J hh) ?_;simp only [go_sem,↓dP,↓reduceIte];with_reducible and_intros;all_goals first|apply qA|exact qC|skip)
 refine Ok.cond rfl (fun hb => by rw [hj] at hb;cases hb) (fun _ => ?_)
 (refine Ok.skip ?_;(try dsimp only [thenK,blockK,noGotoK]))
 refine Ok.seq ?_
 (first|refine qE ?_|refine qD ?_);(simp only [go_sem,↓dP,↓reduceIte];with_reducible and_intros;all_goals first|apply qA|exact qC|skip)
 (refine AskI.ret (c_every J hJ.pl) ?_;simp only [go_sem,↓dP,↓reduceIte];with_reducible and_intros;all_goals first|apply qA|exact qC|skip)
 (refine AskI.ret (c_plans J 23 0 (fun _ => .nilI) (upI J.ps.length)) ?_;simp only [go_sem,↓dP,↓reduceIte];with_reducible and_intros;all_goals first|apply qA|exact qC|skip)
 (refine AskI.ret (h1) ?_;simp only [go_sem,↓dP,↓reduceIte];with_reducible and_intros;all_goals first|apply qA|exact qC|skip)
 refine Ok.seq ?_
 (first|refine qE ?_|refine qD ?_);(simp only [go_sem,↓dP,↓reduceIte];with_reducible and_intros;all_goals first|apply qA|exact qC|skip)
 refine Ok.cond rfl (fun hb => ?_) (fun hb => ?_)
 ·rw [if_pos hb]
  (first|refine qE ?_|refine qD ?_);(simp only [go_sem,↓dP,↓reduceIte];with_reducible and_intros;all_goals first|apply qA|exact qC|skip)
  (refine Ok.ret ?_;(try dsimp only [thenK,blockK,noGotoK]);simp only [toList_mk,List.toList_toArray,retK_ret,retK_normal,resOK,resV,celV,rowV,frzAll,frzT,subV,subL,go_sem,↓dP,↓reduceIte])
  ((repeat' with_reducible apply And.intro)<;>(first | exact DEq.refl _ | refine DEq.int ?_ | refine DEq.bool ?_ | skip))
 ·rw [if_neg (by rw [hb];simp)]
  (refine Ok.skip ?_;(try dsimp only [thenK,blockK,noGotoK]))
  refine Ok.seq ?_
  (first|refine qE ?_|refine qD ?_);(simp only [go_sem,↓dP,↓reduceIte];with_reducible and_intros;all_goals first|apply qA|exact qC|skip)
  (refine AskI.ret (c_every J hJ.pl) ?_;simp only [go_sem,↓dP,↓reduceIte];with_reducible and_intros;all_goals first|apply qA|exact qC|skip)
  (refine AskI.ret (c_plans J 24 0 (fun _ => .nilI) (upI J.ps.length)) ?_;simp only [go_sem,↓dP,↓reduceIte];with_reducible and_intros;all_goals first|apply qA|exact qC|skip)
  (refine AskI.ret (h2) ?_;simp only [go_sem,↓dP,↓reduceIte];with_reducible and_intros;all_goals first|apply qA|exact qC|skip)
  refine Ok.seq ?_
  (first|refine qE ?_|refine qD ?_);(simp only [go_sem,↓dP,↓reduceIte];with_reducible and_intros;all_goals first|apply qA|exact qC|skip)
  refine Ok.cond rfl (fun hb => ?_) (fun hb => ?_)
  ·rw [if_pos hb]
   (first|refine qE ?_|refine qD ?_);(simp only [go_sem,↓dP,↓reduceIte];with_reducible and_intros;all_goals first|apply qA|exact qC|skip)
   (refine Ok.ret ?_;(try dsimp only [thenK,blockK,noGotoK]);simp only [toList_mk,List.toList_toArray,retK_ret,retK_normal,resOK,resV,celV,rowV,frzAll,frzT,subV,subL,go_sem,↓dP,↓reduceIte])
   ((repeat' with_reducible apply And.intro)<;>(first | exact DEq.refl _ | refine DEq.int ?_ | refine DEq.bool ?_ | skip))
  ·rw [if_neg (by rw [hb];simp)]
   (refine Ok.skip ?_;(try dsimp only [thenK,blockK,noGotoK]))
   (first|refine qE ?_|refine qD ?_);(simp only [go_sem,↓dP,↓reduceIte];with_reducible and_intros;all_goals first|apply qA|exact qC|skip)
   (refine Ok.ret ?_;(try dsimp only [thenK,blockK,noGotoK]);simp only [toList_mk,List.toList_toArray,retK_ret,retK_normal,resOK,resV,celV,rowV,frzAll,frzT,subV,subL,go_sem,↓dP,↓reduceIte])
   ((repeat' with_reducible apply And.intro)<;>(first | exact DEq.refl _ | refine DEq.int ?_ | refine DEq.bool ?_ | skip))
end Go.Proofs.Leaf
namespace Go.Proofs.Leaf
open Go Go.RX Go.Proofs
set_option maxRecDepth 10000
section
variable [Glob]
def delK (q:Int->Bool) (l:List Int) (w0:World):Exit->Act->World->Prop:=fun e a w =>
 e = .ret/\a.defers = []/\Keep w0.heap.size w0 w/\∃ v xs,a.tmps.getD 4 undef = v/\w.ownsRow w0.heap.size 3 1 v (keptL q l).length xs/\∀ i,i < (keptL q l).length->xs[i]? = some (.int .i64 ((keptL q l).getD i default))
theorem del_end {q:Int->Bool} {l:List Int} {N:Nat} {σ:Sy} {I:Nat->Prop} {w0 w:World} {a:Act} {i:Nat} {g:Nat->Nat->DV} (hs:St σ I N w0 a w) (h4:lk σ.env 4 = .tk i) (hi:nth σ.tk i = some (.own 3 1 (keptL q l).length g))
  (hg:∀ j,j < (keptL q l).length->g j 0 = iD ((keptL q l).getD j default)):delK q l w0 .ret a w:=by
 obtain ⟨I',β,τ,h⟩:=hs (fun _ => none)
 obtain ⟨_,v,xs,t1,t2,t3,t4,t5⟩:=h.tok i _ hi
 refine ⟨rfl,h.df,h.bel,v,xs,?_,t2,fun j hj => ?_⟩
 ·have hm:=(h.env 4).un (fun j b y e => by rw [h4] at e;cases e)
  rw [h4] at hm
  generalize a.tmps.getD 4 undef = u at hm
  cases hm with
  | tk hτ _ => rw [t1] at hτ;cases hτ;rfl
 ·obtain ⟨u,hu,hr⟩:=t4 j 0 hj (by decide)
  rw [hg j hj] at hr
  rw [Nat.mul_one,Nat.add_zero] at hu
  rw [hu]
  cases hr;rfl
theorem zero1_len (n:Nat):(Builtin.zeroCells #[.int .i64 0] n).toList.length = n:=by simp [Builtin.zeroCells]
theorem zero1_one (n:Nat):∀ v∈(Builtin.zeroCells #[.int .i64 0] n).toList,v.oneCell' = true:=by
 intro v hv
 simp only [Builtin.zeroCells,Array.toList_map,List.mem_map] at hv
 obtain ⟨i,_,rfl⟩:=hv
 have h2:i % 1 = 0:=Nat.mod_one i
 show (#[Value.int .i64 0][i % 1]!).oneCell' = true
 rw [h2];rfl
theorem run_clear1 (ty:TypeId) {W:World} {g o n c:Nat} {cur:Array Value} (hg:W.heap[g]? = some (.cells cur 3)) (hn:0 < n) (hl:o + n<=cur.size) :
  (Builtin.clear_ #[32] ty #[.slice (some ⟨g,o,none⟩) n c]).run Try.prog W = .ok (.tuple #[]) (W.setRow g (cur.toList.take o ++ (Builtin.zeroCells #[.int .i64 0] n).toList ++ cur.toList.drop (o + (Builtin.zeroCells #[.int .i64 0] n).toList.length)).toArray):=by
 have hst:=run_storeCells_at Try.prog g o 3 (Builtin.zeroCells #[.int .i64 0] n).toList 0 cur W hg (by rw [zero1_len];omega) (zero1_one n)
 simp only [Nat.add_zero] at hst
 have hz:∀ w,(zeroValue 3).run Try.prog w = .ok (.int .i64 0) w:=fun _ => by kernel_rfl
 obtain ⟨m,rfl⟩:∃ m,n = m + 1:=⟨n - 1,by omega⟩
 simp [Builtin.clear_,run_underlying Try.underlying32,hz,Value.cells,hst]
theorem run_clear {P:Program} {ρ:Operand->Value} {o:Oper} {x:Operand} {t:TypeId} {v r:Value} {w w':World} (ho:o.op = .call ⟨.builtin .clear,#[x],#[t]⟩) (hx:ρ x = v) (hr:∀ ty,(Builtin.clear_ #[t] ty #[v]).run P w = .ok r w'):(execOp ρ o).run P w = .ok (.value r) w':=by
 simp [execOp,ho,hx,resolve,invoke,builtin,hr]
theorem del_walk (l:List Int) (gf km:Nat) (ck:Nat->DV) (q:Int->Bool) (hl:l.length < 1000000) (hf:∀ x∈l,Ctr Try.prog gf (iS x :: take ck 0 km) (bS (q x))) {I:Nat->Prop} {w0 w:World} {a:Act}
  (hst:St { env:=[(0,.tk 0),(1,.d (.clo gf km ck))],bx:=[],tk:=[ownD 3 1 intD l] } I Try.f27.ntmps w0 a w) {c:Code} (hc:Try.f27.body = some c):c.wpIn fen 0 Try.prog (delK q l w0) a w:=by
 obtain rfl:_ = c:=Option.some.inj hc
 letI:Bas:=⟨I,w0⟩
 refine Ok.first hst ?_
 (first|refine qE ?_|refine qD ?_);(simp only [go_sem,↓dP,↓reduceIte];with_reducible and_intros;all_goals first|apply qA|exact qC|skip)
 intro a w hst
 refine Ok.first hst ?_
 (first|refine qE ?_|refine qD ?_);(simp only [go_sem,↓dP,↓reduceIte];with_reducible and_intros;all_goals first|apply qA|exact qC|skip)
 (refine AskI.ret (c_IndexFunc_int l gf km ck q hl hf) ?_;simp only [go_sem,↓dP,↓reduceIte];with_reducible and_intros;all_goals first|apply qA|exact qC|skip)
 intro a w hst
 refine wpIn_seq ?_
 refine Ok.first hst ?_
 (first|refine qE ?_|refine qD ?_);(simp only [go_sem,↓dP,↓reduceIte];with_reducible and_intros;all_goals first|apply qA|exact qC|skip)
 intro a w hst
 refine hand_cond hst rfl (fun hb => ?_) (fun hb => ?_)
 ·have hix:ixL q l = -1:=by simpa using hb
  have hk:keptL q l = l:=List.filter_eq_self.2 (fun x hx => by
   have:=ixL_any q l
   rw [hix] at this
   have h2:l.any q = false:=by rw [← this];rfl
   rw [List.any_eq_false] at h2
   simpa using h2 x hx)
  refine Ok.first hst ?_
  (first|refine qE ?_|refine qD ?_);(simp only [go_sem,↓dP,↓reduceIte];with_reducible and_intros;all_goals first|apply qA|exact qC|skip)
  intro a w hst
  refine wpIn_ret ?_
  refine del_end hst rfl (by rw [hk];rfl) (fun j hj => by rw [hk];rfl)
 ·have hix:¬ ixL q l = -1:=by simpa using hb
  obtain ⟨k0,hk0,he,hq0,hpre⟩:∃ k:Nat,k < l.length/\ixL q l = (k:Int)/\q (l.getD k default) = true/\∀ x∈l.take k,q x = false:=by
   unfold ixL at hix ⊢
   cases hk:l.findIdx? q with
   | none => rw [hk] at hix;exact absurd rfl hix
   | some k =>
    rw [List.findIdx?_eq_some_iff_getElem] at hk
    obtain ⟨h1,h2,h3⟩:=hk
    refine ⟨k,h1,rfl,by rw [getD_lt h1];exact h2,fun x hx => ?_⟩
    rw [List.mem_take_iff_getElem] at hx
    obtain ⟨i,hi,rfl⟩:=hx
    have:=h3 i (by omega)
    simpa using this
  refine wpIn_skip ?_
  show Code.wpIn _ _ _ _ _ _ _
  refine wpIn_seq ?_
  refine Ok.first hst ?_
  (first|refine qE ?_|refine qD ?_);(simp only [go_sem,↓dP,↓reduceIte];with_reducible and_intros;all_goals first|apply qA|exact qC|skip)
  intro a w hst
  refine Ok.enter hst ?_
  refine Ok.block ?_
  have hk1:keptL q (l.take (k0 + 1)) = l.take k0:=by
   rw [kept_succ hk0,if_pos hq0,List.append_nil]
   exact List.filter_eq_self.2 (fun x hx => by rw [hpre x hx];rfl)
  have hk2:(l.take k0).length = k0:=by rw [List.length_take];omega
  refine Ok.loop (X:=DelX q l) (fun p => { env:=[(0,.tk 0),(1,.d (.clo gf km ck)),(5,iS (keptL q (l.take p.j)).length),(6,iS p.j)],bx:=[],tk:=[ownD 3 1 intD p.cur] }) (fun p => l.length - p.j)
   ⟨k0 + 1,l,hk0,rfl,by rw [hk1,hk2],fun _ _ => rfl⟩ ?_ (fun p => ?_)
  ·rw [he] at hst ⊢
   (refine Sub.of ([]) ([some 0]) ?_ ?_ ?_ rfl rfl<;>simp only [subB,subB1,subT,subT1,newT,subE,subV,subL,go_sem,↓dP,↓reduceIte]<;>(try (repeat' with_reducible apply And.intro))<;>(try first | exact DEq.refl _ | refine DEq.int ?_ | refine DEq.bool ?_ | omega))
   all_goals first | (intro _ _ _ _;exact .refl _) | (rw [hk1,hk2]) | (push_cast;omega) | omega
  ·refine Ok.seq ?_
   (first|refine qE ?_|refine qD ?_);(simp only [go_sem,↓dP,↓reduceIte];with_reducible and_intros;all_goals first|apply qA|exact qC|skip)
   have hpl:=p.len
   have hpj:=p.jl
   refine Ok.cond rfl (fun hb => ?_) (fun hb => ?_)
   ·have hlt:p.j < l.length:=by simp at hb;omega
    (refine Ok.skip ?_;(try dsimp only [thenK,blockK,noGotoK]))
    refine Ok.seq ?_
    refine Ok.block ?_
    (first|refine qE ?_|refine qD ?_);(simp only [go_sem,↓dP,↓reduceIte];with_reducible and_intros;all_goals first|apply qA|exact qC|skip)
    rw [p.old p.j (Nat.le_refl _)]
    have hm:l.getD p.j default∈l:=getD_mem hlt
    refine Ok.seq ?_
    (first|refine qE ?_|refine qD ?_);(simp only [go_sem,↓dP,↓reduceIte];with_reducible and_intros;all_goals first|apply qA|exact qC|skip)
    (refine AskI.ret (hf _ hm) ?_;simp only [go_sem,↓dP,↓reduceIte];with_reducible and_intros;all_goals first|apply qA|exact qC|skip)
    have hkl:=kept_le q l p.j
    cases hq:q (l.getD p.j default) with
    | true =>
     refine Ok.cond rfl (fun hb => by cases hb) (fun _ => ?_)
     (refine Ok.skip ?_;(try dsimp only [thenK,blockK,noGotoK]))
     (first|refine qE ?_|refine qD ?_);(simp only [go_sem,↓dP,↓reduceIte];with_reducible and_intros;all_goals first|apply qA|exact qC|skip)
     (try dsimp only [thenK,blockK,noGotoK])
     refine ⟨p.skip hlt hq,?_,?_⟩
     ·(refine Sub.of ([]) ([some 0]) ?_ ?_ ?_ rfl rfl<;>simp only [subB,subB1,subT,subT1,newT,subE,subV,subL,go_sem,↓dP,↓reduceIte]<;>(try (repeat' with_reducible apply And.intro))<;>(try first | exact DEq.refl _ | refine DEq.int ?_ | refine DEq.bool ?_ | omega))
      ·rfl
      ·exact fun _ _ _ _ => .refl _
      ·show _ = ((keptL q (l.take (p.j + 1))).length:Int)
       rw [kept_succ hlt,if_pos hq,List.append_nil]
     ·show l.length - (p.j + 1) < l.length - p.j
      omega
    | false =>
     refine Ok.cond rfl (fun _ => ?_) (fun hb => by cases hb)
     (first|refine qE ?_|refine qD ?_);(simp only [go_sem,↓dP,↓reduceIte];with_reducible and_intros;all_goals first|apply qA|exact qC|skip)
     (try dsimp only [thenK,blockK,noGotoK])
     (first|refine qE ?_|refine qD ?_);(simp only [go_sem,↓dP,↓reduceIte];with_reducible and_intros;all_goals first|apply qA|exact qC|skip)
     (try dsimp only [thenK,blockK,noGotoK])
     (first|refine qE ?_|refine qD ?_);(simp only [go_sem,↓dP,↓reduceIte];with_reducible and_intros;all_goals first|apply qA|exact qC|skip)
     (try dsimp only [thenK,blockK,noGotoK])
     refine ⟨p.keep hlt hq,?_,?_⟩
     ·(refine Sub.of ([]) ([some 0]) ?_ ?_ ?_ rfl rfl<;>simp only [subB,subB1,subT,subT1,newT,subE,subV,subL,go_sem,↓dP,↓reduceIte]<;>(try (repeat' with_reducible apply And.intro))<;>(try first | exact DEq.refl _ | refine DEq.int ?_ | refine DEq.bool ?_ | omega))
      ·show _ = (p.cur.set _ _).length
       rw [List.length_set]
      ·intro i j hi hj
       have:j = 0:=by omega
       subst this
       show DEq _ (intD ((p.cur.set (keptL q (l.take p.j)).length (l.getD p.j default)).getD i default) 0)
       by_cases e:i = (keptL q (l.take p.j)).length
       ·rw [if_pos ⟨e,by decide⟩]
        subst e
        rw [List.getD_eq_getElem?_getD (l:=p.cur.set _ _),List.getElem?_set_self hi]
        exact .refl _
       ·rw [if_neg (fun h => e h.1),List.getD_eq_getElem?_getD (l:=p.cur.set _ _),List.getElem?_set_ne (fun h => e h.symm),← List.getD_eq_getElem?_getD]
        exact .refl _
      ·show _ = ((keptL q (l.take (p.j + 1))).length:Int)
       rw [kept_succ hlt,hq,if_neg (by simp),List.length_append];rfl
     ·show l.length - (p.j + 1) < l.length - p.j
      omega
   ·have hje:p.j = l.length:=by simp at hb;omega
    (refine Ok.exit ?_;simp only [thenK_exit,blockK_exit,noGotoK_exit,thenK_normal,blockK_normal,noGotoK_normal,↓reduceIte,Nat.reduceEqDiff])
    intro a w hst
    show Code.wpIn _ _ _ _ _ _ _
    refine wpIn_seq ?_
    (refine hT 2 ?h1 ?h2 ?h3 ?h4 hst ?_;(case h1 => rfl);(case h2 => rfl);(case h3 => rfl);(case h4 => rfl);simp only [go_sem,↓dP,↓reduceIte];with_reducible and_intros;all_goals first|apply qA|exact qC|skip)
    intro Y a w hinv
    have hst:=St.of hinv rfl
    obtain ⟨I',β,τ,h⟩:=hst (fun _ => none)
    obtain ⟨_,v,xs,t1,t2,t3,t4,t5⟩:=h.tok 0 _ rfl
    have h36:a.tmps.getD 36 undef = v:=by
     have hm:=(h.env 36).un (fun _ _ _ e => by cases e)
     generalize a.tmps.getD 36 undef = u at hm
     cases hm with
     | tk hτ _ => rw [t1] at hτ;cases hτ;rfl
    have h37:a.tmps.getD 37 undef = .int .i64 (keptL q (l.take p.j)).length:=by
     have hm:=mt_d ((h.env 37).un (fun _ _ _ e => by cases e))
     generalize a.tmps.getD 37 undef = u at hm
     cases hm;rfl
    rw [hje,List.take_length] at h37
    have hil:(keptL q l).length < l.length:=List.length_filter_lt_length_iff_exists.2 ⟨_,getD_mem hk0,by rw [hq0];simp⟩
    have hkept:=p.kept
    rw [hje,List.take_length] at hkept
    generalize hi:(keptL q l).length = i at *
    obtain ⟨hxl,hcase⟩:=t2
    rcases hcase with ⟨_,hv⟩ | ⟨b,cap,cur,rfl,c2,c3,c4,c5,c6,c7⟩
    ·omega
    have hsl:sliced (some ⟨b,0,none⟩) (i:Int).toNat ((p.cur.length:Int)).toNat cap 1 = .slice (some ⟨b,i,none⟩) (p.cur.length - i) (cap - i):=by
     unfold sliced
     rw [Int.toNat_natCast,Int.toNat_natCast,if_neg (by omega)]
     simp [Addr.add]
     exact fun h => h.symm
    refine tail_val rfl (fun c e => by cases e) ((run_slice_op (a:=a) (o:=_) (x:=.tmp 36) (lo:=some (.tmp 37)) (hi:=none) (l:=i) (hh:=p.cur.length) (kl:=.i64) (kh:=.i64) rfl h36 (ht:=Tryz_elT_32) h37 rfl (by omega) (by omega) (by omega) c4).trans (by rw [hsl])) ?_
    have hsz:=h.sz
    refine tail_val (w':=w.setRow b (cur.toList.take i ++ (Builtin.zeroCells #[.int .i64 0] (p.cur.length - i)).toList ++ cur.toList.drop (i + (Builtin.zeroCells #[.int .i64 0] (p.cur.length - i)).toList.length)).toArray) (v:=.tuple #[]) rfl (fun c e => by cases e) ?_ ?_
    ·have e38:(a.put (some 38) (Value.slice (some ⟨b,i,none⟩) (p.cur.length - i) (cap - i))).eval (.tmp 38) = .slice (some ⟨b,i,none⟩) (p.cur.length - i) (cap - i):=by
      show (a.tmps.setIfInBounds 38 _).getD 38 undef = _
      rw [tmp_eq (by rw [hsz];decide)]
     exact run_clear rfl e38 (fun ty => run_clear1 (o:=i) (n:=p.cur.length - i) ty c3 (by omega) (by rw [c6];omega))
    refine tail_end ?_
    show Code.wpIn _ _ _ _ _ _ _
    refine wpIn_seq (wpIn_region ?_)
    obtain ⟨a2,ha2⟩:∃ a2:Act,a2 = (a.put (some 38) (Value.slice (some ⟨b,i,none⟩) (p.cur.length - i) (cap - i))).put none (.tuple #[]):=⟨_,rfl⟩
    rw [← ha2]
    have hz2:a2.tmps.size = Try.f27.ntmps:=by rw [ha2];show (a.tmps.setIfInBounds 38 _).size = _;rw [Array.size_setIfInBounds];exact hsz
    have z0:a2.tmps.getD 0 undef = .slice (some ⟨b,0,none⟩) p.cur.length cap:=by
     have hm:=(h.env 0).un (fun _ _ _ e => by cases e)
     rw [ha2]
     show (a.tmps.setIfInBounds 38 _).getD 0 undef = _
     rw [tmp_ne (by decide)]
     generalize a.tmps.getD 0 undef = u at hm
     cases hm with
     | tk hτ _ => rw [t1] at hτ;cases hτ;rfl
    have z5:a2.tmps.getD 5 undef = .int .i64 i:=by
     have hm:=mt_d ((h.env 5).un (fun _ _ _ e => by cases e))
     rw [ha2]
     show (a.tmps.setIfInBounds 38 _).getD 5 undef = _
     rw [tmp_ne (by decide)]
     generalize a.tmps.getD 5 undef = u at hm
     cases hm;rw [hje,List.take_length,hi]
    obtain ⟨W2,hW2⟩:∃ W2,W2 = w.setRow b (cur.toList.take i ++ (Builtin.zeroCells #[.int .i64 0] (p.cur.length - i)).toList ++ cur.toList.drop (i + (Builtin.zeroCells #[.int .i64 0] (p.cur.length - i)).toList.length)).toArray:=⟨_,rfl⟩
    rw [← hW2]
    have put_ne:∀ (x:Act) (d t:Nat) (v:Value),d ≠ t->(x.put (some d) v).tmps.getD t undef = x.tmps.getD t undef:=fun x d t v h => tmp_ne h
    have put_eq:∀ (x:Act) (d:Nat) (v:Value),d < x.tmps.size->(x.put (some d) v).tmps.getD d undef = v:=fun x d v h => tmp_eq h
    have put_sz:∀ (x:Act) (d:Nat) (v:Value),(x.put (some d) v).tmps.size = x.tmps.size:=fun x d v => Array.size_setIfInBounds
    have hN:Try.f27.ntmps = 42:=rfl
    refine tail_val (m:=0) (k:=3) rfl (fun c e => by cases e) (run_move (.inl rfl) z0) ?_
    refine tail_val rfl (fun c e => by cases e) (run_move (v:=.int .i64 i) (.inl rfl) ((put_ne _ 39 5 _ (by decide)).trans z5)) ?_
    refine tail_val rfl (fun c e => by cases e) (run_slice_op (a:=_) (o:=_) (x:=.tmp 39) (lo:=none) (hi:=some (.tmp 40)) (l:=0) (hh:=i) (kl:=.i64) (kh:=.i64) rfl ((put_ne _ 40 39 _ (by decide)).trans (put_eq _ 39 _ (by rw [hz2,hN];decide))) (ht:=Tryz_elT_32) rfl (put_eq _ 40 _ (by rw [put_sz,hz2,hN];decide)) (by omega) (by omega) (by omega) c4) ?_
    have hs2:sliced (some ⟨b,0,none⟩) (0:Int).toNat (i:Int).toNat cap 1 = .slice (some ⟨b,0,none⟩) i cap:=by
     unfold sliced
     simp [Addr.add]
    rw [hs2]
    refine tail_val rfl (fun c e => by cases e) (run_move (v:=.slice (some ⟨b,0,none⟩) i cap) (.inr rfl) (put_eq _ 41 _ (by rw [put_sz,put_sz,hz2,hN];decide))) ?_
    refine tail_end (wpIn_ret ⟨rfl,?_,?_,_,cur.toList.take i,rfl,?_,?_⟩)
    ·show a2.defers = []
     rw [ha2];exact h.df
    ·refine ⟨?_,?_,?_,?_,fun k hk hm => ?_,fun hG => ?_⟩
     ·rw [hW2];exact h.bel.os
     ·rw [hW2];exact h.bel.tape
     ·rw [hW2];exact h.bel.output
     ·rw [hW2];simpa using h.bel.size
     ·rw [hW2];exact (setRow_other w b k _ (by omega)).trans (h.bel.block k hk hm)
     ·have hF:=Glob.lo _ hG
      rw [hW2]
      exact Glob.st _ _ (h.bel.gl hG) ⟨rfl,rfl,rfl,by simp,fun k hk => setRow_other w b k _ (by omega)⟩
    ·rw [hi]
     rw [put_eq _ 4 _ (by rw [put_sz,put_sz,put_sz,hz2,hN];decide)]
     have hcl:(cur.toList.take i).length = i:=by rw [List.length_take,Array.length_toList];omega
     refine ⟨by rw [hcl,Nat.mul_one],.inr ⟨b,cap,_,rfl,c2,by rw [hW2];exact setRow_heap w b cur _ 3 (0,0) c3,by omega,c5,?_,?_⟩⟩
     ·have hz1:=zero1_len (p.cur.length - i)
      rw [Array.length_toList] at hz1
      simp only [List.size_toArray,List.length_append,List.length_drop,hcl,Array.length_toList,hz1,c6]
      omega
     ·rw [List.append_assoc,Nat.mul_one]
      exact List.take_left' hcl
    ·intro j hj
     rw [hi] at hj
     obtain ⟨u,hu,hr⟩:=t4 j 0 (by omega) (by decide)
     rw [Nat.mul_one,Nat.add_zero,← c7,Nat.mul_one,List.getElem?_take_of_lt (by omega)] at hu
     rw [List.getElem?_take_of_lt hj,hu]
     have e:(keptL q l).getD j default = p.cur.getD j default:=by
      rw [← hkept,List.getD_eq_getElem?_getD,List.getElem?_take_of_lt hj,← List.getD_eq_getElem?_getD]
     rw [e]
     cases hr;rfl
end
end Go.Proofs.Leaf
namespace Go.Proofs.Leaf
open Go Go.RX Go.Proofs Go.RowKit
set_option maxRecDepth 10000
section
theorem o_every (J : Job) (hh : J.ps.length < 1000) : CtrF Try.prog 22 [J.sv] 3 1 (upI J.ps.length).length (fun i => intD ((upI J.ps.length).getD i default)) := by
  (refine CtrF.mk (fn := Try.f22) (by decide) rfl rfl rfl rfl rfl rfl ?_; intro _; dsimp only [args, List.toList_toArray])
  (first|refine qE ?_|refine qD ?_);(simp only [go_sem,↓dP,↓reduceIte];with_reducible and_intros;all_goals first|apply qA|exact qC|skip)
  (first|refine qE ?_|refine qD ?_);(simp only [go_sem,↓dP,↓reduceIte];with_reducible and_intros;all_goals first|apply qA|exact qC|skip)
  refine Ok.seq ?_
  (first|refine qE ?_|refine qD ?_);(simp only [go_sem,↓dP,↓reduceIte];with_reducible and_intros;all_goals first|apply qA|exact qC|skip)
  refine Ok.block ?_
  refine Ok.count J.ps.length (fun i => ⟨[(1, .p 0 0), (3, .tk 0), (7, iS J.ps.length), (8, iS i)], [jobC J], [ownD 3 1 intD (upI i)]⟩) (fun _ => True) ⟨trivial, ?_⟩ ?_ ?_
  · (refine Sub.of ([0]) ([none]) ?_ ?_ ?_ rfl rfl <;> simp only [subB, subB1, subT, subT1, newT, subE, subV, subL, go_sem,↓dP,↓reduceIte] <;> (try (repeat' with_reducible apply And.intro)) <;> (try first | exact DEq.refl _ | refine DEq.int ?_ | refine DEq.bool ?_ | omega))
    simp [upI]
  · intro i hi _
    have hlen := upI_len i
    have hsn := upI_succ i
    ((first|refine qE ?_|refine qD ?_);(simp only [go_sem,↓dP,↓reduceIte];with_reducible and_intros;all_goals first|apply qA|exact qC|skip)); refine Ok.seq ?_; refine Ok.cond rfl (fun _ => ?_) (fun hb => by simp at hb; omega); (refine Ok.skip ?_; (try dsimp only [thenK, blockK, noGotoK])); refine Ok.seq ?_; refine Ok.block ?_
    (first|refine qE ?_|refine qD ?_);(simp only [go_sem,↓dP,↓reduceIte];with_reducible and_intros;all_goals first|apply qA|exact qC|skip)
    (first|refine qE ?_|refine qD ?_);(simp only [go_sem,↓dP,↓reduceIte];with_reducible and_intros;all_goals first|apply qA|exact qC|skip)
    (try dsimp only [thenK, blockK, noGotoK])
    (first|refine qE ?_|refine qD ?_);(simp only [go_sem,↓dP,↓reduceIte];with_reducible and_intros;all_goals first|apply qA|exact qC|skip)
    (try dsimp only [thenK, blockK, noGotoK])
    refine ⟨trivial, ?_⟩
    (refine Sub.of ([0]) ([some 1]) ?_ ?_ ?_ rfl rfl <;> simp only [subB, subB1, subT, subT1, newT, subE, subV, subL, go_sem,↓dP,↓reduceIte] <;> (try (repeat' with_reducible apply And.intro)) <;> (try first | exact DEq.refl _ | refine DEq.int ?_ | refine DEq.bool ?_ | omega))
    · rw [hsn]; simp
    · rw [hsn]
      exact snoc_D (fun c hc => by have : c = 0 := by omega
                                   subst this; rfl)
  · intro _
    ((first|refine qE ?_|refine qD ?_);(simp only [go_sem,↓dP,↓reduceIte];with_reducible and_intros;all_goals first|apply qA|exact qC|skip)); refine Ok.seq ?_; refine Ok.cond rfl (fun hb => by simp at hb) (fun _ => ?_); (refine Ok.exit ?_; simp only [thenK_exit, blockK_exit, noGotoK_exit, thenK_normal, blockK_normal, noGotoK_normal, ↓reduceIte, Nat.reduceEqDiff])
    (first|refine qE ?_|refine qD ?_);(simp only [go_sem,↓dP,↓reduceIte];with_reducible and_intros;all_goals first|apply qA|exact qC|skip)
    refine Ok.ret ?_
    refine .inr ⟨_, _, rfl, rfl, fun i j _ _ => ⟨.refl _, ?_⟩⟩
    rcases j with _ | j
    · exact .int
    · exact .nilI
end
section
variable [Glob]
theorem del_everyG (J:Job) (hh:J.ps.length < 1000) (gf km:Nat) (ck:Nat->DV) (q:Int->Bool) (hf:∀ x∈upI J.ps.length,Ctr Try.prog gf (iS x :: take ck 0 km) (bS (q x))) {I:Nat->Prop} {w:World} {vj u:Value} (hG:Glob.G w) (hM:∀ b,I b->Glob.M ≠ some b) (hI:∀ b,I b->b < w.heap.size) (hj:RepS I w vj J.sv) (hu:RepS I w u (.d (.clo gf km ck))) :
  Calls Try.prog 22 #[vj] w (fun e w1 => ∃ v,e = .returned v/\Below w.heap.size w w1/\Calls Try.prog 27 #[v,u] w1 (fun e2 w2 => ∃ v2 xs,e2 = .returned v2/\w2.ownsRow w.heap.size 3 1 v2 (keptL q (upI J.ps.length)).length xs /\
   (∀ i,i < (keptL q (upI J.ps.length)).length->xs[i]? = some (.int .i64 ((keptL q (upI J.ps.length)).getD i default)))/\Keep w.heap.size w w2)):=by
 refine ((o_every J hh).2 I w #[vj] hI rfl (fun j u s hu hs => ?_)).mono (fun e w1 hq => ?_)
 ·rcases j with _ | j
  ·cases hu;cases hs;exact hj
  ·simp at hu
 obtain ⟨v,xs,rfl,h1,h2,h3,h4⟩:=hq
 refine ⟨v,rfl,h4,?_⟩
 refine calls_of_wp (fn:=Try.f27) rfl rfl ?_
 have hN:Try.f27.ntmps = 42:=rfl
 obtain ⟨R,hR⟩:∃ R:Array Value,R = Array.replicate (Try.f27.ntmps - 2) undef:=⟨_,rfl⟩
 have hRs:R.size = 40:=by rw [hR,hN];simp
 have h0:RepS I w ((#[undef,u] ++ R).getD 1 undef) (.d (.clo gf km ck)):=by
  rw [Array.getD_eq_getD_getElem?,Array.getElem?_append_left (by simp)];exact hu
 have hs0:St { env:=[(1,.d (.clo gf km ck))],bx:=[],tk:=[] } I Try.f27.ntmps w { tmps:=#[undef,u] ++ R,defers:=[] } w :=
  St.data (β:=fun _ => none) (τ:=fun _ => none) (Y:=fun _ => none) (by rw [hN];simp [hRs]) rfl hI hM hG (dat_cons h0 dat_nil)
 have hst:=hs0.fresh rfl (d:=0) (by rw [hN];decide) (by decide) h4 h1 h2 h3
 have ea:({ tmps:=#[undef,u] ++ R,defers:=[] }:Act).put (some 0) v = { tmps:=#[v,u] ++ R,defers:=[] }:=by
  show ({ tmps:=(#[undef,u] ++ R).setIfInBounds 0 v,defers:=[] }:Act) = _
  have:(#[undef,u] ++ R).setIfInBounds 0 v = #[v,u] ++ R:=by
   apply Array.ext'
   simp
  rw [this]
 have eb:#[v,u] ++ Array.replicate (Try.f27.ntmps - #[v,u].size) undef = #[v,u] ++ R:=by rw [hR];rfl
 rw [eb]
 rw [ea] at hst
 refine wp_mono ((wpIn_wide (n:=0)).1 (del_walk (upI J.ps.length) gf km ck q (by rw [upI_len];omega) hf hst rfl)) ?_
 rintro e a' w' ⟨rfl,hd,hk,v2,xs2,q1,q2,q3⟩
 exact ⟨hd,_,results_tmp rfl _ _ _,v2,xs2,by rw [q1],q2,q3,hk⟩
end
section
theorem del_every (J:Job) (hh:J.ps.length < 1000) (gf km:Nat) (ck:Nat->DV) (q:Int->Bool) (hf:∀ x∈upI J.ps.length,Ctr Try.prog gf (iS x :: take ck 0 km) (bS (q x))) {I:Nat->Prop} {w:World} {vj u:Value} (hI:∀ b,I b->b < w.heap.size) (hj:RepS I w vj J.sv) (hu:RepS I w u (.d (.clo gf km ck))) :
  Calls Try.prog 22 #[vj] w (fun e w1 => ∃ v,e = .returned v/\Below w.heap.size w w1/\Calls Try.prog 27 #[v,u] w1 (fun e2 w2 => ∃ v2 xs,e2 = .returned v2/\w2.ownsRow w.heap.size 3 1 v2 (keptL q (upI J.ps.length)).length xs /\
   (∀ i,i < (keptL q (upI J.ps.length)).length->xs[i]? = some (.int .i64 ((keptL q (upI J.ps.length)).getD i default)))/\Below w.heap.size w w2)) :=
 (del_everyG J hh gf km ck q hf trivial (fun b _ e => by cases e) hI hj hu).mono (fun e w1 ⟨v,h1,h2,h3⟩ => ⟨v,h1,h2,h3.mono (fun e2 w2 ⟨v2,xs,h4,h5,h6,hk⟩ => ⟨v2,xs,h4,h5,h6,⟨hk.os,hk.tape,hk.output,hk.size,fun k hk' => hk.block k hk' (fun e => by cases e)⟩⟩)⟩)
theorem c_bound (J:Job) (hJ:J.based) (lo hi:Int):Ctr Try.prog 30 [J.sv,spS (lo,hi)] (ilS (keptL (fun n => decide ((J.span false n).1 < lo) || decide (hi < (J.span false n).2)) (upI J.ps.length))):=by
 have hf:∀ x∈upI J.ps.length,Ctr Try.prog 59 (iS x :: take (dget [J.ref,.ref 2 (dget [iD lo,iD hi])]) 0 2) (bS (decide ((J.span false x).1 < lo) || decide (hi < (J.span false x).2))):=fun x hx => by
  obtain ⟨h0,h1⟩:=upI_mem.1 hx
  exact c_bound_1 J hJ x lo hi h0 h1
 (refine Ctr.mk (fn:=Try.f30) rfl rfl rfl rfl rfl Try.results30 ?_;intro _;dsimp only [args,List.toList_toArray])
 (first|refine qE ?_|refine qD ?_);(simp only [go_sem,↓dP,↓reduceIte];with_reducible and_intros;all_goals first|apply qA|exact qC|skip)
 refine Ok.sub ((Sub.frzB (b:=0) rfl rfl).trans ((Sub.frzB (b:=1) rfl rfl).trans ((Sub.refB (b:=0) rfl rfl rfl).trans (Sub.refB (b:=1) rfl rfl rfl)))) ?_
 simp only [refE,refV,↓reduceIte,Nat.reduceEqDiff,Nat.one_ne_zero,Nat.zero_ne_one,List.length_cons,List.length_nil,Nat.reduceAdd,Nat.zero_add]
 ((first | refine RX.qT 1 ?h1 ?h2 ?h3 ?h4 ?_ | refine RX.qU 1 ?h1 ?h2 ?h3 ?h4 ?_);(case h1 => rfl);(case h2 => rfl);(case h3 => rfl);(case h4 => rfl);simp only [go_sem,↓dP,↓reduceIte];with_reducible and_intros;all_goals first|apply qA|exact qC|skip)
 intro Y a w hinv
 have hst:=St.of hinv rfl
 have hst:=hst.only [(5,J.sv),(3,.d (.ref 2 (dget [iD lo,iD hi]))),(2,.d J.ref)] (by
  simp only [subE,subV,subL,go_sem,↓dP,↓reduceIte]
  ((repeat' with_reducible apply And.intro)<;>(first | exact DEq.refl _ | refine DEq.int ?_ | refine DEq.bool ?_ | skip)))
 obtain ⟨I2,β,τ,hx⟩:=hst (fun _ => none)
 have g5:RepS I2 w (a.tmps.getD 5 undef) J.sv:=mt_aggd (ds:=J.cells) ((hx.env 5).un (fun _ _ _ e => by cases e))
 have g2:=mt_d ((hx.env 2).un (fun _ _ _ e => by cases e))
 have g3:=mt_d ((hx.env 3).un (fun _ _ _ e => by cases e))
 have gu:RepS I2 w (.func (.func 59) #[] #[a.tmps.getD 2 undef,a.tmps.getD 3 undef]) (.d (.clo 59 2 (dget [J.ref,.ref 2 (dget [iD lo,iD hi])]))):=fun Y => .d (.clo rfl (fun j u hu => by
  rcases j with _ | _ | j
  ·cases hu;exact g2
  ·cases hu;exact g3
  ·simp at hu))
 have hdel:=del_every J hJ.pl 59 2 _ _ hf hx.hI g5 gu
 refine tail_callFn (fn:=Try.f22) rfl rfl rfl rfl (by simp [Act.eval]) hdel (fun e w1 hq => ?_)
 obtain ⟨v,rfl,hB,hcall⟩:=hq
 refine ⟨v,rfl,?_⟩
 have hN:Try.f30.ntmps = 9:=rfl
 have hsz:=hx.sz
 have put_ne:∀ (x:Act) (d t:Nat) (v:Value),d ≠ t->(x.put (some d) v).tmps.getD t undef = x.tmps.getD t undef:=fun x d t v h => tmp_ne h
 have put_eq:∀ (x:Act) (d:Nat) (v:Value),d < x.tmps.size->(x.put (some d) v).tmps.getD d undef = v:=fun x d v h => tmp_eq h
 have put_sz:∀ (x:Act) (d:Nat) (v:Value),(x.put (some d) v).tmps.size = x.tmps.size:=fun x d v => Array.size_setIfInBounds
 have hst:=hst.putV (d:=6) (v:=v) (V:=.any) (by decide) (fun _ _ _ _ => .any)
 refine tail_val (v:=.func (.func 59) #[] #[a.tmps.getD 2 undef,a.tmps.getD 3 undef]) rfl (fun c e => by cases e) (run_mkf rfl ?_) ?_
 ·rw [map2]
  show #[(a.put (some 6) v).tmps.getD 2 undef,(a.put (some 6) v).tmps.getD 3 undef] = _
  rw [put_ne _ 6 2 _ (by decide),put_ne _ 6 3 _ (by decide)]
 have hst:=hst.putV (d:=7) (v:=.func (.func 59) #[] #[a.tmps.getD 2 undef,a.tmps.getD 3 undef]) (V:=.any) (by decide) (fun _ _ _ _ => .any)
 refine tail_callFn (fn:=Try.f27) rfl rfl rfl rfl ?_ hcall (fun e w2 hq => ?_)
 ·rw [map2]
  show #[((a.put (some 6) v).put (some 7) _).tmps.getD 6 undef,((a.put (some 6) v).put (some 7) _).tmps.getD 7 undef] = _
  rw [put_ne _ 7 6 _ (by decide),put_eq _ 6 _ (by rw [hsz,hN];decide),put_eq _ 7 _ (by rw [put_sz,hsz,hN];decide)]
 obtain ⟨v2,xs,rfl,q1,q2,q3⟩:=hq
 refine ⟨v2,rfl,?_⟩
 have hst:=hst.fresh rfl (d:=8) (g:=fun i => intD ((keptL (fun n => decide ((J.span false n).1 < lo) || decide (hi < (J.span false n).2)) (upI J.ps.length)).getD i default)) (by decide) (by decide) q3 q1 ?_ ?_
 ·(refine Ok.rest hst ?h1 ?h2 ?h3 ?_;(case h1 => rfl);(case h2 => rfl);(case h3 => rfl);simp only [go_sem,↓dP,↓reduceIte,bare];with_reducible and_intros;all_goals first|apply qA|exact qC|skip;(try dsimp only [thenK,blockK,noGotoK]))
  (refine Ok.ret ?_;(try dsimp only [thenK,blockK,noGotoK]);simp only [toList_mk,List.toList_toArray,retK_ret,retK_normal,resOK,resV,celV,rowV,frzAll,frzT,subV,subL,go_sem,↓dP,↓reduceIte])
  exact .refl _
 ·intro u hu
  obtain ⟨i,hi,rfl⟩:=List.getElem_of_mem hu
  have hl:=q1.1
  have:=q2 i (by omega)
  rw [List.getElem?_eq_getElem hi] at this
  rw [Option.some.inj this];rfl
 ·intro i j hi hj
  have:j = 0:=by omega
  subst this
  refine ⟨_,by rw [Nat.mul_one,Nat.add_zero];exact q2 i hi,fun I w => .int⟩
end
end Go.Proofs.Leaf
namespace Go.Proofs.Leaf
open Go Go.RX Go.Proofs
set_option maxRecDepth 10000
variable [Glob]
theorem bound_eq (J:Job) (lo hi:Int):keptL (fun n => decide ((J.span false n).1 < lo) || decide (hi < (J.span false n).2)) (upI J.ps.length) = asI (boundL (spans J false) lo hi):=by
 unfold keptL boundL upI asI
 rw [List.filter_map,spans_len]
 congr 1
 refine List.filter_congr (fun i hi => ?_)
 have:=span_at J false (List.mem_range.1 hi)
 rw [this]
 simp only [Function.comp]
 rw [Bool.eq_iff_iff]
 simp only [Bool.not_eq_true',Bool.or_eq_false_iff,decide_eq_false_iff_not,Bool.and_eq_true,decide_eq_true_eq]
 omega
theorem cA_bound (J:Job) (hJ:J.based) (lo hi:Int):Ctr Try.prog 30 [J.sv,spS (lo,hi)] (ilS (asI (boundL (spans J false) lo hi))):=by
 have:=@c_bound J hJ lo hi
 rw [bound_eq] at this
 exact Ctr.any this
def prfS (sp:List (Int×Int)):SV:=match proofL sp with
 | some x => .tup [spS x,ilS (asI (boundL sp x.1 x.2)),iS 0]
 | none => .tup [spS (0,0),ilS [],iS 5]
theorem prfS_some {sp:List (Int×Int)} {x:Int×Int} (h:proofL sp = some x):prfS sp = .tup [spS x,ilS (asI (boundL sp x.1 x.2)),iS 0]:=by unfold prfS;rw [h]
theorem prfS_none {sp:List (Int×Int)} (h:proofL sp = none):prfS sp = .tup [spS (0,0),ilS [],iS 5]:=by unfold prfS;rw [h]
theorem c_Proof (J:Job) (hJ:J.based) (hh:J.held) (hj:jobB J = true):Ctr Try.prog 9 [J.sv] (prfS (spans J false)):=by
 have hpl:=hJ.pl
 have hbd:=fun lo hi => cA_bound J hJ lo hi
 have hb:∀ lo hi,(boundL (spans J false) lo hi).length<=J.ps.length:=fun lo hi => by
  unfold boundL
  refine Nat.le_trans (List.length_filter_le _ _) ?_
  rw [List.length_range,spans_len];exact Nat.le_refl _
 generalize spans J false = sp at *
 (refine Ctr.mk (fn:=Try.f9) rfl rfl rfl rfl rfl Try.results9 ?_;intro _;dsimp only [args,List.toList_toArray])
 (first|refine qE ?_|refine qD ?_);(simp only [go_sem,↓dP,↓reduceIte];with_reducible and_intros;all_goals first|apply qA|exact qC|skip)
 refine Ok.seq ?_
 (first|refine qE ?_|refine qD ?_);(simp only [go_sem,↓dP,↓reduceIte];with_reducible and_intros;all_goals first|apply qA|exact qC|skip)
 (refine AskI.ret (c_isJob J hh) ?_;simp only [go_sem,↓dP,↓reduceIte];with_reducible and_intros;all_goals first|apply qA|exact qC|skip)
 refine Ok.cond rfl (fun hb => by rw [hj] at hb;cases hb) (fun _ => ?_)
 (refine Ok.skip ?_;(try dsimp only [thenK,blockK,noGotoK]))
 refine Ok.seq ?_
 (first|refine qE ?_|refine qD ?_);(simp only [go_sem,↓dP,↓reduceIte];with_reducible and_intros;all_goals first|apply qA|exact qC|skip)
 refine Ok.block ?_
 refine Ok.count 13 (fun m => ⟨[(1,.p 0 0),(2,.p 1 0),(3,.d .nils),(5,iS (m + 1))],[jobC J,{ frz:=false,xs:=[iS 0,iS 0] }],[]⟩) (fun m => ∀ m' l':Nat,m' < m->l' < 13 - m'->fewB sp (l',(l':Int) + m') = false) ⟨fun m' l' hm => by omega,?_⟩ ?_ ?_
 ·(refine Sub.of ([0,1]) ([]) ?_ ?_ ?_ rfl rfl<;>simp only [subB,subB1,subT,subT1,newT,subE,subV,subL,go_sem,↓dP,↓reduceIte]<;>(try (repeat' with_reducible apply And.intro))<;>(try first | exact DEq.refl _ | refine DEq.int ?_ | refine DEq.bool ?_ | omega))
 ·intro m hm hJ2
  refine Ok.seq ?_;((first|refine qE ?_|refine qD ?_);(simp only [go_sem,↓dP,↓reduceIte];with_reducible and_intros;all_goals first|apply qA|exact qC|skip));refine Ok.cond rfl (fun _ => ?_) (fun hb => by simp at hb;omega);(refine Ok.skip ?_;(try dsimp only [thenK,blockK,noGotoK]));refine Ok.seq ?_;refine Ok.block ?_
  (first|refine qE ?_|refine qD ?_);(simp only [go_sem,↓dP,↓reduceIte];with_reducible and_intros;all_goals first|apply qA|exact qC|skip)
  refine Ok.block ?_
  refine Ok.count (13 - m) (fun l => ⟨[(1,.p 0 0),(2,.p 1 0),(3,.d .nils),(5,iS (m + 1)),(6,iS l)],[jobC J,{ frz:=false,xs:=[iS 0,iS 0] }],[]⟩) (fun l => ∀ l':Nat,l' < l->fewB sp (l',(l':Int) + m) = false) ⟨fun l' hl => by omega,?_⟩ ?_ ?_
  ·(refine Sub.of ([0,1]) ([]) ?_ ?_ ?_ rfl rfl<;>simp only [subB,subB1,subT,subT1,newT,subE,subV,subL,go_sem,↓dP,↓reduceIte]<;>(try (repeat' with_reducible apply And.intro))<;>(try first | exact DEq.refl _ | refine DEq.int ?_ | refine DEq.bool ?_ | omega))
  ·intro l hl hJ3
   have e1:(l:Int) + (m + 1) - 1 = l + m:=by omega
   have a1:=hbd l (l + m)
   have hbl:=hb l (l + m)
   have hfw:fewB sp (l,(l:Int) + m) = decide ((boundL sp l (l + m)).length > (m:Int) + 1):=by
    unfold fewB
    dsimp only
    rw [show (l:Int) + m - l + 1 = m + 1 by omega]
   refine Ok.seq ?_;((first|refine qE ?_|refine qD ?_);(simp only [go_sem,↓dP,↓reduceIte];with_reducible and_intros;all_goals first|apply qA|exact qC|skip));refine Ok.cond rfl (fun _ => ?_) (fun hb => by simp at hb;omega);(refine Ok.skip ?_;(try dsimp only [thenK,blockK,noGotoK]));refine Ok.seq ?_;refine Ok.block ?_
   (first|refine qE ?_|refine qD ?_);(simp only [go_sem,↓dP,↓reduceIte];with_reducible and_intros;all_goals first|apply qA|exact qC|skip)
   rw [e1]
   (first|refine qE ?_|refine qD ?_);(simp only [go_sem,↓dP,↓reduceIte];with_reducible and_intros;all_goals first|apply qA|exact qC|skip)
   (refine AskI.ret (a1) ?_;simp only [go_sem,↓dP,↓reduceIte];with_reducible and_intros;all_goals first|apply qA|exact qC|skip)
   refine Ok.seq ?_
   (first|refine qE ?_|refine qD ?_);(simp only [go_sem,↓dP,↓reduceIte];with_reducible and_intros;all_goals first|apply qA|exact qC|skip)
   rw [asI_len]
   refine Ok.cond rfl (fun hc => ?_) (fun hc => ?_)
   ·have hf:fewB sp (l,(l:Int) + m) = true:=by rw [hfw];exact hc
    rw [prfS_some (proofL_yes hm hl hJ2 hJ3 hf)]
    (first|refine qE ?_|refine qD ?_);(simp only [go_sem,↓dP,↓reduceIte];with_reducible and_intros;all_goals first|apply qA|exact qC|skip)
    (refine Ok.ret ?_;(try dsimp only [thenK,blockK,noGotoK]);simp only [toList_mk,List.toList_toArray,retK_ret,retK_normal,resOK,resV,celV,rowV,frzAll,frzT,subV,subL,go_sem,↓dP,↓reduceIte])
    ((repeat' with_reducible apply And.intro)<;>(first | exact DEq.refl _ | refine DEq.int ?_ | refine DEq.bool ?_ | skip))
   ·have hf:fewB sp (l,(l:Int) + m) = false:=by rw [hfw];exact hc
    (refine Ok.skip ?_;(try dsimp only [thenK,blockK,noGotoK]))
    (first|refine qE ?_|refine qD ?_);(simp only [go_sem,↓dP,↓reduceIte];with_reducible and_intros;all_goals first|apply qA|exact qC|skip)
    (try dsimp only [thenK,blockK,noGotoK])
    refine ⟨fun l' hl' => ?_,?_⟩
    ·by_cases e:l' = l
     ·subst e;exact hf
     ·exact hJ3 l' (by omega)
    (refine Sub.of ([0,1]) ([]) ?_ ?_ ?_ rfl rfl<;>simp only [subB,subB1,subT,subT1,newT,subE,subV,subL,go_sem,↓dP,↓reduceIte]<;>(try (repeat' with_reducible apply And.intro))<;>(try first | exact DEq.refl _ | refine DEq.int ?_ | refine DEq.bool ?_ | omega))
  ·intro hJ3
   refine Ok.seq ?_;((first|refine qE ?_|refine qD ?_);(simp only [go_sem,↓dP,↓reduceIte];with_reducible and_intros;all_goals first|apply qA|exact qC|skip));refine Ok.cond rfl (fun hb => by simp at hb;omega) (fun _ => ?_);(refine Ok.exit ?_;simp only [thenK_exit,blockK_exit,noGotoK_exit,thenK_normal,blockK_normal,noGotoK_normal,↓reduceIte,Nat.reduceEqDiff])
   (try dsimp only [thenK,blockK,noGotoK])
   (first|refine qE ?_|refine qD ?_);(simp only [go_sem,↓dP,↓reduceIte];with_reducible and_intros;all_goals first|apply qA|exact qC|skip)
   (try dsimp only [thenK,blockK,noGotoK])
   refine ⟨fun m' l' hm' hl' => ?_,?_⟩
   ·by_cases e:m' = m
    ·subst e;exact hJ3 l' hl'
    ·exact hJ2 m' l' (by omega) hl'
   (refine Sub.of ([0,1]) ([]) ?_ ?_ ?_ rfl rfl<;>simp only [subB,subB1,subT,subT1,newT,subE,subV,subL,go_sem,↓dP,↓reduceIte]<;>(try (repeat' with_reducible apply And.intro))<;>(try first | exact DEq.refl _ | refine DEq.int ?_ | refine DEq.bool ?_ | omega))
 ·intro hJ2
  rw [prfS_none (proofL_no (fun m l hm hl => hJ2 m l hm hl))]
  refine Ok.seq ?_;((first|refine qE ?_|refine qD ?_);(simp only [go_sem,↓dP,↓reduceIte];with_reducible and_intros;all_goals first|apply qA|exact qC|skip));refine Ok.cond rfl (fun hb => by simp at hb) (fun _ => ?_);(refine Ok.exit ?_;simp only [thenK_exit,blockK_exit,noGotoK_exit,thenK_normal,blockK_normal,noGotoK_normal,↓reduceIte,Nat.reduceEqDiff])
  (first|refine qE ?_|refine qD ?_);(simp only [go_sem,↓dP,↓reduceIte];with_reducible and_intros;all_goals first|apply qA|exact qC|skip)
  (refine Ok.ret ?_;(try dsimp only [thenK,blockK,noGotoK]);simp only [toList_mk,List.toList_toArray,retK_ret,retK_normal,resOK,resV,celV,rowV,frzAll,frzT,subV,subL,go_sem,↓dP,↓reduceIte])
  ((repeat' with_reducible apply And.intro)<;>(first | exact DEq.refl _ | refine DEq.int ?_ | refine DEq.bool ?_ | skip))
  exact DEq.nils rfl
end Go.Proofs.Leaf
namespace Go.Proofs.Leaf
open Go Go.RX Go.Proofs Go.RowKit
set_option maxRecDepth 10000
section
theorem others_kept (n:Nat) (L:List Nat):keptL (fun v => decide (v∈asI L)) (upI n) = asI (othersL n L):=by
 unfold keptL othersL upI asI
 rw [List.filter_map]
 congr 1
 refine List.filter_congr (fun i hi => ?_)
 simp only [Function.comp]
 congr 1
 rw [decide_eq_decide]
 simp only [List.mem_map]
 constructor
 ·rintro ⟨a,h1,h2⟩
  have:a = i:=by omega
  rw [← this];exact h1
 ·intro h;exact ⟨i,h,rfl⟩
theorem others_lt {n:Nat} {L:List Nat} {i:Nat} (h:i∈othersL n L):i < n:=by
 unfold othersL at h
 rw [List.mem_filter,List.mem_range] at h
 exact h.1
theorem c_leftplan (J:Job) (hJ:J.based) (ht:J.timed) (hn:J.ps.length<=100) (L:List Nat):∃ o:Option (List Int),o.isSome = freeB (spans J false) L/\∀ G:Glob,@Ctr G Try.prog 20 [.d (plnD J 23 0 (fun _ => .nilI) (asI (othersL J.ps.length L)))] (optR o):=by
 have hmem:∀ n∈asI (othersL J.ps.length L),0<=n/\n < J.ps.length:=fun n hn => by
  unfold asI at hn
  rw [List.mem_map] at hn
  obtain ⟨i,h1,rfl⟩:=hn
  have:=others_lt h1
  omega
 have e:(asI (othersL J.ps.length L)).map (J.span false) = (othersL (spans J false).length L).map (fun i => (spans J false).getD i default):=by
  unfold asI
  rw [List.map_map,spans_len]
  refine List.map_congr_left (fun i hi => ?_)
  rw [span_at J false (others_lt hi)];rfl
 refine ⟨(planL ((othersL (spans J false).length L).map (fun i => (spans J false).getD i default)) []).head?,rfl,fun G => ?_⟩
 have:=@c_firstplan G J 23 0 (fun _ => .nilI) (asI (othersL J.ps.length L)) (by
  unfold asI othersL
  rw [List.length_map]
  exact Nat.le_trans (List.length_filter_le _ _) (by rw [List.length_range];exact hn)) (J.span false) (fun n hn => by
   obtain ⟨h0,h1⟩:=hmem n hn
   exact @c_surely g0 J hJ n h0 h1) (fun n hn => by
   obtain ⟨h0,h1⟩:=hmem n hn
   have:=ht (J.ps.getD n.toNat default) (getD_mem' (by omega)) false
   show -1000<=(spanOf J.gs false (J.ps.getD n.toNat default)).1/\(spanOf J.gs false (J.ps.getD n.toNat default)).2<=1000
   omega)
 rwa [e] at this
end
end Go.Proofs.Leaf
namespace Go.Proofs.Leaf
open Go Go.RX Go.Proofs Go.RowKit
set_option maxRecDepth 10000
section
theorem c_Leave1 (J:Job) (hJ:J.based) (ht:J.timed) (hn:J.ps.length<=100) (Ib:Nat->Prop) (wb:World) (b T:Nat) (hb0:wb.heap.size<=b) (XS:List (List Nat)) (i:Nat) (hi:i < XS.length) (hL:(XS.getD i []).length < 1000) (pj:Value) :
  @CalJ _ (gsU (lvG Ib wb b T (freeB (spans J false)) XS) #[outP b,pj] [.d (.raw (outP b)),.d J.ref]) Try.prog 26 #[outP b,pj] [ilS (asI (XS.getD i []))] (some i) (fun r => if r = true then none else some (i + 1)):=by
 refine ⟨⟨Try.f26,rfl,rfl,rfl⟩,fun I w vs hc hl hA => ?_⟩
 obtain ⟨o,ho,hfirst⟩:=c_leftplan J hJ ht hn (XS.getD i [])
 generalize hLL:XS.getD i [] = L at *
 obtain ⟨v0,rfl⟩:∃ v0,vs = #[v0]:=Array.size_eq_one_iff.1 (by simpa using hl)
 have h0:RepS I w v0 (ilS (asI L)):=hA 0 v0 _ rfl rfl
 have hpj:RepS I w pj (.d J.ref):=hc.2 1 pj _ rfl rfl
 have hI:=Gst.lt (self:=gsU (lvG Ib wb b T (freeB (spans J false)) XS) #[outP b,pj] [.d (.raw (outP b)),.d J.ref]) hc
 refine calls_of_wp (fn:=Try.f26) rfl rfl ?_
 have hst:=St.start (N:=Try.f26.ntmps) (A:=[ilS (asI L),.d (.raw (outP b)),.d J.ref]) (I:=I) (w:=w) (vs:=#[v0] ++ #[outP b,pj]) trivial hI (fun b _ e => by cases e) rfl (Nat.le_of_ble_eq_true rfl) (by
  intro k u s hu hs
  rcases k with _ | _ | _ | k
  ·simp at hu hs;subst hu;subst hs;exact h0
  ·simp at hu hs;subst hu;subst hs;exact fun Y => .d (.raw rfl)
  ·simp at hu hs;subst hu;subst hs;exact hpj
  ·simp at hs)
 dsimp only [RX.start,args] at hst
 refine (wpIn_wide (n:=0)).1 ?_
 letI:Bas:=⟨I,w⟩
 refine Ok.first hst ?_
 (first|refine qE ?_|refine qD ?_);(simp only [go_sem,↓dP,↓reduceIte];with_reducible and_intros;all_goals first|apply qA|exact qC|skip)
 intro a w1 hst
 refine wpIn_seq ?_
 (refine hT 1 ?h1 ?h2 ?h3 ?h4 hst ?_;(case h1 => rfl);(case h2 => rfl);(case h3 => rfl);(case h4 => rfl);simp only [go_sem,↓dP,↓reduceIte];with_reducible and_intros;all_goals first|apply qA|exact qC|skip)
 intro Y a w1 hinv
 have hst:=St.of hinv rfl
 have hst:=(hst.sub ((Sub.frzB (b:=0) rfl rfl).trans (Sub.refB (b:=0) rfl rfl rfl))).only [(8,ilS (asI L)),(3,.d (.ref 1 (dget [slD 1 intD (asI L)]))),(1,.d (.raw (outP b))),(2,.d J.ref),(4,bS false)] (by
  simp only [refE,refV,subE,subV,subL,go_sem,↓dP,↓reduceIte]
  ((repeat' with_reducible apply And.intro)<;>(first | exact DEq.refl _ | refine DEq.int ?_ | refine DEq.bool ?_ | skip)))
 letI:=gsU (lvG Ib wb b T (freeB (spans J false)) XS) #[outP b,pj] [.d (.raw (outP b)),.d J.ref]
 obtain ⟨I1,hst,hc1,_,hk1⟩:=hst.anew hc rfl rfl rfl
 obtain ⟨⟨l1,d1,_,_,_,hJb,hVb,hJq,hB1,u0,hcell,_⟩,hus1⟩:=hc1
 have hb1:=(Array.getElem?_eq_some_iff.1 hcell).1
 have h8:RepS I1 w1 (a.tmps.getD 8 undef) (ilS (asI L)):=hst.reps rfl rfl rfl 8
 have hone:(a.tmps.getD 8 undef).oneCell' = true:=by
  rcases rep_slice (mt_d (h8 (fun _ => none))) with ⟨e,_⟩ | ⟨p,n,c,e⟩<;>rw [e]<;>rfl
 have h1v:a.tmps.getD 1 undef = outP b:=hst.raw (t:=1) rfl
 refine tail_skp rfl (fun c e => by cases e) (run_storeCl (a:=a) (b:=b) (I:=I1) (T:=T) (u:=u0) (v:=a.tmps.getD 8 undef) (n:=w1.heap.size) rfl rfl h1v rfl rfl hone ⟨hb1,hJb,hcell⟩) ?_
 obtain ⟨w2,hw2⟩:∃ w2,w2 = w1.setRow b #[a.tmps.getD 8 undef]:=⟨_,rfl⟩
 rw [← hw2]
 have hoth:∀ k,k ≠ b->w2.heap[k]? = w1.heap[k]?:=fun k hk => by rw [hw2];exact setRow_other w1 b k _ hk
 have hsz2:w2.heap.size = w1.heap.size:=by rw [hw2];simp
 have hk2:Kpt I1 I1 w1 w2:=⟨by omega,fun _ h => h,fun k hk => hoth k (fun e => hJb (e ▸ hk))⟩
 have hcell2:w2.heap[b]? = some (.cells #[a.tmps.getD 8 undef] T (0,0)):=by rw [hw2];exact setRow_heap w1 b _ _ T (0,0) hcell
 have h82:=h8.kept hk2
 have l2:∀ k,I1 k->k < w2.heap.size:=fun k hk => by rw [hsz2];exact l1 k hk
 have hst:=hst.moved rfl rfl rfl hk2 l2 (fun b _ e => by cases e) trivial
 generalize a.tmps.getD 8 undef = v8 at *
 refine tail_end ?_
 show Code.wpIn _ _ _ _ _ _ _
 refine wpIn_seq ?_
 letI:Bas:=⟨I1,w2⟩
 (refine hT 1 ?h1 ?h2 ?h3 ?h4 hst ?_;(case h1 => rfl);(case h2 => rfl);(case h3 => rfl);(case h4 => rfl);simp only [go_sem,↓dP,↓reduceIte];with_reducible and_intros;all_goals first|apply qA|exact qC|skip)
 intro Y a2 w3 hinv
 have hst:=St.of hinv rfl
 obtain ⟨I2,β,τ,hx⟩:=hst (fun _ => none)
 have g9:RepS I2 w3 (a2.tmps.getD 9 undef) J.sv:=mt_aggd (ds:=J.cells) ((hx.env 9).un (fun _ _ _ e => by cases e))
 have g3:=mt_d ((hx.env 3).un (fun _ _ _ e => by cases e))
 have gu:RepS I2 w3 (.func (.func 28) #[] #[a2.tmps.getD 3 undef]) (.d (.clo 28 1 (dget [.ref 1 (dget [slD 1 intD (asI L)])]))):=fun Y => .d (.clo rfl (fun j u hu => by
  rcases j with _ | j
  ·cases hu;exact g3
  ·simp at hu))
 have hlen:(asI L).length < 1000000:=by unfold asI;rw [List.length_map];omega
 have hdel:=del_every J hJ.pl 28 1 (dget [.ref 1 (dget [slD 1 intD (asI L)])]) (fun v => decide (v∈asI L)) (fun x _ => c_Leave_1_1 (asI L) x hlen) hx.hI g9 gu
 rw [others_kept] at hdel
 have hN:Try.f26.ntmps = 21:=rfl
 have hsz:=hx.sz
 refine tail_callFn (fn:=Try.f22) rfl rfl rfl rfl (by simp [Act.eval]) hdel (fun e w4 hq => ?_)
 obtain ⟨v,rfl,hB,hcall⟩:=hq
 refine ⟨v,rfl,?_⟩
 have hst:=hst.putV (d:=10) (v:=v) (V:=.any) (by decide) (fun _ _ _ _ => .any)
 refine tail_val (v:=.func (.func 28) #[] #[a2.tmps.getD 3 undef]) rfl (fun c e => by cases e) (run_mkf rfl ?_) ?_
 ·have:#[Operand.tmp 3].map (a2.put (some 10) v).eval = #[(a2.put (some 10) v).tmps.getD 3 undef]:=by simp [Act.eval]
  rw [this,put_ne (by decide)]
 have hst:=hst.putV (d:=11) (v:=.func (.func 28) #[] #[a2.tmps.getD 3 undef]) (V:=.any) (by decide) (fun _ _ _ _ => .any)
 refine tail_callFn (fn:=Try.f27) rfl rfl rfl rfl ?_ hcall (fun e w5 hq => ?_)
 ·rw [map2]
  show #[((a2.put (some 10) v).put (some 11) _).tmps.getD 10 undef,((a2.put (some 10) v).put (some 11) _).tmps.getD 11 undef] = _
  rw [put_ne (by decide),put_eq (by rw [hsz,hN];decide),put_eq (by rw [put_sz,hsz,hN];decide)]
 obtain ⟨v2,xs,rfl,q1,q2,q3⟩:=hq
 refine ⟨v2,rfl,?_⟩
 have hst:=hst.fresh rfl (d:=12) (g:=fun i => intD ((asI (othersL J.ps.length L)).getD i default)) (by decide) (by decide) q3 q1 ?_ ?_
 rotate_left
 ·intro u hu
  obtain ⟨i,hi,rfl⟩:=List.getElem_of_mem hu
  have hl:=q1.1
  have:=q2 i (by omega)
  rw [List.getElem?_eq_getElem hi] at this
  rw [Option.some.inj this];rfl
 ·intro i j hi hj
  have:j = 0:=by omega
  subst this
  refine ⟨_,by rw [Nat.mul_one,Nat.add_zero];exact q2 i hi,fun I w => .int⟩
 (refine RX.hrest hst ?h1 ?h2 ?h3 ?_;(case h1 => rfl);(case h2 => rfl);(case h3 => rfl);simp only [go_sem,↓dP,↓reduceIte,bare];with_reducible and_intros;all_goals first|apply qA|exact qC|skip)
 intro a4 w6 hst
 show Code.wpIn _ _ _ _ _ _ _
 refine Ok.first hst ?_
 (first|refine qE ?_|refine qD ?_);(simp only [go_sem,↓dP,↓reduceIte];with_reducible and_intros;all_goals first|apply qA|exact qC|skip)
 (refine AskI.ret (c_plans J 23 0 (fun _ => .nilI) (asI (othersL J.ps.length L))) ?_;simp only [go_sem,↓dP,↓reduceIte];with_reducible and_intros;all_goals first|apply qA|exact qC|skip)
 (refine AskI.ret (hfirst g0) ?_;simp only [go_sem,↓dP,↓reduceIte];with_reducible and_intros;all_goals first|apply qA|exact qC|skip)
 intro a5 w7 hst
 show Code.wpIn _ _ _ _ _ _ _
 refine Ok.enter hst ?_
 (first|refine qE ?_|refine qD ?_);(simp only [go_sem,↓dP,↓reduceIte];with_reducible and_intros;all_goals first|apply qA|exact qC|skip)
 intro a6 w8 hst
 refine wpIn_ret ⟨_,fun a7 w9 hst => ?_,hst⟩
 have hst:=hst.only [(4,bS o.isSome)] ⟨.refl _,trivial⟩
 obtain ⟨I9,hst,j1,j2,j3,_,hk9,_,hd9⟩:=hst.rebase rfl rfl rfl l2
 have hs9:=hk9.size
 have hk29:Kpt I1 I9 w2 w9:=⟨hs9,j1,fun k hk => hk9.block k (l2 k hk) (fun e => by cases e)⟩
 have hkk:Kpt I I9 w w9:=(hk1.trans hk2).trans hk29
 have hcell9:w9.heap[b]? = some (.cells #[v8] T (0,0)):=(hk9.block b (by omega) (fun e => by cases e)).trans hcell2
 have hb9:¬ I9 b:=fun hc => by
  rcases j2 b hc with q | q
  ·exact hJb q
  ·omega
 have hus9:∀ (i:Nat) u s,#[outP b,pj][i]? = some u->[SV.d (.raw (outP b)),.d J.ref][i]? = some s->RepS I9 w9 u s:=fun i u s hu hs => ((hus1 i u s hu hs).kept hk2).kept hk29
 have hv:a7.tmps.getD 4 undef = .bool o.isSome:=hst.bool (t:=4) rfl
 refine ⟨hd9,_,results_tmp rfl _ _ _,o.isSome,I9,by rw [hv],hkk,?_⟩
 have hbase:(∀ b,I9 b->b < w9.heap.size)/\(∀ b,I9 b->¬ False)/\(∀ b:Nat,False->b < w9.heap.size)/\True/\(∀ (i:Nat) u s,(#[]:Array Value)[i]? = some u->([]:List SV)[i]? = some s->RepS I9 w9 u s):=⟨j3,fun _ _ h => h,fun _ h => h.elim,trivial,fun i u s hu => by simp at hu⟩
 obtain ⟨z1,z2,z3,z4,z5⟩:=hbase
 have hB9:Bef Ib wb I9 (fun _ => False) w9:=by
  have hs1:=hB1.keep.size
  refine ⟨⟨?_,?_,?_,by omega,fun k hk hm => ?_,fun _ => trivial⟩,fun c hc => ?_,fun _ h => h.elim⟩
  ·rw [hk9.os,hw2];exact hB1.keep.os
  ·rw [hk9.tape,hw2];exact hB1.keep.tape
  ·rw [hk9.output,hw2];exact hB1.keep.output
  ·exact ((hk9.block k (by omega) hm).trans (hoth k (by omega))).trans (hB1.keep.block k hk hm)
  ·rcases j2 c hc with q | q
   ·exact hB1.i0 c q
   ·omega
 cases hos:o.isSome with
 | true =>
  refine ⟨⟨z1,z2,z3,z4,z5,i,hi,hb9,fun h => h,hJq,?_,j3,fun _ _ h => h,hB9,v8,hcell9,hone,?_⟩,hus9⟩
  ·rw [hLL,← ho,hos]
  ·rw [hLL];exact h82.kept hk29
 | false =>
  refine ⟨⟨z1,z2,z3,z4,z5,hb9,fun h => h,fun k hk => ?_,hB9,v8,hcell9,hone⟩,hus9⟩
  by_cases e:k = i
  ·subst e;rw [hLL,← ho,hos]
  ·exact hJq k (by omega)
end
end Go.Proofs.Leaf
namespace Go.Proofs.Leaf
open Go Go.RX Go.Proofs Go.RowKit
set_option maxRecDepth 10000
section
theorem c_lists11 (J:Job) (hn:J.ps.length<=100) (Ib:Nat->Prop) (wb:World) (b T:Nat) (q:List Nat->Bool) (XS:List (List Nat)) (gd:FuncId) (ud:Array Value) (cd:List SV)
  (hdo:∀ i,i < XS.length->@CalJ _ (gsU (lvG Ib wb b T q XS) ud cd) Try.prog gd ud [ilS (asI (XS.getD i []))] (some i) (fun r => if r = true then none else some (i + 1))) (many:Nat) (hm:many<=100) (us:Array Value) (hus:us.size = 4) :
  ∀ (k fr:Nat) (now:List Nat) (i:Nat),now.length + k = many->fr<=J.ps.length->i + (comboK J.ps.length k fr now).length<=XS.length->(∀ p,p < (comboK J.ps.length k fr now).length->XS.getD (i + p) [] = (comboK J.ps.length k fr now).getD p []) ->
   @CalJ _ (lisG Ib wb J b T q XS ud cd many gd us) Try.prog 56 us [ilS (asI now),iS fr] (some i) (fun r => if r = true then none else some (i + (comboK J.ps.length k fr now).length)):=by
 intro k
 induction k with
 | zero =>
  intro fr now i hlen hfr hi hx
  refine @CalJ.mk _ (lisG Ib wb J b T q XS ud cd many gd us) _ _ _ _ (lisCs J many gd ud us) _ _ Try.f56 _ _ _ rfl rfl rfl rfl rfl rfl hus (fun hc => hc.2) (fun Is ws => ?_)
  letI:=gsF (lisG Ib wb J b T q XS ud cd many gd us) Is ws
  have hnl:(asI now).length = now.length:=asI_len now
  dsimp only [args,List.cons_append,List.nil_append]
  (first | refine OkJ.first (fun _ => ?_) | refine OkJ.walk (fun _ => ?_))
  (first|refine qE ?_|refine qD ?_);(simp only [go_sem,↓dP,↓reduceIte];with_reducible and_intros;all_goals first|apply qA|exact qC|skip)
  (try dsimp only [thenJ,blockJ,noGotoJ,thenK,blockK,noGotoK])
  refine OkJ.seq ?_
  (first | refine OkJ.first (fun _ => ?_) | refine OkJ.walk (fun _ => ?_))
  (first|refine qE ?_|refine qD ?_);(simp only [go_sem,↓dP,↓reduceIte];with_reducible and_intros;all_goals first|apply qA|exact qC|skip)
  (try dsimp only [thenJ,blockJ,noGotoJ,thenK,blockK,noGotoK])
  refine OkJ.cond rfl (fun _ => ?_) (fun hb => by simp at hb;simp at hlen;omega)
  refine OkJ.seq ?_
  (refine OkJ.tail 2 ?h1 ?h2 ?h3 ?h4 ?_;(case h1 => rfl);(case h2 => rfl);(case h3 => rfl);(case h4 => rfl);intro I0 w0 hc;simp only [go_sem,↓dP,↓reduceIte];with_reducible and_intros;all_goals first|apply qA|exact qC|skip)
  (intro a w hst;simp only [go_sem,↓dP,↓reduceIte] at hst)
  have e1:comboK J.ps.length 0 fr now = [now]:=rfl
  rw [e1] at hi hx ⊢
  have hdo0:=hdo i (by have:i + 1<=XS.length:=hi;omega)
  have hx0:XS.getD i [] = now:=hx 0 Nat.zero_lt_one
  rw [hx0] at hdo0
  refine tail_in rfl (hook_rec (f:=14) (g:=gd) (us:=ud) (xs:=[15]) hc hst rfl rfl rfl rfl rfl (by decide) rfl rfl (CalJ.from (G:=lisG Ib wb J b T q XS ud cd many gd us) (CalJ.withU (G:=gsU (lvG Ib wb b T q XS) ud cd) hdo0)) ?_)
  intro b1 I1 a1 w1 hc1 hs1
  (refine RX.hrest hs1 ?h1 ?h2 ?h3 ?_;(case h1 => rfl);(case h2 => rfl);(case h3 => rfl);simp only [go_sem,↓dP,↓reduceIte,bare];with_reducible and_intros;all_goals first|apply qA|exact qC|skip)
  intro a2 w2 hs2
  refine ⟨_,_,_,_,?_,hc1,hs2⟩
  (try dsimp only [thenJ,blockJ,noGotoJ,thenK,blockK,noGotoK])
  (refine OkJ.ret ?_;(try dsimp only [thenJ,blockJ,noGotoJ]))
  exact ⟨.inl rfl,b1,rfl,rfl⟩
 | succ k ih =>
  intro fr now i hlen hfr hi hx
  refine @CalJ.mk _ (lisG Ib wb J b T q XS ud cd many gd us) _ _ _ _ (lisCs J many gd ud us) _ _ Try.f56 _ _ _ rfl rfl rfl rfl rfl rfl hus (fun hc => hc.2) (fun Is ws => ?_)
  letI:=gsF (lisG Ib wb J b T q XS ud cd many gd us) Is ws
  have hnl:(asI now).length = now.length:=asI_len now
  dsimp only [args,List.cons_append,List.nil_append]
  (first | refine OkJ.first (fun _ => ?_) | refine OkJ.walk (fun _ => ?_))
  (first|refine qE ?_|refine qD ?_);(simp only [go_sem,↓dP,↓reduceIte];with_reducible and_intros;all_goals first|apply qA|exact qC|skip)
  (try dsimp only [thenJ,blockJ,noGotoJ,thenK,blockK,noGotoK])
  refine OkJ.seq ?_
  (first | refine OkJ.first (fun _ => ?_) | refine OkJ.walk (fun _ => ?_))
  (first|refine qE ?_|refine qD ?_);(simp only [go_sem,↓dP,↓reduceIte];with_reducible and_intros;all_goals first|apply qA|exact qC|skip)
  (try dsimp only [thenJ,blockJ,noGotoJ,thenK,blockK,noGotoK])
  refine OkJ.cond rfl (fun hb => by simp at hb;omega) (fun _ => ?_)
  (refine OkJ.skip ?_;(try dsimp only [thenJ,blockJ,noGotoJ]))
  refine OkJ.seq ?_
  (first | refine OkJ.first (fun _ => ?_) | refine OkJ.walk (fun _ => ?_))
  (first|refine qE ?_|refine qD ?_);(simp only [go_sem,↓dP,↓reduceIte];with_reducible and_intros;all_goals first|apply qA|exact qC|skip)
  (try dsimp only [thenJ,blockJ,noGotoJ,thenK,blockK,noGotoK])
  refine OkJ.block ?_
  obtain ⟨L,hL⟩:∃ L,L = List.range (J.ps.length - fr):=⟨_,rfl⟩
  obtain ⟨F,hF⟩:∃ F:Nat->List (List Nat),F = fun x => comboK J.ps.length k (fr + x + 1) (now ++ [fr + x]):=⟨_,rfl⟩
  have hcomb:comboK J.ps.length (k + 1) fr now = L.flatMap F:=by rw [hL,hF];rfl
  have hlen2:L.length = J.ps.length - fr:=by rw [hL,List.length_range]
  have hat:∀ x,x < L.length->L.getD x default = x:=fun x hx => by
   rw [hL] at hx ⊢
   rw [List.getD_eq_getElem?_getD,List.getElem?_eq_getElem hx];simp
  rw [hcomb] at hi hx ⊢
  have env0:∀ x:Nat,List (Nat×SV):=fun x => [(0,ilS (asI now)),(2,.d (.ref 1 (dget [iD many]))),(3,.d (.ref 1 (dget [.raw (.func (.func gd) #[] ud)]))),(4,.d J.ref),(5,.d (.ref 1 (dget [.raw (.func (.func 56) #[] us)]))),(9,iS ((fr:Int) + x))]
  refine OkJ.count L.length (fun x => { env:=[(0,ilS (asI now)),(2,.d (.ref 1 (dget [iD many]))),(3,.d (.ref 1 (dget [.raw (.func (.func gd) #[] ud)]))),(4,.d J.ref),(5,.d (.ref 1 (dget [.raw (.func (.func 56) #[] us)]))),(9,iS ((fr:Int) + x))],bx:=[],tk:=[] }) (fun x => some (i + ((L.take x).flatMap F).length)) ⟨?_,rfl⟩ (fun x hxL => ?_) ?_
  ·(refine Sub.of ([]) ([]) ?_ ?_ ?_ rfl rfl<;>simp only [subB,subB1,subT,subT1,newT,subE,subV,subL,go_sem,↓dP,↓reduceIte]<;>(try (repeat' with_reducible apply And.intro))<;>(try first | exact DEq.refl _ | refine DEq.int ?_ | refine DEq.bool ?_ | omega))
  ·have hx2:=hat x hxL
   refine OkJ.seq ?_
   (first | refine OkJ.first (fun _ => ?_) | refine OkJ.walk (fun _ => ?_))
   (first|refine qE ?_|refine qD ?_);(simp only [go_sem,↓dP,↓reduceIte];with_reducible and_intros;all_goals first|apply qA|exact qC|skip)
   (try dsimp only [thenJ,blockJ,noGotoJ,thenK,blockK,noGotoK])
   refine OkJ.cond rfl (fun _ => ?_) (fun hb => by simp at hb;omega)
   (refine OkJ.skip ?_;(try dsimp only [thenJ,blockJ,noGotoJ]))
   refine OkJ.seq ?_
   refine OkJ.block ?_
   refine OkJ.seq ?_
   (refine OkJ.tail 8 ?h1 ?h2 ?h3 ?h4 ?_;(case h1 => rfl);(case h2 => rfl);(case h3 => rfl);(case h4 => rfl);intro I0 w0 hc;simp only [go_sem,↓dP,↓reduceIte];with_reducible and_intros;all_goals first|apply qA|exact qC|skip)
   (refine AskI.own (CtrF.own (o_Clone_int (asI now) (by omega))) ?_;simp only [go_sem,↓dP,↓reduceIte];with_reducible and_intros;all_goals first|apply qA|exact qC|skip)
   (intro a w hst;simp only [go_sem,↓dP,↓reduceIte] at hst)
   have hst:=(hst.frz 1 rfl).only [(25,.d (.raw (.func (.func 56) #[] us))),(30,ilS (asI (now ++ [fr + x]))),(32,iS ((fr + x + 1:Nat):Int)),(0,ilS (asI now)),(2,.d (.ref 1 (dget [iD many]))),(3,.d (.ref 1 (dget [.raw (.func (.func gd) #[] ud)]))),(4,.d J.ref),(5,.d (.ref 1 (dget [.raw (.func (.func 56) #[] us)]))),(9,iS ((fr:Int) + x))] (by
    simp only [subE,subV,subL,go_sem,↓dP,↓reduceIte]
    ((repeat' with_reducible apply And.intro)<;>(first | exact DEq.refl _ | refine DEq.int ?_ | refine DEq.bool ?_ | skip))
    ·rw [asI_snoc]
     refine DEq.sl (n':=(asI now ++ [((fr + x:Nat):Int)]).length) (by rw [List.length_append];rfl) (snoc_D (f:=intD) (o:=asI now) (x:=((fr + x:Nat):Int)) (k:=1) (ys:=[.int .i64 ((fr:Int) + x)]) (fun c hc => ?_))
     have:c = 0:=by omega
     subst this
     show DV.int .i64 ((fr:Int) + x) = .int .i64 ((fr + x:Nat):Int)
     rw [Int.natCast_add]
    all_goals omega)
   have hFx:F (L.getD x default) = comboK J.ps.length k (fr + x + 1) (now ++ [fr + x]):=by rw [hx2,hF]
   have hle:=flat_le L F hxL
   have hrec:=ih (fr + x + 1) (now ++ [fr + x]) (i + ((L.take x).flatMap F).length) (by rw [List.length_append];simp;omega) (by omega) (by rw [← hFx];omega) (fun p hp => by
    rw [← hFx] at hp ⊢
    rw [Nat.add_assoc,hx _ (by omega),flat_at L F hxL hp])
   refine tail_in rfl (hook_rec (f:=25) (g:=56) (us:=us) (xs:=[30,32]) hc hst rfl rfl rfl rfl rfl (by decide) rfl rfl (CalJ.from (G:=lisG Ib wb J b T q XS ud cd many gd us) hrec) ?_)
   intro b1 I1 a1 w1 hc1 hst
   refine tail_end ⟨_,_,_,_,?_,hc1,hst⟩
   (try dsimp only [thenJ,blockJ,noGotoJ,thenK,blockK,noGotoK])
   cases b1 with
   | true =>
    refine OkJ.cond (b:=true) rfl (fun _ => ?_) (fun hb => by cases hb)
    (first | refine OkJ.first (fun _ => ?_) | refine OkJ.walk (fun _ => ?_))
    (first|refine qE ?_|refine qD ?_);(simp only [go_sem,↓dP,↓reduceIte];with_reducible and_intros;all_goals first|apply qA|exact qC|skip)
    (try dsimp only [thenJ,blockJ,noGotoJ,thenK,blockK,noGotoK])
    (refine OkJ.ret ?_;(try dsimp only [thenJ,blockJ,noGotoJ]))
    exact ⟨.inl rfl,true,rfl,rfl⟩
   | false =>
    refine OkJ.cond (b:=false) rfl (fun hb => by cases hb) (fun _ => ?_)
    (refine OkJ.skip ?_;(try dsimp only [thenJ,blockJ,noGotoJ]))
    (first | refine OkJ.first (fun _ => ?_) | refine OkJ.walk (fun _ => ?_))
    (first|refine qE ?_|refine qD ?_);(simp only [go_sem,↓dP,↓reduceIte];with_reducible and_intros;all_goals first|apply qA|exact qC|skip)
    (try dsimp only [thenJ,blockJ,noGotoJ,thenK,blockK,noGotoK])
    refine ⟨?_,?_⟩
    ·(refine Sub.of ([]) ([]) ?_ ?_ ?_ rfl rfl<;>simp only [subB,subB1,subT,subT1,newT,subE,subV,subL,go_sem,↓dP,↓reduceIte]<;>(try (repeat' with_reducible apply And.intro))<;>(try first | exact DEq.refl _ | refine DEq.int ?_ | refine DEq.bool ?_ | omega))
    ·rw [flat_take L F hxL,hFx,if_neg (by simp),Nat.add_assoc]
  ·refine OkJ.seq ?_
   (first | refine OkJ.first (fun _ => ?_) | refine OkJ.walk (fun _ => ?_))
   (first|refine qE ?_|refine qD ?_);(simp only [go_sem,↓dP,↓reduceIte];with_reducible and_intros;all_goals first|apply qA|exact qC|skip)
   (try dsimp only [thenJ,blockJ,noGotoJ,thenK,blockK,noGotoK])
   refine OkJ.cond rfl (fun hb => by simp at hb;omega) (fun _ => ?_)
   (refine OkJ.exit ?_;(try simp only [thenJ,blockJ,noGotoJ,↓reduceIte,Nat.reduceEqDiff]))
   (first | refine OkJ.first (fun _ => ?_) | refine OkJ.walk (fun _ => ?_))
   (first|refine qE ?_|refine qD ?_);(simp only [go_sem,↓dP,↓reduceIte];with_reducible and_intros;all_goals first|apply qA|exact qC|skip)
   (try dsimp only [thenJ,blockJ,noGotoJ,thenK,blockK,noGotoK])
   (refine OkJ.ret ?_;(try dsimp only [thenJ,blockJ,noGotoJ]))
   rw [List.take_length]
   exact ⟨.inl rfl,false,rfl,rfl⟩
end
end Go.Proofs.Leaf
namespace Go.Proofs.Leaf
open Go Go.RX Go.Proofs Go.RowKit
set_option maxRecDepth 10000
section
theorem c_lists (J:Job) (hn:J.ps.length<=100) (Ib:Nat->Prop) (wb:World) (b T:Nat) (q:List Nat->Bool) (XS:List (List Nat)) (gd:FuncId) (ud:Array Value) (cd:List SV)
  (hdo:∀ i,i < XS.length->@CalJ _ (gsU (lvG Ib wb b T q XS) ud cd) Try.prog gd ud [ilS (asI (XS.getD i []))] (some i) (fun r => if r = true then none else some (i + 1))) (many:Nat) (hm:many<=100)
  (i:Nat) (hi:i + (comboK J.ps.length many 0 []).length<=XS.length) (hx:∀ p,p < (comboK J.ps.length many 0 []).length->XS.getD (i + p) [] = (comboK J.ps.length many 0 []).getD p []) :
  @CalJ _ (gsU (lvG Ib wb b T q XS) ud cd) Try.prog 25 #[] [J.sv,iS many,.d (.raw (.func (.func gd) #[] ud))] (some i) (fun r => if r = true then none else some (i + (comboK J.ps.length many 0 []).length)):=by
 letI G1:=gsU (lvG Ib wb b T q XS) ud cd
 refine ⟨⟨Try.f25,rfl,rfl,rfl⟩,fun I w vs hc0 hl hA => ?_⟩
 rw [Array.append_empty]
 refine calls_of_wp (fn:=Try.f25) rfl rfl ?_
 have hI:=Gst.lt (self:=G1) hc0
 have hst:=St.start (N:=Try.f25.ntmps) (I:=I) (w:=w) (vs:=vs) trivial hI (fun b _ e => by cases e) hl (Nat.le_of_ble_eq_true rfl) hA
 refine (wpIn_wide (n:=0)).1 ?_
 letI:Bas:=⟨I,w⟩
 dsimp only [RX.start,args] at hst
 refine Ok.first hst ?_
 (first|refine qE ?_|refine qD ?_);(simp only [go_sem,↓dP,↓reduceIte];with_reducible and_intros;all_goals first|apply qA|exact qC|skip)
 intro a w1 hst
 refine Ok.first hst ?_
 (first|refine qE ?_|refine qD ?_);(simp only [go_sem,↓dP,↓reduceIte];with_reducible and_intros;all_goals first|apply qA|exact qC|skip)
 intro a w1 hst
 refine wpIn_seq ?_
 (refine hT 0 ?h1 ?h2 ?h3 ?h4 hst ?_;(case h1 => rfl);(case h2 => rfl);(case h3 => rfl);(case h4 => rfl);simp only [go_sem,↓dP,↓reduceIte];with_reducible and_intros;all_goals first|apply qA|exact qC|skip)
 intro Y a w1 hinv
 have hst:=St.of hinv rfl
 obtain ⟨us,hus⟩:∃ us:Array Value,us = #[a.tmps.getD 4 undef,a.tmps.getD 5 undef,a.tmps.getD 3 undef,a.tmps.getD 7 undef]:=⟨_,rfl⟩
 refine tail_val (v:=.func (.func 56) #[] us) rfl (fun c e => by cases e) (run_mkf rfl (by rw [hus];simp [Act.eval])) ?_
 have hst:=hst.putV (d:=8) (v:=.func (.func 56) #[] us) (V:=.d (.raw (.func (.func 56) #[] us))) (by decide) (fun _ _ _ _ => .d (.raw rfl))
 have hv:∀ t,t ≠ 8->(a.put (some 8) (.func (.func 56) #[] us)).tmps.getD t undef = a.tmps.getD t undef:=fun t ht => put_ne (fun e => ht e.symm)
 obtain ⟨w2,hrun,hst⟩:=hst.store1 (P:=Try.prog) (o:={ dst:=none,op:=Op.store 83 (Operand.tmp 7) (Operand.tmp 8),type:=0,pos:= "",after:=#[],guard:=none }) (tx:=7) (ty:=8) (b:=3) (v:=.func (.func 56) #[] us) rfl rfl rfl rfl rfl rfl rfl (hst.raw (t:=8) rfl) rfl
 refine tail_skp rfl (fun c e => by cases e) hrun (tail_end ?_)
 have hst:=(((hst.sealt 3 0 rfl rfl rfl).sealt 4 1 rfl rfl rfl).sealt 5 2 rfl rfl rfl).sealt 7 3 rfl rfl rfl
 have hst:=hst.only [(4,.d (.ref 1 (dget [iD many]))),(5,.d (.ref 1 (dget [.raw (.func (.func gd) #[] ud)]))),(3,.d J.ref),(7,.d (.ref 1 (dget [.raw (.func (.func 56) #[] us)]))),(6,bS false)] (by
  simp only [subE,subV,subL,go_sem,↓dP,↓reduceIte]
  ((repeat' with_reducible apply And.intro)<;>(first | exact DEq.refl _ | refine DEq.int ?_ | refine DEq.bool ?_ | skip)))
 obtain ⟨I1,hst,hc1,_,hk1⟩:=hst.anew hc0 rfl rfl rfl
 have hr:=hst.reps rfl rfl rfl
 have hv2:∀ t,t ≠ 8->((a.put (some 8) (.func (.func 56) #[] us)).put none undef).tmps.getD t undef = a.tmps.getD t undef:=hv
 have hc2:(lisG Ib wb J b T q XS ud cd many gd us).Cx (some i) I1 w2:=by
  refine ⟨hc1,fun k u s hu hs => ?_⟩
  have e4:=hr 4;have e5:=hr 5;have e3:=hr 3;have e7:=hr 7
  rw [hv2 _ (by decide)] at e4 e5 e3 e7
  rw [hus] at hu
  rcases k with _ | _ | _ | _ | k
  ·cases hu;cases hs;exact e4
  ·cases hu;cases hs;exact e5
  ·cases hu;cases hs;exact e3
  ·cases hu;cases hs;exact e7
  ·simp at hu
 letI:=gsF (lisG Ib wb J b T q XS ud cd many gd us) I1 w2
 have hc2:Gst.Cx (some i) I1 w2:=⟨hc2,Kpt.refl I1 w2⟩
 show Code.wpIn _ _ _ _ _ _ _
 refine wpIn_seq ?_
 (refine hT 1 ?h1 ?h2 ?h3 ?h4 hst ?_;(case h1 => rfl);(case h2 => rfl);(case h3 => rfl);(case h4 => rfl);simp only [go_sem,↓dP,↓reduceIte];with_reducible and_intros;all_goals first|apply qA|exact qC|skip)
 intro Y a3 w3 hinv
 have hst:=St.of hinv rfl
 have hrec:=c_lists11 J hn Ib wb b T q XS gd ud cd hdo many hm us (by rw [hus];rfl) many 0 [] i (by simp) (Nat.zero_le _) hi hx
 refine tail_in rfl (hook_recG hc2 hst rfl rfl rfl rfl rfl (by decide) rfl rfl ?_ (CalJ.from (G:=lisG Ib wb J b T q XS ud cd many gd us) hrec) ?_)
 ·intro I2 _ k u s hu hs
  rcases k with _ | _ | k
  ·simp [Act.eval] at hu hs;subst hu;subst hs;exact fun Y => .d .sl0
  ·simp [Act.eval] at hu hs;subst hu;subst hs;exact fun Y => .d .int
  ·simp at hs
 ·intro b1 I2 a4 w4 hc4 hst
  (refine RX.hrest hst ?h1 ?h2 ?h3 ?_;(case h1 => rfl);(case h2 => rfl);(case h3 => rfl);simp only [go_sem,↓dP,↓reduceIte,bare];with_reducible and_intros;all_goals first|apply qA|exact qC|skip)
  intro a5 w5 hst
  show Code.wpIn _ _ _ _ _ _ _
  refine wpIn_ret ?_
  obtain ⟨I6,hst6,hc6,hd,hk6⟩:=hst.anew hc4 rfl rfl rfl
  have hv:a5.tmps.getD 6 undef = .bool b1:=hst6.bool (t:=6) rfl
  exact ⟨hd,_,results_tmp rfl _ _ _,b1,I6,by rw [hv],hk1.trans hc6.2,hc6.1.1⟩
end
end Go.Proofs.Leaf
namespace Go.Proofs.Leaf
open Go Go.RX Go.Proofs Go.RowKit
set_option maxRecDepth 10000
section
abbrev allL (n:Nat):List (List Nat):=(List.range (n + 1)).flatMap (fun k => comboK n k 0 [])
abbrev offL (n x:Nat):Nat:=(((List.range (n + 1)).take x).flatMap (fun k => comboK n k 0 [])).length
theorem c_Leave (J:Job) (hJ:J.based) (hh:J.held) (ht:J.timed) (hn:J.ps.length<=100) (hj:jobB J = true):Ctr Try.prog 8 [J.sv] (.tup [ilS (asI ((leaveOf (spans J false)).getD [])),iS 0]):=by
 refine ⟨⟨Try.f8,rfl,rfl,rfl⟩,fun I w vs _ hI _ hl hA => ?_⟩
 refine calls_of_wp (fn:=Try.f8) rfl rfl ?_
 have hst:=St.start (N:=Try.f8.ntmps) (I:=I) (w:=w) (vs:=vs) trivial hI (fun b _ e => by cases e) hl (Nat.le_of_ble_eq_true rfl) hA
 refine (wpIn_wide (n:=0)).1 ?_
 letI:Bas:=⟨I,w⟩
 dsimp only [RX.start,args] at hst
 refine Ok.first hst ?_
 (first|refine qE ?_|refine qD ?_);(simp only [go_sem,↓dP,↓reduceIte];with_reducible and_intros;all_goals first|apply qA|exact qC|skip)
 intro a w1 hst
 show Code.wpIn _ _ _ _ _ _ _
 refine wpIn_seq ?_
 refine Ok.first hst ?_
 (first|refine qE ?_|refine qD ?_);(simp only [go_sem,↓dP,↓reduceIte];with_reducible and_intros;all_goals first|apply qA|exact qC|skip)
 (refine AskI.ret (c_isJob J hh) ?_;simp only [go_sem,↓dP,↓reduceIte];with_reducible and_intros;all_goals first|apply qA|exact qC|skip)
 intro a w1 hst
 show Code.wpIn _ _ _ _ _ _ _
 refine hand_cond hst rfl (fun hb => by rw [hj] at hb;cases hb) (fun _ => ?_)
 refine wpIn_skip ?_
 show Code.wpIn _ _ _ _ _ _ _
 refine Ok.first hst ?_
 (first|refine qE ?_|refine qD ?_);(simp only [go_sem,↓dP,↓reduceIte];with_reducible and_intros;all_goals first|apply qA|exact qC|skip)
 intro a w1 hst
 show Code.wpIn _ _ _ _ _ _ _
 refine Ok.first hst ?_
 (first|refine qE ?_|refine qD ?_);(simp only [go_sem,↓dP,↓reduceIte];with_reducible and_intros;all_goals first|apply qA|exact qC|skip)
 intro a w1 hst
 show Code.wpIn _ _ _ _ _ _ _
 refine wpIn_seq ?_
 refine Ok.first hst ?_
 (first|refine qE ?_|refine qD ?_);(simp only [go_sem,↓dP,↓reduceIte];with_reducible and_intros;all_goals first|apply qA|exact qC|skip)
 intro a w1 hst
 show Code.wpIn _ _ _ _ _ _ _
 have hst:=hst.sealt 1 0 rfl rfl rfl
 obtain ⟨I1,bl,i1,i2,i3,_,hkeep,hdf,hsz,hdat,_,hptr,hbox⟩:=hst.parked rfl hI
 obtain ⟨n4,l4,o4,cs4,T4,hc4,s4,o41,_⟩:=hbox 1 _ rfl rfl rfl
 obtain ⟨u4,rfl⟩:∃ u4,cs4 = #[u4]:=Array.size_eq_one_iff.1 s4
 have hp4:a.tmps.getD 4 undef = outP (bl 1):=hptr 4 1 0 rfl
 have hdf:a.defers = []:=hdf
 have hone:u4.oneCell' = true:=o41 u4 (by simp)
 generalize bl 1 = b at *
 have g1:RepS I1 w1 (a.tmps.getD 1 undef) (.d J.ref):=hdat 1 _ rfl
 have hs0:St { env:=[(1,.d J.ref),(4,.d (.raw (outP b))),(5,bS false),(6,iS 0)],bx:=[],tk:=[] } I1 Try.f8.ntmps w1 a w1 :=
  St.data (β:=fun _ => none) (τ:=fun _ => none) (Y:=fun _ => none) hsz hdf i3 (fun b _ e => by cases e) trivial (dat_cons g1 (dat_cons (repS_raw hp4 rfl) (dat_cons (hdat 5 _ rfl) (dat_cons (hdat 6 _ rfl) dat_nil))))
 letI G1:=lvG I w b T4 (freeB (spans J false)) (allL J.ps.length)
 have hc0:Gst.Cx (self:=G1) (some 0) I1 w1 :=
  ⟨i3,fun _ _ h => h,fun _ h => h.elim,trivial,fun i u s hu => by simp at hu,o4,fun h => h,fun k hk => by omega,⟨hkeep,fun c hc => (i2 c hc).imp (fun q => q) (fun q => q.1),fun _ h => h.elim⟩,u4,hc4,hone⟩
 have hlenL:(allL J.ps.length).length = offL J.ps.length (J.ps.length + 1):=by
  show _ = (((List.range (J.ps.length + 1)).take (J.ps.length + 1)).flatMap _).length
  rw [List.take_of_length_le (by simp)]
 refine wpIn_mono ((?_:OkJ Try.prog _ _ _ _ (fun e σ j => e = .normal/\∃ p:Nat×Bool,p.1<=J.ps.length + 1/\(p.2 = false->p.1 = J.ps.length + 1)/\Sub σ { env:=[(1,.d J.ref),(4,.d (.raw (outP b)))],bx:=[],tk:=[] }/\j = (if p.2 = true then none else some (offL J.ps.length p.1)))) I1 w1 a w1 hc0 hs0) ?_
 ·refine OkJ.block ?_
  refine OkJ.loop (X:={ p:Nat×Bool // p.1<=J.ps.length + 1 }) (fun p => { env:=[(1,.d J.ref),(4,.d (.raw (outP b))),(5,bS p.1.2),(6,iS p.1.1)],bx:=[],tk:=[] }) (fun p => if p.1.2 = true then none else some (offL J.ps.length p.1.1)) (fun p => J.ps.length + 1 - p.1.1 + (if p.1.2 = true then 0 else 1)) ⟨(0,false),Nat.zero_le _⟩ ⟨.refl _,rfl⟩ ?_
  rintro ⟨⟨x,f⟩,hxn⟩
  refine OkJ.seq ?_
  (first | refine OkJ.first (fun _ => ?_) | refine OkJ.walk (fun _ => ?_))
  (first|refine qE ?_|refine qD ?_);(simp only [go_sem,↓dP,↓reduceIte];with_reducible and_intros;all_goals first|apply qA|exact qC|skip)
  (try dsimp only [thenJ,blockJ,noGotoJ,thenK,blockK,noGotoK])
  refine OkJ.cond rfl (fun hb => ?_) (fun hb => ?_)
  ·have hf:f = false:=by cases f<;>simp at hb ⊢
   subst hf
   have hx:x<=J.ps.length:=by simp at hb;omega
   rw [if_neg (by simp)]
   (refine OkJ.skip ?_;(try dsimp only [thenJ,blockJ,noGotoJ]))
   refine OkJ.seq ?_
   refine OkJ.block ?_
   (refine OkJ.tail 2 ?h1 ?h2 ?h3 ?h4 ?_;(case h1 => rfl);(case h2 => rfl);(case h3 => rfl);(case h4 => rfl);intro I0 w0 hc;simp only [go_sem,↓dP,↓reduceIte];with_reducible and_intros;all_goals first|apply qA|exact qC|skip)
   (intro a w2 hst;simp only [go_sem,↓dP,↓reduceIte] at hst)
   have hst:=hst.only [(21,J.sv),(22,iS x),(1,.d J.ref),(4,.d (.raw (outP b))),(6,iS x)] (by
    simp only [subE,subV,subL,go_sem,↓dP,↓reduceIte]
    ((repeat' with_reducible apply And.intro)<;>(first | exact DEq.refl _ | refine DEq.int ?_ | refine DEq.bool ?_ | skip)))
   obtain ⟨I2,hst,hc1,_,_⟩:=hst.anew hc rfl rfl rfl
   have e4:a.tmps.getD 4 undef = outP b:=hst.raw (t:=4) rfl
   have r1:RepS I2 w2 (a.tmps.getD 1 undef) (.d J.ref):=hst.reps rfl rfl rfl 1
   refine tail_val (v:=.func (.func 26) #[] #[outP b,a.tmps.getD 1 undef]) rfl (fun c e => by cases e) (run_mkf rfl (by rw [map2];simp [Act.eval,e4])) ?_
   generalize a.tmps.getD 1 undef = pj at r1 ⊢
   have hst:=hst.putV (d:=23) (v:=.func (.func 26) #[] #[outP b,pj]) (V:=.d (.raw (.func (.func 26) #[] #[outP b,pj]))) (by decide) (fun _ _ _ _ => .d (.raw rfl))
   have hc2:Gst.Cx (self:=gsU G1 #[outP b,pj] [.d (.raw (outP b)),.d J.ref]) (some (offL J.ps.length x)) I2 w2:=by
    refine ⟨hc1,fun i u s hu hs => ?_⟩
    rcases i with _ | _ | i
    ·cases hu;cases hs;exact fun Y => .d (.raw rfl)
    ·cases hu;cases hs;exact r1
    ·simp at hu
   have hxL:x < (List.range (J.ps.length + 1)).length:=by rw [List.length_range];omega
   have hgx:(List.range (J.ps.length + 1)).getD x default = x:=by
    rw [List.getD_eq_getElem?_getD,List.getElem?_eq_getElem hxL];simp
   have hle:=flat_le (List.range (J.ps.length + 1)) (fun k => comboK J.ps.length k 0 []) hxL
   have hftk:=flat_take (List.range (J.ps.length + 1)) (fun k => comboK J.ps.length k 0 []) hxL
   rw [hgx] at hle hftk
   have hrec:=c_lists J hn I w b T4 (freeB (spans J false)) (allL J.ps.length) 26 #[outP b,pj] [.d (.raw (outP b)),.d J.ref] (fun i hi => c_Leave1 J hJ ht hn I w b T4 n4 (allL J.ps.length) i hi ?_ pj) x (by omega) (offL J.ps.length x) hle (fun p hp => by
    have:=flat_at (List.range (J.ps.length + 1)) (fun k => comboK J.ps.length k 0 []) hxL (q:=p) (by rw [hgx];exact hp) []
    rw [hgx] at this
    exact this)
   refine tail_in rfl (@hook_recS _ (gsU G1 #[outP b,pj] [.d (.raw (outP b)),.d J.ref]) _ _ _ _ _ _ _ _ _ _ _ _ _ _ _ _ _ hc2 hst rfl rfl rfl rfl rfl (by decide) rfl ?_ hrec ?_)
   ·intro I3 hs3 k u s hu hs
    have e3:∀ f:Operand->Value,#[Operand.tmp 21,Operand.tmp 22,Operand.tmp 23].map f = #[f (.tmp 21),f (.tmp 22),f (.tmp 23)]:=fun f => by simp
    rw [e3] at hu
    have hr:=hs3.reps rfl rfl rfl
    rcases k with _ | _ | _ | k
    ·cases hu;cases hs;exact hr 21
    ·cases hu;cases hs;exact hr 22
    ·cases hu;cases hs;exact hr 23
    ·simp at hs
   ·intro b1 I3 a3 w3 hc3 hst
    (refine RX.hrest hst ?h1 ?h2 ?h3 ?_;(case h1 => rfl);(case h2 => rfl);(case h3 => rfl);simp only [go_sem,↓dP,↓reduceIte,bare];with_reducible and_intros;all_goals first|apply qA|exact qC|skip)
    intro a4 w4 hst
    refine ⟨_,_,_,_,?_,hc3.1,hst⟩
    (try dsimp only [thenJ,blockJ,noGotoJ,thenK,blockK,noGotoK])
    (first | refine OkJ.first (fun _ => ?_) | refine OkJ.walk (fun _ => ?_))
    (first|refine qE ?_|refine qD ?_);(simp only [go_sem,↓dP,↓reduceIte];with_reducible and_intros;all_goals first|apply qA|exact qC|skip)
    (try dsimp only [thenJ,blockJ,noGotoJ,thenK,blockK,noGotoK])
    refine ⟨⟨(x + 1,b1),by show x + 1<=_;omega⟩,⟨?_,?_⟩,?_⟩
    ·(refine Sub.of ([]) ([]) ?_ ?_ ?_ rfl rfl<;>simp only [subB,subB1,subT,subT1,newT,subE,subV,subL,go_sem,↓dP,↓reduceIte]<;>(try (repeat' with_reducible apply And.intro))<;>(try first | exact DEq.refl _ | refine DEq.int ?_ | refine DEq.bool ?_ | omega))
     all_goals (try omega)
    ·show (if b1 = true then none else some _) = (if b1 = true then none else some (offL J.ps.length (x + 1)))
     show _ = (if b1 = true then none else some (((List.range (J.ps.length + 1)).take (x + 1)).flatMap (fun k => comboK J.ps.length k 0 [])).length)
     rw [hftk]
    ·show J.ps.length + 1 - (x + 1) + (if b1 = true then 0 else 1) < J.ps.length + 1 - x + (if false = true then 0 else 1)
     cases b1<;>simp<;>omega
   ·show ((allL J.ps.length).getD i default).length < 1000
    have hm:=getD_mem hi
    rw [List.mem_flatMap] at hm
    obtain ⟨k,hk,hl⟩:=hm
    obtain ⟨t,h1,h2,_⟩:=(mem_combo _ _ _ _ _).1 hl
    rw [List.mem_range] at hk
    rw [h1,List.nil_append,h2];omega
  ·(refine OkJ.exit ?_;(try simp only [thenJ,blockJ,noGotoJ,↓reduceIte,Nat.reduceEqDiff]))
   refine ⟨by trivial,(x,f),hxn,fun hf => ?_,?_,rfl⟩
   ·subst hf
    simp at hb
    show x = _
    omega
   ·(refine Sub.of ([]) ([]) ?_ ?_ ?_ rfl rfl<;>simp only [subB,subB1,subT,subT1,newT,subE,subV,subL,go_sem,↓dP,↓reduceIte]<;>(try (repeat' with_reducible apply And.intro))<;>(try first | exact DEq.refl _ | refine DEq.int ?_ | refine DEq.bool ?_ | omega))
 ·intro e a9 w9 hq
  cases e with
  | normal =>
   obtain ⟨σ,j,I2,w0,⟨_,p,hp1,hp2,hsub,rfl⟩,hc,hst⟩:=hq
   have hst:=hst.sub hsub
   obtain ⟨I3,hst,hc3,_,_⟩:=hst.anew hc rfl rfl rfl
   have e4:a9.tmps.getD 4 undef = outP b:=hst.raw (t:=4) rfl
   have hsz9:a9.tmps.size = Try.f8.ntmps:=by obtain ⟨_,_,_,hx⟩:=hst (fun _ => none);exact hx.sz
   have hdf9:a9.defers = []:=by obtain ⟨_,_,_,hx⟩:=hst (fun _ => none);exact hx.df
   have key:∃ L v,leaveOf (spans J false) = some L/\w9.heap[b]? = some (.cells #[v] T4 (0,0))/\RepS I3 w9 v (ilS (asI L))/\Bef I w I3 (fun _ => False) w9/\(∀ c,I3 c->c < w9.heap.size):=by
    cases hp:p.2 with
    | true =>
     rw [hp,if_pos rfl] at hc3
     obtain ⟨z1,_,_,_,_,i,hi,_,_,y1,y2,_,_,y3,v,y4,_,y5⟩:=hc3
     refine ⟨_,v,?_,y4,y5,y3,z1⟩
     show (allL (spans J false).length).find? _ = _
     rw [spans_len]
     exact find_at hi (fun k hk => y1 k hk) y2
    | false =>
     rw [hp,if_neg (by simp)] at hc3
     obtain ⟨z1,_,_,_,_,_,_,y1,y3,v,y4,_⟩:=hc3
     exfalso
     obtain ⟨l,hl⟩:=leave_some (spans J false)
     unfold leaveOf leaveL at hl
     rw [spans_len] at hl
     have hm:=List.mem_of_find?_eq_some hl
     have hq:=List.find?_some hl
     obtain ⟨i,hi,rfl⟩:=List.mem_iff_getElem.1 hm
     have:=y1 i (by rw [hp2 hp,← hlenL];exact hi)
     rw [show (allL J.ps.length).getD i [] = (allL J.ps.length)[i] from getD_lt (α:=List Nat) hi] at this
     rw [this] at hq;cases hq
   obtain ⟨L,v,hL,hcell,hrv,hBef,hlt⟩:=key
   rw [hL,Option.getD_some]
   have hblt:=(Array.getElem?_eq_some_iff.1 hcell).1
   have h4:RepS (fun c => I3 c∨c = b) w9 (a9.tmps.getD 4 undef) (.d (.ref 1 (dget [slD 1 intD (asI L)]))):=by
    rw [e4]
    refine fun Y => .d (.ref (fun _ => v) (.inr rfl) (fun k hk => ?_) (fun k hk => ?_))
    ·have:k = 0:=by omega
     subst this
     unfold World.cell?
     rw [hcell];rfl
    ·have:k = 0:=by omega
     subst this
     exact (mt_d (hrv (fun _ => none))).mono (fun _ h => .inl h) (fun _ _ => rfl)
   have hst:St { env:=[(4,.d (.ref 1 (dget [slD 1 intD (asI L)])))],bx:=[],tk:=[] } (fun c => I3 c∨c = b) Try.f8.ntmps w9 a9 w9 :=
    St.data (β:=fun _ => none) (τ:=fun _ => none) (Y:=fun _ => none) hsz9 hdf9 (fun c hc => by rcases hc with q | q;exact hlt c q;omega) (fun b _ e => by cases e) trivial (dat_cons h4 dat_nil)
   show Code.wpIn _ _ _ _ _ _ _
   letI:Bas:=⟨fun c => I3 c∨c = b,w9⟩
   refine Ok.first hst ?_
   (first|refine qE ?_|refine qD ?_);(simp only [go_sem,↓dP,↓reduceIte];with_reducible and_intros;all_goals first|apply qA|exact qC|skip)
   intro a10 w10 hst
   refine wpIn_ret ?_
   have hfin:=fun h => res_fin (P:=Try.prog) (fn:=Try.f8) (r:=.tup [ilS (asI L),iS 0]) h hst
   ·obtain ⟨hd,v1,q1,v2,q2,q3,q4⟩:=hfin (by
     show resOK Try.prog [.tmp 2,.tmp 3] _ _
     ((try dsimp only [thenK,blockK,noGotoK]);simp only [toList_mk,List.toList_toArray,retK_ret,retK_normal,resOK,resV,celV,rowV,frzAll,frzT,subV,subL,go_sem,↓dP,↓reduceIte])
     ((repeat' with_reducible apply And.intro)<;>(first | exact DEq.refl _ | refine DEq.int ?_ | refine DEq.bool ?_ | skip)))
    have hs1:=hBef.keep.size
    have hs2:=q4.size
    refine ⟨hd,v1,q1,v2,q2,fun Y => (q3 Y).mono (fun c hc => ?_) (fun _ _ => rfl) (fun _ _ h => h) (fun _ _ h => h),hBef.keep.trans (q4.mono hs1)⟩
    rcases hc with (hc | hc) | hc
    ·rcases hBef.i0 c hc with q | q
     ·exact .inl q
     ·have:=hlt c hc;exact .inr ⟨q,by omega⟩
    ·exact .inr ⟨by omega,by omega⟩
    ·exact .inr ⟨by omega,by omega⟩
  | panic ch => exact hq.elim
  | _ => obtain ⟨σ,j,I2,w0,⟨he,_⟩,_⟩:=hq;cases he
end
end Go.Proofs.Leaf
namespace Go.Proofs.Leaf
open Go Go.RX Go.Proofs Go.RowKit
set_option maxRecDepth 100000
variable [Glob]
theorem c_Best (B:Bk) (hB:B.ok) (p:List Int) (h:(bestsB B).head? = some p):Ctr Try.prog 10 [B.sv] (.tup [ilS p,iS (longB B p),iS 0]):=by
 have hb:Ctr Try.prog 32 [B.sv] (.d (slD 2 tmD (bstT (timsB B)))):=Ctr.any (c_bbests B hB)
 rw [best_tims] at hb
 obtain ⟨r,hr⟩:∃ r,bestsB B = p :: r:=by
  cases hq:bestsB B with
  | nil => rw [hq] at h;cases h
  | cons x r => rw [hq] at h;cases h;exact ⟨r,rfl⟩
 rw [hr,List.map_cons] at hb
 have hl:(((longB B p).toNat:Nat):Int) = longB B p:=by have:=longB_nn B p;omega
 (refine Ctr.mk (fn:=Try.f10) rfl rfl rfl rfl rfl Try.results10 ?_;intro _;dsimp only [args,List.toList_toArray])
 (first|refine qE ?_|refine qD ?_);(simp only [go_sem,↓dP,↓reduceIte];with_reducible and_intros;all_goals first|apply qA|exact qC|skip)
 refine Ok.seq ?_
 (first|refine qE ?_|refine qD ?_);(simp only [go_sem,↓dP,↓reduceIte];with_reducible and_intros;all_goals first|apply qA|exact qC|skip)
 (refine AskI.ret (c_isBench B hB) ?_;simp only [go_sem,↓dP,↓reduceIte];with_reducible and_intros;all_goals first|apply qA|exact qC|skip)
 refine Ok.cond (b:=false) (by first | rfl | (simp only [go_sem,↓dP,↓reduceIte];rfl)) (fun hb => by cases hb) (fun _ => ?_)
 (refine Ok.skip ?_;(try dsimp only [thenK,blockK,noGotoK]))
 (first|refine qE ?_|refine qD ?_);(simp only [go_sem,↓dP,↓reduceIte];with_reducible and_intros;all_goals first|apply qA|exact qC|skip)
 (refine AskI.ret (hb) ?_;simp only [go_sem,↓dP,↓reduceIte];with_reducible and_intros;all_goals first|apply qA|exact qC|skip)
 (first|refine qE ?_|refine qD ?_);(simp only [go_sem,↓dP,↓reduceIte];with_reducible and_intros;all_goals first|apply qA|exact qC|skip)
 (refine Ok.ret ?_;(try dsimp only [thenK,blockK,noGotoK]);simp only [toList_mk,List.toList_toArray,retK_ret,retK_normal,resOK,resV,celV,rowV,frzAll,frzT,subV,subL,go_sem,↓dP,↓reduceIte])
 ((repeat' with_reducible apply And.intro)<;>(first | exact DEq.refl _ | refine DEq.int ?_ | refine DEq.bool ?_ | skip))
 exact hl
theorem c_one20 (n:Int):Ctr Try.prog 6 [iS n] (spS (n,n)):=by
 (refine Ctr.mk (fn:=Try.f6) rfl rfl rfl rfl rfl Try.results6 ?_;intro _;dsimp only [args,List.toList_toArray])
 (first|refine qE ?_|refine qD ?_);(simp only [go_sem,↓dP,↓reduceIte];with_reducible and_intros;all_goals first|apply qA|exact qC|skip)
 (first|refine qE ?_|refine qD ?_);(simp only [go_sem,↓dP,↓reduceIte];with_reducible and_intros;all_goals first|apply qA|exact qC|skip)
 (refine Ok.ret ?_;(try dsimp only [thenK,blockK,noGotoK]);simp only [toList_mk,List.toList_toArray,retK_ret,retK_normal,resOK,resV,celV,rowV,frzAll,frzT,subV,subL,go_sem,↓dP,↓reduceIte])
 ((repeat' with_reducible apply And.intro)<;>(first | exact DEq.refl _ | refine DEq.int ?_ | refine DEq.bool ?_ | skip))
end Go.Proofs.Leaf
namespace Go.Proofs.Leaf
open Go Go.RX Go.Proofs
section
theorem rep_leave {n:Nat} {a b:Int} (h:a<=b) (hn:b - a + 1<=(n:Int)) {L:List Nat} (hq:leaveOf (List.replicate n (a,b)) = some L):(L.length:Int) = n - (b - a + 1):=by
 obtain ⟨h1,h2,h3⟩:=leave_spec hq
 rw [List.length_replicate] at h1 h3
 have hd:L.Nodup:=(rises_pw h1).imp (fun q => by omega)
 have f:=(rep_free h hd (fun x hx => (rises_mem h1 x hx).2)).1 h2
 have hr:rises n 0 (List.range (n - (b - a + 1)).toNat):=rises_of List.pairwise_lt_range (fun x hx => by have:=List.mem_range.1 hx;omega)
 have hf:=(rep_free (n:=n) (L:=List.range (n - (b - a + 1)).toNat) h List.nodup_range (fun x hx => by have:=List.mem_range.1 hx;omega)).2 (by rw [List.length_range];omega)
 have:=h3 _ hr (by rw [List.length_range];omega) hf
 rw [List.length_range] at this
 omega
theorem rep_stay {n:Nat} {a b:Int} (h:a<=b) (hn:(n:Int)<=b - a + 1) {L:List Nat} (hq:leaveOf (List.replicate n (a,b)) = some L):L = [] :=
 (leave_nil _ hq).2 (head_some.1 ((rep_plan h).2 hn))
end
end Go.Proofs.Leaf
namespace Go.Proofs.Leaf
open Go Go.RX Go.Proofs Go.RowKit
set_option maxRecDepth 100000
def oneJ (n:Nat) (a b:Int):Job:=⟨1,1,1,0,[⟨a,a,b,b⟩],List.replicate n ⟨1,1,false,0⟩⟩
theorem oneJ_ok {n:Nat} {a b:Int} (h1:1<=n) (h5:n<=5) (h0:0<=a) (h:a<=b) (h12:b<=12):(oneJ n a b).ok:=by
 refine ⟨by simp [oneJ],by simp [oneJ],by simp [oneJ],by simp [oneJ],by simp [oneJ],by simp [oneJ],by simp [oneJ],by simp [oneJ],by simp [oneJ],by simp [oneJ],?_,?_,?_,?_⟩
 ·simpa [oneJ] using h1
 ·simpa [oneJ] using h5
 ·intro g hg
  simp [oneJ] at hg
  subst hg
  dsimp only;omega
 ·intro p hp
  have:=List.eq_of_mem_replicate hp
  subst this
  simp [oneJ]
theorem one_spans (n:Nat) (a b:Int) (may:Bool):spans (oneJ n a b) may = List.replicate n (a,b):=by
 simp only [spans,oneJ,List.map_replicate]
 cases may<;>rfl
theorem oneB_ok {n:Nat} (h1:1<=n) (h5:n<=5):(oneB n).ok:=by
 have hl:(oneB n).ss.length = n:=by simp [oneB]
 refine ⟨by simp [oneB],by simp [oneB],by simp [oneB],by simp [oneB],by omega,by omega,fun k hk => ?_,by simp [oneB]⟩
 have e:(oneB n).ss.getD k default = ⟨0,false,1,1,[]⟩:=by
  simp only [oneB,List.getD_eq_getElem?_getD,List.getElem?_replicate]
  rw [if_pos (by omega)];rfl
 rw [e]
 exact ⟨by simp,by simp [oneB],by simp,by simp,by simp,by simp,by simp,fun i hi => by simp at hi,fun i hi => by simp at hi⟩
theorem rep_none {n:Nat} {a b:Int} (hn:(n:Int)<=b - a + 1):proofL (List.replicate n (a,b)) = none:=by
 refine List.find?_eq_none.2 (fun s hs => ?_)
 obtain ⟨s1,s2,s3⟩:=mem_spansL.1 hs
 rw [decide_eq_true_eq,rep_bound]
 split
 ·rw [List.length_range];omega
 ·simp;omega
def pcs (n:Nat):List Piece:=List.replicate n ⟨1,1,false,0⟩
def sts (n:Nat):List Stk:=List.replicate n ⟨0,false,1,1,[]⟩
theorem pcs_len (n:Nat):(pcs n).length = n:=by simp [pcs]
theorem sts_len (n:Nat):(sts n).length = n:=by simp [sts]
theorem pcs_succ (n:Nat):pcs (n + 1) = pcs n ++ [⟨1,1,false,0⟩]:=by unfold pcs;rw [List.replicate_succ']
theorem sts_succ (n:Nat):sts (n + 1) = sts n ++ [⟨0,false,1,1,[]⟩]:=by unfold sts;rw [List.replicate_succ']
section
theorem snoc_E {α:Type} [Inhabited α] {f:α->Nat->DV} {o:List α} {x:α} {k:Nat} {ys:List DV} (h:∀ c,c < k->DEq (dget ys c) (f x c)):∀ a c,a < o.length + 1->c < k ->
  DEq (if a < o.length then f (o.getD a default) c else dget ys ((a - o.length) * k + c)) (f ((o ++ [x]).getD a default) c):=by
 intro a c ha hc
 by_cases e:a < o.length
 ·rw [if_pos e,List.getD_eq_getElem?_getD (l:=o ++ [x]),List.getElem?_append_left e,← List.getD_eq_getElem?_getD]
  exact .refl _
 ·have e2:a = o.length:=by omega
  subst e2
  rw [if_neg e,Nat.sub_self,Nat.zero_mul,Nat.zero_add,List.getD_eq_getElem?_getD (l:=o ++ [x]),List.getElem?_append_right (Nat.le_refl _),Nat.sub_self]
  exact h c hc
theorem law_Laid (p f l:Int):Ctr Try.prog 3 [iS p,iS f,iS l] (bS true):=by
 (refine Ctr.mk (fn:=Try.f3) rfl rfl rfl rfl rfl Try.results3 ?_;intro _;dsimp only [args,List.toList_toArray])
 (first|refine qE ?_|refine qD ?_);(simp only [go_sem,↓dP,↓reduceIte];with_reducible and_intros;all_goals first|apply qA|exact qC|skip)
 refine Ok.seq ?_
 (first|refine qE ?_|refine qD ?_);(simp only [go_sem,↓dP,↓reduceIte];with_reducible and_intros;all_goals first|apply qA|exact qC|skip)
 refine Ok.cond rfl ?_ ?_
 ·intro _
  (first|refine qE ?_|refine qD ?_);(simp only [go_sem,↓dP,↓reduceIte];with_reducible and_intros;all_goals first|apply qA|exact qC|skip)
  (refine AskI.ret (c_known) ?_;simp only [go_sem,↓dP,↓reduceIte];with_reducible and_intros;all_goals first|apply qA|exact qC|skip)
  (refine Ok.ret ?_;(try dsimp only [thenK,blockK,noGotoK]);simp only [toList_mk,List.toList_toArray,retK_ret,retK_normal,resOK,resV,celV,rowV,frzAll,frzT,subV,subL,go_sem,↓dP,↓reduceIte])
  ((repeat' with_reducible apply And.intro)<;>(first | exact DEq.refl _ | refine DEq.int ?_ | refine DEq.bool ?_ | skip))
 intro hs
 (refine Ok.skip ?_;(try dsimp only [thenK,blockK,noGotoK]))
 simp only [Bool.or_eq_false_iff,decide_eq_false_iff_not] at hs
 obtain ⟨⟨⟨⟨a1,a2⟩,a3⟩,a4⟩,a5⟩:=hs
 obtain ⟨n,rfl⟩:∃ n:Nat,p = n:=⟨p.toNat,by omega⟩
 have hJ:=oneJ_ok (n:=n) (a:=f) (b:=l) (by omega) (by omega) (by omega) (by omega) (by omega)
 have hB:=oneB_ok (n:=n) (by omega) (by omega)
 (first|refine qE ?_|refine qD ?_);(simp only [go_sem,↓dP,↓reduceIte];with_reducible and_intros;all_goals first|apply qA|exact qC|skip)
 (refine AskI.ret (c_one20 f) ?_;simp only [go_sem,↓dP,↓reduceIte];with_reducible and_intros;all_goals first|apply qA|exact qC|skip)
 (refine AskI.ret (c_one20 l) ?_;simp only [go_sem,↓dP,↓reduceIte];with_reducible and_intros;all_goals first|apply qA|exact qC|skip)
 (first|refine qE ?_|refine qD ?_);(simp only [go_sem,↓dP,↓reduceIte];with_reducible and_intros;all_goals first|apply qA|exact qC|skip)
 refine Ok.seq ?_
 (first|refine qE ?_|refine qD ?_);(simp only [go_sem,↓dP,↓reduceIte];with_reducible and_intros;all_goals first|apply qA|exact qC|skip)
 refine Ok.block ?_
 refine Ok.count n (fun i => ⟨[(0,iS n),(1,iS f),(2,iS l),(7,.p 0 0),(8,.p 1 0),(9,iS i)],
   [{ frz:=false,xs:=[iS 1,iS 1,iS 1,iS 0,.d (slD 4 groD [⟨f,f,l,l⟩]),.tk 0] },{ frz:=false,xs:=[iS 0,ilS [0],.tk 1] }],
   [ownD 37 4 pieD (pcs i),ownD 39 5 stkD (sts i)]⟩) (fun _ => True) ⟨trivial,?_⟩ ?_ ?_
 ·(refine Sub.of ([0,1]) ([none,none]) ?_ ?_ ?_ rfl rfl<;>simp only [subB,subB1,subT,subT1,newT,subE,subV,subL,go_sem,↓dP,↓reduceIte]<;>(try (repeat' with_reducible apply And.intro))<;>(try first | exact DEq.refl _ | refine DEq.int ?_ | refine DEq.bool ?_ | omega))
  ·exact sl_list (f:=groD) (l:=[⟨f,f,l,l⟩]) (d:=default) rfl (fun i j hi hj => by
    match i,j,hi,hj with
    | 0,0,_,_ | 0,1,_,_ | 0,2,_,_ | 0,3,_,_ => exact .refl _)
  ·exact litD [0]
  ·rfl
  ·rfl
 ·intro i hi _
  have hl1:=pcs_len i
  have hl2:=sts_len i
  have hs1:=pcs_succ i
  have hs2:=sts_succ i
  refine Ok.seq ?_;((first|refine qE ?_|refine qD ?_);(simp only [go_sem,↓dP,↓reduceIte];with_reducible and_intros;all_goals first|apply qA|exact qC|skip));refine Ok.cond rfl (fun _ => ?_) (fun hb => by simp at hb;omega);(refine Ok.skip ?_;(try dsimp only [thenK,blockK,noGotoK]));refine Ok.seq ?_;refine Ok.block ?_
  (first|refine qE ?_|refine qD ?_);(simp only [go_sem,↓dP,↓reduceIte];with_reducible and_intros;all_goals first|apply qA|exact qC|skip)
  (first|refine qE ?_|refine qD ?_);(simp only [go_sem,↓dP,↓reduceIte];with_reducible and_intros;all_goals first|apply qA|exact qC|skip)
  (refine AskI.ret (c_one20 1) ?_;simp only [go_sem,↓dP,↓reduceIte];with_reducible and_intros;all_goals first|apply qA|exact qC|skip)
  (try dsimp only [thenK,blockK,noGotoK])
  (first|refine qE ?_|refine qD ?_);(simp only [go_sem,↓dP,↓reduceIte];with_reducible and_intros;all_goals first|apply qA|exact qC|skip)
  (try dsimp only [thenK,blockK,noGotoK])
  refine ⟨trivial,?_⟩
  (refine Sub.of ([0,1]) ([some 2,some 3]) ?_ ?_ ?_ rfl rfl<;>simp only [subB,subB1,subT,subT1,newT,subE,subV,subL,go_sem,↓dP,↓reduceIte]<;>(try (repeat' with_reducible apply And.intro))<;>(try first | exact DEq.refl _ | refine DEq.int ?_ | refine DEq.bool ?_ | omega))
  ·rw [hs1];simp
  ·rw [hs1]
   exact snoc_D (fun c hc => by
    match c,hc with
    | 0,_ | 1,_ | 2,_ | 3,_ => exact .refl _)
  ·rw [hs2];simp
  ·rw [hs2]
   exact snoc_E (fun c hc => by
    match c,hc with
    | 0,_ | 1,_ | 2,_ | 3,_ => exact .refl _
    | 4,_ => exact DEq.nils rfl)
 ·intro _
  refine Ok.seq ?_;((first|refine qE ?_|refine qD ?_);(simp only [go_sem,↓dP,↓reduceIte];with_reducible and_intros;all_goals first|apply qA|exact qC|skip));refine Ok.cond rfl (fun hb => by simp at hb) (fun _ => ?_);(refine Ok.exit ?_;simp only [thenK_exit,blockK_exit,noGotoK_exit,thenK_normal,blockK_normal,noGotoK_normal,↓reduceIte,Nat.reduceEqDiff])
  have hY:=c_Lays (oneJ n f l) hJ.based hJ.held hJ.timed (by have:=hJ.p1;omega) (jobB_iff.2 hJ)
  have hV:=c_Leave (oneJ n f l) hJ.based hJ.held hJ.timed (by have:=hJ.p1;omega) (jobB_iff.2 hJ)
  have hP:=c_Proof (oneJ n f l) hJ.based hJ.held (jobB_iff.2 hJ)
  have hE:=c_Best (oneB n) hB (List.replicate n 0) (by rw [one_bests];rfl)
  rw [one_long (by omega) (by omega)] at hE
  obtain ⟨L,hL⟩:=leave_some (List.replicate n (f,l))
  unfold laysW planOf at hY
  rw [one_spans,one_spans] at hY
  rw [one_spans,hL] at hV
  rw [one_spans] at hP
  have hpl:=rep_plan (n:=n) (a:=f) (b:=l) (by omega)
  by_cases hn:(n:Int)<=l - f + 1
  ·rw [if_pos (hpl.2 hn)] at hY
   rw [rep_stay (by omega) hn hL] at hV
   rw [prfS_none (rep_none hn)] at hP
   (first|refine qE ?_|refine qD ?_);(simp only [go_sem,↓dP,↓reduceIte];with_reducible and_intros;all_goals first|apply qA|exact qC|skip)
   (refine AskI.ret (hY) ?_;simp only [go_sem,↓dP,↓reduceIte];with_reducible and_intros;all_goals first|apply qA|exact qC|skip)
   (first|refine qE ?_|refine qD ?_);(simp only [go_sem,↓dP,↓reduceIte];with_reducible and_intros;all_goals first|apply qA|exact qC|skip)
   (refine AskI.ret (hV) ?_;simp only [go_sem,↓dP,↓reduceIte];with_reducible and_intros;all_goals first|apply qA|exact qC|skip)
   (first|refine qE ?_|refine qD ?_);(simp only [go_sem,↓dP,↓reduceIte];with_reducible and_intros;all_goals first|apply qA|exact qC|skip)
   (refine AskI.ret (hP) ?_;simp only [go_sem,↓dP,↓reduceIte];with_reducible and_intros;all_goals first|apply qA|exact qC|skip)
   (first|refine qE ?_|refine qD ?_);(simp only [go_sem,↓dP,↓reduceIte];with_reducible and_intros;all_goals first|apply qA|exact qC|skip)
   (refine AskI.ret (hE) ?_;simp only [go_sem,↓dP,↓reduceIte];with_reducible and_intros;all_goals first|apply qA|exact qC|skip)
   (first|refine qE ?_|refine qD ?_);(simp only [go_sem,↓dP,↓reduceIte];with_reducible and_intros;all_goals first|apply qA|exact qC|skip)
   refine Ok.seq ?_
   (first|refine qE ?_|refine qD ?_);(simp only [go_sem,↓dP,↓reduceIte];with_reducible and_intros;all_goals first|apply qA|exact qC|skip)
   refine Ok.cond rfl (fun hb => by rw [decide_eq_true hn] at hb;simp at hb) (fun _ => ?_)
   (refine Ok.skip ?_;(try dsimp only [thenK,blockK,noGotoK]))
   refine Ok.seq ?_
   (first|refine qE ?_|refine qD ?_);(simp only [go_sem,↓dP,↓reduceIte];with_reducible and_intros;all_goals first|apply qA|exact qC|skip)
   refine Ok.cond rfl (fun _ => ?_) (fun hb => by rw [decide_eq_true hn] at hb;cases hb)
   (first|refine qE ?_|refine qD ?_);(simp only [go_sem,↓dP,↓reduceIte];with_reducible and_intros;all_goals first|apply qA|exact qC|skip)
   (refine AskGI.ret (fun _ => c_known) ?_;simp only [go_sem,↓dP,↓reduceIte];with_reducible and_intros;all_goals first|apply qA|exact qC|skip)
   (refine Ok.ret ?_;(try dsimp only [thenK,blockK,noGotoK]);simp only [toList_mk,List.toList_toArray,retK_ret,retK_normal,resOK,resV,celV,rowV,frzAll,frzT,subV,subL,go_sem,↓dP,↓reduceIte])
   ((repeat' with_reducible apply And.intro)<;>(first | exact DEq.refl _ | refine DEq.int ?_ | refine DEq.bool ?_ | skip))
  ·have hL2:=rep_leave (n:=n) (a:=f) (b:=l) (by omega) (by omega) hL
   have hAl:=asI_len L
   rw [if_neg (fun q => hn (hpl.1 q)),if_neg (fun q => hn (hpl.1 q))] at hY
   rw [prfS_some (rep_proof (by omega) (by omega) (by omega) (by omega)),rep_bound,if_pos ⟨Int.le_refl _,Int.le_refl _⟩] at hP
   have hBl:(asI (List.range n)).length = n:=by rw [asI_len,List.length_range]
   rw [Option.getD_some] at hV
   generalize asI L = A at *
   generalize asI (List.range n) = R at *
   (first|refine qE ?_|refine qD ?_);(simp only [go_sem,↓dP,↓reduceIte];with_reducible and_intros;all_goals first|apply qA|exact qC|skip)
   (refine AskI.ret (hY) ?_;simp only [go_sem,↓dP,↓reduceIte];with_reducible and_intros;all_goals first|apply qA|exact qC|skip)
   (first|refine qE ?_|refine qD ?_);(simp only [go_sem,↓dP,↓reduceIte];with_reducible and_intros;all_goals first|apply qA|exact qC|skip)
   (refine AskI.ret (hV) ?_;simp only [go_sem,↓dP,↓reduceIte];with_reducible and_intros;all_goals first|apply qA|exact qC|skip)
   (first|refine qE ?_|refine qD ?_);(simp only [go_sem,↓dP,↓reduceIte];with_reducible and_intros;all_goals first|apply qA|exact qC|skip)
   (refine AskI.ret (hP) ?_;simp only [go_sem,↓dP,↓reduceIte];with_reducible and_intros;all_goals first|apply qA|exact qC|skip)
   (first|refine qE ?_|refine qD ?_);(simp only [go_sem,↓dP,↓reduceIte];with_reducible and_intros;all_goals first|apply qA|exact qC|skip)
   (refine AskI.ret (hE) ?_;simp only [go_sem,↓dP,↓reduceIte];with_reducible and_intros;all_goals first|apply qA|exact qC|skip)
   (first|refine qE ?_|refine qD ?_);(simp only [go_sem,↓dP,↓reduceIte];with_reducible and_intros;all_goals first|apply qA|exact qC|skip)
   refine Ok.seq ?_
   (first|refine qE ?_|refine qD ?_);(simp only [go_sem,↓dP,↓reduceIte];with_reducible and_intros;all_goals first|apply qA|exact qC|skip)
   refine Ok.cond rfl (fun hb => by rw [decide_eq_false hn] at hb;simp at hb) (fun _ => ?_)
   (refine Ok.skip ?_;(try dsimp only [thenK,blockK,noGotoK]))
   refine Ok.seq ?_
   (first|refine qE ?_|refine qD ?_);(simp only [go_sem,↓dP,↓reduceIte];with_reducible and_intros;all_goals first|apply qA|exact qC|skip)
   refine Ok.cond rfl (fun hb => by rw [decide_eq_false hn] at hb;cases hb) (fun _ => ?_)
   (refine Ok.skip ?_;(try dsimp only [thenK,blockK,noGotoK]))
   (first|refine qE ?_|refine qD ?_);(simp only [go_sem,↓dP,↓reduceIte];with_reducible and_intros;all_goals first|apply qA|exact qC|skip)
   ·exact stEqSpan
   (refine AskGI.ret (fun _ => c_known) ?_;simp only [go_sem,↓dP,↓reduceIte];with_reducible and_intros;all_goals first|apply qA|exact qC|skip)
   (refine Ok.ret ?_;(try dsimp only [thenK,blockK,noGotoK]);simp only [toList_mk,List.toList_toArray,retK_ret,retK_normal,resOK,resV,celV,rowV,frzAll,frzT,subV,subL,go_sem,↓dP,↓reduceIte])
   refine DEq.bool ?_
   have e1:((R.length:Int) == (n:Int)) = true:=by rw [hBl];simp
   have e2:((A.length:Int) == (n:Int) - (l - f + 1)) = true:=by rw [hAl,hL2];simp
   simp [e1,e2]
end
end Go.Proofs.Leaf
namespace Go.Proofs.Ytmpnbmedikkggaa
open Go Go.RX Go.Proofs.Leaf Go.RowKit Go.ChangeShapes Go.WideShapes Go.ChangeAt
set_option maxRecDepth 100000
theorem topLaid_ctr (As:List SV) (h:opensAll [3,3,3] As):Ctr Try.prog 3 As (bS true):=by
 obtain ⟨_,A1,rfl,h0,h⟩:=opensAll_cons h
 obtain ⟨_,A2,rfl,h1,h⟩:=opensAll_cons h
 obtain ⟨_,A3,rfl,h2,h⟩:=opensAll_cons h
 obtain rfl:=opensAll_nil h
 obtain ⟨x0,rfl⟩:=opens_int h0
 obtain ⟨x1,rfl⟩:=opens_int h1
 obtain ⟨x2,rfl⟩:=opens_int h2
 exact law_Laid x0 x1 x2
theorem topLaid_facts:joinedFacts Try.prog 3 Try.f3 Rows.topLaidSpec Rows.topLaidRow = true:=by unfold joinedFacts;rw [enter_is,final_is,make_is];kernel_rfl
theorem topLaid_lifted (os:Os) (started:os.Started) (H:Type) (enc:TypeId×Value->H) :
  ReturnsInHanded {} Try.checked os 3 .any (fun w args => Rows.topLaidSpec.pre enc Try.prog Try.f3 [] false w args/\sizedMet enc Try.prog Try.f3 (OpenSpec.ofChange Rows.topLaidSpec) false w args)
   (Rows.topLaidSpec.post enc Try.prog Try.f3 false true false false):=by
 refine law_ctr (ts:=[3,3,3]) Rows.topLaidSpec rfl started (by kernel_rfl) Try.func3 (by kernel_rfl) (by rw [Try.params3]) (by unfold argT;decide)
  (fun ds hd => ?_)
  (ChangeSpec.witness_shaped (enc:=enc) (C:=Try.checked) (os:=os) (X:=fun _ _ => True) false (World.laidAll Try.prog os []) #[zI,zI,zI] 8 (World.laidAll_os _ _ _)
   (World.shaped_of_ZipB (by kernel_rfl) (by kernel_rfl)) (by kernel_rfl) (by kernel_rfl) (by kernel_rfl)
   trivial) topLaid_ctr
 match ds,hd with
 | [d0,d1,d2],_ => rfl
theorem topLaid_row:Rows.TopLaidSaid :=
 OpenClaim.holds_of_wide 3 Try.f3 rfl rfl rfl rfl rfl rfl rfl ⟨rfl,rfl,rfl,rfl,rfl⟩ rfl rfl rfl rfl rfl (by kernel_rfl) Try.func3 topLaid_facts (of_decide_eq_true (by kernel_rfl))
  (by unfold Func.isWrapper;first | (rw [if_pos (by decide +kernel)];kernel_rfl) | (rw [if_neg (by decide +kernel)];exact ⟨rfl,rfl⟩)) (fun os started H enc _ => topLaid_lifted os started H enc)
end Go.Proofs.Ytmpnbmedikkggaa
