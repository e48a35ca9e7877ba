/-
  Contracts, part 23. No condition.
-/
import Derived.Test.YtdajcfdhcjbmmaaGreatDoorB21
import Derived.RangeFuncNested
import Derived.RangeFuncLeaves
set_option linter.all false
namespace Go.RX
open Go Go.RowKit
variable [Glob] [Dfr]
def KQ (Q:Exit->Act->World->Prop) (I0:Nat->Prop) (N:Nat) (w0:World):Exit->Sy->Prop:=fun e σ => ∀ a w,St σ I0 N w0 a w->Q e a w
def thenQ (P:Program) [Rnd] (y:Code) (Q:Exit->Act->World->Prop):Exit->Act->World->Prop:=Exit.then (fun a w => y.wpIn fen 0 P Q a w) Q
section
variable [Rnd] {P : Program} {N : Nat} {σ : Sy} {I : Nat → Prop} {w0 w : World} {a : Act} {Q : Exit → Act → World → Prop}
theorem Ok.enter {c:Code} (hs:St σ I N w0 a w) (h:@Ok _ _ _ ⟨I,w0⟩ P N c σ (KQ Q I N w0) (fun _ => False)):c.wpIn fen 0 P Q a w:=by
 refine wpIn_mono (h a w hs) (fun e a' w' hq => ?_)
 cases e with
 | panic ch => obtain ⟨d,hd,_⟩:=hq;exact hd.elim
 | _ => obtain ⟨σ',hk,hs'⟩:=hq;exact hk _ _ hs'
theorem Ok.first {x y:Code} (hs:St σ I N w0 a w) (h:@Ok _ _ _ ⟨I,w0⟩ P N x σ (KQ (thenQ P y Q) I N w0) (fun _ => False)):(Code.seq x y).wpIn fen 0 P Q a w :=
 wpIn_seq (Ok.enter hs h)
theorem St.val {t:Nat} {s:SV} (hs:St σ I N w0 a w) (hl:lk σ.env t = s) (hg:∀ j b y,s ≠ .gd j b y):∃ I' β τ,InvX I' β τ (fun _ => none) (lk σ.env) (nth σ.bx) (nth σ.tk) I N w0 a w/\Mt I' β τ (fun _ => none) w (a.tmps.getD t undef) s:=by
 obtain ⟨I',β,τ,h⟩:=hs (fun _ => none)
 refine ⟨I',β,τ,h,?_⟩
 have:=h.env t
 rw [hl] at this
 exact this.un hg
theorem St.bool {t:Nat} {b:Bool} (hs:St σ I N w0 a w) (hl:lk σ.env t = .d (.bool b)):a.tmps.getD t undef = .bool b:=by
 obtain ⟨_,_,_,_,h⟩:=hs.val hl (fun _ _ _ e => by cases e)
 exact rep_bool (mt_d h)
theorem St.raw {t:Nat} {v:Value} (hs:St σ I N w0 a w) (hl:lk σ.env t = .d (.raw v)):a.tmps.getD t undef = v:=by
 obtain ⟨_,_,_,_,h⟩:=hs.val hl (fun _ _ _ e => by cases e)
 generalize a.tmps.getD t undef = u at h
 have:=mt_d h
 cases this
 rfl
theorem hand_cond {t:Nat} {x y:Code} {b:Bool} (hs:St σ I N w0 a w) (hb:lk σ.env t = .d (.bool b)) (hx:b = true->x.wpIn fen 0 P Q a w) (hy:b = false->y.wpIn fen 0 P Q a w):(Code.cond (.tmp t) x y).wpIn fen 0 P Q a w :=
 wpIn_cond_split (by exact hs.bool hb) hx hy
end
def noGd:List (Nat×SV)->Bool
 | [] => true
 | (_,.gd _ _ _) :: _ => false
 | _ :: r => noGd r
theorem noGd_lk:∀ {l:List (Nat×SV)},noGd l = true->∀ t j b y,lk l t ≠ .gd j b y
 | [],_,t,j,b,y,e => by cases e
 | (k,v) :: r,h,t,j,b,y,e => by
  have hr:noGd r = true:=by cases v<;>first | exact h | cases h
  simp only [lk] at e
  split at e
  ·subst e;cases h
  ·exact noGd_lk hr t j b y e
section
variable {P : Program} {N : Nat} {σ : Sy} {I : Nat → Prop} {w0 w : World} {a : Act}
theorem St.rebase (h:St σ I N w0 a w) (hbx:σ.bx = []) (htk:σ.tk = []) (hg:noGd σ.env = true) (hI:∀ b,I b->b < w0.heap.size) :
  ∃ I',St σ I' N w a w/\(∀ b,I b->I' b)/\(∀ b,I' b->I b∨(w0.heap.size<=b/\b < w.heap.size))/\(∀ b,I' b->b < w.heap.size)/\(∀ b,I' b->Glob.M ≠ some b)/\Keep w0.heap.size w0 w/\Glob.G w/\a.defers = Dfr.ds:=by
 obtain ⟨I1,β,τ,hx⟩:=h (fun _ => none)
 have hsz:=hx.bel.size
 have hβ:∀ k,β k = none:=fun k => hx.bn k (by rw [hbx];rfl)
 have hτ:∀ k,τ k = none:=fun k => hx.kn k (by rw [htk];rfl)
 have hlt:∀ b,I b∨I1 b->b < w.heap.size:=fun b hb => by
  rcases hb with hb | hb
  ·have:=hI b hb;omega
  ·exact hx.hI b hb
 have hM:∀ b,I b∨I1 b->Glob.M ≠ some b:=fun b hb => by
  rcases hb with hb | hb
  ·exact hx.nm0 b hb
  ·exact hx.nm b hb
 have nk:∀ {α:Type} (k:Nat) (c:α),nth ([]:List α) k = some c->False:=fun k c h => by simp [nth] at h
 refine ⟨fun b => I b∨I1 b,fun Y => ⟨fun b => I b∨I1 b,fun _ => none,fun _ => none,?_⟩,fun b hb => .inl hb,fun b hb => ?_,hlt,hM,hx.bel,hx.bel.gl hx.bs,hx.df⟩
 ·rw [hbx,htk]
  refine { nm0:=hM,bs:=hx.bel.gl hx.bs,sz:=hx.sz,df:=hx.df,fx:=hx.fx,hI:=hlt,i0:=fun b hb => .inl hb,env:=fun t => ?_,box:=fun k c hk => (nk k c hk).elim,bn:=fun _ _ => rfl,inj:=fun k k' b hb => absurd hb (by simp),tok:=fun k c hk => (nk k c hk).elim,kn:=fun _ _ => rfl,dis:=fun k k' c c' hk => (nk k _ hk).elim,bel:=Keep.refl _ _ }
  have:=(hx.env t).un (noGd_lk hg t)
  exact .m ((this.mono (fun b hb => .inr hb) (fun _ _ => rfl) (fun k b hk => by rw [hβ] at hk;cases hk) (fun k v hk => by rw [hτ] at hk;cases hk)).anyY Y)
 ·rcases hb with hb | hb
  ·exact .inl hb
  ·rcases hx.i0 b hb with h1 | h1
   ·exact .inl h1
   ·exact .inr ⟨h1,hx.hI b hb⟩
theorem St.data {env:List (Nat×SV)} {β:Nat->Option Nat} {τ:Nat->Option Value} {Y:Nat->Option Bool} (hsz:a.tmps.size = N) (hdf:a.defers = Dfr.ds) (hI:∀ b,I b->b < w.heap.size) (hM:∀ b,I b->Glob.M ≠ some b) (hG:Glob.G w)
  (henv:∀ t,lk env t = .any∨RepS I w (a.tmps.getD t undef) (lk env t)) (hfx:∀ p∈Dfr.fr,a.tmps.getD p.1 undef = p.2:=by exact fun p hp => by cases hp):St { env:=env,bx:=[],tk:=[] } I N w a w:=by
 have nk:∀ {α:Type} (k:Nat) (c:α),nth ([]:List α) k = some c->False:=fun k c h => by simp [nth] at h
 intro Y
 refine ⟨I,fun _ => none,fun _ => none,{ nm0:=hM,bs:=hG,sz:=hsz,df:=hdf,fx:=hfx,hI:=hI,i0:=fun b hb => .inl hb,env:=fun t => ?_,box:=fun k c hk => (nk k c hk).elim,bn:=fun _ _ => rfl,inj:=fun k k' b hb => absurd hb (by simp),tok:=fun k c hk => (nk k c hk).elim,kn:=fun _ _ => rfl,dis:=fun k k' c c' hk => (nk k _ hk).elim,bel:=Keep.refl _ _ }⟩
 rcases henv t with e | e
 ·show MtG _ _ _ _ _ _ (lk env t)
  rw [e];exact .m .any
 ·exact .m (e Y)
end
def refV (b:Nat) (r:DV):SV->SV
 | .p b' 0 => if b' = b then .d r else .p b' 0
 | x => x
def refE (b:Nat) (r:DV):List (Nat×SV)->List (Nat×SV)
 | [] => []
 | (t,v) :: e => (t,refV b r v) :: refE b r e
theorem lk_refE (b:Nat) (r:DV):∀ (e:List (Nat×SV)) (t:Nat),lk (refE b r e) t = refV b r (lk e t)
 | [],_ => rfl
 | (k,v) :: e,t => by
  simp only [refE,lk]
  split
  ·rfl
  ·exact lk_refE b r e t
theorem Sub.refB {σ:Sy} {b:Nat} {xs:List SV} {ys:List DV} (hb:nth σ.bx b = some { frz:=true,xs:=xs }) (hd:allD xs = some ys) (hg:noGd σ.env = true):Sub σ { σ with env:=refE b (.ref ys.length (dget ys)) σ.env }:=by
 intro I0 N w0 a w hs Y
 obtain ⟨I,β,τ,h⟩:=hs Y
 refine ⟨I,β,τ,{ h with env:=fun t => ?_ }⟩
 have ht:=(h.env t).un (noGd_lk hg t)
 show MtG _ _ _ _ _ _ (lk (refE b _ σ.env) t)
 rw [lk_refE]
 refine .m ?_
 generalize lk σ.env t = s at ht
 unfold refV
 split
 ·rename_i b'
  split
  ·rename_i e;subst e
   obtain ⟨blk,cs,T,g1,g2,g3,g4,g5,g6,g7,g8⟩:=(h.box b' _ hb).ex rfl
   generalize a.tmps.getD t undef = v at ht
   cases ht with
   | p hβ =>
    rw [g1] at hβ;cases hβ
    obtain ⟨l1,l2⟩:=allD_ok xs ys hd
    refine .d (.ref (fun j => cs.getD j undef) (g7 rfl) (fun j hj => ?_) (fun j hj => ?_))
    ·rw [Nat.zero_add,cell_of_row w _ j cs T (0,0) g3]
     have hjc:j < cs.size:=by rw [g4,← l1];exact hj
     simp [Array.getD_eq_getD_getElem?,Array.getElem?_eq_getElem hjc]
    ·have hjc:j < cs.size:=by rw [g4,← l1];exact hj
     have hx:=l2 j (dget ys j) (dget_of hj)
     have:=g5 j _ _ (Array.getElem?_eq_getElem hjc) hx
     have hr:=mt_d this
     simpa [Array.getD_eq_getD_getElem?,Array.getElem?_eq_getElem hjc] using hr
  ·exact ht
 ·exact ht
def bare (o:Oper):Oper:={ dst:=o.dst,op:=o.op,type:=o.type,pos:=o.pos,after:=#[],guard:=o.guard }
theorem bare_wp {F:Fence} {n:Nat} {P:Program} {a:Act} {w:World} {K:Act->World->Prop} {Q:Exit->Act->World->Prop} (o:Oper):(bare o).wpIn F n P a w K Q = o.wpIn F n P a w K Q:=by
 cases o
 rfl
theorem ops_shift [Rnd] {P:Program} {Q:Exit->Act->World->Prop} {opsA opsB:Array Oper}:∀ (k:Nat) (m m':Nat),(∀ j,j < k->∃ o,opsA[m + j]? = some o/\opsB[m' + j]? = some (bare o)/\o.guard = none)->∀ (a:Act) (w:World),wpOpsIn fen 0 P opsB Q (List.range' m' k) a w->wpOpsIn fen 0 P opsA Q (List.range' m k) a w
 | 0,m,m',_,a,w,h => h
 | k + 1,m,m',ho,a,w,h => by
  rw [List.range'_succ,wpOpsIn_cons] at h ⊢
  obtain ⟨o,h1,h2,h3⟩:=ho 0 (by omega)
  rw [Nat.add_zero] at h1 h2
  unfold wpOpIn at h ⊢
  rw [h2] at h
  rw [h1]
  simp only at h ⊢
  rw [if_pos (by simp [Region.wanted,h3,bare])] at h
  rw [if_pos (by simp [Region.wanted,h3])]
  rw [bare_wp] at h
  refine Oper.wpIn_mono (fun a' w' h' => ops_shift k (m + 1) (m' + 1) (fun j hj => ?_) a' w' h') h
  obtain ⟨o,q1,q2,q3⟩:=ho (j + 1) (by omega)
  exact ⟨o,by rw [← q1];congr 1;omega,by rw [← q2];congr 1;omega,q3⟩
theorem rgn_ops [Rnd] {P:Program} {N:Nat} {σ:Sy} {I:Nat->Prop} {w0 w:World} {a:Act} {Q:Exit->Act->World->Prop} {L:List Oper} {K:Sy->Prop} (hst:regOK N L = true) (hs:St σ I N w0 a w)
  (hr:rgn P L (fun _ => True) (fun _ => False) L σ [] K) (hQ:∀ σ',K σ'->∀ Y a w,Inv Y (lk σ'.env) (nth σ'.bx) (nth σ'.tk) I N w0 a w->Q .normal a w):wpOpsIn fen 0 P L.toArray Q (List.range' 0 L.length) a w:=by
 have hs':=Static.of hst
 obtain ⟨S,ev,pn,lg,hS0,hS,hll,hlg,hKO,hK⟩:=rgn_trace _ _ _ _ _ _ hr
 have hS:Tr P (fun _ => False) L S ev pn:=hS
 have e:List.range' 0 L.length = List.range' 0 L.length ++ []:=(List.append_nil _).symm
 rw [e]
 refine ops_text (N:=N) (I0:=I) (w0:=w0) (opsA:=L.toArray) (rest:=[]) (fun d _ _ _ hd => hd.elim) hs' hS (fun j o ho => by rw [nth_eq] at ho;simpa using ho) (fun hnp a w hq => (hQ _ (hK hnp) _ a w hq:Q .normal a w)) L.length 0 (by omega) (fun j hj => by omega) _ _ ?_
 refine done_none hS (fun j => by simp) ?_
 rw [hS0]
 exact hs _
theorem rgn_rest [Rnd] {P:Program} {N:Nat} {σ:Sy} {I:Nat->Prop} {w0 w:World} {a:Act} {Q:Exit->Act->World->Prop} {opsA:Array Oper} {m k:Nat} (L:List Oper) {K:Exit->Sy->Prop} (hL:(opsA.toList.drop m).map bare = L) (hk:k = L.length) (hgd:L.all (fun o => o.guard.isNone) = true) (hst:regOK N L = true) (hs:St σ I N w0 a w)
  (hr:rgn P L (fun _ => True) (fun _ => False) L σ [] (fun σ' => @EndW { σ' with env:=clean σ'.env } ⟨.normal,K⟩)) (hQ:∀ σ',K .normal σ'->∀ a w,St σ' I N w0 a w->Q .normal a w):wpOpsIn fen 0 P opsA Q (List.range' m k) a w:=by
 subst hk
 refine ops_shift (opsB:=L.toArray) _ m 0 (fun j hj => ?_) a w (rgn_ops hst hs hr (fun σ' hk Y a w hinv => ?_))
 ·have hlt:m + j < opsA.toList.length:=by rw [← hL,List.length_map,List.length_drop] at hj;omega
  have hq:opsA[m + j]? = some (opsA.toList[m + j]):=by rw [← Array.getElem?_toList];exact List.getElem?_eq_getElem hlt
  have hLj:L[j]? = some (bare opsA.toList[m + j]):=by
   rw [← hL,List.getElem?_map,List.getElem?_drop,List.getElem?_eq_getElem hlt];rfl
  refine ⟨_,hq,by simpa using hLj,?_⟩
  rw [List.all_eq_true] at hgd
  have:=hgd _ (List.mem_of_getElem? hLj)
  simpa [bare] using this
 ·have:=St.clean hinv
  refine hQ _ hk a w (fun Y' => ?_)
  have h2:=this Y'
  have e:lk (RX.clean σ'.env) = fun t => ung (lk σ'.env t):=funext (lk_clean σ'.env)
  show Inv Y' (lk (RX.clean σ'.env)) _ _ _ _ _ _ _
  rw [e];exact h2
def tailK [Rnd] (P:Program) (N:Nat) (opsA:Array Oper) (n:Nat) (Q:Exit->Act->World->Prop) (I0:Nat->Prop) (w0:World):Exit->Sy->Prop :=
 fun _ σ' => ∀ Y a w,Inv Y (lk σ'.env) (nth σ'.bx) (nth σ'.tk) I0 N w0 a w->wpOpsIn fen 0 P opsA Q (List.range' n (opsA.toList.length - n)) a w
theorem hand_tail [Rnd] {P:Program} {N:Nat} {σ:Sy} {I:Nat->Prop} {w0 w:World} {a:Act} {Q:Exit->Act->World->Prop} {id:Nat} {opsA:Array Oper} {dr:Bool} (n:Nat) (hm:P.follows .mixedOrders = true) (hst:regOK N (opsA.toList.take n) = true) (hn:n<=opsA.toList.length) (ht:(!dr || tailOK opsA.toList n) = true) (hs:St σ I N w0 a w)
  (hr:rgn P (opsA.toList.take n) (fun lg => @KOt ⟨dr,opsA.toList.take n,lg⟩) (fun _ => False) (opsA.toList.take n) σ [] (fun σ' => @EndW σ' ⟨.normal,tailK P N opsA n Q I w0⟩)):(Code.region id opsA dr).wpIn fen 0 P Q a w:=by
 refine region_tail (Kp:=fun _ => False) n hm hst hn ht (fun d _ _ _ hd => hd.elim) (K:=fun σ' => @EndW σ' ⟨.normal,tailK P N opsA n Q I w0⟩) ?_ hs (fun σ' hk Y a w _ hq => hk Y a w hq)
 have e:(fun lg => dr = true->ordOK (opsA.toList.take n) lg = true) = (fun lg => @KOt ⟨dr,opsA.toList.take n,lg⟩):=by funext lg;cases dr<;>simp [KOt]
 rw [e];exact hr
section
variable [Rnd] {P : Program} {N : Nat} {σ : Sy} {I0 : Nat → Prop} {w0 w w' : World} {a : Act} {Q : Exit → Act → World → Prop} {opsA : Array Oper} {m k : Nat} {o : Oper}
theorem Ok.tail [Bas] {K:Exit->Sy->Prop} {Kp:DV->Prop} {id:Nat} {dr:Bool} (n:Nat) (hm:P.follows .mixedOrders = true) (hst:regOK N (opsA.toList.take n) = true) (hn:n<=opsA.toList.length) (ht:(!dr || tailOK opsA.toList n) = true)
  (hr:rgn P (opsA.toList.take n) (fun lg => @KOt ⟨dr,opsA.toList.take n,lg⟩) (fun _ => False) (opsA.toList.take n) σ [] (fun σ' => @EndW σ' ⟨.normal,tailK P N opsA n (QK K Kp Bas.I0 N Bas.w0) Bas.I0 Bas.w0⟩)):Ok P N (.region id opsA dr) σ K Kp:=fun _ _ hs => hand_tail n hm hst hn ht hs hr
theorem qT [Bas] (n:Nat) {K:Exit->Sy->Prop} {Kp:DV->Prop} {id:Nat} {dr:Bool} {y:Code} (hm:P.follows .mixedOrders = true) (hst:regOK N (opsA.toList.take n) = true) (hn:Nat.ble n opsA.toList.length = true) (ht:(!dr || tailOK opsA.toList n) = true)
  (hr:rgn P (opsA.toList.take n) (fun lg => @KOt ⟨dr,opsA.toList.take n,lg⟩) (fun _ => False) (opsA.toList.take n) σ [] (fun σ' => @EndW σ' ⟨.normal,tailK P N opsA n (QK (thenK (fun σ' => Ok P N y σ' K Kp) K) Kp Bas.I0 N Bas.w0) Bas.I0 Bas.w0⟩)):Ok P N (.seq (.region id opsA dr) y) σ K Kp:=Ok.seq (Ok.tail n hm hst (Nat.le_of_ble_eq_true hn) ht hr)
theorem qU [Bas] (n:Nat) {K:Exit->Sy->Prop} {Kp:DV->Prop} {id:Nat} {dr:Bool} (hm:P.follows .mixedOrders = true) (hst:regOK N (opsA.toList.take n) = true) (hn:Nat.ble n opsA.toList.length = true) (ht:(!dr || tailOK opsA.toList n) = true)
  (hr:rgn P (opsA.toList.take n) (fun lg => @KOt ⟨dr,opsA.toList.take n,lg⟩) (fun _ => False) (opsA.toList.take n) σ [] (fun σ' => @EndW σ' ⟨.normal,tailK P N opsA n (QK K Kp Bas.I0 N Bas.w0) Bas.I0 Bas.w0⟩)):Ok P N (.region id opsA dr) σ K Kp:=Ok.tail n hm hst (Nat.le_of_ble_eq_true hn) ht hr
theorem hT (n:Nat) {id:Nat} {dr:Bool} (hm:P.follows .mixedOrders = true) (hst:regOK N (opsA.toList.take n) = true) (hn:Nat.ble n opsA.toList.length = true) (ht:(!dr || tailOK opsA.toList n) = true) (hs:St σ I0 N w0 a w)
  (hr:rgn P (opsA.toList.take n) (fun lg => @KOt ⟨dr,opsA.toList.take n,lg⟩) (fun _ => False) (opsA.toList.take n) σ [] (fun σ' => @EndW σ' ⟨.normal,tailK P N opsA n Q I0 w0⟩)):(Code.region id opsA dr).wpIn fen 0 P Q a w:=hand_tail n hm hst (Nat.le_of_ble_eq_true hn) ht hs hr
theorem St.of {Y:Nat->Option Bool} (h:Inv Y (lk σ.env) (nth σ.bx) (nth σ.tk) I0 N w0 a w) (hg:noGd σ.env = true):St σ I0 N w0 a w:=by
 intro Y'
 have:=St.clean h Y'
 have e:(fun t => ung (lk σ.env t)) = lk σ.env:=funext fun t => by
  have:=noGd_lk hg t
  cases hq:lk σ.env t<;>first | rfl | exact absurd hq (this _ _ _)
 rwa [e] at this
theorem tail_val {v:Value} {dst:Option Tmp} {op:Op} {ty:TypeId} {pos:String} {af:Array Edge} (ho:opsA[m]? = some { dst:=dst,op:=op,type:=ty,pos:=pos,after:=af,guard:=none }) (hnd:∀ c,op ≠ .defer c) (hr:(execOp a.eval { dst:=dst,op:=op,type:=ty,pos:=pos,after:=af,guard:=none }).run P w = .ok (.value v) w') (h:wpOpsIn fen 0 P opsA Q (List.range' (m + 1) k) (a.put dst v) w'):wpOpsIn fen 0 P opsA Q (List.range' m (k + 1)) a w:=by
 rw [List.range'_succ,wpOpsIn_cons]
 unfold wpOpIn
 rw [ho]
 simp only
 rw [if_pos (by simp [Region.wanted])]
 exact Oper.wp_in hnd (wp_val hr h)
theorem tail_skp {dst:Option Tmp} {op:Op} {ty:TypeId} {pos:String} {af:Array Edge} (ho:opsA[m]? = some { dst:=dst,op:=op,type:=ty,pos:=pos,after:=af,guard:=none }) (hnd:∀ c,op ≠ .defer c) (hr:(execOp a.eval { dst:=dst,op:=op,type:=ty,pos:=pos,after:=af,guard:=none }).run P w = .ok .skip w') (h:wpOpsIn fen 0 P opsA Q (List.range' (m + 1) k) (a.put dst undef) w'):wpOpsIn fen 0 P opsA Q (List.range' m (k + 1)) a w:=by
 rw [List.range'_succ,wpOpsIn_cons]
 unfold wpOpIn
 rw [ho]
 simp only
 rw [if_pos (by simp [Region.wanted])]
 exact Oper.wp_in hnd (wp_skp hr h)
theorem tail_in {dst:Option Tmp} {op:Op} {ty:TypeId} {pos:String} {af:Array Edge} (ho:opsA[m]? = some { dst:=dst,op:=op,type:=ty,pos:=pos,after:=af,guard:=none }) (h:({ dst:=dst,op:=op,type:=ty,pos:=pos,after:=af,guard:=none }:Oper).wpIn fen 0 P a w (wpOpsIn fen 0 P opsA Q (List.range' (m + 1) k)) Q):wpOpsIn fen 0 P opsA Q (List.range' m (k + 1)) a w:=by
 rw [List.range'_succ,wpOpsIn_cons]
 unfold wpOpIn
 rw [ho]
 simp only
 rw [if_pos (by simp [Region.wanted])]
 exact h
theorem tail_if {gi:Nat} {gw b:Bool} {dst:Option Tmp} {op:Op} {ty:TypeId} {pos:String} {af:Array Edge} (ho:opsA[m]? = some { dst:=dst,op:=op,type:=ty,pos:=pos,after:=af,guard:=some (gi,gw) }) (hy:yielded opsA a.tmps gi = some b) (h1:b = gw->({ dst:=dst,op:=op,type:=ty,pos:=pos,after:=af,guard:=some (gi,gw) }:Oper).wpIn fen 0 P a w (wpOpsIn fen 0 P opsA Q (List.range' (m + 1) k)) Q) (h2:b ≠ gw->wpOpsIn fen 0 P opsA Q (List.range' (m + 1) k) (a.put dst undef) w):wpOpsIn fen 0 P opsA Q (List.range' m (k + 1)) a w:=by
 rw [List.range'_succ,wpOpsIn_cons]
 unfold wpOpIn
 rw [ho]
 simp only
 simp only [Region.wanted,hy]
 by_cases e:b = gw
 ·rw [if_pos (by simpa using e)];exact h1 e
 ·rw [if_neg (by simpa using e)];exact ⟨fun _ _ => trivial,h2 e⟩
theorem tail_end (h:Q .normal a w):wpOpsIn fen 0 P opsA Q (List.range' m 0) a w:=h
theorem yielded_at {t:Nat} {b:Bool} {oj:Oper} {gi:Nat} (ho:opsA[gi]? = some oj) (hd:oj.dst = some t) (hv:a.tmps.getD t undef = .bool b):yielded opsA a.tmps gi = some b:=by
 unfold yielded
 rw [ho]
 simp only [Option.bind_some,hd]
 rw [Array.getD_eq_getD_getElem?] at hv
 cases hq:a.tmps[t]? with
 | none => rw [hq] at hv;simp [undef] at hv
 | some u => rw [hq] at hv;simp at hv;subst hv;rfl
end
theorem upd_lk (e:List (Nat×SV)) (d:Nat) (V:SV):updO (lk e) (some d) V = lk ((d,V) :: e):=by
 funext t
 simp only [updO,upd,lk]
 by_cases h:t = d
 ·subst h;simp
 ·rw [if_neg h,if_neg (fun q => h q.symm)]
section
variable [Rnd] {P : Program} {N : Nat} {σ : Sy} {I0 : Nat → Prop} {w0 w : World} {a : Act} {opsA : Array Oper} {m k : Nat}
theorem St.putV (hs:St σ I0 N w0 a w) {d:Nat} {v:Value} {V:SV} (hd:d < N) (hv:∀ I β τ Y,Mt I β τ Y w v V) (hfr:∀ p∈Dfr.fr,p.1 ≠ d:=by exact fun p hp => by cases hp):St { σ with env:=(d,V) :: σ.env } I0 N w0 (a.put (some d) v) w:=by
 intro Y
 obtain ⟨I,β,τ,h⟩:=hs Y
 refine ⟨I,β,τ,?_⟩
 have:=h.pure (dst:=some d) (fun d' e => by cases e;exact ⟨hd,hfr⟩) (hv I β τ Y)
 rwa [upd_lk] at this
theorem Ok.rest [Bas] {K:Exit->Sy->Prop} {Kp:DV->Prop} (hs:St σ Bas.I0 N Bas.w0 a w) (hk:k = ((opsA.toList.drop m).map bare).length) (hgd:((opsA.toList.drop m).map bare).all (fun o => o.guard.isNone) = true) (hst:regOK N ((opsA.toList.drop m).map bare) = true)
  (hr:rgn P ((opsA.toList.drop m).map bare) (fun _ => True) (fun _ => False) ((opsA.toList.drop m).map bare) σ [] (fun σ' => @EndW { σ' with env:=clean σ'.env } ⟨.normal,K⟩)):wpOpsIn fen 0 P opsA (QK K Kp Bas.I0 N Bas.w0) (List.range' m k) a w :=
 rgn_rest _ rfl hk hgd hst hs hr (fun σ' hk _ _ hs => ⟨σ',hk,hs⟩)
theorem hrest {Q:Exit->Act->World->Prop} (hs:St σ I0 N w0 a w) (hk:k = ((opsA.toList.drop m).map bare).length) (hgd:((opsA.toList.drop m).map bare).all (fun o => o.guard.isNone) = true) (hst:regOK N ((opsA.toList.drop m).map bare) = true)
  (hr:rgn P ((opsA.toList.drop m).map bare) (fun _ => True) (fun _ => False) ((opsA.toList.drop m).map bare) σ [] (fun σ' => @EndW { σ' with env:=clean σ'.env } ⟨.normal,KQ Q I0 N w0⟩)):wpOpsIn fen 0 P opsA Q (List.range' m k) a w :=
 rgn_rest _ rfl hk hgd hst hs hr (fun σ' hk a w hs => hk a w hs)
end
theorem Ok.join [Rnd] [Bas] {P:Program} {N:Nat} {x y:Code} {σ:Sy} (σ':Sy) {K:Exit->Sy->Prop} {Kp:DV->Prop} (h1:Ok P N x σ (thenK (fun s => Sub s σ') K) Kp) (h2:Ok P N y σ' K Kp):Ok P N (.seq x y) σ K Kp :=
 Ok.seq (Ok.mono h1 (fun e s hk => by cases e<;>first | exact Ok.sub hk h2 | exact hk) (fun _ h => h))
theorem St.quiet {N:Nat} {σ:Sy} {I0:Nat->Prop} {w0 w w':World} {a:Act} (hs:St σ I0 N w0 a w) (hb:Keep w.heap.size w w'):St σ I0 N w0 a w':=by
 intro Y
 obtain ⟨I,β,τ,h⟩:=hs Y
 exact ⟨_,β,τ,h.quiet (dst:=none) hb (fun d e => by cases e) (v:=undef) (V:=.any) .any⟩
theorem run_buildSlice0 {P:Program} {t e:TypeId} {i:TypeInfo} (hu:P.underlying t = some (.slice e)) (hi:P.info? e = some i) (w:World):(Instr.buildSlice t 0 #[]).run P w = .ok (.slice (some ⟨w.heap.size,0,none⟩) 0 0) (w.alloc (.cells #[] e)):=by
 have e2:Array.map (fun _ => (default:Value)) (Array.range 0) = #[]:=Array.eq_empty_of_size_eq_zero (by simp)
 simp [Instr.buildSlice,run_underlying hu,sizeOf,typeInfo,hi,Instr.fill,newRow,newObj,Result.andThen]
 rw [e2]
 rfl
theorem St.empty {N:Nat} {σ:Sy} {I0:Nat->Prop} {w0 w:World} {a:Act} (hs:St σ I0 N w0 a w) (htk:σ.tk = []) {d e k:Nat} {g:Nat->Nat->DV} (hd:d < N) (hk:0 < k) (hfr:∀ p∈Dfr.fr,p.1 ≠ d:=by exact fun p hp => by cases hp) :
  St { env:=(d,.tk 0) :: σ.env,bx:=σ.bx,tk:=[.own e k 0 g] } I0 N w0 (a.put (some d) (.slice (some ⟨w.heap.size,0,none⟩) 0 0)) (w.alloc (.cells #[] e)):=by
 intro Y
 obtain ⟨I,β,τ,h⟩:=hs Y
 refine ⟨I,β,upd τ 0 (some (.slice (some ⟨w.heap.size,0,none⟩) 0 0)),?_⟩
 have hB:Below w.heap.size w (w.alloc (.cells #[] e)):=(Below.refl _ w).alloc (Nat.le_refl _) _
 have hg:w.grownBy (w.alloc (.cells #[] e)) none:=⟨rfl,rfl,rfl,by simp,fun b hb _ => hB.block b hb⟩
 have hne:(w.alloc (.cells #[] e)).heap[w.heap.size]? = some (.cells #[] e):=World.alloc_heap_new w _
 have:=h.row (t:=none) (m:=some 0) (m0:=0) (row:=none) (g:=g) (e:=e) (k:=k) (n:=0) (K':=nth [.own e k 0 g]) (dst:=some d) (V:=.tk 0) (v':=.slice (some ⟨w.heap.size,0,none⟩) 0 0) (r:=.slice (some ⟨w.heap.size,0,none⟩) 0 0) hg (fun b hb => by cases hb) rfl (.inl (by rw [htk];rfl)) hk (xs:=[])
  ⟨by simp,.inr ⟨w.heap.size,0,#[],rfl,h.bel.size,hne,Nat.le_refl _,by simp [maxLen],by simp,by simp⟩⟩ (fun u hu => by cases hu) (fun i j hi hj => by omega) (fun b hb => by simp [Value.ownBlock] at hb;exact .inr (by omega)) (fun e => by cases e)
  (fun d' e => by cases e;exact ⟨hd,hfr⟩) (.tk (upd_same _ _ _) rfl) rfl (fun t0 ht0 => by cases ht0) (fun x hx _ => by
   rw [htk]
   cases x with
   | zero => exact absurd rfl hx
   | succ x => rfl)
 rwa [upd_lk] at this
end Go.RX
namespace Go.RX
open Go Go.RowKit
abbrev g0:Glob:={ G:=fun _ => True,M:=none,F:=0,lo:=fun _ _ => Nat.zero_le _,st:=fun _ _ _ _ => trivial,mF:=fun m e => by cases e }
def flatD (x:DV):Prop:=∀ (u:Value) (I I':Nat->Prop) (w w':World),Rep I w u x->Rep I' w' u x
theorem flatD.int {k:IntKind} {n:Int}:flatD (.int k n):=fun u I I' w w' h => by cases h;exact .int
theorem flatD.bool {b:Bool}:flatD (.bool b):=fun u I I' w w' h => by cases h;exact .bool
theorem flatD.nilI:flatD .nilI:=fun u I I' w w' h => by cases h;exact .nilI
def retO (t e k n:Nat) (g:Nat->Nat->DV) (x:Exit) (σ:Sy):Prop :=
 match x with
 | .ret | .normal => (lk σ.env t = .d .nils/\n = 0)∨∃ i g',lk σ.env t = .tk i/\nth σ.tk i = some (.own e k n g')/\∀ i j,i < n->j < k->DEq (g' i j) (g i j)/\flatD (g i j)
 | _ => False
instance inst_g0_1:Glob:=g0
def CtrF (P:Program) (f:FuncId) (A:List SV) (e k n:Nat) (g:Nat->Nat->DV):Prop :=
 (0 < k/\∃ fn,P.funcs[f]? = some fn/\(fn.name == "runtime.NumGoroutine") = false/\fn.body.isNone = false) /\
 ∀ (I:Nat->Prop) (w:World) (vs:Array Value),(∀ b,I b->b < w.heap.size)->vs.size = A.length->(∀ (j:Nat) (u:Value) (s:SV),vs[j]? = some u->A[j]? = some s->RepS I w u s) ->
  Calls P f vs w fun e' w' => ∃ v xs,e' = .returned v/\w'.ownsRow w.heap.size e k v n xs/\(∀ u∈xs,u.oneCell' = true)/\(∀ i j,i < n->j < k->∃ u,xs[i * k + j]? = some u/\∀ I w,Rep I w u (g i j))/\Below w.heap.size w w'
theorem CtrF.mk {P:Program} {f:FuncId} {fn:Func} {c:Code} {A:List SV} {t e k n:Nat} {g:Nat->Nat->DV} {N:Nat} (hk:0 < k) (hf:P.funcs[f]? = some fn) (hb:fn.body = some c) (hname:(fn.name == "runtime.NumGoroutine") = false) (hN:fn.ntmps = N) (hn:Nat.ble A.length N = true) (hr:fn.results = #[.tmp t])
  (h:∀ b:Bas,@Ok g0 _ ⟨none⟩ b P N c { env:=args 0 A,bx:=[],tk:=[] } (retO t e k n g) (fun _ => False)):CtrF P f A e k n g:=by
 subst hN
 refine ⟨⟨hk,fn,hf,hname,by simp [hb]⟩,fun I w vs hI hl hA => ?_⟩
 refine calls_of_wp hf hb ?_
 have hst:=@St.start g0 fn.ntmps A I w vs trivial hI (fun b _ e => by cases e) hl (Nat.le_of_ble_eq_true hn) hA
 refine wp_mono ((wpIn_wide (n:=0)).1 (h ⟨I,w⟩ _ w hst)) ?_
 intro x a' w' hq
 have fin:∀ σ',((lk σ'.env t = .d .nils/\n = 0)∨∃ i g',lk σ'.env t = .tk i/\nth σ'.tk i = some (.own e k n g')/\∀ i j,i < n->j < k->DEq (g' i j) (g i j)/\flatD (g i j))->@St g0 _ σ' I fn.ntmps w a' w' ->
   a'.defers = []/\∃ v,(results fn a'.tmps).run P w' = .ok v w'/\∃ v1 xs,Ending.returned v = .returned v1/\w'.ownsRow w.heap.size e k v1 n xs/\(∀ u∈xs,u.oneCell' = true)/\(∀ i j,i < n->j < k->∃ u,xs[i * k + j]? = some u/\∀ I w,Rep I w u (g i j))/\Below w.heap.size w w':=by
  rintro σ' hh hs
  obtain ⟨I',β,τ,hx⟩:=hs (fun _ => none)
  refine ⟨hx.df,a'.tmps.getD t undef,results_tmp (by rw [hr]) _ _ _,?_⟩
  rcases hh with ⟨h1,rfl⟩ | ⟨i,g',h1,h2,h3⟩
  ·have hm:=(hx.env t).un (fun j b y e => by rw [h1] at e;cases e)
   rw [h1] at hm
   have hv:=rep_nils (mt_d hm)
   have hb:=hx.bel
   exact ⟨_,[],rfl,by rw [hv];exact World.ownsRow_nil _ _ e k,(fun u hu => by simp at hu),(fun a b ha hb => by omega),⟨hb.os,hb.tape,hb.output,hb.size,fun k hk => hb.block k hk (fun e => by cases e)⟩⟩
  obtain ⟨_,v,xs,t1,t2,t3,t4,t5⟩:=hx.tok i _ h2
  have hm:=(hx.env t).un (fun j b y e => by rw [h1] at e;cases e)
  rw [h1] at hm
  have hv:a'.tmps.getD t undef = v:=by
   generalize a'.tmps.getD t undef = u at hm
   cases hm with
   | tk hτ _ => rw [t1] at hτ;cases hτ;rfl
  refine ⟨v,xs,by rw [hv],t2,t3,fun a b ha hb => ?_,?_⟩
  ·obtain ⟨u,hu,hr⟩:=t4 a b ha hb
   exact ⟨u,hu,fun I w => (h3 a b ha hb).2 u _ _ _ _ ((h3 a b ha hb).1 _ _ _ hr)⟩
  ·have hb:=hx.bel
   exact ⟨hb.os,hb.tape,hb.output,hb.size,fun k hk => hb.block k hk (fun e => by cases e)⟩
 cases x with
 | ret => obtain ⟨σ',hk,hs⟩:=hq;exact fin σ' hk hs
 | normal => obtain ⟨σ',hk,hs⟩:=hq;exact fin σ' hk hs
 | panic ch => obtain ⟨d,hd,_⟩:=hq;exact hd.elim
 | _ => obtain ⟨σ',hk,hs⟩:=hq;exact hk.elim
theorem CtrF.own {P:Program} {f:FuncId} {A:List SV} {e k n:Nat} {g:Nat->Nat->DV} (h:CtrF P f A e k n g) {G:Glob}:@CtrO G P f A e k n g:=⟨h.1,fun I w vs _ hI _ hl hA => h.2 I w vs hI hl hA⟩
end Go.RX
