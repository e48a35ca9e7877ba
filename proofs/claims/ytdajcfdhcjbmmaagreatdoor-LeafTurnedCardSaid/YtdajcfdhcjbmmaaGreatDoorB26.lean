/-
  Contracts, part 27. No condition.
-/
import Derived.Test.YtdajcfdhcjbmmaaGreatDoorB25
set_option linter.all false
namespace Go.RX
open Go Go.RowKit
section
variable [Glob] [Dfr]
structure Bk (I:Nat->Prop) (w0 W:World) (blk:Nat) (c:BC):Prop where
 frz:c.frz = false
 it:c.it = none
 new:w0.heap.size<=blk
 out:¬ I blk
 con:∃ cs T,W.heap[blk]? = some (.cells cs T (0,0))/\cs.size = c.xs.length/\(∀ (j:Nat) (u:Value) (x:SV),cs[j]? = some u->c.xs[j]? = some x->x = .any∨RepS I W u x)/\(∀ u∈cs,u.oneCell' = true)
theorem St.boxes {I0 I:Nat->Prop} {N:Nat} {w0 W:World} {a:Act} {env:List (Nat×SV)} {bxs:List BC} (bl:List Nat) (hsz:a.tmps.size = N) (hdf:a.defers = Dfr.ds) (hI:∀ b,I b->b < W.heap.size) (hM0:∀ b,I0 b->Glob.M ≠ some b) (hG:Glob.G w0)
  (hi0:∀ b,I b->I0 b∨w0.heap.size<=b) (hkeep:Keep w0.heap.size w0 W) (hlen:bl.length = bxs.length) (hinj:∀ (k k' b:Nat),bl[k]? = some b->bl[k']? = some b->k = k') (hbox:∀ (k blk:Nat) (c:BC),bl[k]? = some blk->nth bxs k = some c->Bk I w0 W blk c)
  (henv:∀ t,lk env t = .any∨RepS I W (a.tmps.getD t undef) (lk env t)∨∃ k blk,lk env t = .p k 0/\bl[k]? = some blk/\a.tmps.getD t undef = .pointer (some ⟨blk,0,none⟩)) (hfx:∀ p∈Dfr.fr,a.tmps.getD p.1 undef = p.2:=by exact fun p hp => by cases hp):St { env:=env,bx:=bxs,tk:=[] } I0 N w0 a W:=by
 have nk:∀ {α:Type} (k:Nat) (c:α),nth ([]:List α) k = some c->False:=fun k c h => by simp [nth] at h
 intro Y
 have lift:∀ {u s},RepS I W u s->Mt I (fun k => bl[k]?) (fun _ => none) Y W u s:=fun h => (h Y).mono (fun _ h => h) (fun _ _ => rfl) (fun k b hk => by cases hk) (fun k v hk => by cases hk)
 refine ⟨I,fun k => bl[k]?,fun _ => none,{ nm0:=hM0,bs:=hG,sz:=hsz,df:=hdf,fx:=hfx,hI:=hI,i0:=hi0,env:=fun t => ?_,box:=fun k c hk => ?_,bn:=fun k hk => ?_,inj:=hinj,tok:=fun k c hk => (nk k c hk).elim,kn:=fun _ _ => rfl,dis:=fun k k' c c' hk => (nk k _ hk).elim,bel:=hkeep }⟩
 ·show MtG _ _ _ _ _ _ (lk env t)
  rcases henv t with e | e | ⟨k,blk,e1,e2,e3⟩
  ·rw [e];exact .m .any
  ·exact .m (lift e)
  ·rw [e1,e3];exact .m (.p e2)
 ·have hk':nth bxs k = some c:=hk
  have hlt:=nth_lt hk'
  have hb:bl[k]? = some (bl[k]'(by omega)):=List.getElem?_eq_getElem (by omega)
  have hB:=hbox k _ c hb hk'
  refine ⟨⟨_,hb,hB.new,fun e => (by rw [hB.frz] at e;cases e),fun _ => hB.out⟩,fun blk h2 => ?_⟩
  have e:blk = bl[k]'(by omega):=by
   have h3:bl[k]? = some blk:=h2
   rw [hb] at h3;exact (Option.some.inj h3).symm
  subst e
  unfold Cont
  rw [hB.it]
  obtain ⟨cs,T,g1,g2,g3,g4⟩:=hB.con
  refine ⟨cs,T,g1,g2,fun j u x hu hx => ?_,g4⟩
  rcases g3 j u x hu hx with q | q
  ·subst q;exact .any
  ·exact lift q
 ·have hk':nth bxs k = none:=hk
  rw [nth_eq,List.getElem?_eq_none_iff] at hk'
  exact List.getElem?_eq_none (by omega)
theorem St.parked {σ:Sy} {I0:Nat->Prop} {N:Nat} {w0 w:World} {a:Act} (hs:St σ I0 N w0 a w) (hg:noGd σ.env = true) (hI0:∀ b,I0 b->b < w0.heap.size) :
  ∃ (I1:Nat->Prop) (bl:Nat->Nat),(∀ b,I0 b->I1 b)/\(∀ b,I1 b->I0 b∨(w0.heap.size<=b/\b < w.heap.size))/\(∀ b,I1 b->b < w.heap.size)/\(∀ b,I1 b->Glob.M ≠ some b)/\Keep w0.heap.size w0 w/\a.defers = Dfr.ds/\a.tmps.size = N /\
   (∀ t y,lk σ.env t = .d y->RepS I1 w (a.tmps.getD t undef) (.d y))/\(∀ k k' c c',nth σ.bx k = some c->nth σ.bx k' = some c'->bl k = bl k'->k = k')/\(∀ t k o,lk σ.env t = .p k o->a.tmps.getD t undef = .pointer (some ⟨bl k,o,none⟩)) /\
   (∀ k c,nth σ.bx k = some c->c.frz = false->c.it = none->w0.heap.size<=bl k/\bl k < w.heap.size/\¬ I1 (bl k)/\∃ cs T,w.heap[bl k]? = some (.cells cs T (0,0))/\cs.size = c.xs.length/\(∀ u∈cs,u.oneCell' = true) /\
    (∀ (j:Nat) (u:Value) (y:DV),cs[j]? = some u->c.xs[j]? = some (.d y)->RepS I1 w u (.d y))):=by
 obtain ⟨I2,β,τ,h⟩:=hs (fun _ => none)
 have hsz:=h.bel.size
 have hlt:∀ b,I0 b∨I2 b->b < w.heap.size:=fun b hb => by
  rcases hb with hb | hb
  ·have:=hI0 b hb;omega
  ·exact h.hI b hb
 have hd:∀ {u y},Mt I2 β τ (fun _ => none) w u (.d y)->RepS (fun b => I0 b∨I2 b) w u (.d y):=fun hm Y => .d ((mt_d hm).mono (fun b hb => .inr hb) (fun _ _ => rfl))
 refine ⟨fun b => I0 b∨I2 b,fun k => (β k).getD 0,fun b hb => .inl hb,fun b hb => ?_,hlt,fun b hb => ?_,h.bel,h.df,h.sz,fun t y e => ?_,fun k k' c c' hk hk' e => ?_,fun t k o e => ?_,fun k c hk hf hit => ?_⟩
 ·rcases hb with hb | hb
  ·exact .inl hb
  ·rcases h.i0 b hb with q | q
   ·exact .inl q
   ·exact .inr ⟨q,h.hI b hb⟩
 ·rcases hb with hb | hb
  ·exact h.nm0 b hb
  ·exact h.nm b hb
 ·have:=(h.env t).un (noGd_lk hg t)
  rw [e] at this
  exact hd this
 ·obtain ⟨b1,q1,_⟩:=(h.box k c hk).loc
  obtain ⟨b2,q2,_⟩:=(h.box k' c' hk').loc
  simp only [q1,q2,Option.getD_some] at e
  subst e
  exact h.inj _ _ _ q1 q2
 ·have:=(h.env t).un (noGd_lk hg t)
  rw [e] at this
  generalize a.tmps.getD t undef = u at this
  cases this with
  | p hβ => simp [hβ]
 ·obtain ⟨blk,cs,T,b1,b2,b3,b4,b5,b6,b7,b8⟩:=(h.box k c hk).ex (by rw [hit];rfl)
  simp only [b1,Option.getD_some]
  refine ⟨b2,(Array.getElem?_eq_some_iff.1 b3).1,fun hc => ?_,cs,T,b3,b4,b6,fun j u y hu hy => hd (b5 j u _ hu hy)⟩
  rcases hc with q | q
  ·have:=hI0 _ q;omega
  ·exact b8 hf q
end
section
variable [Glob]
def endM (P:Program) (rs:List ResultVar) (r:SV) (I:Nat->Prop) (N:Nat) (w:World):Exit->Act->World->Prop:=fun e a' w' =>
 (e = .ret∨e = .normal)/\((∃ σ,resOK P rs r σ/\St σ I N w a' w')∨∃ D σ,w'.heap[D]? = some (.deferred (some []))/\resOK P rs r σ/\@St _ ⟨[markOf D],[]⟩ σ I N w a' (w'.putObj D (.deferred none)))
theorem Ctr.marks {P:Program} {f:FuncId} {fn:Func} {c:Code} {A:List SV} {r:SV} {N:Nat} {rs:Array ResultVar} (hf:P.funcs[f]? = some fn) (hb:fn.body = some c) (hname:(fn.name == "runtime.NumGoroutine") = false) (hN:fn.ntmps = N) (hn:Nat.ble A.length N = true) (hr:fn.results = rs)
  (h:∀ I w a,Glob.G w->(∀ b,I b->b < w.heap.size)->(∀ b,I b->Glob.M ≠ some b)->St { env:=RX.args 0 A,bx:=[],tk:=[] } I N w a w->c.wpIn fen 0 P (endM P rs.toList r I N w) a w):Ctr P f A r:=by
 subst hN;subst hr
 refine ⟨⟨fn,hf,hname,by simp [hb]⟩,fun I w vs hG hI hM hl hA => ?_⟩
 refine (callsIn_wide (n:=0)).1 ?_
 refine callsIn_of_wp_marks hf hb trivial ?_ rfl
 refine wpIn_mono (h I w _ hG hI hM (St.start hG hI hM hl (Nat.le_of_ble_eq_true hn) hA)) ?_
 rintro e a' w' ⟨he,hq⟩
 have key:LeavesInM Fence.wide 0 P fn a'.tmps (fun e w' => ∃ v,e = .returned v/\RepS (fun b => I b∨(w.heap.size<=b/\b < w'.heap.size)) w' v r/\Keep w.heap.size w w') a'.defers .returning w':=by
  rcases hq with ⟨σ,h1,h2⟩ | ⟨D,σ,h0,h1,h2⟩
  ·obtain ⟨hd,v,hv,v',q1,q2,q3⟩:=res_fin h1 h2
   rw [hd]
   exact ⟨v,hv,v',q1,q2,q3⟩
  ·obtain ⟨hd,v,hv,v',q1,q2,q3⟩:=@res_fin _ _ ⟨[markOf D],[]⟩ _ _ _ _ _ _ _ _ h1 h2
   rw [hd]
   exact ⟨by simp,.inl ⟨D,_,rfl,run_takeDeferred h0,v,hv,v',q1,q2,q3⟩⟩
 rcases he with rfl | rfl<;>exact key
end
section
variable [Glob]
theorem take_at (c:Nat->DV):∀ (m o j:Nat) (s:SV),(take c o m)[j]? = some s->s = .d (c (o + j))
 | 0,o,j,s,h => by simp [take] at h
 | m + 1,o,0,s,h => by simp [take] at h;exact h.symm
 | m + 1,o,j + 1,s,h => by
  have:=take_at c m (o + 1) j s (by simpa [take] using h)
  rw [this];congr 2;omega
theorem tmp_ne {ts:Array Value} {p t:Nat} {v:Value} (h:p ≠ t):(ts.setIfInBounds p v).getD t undef = ts.getD t undef:=by
 rw [Array.getD_eq_getD_getElem?,Array.getD_eq_getD_getElem?,Array.getElem?_setIfInBounds_ne h]
theorem tmp_eq {ts:Array Value} {p:Nat} {v:Value} (h:p < ts.size):(ts.setIfInBounds p v).getD p undef = v:=by
 rw [Array.getD_eq_getD_getElem?,Array.getElem?_setIfInBounds_self_of_lt h];rfl
theorem dat_nil {I:Nat->Prop} {W:World} {f:Nat->Value}:∀ t,lk [] t = .any∨RepS I W (f t) (lk [] t):=fun _ => .inl rfl
theorem dat_cons {I:Nat->Prop} {W:World} {f:Nat->Value} {k:Nat} {s:SV} {env:List (Nat×SV)} (h:RepS I W (f k) s) (h2:∀ t,lk env t = .any∨RepS I W (f t) (lk env t)):∀ t,lk ((k,s) :: env) t = .any∨RepS I W (f t) (lk ((k,s) :: env) t):=fun t => by
 by_cases e:k = t
 ·subst e;rw [lk_same];exact .inr h
 ·rw [lk_cons,if_neg e];exact h2 t
theorem repS_raw {I:Nat->Prop} {W:World} {v u:Value} (h:v = u) (h1:u.oneCell' = true):RepS I W v (.d (.raw u)):=by subst h;exact fun Y => .d (.raw h1)
theorem bat_nil {I:Nat->Prop} {W:World} {f:Nat->Value} {bl:List Nat}:∀ t,lk [] t = .any∨RepS I W (f t) (lk [] t)∨∃ k blk,lk [] t = .p k 0/\bl[k]? = some blk/\f t = .pointer (some ⟨blk,0,none⟩):=fun _ => .inl rfl
theorem bat_cons {I:Nat->Prop} {W:World} {f:Nat->Value} {bl:List Nat} {i:Nat} {s:SV} {env:List (Nat×SV)} (h:RepS I W (f i) s∨∃ k blk,s = .p k 0/\bl[k]? = some blk/\f i = .pointer (some ⟨blk,0,none⟩))
  (h2:∀ t,lk env t = .any∨RepS I W (f t) (lk env t)∨∃ k blk,lk env t = .p k 0/\bl[k]? = some blk/\f t = .pointer (some ⟨blk,0,none⟩)):∀ t,lk ((i,s) :: env) t = .any∨RepS I W (f t) (lk ((i,s) :: env) t)∨∃ k blk,lk ((i,s) :: env) t = .p k 0/\bl[k]? = some blk/\f t = .pointer (some ⟨blk,0,none⟩):=fun t => by
 by_cases e:i = t
 ·subst e;rw [lk_same];exact .inr h
 ·rw [lk_cons,if_neg e];exact h2 t
theorem Bk.one {I:Nat->Prop} {n b T:Nat} {w0 W:World} {u:Value} {s:SV} (h0:w0.heap.size<=b) (h:Cl n b #[u] T I W) (hu:u.oneCell' = true) (hs:RepS I W u s):Bk I w0 W b { frz:=false,xs:=[s] } :=
 ⟨rfl,rfl,h0,h.2.1,#[u],T,h.2.2,rfl,fun j u' x hu' hx => by
  cases j with
  | zero => simp at hu' hx;subst hu';subst hx;exact .inr hs
  | succ j => simp at hu',fun u' hu' => by simp at hu';subst hu';exact hu⟩
end
end Go.RX
namespace Go.RX
open Go Go.RowKit
theorem Ctr.any {P:Program} {f:FuncId} {A:List SV} {r:SV} (h:@Ctr g0 P f A r) {G:Glob}:@Ctr G P f A r:=by
 obtain ⟨h1,h2⟩:=h
 refine ⟨h1,fun I w vs hG hI hM hl hA => (h2 I w vs trivial hI (fun b _ e => by cases e) hl hA).mono (fun e w' hq => ?_)⟩
 obtain ⟨v,he,hr,hk⟩:=hq
 cases hk with
 | mk k1 k2 k3 k4 k5 k6 =>
 exact ⟨v,he,hr,⟨k1,k2,k3,k4,fun k hk _ => k5 k hk (fun e => by cases e),fun hG => Glob.st _ _ hG ⟨k1,k2,k3,k4,fun k hk => k5 k (Nat.lt_of_lt_of_le hk (Glob.lo _ hG)) (fun e => by cases e)⟩⟩⟩
end Go.RX
namespace Go.RX
open Go Go.RowKit
variable [Glob]
theorem ownsRow_base {w:World} {b b':Nat} {e k n:Nat} {v:Value} {xs:List Value} (h:w.ownsRow b e k v n xs) (hb:b'<=b):w.ownsRow b' e k v n xs :=
 ⟨h.1,h.2.imp (fun q => q) (fun ⟨g,cap,cur,q1,q2,q3⟩ => ⟨g,cap,cur,q1,Nat.le_trans hb q2,q3⟩)⟩
theorem St.fresh {N:Nat} {σ:Sy} {I0:Nat->Prop} {w0 w w':World} {a:Act} (hs:St σ I0 N w0 a w) (htk:σ.tk = []) {d e k n:Nat} {g:Nat->Nat->DV} {v:Value} {xs:List Value} (hd:d < N) (hk:0 < k) (hB:Below w.heap.size w w') (hown:w'.ownsRow w.heap.size e k v n xs)
  (h1:∀ u∈xs,u.oneCell' = true) (hr:∀ i j,i < n->j < k->∃ u,xs[i * k + j]? = some u/\∀ I w,Rep I w u (g i j)) (hfr:∀ p∈Dfr.fr,p.1 ≠ d:=by exact fun p hp => by cases hp) :
  St { env:=(d,.tk 0) :: σ.env,bx:=σ.bx,tk:=[.own e k n g] } I0 N w0 (a.put (some d) v) w':=by
 intro Y
 obtain ⟨I,β,τ,h⟩:=hs Y
 refine ⟨I,β,upd τ 0 (some v),?_⟩
 have hg:w.grownBy w' none:=⟨hB.os,hB.tape,hB.output,hB.size,fun b hb _ => hB.block b hb⟩
 have:=h.row (t:=none) (m:=some 0) (m0:=0) (row:=none) (g:=g) (e:=e) (k:=k) (n:=n) (K':=nth [.own e k n g]) (dst:=some d) (V:=.tk 0) (v':=v) (r:=v) hg (fun b hb => by cases hb) rfl (.inl (by rw [htk];rfl)) hk (xs:=xs)
  (ownsRow_base hown h.bel.size) h1 (fun i j hi hj => by obtain ⟨u,q1,q2⟩:=hr i j hi hj;exact ⟨u,q1,q2 _ _⟩) (fun b hb => .inr (hown.lt b hb).1) (fun e => by cases e)
  (fun d' e => by cases e;exact ⟨hd,hfr⟩) (.tk (upd_same _ _ _) (by
   rcases hown.2 with ⟨q,_⟩ | ⟨_,_,_,q,_⟩<;>rw [q]<;>rfl)) rfl (fun t0 ht0 => by cases ht0) (fun x hx _ => by
   rw [htk]
   cases x with
   | zero => exact absurd rfl hx
   | succ x => rfl)
 rwa [upd_lk] at this
end Go.RX
namespace Go.RX
open Go Go.RowKit
variable [Glob]
theorem mt_aggd {I:Nat->Prop} {β:Nat->Option Nat} {τ:Nat->Option Value} {Y:Nat->Option Bool} {w:World} {v:Value} {ds:List DV} (h:Mt I β τ Y w v (.agg (ds.map .d))):RepS I w v (.agg (ds.map .d)):=by
 intro Y'
 cases h with
 | agg hl h h1 =>
  refine .agg hl (fun i u x hu hx => ?_) h1
  have:=h i u x hu hx
  rw [List.getElem?_map] at hx
  cases hd:ds[i]? with
  | none => rw [hd] at hx;cases hx
  | some y =>
   rw [hd] at hx;cases hx
   exact .d (mt_d this)
end Go.RX
namespace Go.RX
open Go Go.RowKit
variable [Glob]
theorem St.moved {σ:Sy} {I I':Nat->Prop} {N:Nat} {w w':World} {a:Act} (hs:St σ I N w a w) (hbx:σ.bx = []) (htk:σ.tk = []) (hg:noGd σ.env = true) (hk:Kpt I I' w w') (hlt:∀ b,I' b->b < w'.heap.size) (hnm:∀ b,I' b->Glob.M ≠ some b) (hG:Glob.G w') :
  St { env:=σ.env,bx:=[],tk:=[] } I' N w' a w':=by
 obtain ⟨I1,β,τ,hx⟩:=hs (fun _ => none)
 exact St.data (β:=fun _ => none) (τ:=fun _ => none) (Y:=fun _ => none) hx.sz hx.df hlt hnm hG (fun t => .inr ((hs.reps hbx htk hg t).kept hk))
theorem put_ne {x:Act} {d t:Nat} {v:Value} (h:d ≠ t):(x.put (some d) v).tmps.getD t undef = x.tmps.getD t undef:=tmp_ne h
theorem put_eq {x:Act} {d:Nat} {v:Value} (h:d < x.tmps.size):(x.put (some d) v).tmps.getD d undef = v:=tmp_eq h
theorem put_sz {x:Act} {d:Nat} {v:Value}:(x.put (some d) v).tmps.size = x.tmps.size:=Array.size_setIfInBounds
end Go.RX
namespace Go.RX
open Go Go.RowKit
variable [Glob]
theorem Sub.ref1 {σ:Sy} {t b:Nat} {xs:List SV} {ys:List DV} (hl:lk σ.env t = .p b 0) (hb:nth σ.bx b = some { frz:=true,xs:=xs }) (hd:allD xs = some ys):Sub σ { σ with env:=(t,.d (.ref ys.length (dget ys))) :: σ.env }:=by
 intro I0 N w0 a w hs Y
 obtain ⟨I,β,τ,h⟩:=hs Y
 refine ⟨I,β,τ,{ h with env:=fun t' => ?_ }⟩
 show MtG _ _ _ _ _ _ (lk ((t,_) :: σ.env) t')
 by_cases e:t = t'
 ·subst e
  rw [lk_same]
  have ht:=(h.env t).un (fun j b y e => by rw [hl] at e;cases e)
  rw [hl] at ht
  refine .m ?_
  obtain ⟨blk,cs,T,g1,g2,g3,g4,g5,g6,g7,g8⟩:=(h.box b _ hb).ex rfl
  generalize a.tmps.getD t undef = v at ht
  cases ht with
  | p hβ =>
   rw [g1] at hβ;cases hβ
   obtain ⟨l1,l2⟩:=allD_ok xs ys hd
   refine .d (.ref (fun j => cs.getD j undef) (g7 rfl) (fun j hj => ?_) (fun j hj => ?_))
   ·rw [Nat.zero_add,cell_of_row w _ j cs T (0,0) g3]
    have hjc:j < cs.size:=by rw [g4,← l1];exact hj
    simp [Array.getD_eq_getD_getElem?,Array.getElem?_eq_getElem hjc]
   ·have hjc:j < cs.size:=by rw [g4,← l1];exact hj
    have hx:=l2 j (dget ys j) (dget_of hj)
    have:=g5 j _ _ (Array.getElem?_eq_getElem hjc) hx
    have hr:=mt_d this
    simpa [Array.getD_eq_getD_getElem?,Array.getElem?_eq_getElem hjc] using hr
 ·rw [lk_cons,if_neg e];exact h.env t'
theorem St.sealt {σ:Sy} {I0:Nat->Prop} {N:Nat} {w0 w:World} {a:Act} (hs:St σ I0 N w0 a w) (t b:Nat) {xs:List SV} {ys:List DV} (hl:lk σ.env t = .p b 0) (hb:nth σ.bx b = some { frz:=false,xs:=xs }) (hd:allD xs = some ys) :
  St { env:=(t,.d (.ref ys.length (dget ys))) :: σ.env,bx:=setN σ.bx b { frz:=true,xs:=xs },tk:=σ.tk } I0 N w0 a w:=by
 have h1:=hs.sub (Sub.frzB hb hd)
 refine h1.sub (Sub.ref1 (σ:={ σ with bx:=setN σ.bx b { frz:=true,xs:=xs } }) hl ?_ hd)
 show nth (setN σ.bx b _) b = _
 rw [nth_setN _ _ _ _ (Nat.le_of_lt (nth_lt hb)),if_pos rfl]
end Go.RX
namespace Go.RX
open Go Go.RowKit
section
theorem It.mk {P:Program} {f:FuncId} {fn:Func} {c:Code} {A xs:List SV} {N:Nat} (hf:P.funcs[f]? = some fn) (hb:fn.body = some c) (hname:(fn.name == "runtime.NumGoroutine") = false) (hN:fn.ntmps = N) (hr:fn.results = #[]) (hn:Nat.ble (A.length + 1) N = true)
  (h:∀ (l:Nat) (Jq Jx:Jt) (hJ:Stab Jq) (hJx:Stab Jx),Rounds P l xs Jq Jx->@OkJ _ (itG (fun _ => False) Jq Jx xs.length #[] [] (fun _ e => by cases e) hJ hJx) P N c { env:=RX.args 0 (.d (.raw (.func (.yield l) #[] #[])) :: A),bx:=[],tk:=[] } (some 0) (fun e _ j => (e = .ret∨e = .normal)/\(j = some xs.length∨j = none))):It P f A xs:=by
 subst hN
 refine ⟨⟨fn,hf,hname,by simp [hb]⟩,fun I w vs l Jq Jx _ hI _ hl hA hJ hJx hR h0 => ?_⟩
 refine calls_of_wp hf hb ?_
 have hst:=St.start (N:=fn.ntmps) (A:=.d (.raw (.func (.yield l) #[] #[])) :: A) (I:=I) (w:=w) (vs:=#[.func (.yield l) #[] #[]] ++ vs) trivial hI (fun b _ e => by cases e) (by simp [hl];omega) (Nat.le_of_ble_eq_true hn) (by
  intro i u s hu hs
  cases i with
  | zero =>
   rw [Array.getElem?_append_left (by simp)] at hu
   simp at hu hs;subst hu;subst hs;exact fun Y => .d (.raw rfl)
  | succ i =>
   refine hA i u s ?_ (by simpa using hs)
   rw [Array.getElem?_append_right (by simp)] at hu
   simpa using hu)
 letI G1:=itG (fun _ => False) Jq Jx xs.length #[] [] (fun _ e => by cases e) hJ hJx
 have hc0:Gst.Cx (self:=G1) (some 0) I w:=⟨hI,fun _ _ h => h,fun _ h => h.elim,trivial,fun i u s hu => by simp at hu,h0⟩
 refine wp_mono ((wpIn_wide (n:=0)).1 (h l Jq Jx hJ hJx hR I w _ w hc0 hst)) ?_
 intro x a' w' hq
 have fin:∀ σ' (j:Option Nat) I1 w1,(j = some xs.length∨j = none)->Gst.Cx (self:=G1) j I1 w1->St σ' I1 fn.ntmps w1 a' w' ->
   a'.defers = []/\∃ v,(results fn a'.tmps).run P w' = .ok v w'/\((∃ v',Ending.returned v = .returned v')/\∃ I' V',(Jq xs.length I' V' w'∨∃ i,i < xs.length/\Jx i I' V' w')):=by
  intro σ' j I1 w1 hj hc1 hs
  have hs2:=hs.only [] trivial
  obtain ⟨I',hs3,hc3,hd,_⟩:=hs2.anew hc1 rfl rfl rfl
  obtain ⟨v,hv⟩:=results_nothing (P:=P) hr a'.tmps w'
  refine ⟨hd,v,hv,⟨v,rfl⟩,?_⟩
  obtain ⟨_,_,_,_,_,q6⟩:=hc3
  rcases hj with rfl | rfl
  ·exact ⟨I',_,.inl q6⟩
  ·exact ⟨I',_,.inr q6⟩
 cases x with
 | ret => obtain ⟨σ',j,I1,w1,h1,h2,h3⟩:=hq;exact fin σ' j I1 w1 h1.2 h2 h3
 | normal => obtain ⟨σ',j,I1,w1,h1,h2,h3⟩:=hq;exact fin σ' j I1 w1 h1.2 h2 h3
 | panic ch => exact hq.elim
 | _ => obtain ⟨σ',j,I1,w1,h1,_⟩:=hq;rcases h1.1 with q | q<;>cases q
end
end Go.RX
namespace Go.RX
open Go Go.RowKit
variable [Glob]
theorem roundU {P:Program} {l:Nat} {G:Gst} {j:G.γ} {X:SV} {g:Bool->G.γ} {us:Array Value} {cs:List SV} (h:∀ I w v,G.Cx j I w->RepS I w v X->YieldAt Fence.wide 0 P l #[v] w (fun e w' => ∃ b I',e = .returned (.bool b)/\Kpt I I' w w'/\G.Cx (g b) I' w')) :
  ∀ I w v,(gsU G us cs).Cx j I w->RepS I w v X->YieldAt Fence.wide 0 P l #[v] w (fun e w' => ∃ b I',e = .returned (.bool b)/\Kpt I I' w w'/\(gsU G us cs).Cx (g b) I' w'):=by
 intro I w v hc hv
 obtain ⟨fn,tmps,assign,body,h1,h2⟩:=h I w v hc.1 hv
 refine ⟨fn,tmps,assign,body,h1,h2.mono (fun e w' hq => ?_)⟩
 obtain ⟨b,I',q1,q2,q3⟩:=hq
 exact ⟨b,I',q1,q2,q3,fun i u s hu hs => (hc.2 i u s hu hs).kept q2⟩
theorem roundF' {P:Program} {l:Nat} {G:Gst} {j:G.γ} {X:SV} {g:Bool->G.γ} {Is:Nat->Prop} {ws:World} (h:∀ I w v,G.Cx j I w->RepS I w v X->YieldAt Fence.wide 0 P l #[v] w (fun e w' => ∃ b I',e = .returned (.bool b)/\Kpt I I' w w'/\G.Cx (g b) I' w')) :
  ∀ I w v,(gsF G Is ws).Cx j I w->RepS I w v X->YieldAt Fence.wide 0 P l #[v] w (fun e w' => ∃ b I',e = .returned (.bool b)/\Kpt I I' w w'/\(gsF G Is ws).Cx (g b) I' w'):=by
 intro I w v hc hv
 obtain ⟨fn,tmps,assign,body,h1,h2⟩:=h I w v hc.1 hv
 refine ⟨fn,tmps,assign,body,h1,h2.mono (fun e w' hq => ?_)⟩
 obtain ⟨b,I',q1,q2,q3⟩:=hq
 exact ⟨b,I',q1,q2,q3,hc.2.trans q2⟩
end Go.RX
namespace Go.RX
open Go Go.RowKit
variable [Glob] [Gst]
theorem OkJ.meet {P:Program} {N:Nat} {x y:Code} {σ:Sy} {j:Gst.γ} (σc:Sy) {K:Exit->Sy->Gst.γ->Prop} (h1:OkJ P N x σ j (thenJ (fun s j' => Sub s σc/\j' = j) K)) (h2:OkJ P N y σc j K):OkJ P N (.seq x y) σ j K :=
 OkJ.seq (OkJ.mono h1 (fun e s j' hk => by
  cases e with
  | normal => obtain ⟨q1,rfl⟩:=hk;exact OkJ.sub q1 h2
  | _ => exact hk))
end Go.RX
