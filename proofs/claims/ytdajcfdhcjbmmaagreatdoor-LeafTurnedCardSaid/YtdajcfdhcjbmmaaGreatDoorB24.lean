/-
  Contracts, part 25. No condition.
-/
import Derived.Test.YtdajcfdhcjbmmaaGreatDoorB23
set_option linter.all false
namespace Go.RX
open Go Go.RowKit
variable [Glob]
structure Kpt (I I':Nat->Prop) (w w':World):Prop where
 size:w.heap.size<=w'.heap.size
 i1:∀ b,I b->I' b
 si:∀ b,I b->w'.heap[b]? = w.heap[b]?
theorem Kpt.refl (I:Nat->Prop) (w:World):Kpt I I w w:=⟨Nat.le_refl _,fun _ h => h,fun _ _ => rfl⟩
theorem Kpt.trans {I I' I'':Nat->Prop} {a b c:World} (h:Kpt I I' a b) (k:Kpt I' I'' b c):Kpt I I'' a c :=
 ⟨Nat.le_trans h.size k.size,fun x hx => k.i1 x (h.i1 x hx),fun x hx => (k.si x (h.i1 x hx)).trans (h.si x hx)⟩
theorem RepS.kept {I I':Nat->Prop} {w w':World} {v:Value} {s:SV} (h:RepS I w v s) (k:Kpt I I' w w'):RepS I' w' v s :=
 fun Y => (h Y).mono k.i1 (fun b hb => k.si b hb) (fun _ _ h => h) (fun _ _ h => h)
class Gst where
 γ:Type
 Cx:γ->(Nat->Prop)->World->Prop
 lt:∀ {j I w},Cx j I w->∀ b,I b->b < w.heap.size
 nm:∀ {j I w},Cx j I w->∀ b,I b->Glob.M ≠ some b
 gl:∀ {j I w},Cx j I w->Glob.G w
 st:∀ {j I I' w w'},Cx j I w->Keep w.heap.size w w'->(∀ b,I b->I' b)->(∀ b,I' b->I b∨(w.heap.size<=b/\b < w'.heap.size))->(∀ b,I' b->Glob.M ≠ some b)->Cx j I' w'
section
variable [Gst] {P : Program} {N : Nat}
def QJ (K:Exit->Sy->Gst.γ->Prop) (N:Nat):Exit->Act->World->Prop:=fun e a w =>
 match e with
 | .panic _ => False
 | e => ∃ σ j I w0,K e σ j/\Gst.Cx j I w0/\St σ I N w0 a w
def OkJ (P:Program) (N:Nat) (c:Code) (σ:Sy) (j:Gst.γ) (K:Exit->Sy->Gst.γ->Prop):Prop :=
 ∀ I w0 a w,Gst.Cx j I w0->St σ I N w0 a w->c.wpIn fen 0 P (QJ K N) a w
def thenJ (K1:Sy->Gst.γ->Prop) (K:Exit->Sy->Gst.γ->Prop):Exit->Sy->Gst.γ->Prop
 | .normal,σ,j => K1 σ j
 | e,σ,j => K e σ j
def blockJ (id:Nat) (K:Exit->Sy->Gst.γ->Prop):Exit->Sy->Gst.γ->Prop
 | .exit id',σ,j => if id' = id then K .normal σ j else K (.exit id') σ j
 | e,σ,j => K e σ j
def noGotoJ (K:Exit->Sy->Gst.γ->Prop):Exit->Sy->Gst.γ->Prop
 | .goto _,_,_ => False
 | e,σ,j => K e σ j
section
variable {σ : Sy} {j : Gst.γ} {K : Exit → Sy → Gst.γ → Prop}
theorem OkJ.walk {c:Code} (h:∀ b:Bas,Ok P N c σ (fun e σ' => K e σ' j) (fun _ => False)):OkJ P N c σ j K:=by
 intro I w0 a w hc hs
 refine wpIn_mono (h ⟨I,w0⟩ a w hs) (fun e a' w' hq => ?_)
 cases e with
 | panic ch => obtain ⟨d,hd,_⟩:=hq;exact hd.elim
 | _ => obtain ⟨σ',h1,h2⟩:=hq;exact ⟨σ',j,I,w0,h1,hc,h2⟩
theorem OkJ.mono {c:Code} {K':Exit->Sy->Gst.γ->Prop} (h:OkJ P N c σ j K) (hk:∀ e σ j,K e σ j->K' e σ j):OkJ P N c σ j K':=by
 intro I w0 a w hc hs
 refine wpIn_mono (h I w0 a w hc hs) (fun e a' w' hq => ?_)
 cases e with
 | panic ch => exact hq
 | _ => obtain ⟨σ',j',I',w0',h1,h2,h3⟩:=hq;exact ⟨σ',j',I',w0',hk _ _ _ h1,h2,h3⟩
theorem OkJ.sub {c:Code} {σ':Sy} (hs:Sub σ σ') (h:OkJ P N c σ' j K):OkJ P N c σ j K:=fun I w0 a w hc hst => h I w0 a w hc (hs _ _ _ _ _ hst)
theorem OkJ.skip (h:K .normal σ j):OkJ P N .skip σ j K:=fun _ _ _ _ hc hs => wpIn_skip ⟨_,_,_,_,h,hc,hs⟩
theorem OkJ.label {l:Nat} (h:K .normal σ j):OkJ P N (.label l) σ j K:=fun _ _ _ _ hc hs => wpIn_label ⟨_,_,_,_,h,hc,hs⟩
theorem OkJ.exit {id:Nat} (h:K (.exit id) σ j):OkJ P N (.exit id) σ j K:=fun _ _ _ _ hc hs => wpIn_exit ⟨_,_,_,_,h,hc,hs⟩
theorem OkJ.ret (h:K .ret σ j):OkJ P N .ret σ j K:=fun _ _ _ _ hc hs => wpIn_ret ⟨_,_,_,_,h,hc,hs⟩
theorem OkJ.seq {x y:Code} (h:OkJ P N x σ j (thenJ (fun σ' j' => OkJ P N y σ' j' K) K)):OkJ P N (.seq x y) σ j K:=by
 intro I w0 a w hc hs
 refine wpIn_seq (wpIn_mono (h I w0 a w hc hs) ?_)
 intro e a' w' hq
 cases e with
 | normal => obtain ⟨σ',j',I',w0',h1,h2,h3⟩:=hq;exact h1 _ _ _ _ h2 h3
 | panic ch => exact hq
 | _ => exact hq
theorem OkJ.first {x y:Code} (h:∀ b:Bas,Ok P N x σ (thenK (fun σ' => OkJ P N y σ' j K) (fun e σ' => K e σ' j)) (fun _ => False)):OkJ P N (.seq x y) σ j K:=by
 refine OkJ.seq (OkJ.walk (fun b => (h b).mono (fun e σ' hk => ?_) (fun _ h => h)))
 cases e<;>exact hk
theorem OkJ.block {id:Nat} {c:Code} (h:OkJ P N c σ j (blockJ id K)):OkJ P N (.block id c) σ j K:=by
 intro I w0 a w hc hs
 refine wpIn_block (wpIn_mono (h I w0 a w hc hs) ?_)
 intro e a' w' hq
 cases e with
 | exit id' =>
  obtain ⟨σ',j',I',w0',h1,h2,h3⟩:=hq
  simp only [Exit.inBlock,blockJ] at h1 ⊢
  split
  ·rw [if_pos (by assumption)] at h1;exact ⟨σ',j',I',w0',h1,h2,h3⟩
  ·rw [if_neg (by assumption)] at h1;exact ⟨σ',j',I',w0',h1,h2,h3⟩
 | _ => exact hq
theorem OkJ.cond {t:Nat} {x y:Code} {b:Bool} (hb:lk σ.env t = .d (.bool b)) (hx:b = true->OkJ P N x σ j K) (hy:b = false->OkJ P N y σ j K):OkJ P N (.cond (.tmp t) x y) σ j K:=by
 intro I w0 a w hc hs
 exact hand_cond hs hb (fun ht => hx ht _ _ _ _ hc hs) (fun ht => hy ht _ _ _ _ hc hs)
theorem OkJ.scope {c:Code} (h:OkJ P N c σ j (noGotoJ K)):OkJ P N (.scope c) σ j K:=by
 intro I w0 a w hc hs
 refine (wpIn_wide (n:=0)).2 (wp_scope_straight (wp_mono ((wpIn_wide (n:=0)).1 (h I w0 a w hc hs)) ?_))
 intro e a' w' hq
 cases e with
 | goto l => obtain ⟨σ',j',I',w0',h1,_⟩:=hq;exact h1
 | _ => exact hq
theorem OkJ.loop {X:Type} (S:X->Sy) (g:X->Gst.γ) (μ:X->Nat) (x:X) {c:Code} (h0:Sub σ (S x)/\j = g x)
  (round:∀ x,OkJ P N c (S x) (g x) (thenJ (fun σ' j' => ∃ x',(Sub σ' (S x')/\j' = g x')/\μ x' < μ x) K)):OkJ P N (.loop c) σ j K:=by
 intro I w0 a w hc hs
 obtain ⟨h0,rfl⟩:=h0
 letI:Bas:=⟨fun _ => True,w0⟩
 refine wpIn_loopX (I:=fun x a w => ∃ I w0,Gst.Cx (g x) I w0/\St (S x) I N w0 a w) μ x ⟨I,w0,hc,h0 _ _ _ _ _ hs⟩ ?_
 rintro x a w ⟨I,w0,hc,hs⟩
 refine wpIn_mono (round x I w0 a w hc hs) ?_
 intro e a' w' hq
 cases e with
 | normal => obtain ⟨σ',j',I',w0',⟨x',⟨h3,rfl⟩,h4⟩,h1,h2⟩:=hq;exact ⟨x',⟨I',w0',h1,h3 _ _ _ _ _ h2⟩,h4⟩
 | _ => exact hq
theorem OkJ.count (n:Nat) (S:Nat->Sy) (g:Nat->Gst.γ) {c:Code} (h0:Sub σ (S 0)/\j = g 0)
  (round:∀ i,i < n->OkJ P N c (S i) (g i) (thenJ (fun σ' j' => Sub σ' (S (i + 1))/\j' = g (i + 1)) K))
  (last:OkJ P N c (S n) (g n) (thenJ (fun _ _ => False) K)):OkJ P N (.loop c) σ j K:=by
 refine OkJ.loop (X:={ i:Nat // i<=n }) (fun x => S x.1) (fun x => g x.1) (fun x => n - x.1) ⟨0,Nat.zero_le _⟩ h0 ?_
 rintro ⟨i,hi⟩
 by_cases h:i < n
 ·refine (round i h).mono (fun e σ' j' hk => ?_)
  cases e with
  | normal => exact ⟨⟨i + 1,h⟩,hk,by simp only;omega⟩
  | _ => exact hk
 ·have e:i = n:=by omega
  subst e
  refine last.mono (fun e σ' j' hk => ?_)
  cases e with
  | normal => exact hk.elim
  | _ => exact hk
def rslV (ops:List Oper) (σ:Sy):SV->SV
 | .gd j b y => if act ops σ 4 (j,b) = some true then ung y else .any
 | x => x
def rsl (ops:List Oper) (σ:Sy):List (Nat×SV)->List (Nat×SV)
 | [] => []
 | (t,v) :: r => (t,rslV ops σ v) :: rsl ops σ r
theorem lk_rsl (ops:List Oper) (σ:Sy):∀ (l:List (Nat×SV)) (t:Nat),lk (rsl ops σ l) t = rslV ops σ (lk l t)
 | [],_ => rfl
 | (k,v) :: r,t => by
  simp only [rsl,lk]
  split
  ·rfl
  ·exact lk_rsl ops σ r t
def tailR (P:Program) (N:Nat) (opsA:Array Oper) (n:Nat) (Q:Exit->Act->World->Prop) (I0:Nat->Prop) (w0:World):Exit->Sy->Prop :=
 fun _ σ' => ∀ a w,St { σ' with env:=rsl (opsA.toList.take n) σ' σ'.env } I0 N w0 a w->wpOpsIn fen 0 P opsA Q (List.range' n (opsA.toList.length - n)) a w
theorem St.rsl {ops:List Oper} {Y:Nat->Option Bool} {σ:Sy} {I0:Nat->Prop} {N:Nat} {w0 w:World} {a:Act} (hY:∀ j b,act ops σ 4 (j,b) = some true->Y j = some b) (h:Inv Y (lk σ.env) (nth σ.bx) (nth σ.tk) I0 N w0 a w):St { σ with env:=RX.rsl ops σ σ.env } I0 N w0 a w:=by
 obtain ⟨I,β,τ,h⟩:=h
 intro Y'
 refine ⟨I,β,τ,{ h with env:=fun t => ?_,box:=fun k c hk => ?_ }⟩
 ·show MtG _ _ _ _ _ _ (lk (RX.rsl ops σ σ.env) t)
  rw [lk_rsl]
  have ht:=h.env t
  generalize a.tmps.getD t undef = v at ht ⊢
  generalize lk σ.env t = s at ht ⊢
  cases ht with
  | m hm =>
   have e:rslV ops σ s = s:=by cases s<;>first | rfl | cases hm
   rw [e];exact .m (hm.anyY Y')
  | @gdT j b x v h1 hm =>
   show MtG _ _ _ _ _ _ (if act ops σ 4 (j,b) = some true then ung x else .any)
   by_cases ha:act ops σ 4 (j,b) = some true
   ·rw [if_pos ha];exact .m ((ung_ok hm).anyY Y')
   ·rw [if_neg ha];exact .m .any
  | @gdF j b x h1 =>
   show MtG _ _ _ _ _ _ (if act ops σ 4 (j,b) = some true then ung x else .any)
   by_cases ha:act ops σ 4 (j,b) = some true
   ·exact absurd (hY _ _ ha) h1
   ·rw [if_neg ha];exact .m .any
 ·exact (h.box k c hk).mono (fun _ h => h) (fun _ _ _ => rfl) (fun _ _ hx => hx.anyY Y') (fun _ _ _ => ⟨fun h => h,fun h => h⟩)
theorem OkJ.tail {opsA:Array Oper} {id:Nat} {dr:Bool} (n:Nat) (hm:P.follows .mixedOrders = true) (hst:regOK N (opsA.toList.take n) = true) (hn:Nat.ble n opsA.toList.length = true) (ht:(!dr || tailOK opsA.toList n) = true)
  (hr:∀ I w0,Gst.Cx j I w0->rgn P (opsA.toList.take n) (fun lg => @KOt ⟨dr,opsA.toList.take n,lg⟩) (fun _ => False) (opsA.toList.take n) σ [] (fun σ' => @EndW σ' ⟨.normal,tailR P N opsA n (QJ K N) I w0⟩)):OkJ P N (.region id opsA dr) σ j K:=by
 intro I w0 a w hc hs
 have hn:=Nat.le_of_ble_eq_true hn
 refine region_tail (Kp:=fun _ => False) n hm hst hn ht (fun d _ _ _ hd => hd.elim) (K:=fun σ' => @EndW σ' ⟨.normal,tailR P N opsA n (QJ K N) I w0⟩) ?_ hs (fun σ' hk Y a w hY hq => hk a w (St.rsl hY hq))
 have e:(fun lg => dr = true->ordOK (opsA.toList.take n) lg = true) = (fun lg => @KOt ⟨dr,opsA.toList.take n,lg⟩):=by funext lg;cases dr<;>simp [KOt]
 rw [e];exact hr I w0 hc
end
end
section
variable [Gst] {P : Program} {N : Nat} {σ : Sy} {I : Nat → Prop} {w0 w : World} {a : Act} {Q : Exit → Act → World → Prop}
end
section
variable {P : Program} {N : Nat} {σ : Sy} {I : Nat → Prop} {w0 w : World} {a : Act} {Q : Exit → Act → World → Prop}
theorem St.reps (hs:St σ I N w a w) (hbx:σ.bx = []) (htk:σ.tk = []) (hg:noGd σ.env = true) (t:Nat):RepS I w (a.tmps.getD t undef) (lk σ.env t):=by
 intro Y
 obtain ⟨I1,β,τ,hx⟩:=hs Y
 have hβ:∀ k,β k = none:=fun k => hx.bn k (by rw [hbx];rfl)
 have hτ:∀ k,τ k = none:=fun k => hx.kn k (by rw [htk];rfl)
 have:=(hx.env t).un (noGd_lk hg t)
 refine this.mono (fun b hb => ?_) (fun _ _ => rfl) (fun k b hk => by rw [hβ] at hk;cases hk) (fun k v hk => by rw [hτ] at hk;cases hk)
 rcases hx.i0 b hb with q | q
 ·exact q
 ·have:=hx.hI b hb;omega
end
section
variable [Gst] {P : Program} {N : Nat} {σ : Sy} {I : Nat → Prop} {w0 w : World} {a : Act} {Q : Exit → Act → World → Prop}
theorem St.anew {j:Gst.γ} (hc:Gst.Cx j I w0) (hs:St σ I N w0 a w) (hbx:σ.bx = []) (htk:σ.tk = []) (hg:noGd σ.env = true) :
  ∃ I',St σ I' N w a w/\Gst.Cx j I' w/\a.defers = []/\Kpt I I' w0 w:=by
 obtain ⟨I',h1,h2,h3,h4,h5,h6,h7,h8⟩:=hs.rebase hbx htk hg (Gst.lt hc)
 exact ⟨I',h1,Gst.st hc h6 h2 h3 h5,h8,⟨h6.size,h2,fun b hb => h6.block b (Gst.lt hc b hb) (Gst.nm hc b hb)⟩⟩
theorem St.after {j:Gst.γ} {I':Nat->Prop} {w':World} (hs:St σ I N w a w) (hbx:σ.bx = []) (htk:σ.tk = []) (hg:noGd σ.env = true) (hk:Kpt I I' w w') (hc:Gst.Cx j I' w') {d:Nat} (hd:d < N) {v:Value} {V:SV} (hv:RepS I' w' v V) :
  St { env:=(d,V) :: σ.env,bx:=[],tk:=[] } I' N w' (a.put (some d) v) w':=by
 obtain ⟨I1,β,τ,hx⟩:=hs (fun _ => none)
 refine St.data (β:=fun _ => none) (τ:=fun _ => none) (Y:=fun _ => none) (by show (a.tmps.setIfInBounds d v).size = N;rw [Array.size_setIfInBounds];exact hx.sz) (by exact hx.df) (Gst.lt hc) (Gst.nm hc) (Gst.gl hc) (fun t => .inr ?_)
 by_cases e:d = t
 ·subst e
  rw [lk_same]
  have:(a.put (some d) v).tmps.getD d undef = v:=by
   show (a.tmps.setIfInBounds d v).getD d undef = v
   rw [Array.getD_eq_getD_getElem?,Array.getElem?_setIfInBounds_self_of_lt (by rw [hx.sz];exact hd)];rfl
  rw [this];exact hv
 ·rw [lk_cons,if_neg e]
  have:(a.put (some d) v).tmps.getD t undef = a.tmps.getD t undef:=by
   show (a.tmps.setIfInBounds d v).getD t undef = _
   rw [Array.getD_eq_getD_getElem?,Array.getD_eq_getD_getElem?,Array.getElem?_setIfInBounds_ne e]
  rw [this]
  exact (hs.reps hbx htk hg t).kept hk
end
section
variable {P : Program} {N : Nat} {σ : Sy} {I : Nat → Prop} {w0 w : World} {a : Act} {Q : Exit → Act → World → Prop}
theorem run_callYield {ρ:Operand->Value} {o:Oper} {f x:Operand} {ts:Array TypeId} {l:Nat} {v:Value} (ho:o.op = .call ⟨.value f,#[x],ts⟩) (hf:ρ f = .func (.yield l) #[] #[]) (hx:ρ x = v) {r:Result Next} (hr:(Instr.yield l #[v]).run P w = r):(execOp ρ o).run P w = r:=by
 subst hx
 simp only [execOp,ho,resolve,hf]
 simp [go_sem,invoke]
 exact hr
end
section
variable [Gst] {P : Program} {N : Nat} {σ : Sy} {I : Nat → Prop} {w0 w : World} {a : Act} {Q : Exit → Act → World → Prop}
theorem hook_yield {j:Gst.γ} {o:Oper} {f x d l:Nat} {ts:Array TypeId} {X:SV} {next:Act->World->Prop} (hc:Gst.Cx j I w0) (hs:St σ I N w0 a w) (hbx:σ.bx = []) (htk:σ.tk = []) (hg:noGd σ.env = true)
  (ho:o.op = .call ⟨.value (.tmp f),#[.tmp x],ts⟩) (hd:o.dst = some d) (hdN:d < N) (hf:lk σ.env f = .d (.raw (.func (.yield l) #[] #[]))) (hx:lk σ.env x = X) (g:Bool->Gst.γ)
  (hround:∀ I w v,Gst.Cx j I w->RepS I w v X->YieldAt Fence.wide 0 P l #[v] w (fun e w' => ∃ b I',e = .returned (.bool b)/\Kpt I I' w w'/\Gst.Cx (g b) I' w'))
  (hnext:∀ b I' a' w',Gst.Cx (g b) I' w'->St { env:=(d,.d (.bool b)) :: σ.env,bx:=[],tk:=[] } I' N w' a' w'->next a' w'):o.wpIn fen 0 P a w next Q:=by
 obtain ⟨I1,hs1,hc1,_,_⟩:=hs.anew hc hbx htk hg
 have hfv:a.tmps.getD f undef = .func (.yield l) #[] #[]:=hs1.raw hf
 have hxv:=hs1.reps hbx htk hg x
 rw [hx] at hxv
 obtain ⟨fn,tmps,assign,body,hr,hround⟩:=hround I1 w _ hc1 hxv
 refine ⟨fun _ _ => trivial,?_⟩
 rw [Oper.semAt_plain fen a.eval o (fun c e => by rw [ho] at e;cases e),run_callYield (P:=P) ho (by exact hfv) (by rfl) hr]
 refine ⟨fun h => (by cases h),hround.mono (fun e w' he => ?_)⟩
 obtain ⟨b,I',rfl,hk,hc'⟩:=he
 show next (a.put o.dst (.bool b)) w'
 rw [hd]
 exact hnext b I' _ w' hc' (hs1.after hbx htk hg hk hc' hdN (fun Y => .d .bool))
def CalJ (P:Program) (g:FuncId) (us:Array Value) (A:List SV) (j:Gst.γ) (k:Bool->Gst.γ):Prop :=
 (∃ fn,P.funcs[g]? = some fn/\(fn.name == "runtime.NumGoroutine") = false/\fn.body.isNone = false) /\
 ∀ I w vs,Gst.Cx j I w->vs.size = A.length->(∀ (i:Nat) (u:Value) (s:SV),vs[i]? = some u->A[i]? = some s->RepS I w u s) ->
  Calls P g (vs ++ us) w (fun e w' => ∃ b I',e = .returned (.bool b)/\Kpt I I' w w'/\Gst.Cx (k b) I' w')
end
section
variable {P : Program} {N : Nat} {σ : Sy} {I : Nat → Prop} {w0 w : World} {a : Act} {Q : Exit → Act → World → Prop}
theorem run_callClo {ρ:Operand->Value} {o:Oper} {f:Operand} {xs:Array Operand} {ts:Array TypeId} {g:FuncId} {us:Array Value} {w:World} (ho:o.op = .call ⟨.value f,xs,ts⟩) (hf:ρ f = .func (.func g) #[] us) {fn:Func} (hfn:P.funcs[g]? = some fn) (hn:(fn.name == "runtime.NumGoroutine") = false) (hb:fn.body.isNone = false):(execOp ρ o).run P w = .ok (.enter g (xs.map ρ ++ us)) w:=by
 have hn':¬ (fn.name = "runtime.NumGoroutine"):=by simpa using hn
 cases hbd:fn.body with
 | none => rw [hbd] at hb;cases hb
 | some c =>
  simp only [execOp,ho,resolve,hf]
  simp [go_sem,invoke,callFunc,hfn,hn',hbd]
end
section
variable [Gst] {P : Program} {N : Nat} {σ : Sy} {I : Nat → Prop} {w0 w : World} {a : Act} {Q : Exit → Act → World → Prop}
end
section
variable {P : Program} {N : Nat} {σ : Sy} {I : Nat → Prop} {w0 w : World} {a : Act} {Q : Exit → Act → World → Prop}
theorem run_callFn {a:Act} {o:Oper} {xs:Array Operand} {ts:Array TypeId} {g:FuncId} {vs:Array Value} {w:World} (ho:o.op = .call ⟨.value (.func g),xs,ts⟩) {fn:Func} (hfn:P.funcs[g]? = some fn) (hn:(fn.name == "runtime.NumGoroutine") = false) (hb:fn.body.isNone = false) (hx:xs.map a.eval = vs):(execOp a.eval o).run P w = .ok (.enter g vs) w:=by
 subst hx
 have:=run_callClo (P:=P) (w:=w) (ρ:=a.eval) (us:=#[]) ho rfl hfn hn hb
 rw [this];simp
end
section
variable [Gst] {P : Program} {N : Nat} {σ : Sy} {I : Nat → Prop} {w0 w : World} {a : Act} {Q : Exit → Act → World → Prop}
end
section
variable {P : Program} {N : Nat} {σ : Sy} {I : Nat → Prop} {w0 w : World} {a : Act} {Q : Exit → Act → World → Prop}
theorem tail_callFn [Rnd] {opsA:Array Oper} {m k:Nat} {dst:Option Tmp} {ty:TypeId} {pos:String} {af:Array Edge} {xs:Array Operand} {ts:Array TypeId} {g:FuncId} {vs:Array Value} {a:Act} {w:World} {Q:Exit->Act->World->Prop} {fn:Func}
  (ho:opsA[m]? = some { dst:=dst,op:=.call ⟨.value (.func g),xs,ts⟩,type:=ty,pos:=pos,after:=af,guard:=none }) (hfn:P.funcs[g]? = some fn) (hn:(fn.name == "runtime.NumGoroutine") = false) (hb:fn.body.isNone = false) (hx:xs.map a.eval = vs)
  {R:Ending->World->Prop} (hc:Calls P g vs w R) (hnext:∀ e w',R e w'->∃ v,e = .returned v/\wpOpsIn fen 0 P opsA Q (List.range' (m + 1) k) (a.put dst v) w'):wpOpsIn fen 0 P opsA Q (List.range' m (k + 1)) a w:=by
 refine tail_in ho ⟨fun _ _ => trivial,?_⟩
 rw [Oper.semAt_plain fen a.eval _ (fun c e => by cases e),run_callFn (P:=P) rfl hfn hn hb hx,Oper.uponIn_enter]
 refine ⟨fun h => (by cases h),callsIn_fen.2 (hc.mono fun e w' hq => ?_)⟩
 obtain ⟨v,rfl,h⟩:=hnext e w' hq
 exact h
end
section
variable [Gst] {P : Program} {N : Nat} {σ : Sy} {I : Nat → Prop} {w0 w : World} {a : Act} {Q : Exit → Act → World → Prop}
theorem hook_recG {j:Gst.γ} {o:Oper} {f d:Nat} {args:Array Operand} {ts:Array TypeId} {g:FuncId} {us:Array Value} {A:List SV} {k:Bool->Gst.γ} {next:Act->World->Prop} (hc:Gst.Cx j I w0) (hs:St σ I N w0 a w) (hbx:σ.bx = []) (htk:σ.tk = []) (hg:noGd σ.env = true)
  (ho:o.op = .call ⟨.value (.tmp f),args,ts⟩) (hd:o.dst = some d) (hdN:d < N) (hf:lk σ.env f = .d (.raw (.func (.func g) #[] us))) (hl:args.size = A.length)
  (hx:∀ I1,St σ I1 N w a w->∀ (i:Nat) (u:Value) (s:SV),(args.map a.eval)[i]? = some u->A[i]? = some s->RepS I1 w u s)
  (hrec:CalJ P g us A j k)
  (hnext:∀ b I' a' w',Gst.Cx (k b) I' w'->St { env:=(d,.d (.bool b)) :: σ.env,bx:=[],tk:=[] } I' N w' a' w'->next a' w'):o.wpIn fen 0 P a w next Q:=by
 obtain ⟨I1,hs1,hc1,_,_⟩:=hs.anew hc hbx htk hg
 have hfv:a.tmps.getD f undef = .func (.func g) #[] us:=hs1.raw hf
 obtain ⟨⟨fn,h1,h2,h3⟩,hrec⟩:=hrec
 refine ⟨fun _ _ => trivial,?_⟩
 rw [Oper.semAt_plain fen a.eval o (fun c e => by rw [ho] at e;cases e),run_callClo (P:=P) ho (by exact hfv) h1 h2 h3,Oper.uponIn_enter]
 refine ⟨fun h => (by cases h),callsIn_fen.2 ((hrec I1 w (args.map a.eval) hc1 (by simpa using hl) (hx I1 hs1)).mono (fun e w' he => ?_))⟩
 obtain ⟨b,I',rfl,hk,hc'⟩:=he
 show next (a.put o.dst (.bool b)) w'
 rw [hd]
 exact hnext b I' _ w' hc' (hs1.after hbx htk hg hk hc' hdN (fun Y => .d .bool))
theorem hook_recS {j:Gst.γ} {o:Oper} {d:Nat} {args:Array Operand} {ts:Array TypeId} {g:FuncId} {A:List SV} {k:Bool->Gst.γ} {next:Act->World->Prop} (hc:Gst.Cx j I w0) (hs:St σ I N w0 a w) (hbx:σ.bx = []) (htk:σ.tk = []) (hg:noGd σ.env = true)
  (ho:o.op = .call ⟨.value (.func g),args,ts⟩) (hd:o.dst = some d) (hdN:d < N) (hl:args.size = A.length)
  (hx:∀ I1,St σ I1 N w a w->∀ (i:Nat) (u:Value) (s:SV),(args.map a.eval)[i]? = some u->A[i]? = some s->RepS I1 w u s)
  (hrec:CalJ P g #[] A j k)
  (hnext:∀ b I' a' w',Gst.Cx (k b) I' w'->St { env:=(d,.d (.bool b)) :: σ.env,bx:=[],tk:=[] } I' N w' a' w'->next a' w'):o.wpIn fen 0 P a w next Q:=by
 obtain ⟨I1,hs1,hc1,_,_⟩:=hs.anew hc hbx htk hg
 obtain ⟨⟨fn,h1,h2,h3⟩,hrec⟩:=hrec
 refine ⟨fun _ _ => trivial,?_⟩
 rw [Oper.semAt_plain fen a.eval o (fun c e => by rw [ho] at e;cases e),run_callFn (P:=P) ho h1 h2 h3 rfl,Oper.uponIn_enter]
 have hr:=hrec I1 w (args.map a.eval) hc1 (by simpa using hl) (hx I1 hs1)
 rw [Array.append_empty] at hr
 refine ⟨fun h => (by cases h),callsIn_fen.2 (hr.mono (fun e w' he => ?_))⟩
 obtain ⟨b,I',rfl,hk,hc'⟩:=he
 show next (a.put o.dst (.bool b)) w'
 rw [hd]
 exact hnext b I' _ w' hc' (hs1.after hbx htk hg hk hc' hdN (fun Y => .d .bool))
theorem hook_rec {j:Gst.γ} {o:Oper} {f d:Nat} {xs:List Nat} {ts:Array TypeId} {g:FuncId} {us:Array Value} {A:List SV} {k:Bool->Gst.γ} {next:Act->World->Prop} (hc:Gst.Cx j I w0) (hs:St σ I N w0 a w) (hbx:σ.bx = []) (htk:σ.tk = []) (hg:noGd σ.env = true)
  (ho:o.op = .call ⟨.value (.tmp f),⟨xs.map .tmp⟩,ts⟩) (hd:o.dst = some d) (hdN:d < N) (hf:lk σ.env f = .d (.raw (.func (.func g) #[] us))) (hx:xs.map (lk σ.env) = A)
  (hrec:CalJ P g us A j k)
  (hnext:∀ b I' a' w',Gst.Cx (k b) I' w'->St { env:=(d,.d (.bool b)) :: σ.env,bx:=[],tk:=[] } I' N w' a' w'->next a' w'):o.wpIn fen 0 P a w next Q:=by
 refine hook_recG hc hs hbx htk hg ho hd hdN hf (by rw [← hx];simp) (fun I1 hs1 i u s hu hsj => ?_) hrec hnext
 rw [← hx] at hsj
 rw [Array.getElem?_map] at hu
 rw [List.getElem?_map] at hsj
 have e:(⟨xs.map Operand.tmp⟩:Array Operand)[i]? = (xs[i]?).map Operand.tmp:=by simp
 rw [e] at hu
 cases hq:xs[i]? with
 | none => rw [hq] at hu;cases hu
 | some t =>
  rw [hq] at hu hsj
  cases hu;cases hsj
  exact hs1.reps hbx htk hg t
end
abbrev gsF (G:Gst) (Is:Nat->Prop) (ws:World):Gst where
 γ:=G.γ
 Cx j I w:=G.Cx j I w/\Kpt Is I ws w
 lt h:=G.lt h.1
 nm h:=G.nm h.1
 gl h:=G.gl h.1
 st h hk h1 h2 h3:=⟨G.st h.1 hk h1 h2 h3,h.2.trans ⟨hk.size,h1,fun b hb => hk.block b (G.lt h.1 b hb) (G.nm h.1 b hb)⟩⟩
theorem CalJ.from [G:Gst] {P:Program} {g:FuncId} {us:Array Value} {A:List SV} {j:Gst.γ} {k:Bool->Gst.γ} (h:CalJ P g us A j k) {Is:Nat->Prop} {ws:World}:@CalJ _ (gsF G Is ws) P g us A j k :=
 ⟨h.1,fun I w vs hc hl hA => (h.2 I w vs hc.1 hl hA).mono fun e w' hq => by
  obtain ⟨b,I',h1,h2,h3⟩:=hq
  exact ⟨b,I',h1,h2,h3,hc.2.trans h2⟩⟩
theorem CalJ.mk [G:Gst] {P:Program} {g:FuncId} {us:Array Value} {A cs:List SV} {j:Gst.γ} {k:Bool->Gst.γ} {fn:Func} {c:Code} {N t:Nat} (hf:P.funcs[g]? = some fn) (hb:fn.body = some c) (hname:(fn.name == "runtime.NumGoroutine") = false) (hN:fn.ntmps = N) (hr:fn.results = #[.tmp t]) (hn:Nat.ble (A.length + cs.length) N = true) (hus:us.size = cs.length)
  (hcs:∀ {j:Gst.γ} {I w},Gst.Cx j I w->∀ (i:Nat) u s,us[i]? = some u->cs[i]? = some s->RepS I w u s)
  (h:∀ Is ws,@OkJ _ (gsF G Is ws) P N c { env:=args 0 (A ++ cs),bx:=[],tk:=[] } j (fun e σ j' => (e = .ret∨e = .normal)/\∃ b,lk σ.env t = .d (.bool b)/\j' = k b)):CalJ P g us A j k:=by
 subst hN
 refine ⟨⟨fn,hf,hname,by simp [hb]⟩,fun I w vs hc hl hA => ?_⟩
 refine calls_of_wp hf hb ?_
 have hst:=St.start (N:=fn.ntmps) (A:=A ++ cs) (I:=I) (w:=w) (vs:=vs ++ us) (Gst.gl hc) (Gst.lt hc) (Gst.nm hc) (by simp [hl,hus]) (by rw [List.length_append];exact Nat.le_of_ble_eq_true hn) (by
  intro i u s hu hs
  rw [Array.getElem?_append] at hu
  rw [List.getElem?_append] at hs
  by_cases q:i < A.length
  ·rw [if_pos (by omega)] at hu
   rw [if_pos q] at hs
   exact hA i u s hu hs
  ·rw [if_neg (by omega)] at hu
   rw [if_neg q] at hs
   rw [hl] at hu
   exact hcs hc _ u s hu hs)
 refine wp_mono ((wpIn_wide (n:=0)).1 (h I w I w _ w ⟨hc,Kpt.refl I w⟩ hst)) ?_
 intro x a' w' hq
 have fin:∀ σ' (j':Gst.γ) I1 w1,(∃ b,lk σ'.env t = .d (.bool b)/\j' = k b)->(Gst.Cx j' I1 w1/\Kpt I I1 w w1)->St σ' I1 fn.ntmps w1 a' w' ->
   a'.defers = []/\∃ v,(results fn a'.tmps).run P w' = .ok v w'/\∃ b I',Ending.returned v = .returned (.bool b)/\Kpt I I' w w'/\Gst.Cx (k b) I' w':=by
  rintro σ' j' I1 w1 ⟨b,hb,rfl⟩ ⟨hc1,hk1⟩ hs
  have hs2:=(Sub.of (σ':={ env:=[(t,.d (.bool b))],bx:=[],tk:=[] }) [] [] trivial trivial ⟨by rw [hb];exact DEq.refl _,trivial⟩ rfl rfl:Sub σ' _) _ _ _ _ _ hs
  obtain ⟨I',hs3,hc3,hd,hk3⟩:=hs2.anew hc1 rfl rfl rfl
  have hv:=hs3.bool (t:=t) (by rw [lk_same])
  exact ⟨hd,_,results_tmp hr _ _ _,b,I',by rw [hv],hk1.trans hk3,hc3⟩
 cases x with
 | ret => obtain ⟨σ',j',I1,w1,h1,h2,h3⟩:=hq;exact fin σ' j' I1 w1 h1.2 h2 h3
 | normal => obtain ⟨σ',j',I1,w1,h1,h2,h3⟩:=hq;exact fin σ' j' I1 w1 h1.2 h2 h3
 | panic ch => exact hq.elim
 | _ => obtain ⟨σ',j',I1,w1,h1,_⟩:=hq;rcases h1.1 with q | q<;>cases q
abbrev itG (V:Nat->Prop) (J Jx:Jt) (n:Nat) (us:Array Value) (cs:List SV) (hV:∀ b,Glob.M = some b->V b) (hJ:Stab J) (hJx:Stab Jx):Gst where
 γ:=Option Nat
 Cx j I w:=(∀ b,I b->b < w.heap.size)/\(∀ b,I b->¬ V b)/\(∀ b,V b->b < w.heap.size)/\Glob.G w/\(∀ (i:Nat) u s,us[i]? = some u->cs[i]? = some s->RepS I w u s) /\
  (match j with | some i => J i I V w | none => ∃ i,i < n/\Jx i I V w)
 lt h:=h.1
 nm h b hb e:=h.2.1 b hb (hV b e)
 gl h:=h.2.2.2.1
 st:=by
  intro j I I' w w' h hk h1 h2 h3
  obtain ⟨a1,a2,a3,a4,a5,a6⟩:=h
  have hd:∀ b,I' b->¬ V b:=fun b hb hv => by
   rcases h2 b hb with q | q
   ·exact a2 b q hv
   ·have:=a3 b hv;omega
  have he:Ext I I' V V w w':=⟨hk.os,hk.tape,hk.output,hk.size,fun k hk' hv => hk.block k hk' (fun e => hv (hV k e)),h1,h2,fun _ h => h,fun _ h => .inl h,hd⟩
  refine ⟨fun b hb => ?_,hd,fun b hb => Nat.lt_of_lt_of_le (a3 b hb) hk.size,hk.gl a4,fun i u s hu hs => (a5 i u s hu hs).kept ⟨hk.size,h1,fun b hb => hk.block b (a1 b hb) (fun e => a2 b hb (hV b e))⟩,?_⟩
  ·rcases h2 b hb with q | q
   ·have:=a1 b q;have:=hk.size;omega
   ·omega
  ·cases j with
   | some i => exact hJ _ _ _ _ _ _ _ a6 he
   | none => obtain ⟨i,hi,hx⟩:=a6;exact ⟨i,hi,hJx _ _ _ _ _ _ _ hx he⟩
abbrev gsU (G:Gst) (us:Array Value) (cs:List SV):Gst where
 γ:=G.γ
 Cx j I w:=G.Cx j I w/\∀ (i:Nat) u s,us[i]? = some u->cs[i]? = some s->RepS I w u s
 lt h:=G.lt h.1
 nm h:=G.nm h.1
 gl h:=G.gl h.1
 st h hk h1 h2 h3:=⟨G.st h.1 hk h1 h2 h3,fun i u s hu hs => (h.2 i u s hu hs).kept ⟨hk.size,h1,fun b hb => hk.block b (G.lt h.1 b hb) (G.nm h.1 b hb)⟩⟩
theorem CalJ.withU [G:Gst] {P:Program} {g:FuncId} {vs:Array Value} {A:List SV} {j:Gst.γ} {k:Bool->Gst.γ} (h:CalJ P g vs A j k) {us:Array Value} {cs:List SV}:@CalJ _ (gsU G us cs) P g vs A j k :=
 ⟨h.1,fun I w vs hc hl hA => (h.2 I w vs hc.1 hl hA).mono fun e w' hq => by
  obtain ⟨b,I',h1,h2,h3⟩:=hq
  exact ⟨b,I',h1,h2,h3,fun i u s hu hs => (hc.2 i u s hu hs).kept h2⟩⟩
theorem round_it {P:Program} {l:Nat} {xs:List SV} {V:Nat->Prop} {J Jx:Jt} {us:Array Value} {cs:List SV} {hV:∀ b,Glob.M = some b->V b} {hJ:Stab J} {hJx:Stab Jx} (hR:@Rounds g0 P l xs J Jx)
  (hG:∀ w w':World,Glob.G w->w.heap.size<=w'.heap.size->w'.os = w.os->w'.tape = w.tape->w'.output = w.output->(∀ b,V b->w'.heap[b]? = w.heap[b]?)->Glob.G w') {i:Nat} (hi:i < xs.length) {X:SV} (hX:xs.getD i .any = X)
  {I:Nat->Prop} {w:World} {v:Value} (hc:(itG V J Jx xs.length us cs hV hJ hJx).Cx (some i) I w) (hv:RepS I w v X) :
  YieldAt Fence.wide 0 P l #[v] w (fun e w' => ∃ b I',e = .returned (.bool b)/\Kpt I I' w w'/\(itG V J Jx xs.length us cs hV hJ hJx).Cx (if b = true then some (i + 1) else none) I' w'):=by
 obtain ⟨a1,a2,a3,a4,a5,a6⟩:=hc
 obtain ⟨fn,tmps,assign,body,h1,h2⟩:=hR i I V w v hi a6 trivial a1 (fun b _ e => by cases e) a2 (by rw [hX];exact hv)
 refine ⟨fn,tmps,assign,body,h1,h2.mono (fun e w' hq => ?_)⟩
 obtain ⟨I',hy,hq⟩:=hq
 cases hy with
 | mk y1 y2 y3 y4 y5 y6 y7 y8 y9 y10 y11 y12 =>
 have hk:Kpt I I' w w':=⟨y4,y5,y9⟩
 have hh:(∀ b,I' b->b < w'.heap.size)/\(∀ b,I' b->¬ V b)/\(∀ b,V b->b < w'.heap.size)/\Glob.G w'/\(∀ (i:Nat) u s,us[i]? = some u->cs[i]? = some s->RepS I' w' u s) :=
  ⟨y7,y11,fun b hb => Nat.lt_of_lt_of_le (a3 b hb) y4,hG w w' a4 y4 y1 y2 y3 y10,fun i u s hu hs => (a5 i u s hu hs).kept hk⟩
 obtain ⟨b1,b2,b3,b4,b5⟩:=hh
 rcases hq with ⟨rfl,hj⟩ | ⟨rfl,hj⟩
 ·exact ⟨true,I',rfl,hk,b1,b2,b3,b4,b5,hj⟩
 ·exact ⟨false,I',rfl,hk,b1,b2,b3,b4,b5,i,hi,hj⟩
theorem round_itF {P:Program} {l:Nat} {xs:List SV} {V:Nat->Prop} {J Jx:Jt} {us:Array Value} {cs:List SV} {hV:∀ b,Glob.M = some b->V b} {hJ:Stab J} {hJx:Stab Jx} (hR:@Rounds g0 P l xs J Jx)
  (hG:∀ w w':World,Glob.G w->w.heap.size<=w'.heap.size->w'.os = w.os->w'.tape = w.tape->w'.output = w.output->(∀ b,V b->w'.heap[b]? = w.heap[b]?)->Glob.G w') {i:Nat} (hi:i < xs.length) {X:SV} (hX:xs.getD i .any = X) (Is:Nat->Prop) (ws:World) :
  ∀ (I:Nat->Prop) (w:World) (v:Value),(gsF (itG V J Jx xs.length us cs hV hJ hJx) Is ws).Cx (some i) I w->RepS I w v X ->
  YieldAt Fence.wide 0 P l #[v] w (fun e w' => ∃ b I',e = .returned (.bool b)/\Kpt I I' w w'/\(gsF (itG V J Jx xs.length us cs hV hJ hJx) Is ws).Cx (if b = true then some (i + 1) else none) I' w'):=by
 intro I w v hc hv
 obtain ⟨fn,tmps,assign,body,h1,h2⟩:=round_it (P:=P) hR hG hi hX hc.1 hv
 refine ⟨fn,tmps,assign,body,h1,h2.mono (fun e w' hq => ?_)⟩
 obtain ⟨b,I',q1,q2,q3⟩:=hq
 exact ⟨b,I',q1,q2,q3,hc.2.trans q2⟩
theorem run_pick {P:Program} {ρ:Operand->Value} {o:Oper} {c x y:Operand} {b:Bool} {w:World} (ho:o.op = .pick c x y) (hc:ρ c = .bool b):(execOp ρ o).run P w = .ok (.value (if b = true then ρ x else ρ y)) w:=by
 simp only [execOp,ho,hc]
 cases b<;>simp [go_sem]
theorem run_pickT {P:Program} {ρ:Operand->Value} {o:Oper} {c x y:Operand} {v:Value} {w:World} (ho:o.op = .pick c x y) (hc:ρ c = .bool true) (hv:ρ x = v):(execOp ρ o).run P w = .ok (.value v) w:=by
 rw [run_pick ho hc,if_pos rfl,hv]
theorem run_mkf {P:Program} {ρ:Operand->Value} {o:Oper} {g:FuncId} {caps:Array Operand} {us:Array Value} {w:World} (ho:o.op = .makeFunc (.func g) #[] caps) (hc:caps.map ρ = us):(execOp ρ o).run P w = .ok (.value (.func (.func g) #[] us)) w:=by
 subst hc
 simp [execOp,ho,Instr.makeFunc]
theorem results_nothing {P:Program} {fn:Func} (h:fn.results = #[]) (tmps:Array Value) (w:World):∃ v,(results fn tmps).run P w = .ok v w:=by
 refine ⟨.tuple #[],?_⟩
 simp [results,h]
theorem run_not {P:Program} {ρ:Operand->Value} {o:Oper} {x:Operand} {t:TypeId} {b:Bool} {w:World} (ho:o.op = .unOp .not t x) (hc:ρ x = .bool b):(execOp ρ o).run P w = .ok (.value (.bool (!b))) w:=by
 simp only [execOp,ho,hc]
 simp [go_sem,Op.unary]
theorem St.sub {σ σ':Sy} {I0:Nat->Prop} {N:Nat} {w0 w:World} {a:Act} (hs:St σ I0 N w0 a w) (h:Sub σ σ'):St σ' I0 N w0 a w:=h _ _ _ _ _ hs
theorem St.frz {σ:Sy} {I0:Nat->Prop} {N:Nat} {w0 w:World} {a:Act} (hs:St σ I0 N w0 a w) (i:Nat) {e k n:Nat} {g:Nat->Nat->DV} (hi:nth σ.tk i = some (.own e k n g)):St { σ with tk:=setN σ.tk i (.frz k n g) } I0 N w0 a w:=hs.sub (Sub.frz hi)
theorem St.only {σ:Sy} {I0:Nat->Prop} {N:Nat} {w0 w:World} {a:Act} (hs:St σ I0 N w0 a w) (env:List (Nat×SV)) (hE:subE σ [] [] env):St { env:=env,bx:=[],tk:=[] } I0 N w0 a w:=hs.sub (Sub.of [] [] trivial trivial hE rfl rfl)
theorem St.store1 {P:Program} {σ:Sy} {I0:Nat->Prop} {N:Nat} {w0 w:World} {a:Act} (hs:St σ I0 N w0 a w) {o:Oper} {t:TypeId} {tx ty b:Nat} {c:BC} {v:Value} (ho:o.op = .store t (.tmp tx) (.tmp ty)) (hx:lk σ.env tx = .p b 0) (hb:nth σ.bx b = some c) (hf:c.frz = false) (hit:c.it = none) (hn:szT P t = some 1) (hc:c.xs.length = 1)
  (hv:a.tmps.getD ty undef = v) (h1:v.oneCell' = true):∃ w',(execOp a.eval o).run P w = .ok .skip w'/\St { σ with bx:=setN σ.bx b { frz:=false,xs:=[.d (.raw v)] } } I0 N w0 (a.put none undef) w':=by
 have hcell:(a.eval (.tmp ty)).cells = #[v]:=by show (a.tmps.getD ty undef).cells = _;rw [hv];exact cells_one h1
 have get:∀ Y,∃ I β τ blk cs T,InvX I β τ Y (lk σ.env) (nth σ.bx) (nth σ.tk) I0 N w0 a w/\β b = some blk/\w.heap[blk]? = some (.cells cs T (0,0))/\cs.size = 1/\a.eval (.tmp tx) = .pointer (some ⟨blk,0,none⟩):=fun Y => by
  obtain ⟨I,β,τ,h⟩:=hs Y
  obtain ⟨blk,cs,T,b1,b2,b3,b4,b5,b6,b7,b8⟩:=(h.box b c hb).ex (by rw [hit];rfl)
  have hm:=(h.env tx).un (fun j b y e => by rw [hx] at e;cases e)
  rw [hx] at hm
  refine ⟨I,β,τ,blk,cs,T,h,b1,b3,by rw [b4,hc],?_⟩
  show a.tmps.getD tx undef = _
  generalize a.tmps.getD tx undef = u at hm
  cases hm with
  | p hβ => rw [b1] at hβ;cases hβ;rfl
 obtain ⟨_,_,_,blk,cs,T,_,_,h3,h4,h5⟩:=get (fun _ => none)
 have hr:=run_store_op (P:=P) (w:=w) (a:=a) ho h5 hn (by rw [hcell];rfl) h3 (by omega) (by rw [hcell];intro u hu;simp at hu;subst hu;exact h1)
 refine ⟨_,hr,fun Y => ?_⟩
 obtain ⟨I,β,τ,blk',cs',T',h,q1,q2,q3,q4⟩:=get Y
 rw [h5] at q4
 cases q4
 rw [h3] at q2
 cases q2
 have hlt:=nth_lt hb
 have e:((cs.toList.take 0 ++ (a.eval (.tmp ty)).cells.toList ++ cs.toList.drop (0 + 1)).toArray) = #[v]:=by
  rw [hcell]
  have:cs.toList.drop (0 + 1) = []:=List.drop_eq_nil_of_le (by simp;omega)
  rw [this];rfl
 rw [e]
 have:=h.setBox (cs':=#[v]) (xs:=[.d (.raw v)]) (dst:=none) (v:=undef) hb hf q1 h3 rfl (fun j u x hu hx => by
  cases j with
  | zero => simp at hu hx;subst hu;subst hx;exact .d (.raw h1)
  | succ j => simp at hu) (fun u hu => by simp at hu;subst hu;exact h1) (fun d hd => by cases hd)
 refine ⟨I,β,τ,?_⟩
 have eB:upd (nth σ.bx) b (some { frz:=false,xs:=[.d (.raw v)] }) = nth (setN σ.bx b { frz:=false,xs:=[.d (.raw v)] }):=by
  funext m
  rw [nth_setN _ _ _ _ (Nat.le_of_lt hlt)]
  by_cases q:m = b
  ·subst q;rw [upd_same,if_pos rfl]
  ·rw [upd_other _ _ _ _ q,if_neg q]
 rw [eB] at this
 exact this
theorem rsl_nil (ops σ):rsl ops σ [] = []:=rfl
theorem rsl_d (ops σ t x r):rsl ops σ ((t,.d x) :: r) = (t,.d x) :: rsl ops σ r:=rfl
theorem rsl_any (ops σ t r):rsl ops σ ((t,.any) :: r) = (t,.any) :: rsl ops σ r:=rfl
theorem rsl_p (ops σ t b o r):rsl ops σ ((t,.p b o) :: r) = (t,.p b o) :: rsl ops σ r:=rfl
theorem rsl_q (ops σ t b o r):rsl ops σ ((t,.q b o) :: r) = (t,.q b o) :: rsl ops σ r:=rfl
theorem rsl_tk (ops σ t b r):rsl ops σ ((t,.tk b) :: r) = (t,.tk b) :: rsl ops σ r:=rfl
theorem rsl_pt (ops σ t b x k o r):rsl ops σ ((t,.pt b x k o) :: r) = (t,.pt b x k o) :: rsl ops σ r:=rfl
theorem rsl_agg (ops σ t b r):rsl ops σ ((t,.agg b) :: r) = (t,.agg b) :: rsl ops σ r:=rfl
theorem rsl_tup (ops σ t b r):rsl ops σ ((t,.tup b) :: r) = (t,.tup b) :: rsl ops σ r:=rfl
theorem rsl_gd (ops σ t j b y r):rsl ops σ ((t,.gd j b y) :: r) = (t,if act ops σ 4 (j,b) = some true then ung y else .any) :: rsl ops σ r:=rfl
attribute [go_sem] rsl_nil rsl_d rsl_any rsl_p rsl_q rsl_tk rsl_pt rsl_agg rsl_tup rsl_gd
end Go.RX
