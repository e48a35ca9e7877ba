/-
  Contracts, part 24. No condition.
-/
import Derived.Test.YtdajcfdhcjbmmaaGreatDoorB22
set_option linter.all false
namespace Go.RX
open Go Go.RowKit
variable [Glob]
structure Ext (I I' V V':Nat->Prop) (w w':World):Prop where
 os:w'.os = w.os
 tape:w'.tape = w.tape
 output:w'.output = w.output
 size:w.heap.size<=w'.heap.size
 same:∀ k,k < w.heap.size->¬ V k->w'.heap[k]? = w.heap[k]?
 i1:∀ b,I b->I' b
 i2:∀ b,I' b->I b∨(w.heap.size<=b/\b < w'.heap.size)
 v1:∀ b,V b->V' b
 v2:∀ b,V' b->V b∨(w.heap.size<=b/\b < w'.heap.size)
 dis:∀ b,I' b->¬ V' b
theorem Ext.refl {I V:Nat->Prop} {w:World} (h:∀ b,I b->¬ V b):Ext I I V V w w:=⟨rfl,rfl,rfl,Nat.le_refl _,fun _ _ _ => rfl,fun _ h => h,fun _ h => .inl h,fun _ h => h,fun _ h => .inl h,h⟩
structure Yd (I I' V:Nat->Prop) (w w':World):Prop where
 os:w'.os = w.os
 tape:w'.tape = w.tape
 output:w'.output = w.output
 size:w.heap.size<=w'.heap.size
 i1:∀ b,I b->I' b
 i2:∀ b,I' b->I b∨w.heap.size<=b
 lt:∀ b,I' b->b < w'.heap.size
 nm:∀ b,I' b->Glob.M ≠ some b
 si:∀ b,I b->w'.heap[b]? = w.heap[b]?
 sv:∀ b,V b->w'.heap[b]? = w.heap[b]?
 dis:∀ b,I' b->¬ V b
 gl:Glob.G w'
structure Yq (I I' V:Nat->Prop) (w w':World):Prop extends Yd I I' V w w' where
 nc:∀ (k:Nat) (o:Obj),w.heap[k]? = some o->o.isCells = false->w'.heap[k]? = some o
theorem Yd.trans {I I' I'' V:Nat->Prop} {a b c:World} (h:Yd I I' V a b) (k:Yd I' I'' V b c):Yd I I'' V a c :=
 ⟨k.os.trans h.os,k.tape.trans h.tape,k.output.trans h.output,Nat.le_trans h.size k.size,fun x hx => k.i1 x (h.i1 x hx),fun x hx => (by rcases k.i2 x hx with q | q;exact h.i2 x q;have:=h.size;exact .inr (by omega)),k.lt,k.nm,fun x hx => (k.si x (h.i1 x hx)).trans (h.si x hx),fun x hx => (k.sv x hx).trans (h.sv x hx),k.dis,k.gl⟩
theorem Yq.trans {I I' I'' V:Nat->Prop} {a b c:World} (h:Yq I I' V a b) (k:Yq I' I'' V b c):Yq I I'' V a c:=⟨h.toYd.trans k.toYd,fun x o hx ho => k.nc x o (h.nc x o hx ho) ho⟩
abbrev Jt:=Nat->(Nat->Prop)->(Nat->Prop)->World->Prop
def Stab (J:Jt):Prop:=∀ i I I' V V' w w',J i I V w->Ext I I' V V' w w'->J i I' V' w'
def Puts (n0:Nat) (J:Jt):Prop:=∀ (i:Nat) (I V:Nat->Prop) (w:World) (k:Nat) (o o':Obj),n0<=k->J i I V w->w.heap[k]? = some o->o.isCells = false->¬ I k->J i I V (w.putObj k o')
def YR (J Jx:Jt) (i:Nat) (I V:Nat->Prop) (w:World) (e:Ending) (w':World):Prop :=
 ∃ I',Yd I I' V w w'/\((e = .returned (.bool true)/\J (i + 1) I' V w')∨(e = .returned (.bool false)/\Jx i I' V w'))
def Rounds (P:Program) (l:Nat) (xs:List SV) (J Jx:Jt):Prop :=
 ∀ i I V w v,i < xs.length->J i I V w->Glob.G w->(∀ b,I b->b < w.heap.size)->(∀ b,I b->Glob.M ≠ some b)->(∀ b,I b->¬ V b)->RepS I w v (xs.getD i .any)->YieldAt Fence.wide 0 P l #[v] w (YR J Jx i I V w)
def It (P:Program) (f:FuncId) (A:List SV) (xs:List SV):Prop :=
 (∃ fn,P.funcs[f]? = some fn/\(fn.name == "runtime.NumGoroutine") = false/\fn.body.isNone = false) /\
 ∀ (I:Nat->Prop) (w:World) (vs:Array Value) (l:Nat) (J Jx:Jt),Glob.G w->(∀ b,I b->b < w.heap.size)->(∀ b,I b->Glob.M ≠ some b)->vs.size = A.length->(∀ (j:Nat) (u:Value) (s:SV),vs[j]? = some u->A[j]? = some s->RepS I w u s) ->
  Stab J->Stab Jx->Rounds P l xs J Jx->J 0 I (fun _ => False) w ->
  Calls P f (#[.func (.yield l) #[] #[]] ++ vs) w fun e w' => (∃ v,e = .returned v)/\∃ I' V',(J xs.length I' V' w'∨∃ i,i < xs.length/\Jx i I' V' w')
def bodyR (J Jr:Jt) (i:Nat) (I V:Nat->Prop) (w:World):Exit->Act->World->Prop
 | .normal,_,w' => ∃ I',Yq I I' V w w'/\J (i + 1) I' V w'
 | .ret,_,w' => ∃ I',Yq I I' V w w'/\Jr i I' V w'
 | _,_,_ => False
def asgR (A1:Nat->Act->(Nat->Prop)->(Nat->Prop)->World->Prop) (i:Nat) (I V:Nat->Prop) (w:World):Exit->Act->World->Prop
 | .normal,a',w' => ∃ I',Yq I I' V w w'/\A1 i a' I' V w'
 | _,_,_ => False
abbrev roundF (l:Nat):Fence:=Fence.wide.inRound l
def markOf (D:Nat):Deferred:={ target:=.collected D,args:=#[] }
theorem putObj_other {w:World} {l k:Nat} {o:Obj} (h:k ≠ l):(w.putObj l o).heap[k]? = w.heap[k]?:=World.putObj_heap_other h
theorem Yd.putObj {I V:Nat->Prop} {w:World} {l:Nat} {o':Obj} (hI:∀ b,I b->b < w.heap.size) (hM:∀ b,I b->Glob.M ≠ some b) (hd:∀ b,I b->¬ V b) (hG:Glob.G w) (hl:Glob.F<=l) (hIl:¬ I l) (hVl:¬ V l):Yd I I V w (w.putObj l o') :=
 ⟨rfl,rfl,rfl,by simp,fun _ h => h,fun _ h => .inl h,fun b hb => by rw [World.putObj_size];exact hI b hb,hM,fun b hb => putObj_other (fun e => hIl (e ▸ hb)),fun b hb => putObj_other (fun e => hVl (e ▸ hb)),hd,
  Glob.st _ _ hG ⟨rfl,rfl,rfl,by simp,fun k hk => putObj_other (by omega)⟩⟩
theorem wp_rangeIt {P:Program} {g:Operand} {p:Tmp} {assign body:Code} {Q:Exit->Act->World->Prop} {a:Act} {w:World} {gf:FuncId} {vs:Array Value} {A xs:List SV} {I0:Nat->Prop}
  (hg:a.eval g = .func (.func gf) #[] vs) (hdf:a.defers = []) (hit:It P gf A xs) (hG:Glob.G w) (hI:∀ b,I0 b->b < w.heap.size) (hM:∀ b,I0 b->Glob.M ≠ some b) (hvs:vs.size = A.length) (hrep:∀ (j:Nat) (u:Value) (s:SV),vs[j]? = some u->A[j]? = some s->RepS I0 w u s)
  (J Jr:Jt) (A1:Nat->Act->(Nat->Prop)->(Nat->Prop)->World->Prop) (hJ:Stab J) (hJr:Stab Jr) (pJ:Puts w.heap.size J) (pJr:Puts w.heap.size Jr) (hA1:∀ (i:Nat) (a':Act) (I V:Nat->Prop) (W:World) (k:Nat) (o o':Obj),w.heap.size<=k->A1 i a' I V W->W.heap[k]? = some o->o.isCells = false->¬ I k->A1 i a' I V (W.putObj k o'))
  (h0:J 0 I0 (fun _ => False) w)
  (hassign:∀ l i I V W v,i < xs.length->J i I V W->Glob.G W->(∀ b,I b->b < W.heap.size)->(∀ b,I b->Glob.M ≠ some b)->(∀ b,I b->¬ V b)->RepS I W v (xs.getD i .any)->assign.wpIn (roundF l) 0 P (asgR A1 i I V W) { tmps:=a.tmps.setIfInBounds p v,defers:=[] } W)
  (hbody:∀ l i I V W a',i < xs.length->A1 i a' I V W->Glob.G W->(∀ b,I b->b < W.heap.size)->(∀ b,I b->Glob.M ≠ some b)->(∀ b,I b->¬ V b)->body.wpIn (roundF l) 0 P (bodyR J Jr i I V W) a' W)
  (hdone:∀ D I V W,w.heap.size<=D->J xs.length I V W->¬ I D->W.heap[D]? = some (.deferred (some []))->Q .normal { a with defers:=[markOf D] } W)
  (hstop:∀ D i I V W,w.heap.size<=D->i < xs.length->Jr i I V W->¬ I D->W.heap[D]? = some (.deferred (some []))->Q .ret { a with defers:=[markOf D] } W) :
  (Code.rangeFunc g #[p] assign body).wpIn Fence.wide 0 P Q a w:=by
 refine wpIn_rangeFunc ?_
 intro fn hfn
 show ∃ l mark w₁ d w₁' f args w₂,(Instr.enterLoop fn a.tmps #[p] assign body none).run P w = _/\_
 obtain ⟨rec,hrec⟩:∃ rec:LoopState->Option Code->Loop,rec = fun st pe => { state:=st,pending:=pe,fn,tmps:=a.tmps,params:=#[p],assign,body,defers:=w.heap.size }:=⟨_,rfl⟩
 obtain ⟨W1,hW1⟩:∃ W1,(w.alloc (.deferred (some []))).alloc (.loop (rec .ready none)) = W1:=⟨_,rfl⟩
 have hsz1:W1.heap.size = w.heap.size + 2:=by rw [← hW1];simp
 have hL1:W1.heap[w.heap.size + 1]? = some (.loop (rec .ready none)):=by
  rw [← hW1];have:=World.alloc_heap_new (w.alloc (.deferred (some []))) (.loop (rec .ready none));rwa [World.size_alloc] at this
 have hD1:W1.heap[w.heap.size]? = some (.deferred (some [])):=by
  rw [← hW1];exact (Below.heap_alloc _ _ _ (by simp)).trans (World.alloc_heap_new w _)
 have hF:Glob.F<=w.heap.size:=Glob.lo _ hG
 have hB1:Below w.heap.size w W1:=by
  rw [← hW1];exact ((Below.refl _ w).alloc (Nat.le_refl _) _).alloc (by simp) _
 have hold:∀ k,k < w.heap.size->W1.heap[k]? = w.heap[k]?:=hB1.block
 have hG1:Glob.G W1:=Glob.st _ _ hG (hB1.mono hF)
 have hE1:Ext I0 I0 (fun _ => False) (fun _ => False) w W1:=⟨hB1.os,hB1.tape,hB1.output,hB1.size,fun k hk _ => hold k hk,fun _ h => h,fun _ h => .inl h,fun _ h => h,fun _ h => .inl h,fun _ _ h => h⟩
 have hI1:∀ b,I0 b->b < W1.heap.size:=fun b hb => by have:=hI b hb;omega
 have hrd:∀ {st pe},(rec st pe).params = #[p]:=fun {st pe} => by rw [hrec]
 refine ⟨w.heap.size + 1,[markOf w.heap.size],W1,{ target:=.fn (.func gf) vs,args:=#[.func (.yield (w.heap.size + 1)) #[] #[]] },W1,gf,
  #[.func (.yield (w.heap.size + 1)) #[] #[]] ++ vs,W1,?_,?_,fun _ _ => trivial,?_,fun h => (by cases h),?_⟩
 ·rw [← hW1,hrec];exact run_enterLoop_outer _ _ _ _ _
 ·simp only [resolve,hg]
  simp [go_sem]
 ·obtain ⟨fn',hf',hname,hbd⟩:=hit.1
  cases hb:fn'.body with
  | none => rw [hb] at hbd;cases hbd
  | some c =>
   have hname':¬ (fn'.name = "runtime.NumGoroutine"):=by simpa using hname
   simp [invoke,go_sem,callFunc,hf',hname',hb]
 ·refine callsIn_wide.2 ?_
  refine (hit.2 I0 W1 vs (w.heap.size + 1)
   (fun i I V W => J i I V W/\W.heap[w.heap.size + 1]? = some (.loop (rec .ready none))/\W.heap[w.heap.size]? = some (.deferred (some []))/\(¬ I w.heap.size/\¬ I (w.heap.size + 1))/\(¬ V w.heap.size/\¬ V (w.heap.size + 1)))
   (fun i I V W => Jr i I V W/\W.heap[w.heap.size + 1]? = some (.loop (rec .done (some .ret)))/\W.heap[w.heap.size]? = some (.deferred (some []))/\(¬ I w.heap.size/\¬ I (w.heap.size + 1))/\(¬ V w.heap.size/\¬ V (w.heap.size + 1)))
   hG1 hI1 hM hvs (fun j u s hu hs Y => (hrep j u s hu hs Y).mono (fun _ h => h) (fun b hb => hold b (hI b hb)) (fun _ _ h => h) (fun _ _ h => h)) ?_ ?_ ?_ ?_).mono ?_
  ·rintro i I I' V V' W W' ⟨h1,h2,h3,⟨h4,h5⟩,h6,h7⟩ he
   have l1:=(Array.getElem?_eq_some_iff.1 h2).1
   have l2:=(Array.getElem?_eq_some_iff.1 h3).1
   refine ⟨hJ _ _ _ _ _ _ _ h1 he,(he.same _ l1 h7).trans h2,(he.same _ l2 h6).trans h3,⟨fun hc => ?_,fun hc => ?_⟩,fun hc => ?_,fun hc => ?_⟩
   ·rcases he.i2 _ hc with q | q;exact h4 q;omega
   ·rcases he.i2 _ hc with q | q;exact h5 q;omega
   ·rcases he.v2 _ hc with q | q;exact h6 q;omega
   ·rcases he.v2 _ hc with q | q;exact h7 q;omega
  ·rintro i I I' V V' W W' ⟨h1,h2,h3,⟨h4,h5⟩,h6,h7⟩ he
   have l1:=(Array.getElem?_eq_some_iff.1 h2).1
   have l2:=(Array.getElem?_eq_some_iff.1 h3).1
   refine ⟨hJr _ _ _ _ _ _ _ h1 he,(he.same _ l1 h7).trans h2,(he.same _ l2 h6).trans h3,⟨fun hc => ?_,fun hc => ?_⟩,fun hc => ?_,fun hc => ?_⟩
   ·rcases he.i2 _ hc with q | q;exact h4 q;omega
   ·rcases he.i2 _ hc with q | q;exact h5 q;omega
   ·rcases he.v2 _ hc with q | q;exact h6 q;omega
   ·rcases he.v2 _ hc with q | q;exact h7 q;omega
  ·
   rintro i I V W v hi ⟨h1,h2,h3,⟨h4,h5⟩,h6,h7⟩ hGW hIW hMW hdW hv
   have l1:=(Array.getElem?_eq_some_iff.1 h2).1
   have hy:=run_yield (P:=P) (args:=#[v]) h2 (by rw [hrd];rfl)
   have e1:(rec .ready none).fn = fn/\(rec .ready none).assign = assign/\(rec .ready none).body = body/\(rec .ready none).tmps = a.tmps:=by rw [hrec];exact ⟨rfl,rfl,rfl,rfl⟩
   rw [hrd,e1.1,e1.2.1,e1.2.2.1,e1.2.2.2] at hy
   have hfold:(#[p].zip #[v]).foldl (fun tmps (x:Tmp×Value) => match x with | (t,a) => tmps.setIfInBounds t a) a.tmps = a.tmps.setIfInBounds p v:=by simp
   rw [hfold] at hy
   refine ⟨fn,a.tmps.setIfInBounds p v,assign,body,hy,roundIn_of_wpIn (F:=Fence.wide) trivial (wpIn_mono (hassign (w.heap.size + 1) i I V W v hi h1 hGW hIW hMW hdW hv) ?_)⟩
   intro e a' Wa hq
   cases e with
   | normal =>
    obtain ⟨Ia,hya,ha1⟩:=hq
    have hl2:Wa.heap[w.heap.size + 1]? = some (.loop (rec .ready none)):=hya.nc _ _ h2 rfl
    have hk2:Wa.heap[w.heap.size]? = some (.deferred (some [])):=hya.nc _ _ h3 rfl
    refine ⟨_,run_beginRound hl2 (by rw [hrec]),?_⟩
    have hIa5:¬ Ia (w.heap.size + 1):=fun hc => (by rcases hya.i2 _ hc with q | q;exact h5 q;omega)
    have hIa4:¬ Ia w.heap.size:=fun hc => (by rcases hya.i2 _ hc with q | q;exact h4 q;omega)
    have hp1:Yd Ia Ia V Wa (Wa.putObj (w.heap.size + 1) (.loop { rec .ready none with state:=.busy })):=.putObj (hya.lt) hya.nm hya.dis hya.gl (by omega) hIa5 h7
    have hlt:=(Array.getElem?_eq_some_iff.1 hl2).1
    have hl3:(Wa.putObj (w.heap.size + 1) (.loop { rec .ready none with state:=.busy })).heap[w.heap.size + 1]? = some (.loop { rec .ready none with state:=.busy }):=World.putObj_heap_same hlt
    have hk3:(Wa.putObj (w.heap.size + 1) (.loop { rec .ready none with state:=.busy })).heap[w.heap.size]? = some (.deferred (some [])):=(putObj_other (by omega)).trans hk2
    refine wpIn_mono (hbody (w.heap.size + 1) i Ia V _ a' hi (hA1 _ _ _ _ _ _ _ _ (by omega) ha1 hl2 rfl hIa5) hp1.gl hp1.lt hya.nm hya.dis) ?_
    intro e2 a2 Wb hq2
    cases e2 with
    | normal =>
     obtain ⟨Ib,hyb,hjb⟩:=hq2
     have hl4:=hyb.nc _ _ hl3 rfl
     have hk4:=hyb.nc _ _ hk3 rfl
     have hr:=run_endRound (P:=P) none hl4
     have hIb5:¬ Ib (w.heap.size + 1):=fun hc => (by rcases hyb.i2 _ hc with q | q;exact hIa5 q;rw [World.putObj_size] at q;omega)
     have hIb4:¬ Ib w.heap.size:=fun hc => (by rcases hyb.i2 _ hc with q | q;exact hIa4 q;rw [World.putObj_size] at q;omega)
     refine ⟨_,_,hr,Ib,(hya.toYd.trans hp1).trans (hyb.toYd.trans (.putObj hyb.lt hyb.nm hyb.dis hyb.gl (by omega) hIb5 h7)),.inl ⟨rfl,pJ _ _ _ _ _ _ _ (by omega) hjb hl4 rfl hIb5,?_,(putObj_other (by omega)).trans hk4,⟨hIb4,hIb5⟩,h6,h7⟩⟩
     rw [World.putObj_heap_same (Array.getElem?_eq_some_iff.1 hl4).1,hrec]
     rfl
    | ret =>
     obtain ⟨Ib,hyb,hjb⟩:=hq2
     have hl4:=hyb.nc _ _ hl3 rfl
     have hk4:=hyb.nc _ _ hk3 rfl
     have hr:=run_endRound (P:=P) (some .ret) hl4
     have hIb5:¬ Ib (w.heap.size + 1):=fun hc => (by rcases hyb.i2 _ hc with q | q;exact hIa5 q;rw [World.putObj_size] at q;omega)
     have hIb4:¬ Ib w.heap.size:=fun hc => (by rcases hyb.i2 _ hc with q | q;exact hIa4 q;rw [World.putObj_size] at q;omega)
     refine ⟨_,_,hr,Ib,(hya.toYd.trans hp1).trans (hyb.toYd.trans (.putObj hyb.lt hyb.nm hyb.dis hyb.gl (by omega) hIb5 h7)),.inr ⟨rfl,pJr _ _ _ _ _ _ _ (by omega) hjb hl4 rfl hIb5,?_,(putObj_other (by omega)).trans hk4,⟨hIb4,hIb5⟩,h6,h7⟩⟩
     rw [World.putObj_heap_same (Array.getElem?_eq_some_iff.1 hl4).1,hrec]
     rfl
    | _ => exact hq2.elim
   | _ => exact hq.elim
  ·exact ⟨hJ _ _ _ _ _ _ _ h0 hE1,hL1,hD1,⟨fun hc => by have:=hI _ hc;omega,fun hc => by have:=hI _ hc;omega⟩,fun h => h,fun h => h⟩
  ·rintro e W2 ⟨⟨v,rfl⟩,I',V',⟨h1,h2,h3,⟨h4,h5⟩,h6,h7⟩ | ⟨i,hi,h1,h2,h3,⟨h4,h5⟩,h6,h7⟩⟩
   ·have hr:=run_endLoop (P:=P) h2 (by rw [hrec];simp)
    have:=hdone w.heap.size I' V' _ (Nat.le_refl _) (pJ _ _ _ _ _ _ (.loop { rec .ready none with state:=.exhausted }) (by omega) h1 h2 rfl h5) h4 ((putObj_other (by omega)).trans h3)
    subst hrec
    refine ⟨none,_,hr,?_⟩
    show Q .normal { tmps:=a.tmps,defers:=[markOf w.heap.size] ++ a.defers } _
    rw [hdf]
    exact this
   ·have hr:=run_endLoop (P:=P) h2 (by rw [hrec];simp)
    have:=hstop w.heap.size i I' V' _ (Nat.le_refl _) hi (pJr _ _ _ _ _ _ (.loop { rec .done (some .ret) with state:=.exhausted }) (by omega) h1 h2 rfl h5) h4 ((putObj_other (by omega)).trans h3)
    subst hrec
    refine ⟨some .ret,_,hr,wpIn_ret ?_⟩
    show Q .ret { tmps:=a.tmps,defers:=[markOf w.heap.size] ++ a.defers } _
    rw [hdf]
    exact this
structure Par (w0:World) (I0:Nat->Prop) (n:Nat) (I V:Nat->Prop) (W:World):Prop where
 le:w0.heap.size<=n
 keep:Keep w0.heap.size w0 W
 i0:∀ b,I b->I0 b∨w0.heap.size<=b
 vn:∀ b,V b->n<=b
 sz:n<=W.heap.size
 lt:∀ b,I b->b < W.heap.size
 dis:∀ b,I b->¬ V b
 vlt:∀ b,V b->b < W.heap.size
def Cl (n blk:Nat) (cs:Array Value) (T:Nat) (I:Nat->Prop) (W:World):Prop:=blk < n/\¬ I blk/\W.heap[blk]? = some (.cells cs T (0,0))
theorem Keep.ext {n:Nat} {w0 W W':World} {V I I' V':Nat->Prop} (h:Keep n w0 W) (he:Ext I I' V V' W W') (hn:n<=W.heap.size) (hV:∀ b,b < n->¬ V b) (hG:Glob.G w0->Glob.G W'):Keep n w0 W' :=
 ⟨he.os.trans h.os,he.tape.trans h.tape,he.output.trans h.output,Nat.le_trans h.size he.size,fun k hk hm => (he.same k (by omega) (hV k hk)).trans (h.block k hk hm),hG⟩
theorem Cl.ext {w0:World} {I0 I I' V V':Nat->Prop} {n blk T:Nat} {cs:Array Value} {W W':World} (hp:Par w0 I0 n I V W) (h:Cl n blk cs T I W) (he:Ext I I' V V' W W'):Cl n blk cs T I' W':=by
 obtain ⟨h1,h2,h3⟩:=h
 have:=hp.sz
 refine ⟨h1,fun hc => ?_,(he.same blk (by omega) (fun hv => ?_)).trans h3⟩
 ·rcases he.i2 _ hc with q | q
  ·exact h2 q
  ·omega
 ·have:=hp.vn _ hv;omega
theorem Cl.put {I:Nat->Prop} {n blk T k:Nat} {cs:Array Value} {W:World} {o o':Obj} (h:Cl n blk cs T I W) (hk:W.heap[k]? = some o) (ho:o.isCells = false):Cl n blk cs T I (W.putObj k o') :=
 ⟨h.1,h.2.1,(putObj_other (fun e => by subst e;rw [h.2.2] at hk;cases hk;cases ho)).trans h.2.2⟩
end Go.RX
namespace Go.RX
open Go Go.RowKit
section
theorem Par.ext {w0:World} {I0 I I' V V':Nat->Prop} {n:Nat} {W W':World} (h:Par w0 I0 n I V W) (he:Ext I I' V V' W W'):Par w0 I0 n I' V' W':=by
 have h1:=h.le;have h2:=h.sz;have h3:=he.size
 refine ⟨h.le,h.keep.ext he (by omega) (fun b hb hv => by have:=h.vn b hv;omega) (fun _ => trivial),fun b hb => ?_,fun b hb => ?_,by omega,fun b hb => ?_,he.dis,fun b hb => ?_⟩
 ·rcases he.i2 b hb with q | q
  ·exact h.i0 b q
  ·omega
 ·rcases he.v2 b hb with q | q
  ·exact h.vn b q
  ·omega
 ·rcases he.i2 b hb with q | q
  ·have:=h.lt b q;omega
  ·omega
 ·rcases he.v2 b hb with q | q
  ·have:=h.vlt b q;omega
  ·omega
theorem Par.put {w0:World} {I0 I V:Nat->Prop} {n k:Nat} {W:World} {o':Obj} (h:Par w0 I0 n I V W) (hk:n<=k):Par w0 I0 n I V (W.putObj k o'):=by
 have h1:=h.le;have h2:=h.sz
 exact ⟨h.le,⟨h.keep.os,h.keep.tape,h.keep.output,by rw [World.putObj_size];exact h.keep.size,fun b hb hm => (putObj_other (by omega)).trans (h.keep.block b hb hm),fun _ => trivial⟩,h.i0,h.vn,by rw [World.putObj_size];exact h.sz,fun b hb => by rw [World.putObj_size];exact h.lt b hb,h.dis,fun b hb => by rw [World.putObj_size];exact h.vlt b hb⟩
theorem Par.turn {w0:World} {I0 I I' V:Nat->Prop} {n:Nat} {W W':World} (h:Par w0 I0 n I V W) (hk:Keep w0.heap.size W W') (hi:∀ b,I' b->I b∨W.heap.size<=b) (hlt:∀ b,I' b->b < W'.heap.size) (hd:∀ b,I' b->¬ V b):Par w0 I0 n I' V W':=by
 have h1:=h.le;have h2:=h.sz
 refine ⟨h.le,h.keep.trans hk,fun b hb => ?_,h.vn,Nat.le_trans h.sz hk.size,hlt,hd,fun b hb => Nat.lt_of_lt_of_le (h.vlt b hb) hk.size⟩
 rcases hi b hb with q | q
 ·exact h.i0 b q
 ·omega
theorem Par.yq {w0:World} {I0 I I' V:Nat->Prop} {n:Nat} {W W':World} (h:Par w0 I0 n I V W) (hk:Keep W.heap.size W W') (h1:∀ b,I b->I' b) (hi:∀ b,I' b->I b∨(W.heap.size<=b/\b < W'.heap.size)):Yq I I' V W W'/\Par w0 I0 n I' V W':=by
 have hs:=hk.size
 have hlt:∀ b,I' b->b < W'.heap.size:=fun b hb => by
  rcases hi b hb with q | q
  ·have:=h.lt b q;omega
  ·omega
 have hd:∀ b,I' b->¬ V b:=fun b hb hv => by
  rcases hi b hb with q | q
  ·exact h.dis b q hv
  ·have:=h.vlt b hv;omega
 have hi2:∀ b,I' b->I b∨W.heap.size<=b:=fun b hb => (hi b hb).imp (fun q => q) (fun q => q.1)
 exact ⟨⟨⟨hk.os,hk.tape,hk.output,hs,h1,hi2,hlt,fun b _ e => (by cases e),fun b hb => hk.block b (h.lt b hb) (fun e => by cases e),fun b hb => hk.block b (h.vlt b hb) (fun e => by cases e),hd,trivial⟩,
  fun k o ho hc => (hk.block k (Array.getElem?_eq_some_iff.1 ho).1 (fun e => by cases e)).trans ho⟩,h.turn (hk.mono (Nat.le_trans h.le h.sz)) hi2 hlt hd⟩
theorem Cl.keep {w0:World} {I0 I I' V:Nat->Prop} {n blk T:Nat} {cs:Array Value} {W W':World} (hp:Par w0 I0 n I V W) (h:Cl n blk cs T I W) (hk:Keep W.heap.size W W') (hi:∀ b,I' b->I b∨W.heap.size<=b):Cl n blk cs T I' W':=by
 have:=hp.sz;have h1:=h.1
 refine ⟨h.1,fun hc => ?_,(hk.block _ (by omega) (fun e => by cases e)).trans h.2.2⟩
 rcases hi _ hc with q | q
 ·exact h.2.1 q
 ·omega
theorem Par.row {w0:World} {I0 I V:Nat->Prop} {n b T:Nat} {cur cs:Array Value} {W:World} (h:Par w0 I0 n I V W) (hb:w0.heap.size<=b) (hc:Cl n b cur T I W) :
  Yq I I V W (W.setRow b cs)/\Par w0 I0 n I V (W.setRow b cs)/\Cl n b cs T I (W.setRow b cs)/\(∀ k,k ≠ b->(W.setRow b cs).heap[k]? = W.heap[k]?):=by
 have ho:∀ k,k ≠ b->(W.setRow b cs).heap[k]? = W.heap[k]?:=fun k hk => setRow_other W b k cs hk
 have hs:(W.setRow b cs).heap.size = W.heap.size:=by simp
 have hk:Keep w0.heap.size W (W.setRow b cs):=⟨rfl,rfl,rfl,by rw [hs];exact Nat.le_refl _,fun k hk _ => ho k (by omega),fun _ => trivial⟩
 have hlt:∀ x,I x->x < (W.setRow b cs).heap.size:=fun x hx => by rw [hs];exact h.lt x hx
 refine ⟨⟨⟨rfl,rfl,rfl,by rw [hs];exact Nat.le_refl _,fun _ h => h,fun _ h => .inl h,hlt,fun x _ e => (by cases e),fun x hx => ho x (fun e => hc.2.1 (e ▸ hx)),fun x hx => ho x (fun e => by have:=h.vn x hx;have:=hc.1;omega),h.dis,trivial⟩,fun k o hko hcell => ?_⟩,h.turn hk (fun _ h => .inl h) hlt h.dis,⟨hc.1,hc.2.1,setRow_heap W b cur cs T (0,0) hc.2.2⟩,ho⟩
 refine (ho k (fun e => ?_)).trans hko
 subst e
 rw [hc.2.2] at hko;cases hko;cases hcell
theorem Cl.row {I:Nat->Prop} {n b b' T':Nat} {cs cur':Array Value} {W:World} (h:Cl n b' cur' T' I W) (hne:b' ≠ b):Cl n b' cur' T' I (W.setRow b cs) :=
 ⟨h.1,h.2.1,(setRow_other W b b' cs hne).trans h.2.2⟩
end
section
variable [Glob]
theorem run_storeCl {P:Program} {ρ:Operand->Value} {a:Act} {o:Oper} {t:TypeId} {x y:Operand} {b T n:Nat} {u v:Value} {I:Nat->Prop} {w:World} (hρ:ρ = a.eval) (ho:o.op = .store t x y) (hx:ρ x = .pointer (some ⟨b,0,none⟩)) (hn:szT P t = some 1) (hy:ρ y = v) (hv:v.oneCell' = true) (hc:Cl n b #[u] T I w) :
  (execOp ρ o).run P w = .ok .skip (w.setRow b #[v]):=by
 subst hρ
 have hcell:(a.eval y).cells = #[v]:=by rw [hy];exact cells_one hv
 have:=run_store_op (P:=P) (w:=w) (a:=a) ho hx hn (by rw [hcell];rfl) hc.2.2 (by simp) (by rw [hcell];intro u hu;simp at hu;subst hu;exact hv)
 rw [this,hcell]
 rfl
theorem Yq.row {I V:Nat->Prop} {W W' W'':World} (h:Yq I I V W W') (k:Yq I I V W' W''):Yq I I V W W'':=h.trans k
theorem RepS.row {I:Nat->Prop} {W:World} {v:Value} {s:SV} {b:Nat} {cs:Array Value} (h:RepS I W v s) (hb:¬ I b):RepS I (W.setRow b cs) v s :=
 fun Y => (h Y).mono (fun _ h => h) (fun x hx => setRow_other W b x cs (fun e => hb (e ▸ hx))) (fun _ _ h => h) (fun _ _ h => h)
theorem RepS.ext {I I' V V':Nat->Prop} {W W':World} {v:Value} {s:SV} (h:RepS I W v s) (he:Ext I I' V V' W W') (hI:∀ b,I b->b < W.heap.size) (hd:∀ b,I b->¬ V b):RepS I' W' v s :=
 fun Y => (h Y).mono he.i1 (fun b hb => he.same b (hI b hb) (hd b hb)) (fun _ _ h => h) (fun _ _ h => h)
theorem RepS.putO {I:Nat->Prop} {W:World} {v:Value} {s:SV} {k:Nat} {o':Obj} (h:RepS I W v s) (hk:¬ I k):RepS I (W.putObj k o') v s :=
 fun Y => (h Y).mono (fun _ h => h) (fun b hb => putObj_other (fun e => hk (by rw [← e];exact hb))) (fun _ _ h => h) (fun _ _ h => h)
end
end Go.RX
