/-
  The program's functions,contracts: what each one returns,whatever the world: part 10. No condition.
-/
import Derived.Test.YtchnganlpgfdjaaGreatDoorB00
import Derived.Test.YtchnganlpgfdjaaGreatDoorB01
import Derived.Test.YtchnganlpgfdjaaGreatDoorB02
import Derived.Test.YtchnganlpgfdjaaGreatDoorB03
import Derived.Test.YtchnganlpgfdjaaGreatDoorB04
import Derived.Test.YtchnganlpgfdjaaGreatDoorB05
import Derived.Test.YtchnganlpgfdjaaGreatDoorB06
import Derived.Test.YtchnganlpgfdjaaGreatDoorB07
import Derived.Test.YtchnganlpgfdjaaGreatDoorB08
set_option linter.all false
set_option linter.unusedVariables false
set_option linter.unusedSectionVars false
set_option linter.unusedSimpArgs false
set_option linter.unnecessarySimpa false
namespace Go.RX
open Go Go.RowKit
variable [Glob]
def RepS (I : Nat → Prop) (w : World) (v : Value) (s : SV) : Prop:=∀ Y,Mt I (fun _ => none) (fun _ => none) Y w v s
def Ctr (P : Program) (f : FuncId) (A : List SV) (r : SV) : Prop :=
  (∃ fn,P.funcs[f]? = some fn ∧ (fn.name == "runtime.NumGoroutine") = false ∧ fn.body.isNone = false) ∧
  ∀ (I : Nat → Prop) (w : World) (vs : Array Value),Glob.G w → (∀ b,I b → b < w.heap.size) → vs.size = A.length → (∀ (j : Nat) (u : Value) (s : SV),vs[j]? = some u → A[j]? = some s → RepS I w u s) →
    Calls P f vs w fun e w' => ∃ v,e = .returned v ∧ RepS (fun b => I b ∨ (w.heap.size ≤ b ∧ b < w'.heap.size)) w' v r ∧ Below w.heap.size w w'
def TabOK (P : Program) (T : Tab) : Prop:=∀ f A p r,T f A = some (p,r) → p → Ctr P f A r
section
variable {P : Program} {Q : Exit → Act → World → Prop}
variable {I : Nat → Prop} {β : Nat → Option Nat} {τ : Nat → Option Value} {Y : Nat → Option Bool} {E : Nat → SV} {B : Nat → Option BC} {K : Nat → Option TC} {I0 : Nat → Prop} {N : Nat} {w0 w : World} {a : Act} {o : Oper}
theorem FrzIn.tail {K : Nat → Option TC} {i k n : Nat} {g : Nat → Nat → DV} {l : List Ef} (hF : FrzIn K (Ef.k i (.frz k n g) :: l)) : FrzIn (upd K i (some (.frz k n g))) l:=by
  intro e3 he3
  obtain ⟨i0,k0,n0,g0,q0,q⟩:=hF _ (by simp : Ef.k i (.frz k n g) ∈ Ef.k i (.frz k n g) :: l)
  cases q0
  obtain ⟨i3,k3,n3,g3,q1,q2⟩:=hF e3 (by simp [he3])
  refine ⟨i3,k3,n3,g3,q1,?_⟩
  by_cases hx : i3 = i
  · subst hx
    right; rw [upd_same]
    rcases q with ⟨e1,q⟩ | q <;> rcases q2 with ⟨e2,q2⟩ | q2 <;> rw [q] at q2 <;> simp at q2 <;> simp [q2]
  · rw [upd_other _ _ _ _ hx]; exact q2
theorem keepFrz {i k n : Nat} {g : Nat → Nat → DV} : ∀ (l : List Ef) (K : Nat → Option TC),FrzIn K l → K i = some (.frz k n g) → efK K l i = some (.frz k n g)
  | [],_,_,h => h
  | e2 :: l,K,hF,hKi => by
    obtain ⟨i2,k2,n2,g2,rfl,q⟩:=hF e2 (by simp)
    refine keepFrz l _ hF.tail ?_
    by_cases hx : i = i2
    · subst hx
      rw [upd_same]
      rcases q with ⟨e1,q⟩ | q <;> rw [hKi] at q <;> simp at q <;> simp [q]
    · rw [upd_other _ _ _ _ hx]; exact hKi
theorem deepC_rep (h' : InvX I β τ Y E B K I0 N w0 a w) {σ : Sy} {K0 : Nat → Option TC} {es : List Ef} (hF : FrzIn K0 es) (hK2 : K = efK K0 es) (hA : ∀ i k n g,Ef.k i (.frz k n g) ∈ es → K i = some (.frz k n g))
    {cs : Array Value} {xs : List SV} {ys : List DV} {es' : List Ef} {rs' : List Res} (hc : CM I β τ Y w cs xs) (hd : deepC σ xs = some (ys,es',rs')) (hK : ∀ k,Res.k k ∈ rs' → K0 k = nth σ.tk k) (hes : ∀ e ∈ es',e ∈ es) :
    ys.length = cs.size ∧ ∀ (j : Nat) (u : Value) (y : DV),cs[j]? = some u → ys[j]? = some y → Rep I w u y:=by
  obtain ⟨h1,h2,h3,h4⟩:=deepC_ok σ xs ys es' rs' hd
  refine ⟨by rw [h1,hc.len],fun j u y hu hy => ?_⟩
  have hjx : j < xs.length:=by rw [← h1]; exact (List.getElem?_eq_some_iff.1 hy).1
  have hx:=List.getElem?_eq_getElem hjx
  have hm:=hc.at_ j u _ hu hx
  rcases h4 j _ y hx hy with q | ⟨i,k,n,g,q1,q2,q3,q4⟩
  · rw [q] at hm; exact mt_d hm
  · rw [q1] at hm
    cases hm with
    | tk hτ _ =>
      have hfin : K i = some (.frz k n g):=by
        rcases q4 with ⟨e',_,q4⟩ | q4
        · exact hA i k n g (hes _ q4)
        · rw [hK2]; exact keepFrz es K0 hF (by rw [hK i q3]; exact q4)
      obtain ⟨v,t1,t2,_⟩:=h'.tok i _ hfin
      rw [hτ] at t1; cases t1
      rw [q2]; exact t2
theorem deepA_ok (σ : Sy) : ∀ (xs ys : List SV) (es : List Ef) (rs : List Res),deepA σ xs = some (ys,es,rs) →
    ys.length = xs.length ∧ (∀ e ∈ es,∃ i k n g,e = Ef.k i (.frz k n g) ∧ Res.k i ∈ rs ∧ ∃ e',nth σ.tk i = some (.own e' k n g)) ∧
    ∀ (j : Nat) (x y : SV),xs[j]? = some x → ys[j]? = some y → (∃ z,x = .d z ∧ y = .d z) ∨ (∃ m c,x = .q m c ∧ y = .d (.ref m c)) ∨
      (∃ cs zs es' rs',x = .agg cs ∧ deepC σ cs = some (zs,es',rs') ∧ (∀ e ∈ es',e ∈ es) ∧ (∀ r ∈ rs',r ∈ rs) ∧ y = .agg (zs.map .d)) ∨
      (∃ i z es' rs',x = .tk i ∧ deepC σ [.tk i] = some ([z],es',rs') ∧ (∀ e ∈ es',e ∈ es) ∧ (∀ r ∈ rs',r ∈ rs) ∧ y = .d z)
  | [],ys,es,rs,h => by
    simp [deepA] at h; obtain ⟨rfl,rfl,rfl⟩:=h
    exact ⟨rfl,fun e he => by simp at he,fun j x y hx => by simp at hx⟩
  | x :: r,ys,es,rs,h => by
    unfold deepA at h
    split at h
    · rename_i cs
      split at h
      · rename_i zs es1 rs1 zs' es2 rs2 h1 h2
        simp only [Option.some.injEq,Prod.mk.injEq] at h; obtain ⟨rfl,rfl,rfl⟩:=h
        obtain ⟨g1,g2,g3⟩:=deepA_ok σ r zs' es2 rs2 h2
        obtain ⟨_,d2,_,_⟩:=deepC_ok σ cs zs es1 rs1 h1
        refine ⟨by simp [g1],fun e he => ?_,fun j x y hx hy => ?_⟩
        · rcases List.mem_append.1 he with he | he
          · obtain ⟨i,k,n,g,q1,q2,q3⟩:=d2 e he; exact ⟨i,k,n,g,q1,by simp [q2],q3⟩
          · obtain ⟨i,k,n,g,q1,q2,q3⟩:=g2 e he; exact ⟨i,k,n,g,q1,by simp [q2],q3⟩
        · cases j with
          | zero =>
            simp at hx hy; subst hx; subst hy
            exact .inr (.inr (.inl ⟨cs,zs,es1,rs1,rfl,h1,fun e he => by simp [he],fun e he => by simp [he],rfl⟩))
          | succ j =>
            rcases g3 j x y (by simpa using hx) (by simpa using hy) with q | q | ⟨cs',zs',es',rs',q1,q2,q3,q4,q5⟩ | ⟨i,z,es',rs',q1,q2,q3,q4,q5⟩
            · exact .inl q
            · exact .inr (.inl q)
            · exact .inr (.inr (.inl ⟨cs',zs',es',rs',q1,q2,fun e he => by simp [q3 e he],fun e he => by simp [q4 e he],q5⟩))
            · exact .inr (.inr (.inr ⟨i,z,es',rs',q1,q2,fun e he => by simp [q3 e he],fun e he => by simp [q4 e he],q5⟩))
      · simp at h
    · rename_i z
      split at h
      · rename_i zs' es2 rs2 h2
        simp only [Option.some.injEq,Prod.mk.injEq] at h; obtain ⟨rfl,rfl,rfl⟩:=h
        obtain ⟨g1,g2,g3⟩:=deepA_ok σ r zs' _ _ h2
        refine ⟨by simp [g1],g2,fun j x y hx hy => ?_⟩
        cases j with
        | zero => simp at hx hy; subst hx; subst hy; exact .inl ⟨z,rfl,rfl⟩
        | succ j => exact g3 j x y (by simpa using hx) (by simpa using hy)
      · simp at h
    · rename_i i
      split at h
      · rename_i z es1 rs1 zs' es2 rs2 h1 h2
        simp only [Option.some.injEq,Prod.mk.injEq] at h; obtain ⟨rfl,rfl,rfl⟩:=h
        obtain ⟨g1,g2,g3⟩:=deepA_ok σ r zs' es2 rs2 h2
        obtain ⟨_,d2,_,_⟩:=deepC_ok σ _ _ es1 rs1 h1
        refine ⟨by simp [g1],fun e he => ?_,fun j x y hx hy => ?_⟩
        · rcases List.mem_append.1 he with he | he
          · obtain ⟨i,k,n,g,q1,q2,q3⟩:=d2 e he; exact ⟨i,k,n,g,q1,by simp [q2],q3⟩
          · obtain ⟨i,k,n,g,q1,q2,q3⟩:=g2 e he; exact ⟨i,k,n,g,q1,by simp [q2],q3⟩
        · cases j with
          | zero =>
            simp at hx hy; subst hx; subst hy
            exact .inr (.inr (.inr ⟨i,z,es1,rs1,rfl,h1,fun e he => by simp [he],fun e he => by simp [he],rfl⟩))
          | succ j =>
            rcases g3 j x y (by simpa using hx) (by simpa using hy) with q | q | ⟨cs',zs',es',rs',q1,q2,q3,q4,q5⟩ | ⟨i,z,es',rs',q1,q2,q3,q4,q5⟩
            · exact .inl q
            · exact .inr (.inl q)
            · exact .inr (.inr (.inl ⟨cs',zs',es',rs',q1,q2,fun e he => by simp [q3 e he],fun e he => by simp [q4 e he],q5⟩))
            · exact .inr (.inr (.inr ⟨i,z,es',rs',q1,q2,fun e he => by simp [q3 e he],fun e he => by simp [q4 e he],q5⟩))
      · simp at h
    · rename_i m c
      split at h
      · rename_i zs' es2 rs2 h2
        simp only [Option.some.injEq,Prod.mk.injEq] at h; obtain ⟨rfl,rfl,rfl⟩:=h
        obtain ⟨g1,g2,g3⟩:=deepA_ok σ r zs' _ _ h2
        refine ⟨by simp [g1],g2,fun j x y hx hy => ?_⟩
        cases j with
        | zero => simp at hx hy; subst hx; subst hy; exact .inr (.inl ⟨m,c,rfl,rfl⟩)
        | succ j => exact g3 j x y (by simpa using hx) (by simpa using hy)
      · simp at h
    · simp at h
theorem args_rep (h' : InvX I β τ Y E B K I0 N w0 a w) {σ : Sy} {K0 : Nat → Option TC} {es : List Ef} (hF : FrzIn K0 es) (hK2 : K = efK K0 es) (hA : ∀ i k n g,Ef.k i (.frz k n g) ∈ es → K i = some (.frz k n g)) {xs : List Operand} {rd : Operand → SV} {ys : List SV} {rs : List Res}
    (hrd : ∀ x ∈ xs,Mt I β τ Y w (a.eval x) (rd x)) (hd : deepA σ (xs.map rd) = some (ys,es,rs)) (hK : ∀ k,Res.k k ∈ rs → K0 k = nth σ.tk k) :
    ys.length = xs.length ∧ ∀ (j : Nat) (u : Value) (s : SV),(xs.map a.eval)[j]? = some u → ys[j]? = some s → RepS I w u s:=by
  obtain ⟨k1,k2,k3⟩:=deepA_ok σ _ _ _ _ hd
  have k1 : ys.length = xs.length:=by simpa using k1
  refine ⟨k1,fun j u s hu hs => ?_⟩
  simp only [List.getElem?_map,Option.map_eq_some_iff] at hu
  obtain ⟨x,hx,rfl⟩:=hu
  have hm':=hrd x (List.mem_of_getElem? hx)
  have hxs : (xs.map rd)[j]? = some (rd x):=by simp [hx]
  intro Y'
  rcases k3 j _ _ hxs hs with ⟨z,q1,rfl⟩ | ⟨m,cc,q1,rfl⟩ | ⟨cs,zs,es',rs',q1,q2,q3,q4,rfl⟩ | ⟨i,z,es',rs',q1,q2,q3,q4,rfl⟩
  · rw [q1] at hm'; exact .d (mt_d hm')
  · rw [q1] at hm'
    generalize a.eval x = xv at hm'
    cases hm' with
    | q us h1 h2 h3 => exact .d (.ref us h1 h2 h3)
  · rw [q1] at hm'
    generalize a.eval x = xv at hm'
    cases hm' with
    | agg hl hm hone =>
      rename_i cvs
      obtain ⟨r1,r2⟩:=deepC_rep h' hF hK2 hA (cs:=cvs) ⟨hl,hm,hone⟩ q2 (fun k hk => hK k (q4 _ hk)) q3
      refine .agg (by simp [r1]) (fun j u y hu hy => ?_) hone
      simp only [List.getElem?_map,Option.map_eq_some_iff] at hy
      obtain ⟨y',hy',rfl⟩:=hy
      exact .d (r2 j u y' hu hy')
  · rw [q1] at hm'
    have hone : (a.eval x).oneCell' = true:=by
      generalize a.eval x = v at hm'
      cases hm' with | tk _ h1 => exact h1
    have hc:=CM.single hm' hone
    obtain ⟨r1,r2⟩:=deepC_rep h' hF hK2 hA hc q2 (fun k hk => hK k (q4 _ hk)) q3
    refine .d (r2 0 _ z ?_ rfl)
    rw [cells_one hone]; rfl
theorem metT_spec {t : Nat} {m : String} {g : FuncId} (h : metT P t m = some g) (v : Value) (w : World) (fuel : Nat) : (method (fuel + 1) t v m).run P w = .ok (g,v) w:=by
  unfold metT at h
  split at h
  · rename_i i d hi hd
    split at h
    · rename_i mt hmt
      split at h
      · rename_i f hf
        split at h
        · rename_i hc
          simp at h; subst h
          have hp' : mt.path = #[]:=by simpa using hc.1
          have hnp:=hc.2
          simp only [method,typeInfo,program,Sem.run_bind,Sem.run,Result.andThen_ok,hi,Sem.run_pure,hmt,hp',follow,hf,receiverAt,underlying,hd]
          cases d with
          | pointer e => simp [isPtr] at hnp
          | _ => rfl
        · cases h
      · cases h
    · cases h
  · cases h
theorem call_args (h : InvX I β τ Y E B K I0 N w0 a w) {σ : Sy} {c : Call} {rd : Operand → SV} {g : FuncId} {A : List SV} {es : List Ef} {rs : List Res} (ho : o.op = .call c)
    (hrd : ∀ x ∈ c.operands,Mt I β τ Y w (a.eval x) (rd x)) (hK : ∀ k,Res.k k ∈ rs → K k = nth σ.tk k) (he : calA P rd σ c = some (g,A,es,rs)) :
    FrzIn K es ∧ ∃ I' vs,InvX I' β τ Y E B (efK K es) I0 N w0 a w ∧ vs.size = A.length ∧ (∀ (j : Nat) (u : Value) (s : SV),vs[j]? = some u → A[j]? = some s → RepS I' w u s) ∧
      (∀ fn,P.funcs[g]? = some fn → (fn.name == "runtime.NumGoroutine") = false → fn.body.isNone = false → (execOp a.eval o).run P w = .ok (.enter g vs) w):=by
  have hF : ∀ {xs ys es' rs'},deepA σ xs = some (ys,es',rs') → es' = es → rs' = rs → FrzIn K es:=by
    intro xs ys es' rs' hd e1 e2
    subst e1; subst e2
    obtain ⟨_,k2,_⟩:=deepA_ok σ _ _ _ _ hd
    intro e he
    obtain ⟨i,k,n,g,q1,q2,e',q3⟩:=k2 e he
    exact ⟨i,k,n,g,q1,.inl ⟨e',by rw [hK i q2]; exact q3⟩⟩
  have hcall : ∀ {vs : Array Value},(∀ fn,P.funcs[g]? = some fn → (fn.name == "runtime.NumGoroutine") = false → fn.body.isNone = false → (callFunc g vs).run P w = .ok (.enter g vs) w):=by
    intro vs fn hfn hname hbody
    have hname' : ¬ (fn.name = "runtime.NumGoroutine"):=by simpa using hname
    have hbody' : ¬ (fn.body = none):=by intro e; rw [e] at hbody; cases hbody
    simp [callFunc,hfn,hname',hbody']
  unfold calA at he
  split at he
  · cases he
  · rename_i f hcal
    have hf : Mt I β τ Y w (a.eval f) (rd f):=hrd f (by simp [Call.operands,hcal])
    have hxs : ∀ x ∈ c.args.toList,Mt I β τ Y w (a.eval x) (rd x):=fun x hx => hrd x (by simp [Call.operands,hcal]; right; simpa using hx)
    generalize hs : rd f = s at he hf
    unfold argE at he
    split at he
    · rename_i g' n cc
      split at he
      · rename_i ys es' rs' hd
        simp at he; obtain ⟨rfl,rfl,rfl,rfl⟩:=he
        have hFz:=hF hd rfl rfl
        obtain ⟨I',h',hI,hA⟩:=freezeAll es' h hFz
        obtain ⟨l1,l2⟩:=args_rep h' hFz rfl hA (fun x hx => (hxs x hx).mono hI (fun _ _ => rfl) (fun _ _ h => h) (fun _ _ h => h)) hd hK
        have hrf:=mt_d hf
        generalize hvf : a.eval f = vf at hrf
        cases hrf with
        | clo hl hrep =>
          rename_i us
          refine ⟨hFz,I',c.args.map a.eval ++ us,h',by simp [take_len,l1,hl],?_,?_⟩
          · intro j u s hu hs
            by_cases hj : j < c.args.size
            · rw [Array.getElem?_append_left (by simpa using hj)] at hu
              rw [List.getElem?_append_left (by simp at l1; omega)] at hs
              exact l2 j u s (by simpa using hu) hs
            · rw [Array.getElem?_append_right (by simpa using hj)] at hu
              rw [List.getElem?_append_right (by simp at l1; omega),l1] at hs
              simp only [Array.size_map,Array.length_toList] at hu hs
              have hjn : j - c.args.size < n:=by rw [← hl]; exact (Array.getElem?_eq_some_iff.1 hu).1
              rw [take_get cc n 0 _ hjn] at hs
              simp at hs; subst hs; intro Y'
              exact .d ((hrep _ _ hu).mono hI (fun _ _ => rfl))
          · intro fn hfn hname hbody
            simp only [execOp,ho,resolve,hcal,hvf,Deferred.ofValue,Sem.run_bind,Sem.run_pure,Result.andThen_ok,invoke]
            simpa using hcall (vs:=c.args.map a.eval ++ us) fn hfn hname hbody
      · cases he
    · rename_i g' n cc
      split at he
      · rename_i ys es' rs' hd
        simp at he; obtain ⟨rfl,rfl,rfl,rfl⟩:=he
        have hFz:=hF hd rfl rfl
        obtain ⟨I',h',hI,hA⟩:=freezeAll es' h hFz
        obtain ⟨l1,l2⟩:=args_rep h' hFz rfl hA (fun x hx => (hxs x hx).mono hI (fun _ _ => rfl) (fun _ _ h => h) (fun _ _ h => h)) hd hK
        have hrf:=mt_d hf
        generalize hvf : a.eval f = vf at hrf
        cases hrf with
        | bm hl h1 hrep =>
          rename_i us
          refine ⟨hFz,I',#[.agg us] ++ c.args.map a.eval,h',by simp [l1]; omega,?_,?_⟩
          · intro j u s hu hs
            cases j with
            | zero =>
              rw [Array.getElem?_append_left (by simp)] at hu
              simp at hu hs; subst hu; subst hs
              intro Y'
              refine .agg (by simp [take_len,hl]) (fun j u x hu hx => ?_) h1
              have hjn : j < n:=by rw [← hl]; exact (Array.getElem?_eq_some_iff.1 hu).1
              rw [take_get cc n 0 _ hjn] at hx
              simp at hx; subst hx
              exact .d ((hrep _ _ hu).mono hI (fun _ _ => rfl))
            | succ j =>
              rw [Array.getElem?_append_right (by simp)] at hu
              exact l2 j u s (by simpa using hu) (by simpa using hs)
          · intro fn hfn hname hbody
            simp only [execOp,ho,resolve,hcal,hvf,Deferred.ofValue,Sem.run_bind,Sem.run_pure,Result.andThen_ok,invoke]
            simpa using hcall (vs:=#[.agg us] ++ c.args.map a.eval) fn hfn hname hbody
      · cases he
    · cases he
  · rename_i x m hcal
    have hf : Mt I β τ Y w (a.eval x) (rd x):=hrd x (by simp [Call.operands,hcal])
    have hxs : ∀ x ∈ c.args.toList,Mt I β τ Y w (a.eval x) (rd x):=fun x hx => hrd x (by simp [Call.operands,hcal]; right; simpa using hx)
    generalize hs : rd x = s at he hf
    unfold argI at he
    split at he
    · rename_i t n cc
      split at he
      · rename_i g' ys es' rs' hmt hd
        simp at he; obtain ⟨rfl,rfl,rfl,rfl⟩:=he
        have hFz:=hF hd rfl rfl
        obtain ⟨I',h',hI,hA⟩:=freezeAll es' h hFz
        obtain ⟨l1,l2⟩:=args_rep h' hFz rfl hA (fun x hx => (hxs x hx).mono hI (fun _ _ => rfl) (fun _ _ h => h) (fun _ _ h => h)) hd hK
        have hrf:=mt_d hf
        generalize hvf : a.eval x = vf at hrf
        cases hrf with
        | ifc hl hrep =>
          rename_i us
          refine ⟨hFz,I',#[.agg us] ++ c.args.map a.eval,h',by simp [l1]; omega,?_,?_⟩
          · intro j u s hu hs
            cases j with
            | zero =>
              rw [Array.getElem?_append_left (by simp)] at hu
              simp at hu hs; subst hu; subst hs
              intro Y'
              refine .agg (by simp [take_len,hl]) (fun j u x hu hx => ?_) (fun u hu => ?_)
              · have hjn : j < n:=by rw [← hl]; exact (Array.getElem?_eq_some_iff.1 hu).1
                rw [take_get cc n 0 _ hjn] at hx
                simp at hx; subst hx
                exact .d ((hrep _ _ hu).mono hI (fun _ _ => rfl))
              · obtain ⟨j,hj,rfl⟩:=Array.getElem_of_mem hu
                exact (hrep j _ (Array.getElem?_eq_getElem hj)).one
            | succ j =>
              rw [Array.getElem?_append_right (by simp)] at hu
              exact l2 j u s (by simpa using hu) (by simpa using hs)
          · intro fn hfn hname hbody
            have hm:=metT_spec hmt (.agg us) w (P.types.size + Made.depth - 1)
            have hd1 : P.types.size + Made.depth - 1 + 1 = P.types.size + Made.depth:=by
              have : 1 ≤ Made.depth:=by decide
              omega
            rw [hd1] at hm
            have hc:=hcall (vs:=#[.agg us] ++ c.args.map a.eval) fn hfn hname hbody
            have he : (#[Value.iface t (.agg us)] ++ c.args.map a.eval).extract 1 (#[Value.iface t (.agg us)] ++ c.args.map a.eval).size = c.args.map a.eval:=by
              apply Array.ext'
              simp
              exact List.take_of_length_le (by simp)
            simp only [execOp,ho,resolve,hcal,hvf,Sem.run_bind,Sem.run_pure,Result.andThen_ok,invoke]
            simp only [Array.getElem?_append_left (show 0 < (#[Value.iface t (.agg us)]).size by simp),he]
            simp only [List.getElem?_toArray,List.getElem?_cons_zero,callMethod,program,Sem.run_bind,Sem.run,Result.andThen_ok,hm,hc]
      · cases he
    · cases he
theorem sound_fun {T : Tab} (hT : TabOK P T) (h : InvX I β τ Y E B K I0 N w0 a w) (hd : ∀ d,o.dst = some d → d < N) {σ : Sy} {c : Call} {rd : Operand → SV} {ev : Ev} (ho : o.op = .call c)
    (hrd : ∀ x ∈ c.operands,Mt I β τ Y w (a.eval x) (rd x)) (hK : ∀ k,Res.k k ∈ ev.rs → K k = nth σ.tk k) (he : funE T (calA P rd σ c) = some ev) (hp : ev.p) : Sound P Q Y E B K I0 N w0 a w o ev.v ev.ef:=by
  unfold funE at he
  split at he
  · rename_i g A es rs hA
    split at he
    · rename_i p r hTr
      obtain rfl:=Option.some.inj he
      obtain ⟨⟨fn,hfn,hname,hbody⟩,hcall⟩:=hT _ _ _ _ hTr hp
      obtain ⟨hF,I',vs,h',hl,hargs,hrun⟩:=call_args h ho hrd hK hA
      have hc:=hcall I' w vs (Glob.st _ _ h'.bs h'.bel) h'.hI hl hargs
      unfold Sound Oper.wp
      rw [hrun fn hfn hname hbody]
      show Calls P g _ w _
      refine hc.mono fun e w' he => ?_
      obtain ⟨v,rfl,hv,hb⟩:=he
      have hBf:=efB_frz es B (fun e' he' => by
        obtain ⟨i',k',n',g',q1,_⟩:=hF _ he'
        exact ⟨i',_,q1⟩)
      refine ⟨fun b => I' b ∨ (w.heap.size ≤ b ∧ b < w'.heap.size),β,τ,?_⟩
      show InvX _ _ _ _ _ (efB B es) _ _ _ _ _ _
      rw [hBf]
      refine h'.quiet hb hd ?_
      exact (hv Y).mono (fun _ h => h) (fun _ _ => rfl) (fun _ _ h => by cases h) (fun _ _ h => by cases h)
    · simp at he
  · simp at he
def Pan (I0 : Nat → Prop) (w0 : World) (d : DV) (ch : List PanicEntry) (a : Act) (w : World) : Prop :=
  a.defers = [] ∧ (∃ v I,ch = [{ v:=v,recovered:=false }] ∧ (∀ b,I b → b < w.heap.size) ∧ (∀ b,I b → I0 b ∨ w0.heap.size ≤ b) ∧ Rep I w v d) ∧ Below w0.heap.size w0 w
def CtrP (P : Program) (f : FuncId) (A : List SV) (d : DV) : Prop :=
  (∃ fn,P.funcs[f]? = some fn ∧ (fn.name == "runtime.NumGoroutine") = false ∧ fn.body.isNone = false) ∧
  ∀ (I : Nat → Prop) (w : World) (vs : Array Value),Glob.G w → (∀ b,I b → b < w.heap.size) → vs.size = A.length → (∀ (j : Nat) (u : Value) (s : SV),vs[j]? = some u → A[j]? = some s → RepS I w u s) →
    Calls P f vs w fun e w' => ∃ v I',e = .panicked [{ v:=v,recovered:=false }] ∧ (∀ b,I' b → b < w'.heap.size) ∧ (∀ b,I' b → I b ∨ w.heap.size ≤ b) ∧ Rep I' w' v d ∧ Below w.heap.size w w'
theorem InvX.pan (h : InvX I β τ Y E B K I0 N w0 a w) {w' : World} (hb : Below w.heap.size w w') {v : Value} {I' : Nat → Prop} {d : DV} (hI : ∀ b,I' b → b < w'.heap.size) (h0 : ∀ b,I' b → I b ∨ w.heap.size ≤ b) (hv : Rep I' w' v d) : Pan I0 w0 d [{ v:=v,recovered:=false }] a w' :=
  ⟨h.df,⟨v,I',rfl,hI,fun b hb => by
    rcases h0 b hb with h1 | h1
    · exact h.i0 b h1
    · have:=h.bel.size; exact .inr (by omega),hv⟩,h.bel.trans (hb.mono h.bel.size)⟩
theorem panic_fun (h : InvX I β τ Y E B K I0 N w0 a w) {σ : Sy} {c : Call} {rd : Operand → SV} {g : FuncId} {A : List SV} {es : List Ef} {rs : List Res} {d : DV} (ho : o.op = .call c)
    (hrd : ∀ x ∈ c.operands,Mt I β τ Y w (a.eval x) (rd x)) (hK : ∀ k,Res.k k ∈ rs → K k = nth σ.tk k) (he : calA P rd σ c = some (g,A,es,rs)) (hp : CtrP P g A d) {next : Act → World → Prop}
    (hQ : ∀ ch w',Pan I0 w0 d ch a w' → Q (.panic ch) a w') : o.wp P a w next Q:=by
  obtain ⟨⟨fn,hfn,hname,hbody⟩,hcall⟩:=hp
  obtain ⟨hF,I',vs,h',hl,hargs,hrun⟩:=call_args h ho hrd hK he
  have hc:=hcall I' w vs (Glob.st _ _ h'.bs h'.bel) h'.hI hl hargs
  unfold Oper.wp
  rw [hrun fn hfn hname hbody]
  show Calls P g _ w _
  refine hc.mono fun e w' he => ?_
  obtain ⟨v,J,rfl,h1,h2,hv,hb⟩:=he
  exact hQ _ _ (h'.pan hb h1 h2 hv)
theorem panic_op (h : InvX I β τ Y E B K I0 N w0 a w) {x : Operand} {d : DV} (ho : o.op = .panic x) (hx : Mt I β τ Y w (a.eval x) (.d d)) (hd : (∃ t n c,d = .ifc t n c) ∨ ∃ t y,d = .if1 t y) {next : Act → World → Prop}
    (hQ : ∀ ch w',Pan I0 w0 d ch a w' → Q (.panic ch) a w') : o.wp P a w next Q:=by
  have hv:=mt_d hx
  have he : ∃ t v,a.eval x = .iface t v:=by
    generalize a.eval x = v at hv
    rcases hd with ⟨t,n,c,rfl⟩ | ⟨t,y,rfl⟩
    · cases hv; exact ⟨_,_,rfl⟩
    · cases hv; exact ⟨_,_,rfl⟩
  obtain ⟨t,v,he⟩:=he
  unfold Oper.wp
  have hr : (execOp a.eval o).run P w = .halt (.panic (a.eval x)) w:=by
    simp [execOp,ho,Instr.panic,he,goPanic]
  rw [hr]
  exact hQ _ _ (h.pan (Below.refl _ _) h.hI (fun b hb => .inl hb) hv)
theorem allD_ok : ∀ (xs : List SV) (ys : List DV),allD xs = some ys → ys.length = xs.length ∧ ∀ (j : Nat) (y : DV),ys[j]? = some y → xs[j]? = some (.d y)
  | [],ys,h => by simp [allD] at h; subst h; exact ⟨rfl,fun j y hy => by simp at hy⟩
  | x :: r,ys,h => by
    unfold allD at h
    split at h
    · cases ‹_ :: _ = []›
    · rename_i x' r' e
      cases e
      split at h
      · rename_i ys' h'
        simp at h; subst h
        obtain ⟨g1,g2⟩:=allD_ok r ys' h'
        refine ⟨by simp [g1],fun j y hy => ?_⟩
        cases j with
        | zero => simp at hy; subst hy; rfl
        | succ j => exact g2 j y hy
      · cases h
    · cases h
theorem dget_of {ys : List DV} {j : Nat} (h : j < ys.length) : ys[j]? = some (dget ys j):=by
  unfold dget
  rw [List.getD_eq_getElem?_getD,List.getElem?_eq_getElem h]; rfl
theorem capV_ok (h : InvX I β τ Y E B K I0 N w0 a w) {σ : Sy} {s : SV} {x : DV} {rs : List Res} (hc : capV σ s = some (x,rs)) (hB : ∀ k,Res.b k ∈ rs → B k = nth σ.bx k) {v : Value} (hv : Mt I β τ Y w v s) : Rep I w v x:=by
  unfold capV at hc
  split at hc
  · simp at hc; obtain ⟨rfl,rfl⟩:=hc; exact mt_d hv
  · rename_i b
    split at hc
    · rename_i c hb
      split at hc
      · rename_i hf
        split at hc
        · rename_i ys hys
          simp at hc; obtain ⟨rfl,rfl⟩:=hc
          obtain ⟨g1,g2⟩:=allD_ok _ _ hys
          have hb':=hB b (by simp)
          rw [hb] at hb'
          obtain ⟨blk,cs,T,b1,b2,b3,b4,b5,b6,b7,b8⟩:=(h.box b c hb').ex hf.2
          cases hv with
          | p hp =>
            rw [b1] at hp; cases hp
            refine .ref (fun j => (cs[j]?).getD undef) (b7 hf.1) (fun j hj => ?_) (fun j hj => ?_)
            · have hlt : j < cs.size:=by omega
              rw [cell_of_row w blk (0 + j) cs T (0,0) b3]
              simp [hlt]
            · have hlt : j < cs.size:=by omega
              have:=b5 j cs[j] (.d (dget ys j)) (by simp [hlt]) (g2 j _ (dget_of hj))
              simp only [hlt,Array.getElem?_eq_getElem,Option.getD_some]
              exact mt_d this
        · cases hc
      · cases hc
    · cases hc
  · simp at hc; obtain ⟨rfl,rfl⟩:=hc
    cases hv with
    | q us h1 h2 h3 => exact .ref us h1 h2 h3
  · cases hc
theorem capsV_ok (h : InvX I β τ Y E B K I0 N w0 a w) {σ : Sy} {rd : Operand → SV} : ∀ (xs : List Operand) (ys : List DV) (rs : List Res),capsV σ (xs.map rd) = some (ys,rs) → (∀ k,Res.b k ∈ rs → B k = nth σ.bx k) → (∀ x ∈ xs,Mt I β τ Y w (a.eval x) (rd x)) →
    ys.length = xs.length ∧ ∀ (j : Nat) (u : Value),(xs.map a.eval)[j]? = some u → Rep I w u (dget ys j)
  | [],ys,rs,hc,_,_ => by
    simp [capsV] at hc; obtain ⟨rfl,rfl⟩:=hc
    exact ⟨rfl,fun j u hu => by simp at hu⟩
  | x :: r,ys,rs,hc,hB,hx => by
    simp only [List.map_cons,capsV] at hc
    split at hc
    · rename_i y rs1 ys' rs2 h1 h2
      simp at hc; obtain ⟨rfl,rfl⟩:=hc
      obtain ⟨g1,g2⟩:=capsV_ok h r ys' rs2 h2 (fun k hk => hB k (by simp [hk])) (fun x hx' => hx x (by simp [hx']))
      refine ⟨by simp [g1],fun j u hu => ?_⟩
      cases j with
      | zero =>
        simp at hu; subst hu
        exact capV_ok h h1 (fun k hk => hB k (by simp [hk])) (hx x (by simp))
      | succ j => exact g2 j u (by simpa using hu)
    · cases hc
theorem sound_mkf (h : InvX I β τ Y E B K I0 N w0 a w) (hd : ∀ d,o.dst = some d → d < N) {σ : Sy} {f : FuncId} {first caps : Array Operand} {rd : Operand → SV} {ev : Ev} (ho : o.op = .makeFunc (.func f) first caps) (hf : first.toList = [])
    (hrd : ∀ x ∈ caps,Mt I β τ Y w (a.eval x) (rd x)) (hB : ∀ k,Res.b k ∈ ev.rs → B k = nth σ.bx k) (he : mkfE σ f (caps.toList.map rd) = some ev) : Sound P Q Y E B K I0 N w0 a w o ev.v ev.ef:=by
  unfold mkfE at he
  split at he
  · rename_i xs rs hc
    obtain rfl:=Option.some.inj he
    obtain ⟨g1,g2⟩:=capsV_ok h caps.toList xs rs hc hB (fun x hx => hrd x (by simpa using hx))
    have hfi : first = #[]:=by cases first; simpa using hf
    subst hfi
    refine sound_pure h hd (v:=.func (.func f) #[] (caps.map a.eval)) ?_ (.d (.clo (by simp [g1]) (fun j u hu => g2 j u (by simpa using hu))))
    simp [execOp,ho,Instr.makeFunc]
  · cases he
end
end Go.RX
