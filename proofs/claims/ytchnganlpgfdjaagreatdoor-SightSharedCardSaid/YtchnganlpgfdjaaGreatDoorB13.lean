/-
  The program's functions,contracts: what each one returns,whatever the world: part 14. No condition.
-/
import Derived.Test.YtchnganlpgfdjaaGreatDoorB00
import Derived.Test.YtchnganlpgfdjaaGreatDoorB01
import Derived.Test.YtchnganlpgfdjaaGreatDoorB02
import Derived.Test.YtchnganlpgfdjaaGreatDoorB03
import Derived.Test.YtchnganlpgfdjaaGreatDoorB04
import Derived.Test.YtchnganlpgfdjaaGreatDoorB05
import Derived.Test.YtchnganlpgfdjaaGreatDoorB06
import Derived.Test.YtchnganlpgfdjaaGreatDoorB07
import Derived.Test.YtchnganlpgfdjaaGreatDoorB08
import Derived.Test.YtchnganlpgfdjaaGreatDoorB09
import Derived.Test.YtchnganlpgfdjaaGreatDoorB10
import Derived.Test.YtchnganlpgfdjaaGreatDoorB11
import Derived.Test.YtchnganlpgfdjaaGreatDoorB12
set_option linter.all false
set_option linter.unusedVariables false
set_option linter.unusedSectionVars false
set_option linter.unusedSimpArgs false
set_option linter.unnecessarySimpa false
namespace Go.RX
open Go Go.RowKit
variable [Glob]
def logOf (ops : List Oper) (o : Oper) (ev : Ev) : Lg:={ rs:=gdRs ops o.guard ++ opRs o ++ ev.rs,ws:=opWs o ev.ef }
def vOf (o : Oper) (v : SV) : SV:=match o.guard with | none => ung v | some g => .gd g.1 g.2 v
section
variable {P : Program} {Kp : DV → Prop}
structure Nrm (P : Program) (ops : List Oper) (o : Oper) (σ : Sy) (ev : Ev) : Prop where
  he : ∃ T,TabOK P T ∧ opE P T ops (rdG ops σ o.guard) (rdR ops σ o.guard) σ o.op = some ev
  hp : o.guard = none → ev.p
  hg : ∀ g,o.guard = some g → ∃ c,act ops σ 4 g = some c ∧ ev.ef.all Ef.isFrz = true ∧ (c = true → ev.p)
structure PanS (P : Program) (Kp : DV → Prop) (ops : List Oper) (o : Oper) (σ : Sy) (ev : Ev) : Prop where
  hg : o.guard = none
  hv : ev.v = .any
  hf : ev.ef = []
  ho : ∃ d,Kp d ∧ ((∃ x,o.op = .panic x ∧ rdG ops σ none x = .d d ∧ isIf d = true) ∨ ∃ c g A es,o.op = .call c ∧ calA P (rdG ops σ none) σ c = some (g,A,es,ev.rs) ∧ CtrP P g A d)
structure Stp (P : Program) (Kp : DV → Prop) (ops : List Oper) (o : Oper) (σ : Sy) (ev : Ev) (σ' : Sy) (b : Bool) : Prop where
  hn : b = false → Nrm P ops o σ ev
  hb : b = true → PanS P Kp ops o σ ev
  hs : σ' = (σ.ef ev.ef).put o.dst (vOf o ev.v)
theorem Stp.efok {ops : List Oper} {o : Oper} {σ σ' : Sy} {ev : Ev} {b : Bool} (h : Stp P Kp ops o σ ev σ' b) : ∀ e ∈ ev.ef,EfOK σ e:=by
  cases b with
  | false =>
    obtain ⟨T,_,he⟩:=(h.hn rfl).he
    exact opE_ef he
  | true =>
    intro e he
    rw [(h.hb rfl).hf] at he; cases he
theorem rgn_trace (ops : List Oper) (KO : List Lg → Prop) : ∀ (l : List Oper) (σ : Sy) (lg : List Lg) (K : Sy → Prop),rgn P ops KO Kp l σ lg K →
    ∃ (S : Nat → Sy) (ev : Nat → Ev) (pn : Nat → Bool) (lg' : List Lg),S 0 = σ ∧ (∀ i o,nth l i = some o → Stp P Kp ops o (S i) (ev i) (S (i + 1)) (pn i)) ∧ lg'.length = l.length ∧
      (∀ i o,nth l i = some o → nth lg' i = some (logOf ops o (ev i))) ∧ KO (lg ++ lg') ∧ ((∀ i,i < l.length → pn i = false) → K (S l.length))
  | [],σ,lg,K,h => ⟨fun _ => σ,fun _ => ⟨True,.any,[],[]⟩,fun _ => false,[],rfl,fun i o ho => by simp [nth] at ho,rfl,fun i o ho => by simp [nth] at ho,by simpa [rgn] using h.1,fun _ => h.2⟩
  | o :: r,σ,lg,K,h => by
    have main : ∃ ev σ' b K',Stp P Kp ops o σ ev σ' b ∧ rgn P ops KO Kp r σ' (lg ++ [logOf ops o ev]) K' ∧ (b = false → K' = K):=by
      unfold rgn at h
      split at h
      · rename_i hg
        rcases exO_elim h with ⟨ev,he,hp,hk⟩ | ⟨c,g,A,es,rs,hop,hT,hc,hk⟩ | ⟨x,d,hop,hx,hi,hd,hk⟩
        · refine ⟨ev,_,false,K,⟨fun _ => ⟨⟨noT,noT_ok,by rw [hg]; exact he⟩,fun _ => hp,fun g hg' => absurd (hg.symm.trans hg') (by simp)⟩,(fun e => by cases e),rfl⟩,?_,fun _ => rfl⟩
          simpa [vOf,hg,logOf,gdRs] using hk
        · rcases hk with ⟨rr,hctr,hk⟩ | ⟨d,hctr,hd,hk⟩
          · refine ⟨⟨Ctr P g A rr,rr,es,rs⟩,_,false,K,⟨fun _ => ⟨⟨oneT P g A rr,oneT_ok g A rr,?_⟩,fun _ => hctr,fun g hg' => absurd (hg.symm.trans hg') (by simp)⟩,(fun e => by cases e),rfl⟩,?_,fun _ => rfl⟩
            · rw [hg,hT,hc]; simp [funE,oneT]
            · simpa [vOf,hg,logOf,gdRs] using hk
          · refine ⟨⟨True,.any,[],rs⟩,_,true,fun _ => True,⟨fun e => (by cases e),fun _ => ⟨hg,rfl,rfl,d,hd,.inr ⟨c,g,A,es,hop,hc,hctr⟩⟩,rfl⟩,?_,fun e => by cases e⟩
            · simpa [vOf,hg,logOf,gdRs,ung,Sy.ef] using hk
        · refine ⟨⟨True,.any,[],[]⟩,_,true,fun _ => True,⟨fun e => (by cases e),fun _ => ⟨hg,rfl,rfl,d,hd,.inl ⟨x,hop,hx,hi⟩⟩,rfl⟩,?_,fun e => by cases e⟩
          simpa [vOf,hg,logOf,gdRs,ung,Sy.ef] using hk
      · rename_i g hg
        obtain ⟨c,hc,h⟩:=bnA_elim h
        rcases exO_elim h with ⟨ev,he,hf,hp,hk⟩ | ⟨cl,g',A,es,rs,hop,hT,hca,hf,rr,hctr,hk⟩ | ⟨x,d,hop,hx,hi,hd⟩
        · refine ⟨ev,_,false,K,⟨fun _ => ⟨⟨noT,noT_ok,by rw [hg]; exact he⟩,fun hn => absurd (hg.symm.trans hn) (by simp),fun g' hg' => by rw [hg] at hg'; cases hg'; exact ⟨c,hc,hf,hp⟩⟩,(fun e => by cases e),rfl⟩,?_,fun _ => rfl⟩
          simpa [vOf,hg,logOf] using hk
        · refine ⟨⟨Ctr P g' A rr,rr,es,rs⟩,_,false,K,⟨fun _ => ⟨⟨oneT P g' A rr,oneT_ok g' A rr,?_⟩,fun hn => absurd (hg.symm.trans hn) (by simp),fun g' hg' => by rw [hg] at hg'; cases hg'; exact ⟨c,hc,hf,hctr⟩⟩,(fun e => by cases e),rfl⟩,?_,fun _ => rfl⟩
          · rw [hg,hT,hca]; simp [funE,oneT]
          · simpa [vOf,hg,logOf] using hk
        · exact hd.elim
    obtain ⟨ev0,σ',b0,K',h0,hr,hKK⟩:=main
    obtain ⟨S,ev,pn,lg',hS,hst,hl,hlg,hKO,hK⟩:=rgn_trace ops KO r σ' _ K' hr
    refine ⟨fun | 0 => σ | i + 1 => S i,fun | 0 => ev0 | i + 1 => ev i,fun | 0 => b0 | i + 1 => pn i,logOf ops o ev0 :: lg',rfl,?_,by simp [hl],?_,by simpa using hKO,?_⟩
    · intro i o' ho
      cases i with
      | zero => simp only [nth,Option.some.injEq] at ho; subst ho; show Stp P Kp ops o σ ev0 (S 0) b0; rw [hS]; exact h0
      | succ i => exact hst i o' ho
    · intro i o' ho
      cases i with
      | zero => simp only [nth,Option.some.injEq] at ho; subst ho; rfl
      | succ i => exact hlg i o' ho
    · intro hpn
      have e:=hKK (hpn 0 (by simp))
      subst e
      exact hK (fun i hi => hpn (i + 1) (by simp; omega))
inductive RV where
  | t (v : SV)
  | b (c : Option BC)
  | k (c : Option TC)
def Sy.at_ (σ : Sy) : Res → RV
  | .t t => .t (lk σ.env t)
  | .b n => .b (nth σ.bx n)
  | .k n => .k (nth σ.tk n)
theorem setN_len {α : Type} : ∀ (l : List α) (n : Nat) (x : α),l.length ≤ (setN l n x).length
  | [],_,_ => by simp [setN]
  | _ :: r,0,x => by simp [setN]
  | _ :: r,n + 1,x => by simpa [setN] using setN_len r n x
theorem nth_setN {α : Type} : ∀ (l : List α) (n m : Nat) (x : α),n ≤ l.length → nth (setN l n x) m = if m = n then some x else nth l m
  | [],n,m,x,h => by
    have : n = 0:=by simpa using h
    subst this
    cases m <;> simp [setN,nth]
  | a :: r,0,m,x,h => by cases m <;> simp [setN,nth]
  | a :: r,n + 1,m,x,h => by
    cases m with
    | zero => simp [setN,nth]
    | succ m => simp [setN,nth,nth_setN r n m x (by simpa using h)]
def EfIn (nb nk : Nat) : Ef → Prop
  | .b n _ => n ≤ nb
  | .k n _ => n ≤ nk
theorem ef_env : ∀ (es : List Ef) (σ : Sy),(σ.ef es).env = σ.env
  | [],_ => rfl
  | .b _ _ :: r,σ => by simp [Sy.ef,ef_env r]
  | .k _ _ :: r,σ => by simp [Sy.ef,ef_env r]
theorem ef_at : ∀ (es : List Ef) (σ : Sy),(∀ e ∈ es,EfIn σ.bx.length σ.tk.length e) → (∀ n,nth (σ.ef es).bx n = efB (nth σ.bx) es n) ∧ ∀ n,nth (σ.ef es).tk n = efK (nth σ.tk) es n
  | [],_,_ => ⟨fun _ => rfl,fun _ => rfl⟩
  | .b m c :: r,σ,h => by
    have hm:=h (.b m c) (by simp)
    have ih:=ef_at r { σ with bx:=setN σ.bx m c } (fun e he => by
      have:=h e (by simp [he])
      have hl:=setN_len σ.bx m c
      cases e <;> simp only [EfIn] at this ⊢ <;> omega)
    refine ⟨fun n => ?_,fun n => ?_⟩
    · simp only [Sy.ef,efB]
      rw [ih.1 n]
      congr 1
      funext x
      exact (nth_setN _ _ _ _ hm).trans (by simp [upd])
    · simp only [Sy.ef,efK]
      exact ih.2 n
  | .k m c :: r,σ,h => by
    have hm:=h (.k m c) (by simp)
    have ih:=ef_at r { σ with tk:=setN σ.tk m c } (fun e he => by
      have:=h e (by simp [he])
      have hl:=setN_len σ.tk m c
      cases e <;> simp only [EfIn] at this ⊢ <;> omega)
    refine ⟨fun n => ?_,fun n => ?_⟩
    · simp only [Sy.ef,efB]
      exact ih.1 n
    · simp only [Sy.ef,efK]
      rw [ih.2 n]
      congr 1
      funext x
      exact (nth_setN _ _ _ _ hm).trans (by simp [upd])
theorem put_env (σ : Sy) (dst : Option Nat) (v : SV) (t : Nat) : lk (σ.put dst v).env t = if dst = some t then v else lk σ.env t:=by
  cases dst with
  | none => simp [Sy.put]
  | some d =>
    simp only [Sy.put,lk,Option.some.injEq]
theorem put_bx (σ : Sy) (dst : Option Nat) (v : SV) : (σ.put dst v).bx = σ.bx:=by cases dst <;> rfl
theorem put_tk (σ : Sy) (dst : Option Nat) (v : SV) : (σ.put dst v).tk = σ.tk:=by cases dst <;> rfl
theorem efB_none (n : Nat) : ∀ (es : List Ef) (B : Nat → Option BC),(∀ c,Ef.b n c ∉ es) → efB B es n = B n
  | [],_,_ => rfl
  | .b m c :: r,B,h => by
    simp only [efB]
    rw [efB_none n r _ (fun c' hc => h c' (by simp [hc]))]
    refine upd_other _ _ _ _ (fun e => h c ?_)
    subst e; simp
  | .k m c :: r,B,h => by
    simp only [efB]
    exact efB_none n r _ (fun c' hc => h c' (by simp [hc]))
theorem efB_congr (n : Nat) : ∀ (es : List Ef) (B B' : Nat → Option BC),B n = B' n → efB B es n = efB B' es n
  | [],_,_,h => h
  | .b m c :: r,B,B',h => by
    simp only [efB]
    refine efB_congr n r _ _ ?_
    simp only [upd]; split <;> simp [*]
  | .k m c :: r,B,B',h => by simp only [efB]; exact efB_congr n r _ _ h
theorem efK_congr (n : Nat) : ∀ (es : List Ef) (B B' : Nat → Option TC),B n = B' n → efK B es n = efK B' es n
  | [],_,_,h => h
  | .k m c :: r,B,B',h => by
    simp only [efK]
    refine efK_congr n r _ _ ?_
    simp only [upd]; split <;> simp [*]
  | .b m c :: r,B,B',h => by simp only [efK]; exact efK_congr n r _ _ h
theorem mem_ws {o : Oper} {es : List Ef} : (∀ t,Res.t t ∈ opWs o es ↔ o.dst = some t) ∧ (∀ n,Res.b n ∈ opWs o es ↔ ∃ c,Ef.b n c ∈ es) ∧ (∀ n,Res.k n ∈ opWs o es ↔ ∃ c,Ef.k n c ∈ es):=by
  have hm : ∀ r,r ∈ es.map Ef.res ↔ (∃ n c,Ef.b n c ∈ es ∧ r = .b n) ∨ ∃ n c,Ef.k n c ∈ es ∧ r = .k n:=by
    intro r
    rw [List.mem_map]
    constructor
    · rintro ⟨e,he,rfl⟩
      cases e with
      | b n c => exact .inl ⟨n,c,he,rfl⟩
      | k n c => exact .inr ⟨n,c,he,rfl⟩
    · rintro (⟨n,c,he,rfl⟩ | ⟨n,c,he,rfl⟩)
      · exact ⟨_,he,rfl⟩
      · exact ⟨_,he,rfl⟩
  refine ⟨fun t => ?_,fun n => ?_,fun n => ?_⟩ <;> unfold opWs <;> rw [List.mem_append,hm]
  · constructor
    · rintro (h | ⟨n,c,_,h⟩ | ⟨n,c,_,h⟩)
      · cases hd : o.dst with
        | none => simp [hd] at h
        | some d => simp [hd] at h; rw [h]
      · cases h
      · cases h
    · intro h; left; simp [h]
  · constructor
    · rintro (h | ⟨n,c,he,h⟩ | ⟨n,c,_,h⟩)
      · cases hd : o.dst <;> simp [hd] at h
      · cases h; exact ⟨c,he⟩
      · cases h
    · rintro ⟨c,h⟩; exact .inr (.inl ⟨n,c,h,rfl⟩)
  · constructor
    · rintro (h | ⟨n,c,_,h⟩ | ⟨n,c,he,h⟩)
      · cases hd : o.dst <;> simp [hd] at h
      · cases h
      · cases h; exact ⟨c,he⟩
    · rintro ⟨c,h⟩; exact .inr (.inr ⟨n,c,h,rfl⟩)
theorem Stp.in {ops : List Oper} {o : Oper} {σ σ' : Sy} {ev : Ev} {b : Bool} (h : Stp P Kp ops o σ ev σ' b) : ∀ e ∈ ev.ef,EfIn σ.bx.length σ.tk.length e:=by
  intro e he
  have:=h.efok e he
  cases e with
  | b n c => exact this
  | k n c => exact this.1
theorem Stp.same {ops : List Oper} {o : Oper} {σ σ' : Sy} {ev : Ev} {b : Bool} (h : Stp P Kp ops o σ ev σ' b) {r : Res} (hr : r ∉ opWs o ev.ef) : σ'.at_ r = σ.at_ r:=by
  rw [h.hs]
  obtain ⟨m1,m2,m3⟩:=mem_ws (o:=o) (es:=ev.ef)
  cases r with
  | t t =>
    have hd : ¬ o.dst = some t:=fun e => hr ((m1 t).2 e)
    simp only [Sy.at_,put_env,ef_env,if_neg hd]
  | b n =>
    simp only [Sy.at_,put_bx]
    rw [(ef_at ev.ef σ h.in).1 n,efB_none n _ _ (fun c hc => hr ((m2 n).2 ⟨c,hc⟩))]
  | k n =>
    simp only [Sy.at_,put_tk]
    rw [(ef_at ev.ef σ h.in).2 n,efK_other n _ _ (fun c hc => hr ((m3 n).2 ⟨c,hc⟩))]
section reg
variable (ops : List Oper) (S : Nat → Sy) (ev : Nat → Ev)
def wr (i : Nat) (r : Res) : Bool :=
  match nth ops i with
  | some o => (opWs o (ev i).ef).contains r
  | none => false
def cur (D : Nat → Bool) (r : Res) : Nat → Nat
  | 0 => 0
  | n + 1 => if D n && wr ops ev n r then n + 1 else cur D r n
variable {ops S ev} {pn : Nat → Bool}
theorem cur_spec {D : Nat → Bool} {r : Res} : ∀ n,cur ops ev D r n ≤ n ∧ (∀ j,cur ops ev D r n ≤ j → j < n → ¬ (D j = true ∧ wr ops ev j r = true)) ∧ (∀ j,cur ops ev D r n = j + 1 → D j = true ∧ wr ops ev j r = true)
  | 0 => ⟨Nat.le_refl _,fun j _ h => by omega,fun j h => by simp [cur] at h⟩
  | n + 1 => by
    obtain ⟨h1,h2,h3⟩:=cur_spec (D:=D) (r:=r) n
    unfold cur
    by_cases hc : (D n && wr ops ev n r) = true
    · rw [if_pos hc]
      refine ⟨Nat.le_refl _,fun j h1 h2 => by omega,fun j h => ?_⟩
      have : j = n:=by omega
      subst this; simpa using hc
    · rw [if_neg hc]
      refine ⟨by omega,fun j hj1 hj2 => ?_,h3⟩
      by_cases e : j = n
      · subst e; simpa using hc
      · exact h2 j hj1 (by omega)
def Tr (P : Program) (Kp : DV → Prop) (ops : List Oper) (S : Nat → Sy) (ev : Nat → Ev) (pn : Nat → Bool) : Prop:=∀ i o,nth ops i = some o → Stp P Kp ops o (S i) (ev i) (S (i + 1)) (pn i)
theorem wr_none {i : Nat} {r : Res} {o : Oper} (ho : nth ops i = some o) : wr ops ev i r = false ↔ r ∉ opWs o (ev i).ef:=by
  simp [wr,ho]
theorem wr_some {i : Nat} {r : Res} {o : Oper} (ho : nth ops i = some o) : wr ops ev i r = true ↔ r ∈ opWs o (ev i).ef:=by
  simp [wr,ho]
theorem nth_of_lt {α : Type} {l : List α} {i : Nat} (h : i < l.length) : ∃ x,nth l i = some x:=by
  rw [nth_eq]; exact ⟨_,List.getElem?_eq_getElem h⟩
theorem seg (hS : Tr P Kp ops S ev pn) {r : Res} {a : Nat} : ∀ b,a ≤ b → b ≤ ops.length → (∀ j,a ≤ j → j < b → wr ops ev j r = false) → (S b).at_ r = (S a).at_ r:=by
  intro b
  induction b with
  | zero => intro h _ _; have : a = 0:=by omega
            subst this; rfl
  | succ b ih =>
    intro hab hb hw
    by_cases e : a = b + 1
    · subst e; rfl
    · obtain ⟨o,ho⟩:=nth_of_lt (l:=ops) (i:=b) (by omega)
      rw [(hS b o ho).same ((wr_none ho).1 (hw b (by omega) (by omega)))]
      exact ih (by omega) (by omega) (fun j h1 h2 => hw j h1 (by omega))
theorem cur_agree (hS : Tr P Kp ops S ev pn) {D : Nat → Bool} {r : Res} {i : Nat} (hi : i ≤ ops.length) (h1 : ∀ j,j < i → wr ops ev j r = true → D j = true) (h2 : ∀ j,i ≤ j → j < ops.length → wr ops ev j r = true → D j = false) :
    (S (cur ops ev D r ops.length)).at_ r = (S i).at_ r:=by
  obtain ⟨c1,c2,c3⟩:=cur_spec (ops:=ops) (ev:=ev) (D:=D) (r:=r) ops.length
  have hc : cur ops ev D r ops.length ≤ i:=by
    generalize hcc : cur ops ev D r ops.length = c at *
    cases c with
    | zero => omega
    | succ j =>
      obtain ⟨d1,d2⟩:=c3 j rfl
      apply Classical.byContradiction
      intro hn
      have:=h2 j (by omega) (by omega) d2
      rw [d1] at this; cases this
  refine (seg hS i hc hi (fun j hj1 hj2 => ?_)).symm
  cases hw : wr ops ev j r with
  | false => rfl
  | true => exact absurd ⟨h1 j hj2 hw,hw⟩ (c2 j hj1 (by omega))
theorem cur_add {D D' : Nat → Bool} {i : Nat} (hD : ∀ j,D' j = (D j || decide (j = i))) {r : Res} (hi : i < ops.length) :
    (wr ops ev i r = true → (∀ j,i < j → j < ops.length → wr ops ev j r = true → D j = false) → cur ops ev D' r ops.length = i + 1) ∧
    (wr ops ev i r = false → cur ops ev D' r ops.length = cur ops ev D r ops.length):=by
  constructor
  · intro hw hl
    obtain ⟨c1,c2,c3⟩:=cur_spec (ops:=ops) (ev:=ev) (D:=D') (r:=r) ops.length
    apply Classical.byContradiction
    intro hn
    rcases Nat.lt_or_ge i (cur ops ev D' r ops.length) with h | h
    · generalize hcc : cur ops ev D' r ops.length = c at *
      cases c with
      | zero => omega
      | succ j =>
        obtain ⟨d1,d2⟩:=c3 j rfl
        have hj : D j = false:=hl j (by omega) (by omega) d2
        rw [hD,hj] at d1
        simp at d1
        omega
    · exact c2 i h hi ⟨by rw [hD]; simp,hw⟩
  · intro hw
    have : ∀ n,cur ops ev D' r n = cur ops ev D r n:=by
      intro n
      induction n with
      | zero => rfl
      | succ n ih =>
        simp only [cur,ih]
        by_cases e : n = i
        · subst e; simp [hw]
        · simp [hD,e]
    exact this _
end reg
end
end Go.RX
