/-
  The program's functions,contracts: what each one returns,whatever the world: part 13. No condition.
-/
import Derived.Test.YtchnganlpgfdjaaGreatDoorB00
import Derived.Test.YtchnganlpgfdjaaGreatDoorB01
import Derived.Test.YtchnganlpgfdjaaGreatDoorB02
import Derived.Test.YtchnganlpgfdjaaGreatDoorB03
import Derived.Test.YtchnganlpgfdjaaGreatDoorB04
import Derived.Test.YtchnganlpgfdjaaGreatDoorB05
import Derived.Test.YtchnganlpgfdjaaGreatDoorB06
import Derived.Test.YtchnganlpgfdjaaGreatDoorB07
import Derived.Test.YtchnganlpgfdjaaGreatDoorB08
import Derived.Test.YtchnganlpgfdjaaGreatDoorB09
import Derived.Test.YtchnganlpgfdjaaGreatDoorB10
import Derived.Test.YtchnganlpgfdjaaGreatDoorB11
set_option linter.all false
set_option linter.unusedVariables false
set_option linter.unusedSectionVars false
set_option linter.unusedSimpArgs false
set_option linter.unnecessarySimpa false
namespace Go.RX
open Go
variable [Glob]
def bnd (e : Option Ev) (f : Ev → Prop) : Prop :=
  match e with
  | some v => f v
  | none => False
def bnA (e : Option Bool) (f : Bool → Prop) : Prop :=
  match e with
  | some v => f v
  | none => False
def bndC (e : Option (FuncId × List SV × List Ef × List Res)) (f : FuncId → List SV → List Ef → List Res → Prop) : Prop :=
  match e with
  | some (g,A,es,rs) => f g A es rs
  | none => False
def isIf : DV → Bool
  | .ifc _ _ _ => true
  | .if1 _ _ => true
  | _ => false
def pnV (x : SV) (f : DV → Prop) : Prop :=
  match x with
  | .d d => isIf d = true ∧ f d
  | _ => False
section
variable (P : Program)
def Ask (g : FuncId) (A : List SV) (k : SV → Prop) (kp : DV → Prop) : Prop:=(∃ r,Ctr P g A r ∧ k r) ∨ (∃ d,CtrP P g A d ∧ kp d)
def AskG (c : Bool) (g : FuncId) (A : List SV) (k : SV → Prop) : Prop:=∃ r,(c = true → Ctr P g A r) ∧ k r
theorem Ask.ret {P : Program} {g A r} {k : SV → Prop} {kp : DV → Prop} (h : Ctr P g A r) (hk : k r) : Ask P g A k kp:=.inl ⟨r,h,hk⟩
theorem Ask.pan {P : Program} {g A d} {k : SV → Prop} {kp : DV → Prop} (h : CtrP P g A d) (hk : kp d) : Ask P g A k kp:=.inr ⟨d,h,hk⟩
theorem AskG.ret {P : Program} {c g A r} {k : SV → Prop} (h : c = true → Ctr P g A r) (hk : k r) : AskG P c g A k:=⟨r,h,hk⟩
def noT : Tab:=fun _ _ => none
def oneT (g : FuncId) (A : List SV) (r : SV) : Tab:=fun g' A' => if g' = g then some (Ctr P g A' r,r) else none
def exO (ops : List Oper) (rd rdp : Operand → SV) (σ : Sy) (k : Ev → Prop) (ask : FuncId → List SV → List Ef → List Res → Prop) (pan : DV → Prop) : Op → Prop
  | .call ⟨.value f,args,ts⟩ => bndC (calA P rd σ ⟨.value f,args,ts⟩) ask
  | .call ⟨.invoke x m,args,ts⟩ => bndC (calA P rd σ ⟨.invoke x m,args,ts⟩) ask
  | .panic x => pnV (rd x) pan
  | op => bnd (opE P noT ops rd rdp σ op) k
def rgn (ops : List Oper) (KO : List Lg → Prop) (Kp : DV → Prop) : List Oper → Sy → List Lg → (Sy → Prop) → Prop
  | [],σ,lg,K => KO lg ∧ K σ
  | o :: rest,σ,lg,K =>
    match o.guard with
    | none => exO P ops (rdG ops σ none) (rdR ops σ none) σ
        (fun ev => ev.p ∧ rgn ops KO Kp rest ((σ.ef ev.ef).put o.dst (ung ev.v)) (lg ++ [{ rs:=opRs o ++ ev.rs,ws:=opWs o ev.ef }]) K)
        (fun g A es rs => Ask P g A (fun r => rgn ops KO Kp rest ((σ.ef es).put o.dst (ung r)) (lg ++ [{ rs:=opRs o ++ rs,ws:=opWs o es }]) K)
          (fun d => Kp d ∧ rgn ops KO Kp rest (σ.put o.dst .any) (lg ++ [{ rs:=opRs o ++ rs,ws:=opWs o [] }]) (fun _ => True)))
        (fun d => Kp d ∧ rgn ops KO Kp rest (σ.put o.dst .any) (lg ++ [{ rs:=opRs o ++ [],ws:=opWs o [] }]) (fun _ => True)) o.op
    | some g => bnA (act ops σ 4 g) fun c => exO P ops (rdG ops σ (some g)) (rdR ops σ (some g)) σ
        (fun ev => ev.ef.all Ef.isFrz = true ∧ (c = true → ev.p) ∧
          rgn ops KO Kp rest ((σ.ef ev.ef).put o.dst (.gd g.1 g.2 ev.v)) (lg ++ [{ rs:=gdRs ops o.guard ++ opRs o ++ ev.rs,ws:=opWs o ev.ef }]) K)
        (fun f A es rs => es.all Ef.isFrz = true ∧ AskG P c f A (fun r => rgn ops KO Kp rest ((σ.ef es).put o.dst (.gd g.1 g.2 r)) (lg ++ [{ rs:=gdRs ops o.guard ++ opRs o ++ rs,ws:=opWs o es }]) K))
        (fun _ => False) o.op
end
section
variable {P : Program}
theorem noT_ok : TabOK P noT:=fun f A p r h => by cases h
theorem oneT_ok (g A r) : TabOK P (oneT P g A r):=by
  intro f A' p r' h hp
  unfold oneT at h
  split at h
  · rename_i e
    cases h
    rw [e]; exact hp
  · cases h
theorem bnd_elim {e : Option Ev} {f : Ev → Prop} (h : bnd e f) : ∃ ev,e = some ev ∧ f ev:=by
  cases e with
  | none => exact h.elim
  | some v => exact ⟨v,rfl,h⟩
theorem bnA_elim {e : Option Bool} {f : Bool → Prop} (h : bnA e f) : ∃ ev,e = some ev ∧ f ev:=by
  cases e with
  | none => exact h.elim
  | some v => exact ⟨v,rfl,h⟩
theorem bndC_elim {e f} (h : bndC e f) : ∃ g A es rs,e = some (g,A,es,rs) ∧ f g A es rs:=by
  cases e with
  | none => exact h.elim
  | some v => obtain ⟨g,A,es,rs⟩:=v; exact ⟨g,A,es,rs,rfl,h⟩
theorem pnV_elim {x : SV} {f : DV → Prop} (h : pnV x f) : ∃ d,x = .d d ∧ isIf d = true ∧ f d:=by
  unfold pnV at h
  split at h
  · exact ⟨_,rfl,h⟩
  · exact h.elim
theorem exO_elim {ops rd rdp σ k ask pan op} (h : exO P ops rd rdp σ k ask pan op) :
    (∃ ev,opE P noT ops rd rdp σ op = some ev ∧ k ev) ∨ (∃ c g A es rs,op = .call c ∧ (∀ T,opE P T ops rd rdp σ op = funE T (calA P rd σ c)) ∧ calA P rd σ c = some (g,A,es,rs) ∧ ask g A es rs) ∨ (∃ x d,op = .panic x ∧ rd x = .d d ∧ isIf d = true ∧ pan d):=by
  unfold exO at h
  split at h
  · obtain ⟨g,A,es,rs,h1,h2⟩:=bndC_elim h
    exact .inr (.inl ⟨_,g,A,es,rs,rfl,fun T => rfl,h1,h2⟩)
  · obtain ⟨g,A,es,rs,h1,h2⟩:=bndC_elim h
    exact .inr (.inl ⟨_,g,A,es,rs,rfl,fun T => rfl,h1,h2⟩)
  · obtain ⟨d,h1,h2,h3⟩:=pnV_elim h
    exact .inr (.inr ⟨_,d,rfl,h1,h2,h3⟩)
  · exact .inl (bnd_elim h)
end
end Go.RX
