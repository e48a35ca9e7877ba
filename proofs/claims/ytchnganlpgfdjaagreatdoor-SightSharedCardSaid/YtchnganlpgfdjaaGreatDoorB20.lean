/-
  The program's functions,contracts: what each one returns,whatever the world: part 21. No condition.
-/
import Derived.Test.YtchnganlpgfdjaaGreatDoorB00
import Derived.Test.YtchnganlpgfdjaaGreatDoorB01
import Derived.Test.YtchnganlpgfdjaaGreatDoorB02
import Derived.Test.YtchnganlpgfdjaaGreatDoorB03
import Derived.Test.YtchnganlpgfdjaaGreatDoorB04
import Derived.Test.YtchnganlpgfdjaaGreatDoorB05
import Derived.Test.YtchnganlpgfdjaaGreatDoorB06
import Derived.Test.YtchnganlpgfdjaaGreatDoorB07
import Derived.Test.YtchnganlpgfdjaaGreatDoorB08
import Derived.Test.YtchnganlpgfdjaaGreatDoorB09
import Derived.Test.YtchnganlpgfdjaaGreatDoorB10
import Derived.Test.YtchnganlpgfdjaaGreatDoorB11
import Derived.Test.YtchnganlpgfdjaaGreatDoorB12
import Derived.Test.YtchnganlpgfdjaaGreatDoorB13
import Derived.Test.YtchnganlpgfdjaaGreatDoorB14
import Derived.Test.YtchnganlpgfdjaaGreatDoorB15
import Derived.Test.YtchnganlpgfdjaaGreatDoorB16
import Derived.Test.YtchnganlpgfdjaaGreatDoorB17
import Derived.Test.YtchnganlpgfdjaaGreatDoorB18
import Derived.Test.YtchnganlpgfdjaaGreatDoorB19
set_option linter.all false
set_option linter.unusedVariables false
set_option linter.unusedSectionVars false
set_option linter.unusedSimpArgs false
set_option linter.unnecessarySimpa false
namespace Go.RX
open Go
variable [Glob]
section
variable {P : Program}
class Kn (α : Type) where
  k : α
def bndI (e : Option Ev) [f : Kn (Ev → Prop)] : Prop:=bnd e f.k
def bnAI (e : Option Bool) [f : Kn (Bool → Prop)] : Prop:=bnA e f.k
def bndCI (e : Option (FuncId × List SV × List Ef × List Res)) [f : Kn (FuncId → List SV → List Ef → List Res → Prop)] : Prop:=bndC e f.k
def pnVI (e : SV) [f : Kn (DV → Prop)] : Prop:=pnV e f.k
class AskK where
  P : Program
  k : SV → Prop
  kp : DV → Prop
def AskI (g : FuncId) (A : List SV) [x : AskK] : Prop:=Ask x.P g A x.k x.kp
def AskGI (c : Bool) (g : FuncId) (A : List SV) [x : AskK] : Prop:=AskG x.P c g A x.k
theorem AskI.ret {g A r} {k : SV → Prop} {kp : DV → Prop} (h : Ctr P g A r) (hk : k r) : @AskI _ g A ⟨P,k,kp⟩:=Ask.ret h hk
theorem AskI.pan {g A d} {k : SV → Prop} {kp : DV → Prop} (h : CtrP P g A d) (hk : kp d) : @AskI _ g A ⟨P,k,kp⟩:=Ask.pan h hk
theorem AskGI.ret {c g A r} {k : SV → Prop} {kp : DV → Prop} (h : c = true → Ctr P g A r) (hk : k r) : @AskGI _ c g A ⟨P,k,kp⟩:=AskG.ret h hk
class KOc where
  b : Bool
  ops : List Oper
  lg : List Lg
def KOt [x : KOc] : Prop:=(!x.b || ordOK x.ops x.lg) = true
class OkC where
  P : Program
  N : Nat
  c : Code
  K : Exit → Sy → Prop
  Kp : DV → Prop
def OkW (σ : Sy) [x : OkC] : Prop:=Ok x.P x.N x.c σ x.K x.Kp
theorem OkW.mk {N : Nat} {c : Code} {σ : Sy} {K : Exit → Sy → Prop} {Kp : DV → Prop} (h : Ok P N c σ K Kp) : @OkW _ σ ⟨P,N,c,K,Kp⟩:=h
class EndC where
  e : Exit
  K : Exit → Sy → Prop
def EndW (σ : Sy) [x : EndC] : Prop:=x.K x.e σ
theorem EndW.mk {e : Exit} {K : Exit → Sy → Prop} {σ : Sy} (h : K e σ) : @EndW σ ⟨e,K⟩:=h
theorem bnd_some (e : Ev) (f : Ev → Prop) : @bndI (some e) ⟨f⟩ = f e:=Eq.trans rfl rfl
theorem bnA_some (e : Bool) (f : Bool → Prop) : @bnAI (some e) ⟨f⟩ = f e:=Eq.trans rfl rfl
theorem bndC_some (g A es rs f) : @bndCI (some (g,A,es,rs)) ⟨f⟩ = f g A es rs:=Eq.trans rfl rfl
theorem pnV_d (d : DV) (f) : @pnVI (.d d) ⟨f⟩ = (isIf d = true ∧ f d):=Eq.trans rfl rfl
theorem isIf_ifc (t n c) : isIf (.ifc t n c) = true:=rfl
theorem isIf_if1 (t x) : isIf (.if1 t x) = true:=rfl
section
variable {N : Nat} {σ : Sy} {K : Exit → Sy → Prop} {Kp : DV → Prop}
theorem qR (hm : P.follows .mixedOrders = true) {id : Nat} {ops : Array Oper} {b : Bool} (hst : regOK N ops.toList = true)
    (hr : rgn P ops.toList (fun lg => @KOt ⟨b,ops.toList,lg⟩) Kp ops.toList σ [] (fun σ' => @EndW { σ' with env:=clean σ'.env } ⟨.normal,K⟩)) : Ok P N (.region id ops b) σ K Kp :=
  Ok.region hm hst (by
    have e : (fun lg => b = true → ordOK ops.toList lg = true) = (fun lg => @KOt ⟨b,ops.toList,lg⟩):=by funext lg; cases b <;> simp [KOt]
    rw [e]; exact hr)
theorem qS (hm : P.follows .mixedOrders = true) {id : Nat} {ops : Array Oper} {b : Bool} {y : Code} (hst : regOK N ops.toList = true)
    (hr : rgn P ops.toList (fun lg => @KOt ⟨b,ops.toList,lg⟩) Kp ops.toList σ [] (fun σ' => @OkW _ { σ' with env:=clean σ'.env } ⟨P,N,y,K,Kp⟩)) : Ok P N (.seq (.region id ops b) y) σ K Kp :=
  Ok.seq (qR hm hst hr)
theorem thenK_normal (K1 : Sy → Prop) (σ : Sy) : thenK K1 K .normal σ = K1 σ:=rfl
theorem thenK_ret (K1 : Sy → Prop) (σ : Sy) : thenK K1 K .ret σ = K .ret σ:=rfl
theorem thenK_exit (K1 : Sy → Prop) (id : Nat) (σ : Sy) : thenK K1 K (.exit id) σ = K (.exit id) σ:=rfl
theorem blockK_normal (id : Nat) (σ : Sy) : blockK id K .normal σ = K .normal σ:=rfl
theorem blockK_ret (id : Nat) (σ : Sy) : blockK id K .ret σ = K .ret σ:=rfl
theorem blockK_exit (id id' : Nat) (σ : Sy) : blockK id K (.exit id') σ = if id' = id then K .normal σ else K (.exit id') σ:=rfl
theorem noGotoK_normal (σ : Sy) : noGotoK K .normal σ = K .normal σ:=rfl
theorem noGotoK_ret (σ : Sy) : noGotoK K .ret σ = K .ret σ:=rfl
theorem noGotoK_exit (id : Nat) (σ : Sy) : noGotoK K (.exit id) σ = K (.exit id) σ:=rfl
end
section
variable {ops : List Oper} {rd rdp : Operand → SV} {σ : Sy} {k : Ev → Prop} {ask : FuncId → List SV → List Ef → List Res → Prop} {pan : DV → Prop}
theorem exO_move (x) : exO P ops rd rdp σ k ask pan (.move x) = @bndI (movE (rd x)) ⟨k⟩:=Eq.trans rfl rfl
theorem exO_assign (x) : exO P ops rd rdp σ k ask pan (.assign x) = @bndI (movE (rd x)) ⟨k⟩:=Eq.trans rfl rfl
theorem exO_alloc (t) : exO P ops rd rdp σ k ask pan (.alloc t) = @bndI (allocE P σ t) ⟨k⟩:=Eq.trans rfl rfl
theorem exO_box (t x) : exO P ops rd rdp σ k ask pan (.box t x) = @bndI (boxE σ (rd x)) ⟨k⟩:=Eq.trans rfl rfl
theorem exO_load (t x) : exO P ops rd rdp σ k ask pan (.load t x) = @bndI (loadV P σ t (rd x)) ⟨k⟩:=Eq.trans rfl rfl
theorem exO_store (t x y) : exO P ops rd rdp σ k ask pan (.store t x y) = @bndI (storeE P σ t (rd x) (rd y)) ⟨k⟩:=Eq.trans rfl rfl
theorem exO_nilCheck (x) : exO P ops rd rdp σ k ask pan (.nilCheck x) = @bndI (nilE (rd x)) ⟨k⟩:=Eq.trans rfl rfl
theorem exO_fieldAddr (t x f) : exO P ops rd rdp σ k ask pan (.fieldAddr t x f) = @bndI (fadE P t f (rd x)) ⟨k⟩:=Eq.trans rfl rfl
theorem exO_field (t x f) : exO P ops rd rdp σ k ask pan (.field t x f) = @bndI (fldE P t f (rd x)) ⟨k⟩:=Eq.trans rfl rfl
theorem exO_indexAddr (t x i) : exO P ops rd rdp σ k ask pan (.indexAddr t x i) = @bndI (idxE P σ t (rd x) (rd i)) ⟨k⟩:=Eq.trans rfl rfl
theorem exO_index (t x i) : exO P ops rd rdp σ k ask pan (.index t x i) = @bndI (ixE P t (rd x) (rd i)) ⟨k⟩:=Eq.trans rfl rfl
theorem exO_unOp (t x) : exO P ops rd rdp σ k ask pan (.unOp .not t x) = @bndI (notE (rd x)) ⟨k⟩:=Eq.trans rfl rfl
theorem exO_binOp (op t x y u) : exO P ops rd rdp σ k ask pan (.binOp op t x y u) = @bndI (binE P op t (rd x) (rd y)) ⟨k⟩:=Eq.trans rfl rfl
theorem exO_pick (c a b) : exO P ops rd rdp σ k ask pan (.pick (.tmp c) a b) = @bndI (pickE ops c (rdp a) (rdp b) (rd (.tmp c))) ⟨k⟩:=Eq.trans rfl rfl
theorem exO_convert (s t x) : exO P ops rd rdp σ k ask pan (.convert s t x) = @bndI (cvtE P s t (rd x)) ⟨k⟩:=Eq.trans rfl rfl
theorem exO_extract (x i) : exO P ops rd rdp σ k ask pan (.extract x i) = @bndI (extE i (rd x)) ⟨k⟩:=Eq.trans rfl rfl
theorem exO_build (t ps) : exO P ops rd rdp σ k ask pan (.build t ps) = @bndI (bldE P t (ps.toList.map fun q => (q.1,rd q.2))) ⟨k⟩:=Eq.trans rfl rfl
theorem exO_buildSlice (t n ps) : exO P ops rd rdp σ k ask pan (.buildSlice t n ps) = @bndI (bslE P σ t n (ps.toList.map fun q => (q.1,rd q.2))) ⟨k⟩:=Eq.trans rfl rfl
theorem exO_makeInterface (t x) : exO P ops rd rdp σ k ask pan (.makeInterface t x) = @bndI (mkiE P σ t (rd x)) ⟨k⟩:=Eq.trans rfl rfl
theorem exO_typeAssert (x t u ok) : exO P ops rd rdp σ k ask pan (.typeAssert x t u ok) = @bndI (asrE P u ok (rd x)) ⟨k⟩:=Eq.trans rfl rfl
theorem exO_range (t x) : exO P ops rd rdp σ k ask pan (.range t x) = @bndI (rngE P σ t (rd x)) ⟨k⟩:=Eq.trans rfl rfl
theorem exO_next (x) : exO P ops rd rdp σ k ask pan (.next x true) = @bndI (nxtE σ (rd x)) ⟨k⟩:=Eq.trans rfl rfl
theorem exO_slice00 (t x) : exO P ops rd rdp σ k ask pan (.slice t x none none none) = @bndI (sliE P t (rd x) (.d (.int .i64 0)) (lenX (rd x))) ⟨k⟩:=Eq.trans rfl rfl
theorem exO_slice01 (t x h) : exO P ops rd rdp σ k ask pan (.slice t x none (some h) none) = @bndI (sliE P t (rd x) (.d (.int .i64 0)) (rd h)) ⟨k⟩:=Eq.trans rfl rfl
theorem exO_slice10 (t x l) : exO P ops rd rdp σ k ask pan (.slice t x (some l) none none) = @bndI (sliE P t (rd x) (rd l) (lenX (rd x))) ⟨k⟩:=Eq.trans rfl rfl
theorem exO_slice11 (t x l h) : exO P ops rd rdp σ k ask pan (.slice t x (some l) (some h) none) = @bndI (sliE P t (rd x) (rd l) (rd h)) ⟨k⟩:=Eq.trans rfl rfl
theorem exO_mkf (f caps) : exO P ops rd rdp σ k ask pan (.makeFunc (.func f) #[] caps) = @bndI (mkfE σ f (caps.toList.map rd)) ⟨k⟩:=Eq.trans rfl rfl
theorem exO_mkb (f x) : exO P ops rd rdp σ k ask pan (.makeFunc (.func f) #[x] #[]) = @bndI (mkbE σ f (rd x)) ⟨k⟩:=Eq.trans rfl rfl
theorem exO_callv (f args ts) : exO P ops rd rdp σ k ask pan (.call ⟨.value f,args,ts⟩) = @bndCI (argE σ (args.toList.map rd) (rd f)) ⟨ask⟩:=Eq.trans rfl rfl
theorem exO_calli (x m args ts) : exO P ops rd rdp σ k ask pan (.call ⟨.invoke x m,args,ts⟩) = @bndCI (argI P σ (args.toList.map rd) m (rd x)) ⟨ask⟩:=Eq.trans rfl rfl
theorem exO_callb (b args ts) : exO P ops rd rdp σ k ask pan (.call ⟨.builtin b,args,ts⟩) = @bndI (bltE P rd σ b args.toList ts.toList) ⟨k⟩:=Eq.trans rfl rfl
theorem exO_panic (x) : exO P ops rd rdp σ k ask pan (.panic x) = @pnVI (rd x) ⟨pan⟩:=Eq.trans rfl rfl
end
theorem movE_d (x : DV) : movE (.d x) = some { p:=True,v:=.d x,ef:=[],rs:=[] }:=rfl
theorem movE_any : movE .any = some { p:=True,v:=.any,ef:=[],rs:=[] }:=rfl
theorem movE_p (b o : Nat) : movE (.p b o) = some { p:=True,v:=.p b o,ef:=[],rs:=[] }:=rfl
theorem movE_q (b : Nat) (o) : movE (.q b o) = some { p:=True,v:=.q b o,ef:=[],rs:=[] }:=rfl
theorem movE_tk (b : Nat) : movE (.tk b) = some { p:=True,v:=.tk b,ef:=[],rs:=[] }:=rfl
theorem movE_pt (b x k o) : movE (.pt b x k o) = some { p:=True,v:=.pt b x k o,ef:=[],rs:=[] }:=rfl
theorem movE_agg (b) : movE (.agg b) = some { p:=True,v:=.agg b,ef:=[],rs:=[] }:=rfl
theorem movE_tup (b) : movE (.tup b) = some { p:=True,v:=.tup b,ef:=[],rs:=[] }:=rfl
theorem one_one (x) : one [x] = x:=rfl
theorem pickA_d (ops c w x) : pickA ops c w (.d x) = .d x:=rfl
theorem pickA_gd (ops : List Oper) (c w j w' x) : pickA ops c w (.gd j w' x) = if dstOf ops j = some c ∧ w = w' then x else .any:=rfl
theorem clean_nil : clean [] = []:=rfl
theorem clean_gd (a j w x r) : clean ((a,.gd j w x) :: r) = (a,.any) :: clean r:=rfl
theorem clean_d (a x r) : clean ((a,.d x) :: r) = (a,.d x) :: clean r:=rfl
theorem clean_any (a r) : clean ((a,.any) :: r) = (a,.any) :: clean r:=rfl
theorem clean_p (a b o r) : clean ((a,.p b o) :: r) = (a,.p b o) :: clean r:=rfl
theorem clean_q (a b o r) : clean ((a,.q b o) :: r) = (a,.q b o) :: clean r:=rfl
theorem clean_tk (a b r) : clean ((a,.tk b) :: r) = (a,.tk b) :: clean r:=rfl
theorem clean_pt (a b x k o r) : clean ((a,.pt b x k o) :: r) = (a,.pt b x k o) :: clean r:=rfl
theorem clean_agg (a b r) : clean ((a,.agg b) :: r) = (a,.agg b) :: clean r:=rfl
theorem clean_tup (a b r) : clean ((a,.tup b) :: r) = (a,.tup b) :: clean r:=rfl
theorem strip_none (ops f x) : strip ops f none x = x:=by cases f <;> rfl
theorem strip_d (ops f g x) : strip ops f g (.d x) = .d x:=by cases f <;> cases g <;> rfl
theorem strip_p (ops f g b o) : strip ops f g (.p b o) = .p b o:=by cases f <;> cases g <;> rfl
theorem strip_q (ops f g b o) : strip ops f g (.q b o) = .q b o:=by cases f <;> cases g <;> rfl
theorem strip_any (ops f g) : strip ops f g .any = .any:=by cases f <;> cases g <;> rfl
theorem strip_tk (ops f g b) : strip ops f g (.tk b) = .tk b:=by cases f <;> cases g <;> rfl
theorem strip_pt (ops f g b x k o) : strip ops f g (.pt b x k o) = .pt b x k o:=by cases f <;> cases g <;> rfl
theorem strip_agg (ops f g b) : strip ops f g (.agg b) = .agg b:=by cases f <;> cases g <;> rfl
theorem strip_tup (ops f g b) : strip ops f g (.tup b) = .tup b:=by cases f <;> cases g <;> rfl
theorem strip_gd (ops f j0 w0 j w x) : strip ops (f + 1) (some (j0,w0)) (.gd j w x) = if j = j0 ∧ w = w0 then x else strip ops f (gdOf ops j0) (.gd j w x):=rfl
theorem rdR_tmp (ops σ g t) : rdR ops σ g (.tmp t) = strip ops 4 g (lk σ.env t):=rfl
theorem rdR_const (ops σ g v) : rdR ops σ g (.const v) = cv v:=rfl
theorem rdR_func (ops σ g f) : rdR ops σ g (.func f) = .d (.clo f 0 (fun _ => .nilI)):=rfl
theorem rdG_tmp (ops σ g t) : rdG ops σ g (.tmp t) = ung (strip ops 4 g (lk σ.env t)):=rfl
theorem rdG_const (ops σ g v) : rdG ops σ g (.const v) = cv v:=by show ung (cv v) = cv v; unfold cv; split <;> rfl
theorem rdG_func (ops σ g f) : rdG ops σ g (.func f) = .d (.clo f 0 (fun _ => .nilI)):=rfl
theorem ung_d (x) : ung (.d x) = .d x:=rfl
theorem ung_any : ung .any = .any:=rfl
theorem ung_p (b o) : ung (.p b o) = .p b o:=rfl
theorem ung_q (b o) : ung (.q b o) = .q b o:=rfl
theorem ung_tk (b) : ung (.tk b) = .tk b:=rfl
theorem ung_pt (b x k o) : ung (.pt b x k o) = .pt b x k o:=rfl
theorem ung_agg (b) : ung (.agg b) = .agg b:=rfl
theorem ung_tup (b) : ung (.tup b) = .tup b:=rfl
theorem ung_gd (j w x) : ung (.gd j w x) = .any:=rfl
theorem dget_zero (x : DV) (r) : dget (x :: r) 0 = x:=rfl
theorem dget_succ (x : DV) (r) (n : Nat) : dget (x :: r) (n + 1) = dget r n:=rfl
theorem toList_mk {α : Type} (l : List α) : (⟨l⟩ : Array α).toList = l:=rfl
theorem rdG0 (ops : List Oper) (e b t x) : rdG ops { env:=e,bx:=b,tk:=t } none (.tmp x) = ung (lk e x):=by show ung (strip ops 4 none (lk e x)) = _; rw [strip_none]
theorem rdR0 (ops : List Oper) (e b t x) : rdR ops { env:=e,bx:=b,tk:=t } none (.tmp x) = lk e x:=by show strip ops 4 none (lk e x) = _; rw [strip_none]
theorem rgn_nil (ops KO Kp σ lg K) : rgn P ops KO Kp [] σ lg K = (KO lg ∧ K σ):=Eq.trans rfl rfl
theorem rgn_cons (ops : List Oper) (KO Kp dst op ty pos af rest σ lg K) : rgn P ops KO Kp ({ dst:=dst,op:=op,type:=ty,pos:=pos,after:=af,guard:=none } :: rest) σ lg K =
    exO P ops (rdG ops σ none) (rdR ops σ none) σ
        (fun ev => ev.p ∧ rgn P ops KO Kp rest ((σ.ef ev.ef).put dst (ung ev.v)) (lg ++ [{ rs:=opRs { dst:=dst,op:=op,type:=ty,pos:=pos,after:=af,guard:=none } ++ ev.rs,ws:=opWs { dst:=dst,op:=op,type:=ty,pos:=pos,after:=af,guard:=none } ev.ef }]) K)
        (fun g A es rs => @AskI _ g A ⟨P,(fun r => rgn P ops KO Kp rest ((σ.ef es).put dst (ung r)) (lg ++ [{ rs:=opRs { dst:=dst,op:=op,type:=ty,pos:=pos,after:=af,guard:=none } ++ rs,ws:=opWs { dst:=dst,op:=op,type:=ty,pos:=pos,after:=af,guard:=none } es }]) K),
          (fun d => Kp d ∧ rgn P ops KO Kp rest (σ.put dst .any) (lg ++ [{ rs:=opRs { dst:=dst,op:=op,type:=ty,pos:=pos,after:=af,guard:=none } ++ rs,ws:=opWs { dst:=dst,op:=op,type:=ty,pos:=pos,after:=af,guard:=none } [] }]) (fun _ => True))⟩)
        (fun d => Kp d ∧ rgn P ops KO Kp rest (σ.put dst .any) (lg ++ [{ rs:=opRs { dst:=dst,op:=op,type:=ty,pos:=pos,after:=af,guard:=none } ++ [],ws:=opWs { dst:=dst,op:=op,type:=ty,pos:=pos,after:=af,guard:=none } [] }]) (fun _ => True)) op:=Eq.trans rfl rfl
theorem rgn_gd (ops : List Oper) (KO Kp dst op ty pos af rest σ lg K) (g : Nat × Bool) : rgn P ops KO Kp ({ dst:=dst,op:=op,type:=ty,pos:=pos,after:=af,guard:=some g } :: rest) σ lg K =
    @bnAI (act ops σ 4 g) ⟨fun c => exO P ops (rdG ops σ (some g)) (rdR ops σ (some g)) σ
        (fun ev => ev.ef.all Ef.isFrz = true ∧ (c = true → ev.p) ∧
          rgn P ops KO Kp rest ((σ.ef ev.ef).put dst (.gd g.1 g.2 ev.v)) (lg ++ [{ rs:=gdRs ops (some g) ++ opRs { dst:=dst,op:=op,type:=ty,pos:=pos,after:=af,guard:=some g } ++ ev.rs,ws:=opWs { dst:=dst,op:=op,type:=ty,pos:=pos,after:=af,guard:=some g } ev.ef }]) K)
        (fun f A es rs => es.all Ef.isFrz = true ∧ @AskGI _ c f A ⟨P,(fun r => rgn P ops KO Kp rest ((σ.ef es).put dst (.gd g.1 g.2 r)) (lg ++ [{ rs:=gdRs ops (some g) ++ opRs { dst:=dst,op:=op,type:=ty,pos:=pos,after:=af,guard:=some g } ++ rs,ws:=opWs { dst:=dst,op:=op,type:=ty,pos:=pos,after:=af,guard:=some g } es }]) K),fun _ => True⟩)
        (fun _ => False) op⟩:=Eq.trans rfl rfl
theorem put_some (e b t d v) : Sy.put { env:=e,bx:=b,tk:=t } (some d) v = { env:=(d,v) :: e,bx:=b,tk:=t }:=rfl
theorem put_none (σ v) : Sy.put σ none v = σ:=rfl
theorem ef_nil (σ) : Sy.ef σ [] = σ:=rfl
theorem ef_b (e b t n c r) : Sy.ef { env:=e,bx:=b,tk:=t } (.b n c :: r) = Sy.ef { env:=e,bx:=setN b n c,tk:=t } r:=rfl
theorem ef_k (e b t n c r) : Sy.ef { env:=e,bx:=b,tk:=t } (.k n c :: r) = Sy.ef { env:=e,bx:=b,tk:=setN t n c } r:=rfl
theorem lk_same (k v r) : lk ((k,v) :: r) k = v:=by simp [lk]
theorem lk_cons (k v r t) : lk ((k,v) :: r) t = if k = t then v else lk r t:=rfl
theorem lk_nil (t) : lk [] t = .any:=rfl
theorem ite_and (b c : Bool) : (if b = true then c else false) = (b && c):=by cases b <;> rfl
theorem ite_or (b c : Bool) : (if b = true then true else c) = (b || c):=by cases b <;> rfl
theorem ite_min (a b : Int) : (if b < a then b else a) = min a b:=by split <;> omega
theorem ite_max (a b : Int) : (if a < b then b else a) = max a b:=by split <;> omega
theorem ite_max' (a b : Int) : (if b > a then b else a) = max a b:=by split <;> omega
end
def dP:=And.intro @rgn_nil (And.intro @rgn_cons (And.intro @rgn_gd (And.intro @rdG0 (And.intro @rdR0 (And.intro @lk_same (And.intro @lk_cons (And.intro @lk_nil (And.intro @exO_move (And.intro @exO_assign (And.intro @exO_alloc (And.intro @exO_box (And.intro @exO_load (And.intro @exO_store (And.intro @exO_nilCheck (And.intro @exO_fieldAddr (And.intro @exO_field (And.intro @exO_indexAddr (And.intro @exO_index (And.intro @exO_unOp (And.intro @exO_binOp (And.intro @exO_pick (And.intro @exO_convert (And.intro @exO_extract (And.intro @exO_build (And.intro @exO_buildSlice (And.intro @exO_makeInterface (And.intro @exO_typeAssert (And.intro @exO_range (And.intro @exO_next (And.intro @exO_slice00 (And.intro @exO_slice01 (And.intro @exO_slice10 (And.intro @exO_slice11 (And.intro @exO_mkf (And.intro @exO_mkb (And.intro @exO_callv (And.intro @exO_calli (And.intro @exO_callb (@exO_panic)))))))))))))))))))))))))))))))))))))))
attribute [go_sem] bnd_some bnA_some bndC_some pnV_d isIf_ifc isIf_if1 thenK_normal thenK_ret thenK_exit blockK_normal blockK_ret blockK_exit noGotoK_normal noGotoK_ret noGotoK_exit
attribute [go_sem] binE binB intB pickE pickB pickA_d pickA_gd ef_nil ef_b ef_k put_some put_none act dstOf gdOf nth setN cv
  movE_d movE_p movE_q movE_tk movE_pt movE_agg movE_tup movE_any SV.cs boxE storeE one_one strip_none strip_d strip_gd strip_p strip_q strip_any strip_tk strip_pt strip_agg strip_tup rdG_tmp rdG_const rdG_func rdR_tmp rdR_const rdR_func ung_d ung_any ung_p ung_q ung_tk ung_pt ung_agg ung_tup ung_gd
  clean_nil clean_gd clean_d clean_any clean_p clean_q clean_tk clean_pt clean_agg clean_tup
  allocE rowV loadV storeV nilE fadE fieldV fldE idxE indexV atE arrE ixE notE cvtE extE bldE bslV bslO bslZ bslE binO binA sliE lenX minE argE argI bltE mkfE mkbE mkiE ifcV asrE asrY asrN rngE nxtE nxtI capsV capV allD lenV srcV appV appW partsV fill deepC deepA dget_zero dget_succ take eqC patC Ef.isFrz
attribute [go_sem] ite_and ite_or ite_min ite_max ite_max' Option.isSome_some Option.isSome_none Option.isNone_some Option.isNone_none Option.map_some Option.map_none Option.getD_some true_and and_true Bool.false_eq_true false_implies true_implies List.all_nil List.all_cons Bool.and_true Bool.and_self implies_true
  List.nil_append List.cons_append List.append_nil decide_true decide_false Bool.not_true Bool.not_false Bool.true_and Bool.false_and Bool.and_false Bool.or_true Bool.true_or Bool.false_or Bool.or_false Bool.true_eq_false Bool.not_not beq_self_eq_true Nat.le_refl Nat.zero_add Nat.add_zero Nat.zero_le
  Int.toNat_natCast Int.toNat_zero Int.toNat_one List.length_cons List.length_nil List.drop_succ_cons List.drop_zero List.take_succ_cons List.take_zero List.take_nil List.drop_nil List.map_cons List.map_nil List.replicate_succ List.replicate_zero List.flatten_cons List.flatten_nil List.getD_cons_succ List.getD_cons_zero
  and_self not_false_eq_true not_true_eq_false and_false false_and if_true if_false List.mem_cons List.not_mem_nil or_false false_or or_self or_true true_or
attribute [go_sem] Res.k.injEq not_false_eq_true not_true_eq_false reduceCtorEq Nat.reduceEqDiff Nat.reduceAdd Nat.reduceMul Nat.reduceSub Nat.reduceLeDiff Nat.reduceLT Nat.reduceBEq Nat.reduceBNe Int.reduceAdd Int.reduceSub Int.reduceMul Int.reduceNeg Int.reduceLT Int.reduceLE Int.reduceBEq Int.reduceBNe Int.reduceToNat
end Go.RX
