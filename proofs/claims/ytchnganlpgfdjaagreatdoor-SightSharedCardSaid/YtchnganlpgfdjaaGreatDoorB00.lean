/-
  The program's functions,contracts: what each one returns,whatever the world: part 1. No condition.
-/
import Derived.Calls
import Derived.Orders
import Derived.Below
import Derived.Laws.AppendOwn
import Derived.Deep.MidRow
import Derived.KernelRfl
set_option linter.all false
set_option linter.unusedVariables false
set_option linter.unusedSectionVars false
set_option linter.unusedSimpArgs false
set_option linter.unnecessarySimpa false
namespace Go.RX
open Go
inductive DV where
  | int (k : IntKind) (n : Int)
  | bool (b : Bool)
  | str (l : List UInt8)
  | sl (k n : Nat) (g : Nat → Nat → DV)
  | nils
  | clo (f : FuncId) (n : Nat) (c : Nat → DV)
  | ref (n : Nat) (c : Nat → DV)
  | ifc (t : TypeId) (n : Nat) (c : Nat → DV)
  | if1 (t : TypeId) (x : DV)
  | nilI
  | bm (f : FuncId) (n : Nat) (c : Nat → DV)
  | mp (n k : Nat) (g : Nat → Nat → DV)
inductive SV where
  | d (x : DV)
  | any
  | p (b o : Nat)
  | q (m : Nat) (c : Nat → DV)
  | tk (i : Nat)
  | pt (i x k o : Nat)
  | agg (xs : List SV)
  | tup (xs : List SV)
  | gd (j : Nat) (w : Bool) (x : SV)
structure BC where
  frz : Bool
  xs : List SV
  it : Option (List UInt8 × Nat):=none
inductive TC where
  | own (e k n : Nat) (g : Nat → Nat → DV)
  | frz (k n : Nat) (g : Nat → Nat → DV)
  | dead
  
  | ownx (e k n : Nat) (g : Nat → Nat → DV) (c j : Nat)
structure Sy where
  env : List (Nat × SV)
  bx : List BC
  tk : List TC
inductive Res where
  | t (n : Nat)
  | b (n : Nat)
  | k (n : Nat)
  deriving DecidableEq
inductive Ef where
  | b (n : Nat) (c : BC)
  | k (n : Nat) (c : TC)
def lk : List (Nat × SV) → Nat → SV
  | [],_ => .any
  | (k,v) :: r,t => if k = t then v else lk r t
def setN {α : Type} : List α → Nat → α → List α
  | [],_,x => [x]
  | _ :: r,0,x => x :: r
  | a :: r,n + 1,x => a :: setN r n x
def Sy.ef (σ : Sy) : List Ef → Sy
  | [] => σ
  | .b n c :: r => Sy.ef { σ with bx:=setN σ.bx n c } r
  | .k n c :: r => Sy.ef { σ with tk:=setN σ.tk n c } r
def Sy.put (σ : Sy) : Option Nat → SV → Sy
  | none,_ => σ
  | some d,v => { σ with env:=(d,v) :: σ.env }
def cv : Value → SV
  | .int k n => .d (.int k n)
  | .bool b => .d (.bool b)
  | .string s => .d (.str s.data.toList)
  | .slice none 0 0 => .d .nils
  | .nilIface => .d .nilI
  | _ => .any
def R (k : IntKind) (n : Int) : Prop:=k.wrap n = n
def isPtr : TypeDesc → Bool
  | .pointer _ => true
  | _ => false
section types
variable (P : Program)
def aggT (t : TypeId) : Option Bool :=
  match P.underlying t with
  | some (.struct _) => some true
  | some (.array _ _) => some true
  | some _ => some false
  | none => none
def szT (t : TypeId) : Option Nat:=(P.info? t).map (·.size)
def flsT (t : TypeId) : Option (List (Nat × Nat)) :=
  match P.underlying t with
  | some (.struct fs) => fs.toList.mapM (fun f => (P.info? f.type).map fun i => (f.offset,i.size))
  | _ => none
def ldT (t : TypeId) : Option (Bool × Nat) :=
  match aggT P t,szT P t with
  | some true,some n => some (true,n)
  | some false,some 1 => some (false,1)
  | _,_ => none
def fldT (t : TypeId) (i : Nat) : Option (Nat × Nat) :=
  match P.underlying t with
  | some (.struct fs) => match fs[i]? with
    | some f => match szT P f.type with
      | some (n + 1) => some (f.offset,n + 1)
      | _ => none
    | none => none
  | _ => none
def elT (t : TypeId) : Option (Nat × Nat × Nat) :=
  match P.underlying t with
  | some (.slice e) => match P.info? e with
    | some i => some (e,i.size,i.bytes)
    | none => none
  | _ => none
def arrT (t : TypeId) : Option (Nat × Nat × Nat) :=
  match P.underlying t with
  | some (.array n e) => match P.info? e with
    | some i => some (n,e,i.size)
    | none => none
  | _ => none
def zeroT (t : TypeId) : Option (List SV) :=
  match P.info? t with
  | some i => match i.zero with
    | some z => if z.cells.toList.all (fun u => u.oneCell') then some (z.cells.toList.map cv) else none
    | none => none
  | none => none
def zagT (t : TypeId) : Option Bool :=
  match P.info? t with
  | some i => match i.zero with
    | some (.agg _) => some true
    | some z => if z.oneCell' then some false else none
    | none => none
  | none => none
def intT (t : TypeId) : Option IntKind :=
  match P.underlying t with
  | some (.int k) => some k
  | _ => none
def boolT (t : TypeId) : Bool :=
  match P.underlying t with
  | some .bool => true
  | _ => false
def strT (t : TypeId) : Bool :=
  match P.underlying t with
  | some .string => true
  | _ => false
def ifT (t : TypeId) : Bool :=
  match P.underlying t with
  | some (.interface _) => true
  | some _ => false
  | none => true
def metT (t : TypeId) (m : String) : Option FuncId :=
  match P.info? t,P.underlying t with
  | some i,some d => match i.methods.find? (·.name == m) with
    | some mt => match mt.func with
      | some (f,false) => if mt.path.isEmpty = true ∧ isPtr d = false then some f else none
      | _ => none
    | none => none
  | _,_ => none
def mapT (t : TypeId) : Bool :=
  match P.underlying t with
  | some (.map _ _) => true
  | _ => false
def bysT (t : TypeId) : Bool :=
  match P.underlying t with
  | some (.slice e) => (match P.underlying e with | some (.int .u8) => true | _ => false)
  | _ => false
end types
abbrev Tab:=FuncId → List SV → Option (Prop × SV)
def nth {α : Type} : List α → Nat → Option α
  | [],_ => none
  | a :: _,0 => some a
  | _ :: r,n + 1 => nth r n
structure Ev where
  p : Prop
  v : SV
  ef : List Ef
  rs : List Res
def SV.cs : SV → Option (List SV)
  | .agg xs => some xs
  | .d x => some [.d x]
  | .p b o => some [.p b o]
  | .q m c => some [.q m c]
  | .tk i => some [.tk i]
  | .pt i x k o => some [.pt i x k o]
  | _ => none
def one (s : List SV) : SV:=match s with | [x] => x | _ => .any
def deepC (σ : Sy) : List SV → Option (List DV × List Ef × List Res)
  | [] => some ([],[],[])
  | .d x :: r => match deepC σ r with
    | some (xs,es,rs) => some (x :: xs,es,rs)
    | none => none
  | .tk i :: r => match nth σ.tk i with
    | some (.own _ k n g) => match deepC σ r with
      | some (xs,es,rs) => some (.sl k n g :: xs,.k i (.frz k n g) :: es,.k i :: rs)
      | none => none
    | some (.frz k n g) => match deepC σ r with
      | some (xs,es,rs) => some (.sl k n g :: xs,es,.k i :: rs)
      | none => none
    | _ => none
  | _ => none
def deepA (σ : Sy) : List SV → Option (List SV × List Ef × List Res)
  | [] => some ([],[],[])
  | x :: r =>
    match x with
    | .agg xs => match deepC σ xs,deepA σ r with
      | some (ys,es,rs),some (zs,es',rs') => some (.agg (ys.map .d) :: zs,es ++ es',rs ++ rs')
      | _,_ => none
    | .d y => match deepA σ r with
      | some (zs,es',rs') => some (.d y :: zs,es',rs')
      | none => none
    | .tk i => match deepC σ [.tk i],deepA σ r with
      | some ([y],es,rs),some (zs,es',rs') => some (.d y :: zs,es ++ es',rs ++ rs')
      | _,_ => none
    | .q m c => match deepA σ r with
      | some (zs,es',rs') => some (.d (.ref m c) :: zs,es',rs')
      | none => none
    | _ => none
def dget (xs : List DV) (i : Nat) : DV:=xs.getD i .nilI
def take (c : Nat → DV) (o : Nat) : Nat → List SV
  | 0 => []
  | n + 1 => .d (c o) :: take c (o + 1) n
def intB (op : BinOp) (k : IntKind) (a b : Int) : Option (Prop × DV) :=
  match op with
  | .add => some (R k (a + b),.int k (a + b))
  | .sub => some (R k (a - b),.int k (a - b))
  | .mul => some (R k (a * b),.int k (a * b))
  | .quo => some (b ≠ 0 ∧ R k (a.tdiv b),.int k (a.tdiv b))
  | .rem => some (b ≠ 0,.int k (a.tmod b))
  | .eql => some (True,.bool (a == b))
  | .neq => some (True,.bool (a != b))
  | .lss => some (True,.bool (decide (a < b)))
  | .leq => some (True,.bool (decide (a ≤ b)))
  | .gtr => some (True,.bool (decide (b < a)))
  | .geq => some (True,.bool (decide (b ≤ a)))
  | .and => some (True,.int k (bits .and k a b))
  | .or => some (True,.int k (bits .or k a b))
  | .xor => some (True,.int k (bits .xor k a b))
  | .andNot => some (True,.int k (bits .andNot k a b))
  | _ => none
def eqC : List SV → List SV → Option Bool
  | [],[] => some true
  | .d (.int k a) :: r,.d (.int k' b) :: s => if k = k' then (match eqC r s with | some c => some ((a == b) && c) | none => none) else none
  | .d (.bool a) :: r,.d (.bool b) :: s => match eqC r s with | some c => some ((a == b) && c) | none => none
  | _,_ => none
def strRoom (a b : List UInt8) : Prop:=a.length + b.length ≤ 9223372036854775807
def binB (bt : Bool) (op : BinOp) : SV → SV → Option (Prop × DV)
  | .d (.int k a),.d (.int k' b) =>
    match op with
    | .shl => some (0 ≤ b ∧ b ≤ (k.bits : Int) ∧ R k (a * 2 ^ b.toNat),.int k (a * 2 ^ b.toNat))
    | .shr => some (0 ≤ b ∧ b ≤ (k.bits : Int),.int k (a / 2 ^ b.toNat))
    | _ => if k = k' then intB op k a b else none
  | .d (.bool a),.d (.bool b) =>
    match op with
    | .eql => some (bt = true,.bool (a == b))
    | .neq => some (bt = true,.bool (a != b))
    | _ => none
  | .d (.str a),.d (.str b) =>
    match op with
    | .add => some (strRoom a b,.str (a ++ b))
    | .eql => some (True,.bool (a == b))
    | .neq => some (True,.bool (a != b))
    | _ => none
  | _,_ => none
def eqVs : List Value → List Value → Option Bool
  | [],[] => some true
  | .int k a :: r,.int k' b :: s => if k = k' then (match eqVs r s with | some c => some ((a == b) && c) | none => none) else none
  | .bool a :: r,.bool b :: s => match eqVs r s with | some c => some ((a == b) && c) | none => none
  | _,_ => none
def isB : Value → Bool
  | .bool _ => true
  | _ => false
def patC : List SV → List Bool
  | [] => []
  | .d (.bool _) :: r => true :: patC r
  | _ :: r => false :: patC r
def StEq (P : Program) (t : TypeId) (ks : List Bool) : Prop :=
  ∀ (us vs : Array Value) (w : World) (b : Bool) (x y : Operand),us.toList.map isB = ks → eqVs us.toList vs.toList = some b →
    (do eqGuard .eql t x y (.agg us) (.agg vs); binOp .eql t (.agg us) (.agg vs) : Sem Value).run P w = .ok (.bool b) w ∧
    (do eqGuard .neq t x y (.agg us) (.agg vs); binOp .neq t (.agg us) (.agg vs) : Sem Value).run P w = .ok (.bool (!b)) w
def dstOf (ops : List Oper) (j : Nat) : Option Nat :=
  match nth ops j with
  | some o => o.dst
  | none => none
def gdOf (ops : List Oper) (j : Nat) : Option (Nat × Bool) :=
  match nth ops j with
  | some o => o.guard
  | none => none
section eval
variable (P : Program) (T : Tab)
def rowV (ag : Bool) (xs : List SV) : SV:=if ag then .agg xs else one xs
def loadV (σ : Sy) (t : TypeId) : SV → Option Ev
  | .p b o => match nth σ.bx b,ldT P t with
    | some c,some (a,n) => if c.it.isNone = true ∧ o + n ≤ c.xs.length then some { p:=True,v:=rowV a ((c.xs.drop o).take n),ef:=[],rs:=[.b b] } else none
    | _,_ => none
  | .q m c => match ldT P t with
    | some (a,n) => if n ≤ m then some { p:=True,v:=rowV a (take c 0 n),ef:=[],rs:=[] } else none
    | none => none
  | .d (.ref m c) => match ldT P t with
    | some (a,n) => if n ≤ m then some { p:=True,v:=rowV a (take c 0 n),ef:=[],rs:=[] } else none
    | none => none
  | .pt i x k o => match nth σ.tk i,ldT P t with
    | some (.own _ k' m g),some (a,n) => if k = k' ∧ o + n ≤ k then some { p:=x < m,v:=rowV a (take (g x) o n),ef:=[],rs:=[.k i] } else none
    | some (.frz k' m g),some (a,n) => if k = k' ∧ o + n ≤ k then some { p:=x < m,v:=rowV a (take (g x) o n),ef:=[],rs:=[.k i] } else none
    | some (.ownx _ k' m _ c j),some (a,n) => if k = k' ∧ o = c ∧ o < k ∧ n = 1 ∧ a = false then some { p:=x + 1 = m,v:=.tk j,ef:=[],rs:=[.k i] } else none
    | _,_ => none
  | _ => none
def storeX (σ : Sy) (i x k o : Nat) (vs : List SV) (e k' m : Nat) (g : Nat → Nat → DV) (c n : Nat) : Option Ev :=
  match vs with
  | [.tk j'] => match nth σ.tk j' with
    | some (.own _ _ _ _) => if k = k' ∧ o = c ∧ o < k ∧ n = 1 then some { p:=x + 1 = m,v:=.any,ef:=[.k i (.ownx e k' m g c j')],rs:=[.k i,.k j'] } else none
    | _ => none
  | _ => none
def storeV (σ : Sy) (t : TypeId) (vs : List SV) : SV → Option Ev
  | .p b o => match nth σ.bx b,szT P t with
    | some c,some n =>
      if c.frz = false ∧ c.it.isNone = true ∧ vs.length = n ∧ o + n ≤ c.xs.length then
        some { p:=True,v:=.any,ef:=[.b b { frz:=false,xs:=c.xs.take o ++ vs ++ c.xs.drop (o + n) }],rs:=[.b b] }
      else none
    | _,_ => none
  | .pt i x k o => match nth σ.tk i,szT P t,deepC σ vs with
    | some (.own e k' m g),some n,some (ys,es,rs) =>
      if k = k' ∧ ys.length = n ∧ o + n ≤ k ∧ ¬ (.k i ∈ rs) then
        some { p:=x < m,v:=.any,ef:=es ++ [.k i (.own e k m (fun x' j => if x' = x ∧ o ≤ j ∧ j < o + n then dget ys (j - o) else g x' j))],rs:=.k i :: rs }
      else none
    | some (.ownx e k' m g c _),some n,some _ => storeX σ i x k o vs e k' m g c n
    | _,_,_ => none
  | _ => none
def fieldV (t : TypeId) (f : Nat) : SV → Option SV
  | .p b o => match fldT P t f with
    | some (off,_) => some (.p b (o + off))
    | none => none
  | .q m c => match fldT P t f with
    | some (off,_) => some (.q (m - off) (fun j => c (off + j)))
    | none => none
  | .d (.ref m c) => match fldT P t f with
    | some (off,_) => some (.q (m - off) (fun j => c (off + j)))
    | none => none
  | .pt i x k o => match fldT P t f with
    | some (off,_) => some (.pt i x k (o + off))
    | none => none
  | _ => none
def indexV (σ : Sy) (t : TypeId) (i : Int) : SV → Option Ev
  | .d (.sl k n g) => match elT P t with
    | some (_,k',_) => if k = k' then some { p:=0 ≤ i ∧ i < n,v:=.q k (g i.toNat),ef:=[],rs:=[] } else none
    | none => none
  | .tk j => match nth σ.tk j,elT P t with
    | some (.own _ k n _),some (_,k',_) => if k = k' then some { p:=0 ≤ i ∧ i < n,v:=.pt j i.toNat k 0,ef:=[],rs:=[.k j] } else none
    | some (.frz k n _),some (_,k',_) => if k = k' then some { p:=0 ≤ i ∧ i < n,v:=.pt j i.toNat k 0,ef:=[],rs:=[.k j] } else none
    | some (.ownx _ k n _ _ _),some (_,k',_) => if k = k' then some { p:=0 ≤ i ∧ i < n,v:=.pt j i.toNat k 0,ef:=[],rs:=[.k j] } else none
    | _,_ => none
  | _ => none
def lenV (σ : Sy) (isl ist : Bool) : SV → Option Ev
  | .d (.sl _ n _) => if isl then some { p:=True,v:=.d (.int .i64 n),ef:=[],rs:=[] } else none
  | .d .nils => if isl then some { p:=True,v:=.d (.int .i64 0),ef:=[],rs:=[] } else none
  | .d (.str l) => if ist then some { p:=True,v:=.d (.int .i64 l.length),ef:=[],rs:=[] } else none
  | .tk j => match nth σ.tk j with
    | some (.own _ _ n _) => if isl then some { p:=True,v:=.d (.int .i64 n),ef:=[],rs:=[.k j] } else none
    | some (.frz _ n _) => if isl then some { p:=True,v:=.d (.int .i64 n),ef:=[],rs:=[.k j] } else none
    | some (.ownx _ _ n _ _ _) => if isl then some { p:=True,v:=.d (.int .i64 n),ef:=[],rs:=[.k j] } else none
    | _ => none
  | _ => none
def srcV (σ : Sy) (k : Nat) : SV → Option (Nat × (Nat → Nat → DV) × List Res)
  | .d (.sl k' n g) => if k = k' then some (n,g,[]) else none
  | .d .nils => some (0,fun _ _ => .nilI,[])
  | .tk j => match nth σ.tk j with
    | some (.frz k' n g) => if k = k' then some (n,g,[.k j]) else none
    | some (.own _ k' n g) => if k = k' then some (n,g,[.k j]) else none
    | _ => none
  | _ => none
def room (n bytes : Nat) : Prop:=n * bytes ≤ 140737488355328 ∧ n ≤ 9223372036854775807
def appW (σ : Sy) (e k bytes m : Nat) (h : Nat → Nat → DV) (rs : List Res) : SV → Option Ev
  | .d .nils => some { p:=room m bytes,v:=.tk σ.tk.length,ef:=[.k σ.tk.length (.own e k m h)],rs:=rs }
  | .tk j => match nth σ.tk j with
    | some (.own e' k' n g) =>
      if e = e' ∧ k = k' ∧ ¬ (.k j ∈ rs) then
        some { p:=room (n + m) bytes,v:=.tk σ.tk.length,ef:=[.k j .dead,.k σ.tk.length (.own e k (n + m) (fun i c => if i < n then g i c else h (i - n) c))],rs:=.k j :: rs }
      else none
    | _ => none
  | _ => none
def appV (σ : Sy) (t : TypeId) (x y : SV) : Option Ev :=
  match elT P t,(zeroT P (((elT P t).map (·.1)).getD 0)).map (·.length) with
  | some (e,k,bytes),some kz =>
    if 0 < k ∧ k = kz then
      match srcV σ k y with
      | some (m,h,rs) => appW σ e k bytes m h rs x
      | none => none
    else none
  | _,_ => none
def partsV (offs : Nat → Option (Nat × Nat)) : List SV → List (Nat × SV) → Option (List SV)
  | cs,[] => some cs
  | cs,(i,v) :: r => match offs i,v.cs with
    | some (o,n),some vs => if vs.length = n ∧ o + n ≤ cs.length then partsV offs (cs.take o ++ vs ++ cs.drop (o + n)) r else none
    | _,_ => none
def fill (z : List SV) (n : Nat) : List SV:=(List.replicate n z).flatten
def movE : SV → Option Ev
  | .gd _ _ _ => none
  | v => some { p:=True,v:=v,ef:=[],rs:=[] }
def boxE (σ : Sy) (x : SV) : Option Ev :=
  match x.cs with
  | some xs => some { p:=True,v:=.p σ.bx.length 0,ef:=[.b σ.bx.length { frz:=false,xs:=xs }],rs:=[] }
  | none => none
def allocE (σ : Sy) (t : TypeId) : Option Ev :=
  match zeroT P t with
  | some z => some { p:=True,v:=.p σ.bx.length 0,ef:=[.b σ.bx.length { frz:=false,xs:=z }],rs:=[] }
  | none => none
def storeE (σ : Sy) (t : TypeId) (x v : SV) : Option Ev :=
  match v.cs with
  | some vs => storeV P σ t vs x
  | none => none
def nilE : SV → Option Ev
  | .p b o => some { p:=True,v:=.p b o,ef:=[],rs:=[] }
  | .q m c => some { p:=True,v:=.q m c,ef:=[],rs:=[] }
  | .pt i x k o => some { p:=True,v:=.pt i x k o,ef:=[],rs:=[] }
  | .d (.ref m c) => some { p:=True,v:=.d (.ref m c),ef:=[],rs:=[] }
  | _ => none
def fadE (t : TypeId) (f : Nat) (x : SV) : Option Ev :=
  match fieldV P t f x with
  | some v => some { p:=True,v:=v,ef:=[],rs:=[] }
  | none => none
def fldTy (t : TypeId) (f : Nat) : Option TypeId :=
  match P.underlying t with
  | some (.struct fs) => match fs[f]? with
    | some fd => some fd.type
    | none => none
  | _ => none
def fldE (t : TypeId) (f : Nat) : SV → Option Ev
  | .agg xs => match fldT P t f,fldTy P t f with
    | some (o,n),some u => match ldT P u with
      | some (a,n') => if n = n' ∧ o + n ≤ xs.length then some { p:=True,v:=rowV a ((xs.drop o).take n),ef:=[],rs:=[] } else none
      | none => none
    | _,_ => none
  | _ => none
def idxE (σ : Sy) (t : TypeId) (x : SV) : SV → Option Ev
  | .d (.int _ n) => indexV P σ t n x
  | _ => none
def atE (t : TypeId) : SV → SV → Option Ev
  | .d (.str l),.d (.int _ n) => if strT P t then some { p:=0 ≤ n ∧ n < l.length,v:=.d (.int .u8 ((l.getD n.toNat 0).toNat)),ef:=[],rs:=[] } else none
  | _,_ => none
def arrE (t : TypeId) (xs : List SV) : SV → Option Ev
  | .d (.int _ n) => match arrT P t with
    | some (len,e,k) => match ldT P e with
      | some (ag,k') => if k = k' ∧ len * k = xs.length then some { p:=0 ≤ n ∧ n < len,v:=rowV ag ((xs.drop (n.toNat * k)).take k),ef:=[],rs:=[] } else none
      | none => none
    | none => none
  | _ => none
def ixE (t : TypeId) : SV → SV → Option Ev
  | .agg xs,y => arrE P t xs y
  | .d x,y => atE P t (.d x) y
  | _,_ => none
def notE : SV → Option Ev
  | .d (.bool b) => some { p:=True,v:=.d (.bool (!b)),ef:=[],rs:=[] }
  | _ => none
def binO (p : Option (Prop × DV)) : Option Ev :=
  match p with
  | some (p,z) => some { p:=p,v:=.d z,ef:=[],rs:=[] }
  | none => none
def binA (t : TypeId) (op : BinOp) (xs ys : List SV) : Option Ev :=
  match eqC xs ys with
  | some c => match op with
    | .eql => some { p:=StEq P t (patC xs),v:=.d (.bool c),ef:=[],rs:=[] }
    | .neq => some { p:=StEq P t (patC xs),v:=.d (.bool (!c)),ef:=[],rs:=[] }
    | _ => none
  | none => none
def binE (op : BinOp) (t : TypeId) : SV → SV → Option Ev
  | .agg xs,.agg ys => binA P t op xs ys
  | .d x,.d y => binO (binB (boolT P t) op (.d x) (.d y))
  | _,_ => none
def pickA (ops : List Oper) (c : Nat) (w : Bool) : SV → SV
  | .gd j w' x => if dstOf ops j = some c ∧ w = w' then x else .any
  | x => x
def pickB (t : Bool) : SV → SV → Option Ev
  | .d (.bool u),.d (.bool v) => some { p:=True,v:=.d (.bool (if t then u else v)),ef:=[],rs:=[] }
  | _,_ => none
def pickE (ops : List Oper) (c : Nat) (x y : SV) : SV → Option Ev
  | .d (.bool t) => pickB t (pickA ops c true x) (pickA ops c false y)
  | _ => none
def byt : DV → UInt8
  | .int _ m => UInt8.ofNat m.toNat
  | _ => 0
def cvtE (s t : TypeId) : SV → Option Ev
  | .d (.int _ n) => match intT P s,intT P t with
    | some _,some k => some { p:=R k n,v:=.d (.int k n),ef:=[],rs:=[] }
    | _,_ => none
  | .d (.sl 1 n g) => if bysT P s = true ∧ strT P t = true then some { p:=∀ i,i < n → g i 0 = .int .u8 (byt (g i 0)).toNat,v:=.d (.str ((List.range n).map (fun i => byt (g i 0)))),ef:=[],rs:=[] } else none
  | _ => none
def extE (i : Nat) : SV → Option Ev
  | .tup xs => match nth xs i with
    | some v => some { p:=True,v:=v,ef:=[],rs:=[] }
    | none => none
  | _ => none
def bldE (t : TypeId) (ps : List (Nat × SV)) : Option Ev :=
  match zeroT P t,flsT P t with
  | some z,some fs => match partsV (nth fs) z ps with
    | some cs => some { p:=True,v:=.agg cs,ef:=[],rs:=[] }
    | none => none
  | some z,none => match arrT P t with
    | some (_,_,k) => match partsV (fun i => some (i * k,k)) z ps with
      | some cs => some { p:=True,v:=.agg cs,ef:=[],rs:=[] }
      | none => none
    | none => none
  | _,_ => none
def bslV (σ : Sy) (k n : Nat) (cs : List SV) : Option Ev :=
  match deepC σ cs with
  | some (ys,es,rs) => if ys.length = n * k then some { p:=True,v:=.d (.sl k n (fun i j => dget ys (i * k + j))),ef:=es,rs:=rs } else none
  | none => none
def bslO (σ : Sy) (e k n : Nat) (cs : List SV) : Option Ev :=
  match deepC σ cs with
  | some (ys,[],rs) => if ys.length = n * k then some { p:=True,v:=.tk σ.tk.length,ef:=[.k σ.tk.length (.own e k n (fun i j => dget ys (i * k + j)))],rs:=rs } else none
  | _ => none
def bslZ (σ : Sy) (ow : Bool) (e k n : Nat) (z : List SV) (ps : List (Nat × SV)) : Option Ev :=
  if z.length = k ∧ n * k ≤ 16777216 ∧ 0 < n * k then
    match partsV (fun i => some (i * k,k)) (fill z n) ps with
    | some cs => if ow = true then bslO σ e k n cs else bslV σ k n cs
    | none => none
  else none
def bslE (σ : Sy) (t : TypeId) (n : Nat) (ps : List (Nat × SV)) : Option Ev :=
  match elT P t with
  | some (e,k,_) => match zeroT P e with
    | some z => bslZ σ (strT P e) e k n z ps
    | none => none
  | none => none
def sliE (t : TypeId) : SV → SV → SV → Option Ev
  | .d (.sl k n g),.d (.int _ l),.d (.int _ h) => match elT P t with
    | some (_,k',_) => if k = k' then some { p:=0 ≤ l ∧ l ≤ h ∧ h ≤ n,v:=.d (.sl k (h - l).toNat (fun i j => g (l.toNat + i) j)),ef:=[],rs:=[] } else none
    | none => none
  | .d (.str s),.d (.int _ l),.d (.int _ h) =>
    if strT P t then some { p:=0 ≤ l ∧ l ≤ h ∧ h ≤ s.length,v:=.d (.str ((s.take h.toNat).drop l.toNat)),ef:=[],rs:=[] } else none
  | _,_,_ => none
def lenX : SV → SV
  | .d (.sl _ n _) => .d (.int .i64 n)
  | .d (.str s) => .d (.int .i64 s.length)
  | _ => .any
def minE (mx : Bool) : SV → SV → Option Ev
  | .d (.int k a),.d (.int k' b) => if k = k' then some { p:=True,v:=.d (.int k (if mx then (if b > a then b else a) else (if b < a then b else a))),ef:=[],rs:=[] } else none
  | _,_ => none
def argE (σ : Sy) (xs : List SV) : SV → Option (FuncId × List SV × List Ef × List Res)
  | .d (.clo g n c) => match deepA σ xs with
    | some (ys,es,rs) => some (g,ys ++ take c 0 n,es,rs)
    | none => none
  | .d (.bm g n c) => match deepA σ xs with
    | some (ys,es,rs) => some (g,.agg (take c 0 n) :: ys,es,rs)
    | none => none
  | _ => none
def argI (σ : Sy) (xs : List SV) (m : String) : SV → Option (FuncId × List SV × List Ef × List Res)
  | .d (.ifc t n c) => match metT P t m,deepA σ xs with
    | some g,some (ys,es,rs) => some (g,.agg (take c 0 n) :: ys,es,rs)
    | _,_ => none
  | _ => none
def funE (a : Option (FuncId × List SV × List Ef × List Res)) : Option Ev :=
  match a with
  | some (g,A,es,rs) => match T g A with
    | some (p,r) => some { p:=p,v:=r,ef:=es,rs:=rs }
    | none => none
  | none => none
def ifcV (t : TypeId) (ys : List DV) : SV → SV
  | .agg _ => .d (.ifc t ys.length (dget ys))
  | _ => .d (.if1 t (dget ys 0))
def mkiE (σ : Sy) (t : TypeId) (x : SV) : Option Ev :=
  match ifT P t,x.cs with
  | false,some xs => match deepC σ xs with
    | some (ys,es,rs) => some { p:=True,v:=ifcV t ys x,ef:=es,rs:=rs }
    | none => none
  | _,_ => none
def asrY (ok : Bool) (v : SV) : Option Ev :=
  if ok then some { p:=True,v:=.tup [v,.d (.bool true)],ef:=[],rs:=[] } else some { p:=True,v:=v,ef:=[],rs:=[] }
def asrN (u : TypeId) (ok : Bool) : Option Ev :=
  match ok,zeroT P u,zagT P u with
  | true,some z,some ag => some { p:=True,v:=.tup [rowV ag z,.d (.bool false)],ef:=[],rs:=[] }
  | _,_,_ => none
def asrE (u : TypeId) (ok : Bool) : SV → Option Ev
  | .d (.ifc t n c) => if ifT P u = false then (if t = u then asrY ok (.agg (take c 0 n)) else asrN P u ok) else none
  | .d (.if1 t y) => if ifT P u = false then (if t = u then asrY ok (.d y) else asrN P u ok) else none
  | .d .nilI => if ifT P u = false then asrN P u ok else none
  | _ => none
def rngE (σ : Sy) (t : TypeId) : SV → Option Ev
  | .d (.str l) => if strT P t then some { p:=True,v:=.p σ.bx.length 0,ef:=[.b σ.bx.length { frz:=false,xs:=[],it:=some (l,0) }],rs:=[] } else none
  | _ => none
def nxtI (b : Nat) : BC → Option Ev
  | { frz:=false,xs:=xs,it:=some (l,p) } =>
    if p < l.length then
      some { p:=True,v:=.tup [.d (.bool true),.d (.int .i64 p),.d (.int .i32 (Utf8.decode ⟨l.toArray⟩ p).1)],ef:=[.b b { frz:=false,xs:=xs,it:=some (l,p + (Utf8.decode ⟨l.toArray⟩ p).2) }],rs:=[.b b] }
    else some { p:=True,v:=.tup [.d (.bool false)],ef:=[],rs:=[.b b] }
  | _ => none
def nxtE (σ : Sy) : SV → Option Ev
  | .p b 0 => match nth σ.bx b with
    | some c => nxtI b c
    | none => none
  | _ => none
def allD : List SV → Option (List DV)
  | [] => some []
  | .d x :: r => match allD r with
    | some ys => some (x :: ys)
    | none => none
  | _ => none
def capV (σ : Sy) : SV → Option (DV × List Res)
  | .d x => some (x,[])
  | .p b 0 => match nth σ.bx b with
    | some c => if c.frz = true ∧ c.it.isNone = true then (match allD c.xs with | some ys => some (.ref ys.length (dget ys),[.b b]) | none => none) else none
    | none => none
  | .q m c => some (.ref m c,[])
  | _ => none
def capsV (σ : Sy) : List SV → Option (List DV × List Res)
  | [] => some ([],[])
  | s :: r => match capV σ s,capsV σ r with
    | some (x,rs),some (xs,rs') => some (x :: xs,rs ++ rs')
    | _,_ => none
def mkbE (σ : Sy) (f : FuncId) : SV → Option Ev
  | .agg xs => match deepC σ xs with
    | some (ys,es,rs) => some { p:=True,v:=.d (.bm f ys.length (dget ys)),ef:=es,rs:=rs }
    | none => none
  | _ => none
def mkfE (σ : Sy) (f : FuncId) (caps : List SV) : Option Ev :=
  match capsV σ caps with
  | some (xs,rs) => some { p:=True,v:=.d (.clo f xs.length (dget xs)),ef:=[],rs:=rs }
  | none => none
def bltE (rd : Operand → SV) (σ : Sy) : Builtin → List Operand → List TypeId → Option Ev
  | .len,[x],[t] => (match rd x with
    | .d (.mp n _ _) => if mapT P t then some { p:=True,v:=.d (.int .i64 n),ef:=[],rs:=[] } else none
    | y => lenV σ (elT P t).isSome (strT P t) y)
  | .min,[x,y],_ => minE false (rd x) (rd y)
  | .max,[x,y],_ => minE true (rd x) (rd y)
  | .append,[x,y],[t,u] => if t = u then appV P σ t (rd x) (rd y) else none
  | _,_,_ => none
def calA (rd : Operand → SV) (σ : Sy) (c : Call) : Option (FuncId × List SV × List Ef × List Res) :=
  match c.callee with
  | .builtin _ => none
  | .value f => argE σ (c.args.toList.map rd) (rd f)
  | .invoke x m => argI P σ (c.args.toList.map rd) m (rd x)
def calE (rd : Operand → SV) (σ : Sy) (c : Call) : Option Ev :=
  match c.callee with
  | .builtin b => bltE P rd σ b c.args.toList c.argTypes.toList
  | _ => funE T (calA P rd σ c)
def opE (ops : List Oper) (rd rdp : Operand → SV) (σ : Sy) : Op → Option Ev
  | .move x => movE (rd x)
  | .assign x => movE (rd x)
  | .alloc t => allocE P σ t
  | .box _ x => boxE σ (rd x)
  | .load t x => loadV P σ t (rd x)
  | .store t x y => storeE P σ t (rd x) (rd y)
  | .nilCheck x => nilE (rd x)
  | .fieldAddr t x f => fadE P t f (rd x)
  | .field t x f => fldE P t f (rd x)
  | .indexAddr t x i => idxE P σ t (rd x) (rd i)
  | .index t x i => ixE P t (rd x) (rd i)
  | .unOp op _ x => (match op with | .not => notE (rd x) | _ => none)
  | .binOp op t x y _ => binE P op t (rd x) (rd y)
  | .pick c a b => (match c with | .tmp c => pickE ops c (rdp a) (rdp b) (rd (.tmp c)) | _ => none)
  | .convert s t x => cvtE P s t (rd x)
  | .extract x i => extE i (rd x)
  | .build t ps => bldE P t (ps.toList.map fun q => (q.1,rd q.2))
  | .buildSlice t n ps => bslE P σ t n (ps.toList.map fun q => (q.1,rd q.2))
  | .slice t x lo hi mx => (match mx with
    | none => sliE P t (rd x) (match lo with | none => .d (.int .i64 0) | some y => rd y) (match hi with | none => lenX (rd x) | some y => rd y)
    | some _ => none)
  | .call c => calE P T rd σ c
  | .makeFunc f first caps => (match f,first.toList,caps.toList with
    | .func f,[],_ => mkfE σ f (caps.toList.map rd)
    | .func f,[x],[] => mkbE σ f (rd x)
    | _,_,_ => none)
  | .makeInterface t x => mkiE P σ t (rd x)
  | .typeAssert x _ u ok => asrE P u ok (rd x)
  | .range t x => rngE P σ t (rd x)
  | .next x s => if s then nxtE σ (rd x) else none
  | _ => none
def strip (ops : List Oper) : Nat → Option (Nat × Bool) → SV → SV
  | f + 1,some (j0,w0),.gd j w x => if j = j0 ∧ w = w0 then x else strip ops f (gdOf ops j0) (.gd j w x)
  | _,_,x => x
def ung : SV → SV
  | .gd _ _ _ => .any
  | x => x
def rdR (ops : List Oper) (σ : Sy) (g : Option (Nat × Bool)) : Operand → SV
  | .tmp t => strip ops 4 g (lk σ.env t)
  | .const v => cv v
  | .func f => .d (.clo f 0 (fun _ => .nilI))
  | .global _ => .any
def rdG (ops : List Oper) (σ : Sy) (g : Option (Nat × Bool)) (x : Operand) : SV:=ung (rdR ops σ g x)
def act (ops : List Oper) (σ : Sy) : Nat → Nat × Bool → Option Bool
  | 0,_ => none
  | f + 1,(j,w) => match dstOf ops j with
    | some t => match lk σ.env t with
      | .d (.bool b) => some (b == w)
      | .gd j' w' (.d (.bool b)) => if gdOf ops j = some (j',w') then (match act ops σ f (j',w') with
        | some c => some (c && (b == w))
        | none => none) else none
      | _ => none
    | none => none
def Ef.isFrz : Ef → Bool
  | .k _ (.frz _ _ _) => true
  | _ => false
def Ef.res : Ef → Res
  | .b n _ => .b n
  | .k n _ => .k n
def opRs (o : Oper) : List Res:=o.op.operands.toList.filterMap fun | .tmp t => some (.t t) | _ => none
def opWs (o : Oper) (es : List Ef) : List Res:=(match o.dst with | some d => [Res.t d] | none => []) ++ es.map Ef.res
def gdRs (ops : List Oper) : Option (Nat × Bool) → List Res
  | some (j,_) => match dstOf ops j with
    | some t => [.t t]
    | none => []
  | none => []
structure Lg where
  rs : List Res
  ws : List Res
def clean : List (Nat × SV) → List (Nat × SV)
  | [] => []
  | (t,.gd _ _ _) :: r => (t,.any) :: clean r
  | x :: r => x :: clean r
def Lg.meet (a b : Lg) : Bool:=a.ws.any (fun r => b.ws.contains r || b.rs.contains r) || b.ws.any (fun r => a.rs.contains r)
def ancs (ops : List Oper) : List Nat :=
  ops.foldl (fun acc o => acc ++ [o.after.toList.foldl (fun s e => if Region.binds .any e && decide (e.on < acc.length) then s ||| (1 <<< e.on) ||| acc.getD e.on 0 else s) 0]) []
def ordOK (ops : List Oper) (lg : List Lg) : Bool :=
  let m:=ancs ops
  (List.range lg.length).all fun j => (List.range j).all fun i => (m.getD j 0).testBit i || !(lg.getD i ⟨[],[]⟩).meet (lg.getD j ⟨[],[]⟩)
def regOK (nt : Nat) (ops : List Oper) : Bool :=
  (List.range ops.length).all fun i => match nth ops i with
    | none => true
    | some o =>
      (match o.dst with | some d => decide (d < nt) && (List.range i).all (fun j => !(dstOf ops j == some d)) | none => true) &&
      (match o.guard with | some (j,_) => decide (j < i) | none => true) &&
      o.after.toList.all (fun e => !Region.binds .any e || decide (e.on < i)) &&
      (match o.op with | .pick (.tmp c) _ _ => (List.range ops.length).all (fun j => decide (j < i) || !(dstOf ops j == some c)) | _ => true)
end eval
end Go.RX
