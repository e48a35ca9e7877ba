/-
  The theorem of one gilder: TopLaid returns true at every input, and leaves it as it was.
  No condition beside those that the statement itself names.
-/
import Derived.Test.YtmpnbmedikkggaaGTopLaid00
import Derived.RangeFuncNested
import Derived.RangeFuncLeaves
set_option linter.all false
namespace Go.RX
open Go Go.RowKit
variable [Glob] [Dfr]
section
variable [Rnd] {P : Program} {N : Nat} {σ : Sy} {I : Nat → Prop} {w0 w : World} {a : Act} {Q : Exit → Act → World → Prop}
end
section
variable {P : Program} {N : Nat} {σ : Sy} {I : Nat → Prop} {w0 w : World} {a : Act}
end
section
variable [Rnd] {P : Program} {N : Nat} {σ : Sy} {I0 : Nat → Prop} {w0 w w' : World} {a : Act} {Q : Exit → Act → World → Prop} {opsA : Array Oper} {m k : Nat} {o : Oper}
theorem tail_if {gi:Nat} {gw b:Bool} {dst:Option Tmp} {op:Op} {ty:TypeId} {pos:String} {af:Array Edge} (ho:opsA[m]? = some { dst:=dst,op:=op,type:=ty,pos:=pos,after:=af,guard:=some (gi,gw) }) (hy:yielded opsA a.tmps gi = some b) (h1:b = gw->({ dst:=dst,op:=op,type:=ty,pos:=pos,after:=af,guard:=some (gi,gw) }:Oper).wpIn fen 0 P a w (wpOpsIn fen 0 P opsA Q (List.range' (m + 1) k)) Q) (h2:b ≠ gw->wpOpsIn fen 0 P opsA Q (List.range' (m + 1) k) (a.put dst undef) w):wpOpsIn fen 0 P opsA Q (List.range' m (k + 1)) a w:=by
 rw [List.range'_succ,wpOpsIn_cons]
 unfold wpOpIn
 rw [ho]
 simp only
 simp only [Region.wanted,hy]
 by_cases e:b = gw
 ·rw [if_pos (by simpa using e)];exact h1 e
 ·rw [if_neg (by simpa using e)];exact ⟨fun _ _ => trivial,h2 e⟩
theorem yielded_at {t:Nat} {b:Bool} {oj:Oper} {gi:Nat} (ho:opsA[gi]? = some oj) (hd:oj.dst = some t) (hv:a.tmps.getD t undef = .bool b):yielded opsA a.tmps gi = some b:=by
 unfold yielded
 rw [ho]
 simp only [Option.bind_some,hd]
 rw [Array.getD_eq_getD_getElem?] at hv
 cases hq:a.tmps[t]? with
 | none => rw [hq] at hv;simp [undef] at hv
 | some u => rw [hq] at hv;simp at hv;subst hv;rfl
end
section
variable [Rnd] {P : Program} {N : Nat} {σ : Sy} {I0 : Nat → Prop} {w0 w : World} {a : Act} {opsA : Array Oper} {m k : Nat}
end
end Go.RX
namespace Go.RX
open Go Go.RowKit
end Go.RX
