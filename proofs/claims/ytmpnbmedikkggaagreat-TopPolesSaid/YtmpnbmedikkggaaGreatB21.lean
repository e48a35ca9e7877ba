/-
  Contracts, part 22. No condition.
-/
import Derived.Test.YtmpnbmedikkggaaGreatB20
import Derived.KernelRfl
set_option linter.all false
namespace Go.RX
open Go
theorem qC {p:Prop} (h:p:=by first | exact ⟨⟩ | rfl | (intros;apply qB;first | kernel_rfl | omega) | omega):p:=h
theorem qD [Glob] [Dfr] {P:Program} {N:Nat} {σ:Sy} {K:Exit->Sy->Prop} {Kp:DV->Prop} [Rnd] [Bas] {id:Nat} {ops:Array Oper} {b:Bool}
  (hr:rgn P ops.toList (fun lg => @KOt ⟨b,ops.toList,lg⟩) Kp ops.toList σ [] (fun σ' => @EndW { σ' with env:=clean σ'.env } ⟨.normal,K⟩)) (hm:P.follows .mixedOrders = true:=by exact rfl) (hst:regOK N ops.toList = true:=by exact rfl):Ok P N (.region id ops b) σ K Kp:=qR hm hst hr
theorem qE [Glob] [Dfr] {P:Program} {N:Nat} {σ:Sy} {K:Exit->Sy->Prop} {Kp:DV->Prop} [Rnd] [Bas] {id:Nat} {ops:Array Oper} {b:Bool} {y:Code}
  (hr:rgn P ops.toList (fun lg => @KOt ⟨b,ops.toList,lg⟩) Kp ops.toList σ [] (fun σ' => @OkW _ _ _ _ { σ' with env:=clean σ'.env } ⟨P,N,y,K,Kp⟩)) (hm:P.follows .mixedOrders = true:=by exact rfl) (hst:regOK N ops.toList = true:=by exact rfl):Ok P N (.seq (.region id ops b) y) σ K Kp:=qS hm hst hr
end Go.RX
