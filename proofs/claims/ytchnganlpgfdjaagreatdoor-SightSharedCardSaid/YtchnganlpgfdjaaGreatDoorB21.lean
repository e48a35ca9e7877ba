/-
  The program's functions,contracts: what each one returns,whatever the world: part 22. No condition.
-/
import Derived.Test.YtchnganlpgfdjaaGreatDoorB00
import Derived.Test.YtchnganlpgfdjaaGreatDoorB01
import Derived.Test.YtchnganlpgfdjaaGreatDoorB02
import Derived.Test.YtchnganlpgfdjaaGreatDoorB03
import Derived.Test.YtchnganlpgfdjaaGreatDoorB04
import Derived.Test.YtchnganlpgfdjaaGreatDoorB05
import Derived.Test.YtchnganlpgfdjaaGreatDoorB06
import Derived.Test.YtchnganlpgfdjaaGreatDoorB07
import Derived.Test.YtchnganlpgfdjaaGreatDoorB08
import Derived.Test.YtchnganlpgfdjaaGreatDoorB09
import Derived.Test.YtchnganlpgfdjaaGreatDoorB10
import Derived.Test.YtchnganlpgfdjaaGreatDoorB11
import Derived.Test.YtchnganlpgfdjaaGreatDoorB12
import Derived.Test.YtchnganlpgfdjaaGreatDoorB13
import Derived.Test.YtchnganlpgfdjaaGreatDoorB14
import Derived.Test.YtchnganlpgfdjaaGreatDoorB15
import Derived.Test.YtchnganlpgfdjaaGreatDoorB16
import Derived.Test.YtchnganlpgfdjaaGreatDoorB17
import Derived.Test.YtchnganlpgfdjaaGreatDoorB18
import Derived.Test.YtchnganlpgfdjaaGreatDoorB19
import Derived.Test.YtchnganlpgfdjaaGreatDoorB20
import Derived.IntWalk
set_option linter.all false
set_option linter.unusedVariables false
set_option linter.unusedSectionVars false
set_option linter.unusedSimpArgs false
set_option linter.unnecessarySimpa false
namespace Go.RX
open Go
variable [Glob]
section
variable {P : Program} {N : Nat} {σ : Sy} {K : Exit → Sy → Prop} {Kp : DV → Prop}
class Qa (p : Prop) (q : outParam Prop) : Prop where
  h : q → p
instance {N : Nat} {c : Code} {σ : Sy} {K : Exit → Sy → Prop} {Kp : DV → Prop} : Qa (@OkW _ σ ⟨P,N,c,K,Kp⟩) (Ok P N c σ K Kp):=⟨fun h => h⟩
instance {e : Exit} {K : Exit → Sy → Prop} {σ : Sy} : Qa (@EndW σ ⟨e,K⟩) (K e σ):=⟨fun h => h⟩
instance {g A} {x : AskK} : Qa (@AskI _ g A x) (@AskI _ g A x):=⟨fun h => h⟩
instance {c g A} {x : AskK} : Qa (@AskGI _ c g A x) (@AskGI _ c g A x):=⟨fun h => h⟩
theorem qA {p q : Prop} [x : Qa p q] (h : q) : p:=x.h h
def resL (fn : Func) : List ResultVar:=fn.results.toList
theorem Ctr.mk {f : FuncId} {fn : Func} {c : Code} {A : List SV} {r : SV} {N : Nat} (hf : P.funcs[f]? = some fn) (hb : fn.body = some c) (hname : (fn.name == "runtime.NumGoroutine") = false) (hN : fn.ntmps = N) (hn : Nat.ble A.length N = true) {rs : Array ResultVar} (hr : fn.results = rs)
    (h : Ok P N c { env:=args 0 A,bx:=[],tk:=[] } (retK P rs.toList r) (fun _ => False)) : Ctr P f A r:=by
  subst hN; subst hr
  exact Ctr.of_body hf hb hname (Nat.le_of_ble_eq_true hn) h
theorem CtrP.mk {f : FuncId} {fn : Func} {c : Code} {A : List SV} {d : DV} {N : Nat} (hf : P.funcs[f]? = some fn) (hb : fn.body = some c) (hname : (fn.name == "runtime.NumGoroutine") = false) (hN : fn.ntmps = N) (hn : Nat.ble A.length N = true)
    (h : Ok P N c { env:=args 0 A,bx:=[],tk:=[] } (fun _ _ => False) (fun d' => DEq d' d)) : CtrP P f A d:=by
  subst hN
  exact CtrP.of_body hf hb hname (Nat.le_of_ble_eq_true hn) h
theorem retK_ret {rs r σ} : retK P rs r .ret σ = resOK P rs r σ:=rfl
theorem retK_normal {rs r σ} : retK P rs r .normal σ = resOK P rs r σ:=rfl
end
theorem R64 {n : Int} (h1 : -9223372036854775808 ≤ n) (h2 : n ≤ 9223372036854775807) : R .i64 n:=by unfold R; rw [IntKind.wrap_i64]; omega
class Qb (p : Prop) (q : outParam Prop) : Prop where
  h : q → p
theorem qB {p q : Prop} [x : Qb p q] (h : q) : p:=x.h h
instance {n : Int} : Qb (R .i64 n) (-9223372036854775808 ≤ n ∧ n ≤ 9223372036854775807):=⟨fun h => R64 h.1 h.2⟩
instance {b : Bool} {ops : List Oper} {lg : List Lg} : Qb (@KOt ⟨b,ops,lg⟩) ((!b || ordOK ops lg) = true):=⟨fun h => h⟩
theorem R64.low {n : Int} (h : R .i64 n) : -9223372036854775808 ≤ n:=by unfold R at h; rw [IntKind.wrap_i64] at h; omega
theorem R64.high {n : Int} (h : R .i64 n) : n ≤ 9223372036854775807:=by unfold R at h; rw [IntKind.wrap_i64] at h; omega
theorem DEq.int {k : IntKind} {a b : Int} (h : a = b) : DEq (.int k a) (.int k b):=.of_eq (by rw [h])
theorem DEq.bool {a b : Bool} (h : a = b) : DEq (.bool a) (.bool b):=.of_eq (by rw [h])
theorem DEq.str {a b : List UInt8} (h : a = b) : DEq (.str a) (.str b):=.of_eq (by rw [h])
end Go.RX
namespace Go.RX
open Go
variable [Glob]
section
variable {P : Program}
theorem Ctr.args {f : FuncId} {A A' : List SV} {r : SV} (h : Ctr P f A r) (hs : subL { env:=[],bx:=[],tk:=[] } [] [] A' A) : Ctr P f A' r:=by
  refine ⟨h.1,fun I w vs hG hI hl hA => h.2 I w vs hG hI (by rw [hl,subL_len _ _ hs]) (fun j u s hu hsj Y => ?_)⟩
  have:=subL_ok (I:=I) (β:=fun _ => none) (τ:=fun _ => none) (Y:=Y) (n0:=0) (w:=w) (rB:=[]) (rT:=[]) (fun k c hk => by simp [nth] at hk) A' A j u s hs (fun x hx => hA j u x hu hx Y) hsj
  exact this.mono (fun _ h => h) (fun _ _ => rfl) (fun k b hk => by simp [βn,nth] at hk) (fun k b hk => by simp [τn,nth] at hk)
end
end Go.RX
namespace Go.RX
open Go
variable [Glob]
theorem room_of {n b : Nat} (h : n ≤ 1000000) (hb : b ≤ 1000000) : room n b :=
  ⟨Nat.le_trans (Nat.mul_le_mul h hb) (by decide),by omega⟩
instance {n b : Nat} : Qb (room n b) (n ≤ 1000000 ∧ b ≤ 1000000):=⟨fun h => room_of h.1 h.2⟩
abbrev ownD {α : Type} [Inhabited α] (e k : Nat) (f : α → Nat → DV) (l : List α) : TC:=.own e k l.length (fun a => f (l.getD a default))
theorem snoc_D {α : Type} [Inhabited α] {f : α → Nat → DV} {o : List α} {x : α} {k : Nat} {ys : List DV} (hk : ∀ c,c < k → dget ys c = f x c) : ∀ a c,a < o.length + 1 → c < k →
    DEq (if a < o.length then f (o.getD a default) c else dget ys ((a - o.length) * k + c)) (f ((o ++ [x]).getD a default) c):=by
  intro a c ha hc
  by_cases h : a < o.length
  · rw [if_pos h]
    have e : (o ++ [x]).getD a default = o.getD a default:=by
      rw [List.getD_eq_getElem?_getD,List.getD_eq_getElem?_getD,List.getElem?_append_left h]
    rw [e]; exact .refl _
  · rw [if_neg h]
    have e0 : a = o.length:=by omega
    subst e0
    have e : (o ++ [x]).getD o.length default = x:=by
      rw [List.getD_eq_getElem?_getD,List.getElem?_append_right (Nat.le_refl _)]; simp
    rw [e,Nat.sub_self,Nat.zero_mul,Nat.zero_add,hk c hc]; exact .refl _
end Go.RX
