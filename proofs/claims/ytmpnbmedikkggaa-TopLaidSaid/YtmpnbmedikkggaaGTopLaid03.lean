/-
  The theorem of one gilder: TopLaid returns true at every input, and leaves it as it was.
  No condition beside those that the statement itself names.
-/
import Derived.Test.YtmpnbmedikkggaaGTopLaid02
set_option linter.all false
namespace Go.RX
open Go Go.RowKit
variable [Glob]
section
variable [Gst] {P : Program} {N : Nat}
section
variable {σ : Sy} {j : Gst.γ} {K : Exit → Sy → Gst.γ → Prop}
end
end
section
variable [Gst] {P : Program} {N : Nat} {σ : Sy} {I : Nat → Prop} {w0 w : World} {a : Act} {Q : Exit → Act → World → Prop}
theorem hook_recS {j:Gst.γ} {o:Oper} {d:Nat} {args:Array Operand} {ts:Array TypeId} {g:FuncId} {A:List SV} {k:Bool->Gst.γ} {next:Act->World->Prop} (hc:Gst.Cx j I w0) (hs:St σ I N w0 a w) (hbx:σ.bx = []) (htk:σ.tk = []) (hg:noGd σ.env = true)
  (ho:o.op = .call ⟨.value (.func g),args,ts⟩) (hd:o.dst = some d) (hdN:d < N) (hl:args.size = A.length)
  (hx:∀ I1,St σ I1 N w a w->∀ (i:Nat) (u:Value) (s:SV),(args.map a.eval)[i]? = some u->A[i]? = some s->RepS I1 w u s)
  (hrec:CalJ P g #[] A j k)
  (hnext:∀ b I' a' w',Gst.Cx (k b) I' w'->St { env:=(d,.d (.bool b)) :: σ.env,bx:=[],tk:=[] } I' N w' a' w'->next a' w'):o.wpIn fen 0 P a w next Q:=by
 obtain ⟨I1,hs1,hc1,_,_⟩:=hs.anew hc hbx htk hg
 obtain ⟨⟨fn,h1,h2,h3⟩,hrec⟩:=hrec
 refine ⟨fun _ _ => trivial,?_⟩
 rw [Oper.semAt_plain fen a.eval o (fun c e => by rw [ho] at e;cases e),run_callFn (P:=P) ho h1 h2 h3 rfl,Oper.uponIn_enter]
 have hr:=hrec I1 w (args.map a.eval) hc1 (by simpa using hl) (hx I1 hs1)
 rw [Array.append_empty] at hr
 refine ⟨fun h => (by cases h),callsIn_fen.2 (hr.mono (fun e w' he => ?_))⟩
 obtain ⟨b,I',rfl,hk,hc'⟩:=he
 show next (a.put o.dst (.bool b)) w'
 rw [hd]
 exact hnext b I' _ w' hc' (hs1.after hbx htk hg hk hc' hdN (fun Y => .d .bool))
end
theorem CalJ.withU [G:Gst] {P:Program} {g:FuncId} {vs:Array Value} {A:List SV} {j:Gst.γ} {k:Bool->Gst.γ} (h:CalJ P g vs A j k) {us:Array Value} {cs:List SV}:@CalJ _ (gsU G us cs) P g vs A j k :=
 ⟨h.1,fun I w vs hc hl hA => (h.2 I w vs hc.1 hl hA).mono fun e w' hq => by
  obtain ⟨b,I',h1,h2,h3⟩:=hq
  exact ⟨b,I',h1,h2,h3,fun i u s hu hs => (hc.2 i u s hu hs).kept h2⟩⟩
theorem run_pick {P:Program} {ρ:Operand->Value} {o:Oper} {c x y:Operand} {b:Bool} {w:World} (ho:o.op = .pick c x y) (hc:ρ c = .bool b):(execOp ρ o).run P w = .ok (.value (if b = true then ρ x else ρ y)) w:=by
 simp only [execOp,ho,hc]
 cases b<;>simp [go_sem]
theorem run_pickT {P:Program} {ρ:Operand->Value} {o:Oper} {c x y:Operand} {v:Value} {w:World} (ho:o.op = .pick c x y) (hc:ρ c = .bool true) (hv:ρ x = v):(execOp ρ o).run P w = .ok (.value v) w:=by
 rw [run_pick ho hc,if_pos rfl,hv]
end Go.RX
