/-
  The theorem of one gilder: TopLaid returns true at every input, and leaves it as it was.
  No condition beside those that the statement itself names.
-/
import Derived.Test.YtmpnbmedikkggaaGTopLaid04
set_option linter.all false
namespace Go.RX
open Go Go.RowKit
section
variable [Glob] [Dfr]
end
section
variable [Glob]
end
section
variable [Glob]
end
end Go.RX
namespace Go.RX
open Go Go.RowKit
end Go.RX
namespace Go.RX
open Go Go.RowKit
variable [Glob]
theorem ownsRow_base {w:World} {b b':Nat} {e k n:Nat} {v:Value} {xs:List Value} (h:w.ownsRow b e k v n xs) (hb:b'<=b):w.ownsRow b' e k v n xs :=
 ⟨h.1,h.2.imp (fun q => q) (fun ⟨g,cap,cur,q1,q2,q3⟩ => ⟨g,cap,cur,q1,Nat.le_trans hb q2,q3⟩)⟩
theorem St.fresh {N:Nat} {σ:Sy} {I0:Nat->Prop} {w0 w w':World} {a:Act} (hs:St σ I0 N w0 a w) (htk:σ.tk = []) {d e k n:Nat} {g:Nat->Nat->DV} {v:Value} {xs:List Value} (hd:d < N) (hk:0 < k) (hB:Below w.heap.size w w') (hown:w'.ownsRow w.heap.size e k v n xs)
  (h1:∀ u∈xs,u.oneCell' = true) (hr:∀ i j,i < n->j < k->∃ u,xs[i * k + j]? = some u/\∀ I w,Rep I w u (g i j)) (hfr:∀ p∈Dfr.fr,p.1 ≠ d:=by exact fun p hp => by cases hp) :
  St { env:=(d,.tk 0) :: σ.env,bx:=σ.bx,tk:=[.own e k n g] } I0 N w0 (a.put (some d) v) w':=by
 intro Y
 obtain ⟨I,β,τ,h⟩:=hs Y
 refine ⟨I,β,upd τ 0 (some v),?_⟩
 have hg:w.grownBy w' none:=⟨hB.os,hB.tape,hB.output,hB.size,fun b hb _ => hB.block b hb⟩
 have:=h.row (t:=none) (m:=some 0) (m0:=0) (row:=none) (g:=g) (e:=e) (k:=k) (n:=n) (K':=nth [.own e k n g]) (dst:=some d) (V:=.tk 0) (v':=v) (r:=v) hg (fun b hb => by cases hb) rfl (.inl (by rw [htk];rfl)) hk (xs:=xs)
  (ownsRow_base hown h.bel.size) h1 (fun i j hi hj => by obtain ⟨u,q1,q2⟩:=hr i j hi hj;exact ⟨u,q1,q2 _ _⟩) (fun b hb => .inr (hown.lt b hb).1) (fun e => by cases e)
  (fun d' e => by cases e;exact ⟨hd,hfr⟩) (.tk (upd_same _ _ _) (by
   rcases hown.2 with ⟨q,_⟩ | ⟨_,_,_,q,_⟩<;>rw [q]<;>rfl)) rfl (fun t0 ht0 => by cases ht0) (fun x hx _ => by
   rw [htk]
   cases x with
   | zero => exact absurd rfl hx
   | succ x => rfl)
 rwa [upd_lk] at this
end Go.RX
namespace Go.RX
open Go Go.RowKit
variable [Glob]
theorem mt_aggd {I:Nat->Prop} {β:Nat->Option Nat} {τ:Nat->Option Value} {Y:Nat->Option Bool} {w:World} {v:Value} {ds:List DV} (h:Mt I β τ Y w v (.agg (ds.map .d))):RepS I w v (.agg (ds.map .d)):=by
 intro Y'
 cases h with
 | agg hl h h1 =>
  refine .agg hl (fun i u x hu hx => ?_) h1
  have:=h i u x hu hx
  rw [List.getElem?_map] at hx
  cases hd:ds[i]? with
  | none => rw [hd] at hx;cases hx
  | some y =>
   rw [hd] at hx;cases hx
   exact .d (mt_d this)
end Go.RX
namespace Go.RX
open Go Go.RowKit
variable [Glob]
theorem St.moved {σ:Sy} {I I':Nat->Prop} {N:Nat} {w w':World} {a:Act} (hs:St σ I N w a w) (hbx:σ.bx = []) (htk:σ.tk = []) (hg:noGd σ.env = true) (hk:Kpt I I' w w') (hlt:∀ b,I' b->b < w'.heap.size) (hnm:∀ b,I' b->Glob.M ≠ some b) (hG:Glob.G w') :
  St { env:=σ.env,bx:=[],tk:=[] } I' N w' a w':=by
 obtain ⟨I1,β,τ,hx⟩:=hs (fun _ => none)
 exact St.data (β:=fun _ => none) (τ:=fun _ => none) (Y:=fun _ => none) hx.sz hx.df hlt hnm hG (fun t => .inr ((hs.reps hbx htk hg t).kept hk))
end Go.RX
namespace Go.RX
open Go Go.RowKit
variable [Glob]
end Go.RX
namespace Go.RX
open Go Go.RowKit
section
end
end Go.RX
namespace Go.RX
open Go Go.RowKit
variable [Glob]
end Go.RX
namespace Go.RX
open Go Go.RowKit
variable [Glob] [Gst]
end Go.RX
