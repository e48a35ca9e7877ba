/-
  Contracts, part 29. No condition.
-/
import Derived.Test.YtdajcfdhcjbmmaaGreatDoorB27
set_option linter.all false
namespace Go.RX
open Go Go.RowKit
theorem ownsRow_same {w w':World} {b e k n:Nat} {v:Value} {xs:List Value} (h:w.ownsRow b e k v n xs) (hs:∀ g,v.ownBlock = some g->w'.heap[g]? = w.heap[g]?):w'.ownsRow b e k v n xs :=
 ⟨h.1,h.2.imp (fun q => q) (fun ⟨g,cap,cur,q1,q2,q3,q4⟩ => ⟨g,cap,cur,q1,q2,by rw [hs g (by rw [q1];rfl)];exact q3,q4⟩)⟩
section
def Hold (n0 e k n:Nat) (g:Nat->Nat->DV) (v:Value) (I V:Nat->Prop) (W:World):Prop :=
 ∃ xs,W.ownsRow n0 e k v n xs/\(∀ u∈xs,u.oneCell' = true)/\(∀ i j,i < n->j < k->∃ u,xs[i * k + j]? = some u/\Rep I W u (g i j))/\∀ b,v.ownBlock = some b->¬ I b/\¬ V b
variable {n0 e k n : Nat} {g : Nat → Nat → DV} {v : Value} {I I' V V' : Nat → Prop} {W W' : World}
theorem Hold.lt (h:Hold n0 e k n g v I V W):∀ b,v.ownBlock = some b->n0<=b/\b < W.heap.size:=by
 obtain ⟨xs,h1,_⟩:=h
 exact h1.lt
theorem Hold.one (h:Hold n0 e k n g v I V W):v.oneCell' = true:=by
 obtain ⟨xs,h1,_⟩:=h
 rcases h1.2 with ⟨q,_⟩ | ⟨_,_,_,q,_⟩<;>rw [q]<;>rfl
theorem Hold.turn (h:Hold n0 e k n g v I V W) (hs:∀ b,v.ownBlock = some b->W'.heap[b]? = W.heap[b]?) (hi:∀ b,I b->I' b) (hw:∀ b,I b->W'.heap[b]? = W.heap[b]?) (ho:∀ b,v.ownBlock = some b->¬ I' b/\¬ V' b):Hold n0 e k n g v I' V' W':=by
 obtain ⟨xs,h1,h2,h3,h4⟩:=h
 refine ⟨xs,ownsRow_same h1 hs,h2,fun i j hi' hj => ?_,ho⟩
 obtain ⟨u,q1,q2⟩:=h3 i j hi' hj
 exact ⟨u,q1,q2.mono hi hw⟩
theorem Hold.ext (h:Hold n0 e k n g v I V W) (he:Ext I I' V V' W W') (hI:∀ b,I b->b < W.heap.size) (hd:∀ b,I b->¬ V b):Hold n0 e k n g v I' V' W':=by
 have hl:=h.lt
 obtain ⟨_,_,_,_,h4⟩:=id h
 refine h.turn (fun b hb => he.same b (hl b hb).2 (h4 b hb).2) he.i1 (fun b hb => he.same b (hI b hb) (hd b hb)) (fun b hb => ⟨fun hc => ?_,fun hc => ?_⟩)
 ·rcases he.i2 b hc with q | q
  ·exact (h4 b hb).1 q
  ·have:=(hl b hb).2;omega
 ·rcases he.v2 b hc with q | q
  ·exact (h4 b hb).2 q
  ·have:=(hl b hb).2;omega
theorem Hold.cells (h:Hold n0 e k n g v I V W) {b:Nat} (hb:v.ownBlock = some b):∃ cs T fz,W.heap[b]? = some (.cells cs T fz):=by
 obtain ⟨xs,h1,_⟩:=h
 rcases h1.2 with ⟨q,_⟩ | ⟨_,_,_,q,_,hc,_⟩
 ·rw [q] at hb;cases hb
 ·rw [q] at hb;cases hb;exact ⟨_,_,_,hc⟩
theorem Hold.put (h:Hold n0 e k n g v I V W) {c:Nat} {o o':Obj} (hk:W.heap[c]? = some o) (ho:o.isCells = false) (hI:¬ I c):Hold n0 e k n g v I V (W.putObj c o'):=by
 obtain ⟨_,_,_,_,h4⟩:=id h
 refine h.turn (fun b hb => putObj_other (fun q => ?_)) (fun _ h => h) (fun b hb => putObj_other (fun q => hI (by rw [← q];exact hb))) h4
 obtain ⟨cs,T,fz,hc⟩:=h.cells hb
 subst q
 rw [hc] at hk;cases hk;cases ho
theorem Hold.keep (h:Hold n0 e k n g v I V W) (hk:Keep W.heap.size W W') (hI:∀ b,I b->b < W.heap.size) (h1:∀ b,I b->I' b) (hi:∀ b,I' b->I b∨W.heap.size<=b):Hold n0 e k n g v I' V W':=by
 have hl:=h.lt
 obtain ⟨_,_,_,_,h4⟩:=id h
 refine h.turn (fun b hb => hk.block b (hl b hb).2 (fun e => by cases e)) h1 (fun b hb => hk.block b (hI b hb) (fun e => by cases e)) (fun b hb => ⟨fun hc => ?_,(h4 b hb).2⟩)
 rcases hi b hc with q | q
 ·exact (h4 b hb).1 q
 ·have:=(hl b hb).2;omega
theorem Hold.row (h:Hold n0 e k n g v I V W) {b:Nat} {cs:Array Value} (hb:v.ownBlock ≠ some b) (hI:¬ I b):Hold n0 e k n g v I V (W.setRow b cs):=by
 obtain ⟨_,_,_,_,h4⟩:=id h
 exact h.turn (fun c hc => setRow_other W b c cs (fun q => hb (by rw [hc,q]))) (fun _ h => h) (fun c hc => setRow_other W b c cs (fun q => hI (by rw [← q];exact hc))) h4
theorem Hold.data (h:Hold n0 e k n g v I V W):Rep (fun b => I b∨v.ownBlock = some b) W v (.sl k n g):=by
 obtain ⟨xs,h1,h2,h3,h4⟩:=h
 refine ownsRow.rep h1 (fun i j hi hj => ?_) (fun b hb => .inr hb)
 obtain ⟨u,q1,q2⟩:=h3 i j hi hj
 exact ⟨u,q1,q2.mono (fun b hb => .inl hb) (fun _ _ => rfl)⟩
theorem Hold.nil (n0 e k:Nat) (g:Nat->Nat->DV) (I V:Nat->Prop) (W:World):Hold n0 e k 0 g (.slice none 0 0) I V W :=
 ⟨[],World.ownsRow_nil W n0 e k,fun u hu => by simp at hu,fun i j hi => by omega,fun b hb => by simp [Value.ownBlock] at hb⟩
theorem Hold.app {P:Program} {t by_ m:Nat} {z:List SV} {a:Act} {o:Oper} {x y:Operand} {hh:Nat->Nat->DV} {ad:Addr} {c:Nat} {news:List Value} (h:Hold n0 e k n g v I V W) (ht:elT P t = some (e,k,by_)) (hz:zeroT P e = some z) (hzl:z.length = k) (hk:0 < k)
  (ho:o.op = .call { callee:=.builtin .append,args:=#[x,y],argTypes:=#[t,t] }) (hx:a.eval x = v) (hy:a.eval y = .slice (some ad) m c) (hnl:news.length = m * k) (hnc:∀ j u,news[j]? = some u->W.cell? (ad.add j) = some u) (h1n:∀ u∈news,u.oneCell' = true)
  (hnr:∀ i j,i < m->j < k->∃ u,news[i * k + j]? = some u/\Rep I W u (hh i j)) (hroom:room (n + m) by_) (hn0:n0<=W.heap.size) (hI:∀ b,I b->b < W.heap.size) (hV:∀ b,V b->b < W.heap.size) :
  ∃ v' W',(execOp a.eval o).run P W = .ok (.value v') W'/\Hold n0 e k (n + m) (fun i c => if i < n then g i c else hh (i - n) c) v' I V W'/\W.grownBy W' v.ownBlock/\(∀ b,v'.ownBlock = some b->v.ownBlock = some b∨W.heap.size<=b):=by
 obtain ⟨xs,h1,h2,h3,h4⟩:=h
 obtain ⟨ie,hu,hie,hs,hby⟩:=elT_spec ht
 obtain ⟨i,zv,hi,hzv,hsz,_⟩:=zeroT_ok (I:=I) (β:=fun _ => none) (τ:=fun _ => none) (Y:=fun _ => none) (w:=W) hz
 rw [hie] at hi;cases hi
 obtain ⟨r1,r2⟩:=hroom
 obtain ⟨v',W',hr,how,hg,hnew⟩:=run_append_at (P:=P) n0 t o.type e ie zv k by_ hu hie hzv hs hby (by rw [hsz,hzl]) hk v n xs h1 ad m c news hnl hnc h1n (by simp only [maxLen];omega) r1 hn0
 refine ⟨v',W',run_append_op ho hx hy hr,⟨xs ++ news,how,fun u hu => ?_,fun i j hi hj => ?_,fun b hb => ?_⟩,hg,hnew⟩
 ·rcases List.mem_append.1 hu with hu | hu
  ·exact h2 u hu
  ·exact h1n u hu
 ·have hwI:∀ b,I b->W'.heap[b]? = W.heap[b]?:=fun b hb => hg.block b (hI b hb) (fun e' => (h4 b e'.symm).1 hb)
  have hxl:=h1.1
  by_cases hin:i < n
  ·simp only [if_pos hin]
   obtain ⟨u,hu,hr⟩:=h3 i j hin hj
   exact ⟨u,by rw [List.getElem?_append_left (by rw [hxl];exact mul_lt hin hj)];exact hu,hr.mono (fun _ h => h) hwI⟩
  ·simp only [if_neg hin]
   obtain ⟨u,hu,hr⟩:=hnr (i - n) j (by omega) hj
   refine ⟨u,?_,hr.mono (fun _ h => h) hwI⟩
   have hle:n * k<=i * k:=Nat.mul_le_mul_right k (by omega)
   rw [List.getElem?_append_right (by rw [hxl];omega),hxl]
   rw [← hu];congr 1
   rw [Nat.sub_mul];omega
 ·rcases hnew b hb with q | q
  ·exact h4 b q
  ·exact ⟨fun hc => by have:=hI b hc;omega,fun hc => by have:=hV b hc;omega⟩
end
end Go.RX
namespace Go.RX
open Go Go.RowKit
section
variable {n0 e k n : Nat} {g : Nat → Nat → DV} {v : Value} {I I' V V' : Nat → Prop} {W W' : World}
theorem Par.grown {w0:World} {I0:Nat->Prop} {m:Nat} {ob:Option Nat} (h:Par w0 I0 m I V W) (hg:W.grownBy W' ob) (hm:∀ b,ob = some b->m<=b) (hI:∀ b,ob = some b->¬ I b/\¬ V b):Yd I I V W W'/\Par w0 I0 m I V W':=by
 have hs:=hg.size
 have hle:=h.le
 have hI':∀ b,I b->W'.heap[b]? = W.heap[b]?:=fun b hb => hg.block b (h.lt b hb) (fun q => (hI b q.symm).1 hb)
 refine ⟨⟨hg.os,hg.tape,hg.output,hg.size,fun _ h => h,fun _ h => .inl h,fun b hb => by have:=h.lt b hb;omega,(fun b _ e => by cases e),hI',fun b hb => hg.block b (h.vlt b hb) (fun q => (hI b q.symm).2 hb),h.dis,trivial⟩,?_⟩
 refine ⟨hle,⟨hg.os.trans h.keep.os,hg.tape.trans h.keep.tape,hg.output.trans h.keep.output,Nat.le_trans h.keep.size hg.size,fun b hb hM => ?_,fun _ => trivial⟩,h.i0,h.vn,by have:=h.sz;omega,fun b hb => by have:=h.lt b hb;omega,h.dis,fun b hb => by have:=h.vlt b hb;omega⟩
 have:=h.sz
 rw [hg.block b (by omega) (fun q => by have:=hm b q.symm;omega)]
 exact h.keep.block b hb hM
theorem Yq.grown {ob:Option Nat} (y:Yd I I V W W') (hg:W.grownBy W' ob) (hc:∀ b,ob = some b->∃ cs T fz,W.heap[b]? = some (.cells cs T fz)):Yq I I V W W' :=
 ⟨y,fun k o hk ho => by
  have hl:=(Array.getElem?_eq_some_iff.1 hk).1
  rw [hg.block k hl (fun q => ?_)];· exact hk
  obtain ⟨cs,T,fz,hx⟩:=hc k q.symm
  rw [hx] at hk;cases hk;cases ho⟩
theorem Cl.grown {m blk T:Nat} {cs:Array Value} {ob:Option Nat} (h:Cl m blk cs T I W) (hm:m<=W.heap.size) (hg:W.grownBy W' ob) (hne:ob ≠ some blk):Cl m blk cs T I W' :=
 ⟨h.1,h.2.1,(hg.block blk (by have:=h.1;omega) (fun q => hne q.symm)).trans h.2.2⟩
theorem Cl.same {m blk T:Nat} {cs:Array Value} (h:Cl m blk cs T I W) (hm:m<=W.heap.size) (hk:Keep W.heap.size W W'):Cl m blk cs T I W' :=
 ⟨h.1,h.2.1,(hk.block blk (by have:=h.1;omega) (fun e => by cases e)).trans h.2.2⟩
theorem RepS.same {u:Value} {s:SV} (h:RepS I W u s) (hI:∀ b,I b->b < W.heap.size) (hk:Keep W.heap.size W W'):RepS I W' u s :=
 h.kept ⟨hk.size,fun _ h => h,fun b hb => hk.block b (hI b hb) (fun e => by cases e)⟩
theorem Hold.congr {g':Nat->Nat->DV} (h:Hold n0 e k n g v I V W) (hg:∀ i j,i < n->j < k->g i j = g' i j):Hold n0 e k n g' v I V W:=by
 obtain ⟨xs,h1,h2,h3,h4⟩:=h
 exact ⟨xs,h1,h2,fun i j hi hj => by rw [← hg i j hi hj];exact h3 i j hi hj,h4⟩
end
end Go.RX
namespace Go.RX
open Go Go.RowKit
theorem tail_ex [Glob] [Dfr] [Rnd] {P:Program} {opsA:Array Oper} {m k:Nat} {Q:Exit->Act->World->Prop} {a:Act} {w:World} {R:Value->World->Prop} {dst:Option Tmp} {op:Op} {ty:TypeId} {pos:String} {af:Array Edge} (ho:opsA[m]? = some { dst:=dst,op:=op,type:=ty,pos:=pos,after:=af,guard:=none }) (hnd:∀ c,op ≠ .defer c)
  (hr:∃ v w',(execOp a.eval { dst:=dst,op:=op,type:=ty,pos:=pos,after:=af,guard:=none }).run P w = .ok (.value v) w'/\R v w') (h:∀ v w',R v w'->wpOpsIn fen 0 P opsA Q (List.range' (m + 1) k) (a.put dst v) w'):wpOpsIn fen 0 P opsA Q (List.range' m (k + 1)) a w:=by
 obtain ⟨v,w',h1,h2⟩:=hr
 exact tail_val ho hnd h1 (h v w' h2)
end Go.RX
namespace Go.RX
open Go Go.RowKit
theorem tail_callP [Glob] [Rnd] {P:Program} {Q:Exit->Act->World->Prop} {opsA:Array Oper} {m k:Nat} {dst:Option Tmp} {ty:TypeId} {pos:String} {af:Array Edge} {xs:Array Operand} {ts:Array TypeId} {g:FuncId} {vs:Array Value} {a:Act} {w:World} {fn:Func}
  (ho:opsA[m]? = some { dst:=dst,op:=.call ⟨.value (.func g),xs,ts⟩,type:=ty,pos:=pos,after:=af,guard:=none }) (hfn:P.funcs[g]? = some fn) (hn:(fn.name == "runtime.NumGoroutine") = false) (hb:fn.body.isNone = false) (hx:xs.map a.eval = vs)
  {R:Ending->World->Prop} (hc:Calls P g vs w R) (hnext:∀ e w',R e w'->∃ ch,e = .panicked ch/\Q (.panic ch) a w'):wpOpsIn fen 0 P opsA Q (List.range' m (k + 1)) a w:=by
 refine tail_in ho ⟨fun _ _ => trivial,?_⟩
 rw [Oper.semAt_plain fen a.eval _ (fun c e => by cases e),run_callFn (P:=P) rfl hfn hn hb hx,Oper.uponIn_enter]
 refine ⟨fun h => (by cases h),callsIn_fen.2 (hc.mono fun e w' hq => ?_)⟩
 obtain ⟨v,rfl,h⟩:=hnext e w' hq
 exact h
end Go.RX
