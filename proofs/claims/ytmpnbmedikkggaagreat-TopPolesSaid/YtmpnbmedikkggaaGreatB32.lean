/-
  Contracts, part 33. No condition.
-/
import Derived.Test.YtmpnbmedikkggaaGreatB31
set_option linter.all false
namespace Go.RX
open Go Go.RowKit
variable [Glob] [Dfr] [Rnd]
section
variable {P : Program} {Q : Exit → Act → World → Prop}
theorem ops_inv (n:Nat) {opsA:Array Oper} {full:List Oper} (hfull:opsA.toList = full) (hn:n<=full.length) (ht:tailOK full n = true)
  (V:(Nat->Bool)->Act->World->Prop)
  (hV:∀ D i o,i < n->D i = false->nth full i = some o->(∀ e∈o.after,Region.binds .any e = true->D e.on = true)->∀ a w,V D a w->wpOpIn fen 0 P opsA Q i (V (fun j => D j || decide (j = i))) a w)
  (hQ:∀ a w,V (fun j => decide (j < n)) a w->wpOpsIn fen 0 P opsA Q (List.range' n (full.length - n)) a w) :
  ∀ (m fuel:Nat) (listed:Array Bool),listed.size = full.length->((List.range n).filter (fun i => !listed.getD i true)).length = m->m + (full.length - n)<=fuel->Clo full (fun j => listed.getD j false)->(∀ j,n<=j->listed.getD j false = false) ->
   ∀ (a:Act) (w:World),V (fun j => listed.getD j false) a w->wpAnyIn fen 0 P .any opsA Q fuel listed a w:=by
 have hsz:opsA.size = full.length:=by rw [← hfull];simp
 have hnth:∀ j,opsA[j]? = nth full j:=fun j => by rw [nth_eq,← hfull];simp
 have hedge:∀ j o e,nth full j = some o->e∈o.after->Region.binds .any e = true->e.on < j:=by
  intro j o e ho he hb
  have hjl:=nth_lt ho
  unfold tailOK at ht
  rw [List.all_eq_true] at ht
  have:=ht j (List.mem_range.2 hjl)
  simp only [ho,Bool.and_eq_true,List.all_eq_true] at this
  have h2:=this.1 e (Array.mem_toList_iff.2 he)
  simpa only [hb,Bool.not_true,Bool.false_or,decide_eq_true_eq] using h2
 intro m
 induction m with
 | zero =>
  intro fuel listed hl hm hf hc hlate a w h
  have hall:∀ j,j < n->listed.getD j true = true:=by
   intro j hj
   have h0:=List.length_eq_zero_iff.1 hm
   rw [List.filter_eq_nil_iff] at h0
   have:=h0 j (List.mem_range.2 hj)
   rw [Array.getD_eq_getD_getElem?,Array.getElem?_eq_getElem (by omega)] at this ⊢
   simpa using this
  have hD:∀ j,listed.getD j false = decide (j < n):=fun j => by
   by_cases hjo:j < n
   ·have:=hall j hjo
    rw [Array.getD_eq_getD_getElem?,Array.getElem?_eq_getElem (by omega)] at this ⊢
    rw [show listed[j] = true from this];simp [hjo]
   ·rw [hlate j (by omega)];simp [hjo]
  have e:(fun j => listed.getD j false) = (fun j => decide (j < n)):=funext hD
  rw [e] at h
  refine tail_seq ht hfull (full.length - n) n (by omega) (Nat.le_refl _) fuel listed hl (by omega) (fun j hj => hD j) a w (hQ a w h)
 | succ m ih =>
  intro fuel listed hl hm hf hc hlate a w h
  obtain ⟨fuel,rfl⟩:∃ f,fuel = f + 1:=⟨fuel - 1,by omega⟩
  have hready:∃ j,j∈Region.ready .any opsA listed:=by
   have hex:∃ j,j < n/\listed.getD j true = false:=by
    have hp:0 < ((List.range n).filter (fun i => !listed.getD i true)).length:=by omega
    obtain ⟨j,hj⟩:=List.exists_mem_of_length_pos hp
    rw [List.mem_filter,List.mem_range] at hj
    exact ⟨j,hj.1,by simpa using hj.2⟩
   have hleast:∀ k,(∃ j,j < k/\j < n/\listed.getD j true = false)->∃ j,j < n/\listed.getD j true = false/\∀ i,i < j->listed.getD i true = true:=by
    intro k
    induction k with
    | zero => rintro ⟨j,hj,_⟩;omega
    | succ k ihk =>
     rintro ⟨j,hj,hjo,hjl⟩
     by_cases hex':∃ j,j < k/\j < n/\listed.getD j true = false
     ·exact ihk hex'
     ·refine ⟨j,hjo,hjl,fun i hi => ?_⟩
      cases hq:listed.getD i true with
      | true => rfl
      | false => exact (hex' ⟨i,by omega,by omega,hq⟩).elim
   obtain ⟨j,hjo,hjl⟩:=hex
   obtain ⟨j,hjo,hjl,hbefore⟩:=hleast (j + 1) ⟨j,by omega,hjo,hjl⟩
   refine ⟨j,?_⟩
   obtain ⟨o,ho⟩:=nth_of_lt (l:=full) (i:=j) (by omega)
   unfold Region.ready
   rw [List.mem_filter,List.mem_range,hsz,hnth,ho]
   refine ⟨by omega,?_⟩
   rw [hjl]
   simp only [Bool.not_false,Bool.true_and,Option.map_some,Option.getD_some,Array.all_eq_true']
   intro e he
   cases hb:Region.binds .any e with
   | false => rfl
   | true =>
    have hlt:=hedge j o e ho he hb
    have:=hbefore e.on hlt
    rw [Array.getD_eq_getD_getElem?,Array.getElem?_eq_getElem (by omega)] at this ⊢
    simpa using this
  refine ⟨fun hr => (by obtain ⟨j,hj⟩:=hready;rw [hr] at hj;cases hj),fun i hi => ?_⟩
  obtain ⟨hil,h1,⟨o,ho,hrd⟩,hlt⟩:=tail_ready ht hfull hl hc hi
  have hio:i < n:=by
   rcases Nat.lt_or_ge i n with q | q
   ·exact q
   ·exfalso
    have hp:0 < ((List.range n).filter (fun i => !listed.getD i true)).length:=by omega
    obtain ⟨j,hj⟩:=List.exists_mem_of_length_pos hp
    rw [List.mem_filter,List.mem_range] at hj
    have hjl:=hlt q j (by omega)
    have h2:=hj.2
    rw [Array.getD_eq_getD_getElem?,Array.getElem?_eq_getElem (by omega)] at hjl h2
    simp only [Option.getD_some] at hjl h2
    rw [hjl] at h2
    cases h2
  have hset:=getD_set (listed:=listed) (i:=i) (by omega)
  refine wpOpIn_mono (fun a' w' h' => ih fuel (listed.setIfInBounds i true) (by simpa using hl) ?_ (by omega) ?_ (fun j hj => ?_) a' w' ?_) (hV _ i o hio h1 ho hrd a w h)
  ·have hlt:((List.range n).filter (fun j => !(listed.setIfInBounds i true).getD j true)).length + 1 = ((List.range n).filter (fun j => !listed.getD j true)).length:=by
    have e1:(List.range n).filter (fun j => !(listed.setIfInBounds i true).getD j true) = ((List.range n).filter (fun j => !listed.getD j true)).filter (fun j => decide (j ≠ i)):=by
     rw [List.filter_filter]
     refine List.filter_congr (fun j _ => ?_)
     rw [hset]
     by_cases e:j = i<;>simp [e]
    have hmem:i∈(List.range n).filter (fun j => !listed.getD j true):=by
     rw [List.mem_filter,List.mem_range]
     refine ⟨hio,?_⟩
     rw [Array.getD_eq_getD_getElem?,Array.getElem?_eq_getElem (by omega)] at h1 ⊢
     simpa using h1
    have hnd:((List.range n).filter (fun j => !listed.getD j true)).Nodup:=List.Pairwise.filter _ List.nodup_range
    rw [e1]
    have e2:((List.range n).filter (fun j => !listed.getD j true)).filter (fun j => decide (j ≠ i)) = ((List.range n).filter (fun j => !listed.getD j true)).erase i:=by
     rw [hnd.erase_eq_filter]
     refine List.filter_congr (fun j _ => ?_)
     by_cases e:j = i<;>simp [e]
    rw [e2,List.length_erase_of_mem hmem]
    have:=List.length_pos_of_mem hmem
    omega
   omega
  ·intro j oj e hoj hj he hb
   simp only [hset] at hj ⊢
   split
   ·rfl
   ·split at hj
    ·rename_i e';subst e'
     rw [ho] at hoj;cases hoj
     exact hrd e he hb
    ·exact hc j oj e hoj hj he hb
  ·rw [hset,if_neg (by omega)]
   exact hlate j hj
  ·have e:(fun j => (listed.setIfInBounds i true).getD j false) = (fun j => listed.getD j false || decide (j = i)):=by
    funext j
    rw [hset]
    by_cases e:j = i<;>simp [e]
   rw [e];exact h'
theorem region_inv {opsA:Array Oper} (n:Nat) {id:Nat} (hm:P.follows .mixedOrders = true) (hn:n<=opsA.toList.length) (ht:tailOK opsA.toList n = true)
  (V:(Nat->Bool)->Act->World->Prop)
  (hV:∀ D i o,i < n->D i = false->nth opsA.toList i = some o->(∀ e∈o.after,Region.binds .any e = true->D e.on = true)->∀ a w,V D a w->wpOpIn fen 0 P opsA Q i (V (fun j => D j || decide (j = i))) a w)
  (hQ:∀ a w,V (fun j => decide (j < n)) a w->wpOpsIn fen 0 P opsA Q (List.range' n (opsA.toList.length - n)) a w)
  {a:Act} {w:World} (h:V (fun _ => false) a { w with drawn:=w.drawn + 1 }):(Code.region id opsA true).wpIn fen 0 P Q a w:=by
 refine wpIn_region_any hm ?_
 have hrep:∀ (j:Nat),(Array.replicate opsA.size false).getD j false = false:=fun j => by
  simp only [Array.getD_eq_getD_getElem?,Array.getElem?_replicate]
  split<;>rfl
 refine ops_inv n (full:=opsA.toList) rfl hn ht V hV hQ _ _ _ (by simp) rfl ?_ ?_ (fun j _ => hrep j) _ _ ?_
 ·have:((List.range n).filter (fun i => !(Array.replicate opsA.size false).getD i true)).length<=n:=Nat.le_trans (List.length_filter_le _ _) (by rw [List.length_range];exact Nat.le_refl _)
  have e:opsA.toList.length = opsA.size:=by simp
  omega
 ·intro j o e _ hj
  have:=(hrep j).symm.trans hj
  cases this
 ·have e:(fun j => (Array.replicate opsA.size false).getD j false) = (fun _ => false):=funext hrep
  rw [e];exact h
end
end Go.RX
namespace Go.RX
open Go Go.RowKit
variable [Glob] [Dfr] [Rnd]
section
variable {P : Program} {Q : Exit → Act → World → Prop} {opsA : Array Oper} {i : Nat} {a : Act} {w w' : World} {K : Act → World → Prop}
theorem op_val {v:Value} {dst:Option Tmp} {op:Op} {ty:TypeId} {pos:String} {af:Array Edge} (ho:opsA[i]? = some { dst:=dst,op:=op,type:=ty,pos:=pos,after:=af,guard:=none }) (hnd:∀ c,op ≠ .defer c) (hr:(execOp a.eval { dst:=dst,op:=op,type:=ty,pos:=pos,after:=af,guard:=none }).run P w = .ok (.value v) w') (h:K (a.put dst v) w'):wpOpIn fen 0 P opsA Q i K a w:=by
 unfold wpOpIn
 rw [ho]
 simp only
 rw [if_pos (by simp [Region.wanted])]
 exact Oper.wp_in hnd (wp_val hr h)
theorem op_callFn {dst:Option Tmp} {ty:TypeId} {pos:String} {af:Array Edge} {xs:Array Operand} {ts:Array TypeId} {g:FuncId} {vs:Array Value} {fn:Func}
  (ho:opsA[i]? = some { dst:=dst,op:=.call ⟨.value (.func g),xs,ts⟩,type:=ty,pos:=pos,after:=af,guard:=none }) (hfn:P.funcs[g]? = some fn) (hn:(fn.name == "runtime.NumGoroutine") = false) (hb:fn.body.isNone = false) (hx:xs.map a.eval = vs)
  {R:Ending->World->Prop} (hc:Calls P g vs w R) (hnext:∀ e w',R e w'->∃ v,e = .returned v/\K (a.put dst v) w'):wpOpIn fen 0 P opsA Q i K a w:=by
 unfold wpOpIn
 rw [ho]
 simp only
 rw [if_pos (by simp [Region.wanted])]
 refine ⟨fun _ _ => trivial,?_⟩
 rw [Oper.semAt_plain fen a.eval _ (fun c e => by cases e),run_callFn (P:=P) rfl hfn hn hb hx,Oper.uponIn_enter]
 refine ⟨fun h => (by cases h),callsIn_fen.2 (hc.mono fun e w' hq => ?_)⟩
 obtain ⟨v,rfl,h⟩:=hnext e w' hq
 exact h
end
end Go.RX
