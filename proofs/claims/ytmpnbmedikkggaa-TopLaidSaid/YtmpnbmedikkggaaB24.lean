/-
  Contracts, part 25. No condition.
-/
import Derived.Test.YtmpnbmedikkggaaB23
import Derived.OpenShut
import Derived.Deep.Slices
import Derived.Deep.Strs
import Derived.Lib.SmallJoins
import Derived.Test.YtmpnbmedikkggaaRows
import Derived.ProofKit
import Derived.LaidMore
import Derived.Lay
import Derived.LaidOnce
import Derived.Shelf.Vars
import Derived.Carry
import Derived.HandedShaped
import Derived.Stop.LaidErr
import Derived.ChangeCalls
import Derived.ChangeMaps5
set_option linter.all false
namespace Go.Proofs.Leaf
open Go Go.RX Go.Proofs Go.RowKit Go.ChangeShapes Go.WideShapes Go.Deep Go.ChangeAt
set_option maxRecDepth 100000
section
variable {H : Type} {enc : TypeId × Value → H} {W : World}
theorem cell_int:Try.prog.cellsOf 3 = 1:=by kernel_rfl
theorem cell_span:Try.prog.cellsOf 24 = 2:=by kernel_rfl
abbrev There (W:World):Nat->Prop:=fun b => b < W.heap.size
theorem cell_there {a:Addr} {v:Value} (h:W.cell? a = some v):a.spot = none/\a.block < W.heap.size:=by
 unfold World.cell? at h
 cases ho:W.heap[a.block]? with
 | none => rw [ho] at h;cases h
 | some o =>
  have hlt:=(Array.getElem?_eq_some_iff.1 ho).1
  rw [ho] at h
  cases o<;>simp only at h<;>try (cases h;done)
  cases hsp:a.spot with
  | none => exact ⟨rfl,hlt⟩
  | some x => rw [hsp] at h;simp at h
theorem open_rows {α:Type} [Inhabited α] {t e k:Nat} (ht:Try.prog.underlying t = some (.slice e)) (hc:Try.prog.cellsOf e = k) (hk:0 < k) (f:α->Nat->DV) (Q:α->Prop)
  (hel:∀ n cs x,DataW.trod enc Try.prog W 0 (fun _ => true) true n e cs = some x->∃ y:α,Q y/\cs.length = k/\∀ j u,cs[j]? = some u->Rep (There W) W u (f y j))
  {n:Nat} {cs:List Value} {x:DataW H×List MemPlace} (h:DataW.trod enc Try.prog W 0 (fun _ => true) true n t cs = some x) :
  ∃ (v:Value) (l:List α),cs = [v]/\l.length<=maxLen/\Rep (There W) W v (slD k f l)/\∀ y∈l,Q y:=by
 rcases open_slice ht h with ⟨rfl,_⟩ | ⟨a,len,cap,m,n',D,Pl,rfl,hb,hl,hm,hmm,rfl,hx⟩
 ·exact ⟨_,[],rfl,Nat.zero_le _,.sl0,fun y hy => by simp at hy⟩
 simp only [if_true] at hmm
 subst hmm
 have hx':∀ i,i < len->∃ y:α,Q y/\∀ j,j < k->∃ u,W.cell? ((a.add (i * k)).add j) = some u/\Rep (There W) W u (f y j):=by
  intro i hi
  obtain ⟨cs',h1,h2⟩:=hx i (by omega)
  rw [hc] at h1
  obtain ⟨y,hq,hlen,hr⟩:=hel _ _ _ h2
  obtain ⟨_,_,h3⟩:=World.cells?_some h1
  refine ⟨y,hq,fun j hj => ?_⟩
  have hj':j < cs'.length:=by omega
  exact ⟨cs'[j],by rw [h3 j hj,List.getElem?_eq_getElem hj'],hr j _ (List.getElem?_eq_getElem hj')⟩
 obtain ⟨L,hL⟩:=choose_lt hx'
 by_cases h0:len = 0
 ·subst h0
  exact ⟨_,[],rfl,Nat.zero_le _,.sl1 hm,fun y hy => by simp at hy⟩
 ·obtain ⟨u0,hu0,_⟩:=(hL 0 (by omega)).2 0 hk
  rw [Go.Deep.add_add,show 0 * k + 0 = 0 by omega,show a.add 0 = a from rfl] at hu0
  obtain ⟨hs,hlt⟩:=cell_there hu0
  obtain ⟨b,o,sp⟩:=a
  simp only at hs hlt
  subst hs
  refine ⟨_,(List.range len).map L,rfl,by simp;omega,?_,fun y hy => ?_⟩
  ·have hll:((List.range len).map L).length = len:=by simp
   show Rep _ _ _ (.sl k ((List.range len).map L).length _)
   rw [hll]
   refine .sl (fun i j => (W.cell? ⟨b,o + (i * k + j),none⟩).getD undef) hlt hl hm (fun i j hi hj => ?_) (fun i j hi hj => ?_)
   ·obtain ⟨u,hu,_⟩:=(hL i hi).2 j hj
    rw [Go.Deep.add_add,Addr.add_mid] at hu
    rw [hu];rfl
   ·obtain ⟨u,hu,hr⟩:=(hL i hi).2 j hj
    rw [Go.Deep.add_add,Addr.add_mid] at hu
    rw [hu]
    have:((List.range len).map L).getD i default = L i:=by simp [List.getD_eq_getElem?_getD,hi]
    rw [this];exact hr
  ·obtain ⟨i,hi,rfl⟩:=List.mem_map.1 hy
   exact (hL i (List.mem_range.1 hi)).1
theorem open_i (n:Nat) (cs:List Value) (x:DataW H×List MemPlace) (h:DataW.trod enc Try.prog W 0 (fun _ => true) true n 3 cs = some x):∃ y:Int,True/\cs.length = 1/\∀ j u,cs[j]? = some u->Rep (There W) W u (intD y j):=by
 obtain ⟨n0,e0,_⟩:=DataW.trod_int Try.underlying3 h
 subst e0
 refine ⟨n0,trivial,rfl,fun j u hu => ?_⟩
 match j,hu with
 | 0,hu => simp at hu;subst hu;exact .int
 | j + 1,hu => simp at hu
theorem open_span {n:Nat} {cs:List Value} {x:DataW H×List MemPlace} (h:DataW.trod enc Try.prog W 0 (fun _ => true) true n 24 cs = some x):∃ a b:Int,cs = [.int .i64 a,.int .i64 b]:=by
 obtain ⟨y0,y1,m,_,hl,h0,h1⟩:=trod_struct2 Try.underlying24 h
 rw [cell_span] at hl
 match cs,hl with
 | [c0,c1],_ =>
  obtain ⟨n0,e0,_⟩:=DataW.trod_int Try.underlying3 h0
  obtain ⟨n1,e1,_⟩:=DataW.trod_int Try.underlying3 h1
  simp [cell_int] at e0 e1
  subst e0;subst e1
  exact ⟨n0,n1,rfl⟩
def spnD (x:Int×Int):Nat->DV
 | 0 => iD x.1 | 1 => iD x.2 | _ => .nilI
theorem spnD_0 (x:Int×Int):spnD x 0 = iD x.1:=rfl
theorem spnD_1 (x:Int×Int):spnD x 1 = iD x.2:=rfl
attribute [go_sem] spnD_0 spnD_1
theorem open_sp (n:Nat) (cs:List Value) (x:DataW H×List MemPlace) (h:DataW.trod enc Try.prog W 0 (fun _ => true) true n 24 cs = some x):∃ y:Int×Int,True/\cs.length = 2/\∀ j u,cs[j]? = some u->Rep (There W) W u (spnD y j):=by
 obtain ⟨a,b,rfl⟩:=open_span h
 refine ⟨(a,b),trivial,rfl,fun j u hu => ?_⟩
 match j,hu with
 | 0,hu => simp at hu;subst hu;exact .int
 | 1,hu => simp at hu;subst hu;exact .int
 | j + 2,hu => simp at hu
theorem open_ints {v:Value} {d:DataW H} {ps:List MemPlace} {b0:Nat} (hok:Value.okWide Try.prog W .any b0 32 v) (h:DataW.Trod enc Try.prog W 0 (fun _ => true) true 32 v d ps):∃ l:List (Int),RepS (There W) W v (.d (slD 1 intD l))/\l.length<=maxLen:=by
 obtain ⟨a,len,cap,rfl⟩:=okWide_slice Try.underlying32 hok
 obtain ⟨n,h⟩:=h
 obtain ⟨v',l,e,hl,hr,_⟩:=open_rows Try.underlying32 cell_int (by decide) intD (fun _ => True) open_i h
 obtain rfl:Value.slice a len cap = v':=by simpa [Value.cells] using e
 exact ⟨l,fun Y => .d hr,hl⟩
theorem open_spns {v:Value} {d:DataW H} {ps:List MemPlace} {b0:Nat} (hok:Value.okWide Try.prog W .any b0 51 v) (h:DataW.Trod enc Try.prog W 0 (fun _ => true) true 51 v d ps):∃ l:List (Int×Int),RepS (There W) W v (.d (slD 2 spnD l))/\l.length<=maxLen:=by
 obtain ⟨a,len,cap,rfl⟩:=okWide_slice Try.underlying51 hok
 obtain ⟨n,h⟩:=h
 obtain ⟨v',l,e,hl,hr,_⟩:=open_rows Try.underlying51 cell_span (by decide) spnD (fun _ => True) open_sp h
 obtain rfl:Value.slice a len cap = v':=by simpa [Value.cells] using e
 exact ⟨l,fun Y => .d hr,hl⟩
end
end Go.Proofs.Leaf
namespace Go.Proofs.Ytmpnbmedikkggaa
open Go Go.RX Go.Proofs.Leaf Go.RowKit Go.ChangeShapes Go.WideShapes Go.ChangeAt
set_option maxRecDepth 100000
theorem own:ownKnob Try.prog.godebug = none:=by kernel_rfl
variable {H : Type} {enc : TypeId × Value → H}
theorem trodAll_below {W W':World} (hb:Below W.heap.size W W'):∀ {ts:List TypeId} {vs:List Value} {ds:List (DataW H)} {ps:List MemPlace},(∀ t∈ts,Try.prog.readableRec t = true/\t < Try.prog.types.size) ->
  DataW.TrodAll enc Try.prog W 0 (fun _ => true) true ts vs ds ps->(∀ x∈ps,x.block < W.heap.size)->DataW.TrodAll enc Try.prog W' 0 (fun b => decide (b < W.heap.size)) true ts vs ds ps
 | [],[],[],_,_,h,_ => h
 | _ :: _,_ :: _,_ :: _,_,hT,⟨p,q,h1,h2,e⟩,hs => ⟨p,q,Below.trod laidOut (hT _ (List.mem_cons.2 (Or.inl rfl))).1 (hT _ (List.mem_cons.2 (Or.inl rfl))).2 h1 hb (fun x hx => hs x (by rw [e];exact List.mem_append_left _ hx)),
   trodAll_below hb (fun t ht => hT t (List.mem_cons.2 (Or.inr ht))) h2 (fun x hx => hs x (by rw [e];exact List.mem_append_right _ hx)),e⟩
theorem law_ret {os:Os} {f:FuncId} {fn:Func} (s:ChangeSpec) (hv:s.vars = []) (started:os.Started) (noInit:Try.prog.inits.idxOf? f = none) (hfn:Try.prog.funcs[f]? = some fn) (hres:fn.resultTypes = #[4])
  (hts:∀ t∈fn.params.toList,Try.prog.readableRec t = true/\t < Try.prog.types.size)
  (hs:∀ ds:List (DataW H),ds.length = fn.params.toList.length->s.fn H (ds ++ []) = { results:=[.lit (.bool true)],args:=ds })
  (witness:∃ (w:World) (tape:Tape) (i:Input),w.os = os/\(w.forCall tape i).Shaped Try.prog/\i.vars = []/\Input.okWide Try.prog (w.forCall tape i) .any w.heap.size f i /\
   ((s.pre enc Try.prog fn [] false (w.forCall tape i).memory i.args/\True)/\sizedMet enc Try.prog fn (OpenSpec.ofChange s) false (w.forCall tape i).memory i.args)/\({}:Assume).holds Try.prog (lone (Frame.enter Try.prog f i.args .normal) [] (w.forCall tape i)))
  (contract:∀ (W:World) (base:Nat) (args:Array Value) (ds:List (DataW H)) (ps:List MemPlace),
   (∀ (j:Nat) t v,fn.params[j]? = some t->args[j]? = some v->Value.okWide Try.prog W .any base t v) ->
   DataW.TrodAll enc Try.prog W 0 (fun _ => true) true fn.params.toList args.toList ds ps ->
   Calls Try.prog f args W fun e W' => e = .returned (.bool true)/\Below W.heap.size W W') :
  ReturnsInHanded {} Try.checked os f .any (fun w args => s.pre enc Try.prog fn [] false w args/\sizedMet enc Try.prog fn (OpenSpec.ofChange s) false w args) (s.post enc Try.prog fn false true false false):=by
 obtain ⟨w0,t0,i0,k1,k2,k3,k4,⟨⟨k5,_⟩,k6⟩,k7⟩:=witness
 refine returnsInHanded_of_calls (C:=Try.checked) own started noInit ⟨w0,t0,i0,k1,k2,k3,k4,⟨k5,k6⟩,k7⟩ ?_
 intro w tape i _ hsh _ hok hpre hholds
 obtain ⟨_,_,_,fn',hfn',_,_,_,_,hval⟩:=hok
 have e:fn' = fn:=Option.some.inj (hfn'.symm.trans hfn)
 subst e
 obtain ⟨⟨ds,gs,before,hw,hc⟩,hz⟩:=hpre
 have hW':=DataW.Whole.of_heap (w':=w.forCall tape i) (by rfl) hw
 have hW:=hW'
 obtain ⟨p,q,hA,hV,rfl,_,_⟩:=hW
 rw [hv] at hV
 obtain ⟨rfl,rfl⟩:=trodVars_none hV
 refine (contract (w.forCall tape i) w.heap.size i.args ds p hval hA).mono fun e W' ⟨he,hb⟩ => ?_
 subst he
 refine ChangeSpec.post_blind ?_
 have hlen:=(Go.trodAll_length hA).2
 have hsf:=hs ds hlen
 refine ⟨ds,[],_,[],p,[],hW',?_,?_,?_,hb.frame _,fun h => by cases h⟩
 ·rw [hsf,hres]
  exact trodAll_mk1 (shut_bool Try.underlying4 _)
 ·rw [hsf]
  exact trodAll_below hb hts hA (fun x hx => by
   have:=hW'.lt x (by simpa using hx)
   exact this)
 ·rw [hsf,hv]
  rfl
end Go.Proofs.Ytmpnbmedikkggaa
namespace Go.Proofs.Ytmpnbmedikkggaa
open Go Go.RX Go.Proofs.Leaf Go.RowKit Go.ChangeShapes Go.WideShapes Go.ChangeAt
set_option maxRecDepth 100000
abbrev zL:Value:=.slice none 0 0
abbrev zI:Value:=.int .i64 0
inductive opens:TypeId->SV->Prop
 | int (i:Int) (h0:-9223372036854775808<=i) (h1:i<=9223372036854775807):opens 3 (iS i)
 | ints (l:List (Int)) (h:l.length<=maxLen):opens 32 (.d (slD 1 intD l))
 | spns (l:List (Int×Int)) (h:l.length<=maxLen):opens 51 (.d (slD 2 spnD l))
def argT (t:TypeId):Prop:=t = 3∨t = 32∨t = 51
def opensAll:List TypeId->List SV->Prop
 | [],[] => True
 | t :: ts,A :: As => opens t A/\opensAll ts As
 | _,_ => False
section
variable {H : Type} {enc : TypeId × Value → H} {W : World}
theorem open_one {t:TypeId} {v:Value} {d:DataW H} {ps:List MemPlace} {b0:Nat} (ht:argT t) (hok:Value.okWide Try.prog W .any b0 t v)
  (h:DataW.Trod enc Try.prog W 0 (fun _ => true) true t v d ps):∃ A,opens t A/\RepS (There W) W v A:=by
 rcases ht with rfl | rfl | rfl
 ·obtain ⟨m,rfl,_,_,hm⟩:=open_int Try.underlying3 hok h
  simp [Lit.wf,IntKind.min,IntKind.max,IntKind.signed,IntKind.bits] at hm
  exact ⟨iS m,.int m (by omega) (by omega),fun Y => .d .int⟩
 ·obtain ⟨l,hr,hl⟩:=open_ints hok h
  exact ⟨_,.ints l hl,hr⟩
 ·obtain ⟨l,hr,hl⟩:=open_spns hok h
  exact ⟨_,.spns l hl,hr⟩
theorem open_all {b0:Nat}:∀ {ts:List TypeId} {vs:List Value} {ds:List (DataW H)} {ps:List MemPlace},(∀ t∈ts,argT t) ->
  (∀ (j:Nat) t v,ts[j]? = some t->vs[j]? = some v->Value.okWide Try.prog W .any b0 t v)->DataW.TrodAll enc Try.prog W 0 (fun _ => true) true ts vs ds ps ->
  ∃ As,opensAll ts As/\vs.length = As.length/\∀ (j:Nat) u s,vs[j]? = some u->As[j]? = some s->RepS (There W) W u s
 | [],vs,ds,ps,_,_,h => by
  obtain ⟨rfl,rfl,rfl⟩:=trodAll_nil h
  exact ⟨[],trivial,rfl,fun j u s h1 _ => by simp at h1⟩
 | t :: ts,vs,ds,ps,hT,hv,h => by
  obtain ⟨v,vs',d,ds',p,q,rfl,rfl,rfl,h1,h2⟩:=trodAll_cons h
  obtain ⟨A,ha,hr⟩:=open_one (hT t (List.mem_cons.2 (.inl rfl))) (hv 0 t v rfl rfl) h1
  obtain ⟨As,hA,hl,hR⟩:=open_all (fun t ht => hT t (List.mem_cons.2 (.inr ht))) (fun j t v a b => hv (j + 1) t v (by simpa using a) (by simpa using b)) h2
  refine ⟨A :: As,⟨ha,hA⟩,by simp [hl],fun j u s a b => ?_⟩
  cases j with
  | zero =>
   simp at a b
   subst a;subst b
   exact hr
  | succ j => exact hR j u s (by simpa using a) (by simpa using b)
theorem read_of {t:TypeId} (ht:argT t):Try.prog.readableRec t = true/\t < Try.prog.types.size:=by
 rcases ht with rfl | rfl | rfl<;>exact ⟨by kernel_rfl,of_decide_eq_true (by kernel_rfl)⟩
end
theorem opens_int {A:SV} (h:opens 3 A):∃ i:Int,A = iS i:=by cases h;exact ⟨_,rfl⟩
theorem opens_ints {A:SV} (h:opens 32 A):∃ l:List (Int),A = .d (slD 1 intD l)/\l.length<=maxLen:=by cases h;exact ⟨_,rfl,‹_›⟩
theorem opens_spns {A:SV} (h:opens 51 A):∃ l:List (Int×Int),A = .d (slD 2 spnD l)/\l.length<=maxLen:=by cases h;exact ⟨_,rfl,‹_›⟩
theorem law_ctr {H:Type} {enc:TypeId×Value->H} {os:Os} {f:FuncId} {fn:Func} {ts:List TypeId} (s:ChangeSpec) (hv:s.vars = []) (started:os.Started) (noInit:Try.prog.inits.idxOf? f = none) (hfn:Try.prog.funcs[f]? = some fn) (hres:fn.resultTypes = #[4])
  (hp:fn.params.toList = ts) (hts:∀ t∈ts,argT t)
  (hs:∀ ds:List (DataW H),ds.length = ts.length->s.fn H (ds ++ []) = { results:=[.lit (.bool true)],args:=ds })
  (witness:∃ (w:World) (tape:Tape) (i:Input),w.os = os/\(w.forCall tape i).Shaped Try.prog/\i.vars = []/\Input.okWide Try.prog (w.forCall tape i) .any w.heap.size f i /\
   ((s.pre enc Try.prog fn [] false (w.forCall tape i).memory i.args/\True)/\sizedMet enc Try.prog fn (OpenSpec.ofChange s) false (w.forCall tape i).memory i.args)/\({}:Assume).holds Try.prog (lone (Frame.enter Try.prog f i.args .normal) [] (w.forCall tape i)))
  (contract:∀ As,opensAll ts As->Ctr Try.prog f As (bS true)) :
  ReturnsInHanded {} Try.checked os f .any (fun w args => s.pre enc Try.prog fn [] false w args/\sizedMet enc Try.prog fn (OpenSpec.ofChange s) false w args) (s.post enc Try.prog fn false true false false):=by
 subst hp
 refine law_ret s hv started noInit hfn hres (fun t ht => read_of (hts t ht)) hs witness ?_
 intro W base args ds ps hval hA
 obtain ⟨As,ho,hl,hR⟩:=open_all (b0:=base) hts (fun j t v a b => hval j t v (by simpa using a) (by simpa using b)) hA
 refine ((contract As ho).2 (There W) W args trivial (fun b h => h) (fun b _ e => by cases e) (by simpa using hl) (fun j u s a b => hR j u s (by simpa using a) b)).mono fun e W' ⟨v,he,hr,hb⟩ => ?_
 subst he
 have h0:=hr (fun _ => none)
 cases h0 with
 | d h0 =>
  cases h0
  exact ⟨rfl,hb.os,hb.tape,hb.output,hb.size,fun k hk => hb.block k hk (fun e => by cases e)⟩
end Go.Proofs.Ytmpnbmedikkggaa
namespace Go.Proofs.Ytmpnbmedikkggaa
open Go Go.RX Go.Proofs.Leaf Go.RowKit Go.ChangeShapes Go.WideShapes Go.ChangeAt
set_option maxRecDepth 100000
theorem init_is:Try.prog.initOrder = String.ofList ("harness".toList ++ Char.ofNat 32 :: ("6f3d135dddfec749f958302cc45a4d6470e22a262c3ceff0433c18a1ef61378e".toList ++ Char.ofNat 32 :: ("cut".toList ++ Char.ofNat 32 :: [.ofNat 97,.ofNat 116,.ofNat 32,.ofNat 109,.ofNat 97,.ofNat 104,.ofNat 108,.ofNat 115,.ofNat 116,.ofNat 105,.ofNat 99,.ofNat 107,.ofNat 47,.ofNat 109,.ofNat 97,.ofNat 104,.ofNat 108,.ofNat 115,.ofNat 116,.ofNat 105,.ofNat 99,.ofNat 107,.ofNat 116,.ofNat 111,
 .ofNat 112,.ofNat 46,.ofNat 84,.ofNat 111,.ofNat 112,.ofNat 76,.ofNat 97,.ofNat 105,.ofNat 100,.ofNat 32,.ofNat 109,.ofNat 97,.ofNat 104,.ofNat 108,.ofNat 115,.ofNat 116,.ofNat 105,.ofNat 99,.ofNat 107,.ofNat 47,.ofNat 109,.ofNat 97,.ofNat 104,.ofNat 108,
 .ofNat 115,.ofNat 116,.ofNat 105,.ofNat 99,.ofNat 107,.ofNat 116,.ofNat 111,.ofNat 112,.ofNat 46,.ofNat 84,.ofNat 111,.ofNat 112,.ofNat 87,.ofNat 97,.ofNat 103,.ofNat 101,.ofNat 115]))):=by kernel_rfl
theorem words_cons (c:Char) (r:List Char) (h:c ≠ Char.ofNat 32):wordsSigns (c :: r) = match wordsSigns r with | w :: ws => (c :: w) :: ws | [] => [[c]]:=by
 rw [wordsSigns.eq_3 _ _ (by intro e;exact h e)]
 cases wordsSigns r<;>rfl
theorem words_of:∀ (w r:List Char),(∀ c∈w,c ≠ Char.ofNat 32)->wordsSigns (w ++ Char.ofNat 32 :: r) = w :: wordsSigns r
 | [],r,_ => rfl
 | c :: w,r,h => by
  rw [List.cons_append,words_cons _ _ (h c (List.mem_cons.2 (.inl rfl))),words_of w r (fun c hc => h c (List.mem_cons.2 (.inr hc)))]
theorem words_is:∃ ws,wordsSigns Try.prog.initOrder.toList = "harness".toList :: "6f3d135dddfec749f958302cc45a4d6470e22a262c3ceff0433c18a1ef61378e".toList :: "cut".toList :: ws:=by
 rw [init_is,String.toList_ofList]
 exact ⟨_,by rw [words_of _ _ (by decide +kernel),words_of _ _ (by decide +kernel),words_of _ _ (by decide +kernel)]⟩
theorem behind_of (s:List Char) (ws:List (List Char)) (h:isSumSigns s = true):behindMainWord ("harness".toList :: s :: ws) = ws:=by
 unfold behindMainWord
 simp only [h,beq_self_eq_true,Bool.true_or,Bool.and_self,if_true]
theorem sum_is:isSumSigns "6f3d135dddfec749f958302cc45a4d6470e22a262c3ceff0433c18a1ef61378e".toList = true:=by decide +kernel
theorem behind_is:∃ ws,behindMainWord (wordsSigns Try.prog.initOrder.toList) = "cut".toList :: ws:=by
 obtain ⟨ws,h⟩:=words_is
 exact ⟨ws,(congrArg behindMainWord h).trans (behind_of _ _ sum_is)⟩
theorem strip_cut (ws:List (List Char)):stripLifts liftWords ("cut".toList :: ws) = ([],"cut".toList :: ws):=by
 have e:∀ (l:List String),l.all (fun o => !("cut".toList == o.toList)) = true->stripLifts l ("cut".toList :: ws) = ([],"cut".toList :: ws)
 :=fun l => by
   induction l with
   | nil => intro _;rfl
   | cons o os ih =>
    intro h
    rw [List.all_cons,Bool.and_eq_true] at h
    rw [stripLifts,if_neg (by simpa using h.1)]
    exact ih h.2
 exact e _ (by decide +kernel)
theorem lifts_of (P:Program) (ws:List (List Char)) (h:behindMainWord (wordsSigns P.initOrder.toList) = "cut".toList :: ws):P.headLifts = []:=by
 unfold Program.headLifts
 rw [h,strip_cut]
 simp
theorem later_is:Try.prog.laysLater = false:=by kernel_rfl
theorem reflect_is:Try.prog.bearsReflect = false:=by kernel_rfl
theorem door_is:Try.prog.doorFits [] = true:=by kernel_rfl
theorem ne_gc:("cut".toList == "gc".toList) = false:=by decide +kernel
theorem ne_spec:("cut".toList == "spec".toList) = false:=by decide +kernel
theorem ne_carried:("cut".toList == "carried".toList) = false:=by decide +kernel
theorem enter_of (P:Program) (ws:List (List Char)) (h:behindMainWord (wordsSigns P.initOrder.toList) = "cut".toList :: ws) (h1:P.laysLater = false) (h2:P.bearsReflect = false) (h3:P.doorFits [] = true):P.mayEnter = true:=by
 unfold Program.mayEnter
 rw [h]
 simp only [strip_cut,h1,h2,h3,ne_gc,ne_spec,ne_carried,List.head?_cons,beq_self_eq_true,Bool.not_false,Bool.or_true,Bool.and_self,List.contains_nil,Bool.or_self,Bool.false_and,Bool.false_or]
theorem final_of (P:Program) (ws:List (List Char)) (h:behindMainWord (wordsSigns P.initOrder.toList) = "cut".toList :: ws):P.liftsFinal = false:=by
 unfold Program.liftsFinal
 have e:((some "cut".toList:Option (List Char)) == some "carried".toList) = false:=by decide +kernel
 simp only [h,lifts_of P ws h,List.head?_cons,e,Bool.false_and,Bool.false_or,List.contains_nil]
theorem make_of (P:Program) (ws:List (List Char)) (h:behindMainWord (wordsSigns P.initOrder.toList) = "cut".toList :: ws):P.make = some .cut:=by
 unfold Program.make
 rw [h]
 simp only [ne_gc,ne_spec,beq_self_eq_true,Bool.or_self,Bool.true_or,Bool.false_eq_true,if_false,if_true]
theorem enter_is:Try.prog.mayEnter = true:=by
 obtain ⟨ws,h⟩:=behind_is
 exact enter_of _ ws h later_is reflect_is door_is
theorem final_is:Try.prog.liftsFinal = false:=by
 obtain ⟨ws,h⟩:=behind_is
 exact final_of _ ws h
theorem make_is:Try.prog.make = some .cut:=by
 obtain ⟨ws,h⟩:=behind_is
 exact make_of _ ws h
end Go.Proofs.Ytmpnbmedikkggaa
