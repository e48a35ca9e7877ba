/-
  Contracts, part 17. No condition.
-/
import Derived.Test.YtmpnbmedikkggaaGreatB15
set_option linter.all false
namespace Go.RX
open Go Go.RowKit
variable [Glob] [Dfr] [Rnd]
section
variable {P : Program} {Kp : DV → Prop} {pn : Nat → Bool} {Q : Exit → Act → World → Prop} {ops : List Oper} {S : Nat → Sy} {ev : Nat → Ev} {N : Nat} {I0 : Nat → Prop} {w0 : World}
def Clo (ops:List Oper) (D:Nat->Bool):Prop:=∀ j o e,nth ops j = some o->D j = true->e∈o.after->Region.binds .any e = true->D e.on = true
def ancF (acc:List Nat) (s:Nat) (e:Edge):Nat:=if Region.binds .any e && decide (e.on < acc.length) then s ||| (1 <<< e.on) ||| acc.getD e.on 0 else s
theorem ancF_bit (acc:List Nat) (i:Nat):∀ (es:List Edge) (s:Nat),(es.foldl (ancF acc) s).testBit i = true ->
  s.testBit i = true∨∃ e∈es,Region.binds .any e = true/\e.on < acc.length/\(i = e.on∨(acc.getD e.on 0).testBit i = true)
 | [],s,h => .inl h
 | e :: r,s,h => by
  rcases ancF_bit acc i r _ h with h | ⟨e',h1,h2⟩
  ·unfold ancF at h
   split at h
   ·rename_i hc
    simp only [Bool.and_eq_true,decide_eq_true_eq] at hc
    simp only [Nat.testBit_or,Bool.or_eq_true] at h
    rcases h with (h | h) | h
    ·exact .inl h
    ·refine .inr ⟨e,by simp,hc.1,hc.2,.inl ?_⟩
     rw [Nat.one_shiftLeft,Nat.testBit_two_pow] at h
     simpa using (of_decide_eq_true h).symm
    ·exact .inr ⟨e,by simp,hc.1,hc.2,.inr h⟩
   ·exact .inl h
  ·exact .inr ⟨e',by simp [h1],h2⟩
def AncOK (ops:List Oper) (acc:List Nat):Prop:=∀ (D:Nat->Bool),Clo ops D->∀ j,j < acc.length->(∀ o e,nth ops j = some o->e∈o.after->Region.binds .any e = true->D e.on = true)->∀ i,(acc.getD j 0).testBit i = true->D i = true
theorem anc_go:∀ (l pre:List Oper) (acc:List Nat),ops = pre ++ l->pre.length = acc.length->AncOK ops acc->AncOK ops (l.foldl (fun acc o => acc ++ [o.after.toList.foldl (ancF acc) 0]) acc)
 | [],pre,acc,_,_,h => h
 | o :: l,pre,acc,he,hl,h => by
  refine anc_go l (pre ++ [o]) _ (by simp [he]) (by simp [hl]) ?_
  intro D hD j hj hed i hb
  simp only [List.length_append,List.length_cons,List.length_nil] at hj
  by_cases hjl:j < acc.length
  ·rw [List.getD_eq_getElem?_getD,List.getElem?_append_left hjl,← List.getD_eq_getElem?_getD] at hb
   exact h D hD j hjl hed i hb
  ·have hjj:j = acc.length:=by omega
   subst hjj
   rw [List.getD_eq_getElem?_getD,List.getElem?_append_right (Nat.le_refl _)] at hb
   simp only [Nat.sub_self,List.getElem?_cons_zero,Option.getD_some] at hb
   have ho:nth ops acc.length = some o:=by rw [nth_eq,he,← hl];simp
   rcases ancF_bit acc i _ 0 hb with h0 | ⟨e,he1,he2,he3,he4⟩
   ·simp at h0
   ·have hDe:=hed o e ho (Array.mem_toList_iff.1 he1) he2
    rcases he4 with rfl | he4
    ·exact hDe
    ·refine h D hD e.on he3 (fun o' e' ho' hm hb' => ?_) i he4
     exact hD e.on o' e' ho' hDe hm hb'
theorem ancs_ok:AncOK ops (ancs ops):=anc_go ops [] [] rfl rfl (fun D _ j hj => by simp at hj)
theorem ancs_len:∀ (l:List Oper) (acc:List Nat),(l.foldl (fun acc o => acc ++ [o.after.toList.foldl (ancF acc) 0]) acc).length = acc.length + l.length
 | [],acc => by simp
 | o :: l,acc => by
  rw [List.foldl_cons,ancs_len l];simp;omega
theorem ord_spec {lg:List Lg} (h:ordOK ops lg = true) {i j:Nat} {a b:Lg} (hij:i < j) (ha:nth lg i = some a) (hb:nth lg j = some b) (hm:a.meet b = true):((ancs ops).getD j 0).testBit i = true:=by
 unfold ordOK at h
 simp only [List.all_eq_true,List.mem_range] at h
 have:=h j (nth_lt hb) i hij
 rw [nth_eq] at ha hb
 simp only [List.getD_eq_getElem?_getD] at this ⊢
 rw [ha,hb] at this
 simpa [hm] using this
theorem meet_ww {a b:Lg} {r:Res} (ha:r∈a.ws) (hb:r∈b.ws∨r∈b.rs):a.meet b = true:=by
 unfold Lg.meet
 rw [Bool.or_eq_true]
 left
 rw [List.any_eq_true]
 exact ⟨r,ha,by simpa using hb⟩
theorem meet_rw {a b:Lg} {r:Res} (ha:r∈a.rs) (hb:r∈b.ws):a.meet b = true:=by
 unfold Lg.meet
 rw [Bool.or_eq_true]
 right
 rw [List.any_eq_true]
 exact ⟨r,hb,by simpa using ha⟩
theorem step_ready (hQP:∀ d ch a w,Kp d->Pan I0 w0 d ch a w->Q (.panic ch) a w) (hs:Static N ops) (hS:Tr P Kp ops S ev pn) {lg:List Lg} (hlg:∀ i o,nth ops i = some o->nth lg i = some (logOf ops o (ev i))) (hord:ordOK ops lg = true)
  {opsA:Array Oper} (hA:∀ j o,nth ops j = some o->opsA[j]? = some o) {i:Nat} {o:Oper} (ho:nth ops i = some o) {D D':Nat->Bool} (hD:∀ j,D' j = (D j || decide (j = i))) (hc:Clo ops D) (hi:D i = false)
  (hr:∀ e∈o.after,Region.binds .any e = true->D e.on = true)
  {a:Act} {w:World} (h:InvD ops S ev I0 N w0 D a w):wpOpIn fen 0 P opsA Q i (fun a w => InvD ops S ev I0 N w0 D' a w/\pn i = false) a w:=by
 have hlen:(ancs ops).length = ops.length:=by have:=ancs_len ops [];rw [List.length_nil,Nat.zero_add] at this;exact this
 have before:∀ j,j < i->∀ r,wr ops ev j r = true->(r∈(logOf ops o (ev i)).rs∨r∈opWs o (ev i).ef)->D j = true:=by
  intro j hj r hw hrr
  obtain ⟨oj,hoj⟩:=nth_of_lt (l:=ops) (i:=j) (by have:=nth_lt ho;omega)
  refine ancs_ok D hc i (by rw [hlen];exact nth_lt ho) (fun o' e ho' he hb => ?_) j (ord_spec hord hj (hlg j oj hoj) (hlg i o ho) (meet_ww (r:=r) ((wr_some hoj).1 hw) hrr.symm))
  rw [ho] at ho';cases ho'
  exact hr e he hb
 have later:∀ j,i < j->j < ops.length->∀ r,wr ops ev j r = true->(r∈(logOf ops o (ev i)).rs∨r∈opWs o (ev i).ef)->D j = false:=by
  intro j hj hjl r hw hrr
  cases hDj:D j with
  | false => rfl
  | true =>
   obtain ⟨oj,hoj⟩:=nth_of_lt (l:=ops) (i:=j) hjl
   have hwj:=(wr_some hoj).1 hw
   have hm:(logOf ops o (ev i)).meet (logOf ops oj (ev j)) = true:=by
    rcases hrr with hrr | hrr
    ·exact meet_rw hrr hwj
    ·exact meet_ww (r:=r) hrr (.inl hwj)
   have:=ancs_ok D hc j (by rw [hlen];exact hjl) (fun o' e ho' he hb => hc j o' e ho' hDj he hb) i (ord_spec hord hj (hlg i o ho) (hlg j oj hoj) hm)
   rw [hi] at this;cases this
 have hil:=nth_lt ho
 refine step_op hQP hs hS hA ho hD (fun r hr => ?_) (fun r hr j hj hjl hw => later j hj hjl r hw (.inr hr)) h
 refine cur_agree hS (Nat.le_of_lt hil) (fun j hj hw => before j hj r hw hr) (fun j hj hjl hw => ?_)
 by_cases e:j = i
 ·subst e;exact hi
 ·exact later j (by omega) hjl r hw hr
theorem step_text (hQP:∀ d ch a w,Kp d->Pan I0 w0 d ch a w->Q (.panic ch) a w) (hs:Static N ops) (hS:Tr P Kp ops S ev pn) {opsA:Array Oper} (hA:∀ j o,nth ops j = some o->opsA[j]? = some o) {i:Nat} {o:Oper} (ho:nth ops i = some o)
  {a:Act} {w:World} (h:InvD ops S ev I0 N w0 (fun j => decide (j < i)) a w):wpOpIn fen 0 P opsA Q i (fun a w => InvD ops S ev I0 N w0 (fun j => decide (j < i + 1)) a w/\pn i = false) a w:=by
 have hil:=nth_lt ho
 refine step_op hQP hs hS hA ho (D:=fun j => decide (j < i)) (fun j => ?_) (fun r _ => ?_) (fun r _ j hj _ _ => by simp;omega) h
 ·by_cases h1:j < i
  ·simp [h1];omega
  ·by_cases h2:j = i
   ·simp [h2]
   ·simp [h1,h2];omega
 ·exact cur_agree hS (Nat.le_of_lt hil) (fun j hj _ => by simp [hj]) (fun j hj _ _ => by simp;omega)
theorem done_all (hS:Tr P Kp ops S ev pn) {D:Nat->Bool} (hD:∀ j,j < ops.length->D j = true) {a:Act} {w:World} (h:InvD ops S ev I0 N w0 D a w) :
  Inv (Yf ops ev) (lk (S ops.length).env) (nth (S ops.length).bx) (nth (S ops.length).tk) I0 N w0 a w:=by
 have key:∀ r,(S (cur ops ev D r ops.length)).at_ r = (S ops.length).at_ r:=fun r => cur_agree hS (Nat.le_refl _) (fun j hj _ => hD j hj) (fun j h1 h2 _ => by omega)
 have e1:ED ops S ev D = lk (S ops.length).env:=funext fun t => by have:=key (.t t);simp only [Sy.at_,RV.t.injEq] at this;exact this
 have e2:BD ops S ev D = nth (S ops.length).bx:=funext fun t => by have:=key (.b t);simp only [Sy.at_,RV.b.injEq] at this;exact this
 have e3:KD ops S ev D = nth (S ops.length).tk:=funext fun t => by have:=key (.k t);simp only [Sy.at_,RV.k.injEq] at this;exact this
 unfold InvD at h
 rwa [e1,e2,e3] at h
theorem done_none (hS:Tr P Kp ops S ev pn) {D:Nat->Bool} (hD:∀ j,D j = false) {a:Act} {w:World} (h:Inv (Yf ops ev) (lk (S 0).env) (nth (S 0).bx) (nth (S 0).tk) I0 N w0 a w):InvD ops S ev I0 N w0 D a w:=by
 have key:∀ r,cur ops ev D r ops.length = 0:=fun r => by
  obtain ⟨c1,c2,c3⟩:=cur_spec (ops:=ops) (ev:=ev) (D:=D) (r:=r) ops.length
  generalize hcc:cur ops ev D r ops.length = c at *
  cases c with
  | zero => rfl
  | succ j => have:=(c3 j rfl).1;rw [hD] at this;cases this
 have e1:ED ops S ev D = lk (S 0).env:=funext fun t => by simp [ED,key]
 have e2:BD ops S ev D = nth (S 0).bx:=funext fun t => by simp [BD,key]
 have e3:KD ops S ev D = nth (S 0).tk:=funext fun t => by simp [KD,key]
 unfold InvD
 rwa [e1,e2,e3]
def tailOK (ops:List Oper) (n:Nat):Bool :=
 (List.range ops.length).all (fun j => (match nth ops j with | some o => o.after.toList.all (fun e => !Region.binds .any e || decide (e.on < j)) | none => true) && (decide (j < n) || (List.range j).all (fun i => ((ancs ops).getD j 0).testBit i)))
theorem ops_text (hQP:∀ d ch a w,Kp d->Pan I0 w0 d ch a w->Q (.panic ch) a w) (hs:Static N ops) (hS:Tr P Kp ops S ev pn) {opsA:Array Oper} (hA:∀ j o,nth ops j = some o->opsA[j]? = some o) {rest:List Nat}
  (hQ:(∀ j,j < ops.length->pn j = false)->∀ a w,Inv (Yf ops ev) (lk (S ops.length).env) (nth (S ops.length).bx) (nth (S ops.length).tk) I0 N w0 a w->wpOpsIn fen 0 P opsA Q rest a w) :
  ∀ (k i:Nat),i + k = ops.length->(∀ j,j < i->pn j = false)->∀ (a:Act) (w:World),InvD ops S ev I0 N w0 (fun j => decide (j < i)) a w->wpOpsIn fen 0 P opsA Q (List.range' i k ++ rest) a w:=by
 intro k
 induction k with
 | zero =>
  intro i hi hnp a w h
  have hi':i = ops.length:=by omega
  subst hi'
  exact hQ hnp a w (done_all hS (fun j hj => by simp [hj]) h)
 | succ k ih =>
  intro i hi hnp a w h
  obtain ⟨o,ho⟩:=nth_of_lt (l:=ops) (i:=i) (by omega)
  rw [List.range'_succ,List.cons_append,wpOpsIn_cons]
  exact wpOpIn_mono (fun a' w' h' => ih (i + 1) (by omega) (fun j hj => by
   by_cases e:j = i
   ·rw [e];exact h'.2
   ·exact hnp j (by omega)) a' w' h'.1) (step_text hQP hs hS hA ho h)
theorem tail_ready {full:List Oper} {n:Nat} (ht:tailOK full n = true) {opsA:Array Oper} (hA:opsA.toList = full) {listed:Array Bool} (hl:listed.size = full.length) (hc:Clo full (fun j => listed.getD j false)) {i:Nat} (hi:i∈Region.ready .any opsA listed) :
  i < full.length/\listed.getD i false = false/\(∃ o,nth full i = some o/\∀ e∈o.after,Region.binds .any e = true->listed.getD e.on false = true)/\(n<=i->∀ j,j < i->listed.getD j false = true):=by
 have hsz:opsA.size = full.length:=by rw [← hA];simp
 have hnth:∀ j,opsA[j]? = nth full j:=fun j => by rw [nth_eq,← hA];simp
 unfold Region.ready at hi
 rw [List.mem_filter,List.mem_range,hsz] at hi
 obtain ⟨hil,hi2⟩:=hi
 obtain ⟨o,ho⟩:=nth_of_lt (l:=full) (i:=i) hil
 rw [hnth,ho] at hi2
 simp only [Bool.and_eq_true,Bool.not_eq_true',Option.map_some,Option.getD_some,Array.all_eq_true'] at hi2
 have h1:listed.getD i false = false:=by
  have:=hi2.1
  rw [Array.getD_eq_getD_getElem?] at this ⊢
  rw [Array.getElem?_eq_getElem (by omega)] at this ⊢
  exact this
 have hready:∀ e∈o.after,Region.binds .any e = true->listed.getD e.on false = true:=by
  intro e he hb
  have:=hi2.2 e he
  simpa [hb] using this
 refine ⟨hil,h1,⟨o,ho,hready⟩,fun hn j hj => ?_⟩
 have hlen:(ancs full).length = full.length:=by have:=ancs_len full [];rw [List.length_nil,Nat.zero_add] at this;exact this
 unfold tailOK at ht
 rw [List.all_eq_true] at ht
 have:=ht i (List.mem_range.2 hil)
 simp only [Bool.and_eq_true,Bool.or_eq_true,decide_eq_true_eq,List.all_eq_true,List.mem_range] at this
 have hb:=this.2.resolve_left (by omega) j hj
 exact ancs_ok _ hc i (by rw [hlen];exact hil) (fun o' e ho' he hbd => by rw [ho] at ho';cases ho';exact hready e he hbd) j hb
theorem getD_set {listed:Array Bool} {i:Nat} (hi:i < listed.size):∀ j b,(listed.setIfInBounds i true).getD j b = if j = i then true else listed.getD j b:=by
 intro j b
 rw [Array.getD_eq_getD_getElem?,Array.getD_eq_getD_getElem?]
 by_cases e:j = i
 ·subst e;rw [if_pos rfl,Array.getElem?_setIfInBounds_self_of_lt hi];rfl
 ·rw [if_neg e,Array.getElem?_setIfInBounds_ne (fun e' => e e'.symm)]
theorem tail_seq {full:List Oper} {n:Nat} (ht:tailOK full n = true) {opsA:Array Oper} (hA:opsA.toList = full):∀ (k i:Nat),i + k = full.length->n<=i->∀ (fuel:Nat) (listed:Array Bool),listed.size = full.length->k<=fuel->(∀ j,j < full.length->listed.getD j false = decide (j < i))->∀ (a:Act) (w:World),wpOpsIn fen 0 P opsA Q (List.range' i k) a w->wpAnyIn fen 0 P .any opsA Q fuel listed a w:=by
 have hsz:opsA.size = full.length:=by rw [← hA];simp
 have hnth:∀ j,opsA[j]? = nth full j:=fun j => by rw [nth_eq,← hA];simp
 intro k
 induction k with
 | zero =>
  intro i hi hn fuel listed hl hf hD a w h
  have hr:Region.ready .any opsA listed = []:=by
   unfold Region.ready
   rw [hsz,List.filter_eq_nil_iff]
   intro x hx
   have hx:=List.mem_range.1 hx
   have h1:=hD x hx
   rw [Array.getD_eq_getD_getElem?,Array.getElem?_eq_getElem (by omega)] at h1
   rw [Array.getD_eq_getD_getElem?,Array.getElem?_eq_getElem (by omega)]
   simp only [Option.getD_some] at h1 ⊢
   rw [h1]
   have:x < i:=by omega
   simp [this]
  have h':Q .normal a w:=h
  cases fuel with
  | zero => exact ⟨hr,h'⟩
  | succ f => exact ⟨fun _ => h',fun j hj => by rw [hr] at hj;cases hj⟩
 | succ k ih =>
  intro i hi hn fuel listed hl hf hD a w h
  obtain ⟨fuel,rfl⟩:∃ f,fuel = f + 1:=⟨fuel - 1,by omega⟩
  obtain ⟨o,ho⟩:=nth_of_lt (l:=full) (i:=i) (by omega)
  have hc:Clo full (fun j => listed.getD j false):=by
   intro j o' e ho' hj he hb
   have hjl:=nth_lt ho'
   unfold tailOK at ht
   rw [List.all_eq_true] at ht
   have:=ht j (List.mem_range.2 hjl)
   simp only [ho',Bool.and_eq_true,List.all_eq_true] at this
   have h2:=this.1 e (Array.mem_toList_iff.2 he)
   simp only [hb,Bool.not_true,Bool.false_or,decide_eq_true_eq] at h2
   show listed.getD e.on false = true
   have hj':listed.getD j false = true:=hj
   rw [hD j hjl] at hj'
   rw [hD e.on (by omega)]
   simp only [decide_eq_true_eq] at hj' ⊢
   omega
  have hready:i∈Region.ready .any opsA listed:=by
   unfold Region.ready
   rw [List.mem_filter,List.mem_range,hsz,hnth,ho]
   refine ⟨by omega,?_⟩
   have h1:=hD i (by omega)
   rw [Array.getD_eq_getD_getElem?,Array.getElem?_eq_getElem (by omega)] at h1
   rw [Array.getD_eq_getD_getElem?,Array.getElem?_eq_getElem (by omega)]
   simp only [Option.getD_some] at h1 ⊢
   rw [h1]
   simp only [Nat.lt_irrefl,decide_false,Bool.not_false,Bool.true_and,Option.map_some,Option.getD_some,Array.all_eq_true']
   intro e he
   cases hb:Region.binds .any e with
   | false => rfl
   | true =>
    unfold tailOK at ht
    rw [List.all_eq_true] at ht
    have:=ht i (List.mem_range.2 (by omega))
    simp only [ho,Bool.and_eq_true,List.all_eq_true] at this
    have h2:=this.1 e (Array.mem_toList_iff.2 he)
    simp only [hb,Bool.not_true,Bool.false_or,decide_eq_true_eq] at h2
    rw [hD e.on (by omega)]
    simp [h2]
  rw [List.range'_succ,wpOpsIn_cons] at h
  refine ⟨fun hr => (by rw [hr] at hready;cases hready),fun j hj => ?_⟩
  obtain ⟨j1,j2,_,j4⟩:=tail_ready ht hA hl hc hj
  have hji:j = i:=by
   rw [hD j j1] at j2
   have j2:¬ j < i:=by simpa using j2
   rcases Nat.lt_or_ge i j with hlt | hge
   ·have:=j4 (by omega) i hlt
    rw [hD i (by omega)] at this
    simp at this
   ·omega
  subst hji
  refine wpOpIn_mono (fun a' w' h' => ih (j + 1) (by omega) (by omega) fuel _ (by simpa using hl) (by omega) (fun x hx => ?_) a' w' h') h
  rw [getD_set (by omega)]
  by_cases e:x = j
  ·simp [e]
  ·rw [if_neg e,hD x hx]
   have:(x < j) ↔ (x < j + 1):=by omega
   simp [this]
theorem ops_any (hQP:∀ d ch a w,Kp d->Pan I0 w0 d ch a w->Q (.panic ch) a w) (hs:Static N ops) (hS:Tr P Kp ops S ev pn) {lg:List Lg} (hlg:∀ i o,nth ops i = some o->nth lg i = some (logOf ops o (ev i))) (hord:ordOK ops lg = true)
  {opsA:Array Oper} {full:List Oper} (hfull:opsA.toList = full) (hpre:∀ j o,nth ops j = some o->nth full j = some o) (hlen:ops.length<=full.length) (ht:tailOK full ops.length = true)
  (hQ:(∀ j,j < ops.length->pn j = false)->∀ a w,Inv (Yf ops ev) (lk (S ops.length).env) (nth (S ops.length).bx) (nth (S ops.length).tk) I0 N w0 a w->wpOpsIn fen 0 P opsA Q (List.range' ops.length (full.length - ops.length)) a w) :
  ∀ (m fuel:Nat) (listed:Array Bool),listed.size = full.length->((List.range ops.length).filter (fun i => !listed.getD i true)).length = m->m + (full.length - ops.length)<=fuel->Clo full (fun j => listed.getD j false)->(∀ j,ops.length<=j->listed.getD j false = false)->(∀ j,listed.getD j false = true->pn j = false) ->
   ∀ (a:Act) (w:World),InvD ops S ev I0 N w0 (fun j => listed.getD j false) a w->wpAnyIn fen 0 P .any opsA Q fuel listed a w:=by
 have hsz:opsA.size = full.length:=by rw [← hfull];simp
 have hnth:∀ j,opsA[j]? = nth full j:=fun j => by rw [nth_eq,← hfull];simp
 have hA:∀ j o,nth ops j = some o->opsA[j]? = some o:=fun j o ho => by rw [hnth];exact hpre j o ho
 intro m
 induction m with
 | zero =>
  intro fuel listed hl hm hf hc hlate hnp a w h
  have hall:∀ j,j < ops.length->listed.getD j false = true:=by
   intro j hj
   have h0:=List.length_eq_zero_iff.1 hm
   rw [List.filter_eq_nil_iff] at h0
   have:=h0 j (List.mem_range.2 hj)
   rw [Array.getD_eq_getD_getElem?,Array.getElem?_eq_getElem (by omega)] at this ⊢
   simpa using this
  refine tail_seq ht hfull (full.length - ops.length) ops.length (by omega) (Nat.le_refl _) fuel listed hl (by omega) (fun j hj => ?_) a w (hQ (fun j hj => hnp j (hall j hj)) a w (done_all hS hall h))
  by_cases hjo:j < ops.length
  ·rw [hall j hjo];simp [hjo]
  ·rw [hlate j (by omega)];simp [hjo]
 | succ m ih =>
  intro fuel listed hl hm hf hc hlate hnp a w h
  obtain ⟨fuel,rfl⟩:∃ f,fuel = f + 1:=⟨fuel - 1,by omega⟩
  have hready:∃ j,j∈Region.ready .any opsA listed:=by
   have hex:∃ j,j < ops.length/\listed.getD j true = false:=by
    have hp:0 < ((List.range ops.length).filter (fun i => !listed.getD i true)).length:=by omega
    obtain ⟨j,hj⟩:=List.exists_mem_of_length_pos hp
    rw [List.mem_filter,List.mem_range] at hj
    exact ⟨j,hj.1,by simpa using hj.2⟩
   have hleast:∀ k,(∃ j,j < k/\j < ops.length/\listed.getD j true = false)->∃ j,j < ops.length/\listed.getD j true = false/\∀ i,i < j->listed.getD i true = true:=by
    intro k
    induction k with
    | zero => rintro ⟨j,hj,_⟩;omega
    | succ k ihk =>
     rintro ⟨j,hj,hjo,hjl⟩
     by_cases hex':∃ j,j < k/\j < ops.length/\listed.getD j true = false
     ·exact ihk hex'
     ·refine ⟨j,hjo,hjl,fun i hi => ?_⟩
      cases hq:listed.getD i true with
      | true => rfl
      | false => exact (hex' ⟨i,by omega,by omega,hq⟩).elim
   obtain ⟨j,hjo,hjl⟩:=hex
   obtain ⟨j,hjo,hjl,hbefore⟩:=hleast (j + 1) ⟨j,by omega,hjo,hjl⟩
   refine ⟨j,?_⟩
   obtain ⟨o,ho⟩:=nth_of_lt (l:=ops) (i:=j) hjo
   unfold Region.ready
   rw [List.mem_filter,List.mem_range,hsz,hnth,hpre j o ho]
   refine ⟨by omega,?_⟩
   rw [hjl]
   simp only [Bool.not_false,Bool.true_and,Option.map_some,Option.getD_some,Array.all_eq_true']
   intro e he
   cases hb:Region.binds .any e with
   | false => rfl
   | true =>
    have hlt:=hs.edge j o e ho he hb
    have:=hbefore e.on hlt
    rw [Array.getD_eq_getD_getElem?,Array.getElem?_eq_getElem (by omega)] at this ⊢
    simpa using this
  refine ⟨fun hr => (by obtain ⟨j,hj⟩:=hready;rw [hr] at hj;cases hj),fun i hi => ?_⟩
  obtain ⟨hil,h1,⟨o',ho',hrd⟩,hlt⟩:=tail_ready ht hfull hl hc hi
  have hio:i < ops.length:=by
   rcases Nat.lt_or_ge i ops.length with q | q
   ·exact q
   ·exfalso
    have hp:0 < ((List.range ops.length).filter (fun i => !listed.getD i true)).length:=by omega
    obtain ⟨j,hj⟩:=List.exists_mem_of_length_pos hp
    rw [List.mem_filter,List.mem_range] at hj
    have hjl:=hlt q j (by omega)
    have h2:=hj.2
    rw [Array.getD_eq_getD_getElem?,Array.getElem?_eq_getElem (by omega)] at hjl h2
    simp only [Option.getD_some] at hjl h2
    rw [hjl] at h2
    cases h2
  obtain ⟨o,ho⟩:=nth_of_lt (l:=ops) (i:=i) hio
  have e0:o' = o:=by
   have:=hpre i o ho
   rw [ho'] at this
   exact Option.some.inj this
  subst e0
  have hset:=getD_set (listed:=listed) (i:=i) (by omega)
  have hco:Clo ops (fun j => listed.getD j false):=fun j oj e hoj hj he hb => hc j oj e (hpre j oj hoj) hj he hb
  refine wpOpIn_mono (fun a' w' h' => ih fuel (listed.setIfInBounds i true) (by simpa using hl) ?_ (by omega) ?_ (fun j hj => ?_) (fun j hj => ?_) a' w' h'.1) (step_ready hQP hs hS hlg hord hA ho (D:=fun j => listed.getD j false) (fun j => ?_) hco h1 hrd h)
  ·
   have hlt:((List.range ops.length).filter (fun j => !(listed.setIfInBounds i true).getD j true)).length + 1 = ((List.range ops.length).filter (fun j => !listed.getD j true)).length:=by
    have e1:(List.range ops.length).filter (fun j => !(listed.setIfInBounds i true).getD j true) = ((List.range ops.length).filter (fun j => !listed.getD j true)).filter (fun j => decide (j ≠ i)):=by
     rw [List.filter_filter]
     refine List.filter_congr (fun j _ => ?_)
     rw [hset]
     by_cases e:j = i<;>simp [e]
    have hmem:i∈(List.range ops.length).filter (fun j => !listed.getD j true):=by
     rw [List.mem_filter,List.mem_range]
     refine ⟨hio,?_⟩
     rw [Array.getD_eq_getD_getElem?,Array.getElem?_eq_getElem (by omega)] at h1 ⊢
     simpa using h1
    have hnd:((List.range ops.length).filter (fun j => !listed.getD j true)).Nodup:=List.Pairwise.filter _ List.nodup_range
    rw [e1]
    have e2:((List.range ops.length).filter (fun j => !listed.getD j true)).filter (fun j => decide (j ≠ i)) = ((List.range ops.length).filter (fun j => !listed.getD j true)).erase i:=by
     rw [hnd.erase_eq_filter]
     refine List.filter_congr (fun j _ => ?_)
     by_cases e:j = i<;>simp [e]
    rw [e2,List.length_erase_of_mem hmem]
    have:=List.length_pos_of_mem hmem
    omega
   omega
  ·intro j oj e hoj hj he hb
   simp only [hset] at hj ⊢
   split
   ·rfl
   ·split at hj
    ·rename_i e';subst e'
     rw [ho'] at hoj;cases hoj
     exact hrd e he hb
    ·exact hc j oj e hoj hj he hb
  ·rw [hset,if_neg (by omega)]
   exact hlate j hj
  ·rw [hset] at hj
   by_cases e:j = i
   ·rw [e];exact h'.2
   ·rw [if_neg e] at hj;exact hnp j hj
  ·simp only [hset]
   by_cases e:j = i<;>simp [e]
theorem region_tail {opsA:Array Oper} (n:Nat) {σ:Sy} {K:Sy->Prop} {id:Nat} {dr:Bool} (hm:P.follows .mixedOrders = true) (hst:regOK N (opsA.toList.take n) = true) (hn:n<=opsA.toList.length) (ht:(!dr || tailOK opsA.toList n) = true)
  (hQP:∀ d ch a w,Kp d->Pan I0 w0 d ch a w->Q (.panic ch) a w)
  (hr:rgn P (opsA.toList.take n) (fun lg => dr = true->ordOK (opsA.toList.take n) lg = true) Kp (opsA.toList.take n) σ [] K)
  {a:Act} {w:World} (h:∀ Y,Inv Y (lk σ.env) (nth σ.bx) (nth σ.tk) I0 N w0 a w)
  (hQ:∀ σ',K σ'->∀ (Y:Nat->Option Bool) a w,(∀ j b,act (opsA.toList.take n) σ' 4 (j,b) = some true->Y j = some b)->Inv Y (lk σ'.env) (nth σ'.bx) (nth σ'.tk) I0 N w0 a w->wpOpsIn fen 0 P opsA Q (List.range' n (opsA.toList.length - n)) a w):(Code.region id opsA dr).wpIn fen 0 P Q a w:=by
 have hs:=Static.of hst
 obtain ⟨S,ev,pn,lg,hS0,hS,hll,hlg,hKO,hK⟩:=rgn_trace _ _ _ _ _ _ hr
 have hS:Tr P Kp (opsA.toList.take n) S ev pn:=hS
 simp only [List.nil_append] at hKO
 have hlen:(opsA.toList.take n).length = n:=by rw [List.length_take];omega
 have hpre:∀ j o,nth (opsA.toList.take n) j = some o->nth opsA.toList j = some o:=fun j o ho => by
  rw [nth_eq] at ho ⊢
  rw [List.getElem?_take] at ho
  split at ho
  ·exact ho
  ·cases ho
 have hact:∀ j b,act (opsA.toList.take n) (S (opsA.toList.take n).length) 4 (j,b) = some true->Yf (opsA.toList.take n) ev j = some b:=fun j b ha => by
  have hj:j < (opsA.toList.take n).length:=by
   have h2:=ha
   simp only [act] at h2
   split at h2
   ·rename_i t ht
    obtain ⟨o,ho,_⟩:=dstOf_some ht
    exact nth_lt ho
   ·cases h2
  exact (act_ok hs hS (Nat.le_refl _) 4 j b true hj ha).1 rfl
 cases dr with
 | true =>
  have ht':tailOK opsA.toList (opsA.toList.take n).length = true:=by rw [hlen];simpa using ht
  refine wpIn_region_any hm ?_
  refine ops_any (N:=N) (I0:=I0) (w0:=w0) (full:=opsA.toList) hQP hs hS hlg (hKO rfl) rfl hpre (by omega) ht' (fun hnp a w hq => (by have h2:=hQ _ (hK hnp) _ a w hact hq;rw [hlen];exact h2)) _ _ _ (by simp) rfl ?_ ?_ ?_ ?_ _ _ ?_
  ·have:((List.range (opsA.toList.take n).length).filter (fun i => !(Array.replicate opsA.size false).getD i true)).length<=n:=Nat.le_trans (List.length_filter_le _ _) (by rw [List.length_range,hlen];exact Nat.le_refl _)
   have e:opsA.toList.length = opsA.size:=by simp
   omega
  ·intro j o e _ hj
   simp only [Array.getD_eq_getD_getElem?,Array.getElem?_replicate] at hj
   split at hj<;>cases hj
  ·intro j _
   simp only [Array.getD_eq_getD_getElem?,Array.getElem?_replicate]
   split<;>rfl
  ·intro j hj
   simp only [Array.getD_eq_getD_getElem?,Array.getElem?_replicate] at hj
   split at hj<;>cases hj
  ·refine done_none hS (fun j => ?_) ?_
   ·simp only [Array.getD_eq_getD_getElem?,Array.getElem?_replicate]
    split<;>rfl
   ·rw [hS0]
    obtain ⟨I,β,τ,hx⟩:=h (Yf (opsA.toList.take n) ev)
    exact ⟨_,β,τ,hx.quiet (w':={ w with drawn:=w.drawn + 1 }) (hx.keep ⟨rfl,rfl,rfl,Nat.le_refl _,fun _ _ => rfl⟩) (dst:=none) (fun d hd => by cases hd) (v:=undef) (V:=.any) .any⟩
 | false =>
  refine wpIn_region ?_
  have e:List.range opsA.size = List.range' 0 n ++ List.range' n (opsA.toList.length - n):=by
   rw [List.range_eq_range']
   have:opsA.size = n + (opsA.toList.length - n):=by simp at hn ⊢;omega
   have h2:=List.range'_append_1 (s:=0) (m:=n) (n:=opsA.toList.length - n)
   rw [Nat.zero_add] at h2
   rw [this,h2]
  rw [e]
  refine ops_text (N:=N) (I0:=I0) (w0:=w0) hQP hs hS (fun j o ho => by have:=hpre j o ho;rw [nth_eq] at this;simpa using this) (fun hnp a w hq => hQ _ (hK (fun j hj => hnp j hj)) _ a w hact hq) n 0 (by omega) (fun j hj => by omega) _ _ ?_
  refine done_none hS (fun j => by simp) ?_
  rw [hS0]
  exact h _
theorem region_sound {opsA:Array Oper} {σ:Sy} {K:Sy->Prop} {id:Nat} {dr:Bool} (hm:P.follows .mixedOrders = true) (hst:regOK N opsA.toList = true)
  (hQP:∀ d ch a w,Kp d->Pan I0 w0 d ch a w->Q (.panic ch) a w)
  (hr:rgn P opsA.toList (fun lg => dr = true->ordOK opsA.toList lg = true) Kp opsA.toList σ [] K)
  {a:Act} {w:World} (h:∀ Y,Inv Y (lk σ.env) (nth σ.bx) (nth σ.tk) I0 N w0 a w)
  (hQ:∀ σ',K σ'->∀ Y a w,Inv Y (lk σ'.env) (nth σ'.bx) (nth σ'.tk) I0 N w0 a w->Q .normal a w):(Code.region id opsA dr).wpIn fen 0 P Q a w:=by
 have e:opsA.toList.take opsA.toList.length = opsA.toList:=List.take_length
 have hs:=Static.of hst
 refine region_tail opsA.toList.length hm (by rw [e];exact hst) (Nat.le_refl _) ?_ hQP (by rw [e];exact hr) h (fun σ' hk Y a w _ hq => ?_)
 ·cases dr with
  | false => rfl
  | true =>
   simp only [Bool.not_true,Bool.false_or]
   unfold tailOK
   rw [List.all_eq_true]
   intro j hj
   have hj:=List.mem_range.1 hj
   obtain ⟨o,ho⟩:=nth_of_lt hj
   simp only [ho,hj,decide_true,Bool.true_or,Bool.and_true,List.all_eq_true]
   intro x hx
   cases hb:Region.binds .any x with
   | false => rfl
   | true =>
    have:=hs.edge j o x ho (Array.mem_toList_iff.1 hx) hb
    simp [this]
 ·rw [Nat.sub_self]
  exact hQ σ' hk Y a w hq
end
end Go.RX
