/-
  The program's functions,contracts: what each one returns,whatever the world: part 17. No condition.
-/
import Derived.Test.YtchnganlpgfdjaaGreatDoorB00
import Derived.Test.YtchnganlpgfdjaaGreatDoorB01
import Derived.Test.YtchnganlpgfdjaaGreatDoorB02
import Derived.Test.YtchnganlpgfdjaaGreatDoorB03
import Derived.Test.YtchnganlpgfdjaaGreatDoorB04
import Derived.Test.YtchnganlpgfdjaaGreatDoorB05
import Derived.Test.YtchnganlpgfdjaaGreatDoorB06
import Derived.Test.YtchnganlpgfdjaaGreatDoorB07
import Derived.Test.YtchnganlpgfdjaaGreatDoorB08
import Derived.Test.YtchnganlpgfdjaaGreatDoorB09
import Derived.Test.YtchnganlpgfdjaaGreatDoorB10
import Derived.Test.YtchnganlpgfdjaaGreatDoorB11
import Derived.Test.YtchnganlpgfdjaaGreatDoorB12
import Derived.Test.YtchnganlpgfdjaaGreatDoorB13
import Derived.Test.YtchnganlpgfdjaaGreatDoorB14
import Derived.Test.YtchnganlpgfdjaaGreatDoorB15
set_option linter.all false
set_option linter.unusedVariables false
set_option linter.unusedSectionVars false
set_option linter.unusedSimpArgs false
set_option linter.unnecessarySimpa false
namespace Go.RX
open Go Go.RowKit
variable [Glob]
section
variable {P : Program} {Kp : DV → Prop} {pn : Nat → Bool} {Q : Exit → Act → World → Prop} {ops : List Oper} {S : Nat → Sy} {ev : Nat → Ev} {N : Nat} {I0 : Nat → Prop} {w0 : World}
def Clo (ops : List Oper) (D : Nat → Bool) : Prop:=∀ j o e,nth ops j = some o → D j = true → e ∈ o.after → Region.binds .any e = true → D e.on = true
def ancF (acc : List Nat) (s : Nat) (e : Edge) : Nat:=if Region.binds .any e && decide (e.on < acc.length) then s ||| (1 <<< e.on) ||| acc.getD e.on 0 else s
theorem ancF_bit (acc : List Nat) (i : Nat) : ∀ (es : List Edge) (s : Nat),(es.foldl (ancF acc) s).testBit i = true →
    s.testBit i = true ∨ ∃ e ∈ es,Region.binds .any e = true ∧ e.on < acc.length ∧ (i = e.on ∨ (acc.getD e.on 0).testBit i = true)
  | [],s,h => .inl h
  | e :: r,s,h => by
    rcases ancF_bit acc i r _ h with h | ⟨e',h1,h2⟩
    · unfold ancF at h
      split at h
      · rename_i hc
        simp only [Bool.and_eq_true,decide_eq_true_eq] at hc
        simp only [Nat.testBit_or,Bool.or_eq_true] at h
        rcases h with (h | h) | h
        · exact .inl h
        · refine .inr ⟨e,by simp,hc.1,hc.2,.inl ?_⟩
          rw [Nat.one_shiftLeft,Nat.testBit_two_pow] at h
          simpa using (of_decide_eq_true h).symm
        · exact .inr ⟨e,by simp,hc.1,hc.2,.inr h⟩
      · exact .inl h
    · exact .inr ⟨e',by simp [h1],h2⟩
def AncOK (ops : List Oper) (acc : List Nat) : Prop:=∀ (D : Nat → Bool),Clo ops D → ∀ j,j < acc.length → (∀ o e,nth ops j = some o → e ∈ o.after → Region.binds .any e = true → D e.on = true) → ∀ i,(acc.getD j 0).testBit i = true → D i = true
theorem anc_go : ∀ (l pre : List Oper) (acc : List Nat),ops = pre ++ l → pre.length = acc.length → AncOK ops acc → AncOK ops (l.foldl (fun acc o => acc ++ [o.after.toList.foldl (ancF acc) 0]) acc)
  | [],pre,acc,_,_,h => h
  | o :: l,pre,acc,he,hl,h => by
    refine anc_go l (pre ++ [o]) _ (by simp [he]) (by simp [hl]) ?_
    intro D hD j hj hed i hb
    simp only [List.length_append,List.length_cons,List.length_nil] at hj
    by_cases hjl : j < acc.length
    · rw [List.getD_eq_getElem?_getD,List.getElem?_append_left hjl,← List.getD_eq_getElem?_getD] at hb
      exact h D hD j hjl hed i hb
    · have hjj : j = acc.length:=by omega
      subst hjj
      rw [List.getD_eq_getElem?_getD,List.getElem?_append_right (Nat.le_refl _)] at hb
      simp only [Nat.sub_self,List.getElem?_cons_zero,Option.getD_some] at hb
      have ho : nth ops acc.length = some o:=by rw [nth_eq,he,← hl]; simp
      rcases ancF_bit acc i _ 0 hb with h0 | ⟨e,he1,he2,he3,he4⟩
      · simp at h0
      · have hDe:=hed o e ho (Array.mem_toList_iff.1 he1) he2
        rcases he4 with rfl | he4
        · exact hDe
        · refine h D hD e.on he3 (fun o' e' ho' hm hb' => ?_) i he4
          exact hD e.on o' e' ho' hDe hm hb'
theorem ancs_ok : AncOK ops (ancs ops):=anc_go ops [] [] rfl rfl (fun D _ j hj => by simp at hj)
theorem ancs_len : ∀ (l : List Oper) (acc : List Nat),(l.foldl (fun acc o => acc ++ [o.after.toList.foldl (ancF acc) 0]) acc).length = acc.length + l.length
  | [],acc => by simp
  | o :: l,acc => by
    rw [List.foldl_cons,ancs_len l]; simp; omega
theorem ord_spec {lg : List Lg} (h : ordOK ops lg = true) {i j : Nat} {a b : Lg} (hij : i < j) (ha : nth lg i = some a) (hb : nth lg j = some b) (hm : a.meet b = true) : ((ancs ops).getD j 0).testBit i = true:=by
  unfold ordOK at h
  simp only [List.all_eq_true,List.mem_range] at h
  have:=h j (nth_lt hb) i hij
  rw [nth_eq] at ha hb
  simp only [List.getD_eq_getElem?_getD] at this ⊢
  rw [ha,hb] at this
  simpa [hm] using this
theorem meet_ww {a b : Lg} {r : Res} (ha : r ∈ a.ws) (hb : r ∈ b.ws ∨ r ∈ b.rs) : a.meet b = true:=by
  unfold Lg.meet
  rw [Bool.or_eq_true]
  left
  rw [List.any_eq_true]
  exact ⟨r,ha,by simpa using hb⟩
theorem meet_rw {a b : Lg} {r : Res} (ha : r ∈ a.rs) (hb : r ∈ b.ws) : a.meet b = true:=by
  unfold Lg.meet
  rw [Bool.or_eq_true]
  right
  rw [List.any_eq_true]
  exact ⟨r,hb,by simpa using ha⟩
theorem step_ready (hQP : ∀ d ch a w,Kp d → Pan I0 w0 d ch a w → Q (.panic ch) a w) (hs : Static N ops) (hS : Tr P Kp ops S ev pn) {lg : List Lg} (hlg : ∀ i o,nth ops i = some o → nth lg i = some (logOf ops o (ev i))) (hord : ordOK ops lg = true)
    {opsA : Array Oper} (hA : opsA.toList = ops) {i : Nat} {o : Oper} (ho : nth ops i = some o) {D D' : Nat → Bool} (hD : ∀ j,D' j = (D j || decide (j = i))) (hc : Clo ops D) (hi : D i = false)
    (hr : ∀ e ∈ o.after,Region.binds .any e = true → D e.on = true)
    {a : Act} {w : World} (h : InvD ops S ev I0 N w0 D a w) : wpOp P opsA Q i (fun a w => InvD ops S ev I0 N w0 D' a w ∧ pn i = false) a w:=by
  have hlen : (ancs ops).length = ops.length:=by have:=ancs_len ops []; rw [List.length_nil,Nat.zero_add] at this; exact this
  
  have before : ∀ j,j < i → ∀ r,wr ops ev j r = true → (r ∈ (logOf ops o (ev i)).rs ∨ r ∈ opWs o (ev i).ef) → D j = true:=by
    intro j hj r hw hrr
    obtain ⟨oj,hoj⟩:=nth_of_lt (l:=ops) (i:=j) (by have:=nth_lt ho; omega)
    refine ancs_ok D hc i (by rw [hlen]; exact nth_lt ho) (fun o' e ho' he hb => ?_) j (ord_spec hord hj (hlg j oj hoj) (hlg i o ho) (meet_ww (r:=r) ((wr_some hoj).1 hw) hrr.symm))
    rw [ho] at ho'; cases ho'
    exact hr e he hb
  have later : ∀ j,i < j → j < ops.length → ∀ r,wr ops ev j r = true → (r ∈ (logOf ops o (ev i)).rs ∨ r ∈ opWs o (ev i).ef) → D j = false:=by
    intro j hj hjl r hw hrr
    cases hDj : D j with
    | false => rfl
    | true =>
      obtain ⟨oj,hoj⟩:=nth_of_lt (l:=ops) (i:=j) hjl
      have hwj:=(wr_some hoj).1 hw
      have hm : (logOf ops o (ev i)).meet (logOf ops oj (ev j)) = true:=by
        rcases hrr with hrr | hrr
        · exact meet_rw hrr hwj
        · exact meet_ww (r:=r) hrr (.inl hwj)
      have:=ancs_ok D hc j (by rw [hlen]; exact hjl) (fun o' e ho' he hb => hc j o' e ho' hDj he hb) i (ord_spec hord hj (hlg i o ho) (hlg j oj hoj) hm)
      rw [hi] at this; cases this
  have hil:=nth_lt ho
  refine step_op hQP hs hS hA ho hD (fun r hr => ?_) (fun r hr j hj hjl hw => later j hj hjl r hw (.inr hr)) h
  refine cur_agree hS (Nat.le_of_lt hil) (fun j hj hw => before j hj r hw hr) (fun j hj hjl hw => ?_)
  by_cases e : j = i
  · subst e; exact hi
  · exact later j (by omega) hjl r hw hr
theorem step_text (hQP : ∀ d ch a w,Kp d → Pan I0 w0 d ch a w → Q (.panic ch) a w) (hs : Static N ops) (hS : Tr P Kp ops S ev pn) {opsA : Array Oper} (hA : opsA.toList = ops) {i : Nat} {o : Oper} (ho : nth ops i = some o)
    {a : Act} {w : World} (h : InvD ops S ev I0 N w0 (fun j => decide (j < i)) a w) : wpOp P opsA Q i (fun a w => InvD ops S ev I0 N w0 (fun j => decide (j < i + 1)) a w ∧ pn i = false) a w:=by
  have hil:=nth_lt ho
  refine step_op hQP hs hS hA ho (D:=fun j => decide (j < i)) (fun j => ?_) (fun r _ => ?_) (fun r _ j hj _ _ => by simp; omega) h
  · by_cases h1 : j < i
    · simp [h1]; omega
    · by_cases h2 : j = i
      · simp [h2]
      · simp [h1,h2]; omega
  · exact cur_agree hS (Nat.le_of_lt hil) (fun j hj _ => by simp [hj]) (fun j hj _ _ => by simp; omega)
theorem done_all (hS : Tr P Kp ops S ev pn) {D : Nat → Bool} (hD : ∀ j,j < ops.length → D j = true) {a : Act} {w : World} (h : InvD ops S ev I0 N w0 D a w) :
    Inv (Yf ops ev) (lk (S ops.length).env) (nth (S ops.length).bx) (nth (S ops.length).tk) I0 N w0 a w:=by
  have key : ∀ r,(S (cur ops ev D r ops.length)).at_ r = (S ops.length).at_ r:=fun r => cur_agree hS (Nat.le_refl _) (fun j hj _ => hD j hj) (fun j h1 h2 _ => by omega)
  have e1 : ED ops S ev D = lk (S ops.length).env:=funext fun t => by have:=key (.t t); simp only [Sy.at_,RV.t.injEq] at this; exact this
  have e2 : BD ops S ev D = nth (S ops.length).bx:=funext fun t => by have:=key (.b t); simp only [Sy.at_,RV.b.injEq] at this; exact this
  have e3 : KD ops S ev D = nth (S ops.length).tk:=funext fun t => by have:=key (.k t); simp only [Sy.at_,RV.k.injEq] at this; exact this
  unfold InvD at h
  rwa [e1,e2,e3] at h
theorem done_none (hS : Tr P Kp ops S ev pn) {D : Nat → Bool} (hD : ∀ j,D j = false) {a : Act} {w : World} (h : Inv (Yf ops ev) (lk (S 0).env) (nth (S 0).bx) (nth (S 0).tk) I0 N w0 a w) : InvD ops S ev I0 N w0 D a w:=by
  have key : ∀ r,cur ops ev D r ops.length = 0:=fun r => by
    obtain ⟨c1,c2,c3⟩:=cur_spec (ops:=ops) (ev:=ev) (D:=D) (r:=r) ops.length
    generalize hcc : cur ops ev D r ops.length = c at *
    cases c with
    | zero => rfl
    | succ j => have:=(c3 j rfl).1; rw [hD] at this; cases this
  have e1 : ED ops S ev D = lk (S 0).env:=funext fun t => by simp [ED,key]
  have e2 : BD ops S ev D = nth (S 0).bx:=funext fun t => by simp [BD,key]
  have e3 : KD ops S ev D = nth (S 0).tk:=funext fun t => by simp [KD,key]
  unfold InvD
  rwa [e1,e2,e3]
theorem ops_text (hQP : ∀ d ch a w,Kp d → Pan I0 w0 d ch a w → Q (.panic ch) a w) (hs : Static N ops) (hS : Tr P Kp ops S ev pn) {opsA : Array Oper} (hA : opsA.toList = ops)
    (hQ : (∀ j,j < ops.length → pn j = false) → ∀ a w,Inv (Yf ops ev) (lk (S ops.length).env) (nth (S ops.length).bx) (nth (S ops.length).tk) I0 N w0 a w → Q .normal a w) :
    ∀ (k i : Nat),i + k = ops.length → (∀ j,j < i → pn j = false) → ∀ (a : Act) (w : World),InvD ops S ev I0 N w0 (fun j => decide (j < i)) a w → wpOps P opsA Q ((List.range' i k)) a w:=by
  intro k
  induction k with
  | zero =>
    intro i hi hnp a w h
    have hi' : i = ops.length:=by omega
    subst hi'
    exact hQ hnp a w (done_all hS (fun j hj => by simp [hj]) h)
  | succ k ih =>
    intro i hi hnp a w h
    obtain ⟨o,ho⟩:=nth_of_lt (l:=ops) (i:=i) (by omega)
    rw [List.range'_succ,wpOps_cons]
    exact wpOp_mono (fun a' w' h' => ih (i + 1) (by omega) (fun j hj => by
      by_cases e : j = i
      · rw [e]; exact h'.2
      · exact hnp j (by omega)) a' w' h'.1) (step_text hQP hs hS hA ho h)
theorem ops_any (hQP : ∀ d ch a w,Kp d → Pan I0 w0 d ch a w → Q (.panic ch) a w) (hs : Static N ops) (hS : Tr P Kp ops S ev pn) {lg : List Lg} (hlg : ∀ i o,nth ops i = some o → nth lg i = some (logOf ops o (ev i))) (hord : ordOK ops lg = true)
    {opsA : Array Oper} (hA : opsA.toList = ops)
    (hQ : (∀ j,j < ops.length → pn j = false) → ∀ a w,Inv (Yf ops ev) (lk (S ops.length).env) (nth (S ops.length).bx) (nth (S ops.length).tk) I0 N w0 a w → Q .normal a w) :
    ∀ (fuel : Nat) (listed : Array Bool),listed.size = ops.length → ((List.range ops.length).filter (fun i => !listed.getD i true)).length ≤ fuel → Clo ops (fun j => listed.getD j false) → (∀ j,listed.getD j false = true → pn j = false) →
      ∀ (a : Act) (w : World),InvD ops S ev I0 N w0 (fun j => listed.getD j false) a w → wpAny P .any opsA Q fuel listed a w:=by
  have hsz : opsA.size = ops.length:=by rw [← hA]; simp
  have hnth : ∀ j,opsA[j]? = nth ops j:=fun j => by rw [nth_eq,← hA]; simp
  
  have hend : ∀ (listed : Array Bool),listed.size = ops.length → Region.ready .any opsA listed = [] → ∀ j,j < ops.length → listed.getD j false = true:=by
    intro listed hl hr j
    induction j using Nat.strongRecOn with
    | ind j ih =>
      intro hj
      cases hq : listed.getD j false with
      | true => rfl
      | false =>
        exfalso
        have hm : j ∈ Region.ready .any opsA listed:=by
          unfold Region.ready
          rw [List.mem_filter,List.mem_range,hsz]
          refine ⟨hj,?_⟩
          obtain ⟨o,ho⟩:=nth_of_lt (l:=ops) (i:=j) hj
          have h1 : listed.getD j true = false:=by
            rw [Array.getD_eq_getD_getElem?] at hq ⊢
            rw [Array.getElem?_eq_getElem (by omega)] at hq ⊢
            exact hq
          rw [h1,hnth,ho]
          simp only [Bool.not_false,Bool.true_and,Option.map_some,Option.getD_some,Array.all_eq_true']
          intro e he
          cases hb : Region.binds .any e with
          | false => rfl
          | true =>
            have:=hs.edge j o e ho he hb
            rw [ih e.on this (by omega)]
            simp
        rw [hr] at hm; cases hm
  intro fuel
  induction fuel with
  | zero =>
    intro listed hl hn hc hnp a w h
    have hr : Region.ready .any opsA listed = []:=by
      have : (List.range ops.length).filter (fun i => !listed.getD i true) = []:=List.length_eq_zero_iff.1 (by omega)
      unfold Region.ready
      rw [hsz,List.filter_eq_nil_iff]
      intro x hx
      rw [List.filter_eq_nil_iff] at this
      have:=this x hx
      simp_all
    exact ⟨hr,hQ (fun j hj => hnp j (hend listed hl hr j hj)) a w (done_all hS (hend listed hl hr) h)⟩
  | succ fuel ih =>
    intro listed hl hn hc hnp a w h
    refine ⟨fun hr => hQ (fun j hj => hnp j (hend listed hl hr j hj)) a w (done_all hS (hend listed hl hr) h),fun i hi => ?_⟩
    unfold Region.ready at hi
    rw [List.mem_filter,List.mem_range,hsz] at hi
    obtain ⟨hil,hi2⟩:=hi
    obtain ⟨o,ho⟩:=nth_of_lt (l:=ops) (i:=i) hil
    rw [hnth,ho] at hi2
    simp only [Bool.and_eq_true,Bool.not_eq_true',Option.map_some,Option.getD_some,Array.all_eq_true'] at hi2
    have h1 : listed.getD i false = false:=by
      have:=hi2.1
      rw [Array.getD_eq_getD_getElem?] at this ⊢
      rw [Array.getElem?_eq_getElem (by omega)] at this ⊢
      exact this
    have hset : ∀ j b,(listed.setIfInBounds i true).getD j b = if j = i then true else listed.getD j b:=by
      intro j b
      rw [Array.getD_eq_getD_getElem?,Array.getD_eq_getD_getElem?]
      by_cases e : j = i
      · subst e; rw [if_pos rfl,Array.getElem?_setIfInBounds_self_of_lt (by omega)]; rfl
      · rw [if_neg e,Array.getElem?_setIfInBounds_ne (fun e' => e e'.symm)]
    have hready : ∀ e ∈ o.after,Region.binds .any e = true → listed.getD e.on false = true:=by
      intro e he hb
      have:=hi2.2 e he
      simpa [hb] using this
    refine wpOp_mono (fun a' w' h' => ih (listed.setIfInBounds i true) (by simpa using hl) ?_ ?_ (fun j hj => ?_) a' w' h'.1) (step_ready hQP hs hS hlg hord hA ho (D:=fun j => listed.getD j false) (fun j => ?_) hc h1 hready h)
    · 
      have hlt : ((List.range ops.length).filter (fun j => !(listed.setIfInBounds i true).getD j true)).length < ((List.range ops.length).filter (fun j => !listed.getD j true)).length:=by
        have e1 : (List.range ops.length).filter (fun j => !(listed.setIfInBounds i true).getD j true) = ((List.range ops.length).filter (fun j => !listed.getD j true)).filter (fun j => decide (j ≠ i)):=by
          rw [List.filter_filter]
          refine List.filter_congr (fun j _ => ?_)
          rw [hset]
          by_cases e : j = i <;> simp [e]
        rw [e1]
        refine List.length_filter_lt_length_iff_exists.2 ⟨i,?_,by simp⟩
        rw [List.mem_filter,List.mem_range]
        exact ⟨hil,by simpa using hi2.1⟩
      omega
    · intro j o' e ho' hj he hb
      simp only [hset] at hj ⊢
      split
      · rfl
      · split at hj
        · rename_i e'; subst e'
          rw [ho] at ho'; cases ho'
          exact hready e he hb
        · exact hc j o' e ho' hj he hb
    · rw [hset] at hj
      by_cases e : j = i
      · rw [e]; exact h'.2
      · rw [if_neg e] at hj; exact hnp j hj
    · simp only [hset]
      by_cases e : j = i <;> simp [e]
theorem region_sound {opsA : Array Oper} {σ : Sy} {K : Sy → Prop} {id : Nat} {dr : Bool} (hm : P.follows .mixedOrders = true) (hst : regOK N opsA.toList = true)
    (hQP : ∀ d ch a w,Kp d → Pan I0 w0 d ch a w → Q (.panic ch) a w)
    (hr : rgn P opsA.toList (fun lg => dr = true → ordOK opsA.toList lg = true) Kp opsA.toList σ [] K)
    {a : Act} {w : World} (h : ∀ Y,Inv Y (lk σ.env) (nth σ.bx) (nth σ.tk) I0 N w0 a w)
    (hQ : ∀ σ',K σ' → ∀ Y a w,Inv Y (lk σ'.env) (nth σ'.bx) (nth σ'.tk) I0 N w0 a w → Q .normal a w) : (Code.region id opsA dr).wp P Q a w:=by
  have hs:=Static.of hst
  obtain ⟨S,ev,pn,lg,hS0,hS,hll,hlg,hKO,hK⟩:=rgn_trace _ _ _ _ _ _ hr
  have hS : Tr P Kp opsA.toList S ev pn:=hS
  simp only [List.nil_append] at hKO
  cases dr with
  | true =>
    refine wp_region_any hm ?_
    refine ops_any (N:=N) (I0:=I0) (w0:=w0) hQP hs hS hlg (hKO rfl) rfl (fun hnp a w hq => hQ _ (hK hnp) _ a w hq) _ _ (by simp) ?_ ?_ ?_ _ _ ?_
    · refine Nat.le_trans (List.length_filter_le _ _) (by simp)
    · intro j o e _ hj
      simp only [Array.getD_eq_getD_getElem?,Array.getElem?_replicate] at hj
      split at hj <;> cases hj
    · intro j hj
      simp only [Array.getD_eq_getD_getElem?,Array.getElem?_replicate] at hj
      split at hj <;> cases hj
    · refine done_none hS (fun j => ?_) ?_
      · simp only [Array.getD_eq_getD_getElem?,Array.getElem?_replicate]
        split <;> rfl
      · rw [hS0]
        obtain ⟨I,β,τ,hx⟩:=h (Yf opsA.toList ev)
        exact ⟨_,β,τ,hx.quiet (w':={ w with drawn:=w.drawn + 1 }) ⟨rfl,rfl,rfl,Nat.le_refl _,fun _ _ => rfl⟩ (dst:=none) (fun d hd => by cases hd) (v:=undef) (V:=.any) .any⟩
  | false =>
    refine wp_region ?_
    rw [List.range_eq_range']
    refine ops_text (N:=N) (I0:=I0) (w0:=w0) hQP hs hS rfl (fun hnp a w hq => hQ _ (hK hnp) _ a w hq) _ _ (by simp) (fun j hj => by omega) _ _ ?_
    refine done_none hS (fun j => by simp) ?_
    rw [hS0]
    exact h _
end
end Go.RX
