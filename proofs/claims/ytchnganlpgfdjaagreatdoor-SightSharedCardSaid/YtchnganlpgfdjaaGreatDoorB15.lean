/-
  The program's functions,contracts: what each one returns,whatever the world: part 16. No condition.
-/
import Derived.Test.YtchnganlpgfdjaaGreatDoorB00
import Derived.Test.YtchnganlpgfdjaaGreatDoorB01
import Derived.Test.YtchnganlpgfdjaaGreatDoorB02
import Derived.Test.YtchnganlpgfdjaaGreatDoorB03
import Derived.Test.YtchnganlpgfdjaaGreatDoorB04
import Derived.Test.YtchnganlpgfdjaaGreatDoorB05
import Derived.Test.YtchnganlpgfdjaaGreatDoorB06
import Derived.Test.YtchnganlpgfdjaaGreatDoorB07
import Derived.Test.YtchnganlpgfdjaaGreatDoorB08
import Derived.Test.YtchnganlpgfdjaaGreatDoorB09
import Derived.Test.YtchnganlpgfdjaaGreatDoorB10
import Derived.Test.YtchnganlpgfdjaaGreatDoorB11
import Derived.Test.YtchnganlpgfdjaaGreatDoorB12
import Derived.Test.YtchnganlpgfdjaaGreatDoorB13
import Derived.Test.YtchnganlpgfdjaaGreatDoorB14
set_option linter.all false
set_option linter.unusedVariables false
set_option linter.unusedSectionVars false
set_option linter.unusedSimpArgs false
set_option linter.unnecessarySimpa false
namespace Go.RX
open Go Go.RowKit
variable [Glob]
section
variable {P : Program} {Kp : DV → Prop} {pn : Nat → Bool} {Q : Exit → Act → World → Prop} {ops : List Oper} {S : Nat → Sy} {ev : Nat → Ev} {N : Nat} {I0 : Nat → Prop} {w0 : World}
def ED (ops : List Oper) (S : Nat → Sy) (ev : Nat → Ev) (D : Nat → Bool) (t : Nat) : SV:=lk (S (cur ops ev D (.t t) ops.length)).env t
def BD (ops : List Oper) (S : Nat → Sy) (ev : Nat → Ev) (D : Nat → Bool) (n : Nat) : Option BC:=nth (S (cur ops ev D (.b n) ops.length)).bx n
def KD (ops : List Oper) (S : Nat → Sy) (ev : Nat → Ev) (D : Nat → Bool) (n : Nat) : Option TC:=nth (S (cur ops ev D (.k n) ops.length)).tk n
def InvD (ops : List Oper) (S : Nat → Sy) (ev : Nat → Ev) (I0 : Nat → Prop) (N : Nat) (w0 : World) (D : Nat → Bool) (a : Act) (w : World) : Prop :=
  Inv (Yf ops ev) (ED ops S ev D) (BD ops S ev D) (KD ops S ev D) I0 N w0 a w
theorem Inv.toG {Y E B K} {a : Act} {w : World} {dst : Option Nat} {V : SV} {g : Nat × Bool} (hY : Y g.1 = some g.2) (h : Inv Y (updO E dst V) B K I0 N w0 a w) : Inv Y (updO E dst (.gd g.1 g.2 V)) B K I0 N w0 a w:=by
  obtain ⟨I,β,τ,h⟩:=h
  refine ⟨I,β,τ,{ h with env:=fun t => ?_ }⟩
  have:=h.env t
  cases dst with
  | none => exact this
  | some d =>
    simp only [updO,upd] at this ⊢
    by_cases e : t = d
    · rw [if_pos e] at this ⊢; exact .gdT hY this
    · rw [if_neg e] at this ⊢; exact this
theorem Inv.toU {Y E B K} {a : Act} {w : World} {dst : Option Nat} {V : SV} (h : Inv Y (updO E dst V) B K I0 N w0 a w) : Inv Y (updO E dst (ung V)) B K I0 N w0 a w:=by
  obtain ⟨I,β,τ,h⟩:=h
  refine ⟨I,β,τ,{ h with env:=fun t => ?_ }⟩
  have:=h.env t
  cases dst with
  | none => exact this
  | some d =>
    simp only [updO,upd] at this ⊢
    by_cases e : t = d
    · rw [if_pos e] at this ⊢; exact .m (ung_ok this)
    · rw [if_neg e] at this ⊢; exact this
theorem act_succ (σ : Sy) (f j : Nat) (w : Bool) : act ops σ (f + 1) (j,w) = match dstOf ops j with
    | some t => match lk σ.env t with
      | .d (.bool b) => some (b == w)
      | .gd j' w' (.d (.bool b)) => if gdOf ops j = some (j',w') then (match act ops σ f (j',w') with
        | some c => some (c && (b == w))
        | none => none) else none
      | _ => none
    | none => none:=rfl
theorem strip_back (hs : Static N ops) {t : Bool} : ∀ (f : Nat) (g : Option (Nat × Bool)) (s : SV),(∀ g',g = some g' → Yf ops ev g'.1 = some g'.2) → ung (strip ops f g s) = .d (.bool t) → s = .d (.bool t) ∨ ∃ j' w',s = .gd j' w' (.d (.bool t)) ∧ Yf ops ev j' = some w'
  | 0,g,s,_,hq => by
    have h0 : strip ops 0 g s = s:=by cases g <;> cases s <;> rfl
    rw [h0] at hq
    cases s <;> first | exact .inl hq | cases hq
  | f + 1,none,s,_,hq => by
    have h0 : strip ops (f + 1) none s = s:=by cases s <;> rfl
    rw [h0] at hq
    cases s <;> first | exact .inl hq | cases hq
  | f + 1,some (j0,w0),s,hg,hq => by
    cases s with
    | gd j1 w1 x =>
      rw [strip] at hq
      split at hq
      · rename_i e
        obtain ⟨rfl,rfl⟩:=e
        have : x = .d (.bool t):=by cases x <;> first | exact hq | cases hq
        subst this
        exact .inr ⟨_,_,rfl,hg _ rfl⟩
      · exact strip_back hs f _ _ (fun g' hg' => chain hs (hg _ rfl) g' hg') hq
    | _ => first | exact .inl hq | cases hq
theorem InvX.skip {I β τ Y E B K} {a : Act} {w : World} (h : InvX I β τ Y E B K I0 N w0 a w) {dst : Option Nat} (hd : ∀ d,dst = some d → d < N) {g : Nat × Bool} {V : SV} (hY : Y g.1 ≠ some g.2) :
    InvX I β τ Y (updO E dst (.gd g.1 g.2 V)) B K I0 N w0 (a.put dst undef) w:=by
  refine { h with sz:=by rw [size_put]; exact h.sz,df:=by rw [defers_put]; exact h.df,env:=fun t => ?_ }
  cases dst with
  | none => exact h.env t
  | some d =>
    rw [getD_put (by rw [h.sz]; exact hd d rfl)]
    simp only [updO,upd]
    by_cases e : t = d
    · rw [if_pos e,if_pos e]; exact .gdF hY
    · rw [if_neg e,if_neg e]; exact h.env t
theorem after (hS : Tr P Kp ops S ev pn) {i : Nat} {o : Oper} (ho : nth ops i = some o) {D D' : Nat → Bool} (hD : ∀ j,D' j = (D j || decide (j = i)))
    (hag : ∀ r,r ∈ opWs o (ev i).ef → (S (cur ops ev D r ops.length)).at_ r = (S i).at_ r)
    (hlate : ∀ r,r ∈ opWs o (ev i).ef → ∀ j,i < j → j < ops.length → wr ops ev j r = true → D j = false) :
    ED ops S ev D' = updO (ED ops S ev D) o.dst (vOf o (ev i).v) ∧ BD ops S ev D' = efB (BD ops S ev D) (ev i).ef ∧ KD ops S ev D' = efK (KD ops S ev D) (ev i).ef:=by
  have hi:=nth_lt ho
  have st:=hS i o ho
  obtain ⟨m1,m2,m3⟩:=mem_ws (o:=o) (es:=(ev i).ef)
  have hyes : ∀ r,r ∈ opWs o (ev i).ef → cur ops ev D' r ops.length = i + 1:=fun r hr => (cur_add hD hi).1 ((wr_some ho).2 hr) (hlate r hr)
  have hno : ∀ r,r ∉ opWs o (ev i).ef → cur ops ev D' r ops.length = cur ops ev D r ops.length:=fun r hr => (cur_add hD hi).2 ((wr_none ho).2 hr)
  refine ⟨funext fun t => ?_,funext fun n => ?_,funext fun n => ?_⟩
  · by_cases hd : o.dst = some t
    · have h1:=hyes (.t t) ((m1 t).2 hd)
      simp only [ED,h1,st.hs,put_env,if_pos hd]
      rw [hd]
      exact (upd_same _ _ _).symm
    · have h1:=hno (.t t) (fun hr => hd ((m1 t).1 hr))
      simp only [ED,h1]
      cases hdd : o.dst with
      | none => rfl
      | some d =>
        simp only [updO]
        rw [upd_other _ _ _ _ (fun e => hd (by rw [hdd,e]))]
        rfl
  · by_cases hd : ∃ c,Ef.b n c ∈ (ev i).ef
    · have hr:=(m2 n).2 hd
      have h1:=hyes (.b n) hr
      have h2:=hag _ hr
      simp only [Sy.at_,RV.b.injEq] at h2
      simp only [BD,h1,st.hs,put_bx]
      rw [(ef_at _ _ st.in).1 n]
      exact efB_congr n _ _ _ h2.symm
    · have hr : Res.b n ∉ opWs o (ev i).ef:=fun hr => hd ((m2 n).1 hr)
      rw [efB_none n _ _ (fun c hc => hd ⟨c,hc⟩)]
      simp only [BD,hno _ hr]
  · by_cases hd : ∃ c,Ef.k n c ∈ (ev i).ef
    · have hr:=(m3 n).2 hd
      have h1:=hyes (.k n) hr
      have h2:=hag _ hr
      simp only [Sy.at_,RV.k.injEq] at h2
      simp only [KD,h1,st.hs,put_tk]
      rw [(ef_at _ _ st.in).2 n]
      exact efK_congr n _ _ _ h2.symm
    · have hr : Res.k n ∉ opWs o (ev i).ef:=fun hr => hd ((m3 n).1 hr)
      rw [efK_other n _ _ (fun c hc => hd ⟨c,hc⟩)]
      simp only [KD,hno _ hr]
theorem operand_rs {o : Oper} {t : Nat} (h : Operand.tmp t ∈ o.op.operands) : Res.t t ∈ opRs o:=by
  unfold opRs
  rw [List.mem_filterMap]
  exact ⟨_,Array.mem_toList_iff.2 h,rfl⟩
theorem step_op (hQP : ∀ d ch a w,Kp d → Pan I0 w0 d ch a w → Q (.panic ch) a w) (hs : Static N ops) (hS : Tr P Kp ops S ev pn) {opsA : Array Oper} (hA : opsA.toList = ops) {i : Nat} {o : Oper} (ho : nth ops i = some o) {D D' : Nat → Bool} (hD : ∀ j,D' j = (D j || decide (j = i)))
    (hag : ∀ r,r ∈ (logOf ops o (ev i)).rs ∨ r ∈ opWs o (ev i).ef → (S (cur ops ev D r ops.length)).at_ r = (S i).at_ r)
    (hlate : ∀ r,r ∈ opWs o (ev i).ef → ∀ j,i < j → j < ops.length → wr ops ev j r = true → D j = false)
    {a : Act} {w : World} (h : InvD ops S ev I0 N w0 D a w) : wpOp P opsA Q i (fun a w => InvD ops S ev I0 N w0 D' a w ∧ pn i = false) a w:=by
  have hi:=nth_lt ho
  have st:=hS i o ho
  obtain ⟨m1,m2,m3⟩:=mem_ws (o:=o) (es:=(ev i).ef)
  obtain ⟨e1,e2,e3⟩:=after hS ho hD (fun r hr => hag r (.inr hr)) hlate
  have hnth : ∀ j,opsA[j]? = nth ops j:=fun j => by rw [nth_eq,← hA]; simp
  have hdst : ∀ d,o.dst = some d → d < N:=fun d hd => hs.dst i o d ho hd
  have hE : ∀ t,(Res.t t ∈ (logOf ops o (ev i)).rs) → ED ops S ev D t = lk (S i).env t:=fun t ht => by
    have:=hag (.t t) (.inl ht); simp only [Sy.at_,RV.t.injEq] at this; exact this
  have hB : ∀ k,(Res.b k ∈ (ev i).rs ∨ ∃ c,Ef.b k c ∈ (ev i).ef) → BD ops S ev D k = nth (S i).bx k:=fun k hk => by
    have:=hag (.b k) (hk.imp (fun h => by simp [logOf,h]) (fun h => (m2 k).2 h)); simp only [Sy.at_,RV.b.injEq] at this; exact this
  have hK : ∀ k,(Res.k k ∈ (ev i).rs ∨ ∃ c,Ef.k k c ∈ (ev i).ef) → KD ops S ev D k = nth (S i).tk k:=fun k hk => by
    have:=hag (.k k) (hk.imp (fun h => by simp [logOf,h]) (fun h => (m3 k).2 h)); simp only [Sy.at_,RV.k.injEq] at this; exact this
  cases hpn : pn i with
  | true =>
    have hp:=st.hb hpn
    have hg:=hp.hg
    unfold wpOp
    rw [hnth,ho]
    simp only
    rw [if_pos (by simp [Region.wanted,hg])]
    refine .inl ?_
    obtain ⟨I,β,τ,hx⟩:=h
    have rd_ok : ∀ x ∈ o.op.operands,Mt I β τ (Yf ops ev) w (a.eval x) (rdG ops (S i) none x):=by
      intro x hxo
      refine ung_ok ?_
      cases x with
      | tmp t =>
        refine strip_ok hs 4 _ _ _ (fun g' hg' => by cases hg') ?_
        have:=hx.env t
        rw [hE t (by simp [logOf,operand_rs hxo])] at this
        exact this
      | const v => exact .m (cv_ok v)
      | func f => exact .m (.d (.clo rfl (fun j u hu => by simp at hu)))
      | global g => exact .m .any
    obtain ⟨d,hd,hc⟩:=hp.ho
    rcases hc with ⟨x,hop,hxd,hif⟩ | ⟨c,g,A,es,hop,hca,hctr⟩
    · have hm:=rd_ok x (by simp [hop,Op.operands])
      rw [hxd] at hm
      refine panic_op hx hop hm ?_ (fun ch w' hp' => hQP d ch a w' hd hp')
      cases d <;> simp [isIf] at hif
      · exact .inl ⟨_,_,_,rfl⟩
      · exact .inr ⟨_,_,rfl⟩
    · exact panic_fun hx hop (fun x hxc => rd_ok x (by rw [hop]; exact hxc)) (fun k hk => hK k (.inl hk)) hca hctr (fun ch w' hp' => hQP d ch a w' hd hp')
  | false =>
  have nrm:=st.hn hpn
  obtain ⟨T,hT,hev⟩:=nrm.he
  
  have hguard : ∀ g,o.guard = some g → yielded opsA a.tmps g.1 = Yf ops ev g.1:=by
    intro g hg
    obtain ⟨gj,gw⟩:=g
    obtain ⟨c,hc,_,_⟩:=nrm.hg _ hg
    rw [act_succ] at hc
    have hj : gj < i:=hs.gd i gj gw (by simp [gdOf,ho,hg])
    obtain ⟨I,β,τ,hx⟩:=h
    split at hc
    · rename_i t ht
      have hmem : Res.t t ∈ (logOf ops o (ev i)).rs:=by simp [logOf,hg,gdRs,ht]
      have hm:=hx.env t
      rw [hE t hmem] at hm
      have hv:=env_at hs hS ht hj (Nat.le_of_lt hi)
      obtain ⟨oj,hoj,hdj⟩:=dstOf_some ht
      have hyl : yielded opsA a.tmps gj = match a.tmps[t]? with | some (.bool b) => some b | _ => none:=by
        unfold yielded
        rw [hnth,hoj]
        simp only [Option.bind_some,hdj]
        rfl
      show yielded opsA a.tmps gj = Yf ops ev gj
      rw [hyl,Yf_eq hs,← hv]
      split at hc
      · rename_i b hb
        rw [hb] at hm ⊢
        have:=rep_bool (mt_d (hm.un (fun _ _ _ e => by cases e)))
        rw [Array.getD_eq_getD_getElem?] at this
        cases hq : a.tmps[t]? with
        | none => rw [hq] at this; simp [undef] at this
        | some u => rw [hq] at this; simp at this; subst this; rfl
      · rename_i j' w' b hb
        rw [hb] at hm ⊢
        split at hc
        · rename_i hgd
          simp only [if_pos hgd]
          rw [Array.getD_eq_getD_getElem?] at hm
          generalize hq : a.tmps[t]? = q at hm ⊢
          generalize hz : q.getD undef = z at hm
          cases hm with
          | m h => cases h
          | gdT hy hm =>
            have:=rep_bool (mt_d (hm.un (fun _ _ _ e => by cases e)))
            subst this
            rw [if_pos hy]
            cases q with
            | none => simp [undef] at hz
            | some u => simp at hz; subst hz; rfl
          | gdF hy =>
            rw [if_neg hy]
            cases q with
            | none => rfl
            | some u => simp at hz; subst hz; rfl
        · cases hc
      · cases hc
    · cases hc
  
  have run : (∀ g,o.guard = some g → Yf ops ev g.1 = some g.2) → (ev i).p → o.wp P a w (fun a w => InvD ops S ev I0 N w0 D' a w ∧ True) Q:=by
    intro hgy hp
    obtain ⟨I,β,τ,hx⟩:=h
    have rdR_ok : ∀ x ∈ o.op.operands,MtG I β τ (Yf ops ev) w (a.eval x) (rdR ops (S i) o.guard x):=by
      intro x hxo
      cases x with
      | tmp t =>
        refine strip_ok hs 4 _ _ _ hgy ?_
        have:=hx.env t
        rw [hE t (by simp [logOf,operand_rs hxo])] at this
        exact this
      | const v => exact .m (cv_ok v)
      | func f => exact .m (.d (.clo rfl (fun j u hu => by simp at hu)))
      | global g => exact .m .any
    have hsound:=opE_sound (Q:=Q) hT hx hdst (ops:=ops) (rd:=rdG ops (S i) o.guard) (rdp:=rdR ops (S i) o.guard) (fun x hx => ung_ok (rdR_ok x hx)) rdR_ok ?_ hB hK hev hp
    · refine Oper.wp_mono (fun a' w' hinv => ⟨?_,trivial⟩) hsound
      show Inv _ _ _ _ _ _ _ _ _
      rw [e1,e2,e3]
      cases hg : o.guard with
      | none => simp only [vOf,hg]; exact hinv.toU
      | some g => simp only [vOf,hg]; exact hinv.toG (hgy g hg)
    · intro c x y hop j t hj hrd
      have hji:=hs.pick i o c x y j ho hop hj
      have hv:=env_at hs hS hj hji (Nat.le_of_lt hi)
      rw [Yf_eq hs]
      have hrd' : ung (strip ops 4 o.guard (vAt ops ev j)) = .d (.bool t):=by rw [← hv]; exact hrd
      rcases strip_back hs _ _ _ hgy hrd' with hq | ⟨j',w',hq,hy⟩
      · rw [hq]
      · rw [hq]
        have : gdOf ops j = some (j',w'):=by
          obtain ⟨oj,hoj,hdj⟩:=dstOf_some hj
          simp only [vAt,hoj,vOf] at hq
          cases hgj : oj.guard with
          | none =>
            rw [hgj] at hq
            cases hev : (ev j).v <;> rw [hev] at hq <;> cases hq
          | some g' =>
            rw [hgj] at hq
            simp only [SV.gd.injEq] at hq
            simp [gdOf,hoj,hgj,← hq.1,← hq.2.1]
        simp [this,hy]
  unfold wpOp
  rw [hnth,ho]
  simp only
  cases hg : o.guard with
  | none =>
    rw [if_pos (by simp [Region.wanted,hg])]
    exact .inl (run (fun g hg' => by rw [hg] at hg'; cases hg') (nrm.hp hg))
  | some g =>
    obtain ⟨c,hc,hf,hp⟩:=nrm.hg g hg
    have hj : g.1 < i:=hs.gd i g.1 g.2 (by simp [gdOf,ho,hg])
    have hcy:=act_ok hs hS (Nat.le_of_lt hi) 4 g.1 g.2 c hj hc
    have hw : Region.wanted o (yielded opsA a.tmps) = (Yf ops ev g.1 == some g.2):=by
      simp [Region.wanted,hg,hguard g hg]
    by_cases hy : Yf ops ev g.1 = some g.2
    · rw [if_pos (by rw [hw]; simp [hy])]
      exact .inl (run (fun g' hg' => by rw [hg] at hg'; cases hg'; exact hy) (hp (hcy.2 hy)))
    · rw [if_neg (by rw [hw]; simpa using hy)]
      obtain ⟨I,β,τ,hx⟩:=h
      have hF : FrzIn (KD ops S ev D) (ev i).ef:=by
        intro e he
        have h1 : e.isFrz = true:=by rw [List.all_eq_true] at hf; exact hf e he
        have h2:=opE_ef hev e he
        cases e with
        | b n c => simp [Ef.isFrz] at h1
        | k n c =>
          cases c with
          | frz k m g' =>
            obtain ⟨e',q⟩:=h2.2 k m g' rfl
            exact ⟨n,k,m,g',rfl,.inl ⟨e',by rw [hK n (.inr ⟨_,he⟩)]; exact q⟩⟩
          | _ => simp [Ef.isFrz] at h1
      obtain ⟨I',h',_,_⟩:=freezeAll _ hx hF
      have hBf:=efB_frz (ev i).ef (BD ops S ev D) (fun e he => by
        obtain ⟨i',k',n',g',q1,_⟩:=hF e he
        exact ⟨i',_,q1⟩)
      refine ⟨⟨I',β,τ,?_⟩,trivial⟩
      rw [e1,e2,e3,hBf]
      simp only [vOf,hg]
      exact h'.skip hdst hy
end
end Go.RX
