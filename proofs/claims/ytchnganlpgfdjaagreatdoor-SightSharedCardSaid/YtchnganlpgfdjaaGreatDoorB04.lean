/-
  The program's functions,contracts: what each one returns,whatever the world: part 5. No condition.
-/
import Derived.Test.YtchnganlpgfdjaaGreatDoorB00
import Derived.Test.YtchnganlpgfdjaaGreatDoorB01
import Derived.Test.YtchnganlpgfdjaaGreatDoorB02
import Derived.Test.YtchnganlpgfdjaaGreatDoorB03
set_option linter.all false
set_option linter.unusedVariables false
set_option linter.unusedSectionVars false
set_option linter.unusedSimpArgs false
set_option linter.unnecessarySimpa false
namespace Go.RX
open Go Go.RowKit
variable [Glob]
section
variable {P : Program} {Q : Exit → Act → World → Prop}
variable {I : Nat → Prop} {β : Nat → Option Nat} {τ : Nat → Option Value} {Y : Nat → Option Bool} {E : Nat → SV} {B : Nat → Option BC} {K : Nat → Option TC} {I0 : Nat → Prop} {N : Nat} {w0 w : World} {a : Act} {o : Oper}
theorem deepC_ok (σ : Sy) : ∀ (xs : List SV) (ys : List DV) (es : List Ef) (rs : List Res),deepC σ xs = some (ys,es,rs) →
    ys.length = xs.length ∧ (∀ e ∈ es,∃ i k n g,e = Ef.k i (.frz k n g) ∧ Res.k i ∈ rs ∧ ∃ e',nth σ.tk i = some (.own e' k n g)) ∧
    (∀ r ∈ rs,∃ i,r = Res.k i) ∧
    ∀ (j : Nat) (x : SV) (y : DV),xs[j]? = some x → ys[j]? = some y → x = .d y ∨ ∃ i k n g,x = .tk i ∧ y = .sl k n g ∧ Res.k i ∈ rs ∧ ((∃ e',nth σ.tk i = some (.own e' k n g) ∧ Ef.k i (.frz k n g) ∈ es) ∨ nth σ.tk i = some (.frz k n g))
  | [],ys,es,rs,h => by
    simp [deepC] at h; obtain ⟨rfl,rfl,rfl⟩:=h
    exact ⟨rfl,fun e he => by simp at he,fun r hr => by simp at hr,fun j x y hx => by simp at hx⟩
  | x :: r,ys,es,rs,h => by
    unfold deepC at h
    split at h
    · simp at *
    · rename_i x' r' heq
      cases heq
      split at h
      · rename_i xs' es' rs' hr
        simp at h; obtain ⟨rfl,rfl,rfl⟩:=h
        obtain ⟨h1,h2,h3,h4⟩:=deepC_ok σ r xs' es' rs' hr
        refine ⟨by simp [h1],h2,h3,fun j x y hx hy => ?_⟩
        cases j with
        | zero => simp at hx hy; subst hx; subst hy; exact .inl rfl
        | succ j => exact h4 j x y (by simpa using hx) (by simpa using hy)
      · simp at h
    · rename_i i r' heq
      cases heq
      split at h
      · rename_i e k n g hi
        split at h
        · rename_i xs' es' rs' hr
          simp at h; obtain ⟨rfl,rfl,rfl⟩:=h
          obtain ⟨h1,h2,h3,h4⟩:=deepC_ok σ r xs' es' rs' hr
          refine ⟨by simp [h1],fun e' he' => ?_,fun r hr => ?_,fun j x y hx hy => ?_⟩
          · rcases List.mem_cons.1 he' with rfl | he'
            · exact ⟨i,k,n,g,rfl,by simp,e,hi⟩
            · obtain ⟨i',k',n',g',q1,q2,q3⟩:=h2 e' he'
              exact ⟨i',k',n',g',q1,by simp [q2],q3⟩
          · rcases List.mem_cons.1 hr with rfl | hr
            · exact ⟨i,rfl⟩
            · exact h3 r hr
          · cases j with
            | zero => simp at hx hy; subst hx; subst hy; exact .inr ⟨i,k,n,g,rfl,rfl,by simp,.inl ⟨e,hi,by simp⟩⟩
            | succ j =>
              rcases h4 j x y (by simpa using hx) (by simpa using hy) with q | ⟨i',k',n',g',q1,q2,q3,q4⟩
              · exact .inl q
              · refine .inr ⟨i',k',n',g',q1,q2,by simp [q3],?_⟩
                rcases q4 with ⟨e',q4,q5⟩ | q4
                · exact .inl ⟨e',q4,by simp [q5]⟩
                · exact .inr q4
        · simp at h
      · rename_i k n g hi
        split at h
        · rename_i xs' es' rs' hr
          simp at h; obtain ⟨rfl,rfl,rfl⟩:=h
          obtain ⟨h1,h2,h3,h4⟩:=deepC_ok σ r xs' es' rs' hr
          refine ⟨by simp [h1],fun e' he' => ?_,fun r hr => ?_,fun j x y hx hy => ?_⟩
          · obtain ⟨i',k',n',g',q1,q2,q3⟩:=h2 e' he'
            exact ⟨i',k',n',g',q1,by simp [q2],q3⟩
          · rcases List.mem_cons.1 hr with rfl | hr
            · exact ⟨i,rfl⟩
            · exact h3 r hr
          · cases j with
            | zero => simp at hx hy; subst hx; subst hy; exact .inr ⟨i,k,n,g,rfl,rfl,by simp,.inr hi⟩
            | succ j =>
              rcases h4 j x y (by simpa using hx) (by simpa using hy) with q | ⟨i',k',n',g',q1,q2,q3,q4⟩
              · exact .inl q
              · exact .inr ⟨i',k',n',g',q1,q2,by simp [q3],q4⟩
        · simp at h
      · simp at h
    · simp at h
def FrzIn (K : Nat → Option TC) (es : List Ef) : Prop:=∀ e ∈ es,∃ i k n g,e = Ef.k i (.frz k n g) ∧ ((∃ e',K i = some (.own e' k n g)) ∨ K i = some (.frz k n g))
theorem efB_frz : ∀ (es : List Ef) (B : Nat → Option BC),(∀ e ∈ es,∃ i c,e = Ef.k i c) → efB B es = B
  | [],_,_ => rfl
  | e :: r,B,h => by
    obtain ⟨i,c,rfl⟩:=h e (by simp)
    exact efB_frz r B (fun e he => h e (by simp [he]))
theorem freezeAll : ∀ (es : List Ef) {I : Nat → Prop} {K : Nat → Option TC},InvX I β τ Y E B K I0 N w0 a w → FrzIn K es → ∃ I',InvX I' β τ Y E B (efK K es) I0 N w0 a w ∧ (∀ b,I b → I' b) ∧
      ∀ i k n g,Ef.k i (.frz k n g) ∈ es → efK K es i = some (.frz k n g)
  | [],I,K,h,_ => ⟨I,h,fun _ hb => hb,fun i k n g he => by simp at he⟩
  | e :: r,I,K,h,hf => by
    obtain ⟨i,k,n,g,rfl,hK⟩:=hf e (by simp)
    have step : ∃ I1,InvX I1 β τ Y E B (upd K i (some (.frz k n g))) I0 N w0 a w ∧ ∀ b,I b → I1 b:=by
      rcases hK with ⟨e',hK⟩ | hK
      · obtain ⟨I1,h1,h2⟩:=h.freeze' hK
        exact ⟨I1,h1,h2⟩
      · refine ⟨I,?_,fun _ hb => hb⟩
        have e : upd K i (some (.frz k n g)) = K:=by
          funext x
          by_cases hx : x = i
          · subst hx; rw [upd_same,hK]
          · rw [upd_other _ _ _ _ hx]
        rw [e]; exact h
    obtain ⟨I1,h1,hI1⟩:=step
    have hf1 : FrzIn (upd K i (some (.frz k n g))) r:=by
      intro e' he'
      obtain ⟨i',k',n',g',q1,q2⟩:=hf e' (by simp [he'])
      refine ⟨i',k',n',g',q1,?_⟩
      by_cases hx : i' = i
      · subst hx
        right
        rw [upd_same]
        rcases hK with ⟨e1,hK⟩ | hK <;> rcases q2 with ⟨e2,q2⟩ | q2 <;> rw [hK] at q2 <;> simp at q2 <;> simp [q2]
      · rw [upd_other _ _ _ _ hx]; exact q2
    obtain ⟨I',h',hI',hA⟩:=freezeAll r h1 hf1
    refine ⟨I',h',fun b hb => hI' b (hI1 b hb),fun i' k' n' g' he' => ?_⟩
    by_cases hr : Ef.k i' (.frz k' n' g') ∈ r
    · exact hA i' k' n' g' hr
    · rcases List.mem_cons.1 he' with he | he
      · simp at he
        obtain ⟨rfl,rfl,rfl,rfl⟩:=he
        
        have keep : ∀ (l : List Ef) (K : Nat → Option TC),FrzIn K l → K i' = some (.frz k' n' g') → efK K l i' = some (.frz k' n' g'):=by
          intro l
          induction l with
          | nil => intro K _ h; exact h
          | cons e2 l ih =>
            intro K hF hKi
            obtain ⟨i2,k2,n2,g2,rfl,q⟩:=hF e2 (by simp)
            refine ih _ ?_ ?_
            · intro e3 he3
              obtain ⟨i3,k3,n3,g3,q1,q2⟩:=hF e3 (by simp [he3])
              refine ⟨i3,k3,n3,g3,q1,?_⟩
              by_cases hx : i3 = i2
              · subst hx
                right; rw [upd_same]
                rcases q with ⟨e1,q⟩ | q <;> rcases q2 with ⟨e2,q2⟩ | q2 <;> rw [q] at q2 <;> simp at q2 <;> simp [q2]
              · rw [upd_other _ _ _ _ hx]; exact q2
            · by_cases hx : i' = i2
              · subst hx
                rw [upd_same]
                rcases q with ⟨e1,q⟩ | q <;> rw [hKi] at q <;> simp at q <;> simp [q]
              · rw [upd_other _ _ _ _ hx]; exact hKi
        exact keep r _ hf1 (upd_same _ _ _)
      · exact absurd he hr
theorem deepC_use (h : InvX I β τ Y E B K I0 N w0 a w) {σ : Sy} {cs : Array Value} {xs : List SV} {ys : List DV} {es : List Ef} {rs : List Res} (hc : CM I β τ Y w cs xs) (hd : deepC σ xs = some (ys,es,rs)) (hK : ∀ k,Res.k k ∈ rs → K k = nth σ.tk k) :
    ∃ I',InvX I' β τ Y E B (efK K es) I0 N w0 a w ∧ (∀ b,I b → I' b) ∧ ys.length = cs.size ∧ ∀ (j : Nat) (u : Value) (y : DV),cs[j]? = some u → ys[j]? = some y → Rep I' w u y:=by
  obtain ⟨h1,h2,h3,h4⟩:=deepC_ok σ xs ys es rs hd
  have hF : FrzIn K es:=by
    intro e he
    obtain ⟨i,k,n,g,q1,q2,e',q3⟩:=h2 e he
    exact ⟨i,k,n,g,q1,.inl ⟨e',by rw [hK i q2]; exact q3⟩⟩
  obtain ⟨I',h',hI,hA⟩:=freezeAll es h hF
  refine ⟨I',h',hI,by rw [h1,hc.len],fun j u y hu hy => ?_⟩
  have hjx : j < xs.length:=by rw [← h1]; exact (List.getElem?_eq_some_iff.1 hy).1
  have hx:=List.getElem?_eq_getElem hjx
  have hm:=hc.at_ j u _ hu hx
  rcases h4 j _ y hx hy with q | ⟨i,k,n,g,q1,q2,q3,q4⟩
  · rw [q] at hm
    cases hm with
    | d hr => exact hr.mono hI (fun _ _ => rfl)
  · rw [q1] at hm
    cases hm with
    | tk hτ _ =>
      have hfin : efK K es i = some (.frz k n g):=by
        rcases q4 with ⟨e',_,q4⟩ | q4
        · exact hA i k n g q4
        · 
          have keep : ∀ (l : List Ef) (K : Nat → Option TC),FrzIn K l → K i = some (.frz k n g) → efK K l i = some (.frz k n g):=by
            intro l
            induction l with
            | nil => intro K _ h; exact h
            | cons e2 l ih =>
              intro K hF hKi
              obtain ⟨i2,k2,n2,g2,rfl,q⟩:=hF e2 (by simp)
              refine ih _ ?_ ?_
              · intro e3 he3
                obtain ⟨i3,k3,n3,g3,q1,q2⟩:=hF e3 (by simp [he3])
                refine ⟨i3,k3,n3,g3,q1,?_⟩
                by_cases hx : i3 = i2
                · subst hx
                  right; rw [upd_same]
                  rcases q with ⟨e1,q⟩ | q <;> rcases q2 with ⟨e2,q2⟩ | q2 <;> rw [q] at q2 <;> simp at q2 <;> simp [q2]
                · rw [upd_other _ _ _ _ hx]; exact q2
              · by_cases hx : i = i2
                · subst hx
                  rw [upd_same]
                  rcases q with ⟨e1,q⟩ | q <;> rw [hKi] at q <;> simp at q <;> simp [q]
                · rw [upd_other _ _ _ _ hx]; exact hKi
          exact keep es K hF (by rw [hK i q3]; exact q4)
      obtain ⟨v,t1,t2,_⟩:=h'.tok i _ hfin
      rw [hτ] at t1; cases t1
      rw [q2]
      exact t2
theorem efK_append : ∀ (es fs : List Ef) (K : Nat → Option TC),efK K (es ++ fs) = efK (efK K es) fs
  | [],_,_ => rfl
  | .b _ _ :: r,fs,K => efK_append r fs K
  | .k n c :: r,fs,K => efK_append r fs _
theorem efB_append : ∀ (es fs : List Ef) (B : Nat → Option BC),efB B (es ++ fs) = efB (efB B es) fs
  | [],_,_ => rfl
  | .b _ _ :: r,fs,B => efB_append r fs _
  | .k n c :: r,fs,B => efB_append r fs B
theorem efK_other (i : Nat) : ∀ (es : List Ef) (K : Nat → Option TC),(∀ c,Ef.k i c ∉ es) → efK K es i = K i
  | [],_,_ => rfl
  | .b _ _ :: r,K,h => efK_other i r K (fun c hc => h c (by simp [hc]))
  | .k n c :: r,K,h => by
    rw [efK,efK_other i r _ (fun c hc => h c (by simp [hc]))]
    by_cases e : i = n
    · subst e; exact absurd (by simp) (h c)
    · rw [upd_other _ _ _ _ e]
theorem run_store_op {t : TypeId} {x y : Operand} {b off n : Nat} {cur : Array Value} {T : Nat} (ho : o.op = .store t x y) (hx : a.eval x = .pointer (some ⟨b,off,none⟩)) (hn : szT P t = some n) (hs : (a.eval y).cells.size = n)
    (hb : w.heap[b]? = some (.cells cur T (0,0))) (hf : off + n ≤ cur.size) (h1 : ∀ u ∈ (a.eval y).cells,u.oneCell' = true) :
    (execOp a.eval o).run P w = .ok .skip (w.setRow b (cur.toList.take off ++ (a.eval y).cells.toList ++ cur.toList.drop (off + n)).toArray):=by
  obtain ⟨i,hi,hsz⟩:=szT_spec hn
  have hst:=run_storeCells_at P b off T (a.eval y).cells.toList 0 cur w hb (by simp; omega) (fun u hu => h1 u (by simpa using hu))
  simp only [Nat.add_zero,Array.length_toList,hs] at hst
  simp [execOp,ho,hx,Instr.storeAt,Instr.sureAddr,storeVar,sizeOf,typeInfo,hi,hsz,hs,hst]
theorem sound_storeBox (h : InvX I β τ Y E B K I0 N w0 a w) (hd : ∀ d,o.dst = some d → d < N) {t : TypeId} {x y : Operand} {b off n : Nat} {c : BC} {vs : List SV} (ho : o.op = .store t x y) (hx : Mt I β τ Y w (a.eval x) (.p b off)) (hy : CM I β τ Y w (a.eval y).cells vs) (hb : B b = some c)
    (hf : c.frz = false) (hit : c.it.isNone = true) (hn : szT P t = some n) (hl : vs.length = n) (hfit : off + n ≤ c.xs.length) : Sound P Q Y E B K I0 N w0 a w o .any [.b b { frz:=false,xs:=c.xs.take off ++ vs ++ c.xs.drop (off + n) }]:=by
  obtain ⟨blk,cs,T,b1,b2,b3,b4,b5,b6,b7,b8⟩:=(h.box b c hb).ex hit
  have he : a.eval x = .pointer (some ⟨blk,off,none⟩):=by
    generalize a.eval x = v at hx
    cases hx with
    | p h => rw [b1] at h; cases h; rfl
  have hsz : (a.eval y).cells.size = n:=by rw [hy.len,hl]
  have hr:=run_store_op (P:=P) (w:=w) ho he hn hsz b3 (by omega) hy.one
  refine wp_skp hr ⟨I,β,τ,h.setBox hb hf b1 b3 ?_ ?_ ?_ hd⟩
  · simp; omega
  · intro j u x hu hx
    simp only [List.getElem?_toArray] at hu
    by_cases j1 : j < off
    · rw [List.append_assoc,List.getElem?_append_left (by simp; omega)] at hu hx
      rw [List.getElem?_take,if_pos j1] at hu hx
      exact b5 j u x (by simpa using hu) hx
    · by_cases j2 : j < off + n
      · rw [List.append_assoc,List.getElem?_append_right (by simp; omega),List.getElem?_append_left (by simp; omega)] at hu hx
        simp only [List.length_take,Array.length_toList] at hu hx
        rw [show j - min off cs.size = j - off from by omega] at hu
        rw [show j - min off c.xs.length = j - off from by omega] at hx
        exact hy.at_ (j - off) u x (by simpa using hu) hx
      · rw [List.getElem?_append_right (by simp; omega)] at hu hx
        simp only [List.length_append,List.length_take,Array.length_toList,List.getElem?_drop] at hu hx
        rw [show off + n + (j - (min off cs.size + (a.eval y).cells.size)) = j from by omega] at hu
        rw [show off + n + (j - (min off c.xs.length + vs.length)) = j from by omega] at hx
        exact b5 j u x (by simpa using hu) hx
  · intro u hu
    simp only [List.mem_toArray,List.mem_append] at hu
    rcases hu with (hu | hu) | hu
    · exact b6 u (by simpa using List.mem_of_mem_take hu)
    · exact hy.one u (by simpa using hu)
    · exact b6 u (by simpa using List.mem_of_mem_drop hu)
theorem place {x i k o j n : Nat} (hok : o + n ≤ k) (hj : j < k) : (x * k + o ≤ i * k + j ∧ i * k + j < x * k + o + n) ↔ (i = x ∧ o ≤ j ∧ j < o + n):=by
  constructor
  · intro ⟨h1,h2⟩
    have hi : i = x:=by
      rcases Nat.lt_trichotomy i x with h | h | h
      · have : (i + 1) * k ≤ x * k:=Nat.mul_le_mul_right k h
        rw [Nat.add_mul] at this; omega
      · exact h
      · have : (x + 1) * k ≤ i * k:=Nat.mul_le_mul_right k h
        rw [Nat.add_mul] at this; omega
    subst hi
    exact ⟨rfl,by omega,by omega⟩
  · rintro ⟨rfl,h1,h2⟩
    exact ⟨by omega,by omega⟩
theorem sound_storeTok (h : InvX I β τ Y E B K I0 N w0 a w) (hd : ∀ d,o.dst = some d → d < N) {t : TypeId} {x y : Operand} {i z k off n e m : Nat} {g : Nat → Nat → DV} {ys : List DV} (ho : o.op = .store t x y) (hx : Mt I β τ Y w (a.eval x) (.pt i z k off))
    (hK : K i = some (.own e k m g)) (hz : z < m) (hn : szT P t = some n) (hl : ys.length = n) (hsz : (a.eval y).cells.size = n) (h1c : ∀ u ∈ (a.eval y).cells,u.oneCell' = true) (hy : ∀ (j : Nat) (u : Value) (y' : DV),(a.eval y).cells[j]? = some u → ys[j]? = some y' → Rep I w u y') (hfit : off + n ≤ k) :
    Sound P Q Y E B K I0 N w0 a w o .any [.k i (.own e k m (fun x' j => if x' = z ∧ off ≤ j ∧ j < off + n then dget ys (j - off) else g x' j))]:=by
  obtain ⟨hk,v,xs,t1,t2,t3,t4,t5⟩:=h.tok i _ hK
  have hxv : ∃ b cap,v = .slice (some ⟨b,0,none⟩) m cap ∧ a.eval x = .pointer (some ⟨b,z * k + off,none⟩):=by
    generalize a.eval x = v' at hx
    cases hx with
    | pt hp =>
      rw [hp] at t1; cases t1
      rcases t2.2 with ⟨hv,_⟩ | ⟨b',cap',cur,hv,_⟩
      · cases hv
      · cases hv; exact ⟨_,_,rfl,rfl⟩
  obtain ⟨b,cap,rfl,he⟩:=hxv
  obtain ⟨hxl,hcase⟩:=t2
  rcases hcase with ⟨hv,_⟩ | ⟨b',cap',cur,hv,c2,c3,c4,c5,c6,c7⟩
  · cases hv
  · cases hv
    have hpos : z * k + off + n ≤ m * k:=by
      have : (z + 1) * k ≤ m * k:=Nat.mul_le_mul_right k hz
      rw [Nat.add_mul] at this; omega
    have hcap : m * k ≤ cap * k:=Nat.mul_le_mul_right k c4
    have hr:=run_store_op (P:=P) (w:=w) ho he hn hsz c3 (by omega) h1c
    let new:=cur.toList.take (z * k + off) ++ (a.eval y).cells.toList ++ cur.toList.drop (z * k + off + n)
    have hnl : new.length = cur.size:=by simp [new]; omega
    have hat : ∀ p,p < m * k → new[p]? = if z * k + off ≤ p ∧ p < z * k + off + n then (a.eval y).cells.toList[p - (z * k + off)]? else xs[p]?:=by
      intro p hp
      have hxp : xs[p]? = cur.toList[p]?:=by rw [← c7,List.getElem?_take,if_pos hp]
      by_cases p1 : p < z * k + off
      · rw [if_neg (by omega),hxp]
        simp only [new]
        rw [List.append_assoc,List.getElem?_append_left (by simp; omega),List.getElem?_take,if_pos p1]
      · by_cases p2 : p < z * k + off + n
        · rw [if_pos ⟨by omega,p2⟩]
          simp only [new]
          rw [List.append_assoc,List.getElem?_append_right (by simp; omega),List.getElem?_append_left (by simp; omega)]
          congr 1
          simp; omega
        · rw [if_neg (by omega),hxp]
          simp only [new]
          rw [List.getElem?_append_right (by simp; omega),List.getElem?_drop]
          congr 1
          simp; omega
    have hg : w.grownBy (w.setRow b new.toArray) (some b):=⟨rfl,rfl,rfl,by simp,fun j _ hj => setRow_other w b j new.toArray (fun e => hj (by rw [e]))⟩
    have hnI : ¬ I b:=(t5 b rfl).1
    have hR : ∀ {u x},Rep I w u x → Rep I (w.setRow b new.toArray) u x:=fun hx => hx.mono (fun _ h => h) (fun b' hb' => setRow_other w b b' new.toArray (fun e => hnI (e ▸ hb')))
    refine wp_skp hr ⟨I,β,upd τ i (some (.slice (some ⟨b,0,none⟩) m cap)),?_⟩
    refine h.row (t:=some i) (m:=some i) (row:=some b) (m0:=i) (v':=.slice (some ⟨b,0,none⟩) m cap) hg (fun b' hb' => ⟨i,e,k,m,g,_,rfl,hK,t1,hb'⟩) rfl (.inr rfl) hk (xs:=new.take (m * k)) ?_ ?_ ?_ (fun b' hb' => .inl hb') (fun _ => t1) hd .any (upd_same _ _ _) (fun t0 ht hne => absurd (by cases ht; rfl) hne) (fun x hx _ => upd_other _ _ _ _ hx)
    · refine ⟨by simp [hnl]; omega,.inr ⟨b,cap,new.toArray,rfl,c2,setRow_heap w b cur _ e (0,0) c3,c4,c5,by simp [hnl,c6],by simp⟩⟩
    · intro u hu
      obtain ⟨p,hp⟩:=List.getElem?_of_mem hu
      rw [List.getElem?_take] at hp
      split at hp
      · rename_i hpl
        rw [hat p hpl] at hp
        split at hp
        · exact h1c u (by have:=List.mem_of_getElem? hp; simpa using this)
        · exact t3 u (List.mem_of_getElem? hp)
      · cases hp
    · intro i' j hi hj
      have hp:=mul_lt hi hj
      rw [List.getElem?_take,if_pos hp,hat _ hp]
      by_cases hc : i' = z ∧ off ≤ j ∧ j < off + n
      · rw [if_pos ((place hfit hj).2 hc),if_pos hc]
        obtain ⟨rfl,q1,q2⟩:=hc
        have hjj : i' * k + j - (i' * k + off) = j - off:=by omega
        rw [hjj]
        have hlt : j - off < (a.eval y).cells.size:=by omega
        refine ⟨(a.eval y).cells[j - off],by simp [hlt],hR ?_⟩
        have hys : ys[j - off]? = some (dget ys (j - off)):=by
          unfold dget
          rw [List.getD_eq_getElem?_getD,List.getElem?_eq_getElem (by omega)]; rfl
        exact hy (j - off) _ _ (by simp [hlt]) hys
      · rw [if_neg (fun h => hc ((place hfit hj).1 h)),if_neg hc]
        obtain ⟨u,hu,hr⟩:=t4 i' j hi hj
        exact ⟨u,hu,hR hr⟩
theorem sound_storeX (h : InvX I β τ Y E B K I0 N w0 a w) (hd : ∀ d,o.dst = some d → d < N) {t : TypeId} {x y : Operand} {i z k off e m jj jn : Nat} {g : Nat → Nat → DV} (ho : o.op = .store t x y) (hx : Mt I β τ Y w (a.eval x) (.pt i z k off))
    (hK : K i = some (.ownx e k m g off jj)) (hz' : z + 1 = m) (hn : szT P t = some 1) (hy : CM I β τ Y w (a.eval y).cells [.tk jn]) (hok : off < k) :
    Sound P Q Y E B K I0 N w0 a w o .any [.k i (.ownx e k m g off jn)]:=by
  obtain ⟨hk,v,xs,t1,t2,t3,t4,t5⟩:=h.tok i _ hK
  have hz : z < m:=by omega
  have hfit : off + 1 ≤ k:=hok
  have hsz : (a.eval y).cells.size = 1:=hy.len
  have h1c:=hy.one
  obtain ⟨u0,hu0⟩ : ∃ u0,(a.eval y).cells[0]? = some u0:=⟨_,Array.getElem?_eq_getElem (by omega)⟩
  have hτn : τ jn = some u0:=by
    have:=hy.at_ 0 u0 (.tk jn) hu0 rfl
    cases this with | tk hτ _ => exact hτ
  have hxv : ∃ b cap,v = .slice (some ⟨b,0,none⟩) m cap ∧ a.eval x = .pointer (some ⟨b,z * k + off,none⟩):=by
    generalize a.eval x = v' at hx
    cases hx with
    | pt hp =>
      rw [hp] at t1; cases t1
      rcases t2.2 with ⟨hv,_⟩ | ⟨b',cap',cur,hv,_⟩
      · cases hv
      · cases hv; exact ⟨_,_,rfl,rfl⟩
  obtain ⟨b,cap,rfl,he⟩:=hxv
  obtain ⟨hxl,hcase⟩:=t2
  rcases hcase with ⟨hv,_⟩ | ⟨b',cap',cur,hv,c2,c3,c4,c5,c6,c7⟩
  · cases hv
  · cases hv
    have hpos : z * k + off + 1 ≤ m * k:=by
      have : (z + 1) * k ≤ m * k:=Nat.mul_le_mul_right k hz
      rw [Nat.add_mul] at this; omega
    have hcap : m * k ≤ cap * k:=Nat.mul_le_mul_right k c4
    have hr:=run_store_op (P:=P) (w:=w) ho he hn hsz c3 (by omega) h1c
    let new:=cur.toList.take (z * k + off) ++ (a.eval y).cells.toList ++ cur.toList.drop (z * k + off + 1)
    have hnl : new.length = cur.size:=by simp [new]; omega
    have hat : ∀ p,p < m * k → new[p]? = if z * k + off ≤ p ∧ p < z * k + off + 1 then (a.eval y).cells.toList[p - (z * k + off)]? else xs[p]?:=by
      intro p hp
      have hxp : xs[p]? = cur.toList[p]?:=by rw [← c7,List.getElem?_take,if_pos hp]
      by_cases p1 : p < z * k + off
      · rw [if_neg (by omega),hxp]
        simp only [new]
        rw [List.append_assoc,List.getElem?_append_left (by simp; omega),List.getElem?_take,if_pos p1]
      · by_cases p2 : p < z * k + off + 1
        · rw [if_pos ⟨by omega,p2⟩]
          simp only [new]
          rw [List.append_assoc,List.getElem?_append_right (by simp; omega),List.getElem?_append_left (by simp; omega)]
          congr 1
          simp; omega
        · rw [if_neg (by omega),hxp]
          simp only [new]
          rw [List.getElem?_append_right (by simp; omega),List.getElem?_drop]
          congr 1
          simp; omega
    have hg : w.grownBy (w.setRow b new.toArray) (some b):=⟨rfl,rfl,rfl,by simp,fun j _ hj => setRow_other w b j new.toArray (fun e => hj (by rw [e]))⟩
    have hnI : ¬ I b:=(t5 b rfl).1
    have hR : ∀ {u x},Rep I w u x → Rep I (w.setRow b new.toArray) u x:=fun hx => hx.mono (fun _ h => h) (fun b' hb' => setRow_other w b b' new.toArray (fun e => hnI (e ▸ hb')))
    refine wp_skp hr ⟨I,β,upd τ i (some (.slice (some ⟨b,0,none⟩) m cap)),?_⟩
    refine h.rowX (t:=some i) (row:=some b) (m0:=i) (v':=.slice (some ⟨b,0,none⟩) m cap) (cm:=.ownx e k m g off jn) hg (fun b' hb' => ⟨i,_,_,rfl,hK,rfl,t1,hb'⟩) (.inr rfl) (fun _ hblk hτ' => ⟨hk,.slice (some ⟨b,0,none⟩) m cap,new.take (m * k),upd_same _ _ _,?_,?_,?_,hblk⟩) (fun b' hb' => .inl hb') (fun _ => t1) hd .any (upd_same _ _ _) (fun t0 ht hne => absurd (by cases ht; rfl) hne) (fun x hx _ => upd_other _ _ _ _ hx)
    · refine ⟨by simp [hnl]; omega,.inr ⟨b,cap,new.toArray,rfl,c2,setRow_heap w b cur _ e (0,0) c3,c4,c5,by simp [hnl,c6],by simp⟩⟩
    · intro u hu
      obtain ⟨p,hp⟩:=List.getElem?_of_mem hu
      rw [List.getElem?_take] at hp
      split at hp
      · rename_i hpl
        rw [hat p hpl] at hp
        split at hp
        · exact h1c u (by have:=List.mem_of_getElem? hp; simpa using this)
        · exact t3 u (List.mem_of_getElem? hp)
      · cases hp
    · intro i' j hi hj
      have hp:=mul_lt hi hj
      rw [List.getElem?_take,if_pos hp,hat _ hp]
      by_cases hc : i' = z ∧ off ≤ j ∧ j < off + 1
      · rw [if_pos ((place hfit hj).2 hc)]
        obtain ⟨rfl,q1,q2⟩:=hc
        have hjj : i' * k + j - (i' * k + off) = 0:=by omega
        rw [hjj]
        exact ⟨u0,by simpa using hu0,.inl ⟨hz',by omega,hτ' _ _ hτn⟩⟩
      · rw [if_neg (fun h => hc ((place hfit hj).1 h))]
        obtain ⟨u,hu,hr⟩:=t4 i' j hi hj
        refine ⟨u,hu,.inr ?_⟩
        have hne : ¬ (i' + 1 = m ∧ j = off):=fun q => hc ⟨by omega,by omega,by omega⟩
        rcases hr with hr | hr
        · exact absurd ⟨hr.1,hr.2.1⟩ hne
        · exact ⟨hne,hR hr.2⟩
theorem sound_store (h : InvX I β τ Y E B K I0 N w0 a w) (hd : ∀ d,o.dst = some d → d < N) {σ : Sy} {t : TypeId} {x y : Operand} {s v : SV} {ev : Ev} (ho : o.op = .store t x y) (hx : Mt I β τ Y w (a.eval x) s) (hy : Mt I β τ Y w (a.eval y) v) (he : storeE P σ t s v = some ev) (hp : ev.p)
    (hB : ∀ k,Res.b k ∈ ev.rs → B k = nth σ.bx k) (hK : ∀ k,Res.k k ∈ ev.rs → K k = nth σ.tk k) : Sound P Q Y E B K I0 N w0 a w o ev.v ev.ef:=by
  unfold storeE at he
  split at he
  · rename_i vs hvs
    have hc:=CM.of hy hvs
    unfold storeV at he
    split at he
    · rename_i b off
      split at he
      · rename_i c n hb hn
        split at he
        · rename_i hcond
          obtain rfl:=Option.some.inj he
          have hb':=hB b (by simp)
          rw [hb] at hb'
          exact sound_storeBox h hd ho hx hc hb' hcond.1 hcond.2.1 hn hcond.2.2.1 hcond.2.2.2
        · simp at he
      · simp at he
    · rename_i i z k off
      split at he
      · rename_i e k' m g n ys es rs hi hn hdc
        split at he
        · rename_i hcond
          obtain ⟨rfl,c2,c3,c4⟩:=hcond
          simp at he; subst he
          have hi':=hK i (by simp)
          rw [hi] at hi'
          obtain ⟨I',h',hI,hl,hrep⟩:=deepC_use h hc hdc (fun k hk => hK k (by simp [hk]))
          have hno : ∀ c,Ef.k i c ∉ es:=by
            intro c hce
            obtain ⟨_,h2,_⟩:=deepC_ok σ _ _ _ _ hdc
            obtain ⟨i',k',n',g',q1,q2,_⟩:=h2 _ hce
            cases q1
            exact c4 q2
          have hKi : efK K es i = some (.own e k m g):=by rw [efK_other i es K hno]; exact hi'
          have hx' : Mt I' β τ Y w (a.eval x) (.pt i z k off):=hx.mono hI (fun _ _ => rfl) (fun _ _ h => h) (fun _ _ h => h)
          have:=sound_storeTok (P:=P) (Q:=Q) h' hd ho hx' hKi hp hn c2 (by rw [← hl,c2]) hc.one hrep c3
          unfold Sound at this ⊢
          simp only [efK_append,efB_append]
          rw [efB_frz es B (fun e' he' => by
            obtain ⟨_,h2,_⟩:=deepC_ok σ _ _ _ _ hdc
            obtain ⟨i',k',n',g',q1,_⟩:=h2 _ he'
            exact ⟨i',_,q1⟩)]
          exact this
        · simp at he
      · rename_i e k' m g c jx n q hi hn hq
        unfold storeX at he
        split at he
        · rename_i jn
          split at he
          · rename_i hjn
            split at he
            · rename_i hcond
              obtain ⟨rfl,rfl,c3,rfl⟩:=hcond
              simp at he; subst he
              have hi':=hK i (by simp)
              rw [hi] at hi'
              exact sound_storeX h hd ho hx hi' hp hn hc c3
            · simp at he
          · simp at he
        · simp at he
      · simp at he
    · simp at he
  · simp at he
theorem sound_nil (h : InvX I β τ Y E B K I0 N w0 a w) (hd : ∀ d,o.dst = some d → d < N) {x : Operand} {s : SV} {ev : Ev} (ho : o.op = .nilCheck x) (hx : Mt I β τ Y w (a.eval x) s) (he : nilE s = some ev) : Sound P Q Y E B K I0 N w0 a w o ev.v ev.ef:=by
  have key : ∀ (ad : Addr) (V : SV),a.eval x = .pointer (some ad) → Mt I β τ Y w (a.eval x) V → Sound P Q Y E B K I0 N w0 a w o V []:=fun ad V hv hm =>
    sound_pure h hd (v:=a.eval x) (by simp [execOp,ho,hv]) hm
  unfold nilE at he
  split at he
  · simp at he; subst he
    generalize hv : a.eval x = v at hx
    cases hx with
    | p hb => exact key _ _ hv (by rw [hv]; exact .p hb)
  · simp at he; subst he
    generalize hv : a.eval x = v at hx
    cases hx with
    | q us h1 h2 h3 => exact key _ _ hv (by rw [hv]; exact .q us h1 h2 h3)
  · simp at he; subst he
    generalize hv : a.eval x = v at hx
    cases hx with
    | pt hb => exact key _ _ hv (by rw [hv]; exact .pt hb)
  · simp at he; subst he
    generalize hv : a.eval x = v at hx
    cases hx with
    | d hr => cases hr with
      | ref us h1 h2 h3 => exact key _ _ hv (by rw [hv]; exact .d (.ref us h1 h2 h3))
  · simp at he
theorem fldT_spec {t f off n : Nat} (h : fldT P t f = some (off,n)) : ∃ fs fd i,P.underlying t = some (.struct fs) ∧ fs[f]? = some fd ∧ fd.offset = off ∧ P.info? fd.type = some i ∧ i.size = n ∧ n ≠ 0:=by
  unfold fldT at h
  split at h
  · rename_i fs hu
    split at h
    · rename_i fd hf
      split at h
      · rename_i m hs
        simp at h
        obtain ⟨i,hi,hsz⟩:=szT_spec hs
        exact ⟨fs,fd,i,hu,hf,h.1,hi,by omega,by omega⟩
      · simp at h
    · simp at h
  · simp at h
theorem run_field_op {t f off n : Nat} {x : Operand} {b p : Nat} (ho : o.op = .fieldAddr t x f) (hx : a.eval x = .pointer (some ⟨b,p,none⟩)) (hf : fldT P t f = some (off,n)) :
    (execOp a.eval o).run P w = .ok (.value (.pointer (some ⟨b,p + off,none⟩))) w:=by
  obtain ⟨fs,fd,i,hu,hfd,ho',hi,hs,hn⟩:=fldT_spec hf
  have hadd : (⟨b,p,none⟩ : Addr).add fd.offset = ⟨b,p + off,none⟩:=by rw [ho']; unfold Addr.add; split <;> simp_all
  simp [execOp,ho,hx,Instr.fieldAt,run_underlying hu,hfd,Instr.sureAddr,fieldPlace,sizeOf,typeInfo,hi,hs,hn,hadd]
theorem sound_field (h : InvX I β τ Y E B K I0 N w0 a w) (hd : ∀ d,o.dst = some d → d < N) {t f : Nat} {x : Operand} {s : SV} {ev : Ev} (ho : o.op = .fieldAddr t x f) (hx : Mt I β τ Y w (a.eval x) s) (he : fadE P t f s = some ev) : Sound P Q Y E B K I0 N w0 a w o ev.v ev.ef:=by
  unfold fadE at he
  split at he
  · rename_i v hv
    simp at he; subst he
    unfold fieldV at hv
    generalize hvx : a.eval x = vx at hx
    split at hv
    · split at hv
      · rename_i off n hf
        simp at hv; subst hv
        cases hx with
        | p hb => exact sound_pure h hd (run_field_op ho hvx hf) (.p hb)
      · simp at hv
    · split at hv
      · rename_i off n hf
        simp at hv; subst hv
        cases hx with
        | q us h1 h2 h3 => exact sound_pure h hd (run_field_op ho hvx hf) (.q (fun j => us (off + j)) h1 (fun j hj => by rw [← h2 (off + j) (by omega)]; congr 2; omega) (fun j hj => h3 (off + j) (by omega)))
      · simp at hv
    · split at hv
      · rename_i off n hf
        simp at hv; subst hv
        cases hx with
        | d hr => cases hr with
          | ref us h1 h2 h3 => exact sound_pure h hd (run_field_op ho hvx hf) (.q (fun j => us (off + j)) h1 (fun j hj => by rw [← h2 (off + j) (by omega)]; congr 2; omega) (fun j hj => h3 (off + j) (by omega)))
      · simp at hv
    · split at hv
      · rename_i off n hf
        simp at hv; subst hv
        cases hx with
        | pt hb =>
          refine sound_pure h hd (run_field_op ho hvx hf) ?_
          rw [Nat.add_assoc]
          exact .pt hb
      · simp at hv
    · simp at hv
  · simp at he
theorem elT_spec {t e k by_ : Nat} (h : elT P t = some (e,k,by_)) : ∃ i,P.underlying t = some (.slice e) ∧ P.info? e = some i ∧ i.size = k ∧ i.bytes = by_:=by
  unfold elT at h
  split at h
  · rename_i e' hu
    split at h
    · rename_i i hi
      simp at h
      obtain ⟨rfl,h2,h3⟩:=h
      exact ⟨i,hu,hi,h2,h3⟩
    · simp at h
  · simp at h
theorem run_index_op {t e k by_ : Nat} {x y : Operand} {ad : Addr} {n cap : Nat} {kd : IntKind} {i : Int} (ho : o.op = .indexAddr t x y) (hx : a.eval x = .slice (some ad) n cap) (hy : a.eval y = .int kd i) (ht : elT P t = some (e,k,by_)) (hi : 0 ≤ i ∧ i < n) :
    (execOp a.eval o).run P w = .ok (.value (.pointer (some (ad.add (i.toNat * k))))) w:=by
  obtain ⟨inf,hu,hinf,hs,_⟩:=elT_spec ht
  simp [execOp,ho,hx,hy,Instr.indexAt,asIntOf,run_underlying hu,hi,sizeOf,typeInfo,hinf,hs]
theorem sound_index (h : InvX I β τ Y E B K I0 N w0 a w) (hd : ∀ d,o.dst = some d → d < N) {σ : Sy} {t : Nat} {x y : Operand} {s s2 : SV} {ev : Ev} (ho : o.op = .indexAddr t x y) (hx : Mt I β τ Y w (a.eval x) s) (hy : Mt I β τ Y w (a.eval y) s2) (he : idxE P σ t s s2 = some ev) (hp : ev.p)
    (hK : ∀ k,Res.k k ∈ ev.rs → K k = nth σ.tk k) : Sound P Q Y E B K I0 N w0 a w o ev.v ev.ef:=by
  unfold idxE at he
  split at he
  · rename_i kd i
    generalize hvy : a.eval y = vy at hy
    cases hy with
    | d hr => cases hr with
      | int =>
        unfold indexV at he
        generalize hvx : a.eval x = vx at hx
        split at he
        · rename_i k n g
          split at he
          · rename_i e k' by_ ht
            split at he
            · rename_i hk
              subst hk
              simp at he; subst he
              cases hx with
              | d hr => cases hr with
                | sl0 => simp only [] at hp; omega
                | sl1 => simp only [] at hp; omega
                | sl us h1 h2 h3 h4 h5 =>
                  rename_i b o' cap
                  refine sound_pure h hd (run_index_op ho hvx hvy ht hp) ?_
                  rw [Addr.add_mid]
                  have hi : i.toNat < n:=by have:=hp; simp only [] at this; omega
                  exact .q (us i.toNat) h1 (fun j hj => by rw [Nat.add_assoc]; exact h4 i.toNat j hi hj) (fun j hj => h5 i.toNat j hi hj)
            · simp at he
          · simp at he
        · rename_i j
          cases hx with
          | tk hτ h1 =>
            split at he
            · rename_i e0 k n g e k' by_ hj ht
              split at he
              · rename_i hk
                subst hk
                simp at he; subst he
                have hj':=hK j (by simp)
                rw [hj] at hj'
                obtain ⟨hk,v,xs,t1,t2,_⟩:=h.tok j _ hj'
                rw [hτ] at t1; cases t1
                rcases t2.2 with ⟨rfl,hn⟩ | ⟨b,cap,cur,rfl,_⟩
                · simp only [] at hp; omega
                · refine sound_pure h hd (run_index_op ho hvx hvy ht hp) ?_
                  rw [Addr.add_mid,Nat.zero_add]
                  exact .pt (o:=0) hτ
              · simp at he
            · rename_i k n g e k' by_ hj ht
              split at he
              · rename_i hk
                subst hk
                simp at he; subst he
                have hj':=hK j (by simp)
                rw [hj] at hj'
                obtain ⟨v,t1,t2,t3⟩:=h.tok j _ hj'
                rw [hτ] at t1; cases t1
                cases t2 with
                | sl0 => simp only [] at hp; omega
                | sl1 => simp only [] at hp; omega
                | sl us h1 h2 h3 h4 h5 =>
                  rename_i b o' cap
                  obtain ⟨q1,q2⟩:=t3 _ _ _ rfl
                  simp only [] at q1
                  subst q1
                  refine sound_pure h hd (run_index_op ho hvx hvy ht hp) ?_
                  rw [Addr.add_mid,Nat.zero_add]
                  exact .pt (o:=0) hτ
              · simp at he
            · rename_i e0 k n g cx jx e k' by_ hj ht
              split at he
              · rename_i hk
                subst hk
                simp at he; subst he
                have hj':=hK j (by simp)
                rw [hj] at hj'
                obtain ⟨hk,v,xs,t1,t2,_⟩:=h.tok j _ hj'
                rw [hτ] at t1; cases t1
                rcases t2.2 with ⟨rfl,hn⟩ | ⟨b,cap,cur,rfl,_⟩
                · simp only [] at hp; omega
                · refine sound_pure h hd (run_index_op ho hvx hvy ht hp) ?_
                  rw [Addr.add_mid,Nat.zero_add]
                  exact .pt (o:=0) hτ
              · simp at he
            · simp at he
        · simp at he
  · simp at he
end
end Go.RX
