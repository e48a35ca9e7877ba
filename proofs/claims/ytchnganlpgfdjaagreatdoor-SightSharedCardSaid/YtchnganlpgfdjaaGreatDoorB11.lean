/-
  The program's functions,contracts: what each one returns,whatever the world: part 12. No condition.
-/
import Derived.Test.YtchnganlpgfdjaaGreatDoorB00
import Derived.Test.YtchnganlpgfdjaaGreatDoorB01
import Derived.Test.YtchnganlpgfdjaaGreatDoorB02
import Derived.Test.YtchnganlpgfdjaaGreatDoorB03
import Derived.Test.YtchnganlpgfdjaaGreatDoorB04
import Derived.Test.YtchnganlpgfdjaaGreatDoorB05
import Derived.Test.YtchnganlpgfdjaaGreatDoorB06
import Derived.Test.YtchnganlpgfdjaaGreatDoorB07
import Derived.Test.YtchnganlpgfdjaaGreatDoorB08
import Derived.Test.YtchnganlpgfdjaaGreatDoorB09
import Derived.Test.YtchnganlpgfdjaaGreatDoorB10
set_option linter.all false
set_option linter.unusedVariables false
set_option linter.unusedSectionVars false
set_option linter.unusedSimpArgs false
set_option linter.unnecessarySimpa false
namespace Go.RX
open Go Go.RowKit
variable [Glob]
def EfOK (σ : Sy) : Ef → Prop
  | .b n _ => n ≤ σ.bx.length
  | .k n c => n ≤ σ.tk.length ∧ ∀ k m g,c = .frz k m g → ∃ e',nth σ.tk n = some (.own e' k m g)
theorem nth_lt {α : Type} {l : List α} {n : Nat} {x : α} (h : nth l n = some x) : n < l.length:=by
  rw [nth_eq] at h; exact (List.getElem?_eq_some_iff.1 h).1
theorem efok_frz {σ : Sy} {es : List Ef} {rs : List Res} (h : ∀ e ∈ es,∃ i k n g,e = Ef.k i (.frz k n g) ∧ Res.k i ∈ rs ∧ ∃ e',nth σ.tk i = some (.own e' k n g)) : ∀ e ∈ es,EfOK σ e:=by
  intro e he
  obtain ⟨i,k,n,g,rfl,_,e',h3⟩:=h e he
  exact ⟨Nat.le_of_lt (nth_lt h3),fun k' m' g' hc => by cases hc; exact ⟨e',h3⟩⟩
section
variable {P : Program} {T : Tab}
theorem movE_ef {σ : Sy} {s : SV} {ev : Ev} (he : movE s = some ev) : ∀ e ∈ ev.ef,EfOK σ e:=by unfold movE at he; ((repeat' split at he); all_goals first | (cases he; done) | (cases he; intro e hx; cases hx; done))
theorem nilE_ef {σ : Sy} {s : SV} {ev : Ev} (he : nilE s = some ev) : ∀ e ∈ ev.ef,EfOK σ e:=by unfold nilE at he; ((repeat' split at he); all_goals first | (cases he; done) | (cases he; intro e hx; cases hx; done))
theorem fadE_ef {σ : Sy} {t f} {s : SV} {ev : Ev} (he : fadE P t f s = some ev) : ∀ e ∈ ev.ef,EfOK σ e:=by unfold fadE at he; ((repeat' split at he); all_goals first | (cases he; done) | (cases he; intro e hx; cases hx; done))
theorem fldE_ef {σ : Sy} {t f} {s : SV} {ev : Ev} (he : fldE P t f s = some ev) : ∀ e ∈ ev.ef,EfOK σ e:=by unfold fldE at he; ((repeat' split at he); all_goals first | (cases he; done) | (cases he; intro e hx; cases hx; done))
theorem idxE_ef {σ : Sy} {t} {s s' : SV} {ev : Ev} (he : idxE P σ t s s' = some ev) : ∀ e ∈ ev.ef,EfOK σ e:=by unfold idxE indexV at he; ((repeat' split at he); all_goals first | (cases he; done) | (cases he; intro e hx; cases hx; done))
theorem atE_ef {σ : Sy} {t} {s s' : SV} {ev : Ev} (he : atE P t s s' = some ev) : ∀ e ∈ ev.ef,EfOK σ e:=by unfold atE at he; ((repeat' split at he); all_goals first | (cases he; done) | (cases he; intro e hx; cases hx; done))
theorem arrE_ef {σ : Sy} {t xs} {s' : SV} {ev : Ev} (he : arrE P t xs s' = some ev) : ∀ e ∈ ev.ef,EfOK σ e:=by unfold arrE at he; ((repeat' split at he); all_goals first | (cases he; done) | (cases he; intro e hx; cases hx; done))
theorem ixE_ef {σ : Sy} {t} {s s' : SV} {ev : Ev} (he : ixE P t s s' = some ev) : ∀ e ∈ ev.ef,EfOK σ e:=by
  unfold ixE at he
  split at he
  · exact arrE_ef he
  · exact atE_ef he
  · cases he
theorem notE_ef {σ : Sy} {s : SV} {ev : Ev} (he : notE s = some ev) : ∀ e ∈ ev.ef,EfOK σ e:=by unfold notE at he; ((repeat' split at he); all_goals first | (cases he; done) | (cases he; intro e hx; cases hx; done))
theorem binO_ef {σ : Sy} {p} {ev : Ev} (he : binO p = some ev) : ∀ e ∈ ev.ef,EfOK σ e:=by unfold binO at he; ((repeat' split at he); all_goals first | (cases he; done) | (cases he; intro e hx; cases hx; done))
theorem binE_ef {σ : Sy} {op t} {s s' : SV} {ev : Ev} (he : binE P op t s s' = some ev) : ∀ e ∈ ev.ef,EfOK σ e:=by
  unfold binE at he
  split at he
  · unfold binA at he; ((repeat' split at he); all_goals first | (cases he; done) | (cases he; intro e hx; cases hx; done))
  · exact binO_ef he
  · cases he
theorem pickE_ef {σ : Sy} {ops c} {x y z : SV} {ev : Ev} (he : pickE ops c x y z = some ev) : ∀ e ∈ ev.ef,EfOK σ e:=by unfold pickE pickB at he; ((repeat' split at he); all_goals first | (cases he; done) | (cases he; intro e hx; cases hx; done))
theorem cvtE_ef {σ : Sy} {s t} {x : SV} {ev : Ev} (he : cvtE P s t x = some ev) : ∀ e ∈ ev.ef,EfOK σ e:=by unfold cvtE at he; ((repeat' split at he); all_goals first | (cases he; done) | (cases he; intro e hx; cases hx; done))
theorem extE_ef {σ : Sy} {i} {x : SV} {ev : Ev} (he : extE i x = some ev) : ∀ e ∈ ev.ef,EfOK σ e:=by unfold extE at he; ((repeat' split at he); all_goals first | (cases he; done) | (cases he; intro e hx; cases hx; done))
theorem bldE_ef {σ : Sy} {t ps} {ev : Ev} (he : bldE P t ps = some ev) : ∀ e ∈ ev.ef,EfOK σ e:=by unfold bldE at he; ((repeat' split at he); all_goals first | (cases he; done) | (cases he; intro e hx; cases hx; done))
theorem sliE_ef {σ : Sy} {t} {x y z : SV} {ev : Ev} (he : sliE P t x y z = some ev) : ∀ e ∈ ev.ef,EfOK σ e:=by unfold sliE at he; ((repeat' split at he); all_goals first | (cases he; done) | (cases he; intro e hx; cases hx; done))
theorem minE_ef {σ : Sy} {m} {x y : SV} {ev : Ev} (he : minE m x y = some ev) : ∀ e ∈ ev.ef,EfOK σ e:=by unfold minE at he; ((repeat' split at he); all_goals first | (cases he; done) | (cases he; intro e hx; cases hx; done))
theorem lenV_ef {σ : Sy} {m m'} {x : SV} {ev : Ev} (he : lenV σ m m' x = some ev) : ∀ e ∈ ev.ef,EfOK σ e:=by unfold lenV at he; ((repeat' split at he); all_goals first | (cases he; done) | (cases he; intro e hx; cases hx; done))
theorem allocE_ef {σ : Sy} {t} {ev : Ev} (he : allocE P σ t = some ev) : ∀ e ∈ ev.ef,EfOK σ e:=by
  unfold allocE at he
  split at he <;> cases he
  intro e hx; simp at hx; subst hx; exact Nat.le_refl _
theorem boxE_ef {σ : Sy} {x} {ev : Ev} (he : boxE σ x = some ev) : ∀ e ∈ ev.ef,EfOK σ e:=by
  unfold boxE at he
  split at he <;> cases he
  intro e hx; simp at hx; subst hx; exact Nat.le_refl _
theorem loadV_ef {σ : Sy} {t} {x : SV} {ev : Ev} (he : loadV P σ t x = some ev) : ∀ e ∈ ev.ef,EfOK σ e:=by unfold loadV at he; ((repeat' split at he); all_goals first | (cases he; done) | (cases he; intro e hx; cases hx; done))
theorem storeE_ef {σ : Sy} {t} {x y : SV} {ev : Ev} (he : storeE P σ t x y = some ev) : ∀ e ∈ ev.ef,EfOK σ e:=by
  unfold storeE at he
  split at he
  · unfold storeV at he
    split at he
    · split at he
      · split at he
        · rename_i h1 _ _
          cases he
          intro e hx; simp at hx; subst hx; exact Nat.le_of_lt (nth_lt h1)
        · cases he
      · cases he
    · split at he
      · split at he
        · rename_i h1 _ h3 _
          cases he
          intro e hx
          rcases List.mem_append.1 hx with hx | hx
          · exact efok_frz (deepC_ok σ _ _ _ _ h3).2.1 e hx
          · simp at hx; subst hx
            exact ⟨Nat.le_of_lt (nth_lt h1),fun k m g hc => by cases hc⟩
        · cases he
      · rename_i h1 _ _
        unfold storeX at he
        split at he
        · split at he
          · split at he
            · cases he
              intro e hx; simp at hx; subst hx
              exact ⟨Nat.le_of_lt (nth_lt h1),fun k m g hc => by cases hc⟩
            · cases he
          · cases he
        · cases he
      · cases he
    · cases he
  · cases he
theorem bslE_ef {σ : Sy} {t n ps} {ev : Ev} (he : bslE P σ t n ps = some ev) : ∀ e ∈ ev.ef,EfOK σ e:=by
  unfold bslE at he
  split at he
  · split at he
    · unfold bslZ at he
      split at he
      · split at he
        · split at he
          · unfold bslO at he
            split at he
            · split at he
              · cases he
                intro e hx; simp at hx; subst hx
                exact ⟨Nat.le_refl _,fun k m g hc => by cases hc⟩
              · cases he
            · cases he
          · unfold bslV at he
            split at he
            · rename_i h1
              split at he
              · cases he; exact efok_frz (deepC_ok σ _ _ _ _ h1).2.1
              · cases he
            · cases he
        · cases he
      · cases he
    · cases he
  · cases he
theorem appV_ef {σ : Sy} {t} {x y : SV} {ev : Ev} (he : appV P σ t x y = some ev) : ∀ e ∈ ev.ef,EfOK σ e:=by
  unfold appV at he
  split at he
  · split at he
    · split at he
      · unfold appW at he
        split at he
        · cases he
          intro e hx; simp at hx; subst hx
          exact ⟨Nat.le_refl _,fun k m g hc => by cases hc⟩
        · split at he
          · split at he
            · rename_i h1 _
              cases he
              intro e hx; simp at hx
              rcases hx with rfl | rfl
              · exact ⟨Nat.le_of_lt (nth_lt h1),fun k m g hc => by cases hc⟩
              · exact ⟨Nat.le_refl _,fun k m g hc => by cases hc⟩
            · cases he
          · cases he
        · cases he
      · cases he
    · cases he
  · cases he
theorem argE_ef {σ : Sy} {xs} {s : SV} {g A es rs} (he : argE σ xs s = some (g,A,es,rs)) : ∀ e ∈ es,EfOK σ e:=by
  unfold argE at he
  split at he
  · split at he
    · rename_i h1
      cases he; exact efok_frz (deepA_ok σ _ _ _ _ h1).2.1
    · cases he
  · split at he
    · rename_i h1
      cases he; exact efok_frz (deepA_ok σ _ _ _ _ h1).2.1
    · cases he
  · cases he
theorem argI_ef {σ : Sy} {xs m} {s : SV} {g A es rs} (he : argI P σ xs m s = some (g,A,es,rs)) : ∀ e ∈ es,EfOK σ e:=by
  unfold argI at he
  split at he
  · split at he
    · rename_i h1
      cases he; exact efok_frz (deepA_ok σ _ _ _ _ h1).2.1
    · cases he
  · cases he
theorem calA_ef {σ : Sy} {rd c} {g A es rs} (he : calA P rd σ c = some (g,A,es,rs)) : ∀ e ∈ es,EfOK σ e:=by
  unfold calA at he
  split at he
  · cases he
  · exact argE_ef he
  · exact argI_ef he
theorem funE_ef {σ : Sy} {rd c} {ev : Ev} (he : funE T (calA P rd σ c) = some ev) : ∀ e ∈ ev.ef,EfOK σ e:=by
  unfold funE at he
  split at he
  · rename_i h1
    split at he
    · cases he; exact calA_ef h1
    · cases he
  · cases he
theorem mkiE_ef {σ : Sy} {t} {x : SV} {ev : Ev} (he : mkiE P σ t x = some ev) : ∀ e ∈ ev.ef,EfOK σ e:=by
  unfold mkiE at he
  split at he
  · split at he
    · rename_i h1
      cases he; exact efok_frz (deepC_ok σ _ _ _ _ h1).2.1
    · cases he
  · cases he
theorem mkbE_ef {σ : Sy} {f} {x : SV} {ev : Ev} (he : mkbE σ f x = some ev) : ∀ e ∈ ev.ef,EfOK σ e:=by
  unfold mkbE at he
  split at he
  · split at he
    · rename_i h1
      cases he; exact efok_frz (deepC_ok σ _ _ _ _ h1).2.1
    · cases he
  · cases he
theorem asrE_ef {σ : Sy} {u ok} {x : SV} {ev : Ev} (he : asrE P u ok x = some ev) : ∀ e ∈ ev.ef,EfOK σ e:=by
  unfold asrE asrY asrN at he
  ((repeat' split at he); all_goals first | (cases he; done) | (cases he; intro e hx; cases hx; done))
theorem rngE_ef {σ : Sy} {t} {x : SV} {ev : Ev} (he : rngE P σ t x = some ev) : ∀ e ∈ ev.ef,EfOK σ e:=by
  unfold rngE at he
  split at he
  · split at he
    · cases he; intro e hx; rw [List.mem_singleton] at hx; subst hx; exact Nat.le_refl _
    · cases he
  · cases he
theorem nxtE_ef {σ : Sy} {x : SV} {ev : Ev} (he : nxtE σ x = some ev) : ∀ e ∈ ev.ef,EfOK σ e:=by
  unfold nxtE at he
  split at he
  · split at he
    · rename_i hc
      unfold nxtI at he
      split at he
      · split at he
        · cases he; intro e hx; rw [List.mem_singleton] at hx; subst hx; exact Nat.le_of_lt (nth_lt hc)
        · cases he; intro e hx; cases hx
      · cases he
    · cases he
  · cases he
theorem mkfE_ef {σ : Sy} {f xs} {ev : Ev} (he : mkfE σ f xs = some ev) : ∀ e ∈ ev.ef,EfOK σ e:=by unfold mkfE at he; ((repeat' split at he); all_goals first | (cases he; done) | (cases he; intro e hx; cases hx; done))
theorem bltE_ef {σ : Sy} {rd b xs ts} {ev : Ev} (he : bltE P rd σ b xs ts = some ev) : ∀ e ∈ ev.ef,EfOK σ e:=by
  unfold bltE at he
  split at he
  · split at he
    · split at he
      · cases he; intro e hx; cases hx
      · cases he
    · exact lenV_ef he
  · exact minE_ef he
  · exact minE_ef he
  · split at he
    · exact appV_ef he
    · cases he
  · cases he
theorem calE_ef {σ : Sy} {rd c} {ev : Ev} (he : calE P T rd σ c = some ev) : ∀ e ∈ ev.ef,EfOK σ e:=by
  unfold calE at he
  split at he
  · exact bltE_ef he
  · exact funE_ef he
theorem opE_ef {ops : List Oper} {rd rdp : Operand → SV} {σ : Sy} {op : Op} {ev : Ev} (he : opE P T ops rd rdp σ op = some ev) : ∀ e ∈ ev.ef,EfOK σ e:=by
  unfold opE at he
  split at he
  · exact movE_ef he
  · exact movE_ef he
  · exact allocE_ef he
  · exact boxE_ef he
  · exact loadV_ef he
  · exact storeE_ef he
  · exact nilE_ef he
  · exact fadE_ef he
  · exact fldE_ef he
  · exact idxE_ef he
  · exact ixE_ef he
  · split at he
    · exact notE_ef he
    · cases he
  · exact binE_ef he
  · split at he
    · exact pickE_ef he
    · cases he
  · exact cvtE_ef he
  · exact extE_ef he
  · exact bldE_ef he
  · exact bslE_ef he
  · split at he
    · exact sliE_ef he
    · cases he
  · exact calE_ef he
  · split at he
    · exact mkfE_ef he
    · exact mkbE_ef he
    · cases he
  · exact mkiE_ef he
  · exact asrE_ef he
  · exact rngE_ef he
  · split at he
    · exact nxtE_ef he
    · cases he
  · cases he
section
variable {Q : Exit → Act → World → Prop}
variable {I : Nat → Prop} {β : Nat → Option Nat} {τ : Nat → Option Value} {Y : Nat → Option Bool} {E : Nat → SV} {B : Nat → Option BC} {K : Nat → Option TC} {I0 : Nat → Prop} {N : Nat} {w0 w : World} {a : Act} {o : Oper}
theorem nth_len {α : Type} (l : List α) : nth l l.length = none:=by rw [nth_eq]; simp
theorem opE_sound (hT : TabOK P T) (h : InvX I β τ Y E B K I0 N w0 a w) (hd : ∀ d,o.dst = some d → d < N) {ops : List Oper} {rd rdp : Operand → SV} {σ : Sy} {ev : Ev}
    (hrd : ∀ x ∈ o.op.operands,Mt I β τ Y w (a.eval x) (rd x)) (hrdp : ∀ x ∈ o.op.operands,MtG I β τ Y w (a.eval x) (rdp x))
    (hY : ∀ c x y,o.op = .pick (.tmp c) x y → ∀ j t,dstOf ops j = some c → rd (.tmp c) = .d (.bool t) → Y j = some t)
    (hB : ∀ k,(Res.b k ∈ ev.rs ∨ ∃ c,Ef.b k c ∈ ev.ef) → B k = nth σ.bx k) (hK : ∀ k,(Res.k k ∈ ev.rs ∨ ∃ c,Ef.k k c ∈ ev.ef) → K k = nth σ.tk k)
    (he : opE P T ops rd rdp σ o.op = some ev) (hp : ev.p) : Sound P Q Y E B K I0 N w0 a w o ev.v ev.ef:=by
  have hB' : ∀ k,Res.b k ∈ ev.rs → B k = nth σ.bx k:=fun k hk => hB k (.inl hk)
  have hK' : ∀ k,Res.k k ∈ ev.rs → K k = nth σ.tk k:=fun k hk => hK k (.inl hk)
  generalize hop : o.op = op at he hrd hrdp
  unfold opE at he
  split at he
  · exact sound_move h hd (.inl hop) (hrd _ (by simp [Op.operands])) he
  · exact sound_move h hd (.inr hop) (hrd _ (by simp [Op.operands])) he
  · refine sound_alloc h hd hop he ?_
    rw [hB _ (.inr ?_)]
    · exact nth_len _
    · unfold allocE at he
      split at he <;> cases he
      exact ⟨_,List.mem_singleton.2 rfl⟩
  · refine sound_box h hd hop (hrd _ (by simp [Op.operands])) he ?_
    rw [hB _ (.inr ?_)]
    · exact nth_len _
    · unfold boxE at he
      split at he <;> cases he
      exact ⟨_,List.mem_singleton.2 rfl⟩
  · exact sound_load h hd hop (hrd _ (by simp [Op.operands])) he hp hB' hK'
  · exact sound_store h hd hop (hrd _ (by simp [Op.operands])) (hrd _ (by simp [Op.operands])) he hp hB' hK'
  · exact sound_nil h hd hop (hrd _ (by simp [Op.operands])) he
  · exact sound_field h hd hop (hrd _ (by simp [Op.operands])) he
  · exact sound_fld h hd hop (hrd _ (by simp [Op.operands])) he
  · exact sound_index h hd hop (hrd _ (by simp [Op.operands])) (hrd _ (by simp [Op.operands])) he hp hK'
  · rename_i t x i
    have h1:=hrd x (by simp [Op.operands])
    have h2:=hrd i (by simp [Op.operands])
    unfold ixE at he
    split at he
    · rename_i hx
      rw [hx] at h1
      exact sound_arr h hd hop h1 h2 he hp
    · rename_i hx
      rw [hx] at h1
      exact sound_at h hd hop h1 h2 he hp
    · cases he
  · split at he
    · exact sound_not h hd hop (hrd _ (by simp [Op.operands])) he
    · cases he
  · exact sound_bin h hd hop (hrd _ (by simp [Op.operands])) (hrd _ (by simp [Op.operands])) he hp
  · split at he
    · exact sound_pick h hd hop (hrd _ (by simp [Op.operands])) (hrdp _ (by simp [Op.operands])) (hrdp _ (by simp [Op.operands])) (hY _ _ _ hop) he
    · cases he
  · exact sound_cvt h hd hop (hrd _ (by simp [Op.operands])) he hp
  · exact sound_ext h hd hop (hrd _ (by simp [Op.operands])) he
  · exact sound_bld h hd hop (fun x hx => hrd x (by simpa [Op.operands] using hx)) he
  · exact sound_bsl h hd hop (fun x hx => hrd x (by simpa [Op.operands] using hx)) hK' (fun ⟨c,hc⟩ => by rw [hK _ (.inr ⟨c,hc⟩)]; exact nth_len _) he
  · split at he
    · rename_i t x lo hi _ 
      refine sound_sli h hd hop (hrd _ (by simp [Op.operands])) (fun y hy => hrd y (by simp [Op.operands,hy])) (fun y hy => hrd y (by simp [Op.operands,hy])) ?_ hp
      cases lo <;> cases hi <;> exact he
    · cases he
  · rename_i c
    unfold calE at he
    split at he
    · rename_i b hb
      obtain ⟨callee,args,ats⟩:=c
      simp only at hb he; subst hb
      unfold bltE at he
      split at he
      · rename_i x t hx ht
        have hx' : args = #[x]:=by cases args; simpa using hx
        have ht' : ats = #[t]:=by cases ats; simpa using ht
        subst hx'; subst ht'
        have hxx:=hrd x (by simp [Op.operands,Call.operands])
        split at he
        · rename_i n k g hrx
          split at he
          · rename_i hmt
            obtain rfl:=Option.some.inj he
            rw [hrx] at hxx
            exact sound_lenM h hd hop hxx hmt
          · cases he
        · exact sound_len h hd hop hxx hK' he
      · rename_i _ x y hx
        have hx' : args = #[x,y]:=by cases args; simpa using hx
        subst hx'
        exact sound_min (mx:=false) h hd hop (hrd _ (by simp [Op.operands,Call.operands])) (hrd _ (by simp [Op.operands,Call.operands])) he
      · rename_i _ x y hx
        have hx' : args = #[x,y]:=by cases args; simpa using hx
        subst hx'
        exact sound_min (mx:=true) h hd hop (hrd _ (by simp [Op.operands,Call.operands])) (hrd _ (by simp [Op.operands,Call.operands])) he
      · rename_i x y t u hx ht
        have hx' : args = #[x,y]:=by cases args; simpa using hx
        have ht' : ats = #[t,u]:=by cases ats; simpa using ht
        subst hx'; subst ht'
        split at he
        · rename_i htu; subst htu
          refine sound_app h hd hop (hrd _ (by simp [Op.operands,Call.operands])) (hrd _ (by simp [Op.operands,Call.operands])) hK' ?_ he hp
          rw [hK _ (.inr ?_)]
          · exact nth_len _
          · unfold appV at he
            split at he
            · split at he
              · split at he
                · unfold appW at he
                  split at he
                  · cases he; exact ⟨_,List.mem_singleton.2 rfl⟩
                  · split at he
                    · split at he
                      · cases he; exact ⟨_,List.mem_cons_of_mem _ (List.mem_singleton.2 rfl)⟩
                      · cases he
                    · cases he
                  · cases he
                · cases he
              · cases he
            · cases he
        · cases he
      · cases he
    · exact sound_fun hT h hd hop (fun x hx => hrd x (by simpa [Op.operands] using hx)) hK' he hp
  · rename_i f first caps
    split at he
    · rename_i f' _ hf
      exact sound_mkf h hd hop hf (fun x hx => hrd x (by simp [Op.operands,hx])) hB' he
    · rename_i f' x hf hc
      have hf' : first = #[x]:=by cases first; simpa using hf
      have hc' : caps = #[]:=by cases caps; simpa using hc
      subst hf'; subst hc'
      exact sound_mkb h hd hop (hrd _ (by simp [Op.operands])) hK' he
    · cases he
  · exact sound_mki h hd hop (hrd _ (by simp [Op.operands])) hK' he
  · exact sound_asr h hd hop (hrd _ (by simp [Op.operands])) he
  · refine sound_rng h hd hop (hrd _ (by simp [Op.operands])) he ?_
    rw [hB _ (.inr ?_)]
    · exact nth_len _
    · unfold rngE at he
      split at he
      · split at he <;> cases he
        exact ⟨_,List.mem_singleton.2 rfl⟩
      · cases he
  · split at he
    · rename_i hs
      subst hs
      exact sound_nxt h hd hop (hrd _ (by simp [Op.operands])) he hB'
    · cases he
  · cases he
end
end
end Go.RX
