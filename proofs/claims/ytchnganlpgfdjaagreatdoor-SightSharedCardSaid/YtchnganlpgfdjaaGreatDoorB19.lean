/-
  The program's functions,contracts: what each one returns,whatever the world: part 20. No condition.
-/
import Derived.Test.YtchnganlpgfdjaaGreatDoorB00
import Derived.Test.YtchnganlpgfdjaaGreatDoorB01
import Derived.Test.YtchnganlpgfdjaaGreatDoorB02
import Derived.Test.YtchnganlpgfdjaaGreatDoorB03
import Derived.Test.YtchnganlpgfdjaaGreatDoorB04
import Derived.Test.YtchnganlpgfdjaaGreatDoorB05
import Derived.Test.YtchnganlpgfdjaaGreatDoorB06
import Derived.Test.YtchnganlpgfdjaaGreatDoorB07
import Derived.Test.YtchnganlpgfdjaaGreatDoorB08
import Derived.Test.YtchnganlpgfdjaaGreatDoorB09
import Derived.Test.YtchnganlpgfdjaaGreatDoorB10
import Derived.Test.YtchnganlpgfdjaaGreatDoorB11
import Derived.Test.YtchnganlpgfdjaaGreatDoorB12
import Derived.Test.YtchnganlpgfdjaaGreatDoorB13
import Derived.Test.YtchnganlpgfdjaaGreatDoorB14
import Derived.Test.YtchnganlpgfdjaaGreatDoorB15
import Derived.Test.YtchnganlpgfdjaaGreatDoorB16
import Derived.Test.YtchnganlpgfdjaaGreatDoorB17
import Derived.Test.YtchnganlpgfdjaaGreatDoorB18
set_option linter.all false
set_option linter.unusedVariables false
set_option linter.unusedSectionVars false
set_option linter.unusedSimpArgs false
set_option linter.unnecessarySimpa false
namespace Go.RX
open Go Go.RowKit
variable [Glob]
section
variable {I : Nat → Prop} {β : Nat → Option Nat} {τ : Nat → Option Value} {Y : Nat → Option Bool} {E : Nat → SV} {B : Nat → Option BC} {K : Nat → Option TC} {I0 : Nat → Prop} {N : Nat} {w0 w : World} {a : Act} {σ : Sy}
theorem InvX.retok (h : InvX I β τ Y E B K I0 N w0 a w) {i : Nat} {c c' : TC} (hK : K i = some c) (hm : c'.mine = true → c.mine = true) (ht : TokOK I β τ w0.heap.size w i c') : InvX I β τ Y E B (upd K i (some c')) I0 N w0 a w:=by
  have hx : ∀ {x d},upd K i (some c') x = some d → ∃ d0,K x = some d0 ∧ (d.mine = true → d0.mine = true):=by
    intro x d hd
    by_cases e : x = i
    · subst e; rw [upd_same] at hd; cases hd; exact ⟨c,hK,hm⟩
    · rw [upd_other _ _ _ _ e] at hd; exact ⟨d,hd,fun q => q⟩
  refine { bs:=h.bs,sz:=h.sz,df:=h.df,hI:=h.hI,i0:=h.i0,env:=h.env,box:=h.box,bn:=h.bn,inj:=h.inj,tok:=fun x d hd => ?_,kn:=fun x hn => ?_,dis:=fun x y d d' hd hd' m m' hne => ?_,bel:=h.bel }
  · by_cases e : x = i
    · subst e; rw [upd_same] at hd; cases hd; exact ht
    · rw [upd_other _ _ _ _ e] at hd; exact h.tok x d hd
  · by_cases e : x = i
    · subst e; rw [upd_same] at hn; cases hn
    · rw [upd_other _ _ _ _ e] at hn; exact h.kn x hn
  · obtain ⟨d0,h0,q0⟩:=hx hd
    obtain ⟨d1,h1,q1⟩:=hx hd'
    exact h.dis x y _ _ h0 h1 (q0 m) (q1 m') hne
theorem InvX.nilTok (h : InvX I β τ Y E B K I0 N w0 a w) {m e k : Nat} {g : Nat → Nat → DV} (hm : K m = none) (hk : 0 < k) : InvX I β (upd τ m (some (.slice none 0 0))) Y E B (upd K m (some (.own e k 0 g))) I0 N w0 a w:=by
  have hτ : ∀ x v,τ x = some v → upd τ m (some (.slice none 0 0)) x = some v:=by
    intro x v hx
    by_cases e : x = m
    · subst e; rw [h.kn x hm] at hx; cases hx
    · rw [upd_other _ _ _ _ e]; exact hx
  have hM : ∀ {u x},Mt I β τ Y w u x → Mt I β (upd τ m (some (.slice none 0 0))) Y w u x:=fun hx => hx.mono (fun _ h => h) (fun _ _ => rfl) (fun _ _ h => h) hτ
  refine { bs:=h.bs,sz:=h.sz,df:=h.df,hI:=h.hI,i0:=h.i0,env:=fun t => (h.env t).lift hM,box:=fun x c hx => (h.box x c hx).mono (fun _ h => h) (fun _ _ _ => rfl) (fun _ _ hx => hM hx) (fun _ _ _ => ⟨fun h => h,fun h => h⟩),bn:=h.bn,inj:=h.inj,tok:=fun x d hd => ?_,kn:=fun x hn => ?_,dis:=fun x y d d' hd hd' m1 m2 hne v v' b hv hv' hb hb' => ?_,bel:=h.bel }
  · by_cases e : x = m
    · subst e; rw [upd_same] at hd; cases hd
      exact ⟨hk,.slice none 0 0,[],upd_same _ _ _,World.ownsRow_nil w _ _ _,fun u hu => by simp at hu,fun i j hi => by omega,fun blk hblk => by simp [Value.ownBlock] at hblk⟩
    · rw [upd_other _ _ _ _ e] at hd
      have ht:=h.tok x d hd
      cases d with
      | own e' k' n' g' =>
        obtain ⟨q0,v2,xs2,q1,q2,q3,q4,q5⟩:=ht
        exact ⟨q0,v2,xs2,hτ _ _ q1,q2,q3,q4,q5⟩
      | ownx e' k' n' g' cx jx =>
        obtain ⟨q0,v2,xs2,q1,q2,q3,q4,q5⟩:=ht
        refine ⟨q0,v2,xs2,hτ _ _ q1,q2,q3,fun i j hi hj => ?_,q5⟩
        obtain ⟨u,hu,hr⟩:=q4 i j hi hj
        exact ⟨u,hu,hr.imp (fun q => ⟨q.1,q.2.1,hτ _ _ q.2.2⟩) (fun q => q)⟩
      | frz k' n' g' =>
        obtain ⟨v2,q1,q2,q3⟩:=ht
        exact ⟨v2,hτ _ _ q1,q2,q3⟩
      | dead => trivial
  · by_cases e : x = m
    · subst e; rw [upd_same] at hn; cases hn
    · rw [upd_other _ _ _ _ e] at hn ⊢; exact h.kn x hn
  · by_cases e : x = m
    · subst e; rw [upd_same] at hv; cases hv; simp [Value.ownBlock] at hb
    · by_cases e' : y = m
      · subst e'; rw [upd_same] at hv'; cases hv'; simp [Value.ownBlock] at hb'
      · rw [upd_other _ _ _ _ e] at hd hv
        rw [upd_other _ _ _ _ e'] at hd' hv'
        exact h.dis x y _ _ hd hd' m1 m2 hne v v' b hv hv' hb hb'
theorem nth_upd {α : Type} {l : List α} {n : Nat} {x : α} (h : n ≤ l.length) : nth (setN l n x) = upd (nth l) n (some x):=by
  funext m
  rw [nth_setN _ _ _ _ h]
  simp [upd]
theorem Sub.link {i e k n c e' k' : Nat} {g h' : Nat → Nat → DV} (hi : nth σ.tk i = some (.own e k n g)) (hn : 0 < n) (hg : g (n - 1) c = .nils) (hk' : 0 < k') :
    Sub σ { σ with tk:=setN (setN σ.tk σ.tk.length (.own e' k' 0 h')) i (.ownx e k n g c σ.tk.length) }:=by
  intro I0 N w0 a w hs Y
  obtain ⟨I,β,τ,h⟩:=hs Y
  have hlt:=nth_lt hi
  have hm : nth σ.tk σ.tk.length = none:=by rw [nth_eq]; simp
  have h1:=h.nilTok (e:=e') (g:=h') hm hk'
  have hne : i ≠ σ.tk.length:=by omega
  have hi1 : upd (nth σ.tk) σ.tk.length (some (.own e' k' 0 h')) i = some (.own e k n g):=by rw [upd_other _ _ _ _ hne]; exact hi
  have h2:=h1.retok (c':=.ownx e k n g c σ.tk.length) hi1 (fun _ => rfl) (by
    obtain ⟨q0,v,xs,q1,q2,q3,q4,q5⟩:=h1.tok i _ hi1
    refine ⟨q0,v,xs,q1,q2,q3,fun x y hx hy => ?_,q5⟩
    obtain ⟨u,hu,hr⟩:=q4 x y hx hy
    refine ⟨u,hu,?_⟩
    by_cases he : x + 1 = n ∧ y = c
    · left
      refine ⟨he.1,he.2,?_⟩
      rw [upd_same]
      obtain ⟨he1,rfl⟩:=he
      rw [show x = n - 1 by omega,hg] at hr
      rw [rep_nils hr]
    · exact .inr ⟨he,hr⟩)
  have e : nth (setN (setN σ.tk σ.tk.length (.own e' k' 0 h')) i (.ownx e k n g c σ.tk.length)) = upd (upd (nth σ.tk) σ.tk.length (some (.own e' k' 0 h'))) i (some (.ownx e k n g c σ.tk.length)):=by
    rw [nth_upd (by have:=setN_len σ.tk σ.tk.length (TC.own e' k' 0 h'); omega),nth_upd (Nat.le_refl _)]
  rw [← e] at h2
  exact ⟨I,β,_,h2⟩
theorem Sub.close {i j e k n c e' k' n' : Nat} {g h' : Nat → Nat → DV} (hi : nth σ.tk i = some (.ownx e k n g c j)) (hj : nth σ.tk j = some (.own e' k' n' h')) :
    Sub σ { σ with tk:=setN (setN σ.tk j (.frz k' n' h')) i (.own e k n (fun x y => if x + 1 = n ∧ y = c then .sl k' n' h' else g x y)) }:=by
  intro I0 N w0 a w hs Y
  obtain ⟨I,β,τ,h⟩:=hs Y
  have hne : i ≠ j:=fun e => by subst e; rw [hi] at hj; cases hj
  obtain ⟨I',h1,hI⟩:=h.freeze hj
  have hi1 : upd (nth σ.tk) j (some (.frz k' n' h')) i = some (.ownx e k n g c j):=by rw [upd_other _ _ _ _ hne]; exact hi
  have h2:=h1.retok (c':=.own e k n (fun x y => if x + 1 = n ∧ y = c then .sl k' n' h' else g x y)) hi1 (fun _ => rfl) (by
    obtain ⟨q0,v,xs,q1,q2,q3,q4,q5⟩:=h1.tok i _ hi1
    obtain ⟨vj,r1,r2,_⟩:=h1.tok j _ (upd_same _ _ _)
    refine ⟨q0,v,xs,q1,q2,q3,fun x y hx hy => ?_,q5⟩
    obtain ⟨u,hu,hr⟩:=q4 x y hx hy
    refine ⟨u,hu,?_⟩
    dsimp only
    rcases hr with ⟨he1,he2,hr⟩ | ⟨he,hr⟩
    · rw [if_pos ⟨he1,he2⟩]
      rw [r1] at hr; cases hr
      exact r2
    · rw [if_neg he]; exact hr)
  have e : nth (setN (setN σ.tk j (.frz k' n' h')) i (.own e k n (fun x y => if x + 1 = n ∧ y = c then .sl k' n' h' else g x y))) = upd (upd (nth σ.tk) j (some (.frz k' n' h'))) i (some (.own e k n (fun x y => if x + 1 = n ∧ y = c then .sl k' n' h' else g x y))):=by
    rw [nth_upd (by have:=setN_len σ.tk j (TC.frz k' n' h'); have:=nth_lt hi; omega),nth_upd (Nat.le_of_lt (nth_lt hj))]
  rw [← e] at h2
  exact ⟨I',β,τ,h2⟩
end
end Go.RX
