/-
  The program's functions,contracts: what each one returns,whatever the world: part 18. No condition.
-/
import Derived.Test.YtchnganlpgfdjaaGreatDoorB00
import Derived.Test.YtchnganlpgfdjaaGreatDoorB01
import Derived.Test.YtchnganlpgfdjaaGreatDoorB02
import Derived.Test.YtchnganlpgfdjaaGreatDoorB03
import Derived.Test.YtchnganlpgfdjaaGreatDoorB04
import Derived.Test.YtchnganlpgfdjaaGreatDoorB05
import Derived.Test.YtchnganlpgfdjaaGreatDoorB06
import Derived.Test.YtchnganlpgfdjaaGreatDoorB07
import Derived.Test.YtchnganlpgfdjaaGreatDoorB08
import Derived.Test.YtchnganlpgfdjaaGreatDoorB09
import Derived.Test.YtchnganlpgfdjaaGreatDoorB10
import Derived.Test.YtchnganlpgfdjaaGreatDoorB11
import Derived.Test.YtchnganlpgfdjaaGreatDoorB12
import Derived.Test.YtchnganlpgfdjaaGreatDoorB13
import Derived.Test.YtchnganlpgfdjaaGreatDoorB14
import Derived.Test.YtchnganlpgfdjaaGreatDoorB15
import Derived.Test.YtchnganlpgfdjaaGreatDoorB16
import Derived.Scope
import Derived.LoopN
set_option linter.all false
set_option linter.unusedVariables false
set_option linter.unusedSectionVars false
set_option linter.unusedSimpArgs false
set_option linter.unnecessarySimpa false
namespace Go.RX
open Go Go.RowKit
variable [Glob]
section
variable {P : Program} {N : Nat}
def St (σ : Sy) (I0 : Nat → Prop) (N : Nat) (w0 : World) (a : Act) (w : World) : Prop:=∀ Y,Inv Y (lk σ.env) (nth σ.bx) (nth σ.tk) I0 N w0 a w
theorem lk_clean : ∀ (l : List (Nat × SV)) (t : Nat),lk (clean l) t = ung (lk l t)
  | [],_ => rfl
  | (k,v) :: r,t => by
    have ih:=lk_clean r t
    by_cases h : k = t
    · cases v <;> simp [clean,lk,h,ung]
    · cases v <;> simp [clean,lk,h,ih]
theorem St.clean {Y E B K I0 w0} {a : Act} {w : World} (h : Inv Y E B K I0 N w0 a w) : ∀ Y',Inv Y' (fun t => ung (E t)) B K I0 N w0 a w:=by
  obtain ⟨I,β,τ,h⟩:=h
  intro Y'
  refine ⟨I,β,τ,{ h with env:=fun t => .m ((ung_ok (h.env t)).anyY Y'),box:=fun k c hk => ?_ }⟩
  exact (h.box k c hk).mono (fun _ h => h) (fun _ _ _ => rfl) (fun _ _ hx => hx.anyY Y') (fun _ _ _ => ⟨fun h => h,fun h => h⟩)
def QK (K : Exit → Sy → Prop) (Kp : DV → Prop) (I0 : Nat → Prop) (N : Nat) (w0 : World) (e : Exit) (a : Act) (w : World) : Prop :=
  match e with
  | .panic ch => ∃ d,Kp d ∧ Pan I0 w0 d ch a w
  | e => ∃ σ,K e σ ∧ St σ I0 N w0 a w
def Ok (P : Program) (N : Nat) (c : Code) (σ : Sy) (K : Exit → Sy → Prop) (Kp : DV → Prop) : Prop:=∀ I0 w0 a w,St σ I0 N w0 a w → c.wp P (QK K Kp I0 N w0) a w
theorem Ok_congr {c : Code} {σ σ' : Sy} {K : Exit → Sy → Prop} {Kp : DV → Prop} (h : σ = σ') : Ok P N c σ K Kp = Ok P N c σ' K Kp:=by rw [h]
theorem Ok.mono {c : Code} {σ : Sy} {K K' : Exit → Sy → Prop} {Kp Kp' : DV → Prop} (h : Ok P N c σ K Kp) (hk : ∀ e σ,K e σ → K' e σ) (hp : ∀ d,Kp d → Kp' d) : Ok P N c σ K' Kp':=by
  intro I0 w0 a w hs
  refine wp_mono (h I0 w0 a w hs) (fun e a' w' hq => ?_)
  cases e with
  | panic ch => obtain ⟨d,h1,h2⟩:=hq; exact ⟨d,hp _ h1,h2⟩
  | _ => obtain ⟨σ',h1,h2⟩:=hq; exact ⟨σ',hk _ _ h1,h2⟩
section
variable {σ : Sy} {K : Exit → Sy → Prop} {Kp : DV → Prop}
theorem Ok.skip (h : K .normal σ) : Ok P N .skip σ K Kp:=fun _ _ _ _ hs => wp_skip ⟨σ,h,hs⟩
theorem Ok.label {l : Nat} (h : K .normal σ) : Ok P N (.label l) σ K Kp:=fun _ _ _ _ hs => wp_label ⟨σ,h,hs⟩
theorem Ok.exit {id : Nat} (h : K (.exit id) σ) : Ok P N (.exit id) σ K Kp:=fun _ _ _ _ hs => wp_exit ⟨σ,h,hs⟩
theorem Ok.ret (h : K .ret σ) : Ok P N .ret σ K Kp:=fun _ _ _ _ hs => wp_ret ⟨σ,h,hs⟩
def thenK (K1 : Sy → Prop) (K : Exit → Sy → Prop) : Exit → Sy → Prop
  | .normal,σ => K1 σ
  | e,σ => K e σ
theorem Ok.seq {x y : Code} (h : Ok P N x σ (thenK (fun σ' => Ok P N y σ' K Kp) K) Kp) : Ok P N (.seq x y) σ K Kp:=by
  intro I0 w0 a w hs
  refine wp_seq (wp_mono (h I0 w0 a w hs) ?_)
  intro e a' w' hq
  cases e with
  | normal => obtain ⟨σ',h1,h2⟩:=hq; exact h1 I0 w0 a' w' h2
  | panic ch => exact hq
  | _ => obtain ⟨σ',h1,h2⟩:=hq; exact ⟨σ',h1,h2⟩
def blockK (id : Nat) (K : Exit → Sy → Prop) : Exit → Sy → Prop
  | .exit id',σ => if id' = id then K .normal σ else K (.exit id') σ
  | e,σ => K e σ
theorem Ok.block {id : Nat} {c : Code} (h : Ok P N c σ (blockK id K) Kp) : Ok P N (.block id c) σ K Kp:=by
  intro I0 w0 a w hs
  refine wp_block (wp_mono (h I0 w0 a w hs) ?_)
  intro e a' w' hq
  cases e with
  | exit id' =>
    obtain ⟨σ',h1,h2⟩:=hq
    simp only [Exit.inBlock,blockK] at h1 ⊢
    split
    · rw [if_pos (by assumption)] at h1; exact ⟨σ',h1,h2⟩
    · rw [if_neg (by assumption)] at h1; exact ⟨σ',h1,h2⟩
  | panic ch => exact hq
  | _ => obtain ⟨σ',h1,h2⟩:=hq; exact ⟨σ',h1,h2⟩
theorem Ok.cond {t : Nat} {x y : Code} {b : Bool} (hb : lk σ.env t = .d (.bool b)) (hx : b = true → Ok P N x σ K Kp) (hy : b = false → Ok P N y σ K Kp) : Ok P N (.cond (.tmp t) x y) σ K Kp:=by
  intro I0 w0 a w hs
  have hc : a.eval (.tmp t) = .bool b:=by
    obtain ⟨I,β,τ,h⟩:=hs (fun _ => none)
    have:=h.env t
    rw [hb] at this
    exact rep_bool (mt_d (this.un (fun _ _ _ e => by cases e)))
  exact wp_cond_split hc (fun ht => hx ht I0 w0 a w hs) (fun ht => hy ht I0 w0 a w hs)
theorem Ok.region (hm : P.follows .mixedOrders = true) {id : Nat} {ops : Array Oper} {dr : Bool} (hst : regOK N ops.toList = true)
    (hr : rgn P ops.toList (fun lg => dr = true → ordOK ops.toList lg = true) Kp ops.toList σ [] (fun σ' => K .normal { σ' with env:=clean σ'.env })) : Ok P N (.region id ops dr) σ K Kp:=by
  intro I0 w0 a w hs
  refine region_sound hm hst (Kp:=Kp) (fun d ch a w hd hp => ⟨d,hd,hp⟩) hr hs ?_
  intro σ' hk Y a' w' hinv
  refine ⟨_,hk,?_⟩
  have:=St.clean hinv
  intro Y'
  have h2:=this Y'
  have e : lk (RX.clean σ'.env) = fun t => ung (lk σ'.env t):=funext (lk_clean σ'.env)
  show Inv Y' (lk (RX.clean σ'.env)) _ _ _ _ _ _ _
  rw [e]; exact h2
theorem Ok.seqR (hm : P.follows .mixedOrders = true) {id : Nat} {ops : Array Oper} {dr : Bool} {y : Code} (hst : regOK N ops.toList = true)
    (hr : rgn P ops.toList (fun lg => dr = true → ordOK ops.toList lg = true) Kp ops.toList σ [] (fun σ' => Ok P N y { σ' with env:=clean σ'.env } K Kp)) : Ok P N (.seq (.region id ops dr) y) σ K Kp :=
  Ok.seq (Ok.region hm hst hr)
def noGotoK (K : Exit → Sy → Prop) : Exit → Sy → Prop
  | .goto _,_ => False
  | e,σ => K e σ
theorem Ok.scope {c : Code} (h : Ok P N c σ (noGotoK K) Kp) : Ok P N (.scope c) σ K Kp:=by
  intro I0 w0 a w hs
  refine wp_scope_straight (wp_mono (h I0 w0 a w hs) ?_)
  intro e a' w' hq
  cases e with
  | goto l => obtain ⟨σ',h1,h2⟩:=hq; exact h1
  | panic ch => exact hq
  | _ => obtain ⟨σ',h1,h2⟩:=hq; exact ⟨σ',h1,h2⟩
def Sub (σ σ' : Sy) : Prop:=∀ I0 N w0 a w,St σ I0 N w0 a w → St σ' I0 N w0 a w
theorem Sub.refl (σ : Sy) : Sub σ σ:=fun _ _ _ _ _ h => h
theorem Sub.trans {σ σ' σ'' : Sy} (h : Sub σ σ') (h' : Sub σ' σ'') : Sub σ σ'':=fun _ _ _ _ _ hs => h' _ _ _ _ _ (h _ _ _ _ _ hs)
theorem Ok.sub {c : Code} {σ σ' : Sy} (hs : Sub σ σ') (h : Ok P N c σ' K Kp) : Ok P N c σ K Kp:=fun I0 w0 a w hst => h I0 w0 a w (hs _ _ _ _ _ hst)
theorem wp_loopX {X : Type} {Q : Exit → Act → World → Prop} {a : Act} {w : World} {c : Code} (I : X → Act → World → Prop) (μ : X → Nat) (x : X) (h₀ : I x a w)
    (round : ∀ x a w,I x a w → c.wp P (Exit.then (fun a' w' => ∃ x',I x' a' w' ∧ μ x' < μ x) Q) a w) : (Code.loop c).wp P Q a w:=by
  intro b k cs
  have key : ∀ n x a w,μ x = n → I x a w →
      ∃ e a' w',Q e a' w' ∧ Arrives P (lone (b.at a (.code c :: .inLoop c :: k)) cs w) b k cs e a' w':=by
    intro n
    induction n using Nat.strongRecOn with
    | _ n ih =>
      intro x a w hn hI
      obtain ⟨e,a₁,w₁,hq,harr⟩:=round x a w hI b (.inLoop c :: k) cs
      cases e with
      | normal =>
        obtain ⟨x',hI₁,hlt⟩:=hq
        obtain ⟨e₂,a₂,w₂,hq₂,harr₂⟩:=ih (μ x') (hn ▸ hlt) x' a₁ w₁ rfl hI₁
        exact ⟨e₂,a₂,w₂,hq₂,.of_steps (Steps.trans harr (.one step_inLoop)) harr₂⟩
      | exit id => exact ⟨_,a₁,w₁,hq,.pass (x:=.inLoop c) rfl (fun _ _ => .inl (by simp)) harr⟩
      | goto l => exact ⟨_,a₁,w₁,hq,.pass (x:=.inLoop c) rfl (fun _ _ => .inl (by simp)) harr⟩
      | ret => exact ⟨_,a₁,w₁,hq,.pass (x:=.inLoop c) rfl (fun _ _ => .inl (by simp)) harr⟩
      | panic ch => exact ⟨_,a₁,w₁,hq,.pass (x:=.inLoop c) rfl (fun _ _ => .inl (by simp)) harr⟩
      | outgrown => exact ⟨_,a₁,w₁,hq,.pass (x:=.inLoop c) rfl (fun _ _ => .inl (by simp)) harr⟩
  obtain ⟨e,a',w',hq,harr⟩:=key _ x a w rfl h₀
  exact ⟨e,a',w',hq,.of_steps (.one step_loop) harr⟩
theorem Ok.loop {X : Type} (S : X → Sy) (μ : X → Nat) (x : X) {c : Code} (h0 : Sub σ (S x))
    (round : ∀ x,Ok P N c (S x) (thenK (fun σ' => ∃ x',Sub σ' (S x') ∧ μ x' < μ x) K) Kp) : Ok P N (.loop c) σ K Kp:=by
  intro I0 w0 a w hs
  refine wp_loopX (I:=fun x a w => St (S x) I0 N w0 a w) μ x (h0 _ _ _ _ _ hs) ?_
  intro x a w hx
  refine wp_mono (round x I0 w0 a w hx) ?_
  intro e a' w' hq
  cases e with
  | normal => obtain ⟨σ',⟨x',h3,h4⟩,h2⟩:=hq; exact ⟨x',h3 _ _ _ _ _ h2,h4⟩
  | panic ch => exact hq
  | _ => obtain ⟨σ',h1,h2⟩:=hq; exact ⟨σ',h1,h2⟩
theorem Ok.count (n : Nat) (S : Nat → Sy) (J : Nat → Prop) {c : Code} (h0 : J 0 ∧ Sub σ (S 0))
    (round : ∀ i,i < n → J i → Ok P N c (S i) (thenK (fun σ' => J (i + 1) ∧ Sub σ' (S (i + 1))) K) Kp)
    (last : J n → Ok P N c (S n) (thenK (fun _ => False) K) Kp) : Ok P N (.loop c) σ K Kp:=by
  refine Ok.loop (X:={ i : Nat // i ≤ n ∧ J i }) (fun x => S x.1) (fun x => n - x.1) ⟨0,Nat.zero_le _,h0.1⟩ h0.2 ?_
  rintro ⟨i,hi,hj⟩
  by_cases h : i < n
  · refine (round i h hj).mono (fun e σ' hk => ?_) (fun _ h => h)
    cases e with
    | normal => exact ⟨⟨i + 1,h,hk.1⟩,hk.2,by simp only; omega⟩
    | _ => exact hk
  · have e : i = n:=by omega
    subst e
    refine (last hj).mono (fun e σ' hk => ?_) (fun _ h => h)
    cases e with
    | normal => exact hk.elim
    | _ => exact hk
def OkN (P : Program) (N : Nat) (c : Code) (K : Exit → Sy → Prop) (Kp : DV → Prop) : Nat → Sy → Prop
  | 0,_ => False
  | n + 1,σ => Ok P N c σ (thenK (OkN P N c K Kp n) K) Kp
theorem OkN_congr {c : Code} {n : Nat} {σ σ' : Sy} (h : σ = σ') : OkN P N c K Kp n σ = OkN P N c K Kp n σ':=by rw [h]
theorem OkN.round {n : Nat} {c : Code} (h : Ok P N c σ (thenK (OkN P N c K Kp n) K) Kp) : OkN P N c K Kp (n + 1) σ:=h
theorem Ok.rounds (n : Nat) {c : Code} (h : OkN P N c K Kp n σ) : Ok P N (.loop c) σ K Kp:=by
  intro I0 w0 a w hs
  refine wp_loop_rounds n ?_
  induction n generalizing σ a w with
  | zero => exact h.elim
  | succ n ih =>
    rw [rounds_succ]
    refine wp_mono (h I0 w0 a w hs) ?_
    intro e a' w' hq
    cases e with
    | normal => obtain ⟨σ',h1,h2⟩:=hq; exact ih h1 a' w' h2
    | panic ch => exact hq
    | _ => obtain ⟨σ',h1,h2⟩:=hq; exact ⟨σ',h1,h2⟩
end
end
end Go.RX
