/-
  The program's functions,contracts: what each one returns,whatever the world: part 19. No condition.
-/
import Derived.Test.YtchnganlpgfdjaaGreatDoorB00
import Derived.Test.YtchnganlpgfdjaaGreatDoorB01
import Derived.Test.YtchnganlpgfdjaaGreatDoorB02
import Derived.Test.YtchnganlpgfdjaaGreatDoorB03
import Derived.Test.YtchnganlpgfdjaaGreatDoorB04
import Derived.Test.YtchnganlpgfdjaaGreatDoorB05
import Derived.Test.YtchnganlpgfdjaaGreatDoorB06
import Derived.Test.YtchnganlpgfdjaaGreatDoorB07
import Derived.Test.YtchnganlpgfdjaaGreatDoorB08
import Derived.Test.YtchnganlpgfdjaaGreatDoorB09
import Derived.Test.YtchnganlpgfdjaaGreatDoorB10
import Derived.Test.YtchnganlpgfdjaaGreatDoorB11
import Derived.Test.YtchnganlpgfdjaaGreatDoorB12
import Derived.Test.YtchnganlpgfdjaaGreatDoorB13
import Derived.Test.YtchnganlpgfdjaaGreatDoorB14
import Derived.Test.YtchnganlpgfdjaaGreatDoorB15
import Derived.Test.YtchnganlpgfdjaaGreatDoorB16
import Derived.Test.YtchnganlpgfdjaaGreatDoorB17
set_option linter.all false
set_option linter.unusedVariables false
set_option linter.unusedSectionVars false
set_option linter.unusedSimpArgs false
set_option linter.unnecessarySimpa false
namespace Go.RX
open Go Go.RowKit
variable [Glob]
def DEq (x y : DV) : Prop:=∀ I w v,Rep I w v x → Rep I w v y
theorem DEq.refl (x : DV) : DEq x x:=fun _ _ _ h => h
theorem DEq.of_eq {x y : DV} (h : x = y) : DEq x y:=by subst h; exact .refl x
theorem DEq.sl {k n n' : Nat} {g g' : Nat → Nat → DV} (hn : n = n') (h : ∀ i j,i < n → j < k → DEq (g i j) (g' i j)) : DEq (.sl k n g) (.sl k n' g'):=by
  subst hn
  intro I w v hv
  cases hv with
  | sl0 => exact .sl0
  | sl1 hc => exact .sl1 hc
  | sl us hI hn hc hcell hrep => exact .sl us hI hn hc hcell (fun i j hi hj => h i j hi hj _ _ _ (hrep i j hi hj))
theorem DEq.nils {k n : Nat} {g : Nat → Nat → DV} (hn : n = 0) : DEq .nils (.sl k n g):=by
  subst hn
  intro I w v hv
  cases hv
  exact .sl0
mutual
def subV (σ : Sy) (rB : List Nat) (rT : List (Option Nat)) : SV → SV → Prop
  | _,.any => True
  | .d x,.d y => DEq x y
  | .d x,.tk j => x = .nils ∧ nth rT j = some none
  | .tk i,.d y => match nth σ.tk i with | some (.frz k n g) => DEq (.sl k n g) y | _ => False
  | .tk i,.tk j => nth rT j = some (some i)
  | .p b o,.p b' o' => nth rB b' = some b ∧ o = o'
  | .pt i x k o,.pt j x' k' o' => nth rT j = some (some i) ∧ x = x' ∧ k = k' ∧ o = o'
  | .q m c,.q m' c' => m' ≤ m ∧ ∀ j,j < m' → DEq (c j) (c' j)
  | .agg xs,.agg ys => subL σ rB rT xs ys
  | .tup xs,.tup ys => subL σ rB rT xs ys
  | _,_ => False
def subL (σ : Sy) (rB : List Nat) (rT : List (Option Nat)) : List SV → List SV → Prop
  | [],[] => True
  | x :: xs,y :: ys => subV σ rB rT x y ∧ subL σ rB rT xs ys
  | _,_ => False
end
def subE (σ : Sy) (rB : List Nat) (rT : List (Option Nat)) : List (Nat × SV) → Prop
  | [] => True
  | (t,v) :: r => subV σ rB rT (lk σ.env t) v ∧ subE σ rB rT r
def subB1 (σ : Sy) (rB : List Nat) (rT : List (Option Nat)) (c' : BC) : Option BC → Prop
  | some c => c.frz = c'.frz ∧ c.it = c'.it ∧ subL σ rB rT c.xs c'.xs
  | none => False
def subB (σ : Sy) (rB : List Nat) (rT : List (Option Nat)) : List Nat → List BC → Prop
  | [],[] => True
  | b :: bs,c' :: cs => subB1 σ rB rT c' (nth σ.bx b) ∧ subB σ rB rT bs cs
  | _,_ => False
def subT1 (rA : List (Option Nat)) : Option TC → TC → Prop
  | _,.dead => True
  | some (.own e k n g),.own e' k' n' g' => e = e' ∧ k = k' ∧ n = n' ∧ ∀ i j,i < n → j < k → DEq (g i j) (g' i j)
  | some (.frz k n g),.frz k' n' g' => k = k' ∧ n = n' ∧ ∀ i j,i < n → j < k → DEq (g i j) (g' i j)
  | some (.ownx e k n g c j),.ownx e' k' n' g' c' j' => e = e' ∧ k = k' ∧ n = n' ∧ c = c' ∧ nth rA j' = some (some j) ∧ ∀ i j,i < n → j < k → DEq (g i j) (g' i j)
  | _,_ => False
def newT : TC → Prop
  | .dead => True
  | .own _ k n _ => 0 < k ∧ n = 0
  | _ => False
def subT (σ : Sy) (rA : List (Option Nat)) : List (Option Nat) → List TC → Prop
  | [],[] => True
  | some i :: r,c' :: cs => subT1 rA (nth σ.tk i) c' ∧ subT σ rA r cs
  | none :: r,c' :: cs => newT c' ∧ subT σ rA r cs
  | _,_ => False
def βn (β : Nat → Option Nat) (rB : List Nat) (k : Nat) : Option Nat:=match nth rB k with | some b => β b | none => none
def τn (τ : Nat → Option Value) (rT : List (Option Nat)) (k : Nat) : Option Value:=match nth rT k with | some (some i) => τ i | some none => some (.slice none 0 0) | none => none
section
variable {I : Nat → Prop} {β : Nat → Option Nat} {τ : Nat → Option Value} {Y : Nat → Option Bool} {σ : Sy} {rB : List Nat} {rT : List (Option Nat)} {n0 : Nat} {w : World}
theorem subL_len : ∀ (xs ys : List SV),subL σ rB rT xs ys → xs.length = ys.length
  | [],[],_ => rfl
  | x :: xs,y :: ys,h => by simp [subL_len xs ys (by unfold subL at h; exact h.2)]
  | [],_ :: _,h => by unfold subL at h; exact h.elim
  | _ :: _,[],h => by unfold subL at h; exact h.elim
mutual
theorem subV_ok (htok : ∀ k c,nth σ.tk k = some c → TokOK I β τ n0 w k c) : ∀ (s s' : SV) (v : Value),subV σ rB rT s s' → Mt I β τ Y w v s → Mt I (βn β rB) (τn τ rT) Y w v s'
  | s,.any,v,_,_ => .any
  | .d x,.d y,v,h,hm => by
    unfold subV at h
    exact .d (h _ _ _ (mt_d hm))
  | .d x,.tk j,v,h,hm => by
    unfold subV at h
    obtain ⟨rfl,h⟩:=h
    have:=rep_nils (mt_d hm); subst this
    exact .tk (by simp [τn,h]) rfl
  | .tk i,.d y,v,h,hm => by
    unfold subV at h
    split at h
    · rename_i k n g hi
      obtain ⟨v',t1,t2,_⟩:=htok _ _ hi
      cases hm with
      | tk hτ _ => rw [hτ] at t1; cases t1; exact .d (h _ _ _ t2)
    · exact h.elim
  | .tk i,.tk j,v,h,hm => by
    unfold subV at h
    cases hm with
    | tk hτ h1 => exact .tk (by simp [τn,h,hτ]) h1
  | .p b o,.p b' o',v,h,hm => by
    unfold subV at h
    obtain ⟨h1,rfl⟩:=h
    cases hm with
    | p hb => exact .p (by simp [βn,h1,hb])
  | .pt i x k o,.pt j x' k' o',v,h,hm => by
    unfold subV at h
    obtain ⟨h1,rfl,rfl,rfl⟩:=h
    cases hm with
    | pt hτ => exact .pt (by simp [τn,h1]; exact hτ)
  | .q m c,.q m' c',v,h,hm => by
    unfold subV at h
    cases hm with
    | q us hI hc hr => exact .q us hI (fun j hj => hc j (by omega)) (fun j hj => h.2 j hj _ _ _ (hr j (by omega)))
  | .agg xs,.agg ys,v,h,hm => by
    unfold subV at h
    cases hm with
    | agg hl hm h1 => exact .agg (by rw [hl,subL_len xs ys h]) (fun j u y hu hy => subL_ok htok xs ys j u y h (fun x hx => hm j u x hu hx) hy) h1
  | .tup xs,.tup ys,v,h,hm => by
    unfold subV at h
    cases hm with
    | tup hl hm => exact .tup (by rw [hl,subL_len xs ys h]) (fun j u y hu hy => subL_ok htok xs ys j u y h (fun x hx => hm j u x hu hx) hy)
  | s,.gd j b x,v,h,hm => by cases s <;> (unfold subV at h; exact h.elim)
theorem subL_ok (htok : ∀ k c,nth σ.tk k = some c → TokOK I β τ n0 w k c) : ∀ (xs ys : List SV) (j : Nat) (u : Value) (y : SV),subL σ rB rT xs ys → (∀ x,xs[j]? = some x → Mt I β τ Y w u x) → ys[j]? = some y → Mt I (βn β rB) (τn τ rT) Y w u y
  | [],[],j,u,y,_,_,hy => by simp at hy
  | x :: xs,y' :: ys,0,u,y,h,hx,hy => by
    unfold subL at h
    simp at hy; subst hy
    exact subV_ok htok x y' u h.1 (hx x rfl)
  | x :: xs,y' :: ys,j + 1,u,y,h,hx,hy => by
    unfold subL at h
    exact subL_ok htok xs ys j u y h.2 (fun x hx' => hx x (by simpa using hx')) (by simpa using hy)
end
theorem subE_ok : ∀ (l : List (Nat × SV)),subE σ rB rT l → ∀ t,lk l t = .any ∨ subV σ rB rT (lk σ.env t) (lk l t)
  | [],_,_ => .inl rfl
  | (k,v) :: r,h,t => by
    simp only [lk]
    split
    · rename_i e; subst e; exact .inr h.1
    · exact subE_ok r h.2 t
theorem subB_ok : ∀ (bs : List Nat) (cs : List BC),subB σ rB rT bs cs → bs.length = cs.length ∧ ∀ (j b : Nat) (c' : BC),nth bs j = some b → nth cs j = some c' → subB1 σ rB rT c' (nth σ.bx b)
  | [],[],_ => ⟨rfl,fun j b c' h => by simp [nth] at h⟩
  | b :: bs,c :: cs,h => by
    obtain ⟨h1,h2⟩:=h
    obtain ⟨g1,g2⟩:=subB_ok bs cs h2
    refine ⟨by simp [g1],fun j b' c' hb hc => ?_⟩
    cases j with
    | zero => simp [nth] at hb hc; subst hb; subst hc; exact h1
    | succ j => exact g2 j b' c' hb hc
  | [],_ :: _,h => h.elim
  | _ :: _,[],h => h.elim
theorem subT_ok (rA : List (Option Nat)) : ∀ (bs : List (Option Nat)) (cs : List TC),subT σ rA bs cs → bs.length = cs.length ∧ ∀ (j : Nat) (b : Option Nat) (c' : TC),nth bs j = some b → nth cs j = some c' → (∀ i,b = some i → subT1 rA (nth σ.tk i) c') ∧ (b = none → newT c')
  | [],[],_ => ⟨rfl,fun j b c' h => by simp [nth] at h⟩
  | b :: bs,c :: cs,h => by
    have h2 : subT σ rA bs cs:=by cases b <;> exact h.2
    obtain ⟨g1,g2⟩:=subT_ok rA bs cs h2
    refine ⟨by simp [g1],fun j b' c' hb hc => ?_⟩
    cases j with
    | zero =>
      simp [nth] at hb hc; subst hb; subst hc
      cases b with
      | none => exact ⟨fun i hi => absurd hi (by simp),fun _ => h.1⟩
      | some i => exact ⟨fun i' hi => (Option.some.inj hi) ▸ h.1,fun hn => absurd hn (by simp)⟩
    | succ j => exact g2 j b' c' hb hc
  | [],_ :: _,h => by cases h
  | b :: _,[],h => by cases b <;> exact h.elim
def inj : List (Option Nat) → Bool
  | [] => true
  | none :: r => inj r
  | some i :: r => !r.contains (some i) && inj r
theorem inj_ok : ∀ {l : List (Option Nat)},inj l = true → ∀ {i j x : Nat},nth l i = some (some x) → nth l j = some (some x) → i = j
  | [],_,i,j,x,hi,_ => by simp [nth] at hi
  | o :: r,h,i,j,x,hi,hj => by
    have hr : inj r = true:=by cases o <;> simp_all [inj]
    cases i with
    | zero =>
      cases j with
      | zero => rfl
      | succ j =>
        simp only [nth,Option.some.injEq] at hi hj
        subst hi
        simp only [inj,Bool.and_eq_true,Bool.not_eq_true'] at h
        rw [nth_eq] at hj
        have:=List.mem_of_getElem? hj
        have h1:=h.1
        simp at h1
        exact absurd this h1
    | succ i =>
      cases j with
      | zero =>
        simp only [nth,Option.some.injEq] at hi hj
        subst hj
        simp only [inj,Bool.and_eq_true,Bool.not_eq_true'] at h
        rw [nth_eq] at hi
        have:=List.mem_of_getElem? hi
        have h1:=h.1
        simp at h1
        exact absurd this h1
      | succ j =>
        have:=inj_ok hr (i:=i) (j:=j) hi hj
        omega
theorem nth_map {α γ : Type} (f : α → γ) : ∀ (l : List α) (i : Nat),nth (l.map f) i = (nth l i).map f
  | [],i => by simp [nth]
  | a :: l,0 => by simp [nth]
  | a :: l,i + 1 => by simp [nth,nth_map f l i]
theorem Sub.of {σ' : Sy} (rB : List Nat) (rT : List (Option Nat)) (hB : subB σ rB rT rB σ'.bx) (hT : subT σ rT rT σ'.tk) (hE : subE σ rB rT σ'.env) (nB : inj (rB.map some) = true) (nT : inj rT = true) : Sub σ σ':=by
  intro I0 N w0 a w hs Y
  obtain ⟨I,β,τ,h⟩:=hs Y
  obtain ⟨lB,oB⟩:=subB_ok rB σ'.bx hB
  obtain ⟨lT,oT⟩:=subT_ok rT rT σ'.tk hT
  have htok : ∀ k c,nth σ.tk k = some c → TokOK I β τ w0.heap.size w k c:=h.tok
  have nthB : ∀ k,nth σ'.bx k = none → nth rB k = none:=fun k hk => by
    rw [nth_eq,List.getElem?_eq_none_iff] at hk ⊢; omega
  have nthT : ∀ k,nth σ'.tk k = none → nth rT k = none:=fun k hk => by
    rw [nth_eq,List.getElem?_eq_none_iff] at hk ⊢; omega
  have someB : ∀ k c,nth σ'.bx k = some c → ∃ b,nth rB k = some b:=fun k c hk => nth_of_lt (by have:=nth_lt hk; omega)
  have someT : ∀ k c,nth σ'.tk k = some c → ∃ b,nth rT k = some b:=fun k c hk => nth_of_lt (by have:=nth_lt hk; omega)
  refine ⟨I,βn β rB,τn τ rT,⟨h.sz,h.df,h.hI,h.i0,fun t => ?_,fun k c hk => ?_,fun k hk => ?_,fun k k' b hb hb' => ?_,fun k c hk => ?_,fun k hk => ?_,?_,h.bel,h.bs⟩⟩
  · rcases subE_ok _ hE t with e | hv
    · rw [e]; exact .m .any
    · have hm:=h.env t
      by_cases hg : ∃ j b y,lk σ.env t = .gd j b y
      · obtain ⟨j,b,y,hg⟩:=hg
        rw [hg] at hv
        have : lk σ'.env t = .any:=by
          generalize lk σ'.env t = z at hv
          cases z <;> first | rfl | (unfold subV at hv; exact hv.elim)
        rw [this]; exact .m .any
      · exact .m (subV_ok htok _ _ _ hv (hm.un (fun j b y e => hg ⟨j,b,y,e⟩)))
  · obtain ⟨b,hb⟩:=someB k c hk
    have h1:=oB k b c hb hk
    unfold subB1 at h1
    split at h1
    · rename_i c0 hc0
      obtain ⟨h1,hi,h2⟩:=h1
      obtain ⟨blk,b1,b2,b7,b8⟩:=(h.box b c0 hc0).loc
      have hcon:=(h.box b c0 hc0).con blk b1
      refine ⟨⟨blk,by simp [βn,hb,b1],b2,⟨fun hf => b7 (by rw [h1]; exact hf),fun hf => b8 (by rw [h1]; exact hf)⟩⟩,fun blk' hblk' => ?_⟩
      have e : blk' = blk:=by simp [βn,hb,b1] at hblk'; exact hblk'.symm
      subst e
      unfold Cont at hcon ⊢
      rw [hi] at hcon
      split
      · rename_i e
        rw [e] at hcon
        obtain ⟨cs,T,b3,b4,b5,b6⟩:=hcon
        exact ⟨cs,T,b3,by rw [b4,subL_len _ _ h2],fun j u y hu hy => subL_ok htok _ _ j u y h2 (fun x hx => b5 j u x hu hx) hy,b6⟩
      · rename_i e
        rw [e] at hcon
        exact hcon
    · exact h1.elim
  · simp [βn,nthB k hk]
  · unfold βn at hb hb'
    split at hb
    · rename_i b1 hb1
      split at hb'
      · rename_i b2 hb2
        have:=h.inj _ _ _ hb hb'
        subst this
        exact inj_ok nB (by rw [nth_map,hb1]; rfl) (by rw [nth_map,hb2]; rfl)
      · cases hb'
    · cases hb
  · obtain ⟨b,hb⟩:=someT k c hk
    obtain ⟨h1,h2⟩:=oT k b c hb hk
    cases b with
    | none =>
      have:=h2 rfl
      cases c with
      | own e kk n g =>
        obtain ⟨hk0,rfl⟩:=this
        exact ⟨hk0,.slice none 0 0,[],by simp [τn,hb],World.ownsRow_nil w _ e kk,fun u hu => by simp at hu,fun i j hi => by omega,fun blk hblk => by simp [Value.ownBlock] at hblk⟩
      | frz => exact this.elim
      | ownx => exact this.elim
      | dead => trivial
    | some i =>
      have h1:=h1 i rfl
      cases c with
      | dead => trivial
      | own e' k' n' g' =>
        unfold subT1 at h1
        split at h1
        · rename_i c0 _ q; cases q
        · rename_i e k n g e1 k1 n1 g1 hq hq2
          cases hq2
          obtain ⟨rfl,rfl,rfl,hd⟩:=h1
          obtain ⟨t1,v,xs,t2,t3,t4,t5,t6⟩:=htok _ _ hq
          refine ⟨t1,v,xs,by simp [τn,hb,t2],t3,t4,fun i j hi hj => ?_,fun blk hblk => ?_⟩
          · obtain ⟨u,hu,hr⟩:=t5 i j hi hj
            exact ⟨u,hu,hd i j hi hj _ _ _ hr⟩
          · obtain ⟨q1,q2⟩:=t6 blk hblk
            refine ⟨q1,fun b hb' => ?_⟩
            unfold βn at hb'
            split at hb'
            · exact q2 _ hb'
            · cases hb'
        · rename_i q; cases q
        · rename_i q; cases q
        · exact h1.elim
      | frz k' n' g' =>
        unfold subT1 at h1
        split at h1
        · rename_i q; cases q
        · rename_i q; cases q
        · rename_i k n g k1 n1 g1 hq hq2
          cases hq2
          obtain ⟨rfl,rfl,hd⟩:=h1
          obtain ⟨v,t1,t2,t3⟩:=htok _ _ hq
          exact ⟨v,by simp [τn,hb,t1],DEq.sl rfl hd _ _ _ t2,t3⟩
        · rename_i q; cases q
        · exact h1.elim
      | ownx e' k' n' g' c' j' =>
        unfold subT1 at h1
        split at h1
        · rename_i q; cases q
        · rename_i q; cases q
        · rename_i q; cases q
        · rename_i e k n g c j e1 k1 n1 g1 c1 j1 hq hq2
          cases hq2
          obtain ⟨rfl,rfl,rfl,rfl,hj,hd⟩:=h1
          obtain ⟨t1,v,xs,t2,t3,t4,t5,t6⟩:=htok _ _ hq
          refine ⟨t1,v,xs,by simp [τn,hb,t2],t3,t4,fun i j hi hj' => ?_,fun blk hblk => ?_⟩
          · obtain ⟨u,hu,hr⟩:=t5 i j hi hj'
            exact ⟨u,hu,hr.imp (fun q => ⟨q.1,q.2.1,by simp [τn,hj,q.2.2]⟩) (fun q => ⟨q.1,hd i j hi hj' _ _ _ q.2⟩)⟩
          · obtain ⟨q1,q2⟩:=t6 blk hblk
            refine ⟨q1,fun b hb' => ?_⟩
            unfold βn at hb'
            split at hb'
            · exact q2 _ hb'
            · cases hb'
        · exact h1.elim
  · simp [τn,nthT k hk]
  · intro k k' c c' hk hk' hm hm' hne v v' b hv hv' hb
    obtain ⟨x,hx⟩:=someT k _ hk
    obtain ⟨x',hx'⟩:=someT k' _ hk'
    have mineOf : ∀ {d : Option TC} {d' : TC},d'.mine = true → subT1 rT d d' → ∃ d0,d = some d0 ∧ d0.mine = true:=by
      intro d d' hmd hsub
      unfold subT1 at hsub
      split at hsub
      · cases hmd
      · exact ⟨_,rfl,rfl⟩
      · cases hmd
      · exact ⟨_,rfl,rfl⟩
      · exact hsub.elim
    cases x with
    | none => simp [τn,hx] at hv; subst hv; simp [Value.ownBlock] at hb
    | some i =>
      cases x' with
      | none => simp [τn,hx'] at hv'; subst hv'; simp [Value.ownBlock]
      | some i' =>
        have hii : i ≠ i':=fun e => hne (inj_ok nT hx (e ▸ hx'))
        obtain ⟨d1,hd1,m1⟩:=mineOf hm ((oT _ _ _ hx hk).1 i rfl)
        obtain ⟨d2,hd2,m2⟩:=mineOf hm' ((oT _ _ _ hx' hk').1 i' rfl)
        simp [τn,hx] at hv
        simp [τn,hx'] at hv'
        exact h.dis _ _ _ _ hd1 hd2 m1 m2 hii v v' b hv hv' hb
theorem Sub.frz {i e k n : Nat} {g : Nat → Nat → DV} (hi : nth σ.tk i = some (.own e k n g)) : Sub σ { σ with tk:=setN σ.tk i (.frz k n g) }:=by
  intro I0 N w0 a w hs Y
  obtain ⟨I,β,τ,h⟩:=hs Y
  obtain ⟨I',h',_,_⟩:=freezeAll [Ef.k i (.frz k n g)] h (fun e' he' => by simp at he'; subst he'; exact ⟨i,k,n,g,rfl,.inl ⟨e,hi⟩⟩)
  refine ⟨I',β,τ,?_⟩
  have e1 : efK (nth σ.tk) [Ef.k i (.frz k n g)] = nth (setN σ.tk i (.frz k n g)):=by
    funext m
    simp only [efK,upd]
    exact (nth_setN _ _ _ _ (Nat.le_of_lt (nth_lt hi))).symm
  rw [← e1]; exact h'
theorem Sub.frzB {b : Nat} {xs : List SV} {ys : List DV} (hb : nth σ.bx b = some { frz:=false,xs:=xs }) (hd : allD xs = some ys) : Sub σ { σ with bx:=setN σ.bx b { frz:=true,xs:=xs } }:=by
  intro I0 N w0 a w hs Y
  obtain ⟨I,β,τ,h⟩:=hs Y
  obtain ⟨blk,cs,T,b1,b2,b3,b4,b5,b6,b7,b8⟩:=(h.box b _ hb).ex rfl
  have hlt:=(Array.getElem?_eq_some_iff.1 b3).1
  have hI : ∀ x,I x → (I x ∨ x = blk):=fun x hx => .inl hx
  have hM : ∀ {u x},Mt I β τ Y w u x → Mt (fun x => I x ∨ x = blk) β τ Y w u x:=fun hx => hx.mono hI (fun _ _ => rfl) (fun _ _ h => h) (fun _ _ h => h)
  have hnth : ∀ k c,nth (setN σ.bx b { frz:=true,xs:=xs }) k = some c → (k = b ∧ c = { frz:=true,xs:=xs }) ∨ (k ≠ b ∧ nth σ.bx k = some c):=by
    intro k c hk
    rw [nth_setN _ _ _ _ (Nat.le_of_lt (nth_lt hb))] at hk
    by_cases e : k = b
    · rw [if_pos e] at hk; exact .inl ⟨e,(Option.some.inj hk).symm⟩
    · rw [if_neg e] at hk; exact .inr ⟨e,hk⟩
  refine ⟨fun x => I x ∨ x = blk,β,τ,{ bs:=h.bs,sz:=h.sz,df:=h.df,hI:=fun x hx => ?_,i0:=fun x hx => ?_,env:=fun t => (h.env t).lift hM,box:=fun k c hk => ?_,bn:=fun k hk => ?_,inj:=h.inj,tok:=fun k c hk => ?_,kn:=h.kn,dis:=h.dis,bel:=h.bel }⟩
  · rcases hx with hx | rfl
    · exact h.hI x hx
    · exact hlt
  · rcases hx with hx | rfl
    · exact h.i0 x hx
    · exact .inr b2
  · rcases hnth k c hk with ⟨rfl,rfl⟩ | ⟨e,hk⟩
    · exact .mk' b1 b2 b3 b4 (fun j u x hu hx => hM (b5 j u x hu hx)) b6 (fun _ => .inr rfl) (fun hf => absurd hf (by simp))
    · refine (h.box k c hk).mono (fun _ h => h) (fun _ _ _ => rfl) (fun _ _ hx => hM hx) (fun b' _ hb' => ⟨fun h => .inl h,fun hx hc => ?_⟩)
      rcases hc with hc | hc
      · exact hx hc
      · exact e (h.inj _ _ _ hb' (hc ▸ b1))
  · refine h.bn k ?_
    have hk : nth (setN σ.bx b { frz:=true,xs:=xs }) k = none:=hk
    rw [nth_setN _ _ _ _ (Nat.le_of_lt (nth_lt hb))] at hk
    split at hk
    · cases hk
    · exact hk
  · have ht:=h.tok k c hk
    cases c with
    | own e kk n g =>
      obtain ⟨t1,v,xs',t2,t3,t4,t5,t6⟩:=ht
      refine ⟨t1,v,xs',t2,t3,t4,fun i j hi hj => ?_,fun blk' hb' => ?_⟩
      · obtain ⟨u,hu,hr⟩:=t5 i j hi hj
        exact ⟨u,hu,hr.mono hI (fun _ _ => rfl)⟩
      · obtain ⟨q1,q2⟩:=t6 blk' hb'
        refine ⟨fun hc => ?_,q2⟩
        rcases hc with hc | hc
        · exact q1 hc
        · exact q2 b (hc ▸ b1)
    | ownx e kk n g cx jx =>
      obtain ⟨t1,v,xs',t2,t3,t4,t5,t6⟩:=ht
      refine ⟨t1,v,xs',t2,t3,t4,fun i j hi hj => ?_,fun blk' hb' => ?_⟩
      · obtain ⟨u,hu,hr⟩:=t5 i j hi hj
        exact ⟨u,hu,hr.imp (fun q => q) (fun q => ⟨q.1,q.2.mono hI (fun _ _ => rfl)⟩)⟩
      · obtain ⟨q1,q2⟩:=t6 blk' hb'
        refine ⟨fun hc => ?_,q2⟩
        rcases hc with hc | hc
        · exact q1 hc
        · exact q2 b (hc ▸ b1)
    | frz kk n g =>
      obtain ⟨v,t1,t2,t3⟩:=ht
      exact ⟨v,t1,t2.mono hI (fun _ _ => rfl),t3⟩
    | dead => trivial
def frzT : TC → TC
  | .own _ k n g => .frz k n g
  | c => c
def frzAll (σ : Sy) : Sy:={ σ with tk:=σ.tk.map frzT }
theorem Sub.frzAll (σ : Sy) : Sub σ (frzAll σ):=by
  have key : ∀ (post pre : List TC),Sub { σ with tk:=pre ++ post } { σ with tk:=pre ++ post.map frzT }:=by
    intro post
    induction post with
    | nil => intro pre; exact .refl _
    | cons c r ih =>
      intro pre
      have h2 : ∀ (l : List TC) (x y : TC) (r : List TC),setN (l ++ x :: r) l.length y = l ++ y :: r:=by
        intro l x y r
        induction l with
        | nil => rfl
        | cons a l ih => simp [setN,ih]
      have step : Sub { σ with tk:=pre ++ c :: r } { σ with tk:=pre ++ frzT c :: r }:=by
        cases c with
        | own e k n g =>
          have:=Sub.frz (σ:={ σ with tk:=pre ++ .own e k n g :: r }) (i:=pre.length) (e:=e) (k:=k) (n:=n) (g:=g) (by rw [nth_eq]; simp)
          rw [h2] at this
          exact this
        | frz => exact .refl _
        | ownx => exact .refl _
        | dead => exact .refl _
      refine step.trans ?_
      have:=ih (pre ++ [frzT c])
      simpa using this
  exact key σ.tk []
end
section
variable {P : Program}
def args : Nat → List SV → List (Nat × SV)
  | _,[] => []
  | i,s :: r => (i,s) :: args (i + 1) r
theorem lk_args : ∀ (A : List SV) (i t : Nat),lk (args i A) t = if i ≤ t then (A[t - i]?).getD .any else .any
  | [],i,t => by simp [args,lk]
  | s :: r,i,t => by
    simp only [args,lk]
    by_cases e : i = t
    · subst e; simp
    · rw [if_neg e,lk_args r (i + 1) t]
      by_cases h : i ≤ t
      · rw [if_pos (by omega),if_pos h]
        have : t - i = (t - (i + 1)) + 1:=by omega
        rw [this]; simp
      · rw [if_neg (by omega),if_neg h]
def start (A : List SV) : Sy:={ env:=args 0 A,bx:=[],tk:=[] }
def celV (P : Program) (σ : Sy) (t : TypeId) : SV → Option SV
  | .p b o => match nth σ.bx b,ldT P t with
    | some c,some (ag,n) => if c.it.isNone = true ∧ o + n ≤ c.xs.length then some (rowV ag ((c.xs.drop o).take n)) else none
    | _,_ => none
  | _ => none
def resV (P : Program) (σ : Sy) : List ResultVar → Option (List SV)
  | [] => some []
  | .tmp t :: r => match resV P σ r with
    | some vs => some (ung (lk σ.env t) :: vs)
    | none => none
  | .cell a t :: r => match celV P σ t (lk σ.env a),resV P σ r with
    | some v,some vs => some (v :: vs)
    | _,_ => none
def resOK (P : Program) (rs : List ResultVar) (r : SV) (σ : Sy) : Prop :=
  match resV P σ rs with
  | some [s] => subV (frzAll σ) [] [] s r
  | some ss => subV (frzAll σ) [] [] (.tup ss) r
  | none => False
def retK (P : Program) (rs : List ResultVar) (r : SV) (e : Exit) (σ : Sy) : Prop :=
  match e with
  | .ret => resOK P rs r σ
  | .normal => resOK P rs r σ
  | _ => False
section
variable {I : Nat → Prop} {β : Nat → Option Nat} {τ : Nat → Option Value} {Y : Nat → Option Bool} {E : Nat → SV} {B : Nat → Option BC} {K : Nat → Option TC} {I0 : Nat → Prop} {N : Nat} {w0 w : World} {a : Act}
theorem celV_ok {σ : Sy} (h : InvX I β τ Y (lk σ.env) (nth σ.bx) K I0 N w0 a w) {t ad : Nat} {s : SV} (hc : celV P σ t (lk σ.env ad) = some s) :
    ∃ v,(do loadVar t (← asAddr (a.tmps.getD ad undef))).run P w = .ok v w ∧ Mt I β τ Y w v s:=by
  have hx:=h.env ad
  generalize lk σ.env ad = z at hc hx
  unfold celV at hc
  split at hc
  · rename_i b off
    split at hc
    · rename_i c ag n hb hl
      split at hc
      · rename_i hn
        simp at hc; subst hc
        obtain ⟨hit,hn⟩:=hn
        obtain ⟨blk,cs,T,b1,b2,b3,b4,b5,b6,b7,b8⟩:=(h.box b c hb).ex hit
        have hx:=hx.un (fun _ _ _ e => by cases e)
        have he : a.tmps.getD ad undef = .pointer (some ⟨blk,off,none⟩):=by
          generalize a.tmps.getD ad undef = v at hx
          cases hx with
          | p h => rw [b1] at h; cases h; rfl
        have hr:=run_load_row (P:=P) (w:=w) (b:=blk) (off:=off) hl (us:=(cs.toList.drop off).take n) (by simp; omega) (fun j v hv => by
          rw [cell_of_row w blk (off + j) cs T (0,0) b3]
          rw [List.getElem?_take] at hv
          split at hv
          · simpa using hv
          · cases hv)
        refine ⟨_,?_,mt_row (ag:=ag) (us:=(cs.toList.drop off).take n) (by simp; omega) (fun j u y hu hy => ?_) (fun u hu => ?_) (fun e => by have:=(ldT_spec hl).2.2 e; simp; omega)⟩
        · rw [he,← hr]
          simp only [Instr.loadAt,Instr.sureAddr,asAddr,Sem.run_bind,Sem.run_pure,Result.andThen_ok]
        · rw [List.getElem?_take] at hu hy
          split at hu
          · rename_i hj
            rw [if_pos hj] at hy
            exact b5 (off + j) u y (by simpa using hu) (by simpa using hy)
          · cases hu
        · exact b6 u (by have:=List.mem_of_mem_drop (List.mem_of_mem_take hu); simpa using this)
      · cases hc
    · cases hc
  · cases hc
theorem run_res {σ : Sy} (h : InvX I β τ Y (lk σ.env) (nth σ.bx) K I0 N w0 a w) : ∀ (rs : List ResultVar) (ss : List SV),resV P σ rs = some ss →
    ∃ vs : List Value,(rs.mapM (fun | .tmp t => pure (a.tmps.getD t undef) | .cell ad t => do loadVar t (← asAddr (a.tmps.getD ad undef)) : ResultVar → Sem Value)).run P w = .ok vs w ∧ vs.length = ss.length ∧
      ∀ (j : Nat) (u : Value) (s : SV),vs[j]? = some u → ss[j]? = some s → Mt I β τ Y w u s
  | [],ss,hr => by
    simp [resV] at hr; subst hr
    exact ⟨[],by simp,rfl,fun j u s hu => by simp at hu⟩
  | .tmp t :: r,ss,hr => by
    simp only [resV] at hr
    split at hr
    · rename_i vs0 h0
      simp at hr; subst hr
      obtain ⟨vs,h1,h2,h3⟩:=run_res h r vs0 h0
      refine ⟨a.tmps.getD t undef :: vs,?_,by simp [h2],fun j u s hu hs => ?_⟩
      · rw [List.mapM_cons]
        simp only [Sem.run_bind,Sem.run_pure,Result.andThen_ok,h1]
      · cases j with
        | zero =>
          rw [List.getElem?_cons_zero] at hu hs
          obtain rfl:=Option.some.inj hu
          obtain rfl:=Option.some.inj hs
          exact ung_ok (h.env t)
        | succ j => exact h3 j u s (by simpa using hu) (by simpa using hs)
    · cases hr
  | .cell ad t :: r,ss,hr => by
    simp only [resV] at hr
    split at hr
    · rename_i v0 vs0 hv0 h0
      simp at hr; subst hr
      obtain ⟨vs,h1,h2,h3⟩:=run_res h r vs0 h0
      obtain ⟨v,g1,g2⟩:=celV_ok h hv0
      refine ⟨v :: vs,?_,by simp [h2],fun j u s hu hs => ?_⟩
      · rw [List.mapM_cons]
        simp only [Sem.run_bind] at g1 ⊢
        rw [g1]
        simp only [Sem.run_pure,Result.andThen_ok,h1]
      · cases j with
        | zero => simp at hu hs; subst hu; subst hs; exact g2
        | succ j => exact h3 j u s (by simpa using hu) (by simpa using hs)
    · cases hr
end
theorem St.start {N : Nat} {A : List SV} {I : Nat → Prop} {w : World} {vs : Array Value} (hG : Glob.G w) (hI : ∀ b,I b → b < w.heap.size) (hl : vs.size = A.length) (hn : A.length ≤ N) (hA : ∀ (j : Nat) (u : Value) (s : SV),vs[j]? = some u → A[j]? = some s → RepS I w u s) :
    St (start A) I N w { tmps:=vs ++ Array.replicate (N - vs.size) undef,defers:=[] } w:=by
  intro Y
  have nk : ∀ {α : Type} (k : Nat) (c : α),nth ([] : List α) k = some c → False:=fun k c h => by simp [nth] at h
  refine ⟨I,fun _ => none,fun _ => none,{ bs:=hG,sz:=by simp; omega,df:=rfl,hI:=hI,i0:=fun b hb => .inl hb,env:=fun t => ?_,box:=fun k c hk => (nk k c hk).elim,bn:=fun _ _ => rfl,inj:=fun k k' b hb => absurd hb (by simp),tok:=fun k c hk => (nk k c hk).elim,kn:=fun _ _ => rfl,dis:=fun k k' c c' hk => (nk k _ hk).elim,bel:=Below.refl _ _ }⟩
  simp only [RX.start,lk_args,Nat.zero_le,if_true,Nat.sub_zero]
  rw [Array.getD_eq_getD_getElem?]
  by_cases ht : t < A.length
  · have h1 : A[t]? = some A[t]:=List.getElem?_eq_getElem ht
    have h2 : vs[t]? = some vs[t]:=Array.getElem?_eq_getElem (by omega)
    rw [Array.getElem?_append_left (by omega),h1,h2]
    exact .m (hA t _ _ h2 h1 Y)
  · rw [List.getElem?_eq_none (by omega)]
    exact .m .any
theorem res_fin {fn : Func} {N : Nat} {r : SV} {I0 : Nat → Prop} {w w' : World} {a' : Act} {σ' : Sy} (hk : resOK P fn.results.toList r σ') (hs : St σ' I0 N w a' w') :
    a'.defers = [] ∧ ∃ v,(results fn a'.tmps).run P w' = .ok v w' ∧ ∃ v',Ending.returned v = .returned v' ∧ RepS (fun b => I0 b ∨ (w.heap.size ≤ b ∧ b < w'.heap.size)) w' v' r ∧ Below w.heap.size w w':=by
  unfold resOK at hk
  have hs2:=Sub.frzAll σ' I0 N w a' w' hs
  obtain ⟨I',β,τ,hx⟩:=hs2 (fun _ => none)
  refine ⟨hx.df,?_⟩
  have conv : ∀ (v : Value) (s : SV),subV (RX.frzAll σ') [] [] s r → Mt I' β τ (fun _ => none) w' v s → RepS (fun b => I0 b ∨ (w.heap.size ≤ b ∧ b < w'.heap.size)) w' v r:=by
    intro v s hsub hm Y
    have h1:=subV_ok (rB:=[]) (rT:=[]) hx.tok _ _ _ hsub hm
    refine (h1.anyY Y).mono (fun b hb => ?_) (fun _ _ => rfl) (fun k b hk => by simp [βn,nth] at hk) (fun k b hk => by simp [τn,nth] at hk)
    rcases hx.i0 b hb with h | h
    · exact .inl h
    · exact .inr ⟨h,hx.hI b hb⟩
  have hxs : InvX I' β τ (fun _ => none) (lk σ'.env) (nth σ'.bx) (nth (RX.frzAll σ').tk) I0 N w a' w':=hx
  unfold results
  rw [Array.mapM_eq_mapM_toList]
  split at hk
  · rename_i s hr
    obtain ⟨vs',h1,h2,h3⟩:=run_res (P:=P) hxs _ _ hr
    obtain ⟨v,rfl⟩ : ∃ v,vs' = [v]:=by
      cases vs' with
      | nil => simp at h2
      | cons v l => cases l with
        | nil => exact ⟨v,rfl⟩
        | cons => simp at h2
    refine ⟨v,?_,v,rfl,?_,hx.bel⟩
    · simp only [Sem.run_bind,map_eq_pure_bind,h1,Result.andThen_ok]
      erw [h1]
      simp only [Result.andThen_ok,Sem.run_pure]
      rfl
    · exact conv v _ hk (h3 0 v s rfl rfl)
  · rename_i ss hne hr
    obtain ⟨vs',h1,h2,h3⟩:=run_res (P:=P) hxs _ _ hr
    refine ⟨.tuple vs'.toArray,?_,_,rfl,?_,hx.bel⟩
    · simp only [Sem.run_bind,map_eq_pure_bind,h1,Result.andThen_ok,Sem.run_pure]
      erw [h1]
      simp only [Result.andThen_ok]
      have hl : vs'.toArray.size ≠ 1:=by
        intro e
        have e' : ss.length = 1:=by rw [← h2]; simpa using e
        match ss,e' with
        | [s],_ => exact hne s rfl
      rw [dif_neg hl]
    · exact conv (.tuple vs'.toArray) (.tup ss) hk (.tup (by simp [h2]) (fun j u x hu hx' => h3 j u x (by simpa using hu) hx'))
  · exact hk.elim
theorem Ctr.of_body {f : FuncId} {fn : Func} {c : Code} {A : List SV} {r : SV} (hf : P.funcs[f]? = some fn) (hb : fn.body = some c) (hname : (fn.name == "runtime.NumGoroutine") = false) (hn : A.length ≤ fn.ntmps)
    (h : Ok P fn.ntmps c (start A) (retK P fn.results.toList r) (fun _ => False)) : Ctr P f A r:=by
  refine ⟨⟨fn,hf,hname,by simp [hb]⟩,fun I w vs hG hI hl hA => ?_⟩
  refine calls_of_wp hf hb ?_
  refine wp_mono (h I w _ w (St.start hG hI hl hn hA)) ?_
  intro e a' w' hq
  cases e with
  | ret => obtain ⟨σ',hk,hs⟩:=hq; exact res_fin hk hs
  | normal => obtain ⟨σ',hk,hs⟩:=hq; exact res_fin hk hs
  | panic ch => obtain ⟨d,hd,_⟩:=hq; exact hd.elim
  | _ => obtain ⟨σ',hk,hs⟩:=hq; exact hk.elim
theorem CtrP.of_body {f : FuncId} {fn : Func} {c : Code} {A : List SV} {d : DV} (hf : P.funcs[f]? = some fn) (hb : fn.body = some c) (hname : (fn.name == "runtime.NumGoroutine") = false) (hn : A.length ≤ fn.ntmps)
    (h : Ok P fn.ntmps c (start A) (fun _ _ => False) (fun d' => DEq d' d)) : CtrP P f A d:=by
  refine ⟨⟨fn,hf,hname,by simp [hb]⟩,fun I w vs hG hI hl hA => ?_⟩
  refine calls_of_wp hf hb ?_
  refine wp_mono (h I w _ w (St.start hG hI hl hn hA)) ?_
  intro e a' w' hq
  cases e with
  | panic ch =>
    obtain ⟨d',hd,hdf,⟨v,I',rfl,h1,h2,h3⟩,hbel⟩:=hq
    exact ⟨hdf,v,I',rfl,h1,fun b hb => (h2 b hb),hd _ _ _ h3,hbel⟩
  | _ => obtain ⟨σ',hk,hs⟩:=hq; exact hk.elim
theorem Ctr.sub {f : FuncId} {A : List SV} {r r' : SV} (h : Ctr P f A r) (hr : subV { env:=[],bx:=[],tk:=[] } [] [] r r') : Ctr P f A r':=by
  refine ⟨h.1,fun I w vs hG hI hl hA => (h.2 I w vs hG hI hl hA).mono ?_⟩
  rintro e w' ⟨v,rfl,hv,hb⟩
  refine ⟨v,rfl,fun Y => ?_,hb⟩
  have:=subV_ok (I:=fun b => I b ∨ (w.heap.size ≤ b ∧ b < w'.heap.size)) (β:=fun _ => none) (τ:=fun _ => none) (Y:=Y) (n0:=0) (w:=w') (rB:=[]) (rT:=[]) (fun k c hk => by simp [nth] at hk) _ _ v hr (hv Y)
  exact this.mono (fun _ h => h) (fun _ _ => rfl) (fun k b hk => by simp [βn,nth] at hk) (fun k b hk => by simp [τn,nth] at hk)
end
end Go.RX
