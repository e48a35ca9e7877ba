/-
  The program's functions,contracts: what each one returns,whatever the world: part 15. No condition.
-/
import Derived.Test.YtchnganlpgfdjaaGreatDoorB00
import Derived.Test.YtchnganlpgfdjaaGreatDoorB01
import Derived.Test.YtchnganlpgfdjaaGreatDoorB02
import Derived.Test.YtchnganlpgfdjaaGreatDoorB03
import Derived.Test.YtchnganlpgfdjaaGreatDoorB04
import Derived.Test.YtchnganlpgfdjaaGreatDoorB05
import Derived.Test.YtchnganlpgfdjaaGreatDoorB06
import Derived.Test.YtchnganlpgfdjaaGreatDoorB07
import Derived.Test.YtchnganlpgfdjaaGreatDoorB08
import Derived.Test.YtchnganlpgfdjaaGreatDoorB09
import Derived.Test.YtchnganlpgfdjaaGreatDoorB10
import Derived.Test.YtchnganlpgfdjaaGreatDoorB11
import Derived.Test.YtchnganlpgfdjaaGreatDoorB12
import Derived.Test.YtchnganlpgfdjaaGreatDoorB13
set_option linter.all false
set_option linter.unusedVariables false
set_option linter.unusedSectionVars false
set_option linter.unusedSimpArgs false
set_option linter.unnecessarySimpa false
namespace Go.RX
open Go Go.RowKit
variable [Glob]
def yv (ops : List Oper) (V : Nat → SV) : Nat → Nat → Option Bool
  | 0,_ => none
  | f + 1,j => match V j with
    | .d (.bool b) => some b
    | .gd j' w' (.d (.bool b)) => if gdOf ops j = some (j',w') then (if yv ops V f j' = some w' then some b else none) else none
    | _ => none
def vAt (ops : List Oper) (ev : Nat → Ev) (j : Nat) : SV:=match nth ops j with | some o => vOf o (ev j).v | none => .any
structure Static (N : Nat) (ops : List Oper) : Prop where
  dst : ∀ i o d,nth ops i = some o → o.dst = some d → d < N
  uniq : ∀ i j d,dstOf ops i = some d → dstOf ops j = some d → i = j
  gd : ∀ i j w,gdOf ops i = some (j,w) → j < i
  edge : ∀ i o e,nth ops i = some o → e ∈ o.after → Region.binds .any e = true → e.on < i
  pick : ∀ i o c x y j,nth ops i = some o → o.op = .pick (.tmp c) x y → dstOf ops j = some c → j < i
theorem dstOf_some {ops : List Oper} {i d : Nat} (h : dstOf ops i = some d) : ∃ o,nth ops i = some o ∧ o.dst = some d:=by
  unfold dstOf at h
  cases ho : nth ops i with
  | none => simp [ho] at h
  | some o => exact ⟨o,rfl,by simpa [ho] using h⟩
theorem Static.of {N : Nat} {ops : List Oper} (h : regOK N ops = true) : Static N ops:=by
  have key : ∀ i o,nth ops i = some o → i < ops.length ∧
      (match o.dst with | some d => decide (d < N) && (List.range i).all (fun j => !(dstOf ops j == some d)) | none => true) = true ∧
      (match o.guard with | some (j,_) => decide (j < i) | none => true) = true ∧
      o.after.toList.all (fun e => !Region.binds .any e || decide (e.on < i)) = true ∧
      (match o.op with | .pick (.tmp c) _ _ => (List.range ops.length).all (fun j => decide (j < i) || !(dstOf ops j == some c)) | _ => true) = true:=by
    intro i o ho
    have hi:=nth_lt ho
    unfold regOK at h
    rw [List.all_eq_true] at h
    have:=h i (List.mem_range.2 hi)
    simp only [ho,Bool.and_eq_true] at this
    exact ⟨hi,this.1.1.1,this.1.1.2,this.1.2,this.2⟩
  have huniq : ∀ i j d,j < i → dstOf ops i = some d → dstOf ops j = some d → False:=by
    intro i j d hij hi hj
    obtain ⟨o,ho,hd⟩:=dstOf_some hi
    obtain ⟨_,h1,_⟩:=key i o ho
    simp only [hd,Bool.and_eq_true,decide_eq_true_eq,List.all_eq_true,List.mem_range] at h1
    have:=h1.2 j hij
    simp [hj] at this
  refine ⟨fun i o d ho hd => ?_,fun i j d hi hj => ?_,fun i j w hg => ?_,fun i o e ho he hb => ?_,fun i o c x y j ho hp hj => ?_⟩
  · obtain ⟨_,h1,_⟩:=key i o ho
    simp only [hd,Bool.and_eq_true,decide_eq_true_eq] at h1
    exact h1.1
  · rcases Nat.lt_trichotomy i j with h | h | h
    · exact (huniq j i d h hj hi).elim
    · exact h
    · exact (huniq i j d h hi hj).elim
  · unfold gdOf at hg
    cases ho : nth ops i with
    | none => simp [ho] at hg
    | some o =>
      simp only [ho] at hg
      obtain ⟨_,_,h2,_⟩:=key i o ho
      simpa [hg] using h2
  · obtain ⟨_,_,_,h3,_⟩:=key i o ho
    rw [List.all_eq_true] at h3
    have:=h3 e (Array.mem_toList_iff.2 he)
    simpa [hb] using this
  · obtain ⟨_,_,_,_,h4⟩:=key i o ho
    simp only [hp,List.all_eq_true,List.mem_range] at h4
    obtain ⟨o',ho',_⟩:=dstOf_some hj
    have:=h4 j (nth_lt ho')
    simpa [hj] using this
section
variable {P : Program} {Kp : DV → Prop} {pn : Nat → Bool} {ops : List Oper} {S : Nat → Sy} {ev : Nat → Ev} {N : Nat}
theorem yv_more (hs : Static N ops) (V : Nat → SV) : ∀ (j f : Nat),j < f → yv ops V f j = yv ops V (j + 1) j:=by
  intro j
  induction j using Nat.strongRecOn with
  | ind j ih =>
    intro f hf
    obtain ⟨f,rfl⟩ : ∃ g,f = g + 1:=⟨f - 1,by omega⟩
    simp only [yv]
    split
    · rfl
    · rename_i j' w' b _
      by_cases hg : gdOf ops j = some (j',w')
      · have hlt:=hs.gd _ _ _ hg
        rw [if_pos hg,if_pos hg,ih j' hlt f (by omega),ih j' hlt j hlt]
      · rw [if_neg hg,if_neg hg]
    · rfl
def Yf (ops : List Oper) (ev : Nat → Ev) (j : Nat) : Option Bool:=yv ops (vAt ops ev) (j + 1) j
theorem Yf_eq (hs : Static N ops) (j : Nat) : Yf ops ev j = match vAt ops ev j with
    | .d (.bool b) => some b
    | .gd j' w' (.d (.bool b)) => if gdOf ops j = some (j',w') then (if Yf ops ev j' = some w' then some b else none) else none
    | _ => none:=by
  unfold Yf
  rw [yv]
  split
  · rfl
  · rename_i j' w' b h
    by_cases hg : gdOf ops j = some (j',w')
    · have hlt:=hs.gd _ _ _ hg
      rw [if_pos hg,if_pos hg,yv_more hs _ j' j hlt]
    · rw [if_neg hg,if_neg hg]
  · rfl
theorem env_at (hs : Static N ops) (hS : Tr P Kp ops S ev pn) {j i t : Nat} (hj : dstOf ops j = some t) (hij : j < i) (hi : i ≤ ops.length) : lk (S i).env t = vAt ops ev j:=by
  obtain ⟨o,ho,hd⟩:=dstOf_some hj
  have h1 : (S i).at_ (.t t) = (S (j + 1)).at_ (.t t):=by
    refine seg hS i (by omega) hi (fun k h1 h2 => ?_)
    obtain ⟨o',ho'⟩:=nth_of_lt (l:=ops) (i:=k) (by omega)
    rw [wr_none ho',(mem_ws).1]
    intro hd'
    have:=hs.uniq j k t hj (by simp [dstOf,ho',hd'])
    omega
  simp only [Sy.at_,RV.t.injEq] at h1
  rw [h1,(hS j o ho).hs,put_env,if_pos hd]
  simp [vAt,ho]
theorem act_ok (hs : Static N ops) (hS : Tr P Kp ops S ev pn) {i : Nat} (hi : i ≤ ops.length) : ∀ (f j : Nat) (w : Bool) (c : Bool),j < i → act ops (S i) f (j,w) = some c → (c = true ↔ Yf ops ev j = some w):=by
  intro f
  induction f with
  | zero => intro j w c _ h; cases h
  | succ f ih =>
    intro j w c hj h
    simp only [act] at h
    split at h
    · rename_i t ht
      rw [env_at hs hS ht hj hi] at h
      rw [Yf_eq hs j]
      split at h
      · rename_i b hv
        simp only [Option.some.injEq] at h
        subst h
        simp [hv]
      · rename_i j' w' b hv
        split at h
        · rename_i hg
          split at h
          · rename_i c' hc'
            simp only [Option.some.injEq] at h
            subst h
            have:=ih j' w' c' (by have:=hs.gd _ _ _ hg; omega) hc'
            simp only [hv,if_pos hg]
            by_cases hy : Yf ops ev j' = some w'
            · simp [hy,this.2 hy]
            · have : c' = false:=by cases c' <;> simp_all
              simp [hy,this]
          · cases h
        · cases h
      · cases h
    · cases h
theorem chain (hs : Static N ops) {j : Nat} {w : Bool} (hY : Yf ops ev j = some w) : ∀ g,gdOf ops j = some g → Yf ops ev g.1 = some g.2:=by
  intro g hg
  rw [Yf_eq hs j] at hY
  have hv : vAt ops ev j = .gd g.1 g.2 (ev j).v:=by
    unfold gdOf at hg
    cases ho : nth ops j with
    | none => simp [ho] at hg
    | some o => simp only [ho] at hg; simp [vAt,ho,vOf,hg]
  rw [hv] at hY
  split at hY
  · rename_i h; exact absurd h (by simp)
  · rename_i j' w' b h
    simp only [SV.gd.injEq] at h
    obtain ⟨rfl,rfl,_⟩:=h
    by_cases hq : Yf ops ev g.1 = some g.2
    · exact hq
    · simp [hq] at hY
  · exact absurd hY (by simp)
section
variable {I : Nat → Prop} {β : Nat → Option Nat} {τ : Nat → Option Value} {w : World}
theorem strip_ok (hs : Static N ops) : ∀ (f : Nat) (g : Option (Nat × Bool)) (v : Value) (s : SV),(∀ g',g = some g' → Yf ops ev g'.1 = some g'.2) → MtG I β τ (Yf ops ev) w v s → MtG I β τ (Yf ops ev) w v (strip ops f g s)
  | 0,g,v,s,_,h => by cases g <;> exact h
  | f + 1,none,v,s,_,h => h
  | f + 1,some (j0,w0),v,s,hg,h => by
    have h0:=hg _ rfl
    cases s with
    | gd j b x =>
      rw [strip]
      split
      · rename_i e
        obtain ⟨rfl,rfl⟩:=e
        cases h with
        | m h => cases h
        | gdT _ hm => exact hm
        | gdF hn => exact absurd h0 hn
      · exact strip_ok hs f _ v _ (fun g' hg' => chain hs h0 g' hg') h
    | _ => exact h
theorem ung_ok {Y : Nat → Option Bool} {v : Value} {s : SV} (h : MtG I β τ Y w v s) : Mt I β τ Y w v (ung s):=by
  cases s with
  | gd j b x => exact .any
  | _ => exact h.un (fun _ _ _ e => by cases e)
end
end
end Go.RX
