/-
  The theorem of checks: SightSpoilt returns true at every input,and leaves it as it was.
  No condition beside those that the statement itself names.
-/
import Derived.Test.YtchnganlpgfdjaaGreatDoorB00
import Derived.Test.YtchnganlpgfdjaaGreatDoorB01
import Derived.Test.YtchnganlpgfdjaaGreatDoorB02
import Derived.Test.YtchnganlpgfdjaaGreatDoorB03
import Derived.Test.YtchnganlpgfdjaaGreatDoorB04
import Derived.Test.YtchnganlpgfdjaaGreatDoorB05
import Derived.Test.YtchnganlpgfdjaaGreatDoorB06
import Derived.Test.YtchnganlpgfdjaaGreatDoorB07
import Derived.Test.YtchnganlpgfdjaaGreatDoorB08
import Derived.Test.YtchnganlpgfdjaaGreatDoorB09
import Derived.Test.YtchnganlpgfdjaaGreatDoorB10
import Derived.Test.YtchnganlpgfdjaaGreatDoorB11
import Derived.Test.YtchnganlpgfdjaaGreatDoorB12
import Derived.Test.YtchnganlpgfdjaaGreatDoorB13
import Derived.Test.YtchnganlpgfdjaaGreatDoorB14
import Derived.Test.YtchnganlpgfdjaaGreatDoorB15
import Derived.Test.YtchnganlpgfdjaaGreatDoorB16
import Derived.Test.YtchnganlpgfdjaaGreatDoorB17
import Derived.Test.YtchnganlpgfdjaaGreatDoorB18
import Derived.Test.YtchnganlpgfdjaaGreatDoorB19
import Derived.Test.YtchnganlpgfdjaaGreatDoorB20
import Derived.Test.YtchnganlpgfdjaaGreatDoorB21
import Derived.Test.YtchnganlpgfdjaaGreatDoorB22
import Derived.Test.YtchnganlpgfdjaaGreatDoorB23
import Derived.Test.YtchnganlpgfdjaaGreatDoorB24
import Derived.Test.YtchnganlpgfdjaaGreatDoorB25
import Derived.Test.YtchnganlpgfdjaaGreatDoorB26
import Derived.Defers
import Derived.Recover
import Derived.Laws.StructEq
import Derived.Lib.ConvBytes
import Derived.OpenShut
import Derived.Deep.Slices
import Derived.Deep.Strs
import Derived.Lib.SmallJoins
import Derived.Test.YtchnganlpgfdjaaGreatDoorRows
import Derived.Test.YtchnganlpgfdjaaGreatDoorTie
import Derived.Test.YtchnganlpgfdjaaGreatDoorCards
import Derived.ProofKit
import Derived.LaidMore
import Derived.Lay
import Derived.LaidOnce
import Derived.SevenTiedAt
import Derived.Shelf.Vars
import Derived.Carry
import Derived.HandedShaped
import Derived.Stop.LaidErr
import Derived.ChangeCalls
import Derived.ChangeMaps5
set_option linter.all false
set_option linter.unusedVariables false
set_option linter.unusedSectionVars false
set_option linter.unusedSimpArgs false
set_option linter.unnecessarySimpa false
namespace Go.Proofs.Sight
open Go Go.RX Go.Proofs
set_option maxRecDepth 10000
attribute [go_sem] storeX
abbrev noT (w : List UInt8) : DV:=.ifc 139 1 (dget [.str w])
theorem c135_ifno {b : Bool} (h : b = false) (why : List UInt8) : CtrP Tryz.prog 108 [bS b,.d (.str why)] (noT why):=by
  subst h; exact c135_no why
theorem decode_none (l : List UInt8) (p : Nat) (hp : p < l.length) (h : digit (l.getD p 0) = false) : ¬ (48 ≤ (Utf8.decode ⟨l.toArray⟩ p).1 ∧ (Utf8.decode ⟨l.toArray⟩ p).1 ≤ 57):=by
  have hb : (ByteArray.get! ⟨l.toArray⟩ (p + 0)) = l.getD p 0:=by
    show (l.toArray)[p + 0]! = _
    rw [Nat.add_zero,getElem!_pos l.toArray p (by simpa using hp),getD0,getD_lt hp]
    simp
  have hd : ¬ (48 ≤ (l.getD p 0).toNat ∧ (l.getD p 0).toNat ≤ 57):=by
    intro hh
    simp only [digit,Bool.and_eq_false_iff,decide_eq_false_iff_not] at h
    omega
  have hr : Utf8.runeError = 65533:=rfl
  unfold Utf8.decode
  simp only [hb]
  generalize (l.getD p 0).toNat = b at hd
  (repeat' split) <;> (try simp only [Bool.and_eq_true,decide_eq_true_eq,ge_iff_le] at *) <;> (try dsimp only) <;> omega
theorem numL_lt' (l : List UInt8) : ∀ i,(∀ k,k < i → digit (l.getD k 0) = true) → i ≤ l.length → numL (l.take i) < 10 ^ i
  | 0,_,_ => by simp [numL]
  | i + 1,h,hi => by
    have ih:=numL_lt' l i (fun k hk => h k (by omega)) (by omega)
    have hd:=h i (by omega)
    simp only [digit,Bool.and_eq_true,decide_eq_true_eq] at hd
    rw [getD_take (by omega),numL_snoc,Nat.pow_succ]
    have : (l.getD i default).toNat = (l.getD i 0).toNat:=rfl
    omega
theorem stop_at {w : List UInt8} (h : ¬ isNum w) : ∃ k0,k0 ≤ w.length ∧ (∀ k,k < k0 → digit (w.getD k 0) = true) ∧ (0 < k0 → w.length ≤ 3) ∧
    ((k0 < w.length ∧ (digit (w.getD k0 0) = false ∨ 3 < w.length)) ∨ (k0 = w.length ∧ (w = [] ∨ Lib.itoa (numL w) ≠ w))):=by
  by_cases hl : 3 < w.length
  · exact ⟨0,by omega,fun k hk => by omega,fun h => by omega,.inl ⟨by omega,.inr hl⟩⟩
  · cases hf : w.findIdx? (fun b => !digit b) with
    | some k0 =>
      obtain ⟨h1,h2,h3⟩:=List.findIdx?_eq_some_iff_getElem.1 hf
      refine ⟨k0,by omega,fun k hk => ?_,fun _ => by omega,.inl ⟨h1,.inl ?_⟩⟩
      · rw [getD0,getD_lt (by omega)]
        simpa using h3 k hk
      · rw [getD0,getD_lt h1]; simpa using h2
    | none =>
      have h0:=List.findIdx?_eq_none_iff.1 hf
      have hd : ∀ b ∈ w,digit b = true:=fun b hb => by simpa using h0 b hb
      refine ⟨w.length,Nat.le_refl _,fun k hk => hd _ (getD_mem hk),fun _ => by omega,.inr ⟨rfl,?_⟩⟩
      by_cases hw : w = []
      · exact .inl hw
      · exact .inr (fun e => h ⟨hw,hd,by omega,e⟩)
theorem c136_cnt (ws : List (List UInt8)) (n : Int) (hn : (ws.length : Int) ≠ n) : CtrP Tryz.prog 109 [.d (strsD ws),iS n] (noT [110,117,109,98,101,114,115]):=by
  (refine CtrP.mk (fn:=Tryz.f109) rfl rfl rfl rfl rfl ?_; dsimp only [args])
  ((first | refine qS rfl rfl ?_ | refine qR rfl rfl ?_); simp only [go_sem,↓dP,↓reduceIte]; with_reducible and_intros; all_goals first | apply qA | exact ⟨⟩ | rfl | (intros; apply qB; first | kernel_rfl | omega) | omega | skip)
  ((first | refine qS rfl rfl ?_ | refine qR rfl rfl ?_); simp only [go_sem,↓dP,↓reduceIte]; with_reducible and_intros; all_goals first | apply qA | exact ⟨⟩ | rfl | (intros; apply qB; first | kernel_rfl | omega) | omega | skip)
  (refine AskI.pan (c135_ifno (by simpa using hn) _) ?_; simp only [go_sem,↓dP,↓reduceIte]; with_reducible and_intros; all_goals first | apply qA | exact ⟨⟩ | rfl | (intros; apply qB; first | kernel_rfl | omega) | omega | skip)
  exact .refl _
theorem c136_bad (ws : List (List UInt8)) (i0 : Nat) (hi0 : i0 < ws.length) (hok : ∀ w ∈ ws.take i0,isNum w) (hbad : ¬ isNum (ws.getD i0 default)) (hl : ws.length ≤ 1000) :
    CtrP Tryz.prog 109 [.d (strsD ws),iS ws.length] (noT (ws.getD i0 default)):=by
  (refine CtrP.mk (fn:=Tryz.f109) rfl rfl rfl rfl rfl ?_; dsimp only [args])
  ((first | refine qS rfl rfl ?_ | refine qR rfl rfl ?_); simp only [go_sem,↓dP,↓reduceIte]; with_reducible and_intros; all_goals first | apply qA | exact ⟨⟩ | rfl | (intros; apply qB; first | kernel_rfl | omega) | omega | skip)
  ((first | refine qS rfl rfl ?_ | refine qR rfl rfl ?_); simp only [go_sem,↓dP,↓reduceIte]; with_reducible and_intros; all_goals first | apply qA | exact ⟨⟩ | rfl | (intros; apply qB; first | kernel_rfl | omega) | omega | skip)
  (refine AskI.ret (c135_ok _) ?_; simp only [go_sem,↓dP,↓reduceIte]; with_reducible and_intros; all_goals first | apply qA | exact ⟨⟩ | rfl | (intros; apply qB; first | kernel_rfl | omega) | omega | skip)
  ((first | refine qS rfl rfl ?_ | refine qR rfl rfl ?_); simp only [go_sem,↓dP,↓reduceIte]; with_reducible and_intros; all_goals first | apply qA | exact ⟨⟩ | rfl | (intros; apply qB; first | kernel_rfl | omega) | omega | skip)
  refine Ok.seq ?_
  ((first | refine qS rfl rfl ?_ | refine qR rfl rfl ?_); simp only [go_sem,↓dP,↓reduceIte]; with_reducible and_intros; all_goals first | apply qA | exact ⟨⟩ | rfl | (intros; apply qB; first | kernel_rfl | omega) | omega | skip)
  refine Ok.block ?_
  refine Ok.count i0 (fun i => ⟨[(5,.tk 0),(16,.d (strsD ws)),(17,iS ws.length),(18,iS i)],[],[ownD 3 1 natD ((ws.take i).map numL)]⟩) (fun _ => True) ⟨trivial,?_⟩ ?_ ?_
  · (refine Sub.of ([]) ([none]) ?_ ?_ ?_ rfl rfl <;> simp only [subB,subB1,subT,subT1,newT,subE,subV,subL,go_sem,↓dP,↓reduceIte] <;> (try (repeat' with_reducible apply And.intro)) <;> (try first | exact DEq.refl _ | refine DEq.int ?_ | refine DEq.bool ?_ | omega))
  · intro i hi' _
    have hi : i < ws.length:=by omega
    have hlen:=map_len numL (l:=ws) (i:=i) (by omega)
    have hsn:=map_snoc numL hi
    obtain ⟨hne,hdig,hl3,hit⟩:=hok _ (at_take hi' hi)
    generalize hW : ws.getD i default = w at hne hdig hl3 hit hsn
    (((first | refine qS rfl rfl ?_ | refine qR rfl rfl ?_); simp only [go_sem,↓dP,↓reduceIte]; with_reducible and_intros; all_goals first | apply qA | exact ⟨⟩ | rfl | (intros; apply qB; first | kernel_rfl | omega) | omega | skip)); refine Ok.seq ?_; refine Ok.cond rfl (fun _ => ?_) (fun hb => by simp at hb; omega); (refine Ok.skip ?_; (try dsimp only [thenK,blockK,noGotoK])); refine Ok.seq ?_; refine Ok.block ?_
    ((first | refine qS rfl rfl ?_ | refine qR rfl rfl ?_); simp only [go_sem,↓dP,↓reduceIte]; with_reducible and_intros; all_goals first | apply qA | exact ⟨⟩ | rfl | (intros; apply qB; first | kernel_rfl | omega) | omega | skip)
    rw [hW]
    ((first | refine qS rfl rfl ?_ | refine qR rfl rfl ?_); simp only [go_sem,↓dP,↓reduceIte]; with_reducible and_intros; all_goals first | apply qA | exact ⟨⟩ | rfl | (intros; apply qB; first | kernel_rfl | omega) | omega | skip)
    refine Ok.seq ?_
    ((first | refine qS rfl rfl ?_ | refine qR rfl rfl ?_); simp only [go_sem,↓dP,↓reduceIte]; with_reducible and_intros; all_goals first | apply qA | exact ⟨⟩ | rfl | (intros; apply qB; first | kernel_rfl | omega) | omega | skip)
    refine Ok.block ?_
    refine Ok.count w.length (fun k => ⟨[(5,.tk 0),(7,.d (.str w)),(8,iS (numL (w.take k) : Nat)),(16,.d (strsD ws)),(17,iS ws.length),(18,iS i),(23,.p 0 0)],[{ frz:=false,xs:=[],it:=some (w,k) }],[ownD 3 1 natD ((ws.take i).map numL)]⟩) (fun _ => True) ⟨trivial,?_⟩ ?_ ?_
    · (refine Sub.of ([0]) ([some 0]) ?_ ?_ ?_ rfl rfl <;> simp only [subB,subB1,subT,subT1,newT,subE,subV,subL,go_sem,↓dP,↓reduceIte] <;> (try (repeat' with_reducible apply And.intro)) <;> (try first | exact DEq.refl _ | refine DEq.int ?_ | refine DEq.bool ?_ | omega))
      exact fun _ _ _ _ => DEq.refl _
    · intro k hk _
      have hd : digit (w.getD k 0) = true:=hdig _ (getD_mem hk)
      have hdec:=decode_digit w k hk hd
      ((first | refine qS rfl rfl ?_ | refine qR rfl rfl ?_); simp only [go_sem,↓dP,↓reduceIte]; with_reducible and_intros; all_goals first | apply qA | exact ⟨⟩ | rfl | (intros; apply qB; first | kernel_rfl | omega) | omega | skip)
      rw [if_pos hk,hdec]
      (simp only [go_sem,↓dP,↓reduceIte]; with_reducible and_intros; all_goals first | apply qA | exact ⟨⟩ | rfl | (intros; apply qB; first | kernel_rfl | omega) | omega | skip)
      refine Ok.seq ?_
      refine Ok.cond (b:=true) (by first | rfl | (simp only [go_sem,↓dP,↓reduceIte]; rfl)) (fun _ => ?_) (fun hb => by cases hb)
      (refine Ok.skip ?_; (try dsimp only [thenK,blockK,noGotoK]))
      refine Ok.block ?_
      ((first | refine qS rfl rfl ?_ | refine qR rfl rfl ?_); simp only [go_sem,↓dP,↓reduceIte]; with_reducible and_intros; all_goals first | apply qA | exact ⟨⟩ | rfl | (intros; apply qB; first | kernel_rfl | omega) | omega | skip)
      ((first | refine qS rfl rfl ?_ | refine qR rfl rfl ?_); simp only [go_sem,↓dP,↓reduceIte]; with_reducible and_intros; all_goals first | apply qA | exact ⟨⟩ | rfl | (intros; apply qB; first | kernel_rfl | omega) | omega | skip)
      simp only [digit,Bool.and_eq_true,decide_eq_true_eq] at hd
      have hnl:=numL_lt w k hdig (by omega)
      have hpow : 10 ^ k ≤ 100:=by
        have:=Nat.pow_le_pow_right (n:=10) (by decide) (show k ≤ 2 by omega)
        simpa using this
      have hns : numL (w.take (k + 1)) = 10 * numL (w.take k) + ((w.getD k 0).toNat - 48):=by rw [getD_take hk,numL_snoc]; rfl
      generalize hB : (w.getD k 0).toNat = b at hd hns
      (refine AskI.ret (c135_if (by simp only [hB,Bool.and_eq_true,decide_eq_true_eq]; omega) _) ?_; simp only [go_sem,↓dP,↓reduceIte]; with_reducible and_intros; all_goals first | apply qA | exact ⟨⟩ | rfl | (intros; apply qB; first | kernel_rfl | omega) | omega | skip)
      ((first | refine qS rfl rfl ?_ | refine qR rfl rfl ?_); simp only [go_sem,↓dP,↓reduceIte]; with_reducible and_intros; all_goals first | apply qA | exact ⟨⟩ | rfl | (intros; apply qB; first | kernel_rfl | omega) | omega | skip)
      · exact R32 (by omega) (by omega)
      (try dsimp only [thenK,blockK,noGotoK])
      refine ⟨trivial,?_⟩
      (refine Sub.of ([0]) ([some 0]) ?_ ?_ ?_ rfl rfl <;> simp only [subB,subB1,subT,subT1,newT,subE,subV,subL,go_sem,↓dP,↓reduceIte] <;> (try (repeat' with_reducible apply And.intro)) <;> (try first | exact DEq.refl _ | refine DEq.int ?_ | refine DEq.bool ?_ | omega))
      all_goals first | (exact fun _ _ _ _ => DEq.refl _) | (rw [hns]; omega)
    · intro _
      ((first | refine qS rfl rfl ?_ | refine qR rfl rfl ?_); simp only [go_sem,↓dP,↓reduceIte]; with_reducible and_intros; all_goals first | apply qA | exact ⟨⟩ | rfl | (intros; apply qB; first | kernel_rfl | omega) | omega | skip)
      rw [if_neg (by omega)]
      (simp only [go_sem,↓dP,↓reduceIte]; with_reducible and_intros; all_goals first | apply qA | exact ⟨⟩ | rfl | (intros; apply qB; first | kernel_rfl | omega) | omega | skip)
      refine Ok.seq ?_
      refine Ok.cond (b:=false) (by first | rfl | (simp only [go_sem,↓dP,↓reduceIte]; rfl)) (fun hb => by cases hb) (fun _ => ?_)
      (refine Ok.exit ?_; simp only [thenK_exit,blockK_exit,noGotoK_exit,thenK_normal,blockK_normal,noGotoK_normal,↓reduceIte,Nat.reduceEqDiff])
      have hnl:=numL_lt w w.length hdig (Nat.le_refl _)
      rw [List.take_length] at hnl
      have hpow : 10 ^ w.length ≤ 1000:=Nat.pow_le_pow_right (by decide) hl3
      rw [List.take_length]
      ((first | refine qS rfl rfl ?_ | refine qR rfl rfl ?_); simp only [go_sem,↓dP,↓reduceIte]; with_reducible and_intros; all_goals first | apply qA | exact ⟨⟩ | rfl | (intros; apply qB; first | kernel_rfl | omega) | omega | skip)
      (refine AskGI.ret (fun _ => c132 _ (by omega) (by omega)) ?_; simp only [go_sem,↓dP,↓reduceIte]; with_reducible and_intros; all_goals first | apply qA | exact ⟨⟩ | rfl | (intros; apply qB; first | kernel_rfl | omega) | omega | skip)
      rw [hit]
      (refine AskI.ret (c135_if (by simp [hne]) _) ?_; simp only [go_sem,↓dP,↓reduceIte]; with_reducible and_intros; all_goals first | apply qA | exact ⟨⟩ | rfl | (intros; apply qB; first | kernel_rfl | omega) | omega | skip)
      ((first | refine qS rfl rfl ?_ | refine qR rfl rfl ?_); simp only [go_sem,↓dP,↓reduceIte]; with_reducible and_intros; all_goals first | apply qA | exact ⟨⟩ | rfl | (intros; apply qB; first | kernel_rfl | omega) | omega | skip)
      (try dsimp only [thenK,blockK,noGotoK])
      ((first | refine qS rfl rfl ?_ | refine qR rfl rfl ?_); simp only [go_sem,↓dP,↓reduceIte]; with_reducible and_intros; all_goals first | apply qA | exact ⟨⟩ | rfl | (intros; apply qB; first | kernel_rfl | omega) | omega | skip)
      (try dsimp only [thenK,blockK,noGotoK])
      refine ⟨trivial,?_⟩
      (refine Sub.of ([]) ([some 1]) ?_ ?_ ?_ rfl rfl <;> simp only [subB,subB1,subT,subT1,newT,subE,subV,subL,go_sem,↓dP,↓reduceIte] <;> (try (repeat' with_reducible apply And.intro)) <;> (try first | exact DEq.refl _ | refine DEq.int ?_ | refine DEq.bool ?_ | omega))
      · rw [hsn]; simp
      · rw [hsn]
        exact snoc_D (fun c hc => by have : c = 0:=by omega
                                     subst this; rfl)
  · intro _
    generalize hW : ws.getD i0 default = w at hbad
    (((first | refine qS rfl rfl ?_ | refine qR rfl rfl ?_); simp only [go_sem,↓dP,↓reduceIte]; with_reducible and_intros; all_goals first | apply qA | exact ⟨⟩ | rfl | (intros; apply qB; first | kernel_rfl | omega) | omega | skip)); refine Ok.seq ?_; refine Ok.cond rfl (fun _ => ?_) (fun hb => by simp at hb; omega); (refine Ok.skip ?_; (try dsimp only [thenK,blockK,noGotoK])); refine Ok.seq ?_; refine Ok.block ?_
    ((first | refine qS rfl rfl ?_ | refine qR rfl rfl ?_); simp only [go_sem,↓dP,↓reduceIte]; with_reducible and_intros; all_goals first | apply qA | exact ⟨⟩ | rfl | (intros; apply qB; first | kernel_rfl | omega) | omega | skip)
    rw [hW]
    ((first | refine qS rfl rfl ?_ | refine qR rfl rfl ?_); simp only [go_sem,↓dP,↓reduceIte]; with_reducible and_intros; all_goals first | apply qA | exact ⟨⟩ | rfl | (intros; apply qB; first | kernel_rfl | omega) | omega | skip)
    refine Ok.seq ?_
    ((first | refine qS rfl rfl ?_ | refine qR rfl rfl ?_); simp only [go_sem,↓dP,↓reduceIte]; with_reducible and_intros; all_goals first | apply qA | exact ⟨⟩ | rfl | (intros; apply qB; first | kernel_rfl | omega) | omega | skip)
    refine Ok.block ?_
    
    obtain ⟨k0,hk0,hpre,hl0,hstop⟩ : ∃ k0,k0 ≤ w.length ∧ (∀ k,k < k0 → digit (w.getD k 0) = true) ∧ (0 < k0 → w.length ≤ 3) ∧ ((k0 < w.length ∧ (digit (w.getD k0 0) = false ∨ 3 < w.length)) ∨ (k0 = w.length ∧ (w = [] ∨ Lib.itoa (numL w) ≠ w))):=stop_at hbad
    refine Ok.count k0 (fun k => ⟨[(5,.tk 0),(7,.d (.str w)),(8,iS (numL (w.take k) : Nat)),(16,.d (strsD ws)),(17,iS ws.length),(18,iS i0),(23,.p 0 0)],[{ frz:=false,xs:=[],it:=some (w,k) }],[ownD 3 1 natD ((ws.take i0).map numL)]⟩) (fun _ => True) ⟨trivial,?_⟩ ?_ ?_
    · (refine Sub.of ([0]) ([some 0]) ?_ ?_ ?_ rfl rfl <;> simp only [subB,subB1,subT,subT1,newT,subE,subV,subL,go_sem,↓dP,↓reduceIte] <;> (try (repeat' with_reducible apply And.intro)) <;> (try first | exact DEq.refl _ | refine DEq.int ?_ | refine DEq.bool ?_ | omega))
      exact fun _ _ _ _ => DEq.refl _
    · intro k hk' _
      have hk : k < w.length:=by omega
      have hl3:=hl0 (by omega)
      have hd : digit (w.getD k 0) = true:=hpre k hk'
      have hdec:=decode_digit w k hk hd
      ((first | refine qS rfl rfl ?_ | refine qR rfl rfl ?_); simp only [go_sem,↓dP,↓reduceIte]; with_reducible and_intros; all_goals first | apply qA | exact ⟨⟩ | rfl | (intros; apply qB; first | kernel_rfl | omega) | omega | skip)
      rw [if_pos hk,hdec]
      (simp only [go_sem,↓dP,↓reduceIte]; with_reducible and_intros; all_goals first | apply qA | exact ⟨⟩ | rfl | (intros; apply qB; first | kernel_rfl | omega) | omega | skip)
      refine Ok.seq ?_
      refine Ok.cond (b:=true) (by first | rfl | (simp only [go_sem,↓dP,↓reduceIte]; rfl)) (fun _ => ?_) (fun hb => by cases hb)
      (refine Ok.skip ?_; (try dsimp only [thenK,blockK,noGotoK]))
      refine Ok.block ?_
      ((first | refine qS rfl rfl ?_ | refine qR rfl rfl ?_); simp only [go_sem,↓dP,↓reduceIte]; with_reducible and_intros; all_goals first | apply qA | exact ⟨⟩ | rfl | (intros; apply qB; first | kernel_rfl | omega) | omega | skip)
      ((first | refine qS rfl rfl ?_ | refine qR rfl rfl ?_); simp only [go_sem,↓dP,↓reduceIte]; with_reducible and_intros; all_goals first | apply qA | exact ⟨⟩ | rfl | (intros; apply qB; first | kernel_rfl | omega) | omega | skip)
      simp only [digit,Bool.and_eq_true,decide_eq_true_eq] at hd
      have hnl:=numL_lt' w k (fun i hi => hpre i (by omega)) (by omega)
      have hpow : 10 ^ k ≤ 100:=by
        have:=Nat.pow_le_pow_right (n:=10) (by decide) (show k ≤ 2 by omega)
        simpa using this
      have hns : numL (w.take (k + 1)) = 10 * numL (w.take k) + ((w.getD k 0).toNat - 48):=by rw [getD_take hk,numL_snoc]; rfl
      generalize hB : (w.getD k 0).toNat = b at hd hns
      (refine AskI.ret (c135_if (by simp only [hB,Bool.and_eq_true,decide_eq_true_eq]; omega) _) ?_; simp only [go_sem,↓dP,↓reduceIte]; with_reducible and_intros; all_goals first | apply qA | exact ⟨⟩ | rfl | (intros; apply qB; first | kernel_rfl | omega) | omega | skip)
      ((first | refine qS rfl rfl ?_ | refine qR rfl rfl ?_); simp only [go_sem,↓dP,↓reduceIte]; with_reducible and_intros; all_goals first | apply qA | exact ⟨⟩ | rfl | (intros; apply qB; first | kernel_rfl | omega) | omega | skip)
      · exact R32 (by omega) (by omega)
      (try dsimp only [thenK,blockK,noGotoK])
      refine ⟨trivial,?_⟩
      (refine Sub.of ([0]) ([some 0]) ?_ ?_ ?_ rfl rfl <;> simp only [subB,subB1,subT,subT1,newT,subE,subV,subL,go_sem,↓dP,↓reduceIte] <;> (try (repeat' with_reducible apply And.intro)) <;> (try first | exact DEq.refl _ | refine DEq.int ?_ | refine DEq.bool ?_ | omega))
      all_goals first | (exact fun _ _ _ _ => DEq.refl _) | (rw [hns]; omega)
    · intro _
      rcases hstop with ⟨hk,hst⟩ | ⟨hk,hst⟩
      · have hdec : digit (w.getD k0 0) = false → _:=decode_none w k0 hk
        ((first | refine qS rfl rfl ?_ | refine qR rfl rfl ?_); simp only [go_sem,↓dP,↓reduceIte]; with_reducible and_intros; all_goals first | apply qA | exact ⟨⟩ | rfl | (intros; apply qB; first | kernel_rfl | omega) | omega | skip)
        rw [if_pos hk]
        (simp only [go_sem,↓dP,↓reduceIte]; with_reducible and_intros; all_goals first | apply qA | exact ⟨⟩ | rfl | (intros; apply qB; first | kernel_rfl | omega) | omega | skip)
        refine Ok.seq ?_
        refine Ok.cond (b:=true) (by first | rfl | (simp only [go_sem,↓dP,↓reduceIte]; rfl)) (fun _ => ?_) (fun hb => by cases hb)
        (refine Ok.skip ?_; (try dsimp only [thenK,blockK,noGotoK]))
        refine Ok.block ?_
        ((first | refine qS rfl rfl ?_ | refine qR rfl rfl ?_); simp only [go_sem,↓dP,↓reduceIte]; with_reducible and_intros; all_goals first | apply qA | exact ⟨⟩ | rfl | (intros; apply qB; first | kernel_rfl | omega) | omega | skip)
        ((first | refine qS rfl rfl ?_ | refine qR rfl rfl ?_); simp only [go_sem,↓dP,↓reduceIte]; with_reducible and_intros; all_goals first | apply qA | exact ⟨⟩ | rfl | (intros; apply qB; first | kernel_rfl | omega) | omega | skip)
        have hc : (decide ((48 : Int) ≤ ((Utf8.decode ⟨w.toArray⟩ k0).1 : Int)) && decide (((Utf8.decode ⟨w.toArray⟩ k0).1 : Int) ≤ 57) && decide ((w.length : Int) ≤ 3)) = false:=by
          simp only [Bool.and_eq_false_iff,decide_eq_false_iff_not]
          rcases hst with h | h
          · have:=hdec h; omega
          · omega
        (refine AskI.pan (c135_ifno hc _) ?_; simp only [go_sem,↓dP,↓reduceIte]; with_reducible and_intros; all_goals first | apply qA | exact ⟨⟩ | rfl | (intros; apply qB; first | kernel_rfl | omega) | omega | skip)
        exact .refl _
      · subst hk
        ((first | refine qS rfl rfl ?_ | refine qR rfl rfl ?_); simp only [go_sem,↓dP,↓reduceIte]; with_reducible and_intros; all_goals first | apply qA | exact ⟨⟩ | rfl | (intros; apply qB; first | kernel_rfl | omega) | omega | skip)
        rw [if_neg (by omega)]
        (simp only [go_sem,↓dP,↓reduceIte]; with_reducible and_intros; all_goals first | apply qA | exact ⟨⟩ | rfl | (intros; apply qB; first | kernel_rfl | omega) | omega | skip)
        refine Ok.seq ?_
        refine Ok.cond (b:=false) (by first | rfl | (simp only [go_sem,↓dP,↓reduceIte]; rfl)) (fun hb => by cases hb) (fun _ => ?_)
        (refine Ok.exit ?_; simp only [thenK_exit,blockK_exit,noGotoK_exit,thenK_normal,blockK_normal,noGotoK_normal,↓reduceIte,Nat.reduceEqDiff])
        have hl3 : w.length ≤ 3:=by
          rcases Nat.eq_zero_or_pos w.length with h | h
          · omega
          · exact hl0 h
        have hnl:=numL_lt' w w.length hpre (Nat.le_refl _)
        rw [List.take_length] at hnl
        have hpow : 10 ^ w.length ≤ 1000:=Nat.pow_le_pow_right (by decide) hl3
        rw [List.take_length]
        ((first | refine qS rfl rfl ?_ | refine qR rfl rfl ?_); simp only [go_sem,↓dP,↓reduceIte]; with_reducible and_intros; all_goals first | apply qA | exact ⟨⟩ | rfl | (intros; apply qB; first | kernel_rfl | omega) | omega | skip)
        (refine AskGI.ret (fun _ => c132 _ (by omega) (by omega)) ?_; simp only [go_sem,↓dP,↓reduceIte]; with_reducible and_intros; all_goals first | apply qA | exact ⟨⟩ | rfl | (intros; apply qB; first | kernel_rfl | omega) | omega | skip)
        have hc : (w != [] && Lib.itoa ((numL w : Nat) : Int) == w) = false:=by
          rcases hst with h | h
          · subst h; rfl
          · simp [h]
        (refine AskI.pan (c135_ifno hc _) ?_; simp only [go_sem,↓dP,↓reduceIte]; with_reducible and_intros; all_goals first | apply qA | exact ⟨⟩ | rfl | (intros; apply qB; first | kernel_rfl | omega) | omega | skip)
        exact .refl _
end Go.Proofs.Sight
namespace Go.Proofs.Sight
open Go Go.RX Go.Proofs
set_option maxRecDepth 10000
instance (w : List UInt8) : Decidable (isNum w):=by unfold isNum; infer_instance
def nums (ws : List (List UInt8)) (n : Nat) : Prop:=ws.length = n ∧ ∀ w ∈ ws,isNum w
instance (ws : List (List UInt8)) (n : Nat) : Decidable (nums ws n):=by unfold nums; infer_instance
theorem num_lt {w : List UInt8} (h : isNum w) : numL w < 1000:=by
  have h1:=numL_lt w w.length h.2.1 (Nat.le_refl _)
  rw [List.take_length] at h1
  have h2 : 10 ^ w.length ≤ 1000:=Nat.pow_le_pow_right (by decide) h.2.2.1
  omega
abbrev Cur:=Option (List Board × Int × List Letter)
abbrev PS:=Cur × List Block
def bsOf : Cur → List Board
  | none => []
  | some (bs,a,ls) => bs ++ [⟨a,ls⟩]
def nth' (ws : List (List UInt8)) (i : Nat) : Int:=(numL (ws.getD i default) : Nat)
def stepP (st : PS) (r : List UInt8) : Option PS :=
  let W:=splitL r [32]
  if W.getD 0 default = boardW then
    if nums (W.drop 1) 1 then some (some (bsOf st.1,nth' W 1,[]),st.2) else none
  else if W.getD 0 default = letterW then
    if nums (W.drop 1) 4 then
      match st.1 with
      | none => none
      | some (bs,a,ls) => some (some (bs,a,ls ++ [⟨nth' W 1,nth' W 2,nth' W 3,nth' W 4⟩]),st.2)
    else none
  else if W.length = 6 ∧ nums (W.drop 2) 4 then
    some (st.1,st.2 ++ [⟨nth' W 2,nth' W 3,nth' W 4,nth' W 5,W.getD 1 default == [115,117,114,101]⟩])
  else none
def midL (rows : List (List UInt8)) : List (List UInt8):=(rows.drop 1).take (rows.length - 3)
def preL (m : List (List UInt8)) (i : Nat) : Option PS:=(m.take i).foldlM stepP (none,[])
def mkS (W : List (List UInt8)) (st : PS) : Street:=⟨nth' W 1,nth' W 2,nth' W 3,nth' W 4,nth' W 5,nth' W 6,bsOf st.1,st.2⟩
def parseP (t : List UInt8) : Option Street :=
  let rows:=splitL t [10]
  let W:=splitL (rows.getD 0 default) [32]
  if 3 ≤ rows.length ∧ nums (W.drop 1) 6 then
    match preL (midL rows) (midL rows).length with
    | none => none
    | some st => if sealedL (rowsOf (mkS W st)) = t then some (mkS W st) else none
  else none
theorem preL_zero (m : List (List UInt8)) : preL m 0 = some (none,[]):=rfl
theorem preL_succ (m : List (List UInt8)) {i : Nat} (h : i < m.length) : preL m (i + 1) = (preL m i).bind (fun st => stepP st (m.getD i default)):=by
  unfold preL
  rw [getD_take h,List.foldlM_append]
  cases (m.take i).foldlM stepP (none,[]) with
  | none => rfl
  | some st =>
    show List.foldlM stepP st [m.getD i default] = stepP st (m.getD i default)
    rw [List.foldlM_cons]
    cases stepP st (m.getD i default) <;> rfl
theorem preL_none (m : List (List UInt8)) {i : Nat} (h : preL m i = none) : ∀ n,i + n ≤ m.length → preL m (i + n) = none
  | 0,_ => h
  | n + 1,hn => by
    rw [← Nat.add_assoc,preL_succ m (by omega),preL_none m h n (by omega)]; rfl
theorem preL_fail (m : List (List UInt8)) {i : Nat} {st : PS} (hi : i < m.length) (h : preL m i = some st) (hs : stepP st (m.getD i default) = none) : preL m m.length = none:=by
  have h1 : preL m (i + 1) = none:=by rw [preL_succ m hi,h]; exact hs
  have h2:=preL_none m h1 (m.length - (i + 1)) (by omega)
  rwa [show i + 1 + (m.length - (i + 1)) = m.length by omega] at h2
def pl (n : Int) : Prop:=0 ≤ n ∧ n < 1000
structure Street.plain (s : Street) : Prop where
  n : ∀ n ∈ s.nums,pl n
  b : ∀ b ∈ s.bs,pl b.at_
  l : ∀ b ∈ s.bs,∀ x ∈ b.ls,∀ n ∈ x.nums,pl n
  k : ∀ k ∈ s.ks,∀ n ∈ k.nums,pl n
theorem pl_num {W : List (List UInt8)} {a n : Nat} (h : nums (W.drop a) n) {i : Nat} (h1 : a ≤ i) (h2 : i < a + n) : pl (nth' W i):=by
  have hl:=h.1
  rw [List.length_drop] at hl
  have:=num_lt (h.2 (W.getD i default) (by
    have : (W.drop a).getD (i - a) default = W.getD i default:=by
      simp only [List.getD_eq_getElem?_getD,List.getElem?_drop]
      rw [show a + (i - a) = i by omega]
    rw [← this]
    exact getD_mem (by rw [List.length_drop]; omega)))
  unfold pl nth'
  omega
def nrows (st : PS) : Nat:=((bsOf st.1).flatMap boardRows).length + st.2.length
structure PlainP (st : PS) : Prop where
  b : ∀ b ∈ bsOf st.1,pl b.at_
  l : ∀ b ∈ bsOf st.1,∀ x ∈ b.ls,∀ n ∈ x.nums,pl n
  k : ∀ k ∈ st.2,∀ n ∈ k.nums,pl n
theorem stepP_plain {st st' : PS} {r : List UInt8} (h : stepP st r = some st') (hp : PlainP st) : PlainP st' ∧ nrows st' = nrows st + 1:=by
  unfold stepP at h
  dsimp only at h
  split at h
  · split at h
    · rename_i hn
      simp only [Option.some.injEq] at h
      subst h
      have h1:=pl_num hn (i:=1) (by omega) (by omega)
      refine ⟨⟨fun b hb => ?_,fun b hb => ?_,hp.k⟩,?_⟩
      · simp only [bsOf,List.mem_append,List.mem_singleton] at hb
        rcases hb with hb | rfl
        · exact hp.b b hb
        · exact h1
      · simp only [bsOf,List.mem_append,List.mem_singleton] at hb
        rcases hb with hb | rfl
        · exact hp.l b hb
        · intro x hx; simp at hx
      · simp only [nrows,bsOf,List.flatMap_append,List.flatMap_cons,List.flatMap_nil,boardRows,List.length_append,List.length_cons,List.map_nil,List.length_nil]
        omega
    · cases h
  · split at h
    · split at h
      · rename_i hn
        split at h
        · cases h
        · rename_i bs a ls hc
          simp only [Option.some.injEq] at h
          subst h
          obtain ⟨c,ks⟩:=st
          dsimp only at hc
          subst hc
          have h1:=pl_num hn (i:=1) (by omega) (by omega)
          have h2:=pl_num hn (i:=2) (by omega) (by omega)
          have h3:=pl_num hn (i:=3) (by omega) (by omega)
          have h4:=pl_num hn (i:=4) (by omega) (by omega)
          refine ⟨⟨fun b hb => ?_,fun b hb => ?_,hp.k⟩,?_⟩
          · simp only [bsOf,List.mem_append,List.mem_singleton] at hb
            rcases hb with hb | rfl
            · exact hp.b b (by simp only [bsOf,List.mem_append]; exact .inl hb)
            · exact hp.b ⟨a,ls⟩ (by simp [bsOf])
          · simp only [bsOf,List.mem_append,List.mem_singleton] at hb
            rcases hb with hb | rfl
            · exact hp.l b (by simp only [bsOf,List.mem_append]; exact .inl hb)
            · intro x hx
              simp only [List.mem_append,List.mem_singleton] at hx
              rcases hx with hx | rfl
              · exact hp.l ⟨a,ls⟩ (by simp [bsOf]) x hx
              · intro n hn
                simp only [Letter.nums,List.mem_cons,List.not_mem_nil,or_false] at hn
                rcases hn with rfl | rfl | rfl | rfl <;> assumption
          · simp only [nrows,bsOf,List.flatMap_append,List.flatMap_cons,List.flatMap_nil,boardRows,List.length_append,List.length_cons,List.map_nil,List.length_nil,List.length_map]
            omega
      · cases h
    · split at h
      · rename_i hn
        simp only [Option.some.injEq] at h
        subst h
        have h1:=pl_num hn.2 (i:=2) (by omega) (by omega)
        have h2:=pl_num hn.2 (i:=3) (by omega) (by omega)
        have h3:=pl_num hn.2 (i:=4) (by omega) (by omega)
        have h4:=pl_num hn.2 (i:=5) (by omega) (by omega)
        refine ⟨⟨hp.b,hp.l,fun k hk => ?_⟩,by simp only [nrows,List.length_append,List.length_cons,List.length_nil]; omega⟩
        simp only [List.mem_append,List.mem_singleton] at hk
        rcases hk with hk | rfl
        · exact hp.k k hk
        · intro n hn
          simp only [Block.nums,List.mem_cons,List.not_mem_nil,or_false] at hn
          rcases hn with rfl | rfl | rfl | rfl <;> assumption
      · cases h
theorem preL_plain (m : List (List UInt8)) : ∀ (i : Nat) (st : PS),i ≤ m.length → preL m i = some st → PlainP st ∧ nrows st = i
  | 0,st,_,h => by
    rw [preL_zero] at h
    cases h
    exact ⟨⟨by simp [bsOf],by simp [bsOf],by simp⟩,rfl⟩
  | i + 1,st,hi,h => by
    rw [preL_succ m (by omega)] at h
    cases hp : preL m i with
    | none => rw [hp] at h; cases h
    | some s0 =>
      rw [hp] at h
      have ⟨h1,h2⟩:=preL_plain m i s0 (by omega) hp
      have ⟨h3,h4⟩:=stepP_plain (show stepP s0 _ = some st from h) h1
      exact ⟨h3,by omega⟩
theorem mkS_plain {W : List (List UInt8)} {st : PS} (hn : nums (W.drop 1) 6) (hp : PlainP st) : (mkS W st).plain:=by
  refine ⟨fun n h => ?_,hp.b,hp.l,hp.k⟩
  have h1:=pl_num hn (i:=1) (by omega) (by omega)
  have h2:=pl_num hn (i:=2) (by omega) (by omega)
  have h3:=pl_num hn (i:=3) (by omega) (by omega)
  have h4:=pl_num hn (i:=4) (by omega) (by omega)
  have h5:=pl_num hn (i:=5) (by omega) (by omega)
  have h6:=pl_num hn (i:=6) (by omega) (by omega)
  simp only [Street.nums,mkS,List.mem_cons,List.not_mem_nil,or_false] at h
  rcases h with rfl | rfl | rfl | rfl | rfl | rfl <;> assumption
theorem Street.plain.small {s : Street} (h : s.plain) (hr : (s.bs.flatMap boardRows).length + s.ks.length ≤ 600) : s.small:=by
  have e : ∀ {n : Int},pl n → 0 ≤ n ∧ n < 1000000:=fun h => ⟨h.1,by have:=h.2; omega⟩
  exact ⟨fun n hn => e (h.n n hn),fun b hb => e (h.b b hb),fun b hb x hx n hn => e (h.l b hb x hx n hn),fun k hk n hn => e (h.k k hk n hn),hr⟩
theorem splitL_pos (s sep : List UInt8) (h1 : 1 ≤ sep.length) : 0 < (splitL s sep).length:=by
  have hlen:=Lib.splitB_all ⟨sep.toArray⟩ h1 0 _ ⟨s.toArray⟩ rfl
  rw [splitL,List.length_map,hlen]; omega
theorem splitL_len (s sep : List UInt8) (h1 : 1 ≤ sep.length) : (splitL s sep).length ≤ s.length + 1:=by
  have hlen:=Lib.splitB_all ⟨sep.toArray⟩ h1 0 _ ⟨s.toArray⟩ rfl
  have hcnt:=Lib.countB_le ⟨sep.toArray⟩ h1 _ ⟨s.toArray⟩ (Nat.le_refl _)
  have hss : (⟨s.toArray⟩ : ByteArray).size = s.length:=rfl
  rw [splitL,List.length_map,hlen]; omega
end Go.Proofs.Sight
namespace Go.Proofs.Sight
open Go Go.RX Go.Proofs
set_option maxRecDepth 10000
def spl (c : UInt8) : List UInt8 → List (List UInt8)
  | [] => [[]]
  | b :: l => if b = c then [] :: spl c l else
    match spl c l with
    | [] => [[b]]
    | x :: r => (b :: x) :: r
theorem spl_ne (c : UInt8) : ∀ l,spl c l ≠ []
  | [] => by simp [spl]
  | b :: l => by
    unfold spl
    split
    · simp
    · split <;> simp
theorem splitK_spl (c : UInt8) : ∀ l,Lib.splitK [c] 0 (Lib.count l [c]) l = spl c l
  | [] => by
    rw [Lib.count_miss (by simp [Lib.index])]
    rfl
  | b :: l => by
    have ih:=splitK_spl c l
    by_cases h : b = c
    · subst h
      have hix : Lib.index (b :: l) [b] = ((0 : Nat) : Int):=by rw [Lib.index]; simp [List.isPrefixOf]
      rw [Lib.count_cons_eq,Nat.add_comm,Lib.splitK,if_neg (by rw [hix]; decide),hix]
      simp only [spl,if_true]
      rw [← ih]
      simp
    · rw [Lib.count_cons_ne b c l h]
      simp only [spl,if_neg h]
      rw [← ih]
      have hp : ([c] : List UInt8).isPrefixOf (b :: l) = false:=by simp [List.isPrefixOf,Ne.symm h]
      have hix : Lib.index (b :: l) [c] = if Lib.index l [c] == -1 then -1 else Lib.index l [c] + 1:=by rw [Lib.index,hp]; simp
      by_cases hm : Lib.index l [c] = -1
      · rw [Lib.count_miss hm]
        rfl
      · have hge:=Lib.index_ge l [c]
        obtain ⟨j,hj⟩ : ∃ j : Nat,Lib.index l [c] = j:=⟨(Lib.index l [c]).toNat,by omega⟩
        have hm2 : ¬ (Lib.index l [c] == -1) = true:=fun e => hm (beq_iff_eq.1 e)
        rw [Lib.count_hit (by simp) hj,Nat.add_comm 1]
        simp only [Lib.splitK,hix,if_neg hm2]
        rw [if_neg (by simp only [beq_iff_eq]; omega),hj]
        have e1 : (((j : Nat) : Int) + 1).toNat = j + 1:=by omega
        have e2 : ((j : Nat) : Int).toNat = j:=by omega
        simp only [e1,e2,Nat.add_zero,List.take_succ_cons,List.length_cons,List.length_nil,List.drop_succ_cons,Nat.zero_add]
theorem splitL_spl (c : UInt8) (l : List UInt8) : splitL l [c] = spl c l:=by
  unfold splitL
  rw [Lib.splitB_data]
  exact splitK_spl c l
theorem spl_short (c : UInt8) : ∀ (l : List UInt8),∀ x ∈ spl c l,x.length ≤ l.length
  | [],x,h => by simp [spl] at h; subst h; simp
  | b :: l,x,h => by
    simp only [spl] at h
    split at h
    · simp only [List.mem_cons] at h
      rcases h with rfl | h
      · simp
      · have:=spl_short c l x h; simp only [List.length_cons]; omega
    · split at h
      · exact absurd ‹_› (spl_ne c l)
      · rename_i y r hy
        simp only [List.mem_cons] at h
        rcases h with rfl | h
        · have:=spl_short c l y (by rw [hy]; simp); simp only [List.length_cons]; omega
        · have:=spl_short c l x (by rw [hy]; simp [h]); simp only [List.length_cons]; omega
theorem spl_app (c : UInt8) : ∀ (l r : List UInt8),c ∉ l → spl c (l ++ c :: r) = l :: spl c r
  | [],r,_ => by simp [spl]
  | b :: l,r,h => by
    simp only [List.mem_cons,not_or] at h
    simp only [List.cons_append,spl,if_neg (Ne.symm h.1),spl_app c l r h.2]
theorem splitL_short (c : UInt8) (l : List UInt8) (i : Nat) : ((splitL l [c]).getD i default).length ≤ l.length:=by
  by_cases h : i < (splitL l [c]).length
  · have:=getD_mem h
    rw [splitL_spl] at this ⊢
    exact spl_short c l _ this
  · rw [List.getD_eq_getElem?_getD,List.getElem?_eq_none (by omega)]
    exact Nat.zero_le _
end Go.Proofs.Sight
namespace Go.Proofs.Sight
open Go Go.RX Go.Proofs Go.RowKit
set_option maxRecDepth 10000
theorem CtrP.args {f : FuncId} {A A' : List SV} {d : DV} (h : CtrP Tryz.prog f A d) (hs : subL { env:=[],bx:=[],tk:=[] } [] [] A' A) : CtrP Tryz.prog f A' d:=by
  refine ⟨h.1,fun I w vs hG hI hl hA => h.2 I w vs hG hI (by rw [hl,subL_len _ _ hs]) (fun j u s hu hsj Y => ?_)⟩
  have:=subL_ok (I:=I) (β:=fun _ => none) (τ:=fun _ => none) (Y:=Y) (n0:=0) (w:=w) (rB:=[]) (rT:=[]) (fun k c hk => by simp [nth] at hk) A' A j u s hs (fun x hx => hA j u x hu hx Y) hsj
  exact this.mono (fun _ h => h) (fun _ _ => rfl) (fun k b hk => by simp [βn,nth] at hk) (fun k b hk => by simp [τn,nth] at hk)
def CtrN (P : Program) (f : FuncId) (A : List SV) : Prop :=
  (∃ fn,P.funcs[f]? = some fn ∧ (fn.name == "runtime.NumGoroutine") = false ∧ fn.body.isNone = false) ∧
  ∀ (I : Nat → Prop) (w : World) (vs : Array Value),Glob.G w → (∀ b,I b → b < w.heap.size) → vs.size = A.length → (∀ (j : Nat) (u : Value) (s : SV),vs[j]? = some u → A[j]? = some s → RepS I w u s) →
    Calls P f vs w fun e w' => ∃ v x I',e = .panicked [{ v:=v,recovered:=false }] ∧ (∀ b,I' b → b < w'.heap.size) ∧ (∀ b,I' b → I b ∨ w.heap.size ≤ b) ∧ Rep I' w' v (noT x) ∧ Below w.heap.size w w'
theorem two_mk {S : Type} {f : FuncId} {fn : Func} {c : Code} {A : List SV} {N : Nat} (rv : S → SV) (o : Option S) (hf : Tryz.prog.funcs[f]? = some fn) (hb : fn.body = some c) (hname : (fn.name == "runtime.NumGoroutine") = false) (hN : fn.ntmps = N) (hn : A.length ≤ N) {rs : Array ResultVar} (hr : fn.results = rs)
    (h : Ok Tryz.prog N c { env:=args 0 A,bx:=[],tk:=[] } (fun e σ => ∃ s,o = some s ∧ retK Tryz.prog rs.toList (rv s) e σ) (fun d => o = none ∧ ∃ x,DEq d (noT x))) :
    (∀ s,o = some s → Ctr Tryz.prog f A (rv s)) ∧ (o = none → CtrN Tryz.prog f A):=by
  subst hN; subst hr
  refine ⟨fun s hs => Ctr.of_body hf hb hname hn (h.mono ?_ ?_),fun ho => ⟨⟨fn,hf,hname,by simp [hb]⟩,fun I w vs hG hI hl hA => ?_⟩⟩
  · rintro e σ ⟨s',hs',hk⟩
    rw [hs] at hs'; cases hs'
    exact hk
  · rintro d ⟨h0,_⟩
    rw [hs] at h0; cases h0
  · refine calls_of_wp hf hb ?_
    refine wp_mono (h I w _ w (St.start hG hI hl hn hA)) ?_
    intro e a' w' hq
    cases e with
    | panic ch =>
      obtain ⟨d',⟨_,x,hd⟩,hdf,⟨v,I',rfl,h1,h2,h3⟩,hbel⟩:=hq
      exact ⟨hdf,v,x,I',rfl,h1,fun b hb => (h2 b hb),hd _ _ _ h3,hbel⟩
    | _ => obtain ⟨σ',⟨s,hs,_⟩,_⟩:=hq; rw [ho] at hs; cases hs
theorem nums_map {W : List (List UInt8)} {a n : Nat} (h : nums (W.drop a) n) : (W.drop a).map numL = (List.range n).map (fun i => numL (W.getD (a + i) default)):=by
  have hl:=h.1
  refine List.ext_getElem (by rw [List.length_map,hl]; simp) (fun i h1 h2 => ?_)
  simp only [List.getElem_map,List.getElem_drop,List.getElem_range]
  congr 1
  rw [List.length_map] at h1
  rw [List.length_drop] at h1
  exact (getD_lt (by omega)).symm
theorem given_ok (W : List (List UInt8)) (a n m : Nat) (h : nums (W.drop a) n) (hl : W.length ≤ 1000) (hm : m = n) (ha : a + n = W.length) :
    Ctr Tryz.prog 109 [.d (.sl 1 m (fun i j => strD (W.getD (a + i) default) j)),iS n] (.d (slD 1 natD ((List.range n).map (fun i => numL (W.getD (a + i) default))))):=by
  rw [← nums_map h]
  exact c136_drop W a n m _ ha h.2 hl hm rfl
theorem bad_at : ∀ (ws : List (List UInt8)),(¬ ∀ w ∈ ws,isNum w) → ∃ i,i < ws.length ∧ (∀ w ∈ ws.take i,isNum w) ∧ ¬ isNum (ws.getD i default)
  | [],h => (h (fun w hw => by simp at hw)).elim
  | w :: ws,h => by
    by_cases hw : isNum w
    · obtain ⟨i,h1,h2,h3⟩:=bad_at ws (fun h' => h (fun x hx => by
        simp only [List.mem_cons] at hx
        rcases hx with rfl | hx
        · exact hw
        · exact h' x hx))
      exact ⟨i + 1,by simp; omega,fun x hx => by
        simp only [List.take_succ_cons,List.mem_cons] at hx
        rcases hx with rfl | hx
        · exact hw
        · exact h2 x hx,by simpa using h3⟩
    · exact ⟨0,by simp,by simp,by simpa using hw⟩
theorem given_no (W : List (List UInt8)) (a n m : Nat) (k : Int) (h : ¬ nums (W.drop a) n) (hl : W.length ≤ 1000) (hm : m = W.length - a) (hk : k = (n : Int)) (ha : a ≤ W.length) :
    ∃ x,CtrP Tryz.prog 109 [.d (.sl 1 m (fun i j => strD (W.getD (a + i) default) j)),iS k] (noT x):=by
  have hlen : (W.drop a).length = W.length - a:=List.length_drop
  have hd:=slice_D (k:=1) (n:=m) (m:=W.length - a) (a:=a) (f:=strD) (l:=W) hm (by omega)
  rw [List.take_of_length_le (by omega)] at hd
  by_cases hn : (W.drop a).length = n
  · have hb : ¬ ∀ w ∈ W.drop a,isNum w:=fun hb => h ⟨hn,hb⟩
    obtain ⟨i,h1,h2,h3⟩:=bad_at _ hb
    have hc:=c136_bad (W.drop a) i h1 h2 h3 (by omega)
    rw [hn] at hc
    subst hk
    exact ⟨_,CtrP.args hc ⟨hd,.refl _,trivial⟩⟩
  · have hc:=c136_cnt (W.drop a) k (by omega)
    exact ⟨_,CtrP.args hc ⟨hd,.refl _,trivial⟩⟩
def curT : Cur → TC
  | none => ownD 38 2 boaD []
  | some (bs,a,_) => .ownx 38 2 (bs.length + 1) (fun x c => if x < bs.length then boaD (bs.getD x default) c else dget [iD a,.nils] ((x - bs.length) * 2 + c)) 1 1
def curL : Cur → List Letter
  | none => []
  | some (_,_,ls) => ls
def parSt (t : List UInt8) (m : List (List UInt8)) (W : List (List UInt8)) (i : Nat) (st : PS) : Sy :=
  ⟨[(0,.d (.str t)),(2,.p 0 0),(5,.p 1 0),(51,.d (strsD m)),(52,iS m.length),(53,iS i)],
    [streetB default,{ frz:=false,xs:=[iS (nth' W 1),iS (nth' W 2),iS (nth' W 3),iS (nth' W 4),iS (nth' W 5),iS (nth' W 6),.tk 0,.tk 2] }],
    [curT st.1,ownD 45 4 letD (curL st.1),ownD 48 5 bloD st.2]⟩
section
variable {t : List UInt8} {rows W : List (List UInt8)}
theorem parse_few (hr : splitL t [10] = rows) (h : ¬ 3 ≤ rows.length) : parseP t = none:=by
  subst hr; unfold parseP; dsimp only; rw [if_neg (fun q => h q.1)]
theorem parse_head (hr : splitL t [10] = rows) (hW : splitL (rows.getD 0 default) [32] = W) (h : ¬ nums (W.drop 1) 6) : parseP t = none:=by
  subst hr; subst hW; unfold parseP; dsimp only; rw [if_neg (fun q => h q.2)]
theorem parse_line (hr : splitL t [10] = rows) (h : preL (midL rows) (midL rows).length = none) : parseP t = none:=by
  subst hr; unfold parseP; dsimp only; split
  · rw [h]
  · rfl
theorem parse_all (hr : splitL t [10] = rows) (hW : splitL (rows.getD 0 default) [32] = W) (h3 : 3 ≤ rows.length) (h6 : nums (W.drop 1) 6) {st : PS} (h : preL (midL rows) (midL rows).length = some st) :
    parseP t = if sealedL (rowsOf (mkS W st)) = t then some (mkS W st) else none:=by
  subst hr; subst hW; unfold parseP; dsimp only; rw [if_pos ⟨h3,h6⟩,h]
end
theorem given6 (W : List (List UInt8)) (m : Nat) (k : Int) (h : nums (W.drop 1) 6) (hl : W.length ≤ 1000) (hm : m = 6) (hk : k = 6) :
    Ctr Tryz.prog 109 [.d (.sl 1 m (fun i j => strD (W.getD (1 + i) default) j)),iS k] (.d (slD 1 intD [nth' W 1,nth' W 2,nth' W 3,nth' W 4,nth' W 5,nth' W 6])):=by
  subst hk; exact (given_ok W 1 6 m h hl hm (by have:=h.1; rw [List.length_drop] at this; omega)).sub (nats_D _)
theorem given1 (W : List (List UInt8)) (m : Nat) (k : Int) (h : nums (W.drop 1) 1) (hl : W.length ≤ 1000) (hm : m = 1) (hk : k = 1) :
    Ctr Tryz.prog 109 [.d (.sl 1 m (fun i j => strD (W.getD (1 + i) default) j)),iS k] (.d (slD 1 intD [nth' W 1])):=by
  subst hk; exact (given_ok W 1 1 m h hl hm (by have:=h.1; rw [List.length_drop] at this; omega)).sub (nats_D _)
theorem given4 (W : List (List UInt8)) (m : Nat) (k : Int) (h : nums (W.drop 1) 4) (hl : W.length ≤ 1000) (hm : m = 4) (hk : k = 4) :
    Ctr Tryz.prog 109 [.d (.sl 1 m (fun i j => strD (W.getD (1 + i) default) j)),iS k] (.d (slD 1 intD [nth' W 1,nth' W 2,nth' W 3,nth' W 4])):=by
  subst hk; exact (given_ok W 1 4 m h hl hm (by have:=h.1; rw [List.length_drop] at this; omega)).sub (nats_D _)
theorem given4' (W : List (List UInt8)) (m : Nat) (k : Int) (h : nums (W.drop 2) 4) (hl : W.length ≤ 1000) (hm : m = 4) (hk : k = 4) :
    Ctr Tryz.prog 109 [.d (.sl 1 m (fun i j => strD (W.getD (2 + i) default) j)),iS k] (.d (slD 1 intD [nth' W 2,nth' W 3,nth' W 4,nth' W 5])):=by
  subst hk; exact (given_ok W 2 4 m h hl hm (by have:=h.1; rw [List.length_drop] at this; omega)).sub (nats_D _)
theorem numsD_len {W : List (List UInt8)} {a n : Nat} (h : nums (W.drop a) n) : W.length - a = n:=by
  have:=h.1
  rwa [List.length_drop] at this
section
variable {st : PS} {r : List UInt8} {V : List (List UInt8)}
theorem stepP_board (hV : splitL r [32] = V) (hb : V.getD 0 default = boardW) : stepP st r = if nums (V.drop 1) 1 then some (some (bsOf st.1,nth' V 1,[]),st.2) else none:=by
  subst hV; unfold stepP; dsimp only; rw [if_pos hb]
theorem stepP_letter (hV : splitL r [32] = V) (hb : V.getD 0 default ≠ boardW) (hl : V.getD 0 default = letterW) : stepP st r = if nums (V.drop 1) 4 then (match st.1 with
      | none => none
      | some (bs,a,ls) => some (some (bs,a,ls ++ [⟨nth' V 1,nth' V 2,nth' V 3,nth' V 4⟩]),st.2)) else none:=by
  subst hV; unfold stepP; dsimp only; rw [if_neg hb,if_pos hl]
  all_goals (rcases st with ⟨_ | ⟨_,_,_⟩,_⟩ <;> rfl)
theorem stepP_block (hV : splitL r [32] = V) (hb : V.getD 0 default ≠ boardW) (hl : V.getD 0 default ≠ letterW) : stepP st r = if V.length = 6 ∧ nums (V.drop 2) 4 then
    some (st.1,st.2 ++ [⟨nth' V 2,nth' V 3,nth' V 4,nth' V 5,V.getD 1 default == [115,117,114,101]⟩]) else none:=by
  subst hV; unfold stepP; dsimp only; rw [if_neg hb,if_neg hl]
end
theorem close_D (bs : List Board) (a : Int) (ls : List Letter) (i j : Nat) (hi : i < bs.length + 1) (hj : j < 2) {inst : Decidable (i = bs.length ∧ j = 1)} :
    DEq (@ite _ (i = bs.length ∧ j = 1) inst (DV.sl 4 ls.length fun a => letD (ls.getD a default)) (if i < bs.length then boaD (bs.getD i default) j else dget [iD a,DV.nils] ((i - bs.length) * 2 + j))) (boaD ((bs ++ [(⟨a,ls⟩ : Board)]).getD i default) j):=by
  by_cases h : i < bs.length
  · have e : (bs ++ [(⟨a,ls⟩ : Board)]).getD i default = bs.getD i default:=by
      rw [List.getD_eq_getElem?_getD,List.getD_eq_getElem?_getD,List.getElem?_append_left h]
    rw [if_neg (fun q => by omega),if_pos h,e]
    exact .refl _
  · have e0 : i = bs.length:=by omega
    subst e0
    have e : (bs ++ [(⟨a,ls⟩ : Board)]).getD bs.length default = ⟨a,ls⟩:=by
      rw [List.getD_eq_getElem?_getD,List.getElem?_append_right (Nat.le_refl _)]; simp
    rw [e,if_neg h]
    match j,hj with
    | 0,_ => rw [if_neg (fun q => by omega),Nat.sub_self]; exact .refl _
    | 1,_ => rw [if_pos ⟨rfl,rfl⟩]; exact .refl _
theorem f106_walk (t : List UInt8) (ht : t.length ≤ 450) : (∀ s,parseP t = some s → Ctr Tryz.prog 70 [.d (.str t)] s.sv) ∧ (parseP t = none → CtrN Tryz.prog 70 [.d (.str t)]):=by
  refine two_mk (fn:=Tryz.f70) Street.sv (parseP t) (N:=160) rfl rfl rfl rfl (show 1 ≤ 160 by decide) Tryz.results70 ?_
  dsimp only [args]
  have hrl:=splitL_len t [10] (by decide)
  have hr0:=splitL_pos t [10] (by decide)
  have hrs:=splitL_short 10 t
  have c134r:=c134 t [10] (by omega) (by decide)
  obtain ⟨rows,hr⟩ : ∃ rows,splitL t [10] = rows:=⟨_,rfl⟩
  rw [hr] at hrl hr0 hrs c134r
  have hW0:=splitL_pos (rows.getD 0 default) [32] (by decide)
  have hWl:=splitL_len (rows.getD 0 default) [32] (by decide)
  have hW1:=hrs 0
  have c134w:=c134 (rows.getD 0 default) [32] (by omega) (by decide)
  obtain ⟨W,hW⟩ : ∃ W,splitL (rows.getD 0 default) [32] = W:=⟨_,rfl⟩
  rw [hW] at hW0 hWl c134w
  ((first | refine qS rfl rfl ?_ | refine qR rfl rfl ?_); simp only [go_sem,↓dP,↓reduceIte]; with_reducible and_intros; all_goals first | apply qA | exact ⟨⟩ | rfl | (intros; apply qB; first | kernel_rfl | omega) | omega | skip)
  ((first | refine qS rfl rfl ?_ | refine qR rfl rfl ?_); simp only [go_sem,↓dP,↓reduceIte]; with_reducible and_intros; all_goals first | apply qA | exact ⟨⟩ | rfl | (intros; apply qB; first | kernel_rfl | omega) | omega | skip)
  (refine AskI.ret (c134r) ?_; simp only [go_sem,↓dP,↓reduceIte]; with_reducible and_intros; all_goals first | apply qA | exact ⟨⟩ | rfl | (intros; apply qB; first | kernel_rfl | omega) | omega | skip)
  ((first | refine qS rfl rfl ?_ | refine qR rfl rfl ?_); simp only [go_sem,↓dP,↓reduceIte]; with_reducible and_intros; all_goals first | apply qA | exact ⟨⟩ | rfl | (intros; apply qB; first | kernel_rfl | omega) | omega | skip)
  by_cases h3 : 3 ≤ rows.length
  rotate_left
  · have hc : decide ((3 : Int) ≤ (rows.length : Int)) = false:=by simp; omega
    (refine AskI.pan (c135_ifno hc _) ?_; simp only [go_sem,↓dP,↓reduceIte]; with_reducible and_intros; all_goals first | apply qA | exact ⟨⟩ | rfl | (intros; apply qB; first | kernel_rfl | omega) | omega | skip)
    · exact parse_few hr h3
    · exact ⟨_,.refl _⟩
  have hc : decide ((3 : Int) ≤ (rows.length : Int)) = true:=by simp; omega
  (refine AskI.ret (c135_if hc _) ?_; simp only [go_sem,↓dP,↓reduceIte]; with_reducible and_intros; all_goals first | apply qA | exact ⟨⟩ | rfl | (intros; apply qB; first | kernel_rfl | omega) | omega | skip)
  ((first | refine qS rfl rfl ?_ | refine qR rfl rfl ?_); simp only [go_sem,↓dP,↓reduceIte]; with_reducible and_intros; all_goals first | apply qA | exact ⟨⟩ | rfl | (intros; apply qB; first | kernel_rfl | omega) | omega | skip)
  (refine AskI.ret (c134w) ?_; simp only [go_sem,↓dP,↓reduceIte]; with_reducible and_intros; all_goals first | apply qA | exact ⟨⟩ | rfl | (intros; apply qB; first | kernel_rfl | omega) | omega | skip)
  by_cases h6 : nums (W.drop 1) 6
  rotate_left
  · obtain ⟨x,hx⟩:=given_no W 1 6 ((W.length : Int) - 1).toNat 6 h6 (by omega) (by omega) rfl hW0
    (refine AskI.pan (hx) ?_; simp only [go_sem,↓dP,↓reduceIte]; with_reducible and_intros; all_goals first | apply qA | exact ⟨⟩ | rfl | (intros; apply qB; first | kernel_rfl | omega) | omega | skip)
    · exact parse_head hr hW h6
    · exact ⟨_,.refl _⟩
  have hl6:=numsD_len h6
  (refine AskI.ret (given6 W _ _ h6 (by omega) (by omega) rfl) ?_; simp only [go_sem,↓dP,↓reduceIte]; with_reducible and_intros; all_goals first | apply qA | exact ⟨⟩ | rfl | (intros; apply qB; first | kernel_rfl | omega) | omega | skip)
  ((first | refine qS rfl rfl ?_ | refine qR rfl rfl ?_); simp only [go_sem,↓dP,↓reduceIte]; with_reducible and_intros; all_goals first | apply qA | exact ⟨⟩ | rfl | (intros; apply qB; first | kernel_rfl | omega) | omega | skip)
  refine Ok.seq ?_
  ((first | refine qS rfl rfl ?_ | refine qR rfl rfl ?_); simp only [go_sem,↓dP,↓reduceIte]; with_reducible and_intros; all_goals first | apply qA | exact ⟨⟩ | rfl | (intros; apply qB; first | kernel_rfl | omega) | omega | skip)
  refine Ok.block ?_
  have hml : (midL rows).length = rows.length - 3:=by unfold midL; rw [List.length_take,List.length_drop]; omega
  have hmd : DEq (.sl 1 ((rows.length : Int) - 2 - 1).toNat (fun i j => strD (rows.getD (1 + i) default) j)) (strsD (midL rows)):=slice_D (k:=1) (f:=strD) (l:=rows) (a:=1) (m:=rows.length - 3) (by omega) (by omega)
  have hmg : ∀ i,i < (midL rows).length → ((midL rows).getD i default).length ≤ t.length:=by
    intro i hi
    rw [hml] at hi
    have e : (midL rows).getD i default = rows.getD (1 + i) default:=by
      unfold midL
      rw [List.getD_eq_getElem?_getD,List.getD_eq_getElem?_getD,List.getElem?_take_of_lt hi,List.getElem?_drop]
    rw [e]; exact hrs _
  refine Ok.count (midL rows).length (fun i => parSt t (midL rows) W i ((preL (midL rows) i).getD (none,[]))) (fun i => ∃ st,preL (midL rows) i = some st) ⟨⟨_,preL_zero _⟩,?_⟩ ?_ ?_
  · simp only [preL_zero,Option.getD_some,parSt,curT,curL]
    (refine Sub.of ([0,1]) ([none,none,none]) ?_ ?_ ?_ rfl rfl <;> simp only [subB,subB1,subT,subT1,newT,subE,subV,subL,go_sem,↓dP,↓reduceIte] <;> (try (repeat' with_reducible apply And.intro)) <;> (try first | exact DEq.refl _ | refine DEq.int ?_ | refine DEq.bool ?_ | omega))
    all_goals first | exact hmd | exact DEq.nils rfl | omega
  · rintro i hi ⟨⟨cur,ks⟩,hst⟩
    obtain ⟨hpl,hnr⟩:=preL_plain (midL rows) i _ (by omega) hst
    have hfl:=flat_rows (bsOf cur)
    have hbl : (bsOf cur).length ≤ 500:=by simp only [nrows] at hnr; omega
    have hkl : ks.length ≤ 500:=by simp only [nrows] at hnr; omega
    have hpf:=fun q => parse_line hr (preL_fail (midL rows) hi hst q)
    simp only [hst,Option.getD_some,parSt]
    have hLr:=hmg i hi
    obtain ⟨r,hrow⟩ : ∃ r,(midL rows).getD i default = r:=⟨_,rfl⟩
    rw [hrow] at hLr hpf
    have hV0:=splitL_pos r [32] (by decide)
    have hVl:=splitL_len r [32] (by decide)
    have c134v:=c134 r [32] (by omega) (by decide)
    obtain ⟨V,hV⟩ : ∃ V,splitL r [32] = V:=⟨_,rfl⟩
    rw [hV] at hV0 hVl c134v
    (((first | refine qS rfl rfl ?_ | refine qR rfl rfl ?_); simp only [go_sem,↓dP,↓reduceIte]; with_reducible and_intros; all_goals first | apply qA | exact ⟨⟩ | rfl | (intros; apply qB; first | kernel_rfl | omega) | omega | skip)); refine Ok.seq ?_; refine Ok.cond rfl (fun _ => ?_) (fun hb => by simp at hb; omega); (refine Ok.skip ?_; (try dsimp only [thenK,blockK,noGotoK])); refine Ok.seq ?_; refine Ok.block ?_
    ((first | refine qS rfl rfl ?_ | refine qR rfl rfl ?_); simp only [go_sem,↓dP,↓reduceIte]; with_reducible and_intros; all_goals first | apply qA | exact ⟨⟩ | rfl | (intros; apply qB; first | kernel_rfl | omega) | omega | skip)
    rw [hrow]
    ((first | refine qS rfl rfl ?_ | refine qR rfl rfl ?_); simp only [go_sem,↓dP,↓reduceIte]; with_reducible and_intros; all_goals first | apply qA | exact ⟨⟩ | rfl | (intros; apply qB; first | kernel_rfl | omega) | omega | skip)
    (refine AskI.ret (c134v) ?_; simp only [go_sem,↓dP,↓reduceIte]; with_reducible and_intros; all_goals first | apply qA | exact ⟨⟩ | rfl | (intros; apply qB; first | kernel_rfl | omega) | omega | skip)
    refine Ok.seq ?_
    ((first | refine qS rfl rfl ?_ | refine qR rfl rfl ?_); simp only [go_sem,↓dP,↓reduceIte]; with_reducible and_intros; all_goals first | apply qA | exact ⟨⟩ | rfl | (intros; apply qB; first | kernel_rfl | omega) | omega | skip)
    (try dsimp only [thenK,blockK,noGotoK])
    refine Ok.block ?_
    ((first | refine qS rfl rfl ?_ | refine qR rfl rfl ?_); simp only [go_sem,↓dP,↓reduceIte]; with_reducible and_intros; all_goals first | apply qA | exact ⟨⟩ | rfl | (intros; apply qB; first | kernel_rfl | omega) | omega | skip)
    (refine AskI.ret (c137) ?_; simp only [go_sem,↓dP,↓reduceIte]; with_reducible and_intros; all_goals first | apply qA | exact ⟨⟩ | rfl | (intros; apply qB; first | kernel_rfl | omega) | omega | skip)
    refine Ok.cond rfl ?_ ?_
    · intro hb
      have hb' : V.getD 0 default = boardW:=by simpa using hb
      ((first | refine qS rfl rfl ?_ | refine qR rfl rfl ?_); simp only [go_sem,↓dP,↓reduceIte]; with_reducible and_intros; all_goals first | apply qA | exact ⟨⟩ | rfl | (intros; apply qB; first | kernel_rfl | omega) | omega | skip)
      by_cases hn : nums (V.drop 1) 1
      rotate_left
      · obtain ⟨x,hx⟩:=given_no V 1 1 ((V.length : Int) - 1).toNat 1 hn (by omega) (by omega) rfl hV0
        (refine AskI.pan (hx) ?_; simp only [go_sem,↓dP,↓reduceIte]; with_reducible and_intros; all_goals first | apply qA | exact ⟨⟩ | rfl | (intros; apply qB; first | kernel_rfl | omega) | omega | skip)
        · exact hpf (by rw [stepP_board hV hb',if_neg hn])
        · exact ⟨_,.refl _⟩
      have hln:=numsD_len hn
      (refine AskI.ret (given1 V _ _ hn (by omega) (by omega) rfl) ?_; simp only [go_sem,↓dP,↓reduceIte]; with_reducible and_intros; all_goals first | apply qA | exact ⟨⟩ | rfl | (intros; apply qB; first | kernel_rfl | omega) | omega | skip)
      refine Ok.sub (σ':=⟨[(0,.d (.str t)),(2,.p 0 0),(5,.p 1 0),(51,.d (strsD (midL rows))),(52,iS (midL rows).length),(53,iS i),(9,.d (slD 1 intD [nth' V 1]))],
    [streetB default,{ frz:=false,xs:=[iS (nth' W 1),iS (nth' W 2),iS (nth' W 3),iS (nth' W 4),iS (nth' W 5),iS (nth' W 6),.tk 0,.tk 2] }],
    [ownD 38 2 boaD (bsOf cur),.dead,ownD 48 5 bloD ks]⟩) ?_ ?_
      · rcases cur with _ | ⟨bs,a,ls⟩
        · simp only [bsOf,curT,curL]
          (refine Sub.of ([0,1]) ([some 0,some 1,some 2]) ?_ ?_ ?_ rfl rfl <;> simp only [subB,subB1,subT,subT1,newT,subE,subV,subL,go_sem,↓dP,↓reduceIte] <;> (try (repeat' with_reducible apply And.intro)) <;> (try first | exact DEq.refl _ | refine DEq.int ?_ | refine DEq.bool ?_ | omega))
          all_goals exact fun _ _ _ _ => DEq.refl _
        · simp only [bsOf,curT,curL]
          refine Sub.trans (Sub.close (i:=0) (j:=1) rfl rfl) ?_
          (refine Sub.of ([0,1]) ([some 0,some 1,some 2]) ?_ ?_ ?_ rfl rfl <;> simp only [subB,subB1,subT,subT1,newT,subE,subV,subL,go_sem,↓dP,↓reduceIte] <;> (try (repeat' with_reducible apply And.intro)) <;> (try first | exact DEq.refl _ | refine DEq.int ?_ | refine DEq.bool ?_ | omega))
          · simp
          · exact fun i j hi hj => close_D bs a ls i j hi hj
          · exact fun _ _ _ _ => DEq.refl _
      ((first | refine qS rfl rfl ?_ | refine qR rfl rfl ?_); simp only [go_sem,↓dP,↓reduceIte]; with_reducible and_intros; all_goals first | apply qA | exact ⟨⟩ | rfl | (intros; apply qB; first | kernel_rfl | omega) | omega | skip)
      (try dsimp only [thenK,blockK,noGotoK])
      ((first | refine qS rfl rfl ?_ | refine qR rfl rfl ?_); simp only [go_sem,↓dP,↓reduceIte]; with_reducible and_intros; all_goals first | apply qA | exact ⟨⟩ | rfl | (intros; apply qB; first | kernel_rfl | omega) | omega | skip)
      (try dsimp only [thenK,blockK,noGotoK])
      have hnx : preL (midL rows) (i + 1) = some (some (bsOf cur,nth' V 1,[]),ks):=by
        rw [preL_succ _ hi,hst,hrow]
        exact (stepP_board hV hb').trans (if_pos hn)
      refine ⟨⟨_,hnx⟩,?_⟩
      simp only [hnx,Option.getD_some,parSt,curT,curL]
      refine Sub.trans (Sub.link (i:=3) (e':=45) (k':=4) (c:=1) (h':=fun _ => letD default) rfl (by omega) (by simp; rfl) (by omega)) ?_
      (refine Sub.of ([0,1]) ([some 3,some 4,some 2]) ?_ ?_ ?_ rfl rfl <;> simp only [subB,subB1,subT,subT1,newT,subE,subV,subL,go_sem,↓dP,↓reduceIte] <;> (try (repeat' with_reducible apply And.intro)) <;> (try first | exact DEq.refl _ | refine DEq.int ?_ | refine DEq.bool ?_ | omega))
      all_goals exact fun _ _ _ _ => DEq.refl _
    · intro hb
      have hb' : V.getD 0 default ≠ boardW:=by simpa using hb
      ((first | refine qS rfl rfl ?_ | refine qR rfl rfl ?_); simp only [go_sem,↓dP,↓reduceIte]; with_reducible and_intros; all_goals first | apply qA | exact ⟨⟩ | rfl | (intros; apply qB; first | kernel_rfl | omega) | omega | skip)
      (refine AskI.ret (c137) ?_; simp only [go_sem,↓dP,↓reduceIte]; with_reducible and_intros; all_goals first | apply qA | exact ⟨⟩ | rfl | (intros; apply qB; first | kernel_rfl | omega) | omega | skip)
      refine Ok.cond rfl ?_ ?_
      · intro hl
        have hl' : V.getD 0 default = letterW:=by simpa using hl
        ((first | refine qS rfl rfl ?_ | refine qR rfl rfl ?_); simp only [go_sem,↓dP,↓reduceIte]; with_reducible and_intros; all_goals first | apply qA | exact ⟨⟩ | rfl | (intros; apply qB; first | kernel_rfl | omega) | omega | skip)
        by_cases hn : nums (V.drop 1) 4
        rotate_left
        · obtain ⟨x,hx⟩:=given_no V 1 4 ((V.length : Int) - 1).toNat 4 hn (by omega) (by omega) rfl hV0
          (refine AskI.pan (hx) ?_; simp only [go_sem,↓dP,↓reduceIte]; with_reducible and_intros; all_goals first | apply qA | exact ⟨⟩ | rfl | (intros; apply qB; first | kernel_rfl | omega) | omega | skip)
          · exact hpf (by rw [stepP_letter hV hb' hl',if_neg hn])
          · exact ⟨_,.refl _⟩
        have hln:=numsD_len hn
        (refine AskI.ret (given4 V _ _ hn (by omega) (by omega) rfl) ?_; simp only [go_sem,↓dP,↓reduceIte]; with_reducible and_intros; all_goals first | apply qA | exact ⟨⟩ | rfl | (intros; apply qB; first | kernel_rfl | omega) | omega | skip)
        have hstep : stepP (cur,ks) r = _:=(stepP_letter hV hb' hl').trans (if_pos hn)
        rcases cur with _ | ⟨bs,a,ls⟩
        · simp only [curT,curL]
          ((first | refine qS rfl rfl ?_ | refine qR rfl rfl ?_); simp only [go_sem,↓dP,↓reduceIte]; with_reducible and_intros; all_goals first | apply qA | exact ⟨⟩ | rfl | (intros; apply qB; first | kernel_rfl | omega) | omega | skip)
          (refine AskI.pan (c135_ifno rfl _) ?_; simp only [go_sem,↓dP,↓reduceIte]; with_reducible and_intros; all_goals first | apply qA | exact ⟨⟩ | rfl | (intros; apply qB; first | kernel_rfl | omega) | omega | skip)
          · exact hpf hstep
          · exact ⟨_,.refl _⟩
        · simp only [curT,curL]
          have hb0 : decide (0 < ((bs.length + 1 : Nat) : Int)) = true:=by simp
          have hbs : bs.length + 1 ≤ 500:=by simpa [bsOf] using hbl
          have hls : ls.length ≤ 500:=by
            simp only [nrows,bsOf,List.flatMap_append,List.flatMap_cons,List.flatMap_nil,boardRows,List.length_append,List.length_cons,List.length_nil,List.length_map] at hnr
            omega
          ((first | refine qS rfl rfl ?_ | refine qR rfl rfl ?_); simp only [go_sem,↓dP,↓reduceIte]; with_reducible and_intros; all_goals first | apply qA | exact ⟨⟩ | rfl | (intros; apply qB; first | kernel_rfl | omega) | omega | skip)
          (refine AskI.ret (c135_if hb0 _) ?_; simp only [go_sem,↓dP,↓reduceIte]; with_reducible and_intros; all_goals first | apply qA | exact ⟨⟩ | rfl | (intros; apply qB; first | kernel_rfl | omega) | omega | skip)
          ((first | refine qS rfl rfl ?_ | refine qR rfl rfl ?_); simp only [go_sem,↓dP,↓reduceIte]; with_reducible and_intros; all_goals first | apply qA | exact ⟨⟩ | rfl | (intros; apply qB; first | kernel_rfl | omega) | omega | skip)
          ((first | refine qS rfl rfl ?_ | refine qR rfl rfl ?_); simp only [go_sem,↓dP,↓reduceIte]; with_reducible and_intros; all_goals first | apply qA | exact ⟨⟩ | rfl | (intros; apply qB; first | kernel_rfl | omega) | omega | skip)
          (try dsimp only [thenK,blockK,noGotoK])
          ((first | refine qS rfl rfl ?_ | refine qR rfl rfl ?_); simp only [go_sem,↓dP,↓reduceIte]; with_reducible and_intros; all_goals first | apply qA | exact ⟨⟩ | rfl | (intros; apply qB; first | kernel_rfl | omega) | omega | skip)
          (try dsimp only [thenK,blockK,noGotoK])
          have hnx : preL (midL rows) (i + 1) = some (some (bs,a,ls ++ [⟨nth' V 1,nth' V 2,nth' V 3,nth' V 4⟩]),ks):=by
            rw [preL_succ _ hi,hst,hrow]
            exact hstep
          refine ⟨⟨_,hnx⟩,?_⟩
          simp only [hnx,Option.getD_some]
          (refine Sub.of ([0,1]) ([some 0,some 3,some 2]) ?_ ?_ ?_ rfl rfl <;> simp only [subB,subB1,subT,subT1,newT,subE,subV,subL,go_sem,↓dP,↓reduceIte] <;> (try (repeat' with_reducible apply And.intro)) <;> (try first | exact DEq.refl _ | refine DEq.int ?_ | refine DEq.bool ?_ | omega))
          all_goals first
            | exact fun _ _ _ _ => DEq.refl _
            | exact snoc_D (fun c hc => by match c,hc with | 0,_ | 1,_ | 2,_ | 3,_ => rfl)
            | simp
      · intro hl
        have hl' : V.getD 0 default ≠ letterW:=by simpa using hl
        ((first | refine qS rfl rfl ?_ | refine qR rfl rfl ?_); simp only [go_sem,↓dP,↓reduceIte]; with_reducible and_intros; all_goals first | apply qA | exact ⟨⟩ | rfl | (intros; apply qB; first | kernel_rfl | omega) | omega | skip)
        by_cases hV6 : V.length = 6
        rotate_left
        · have hc6 : decide ((V.length : Int) = 6) = false:=by simp; omega
          (refine AskI.pan (c135_ifno hc6 _) ?_; simp only [go_sem,↓dP,↓reduceIte]; with_reducible and_intros; all_goals first | apply qA | exact ⟨⟩ | rfl | (intros; apply qB; first | kernel_rfl | omega) | omega | skip)
          · exact hpf (by rw [stepP_block hV hb' hl',if_neg (fun q => hV6 q.1)])
          · exact ⟨_,.refl _⟩
        have hc6 : decide ((V.length : Int) = 6) = true:=by simp; omega
        (refine AskI.ret (c135_if hc6 _) ?_; simp only [go_sem,↓dP,↓reduceIte]; with_reducible and_intros; all_goals first | apply qA | exact ⟨⟩ | rfl | (intros; apply qB; first | kernel_rfl | omega) | omega | skip)
        ((first | refine qS rfl rfl ?_ | refine qR rfl rfl ?_); simp only [go_sem,↓dP,↓reduceIte]; with_reducible and_intros; all_goals first | apply qA | exact ⟨⟩ | rfl | (intros; apply qB; first | kernel_rfl | omega) | omega | skip)
        by_cases hn : nums (V.drop 2) 4
        rotate_left
        · obtain ⟨x,hx⟩:=given_no V 2 4 ((V.length : Int) - 2).toNat 4 hn (by omega) (by omega) rfl (by omega)
          (refine AskI.pan (hx) ?_; simp only [go_sem,↓dP,↓reduceIte]; with_reducible and_intros; all_goals first | apply qA | exact ⟨⟩ | rfl | (intros; apply qB; first | kernel_rfl | omega) | omega | skip)
          · exact hpf (by rw [stepP_block hV hb' hl',if_neg (fun q => hn q.2)])
          · exact ⟨_,.refl _⟩
        have hln:=numsD_len hn
        (refine AskI.ret (given4' V _ _ hn (by omega) (by omega) rfl) ?_; simp only [go_sem,↓dP,↓reduceIte]; with_reducible and_intros; all_goals first | apply qA | exact ⟨⟩ | rfl | (intros; apply qB; first | kernel_rfl | omega) | omega | skip)
        have hstep : stepP (cur,ks) r = _:=(stepP_block hV hb' hl').trans (if_pos ⟨hV6,hn⟩)
        ((first | refine qS rfl rfl ?_ | refine qR rfl rfl ?_); simp only [go_sem,↓dP,↓reduceIte]; with_reducible and_intros; all_goals first | apply qA | exact ⟨⟩ | rfl | (intros; apply qB; first | kernel_rfl | omega) | omega | skip)
        (try dsimp only [thenK,blockK,noGotoK])
        ((first | refine qS rfl rfl ?_ | refine qR rfl rfl ?_); simp only [go_sem,↓dP,↓reduceIte]; with_reducible and_intros; all_goals first | apply qA | exact ⟨⟩ | rfl | (intros; apply qB; first | kernel_rfl | omega) | omega | skip)
        (try dsimp only [thenK,blockK,noGotoK])
        have hnx : preL (midL rows) (i + 1) = some (cur,ks ++ [⟨nth' V 2,nth' V 3,nth' V 4,nth' V 5,V.getD 1 default == [115,117,114,101]⟩]):=by
          rw [preL_succ _ hi,hst,hrow]
          exact hstep
        refine ⟨⟨_,hnx⟩,?_⟩
        simp only [hnx,Option.getD_some]
        rcases cur with _ | ⟨bs,a,ls⟩ <;> simp only [curT,curL]
        · (refine Sub.of ([0,1]) ([some 0,some 1,some 3]) ?_ ?_ ?_ rfl rfl <;> simp only [subB,subB1,subT,subT1,newT,subE,subV,subL,go_sem,↓dP,↓reduceIte] <;> (try (repeat' with_reducible apply And.intro)) <;> (try first | exact DEq.refl _ | refine DEq.int ?_ | refine DEq.bool ?_ | omega))
          all_goals first
            | exact fun _ _ _ _ => DEq.refl _
            | exact snoc_D (fun c hc => by match c,hc with | 0,_ | 1,_ | 2,_ | 3,_ | 4,_ => rfl)
            | simp
        · (refine Sub.of ([0,1]) ([some 0,some 1,some 3]) ?_ ?_ ?_ rfl rfl <;> simp only [subB,subB1,subT,subT1,newT,subE,subV,subL,go_sem,↓dP,↓reduceIte] <;> (try (repeat' with_reducible apply And.intro)) <;> (try first | exact DEq.refl _ | refine DEq.int ?_ | refine DEq.bool ?_ | omega))
          all_goals first
            | exact fun _ _ _ _ => DEq.refl _
            | exact snoc_D (fun c hc => by match c,hc with | 0,_ | 1,_ | 2,_ | 3,_ | 4,_ => rfl)
            | simp
  · rintro ⟨⟨cur,ks⟩,hst⟩
    obtain ⟨hpl,hnr⟩:=preL_plain (midL rows) _ _ (Nat.le_refl _) hst
    have hfin:=parse_all hr hW h3 h6 hst
    simp only [hst,Option.getD_some,parSt]
    have hsm : (mkS W (cur,ks)).small:=(mkS_plain h6 hpl).small (by simp only [nrows] at hnr; show ((bsOf cur).flatMap boardRows).length + ks.length ≤ 600; omega)
    (((first | refine qS rfl rfl ?_ | refine qR rfl rfl ?_); simp only [go_sem,↓dP,↓reduceIte]; with_reducible and_intros; all_goals first | apply qA | exact ⟨⟩ | rfl | (intros; apply qB; first | kernel_rfl | omega) | omega | skip)); refine Ok.seq ?_; refine Ok.cond rfl (fun hb => by simp at hb) (fun _ => ?_); (refine Ok.exit ?_; simp only [thenK_exit,blockK_exit,noGotoK_exit,thenK_normal,blockK_normal,noGotoK_normal,↓reduceIte,Nat.reduceEqDiff])
    refine Ok.sub (σ':=⟨[(0,.d (.str t)),(2,.p 0 0),(5,.p 1 0)],
    [streetB default,{ frz:=false,xs:=[iS (nth' W 1),iS (nth' W 2),iS (nth' W 3),iS (nth' W 4),iS (nth' W 5),iS (nth' W 6),.tk 0,.tk 1] }],
    [ownD 38 2 boaD (bsOf cur),ownD 48 5 bloD ks]⟩) ?_ ?_
    · rcases cur with _ | ⟨bs,a,ls⟩ <;> simp only [curT,curL,bsOf]
      · (refine Sub.of ([0,1]) ([some 0,some 2]) ?_ ?_ ?_ rfl rfl <;> simp only [subB,subB1,subT,subT1,newT,subE,subV,subL,go_sem,↓dP,↓reduceIte] <;> (try (repeat' with_reducible apply And.intro)) <;> (try first | exact DEq.refl _ | refine DEq.int ?_ | refine DEq.bool ?_ | omega))
        all_goals exact fun _ _ _ _ => DEq.refl _
      · refine Sub.trans (Sub.close (i:=0) (j:=1) rfl rfl) ?_
        (refine Sub.of ([0,1]) ([some 0,some 2]) ?_ ?_ ?_ rfl rfl <;> simp only [subB,subB1,subT,subT1,newT,subE,subV,subL,go_sem,↓dP,↓reduceIte] <;> (try (repeat' with_reducible apply And.intro)) <;> (try first | exact DEq.refl _ | refine DEq.int ?_ | refine DEq.bool ?_ | omega))
        · simp
        · exact fun i j hi hj => close_D bs a ls i j hi hj
        · exact fun _ _ _ _ => DEq.refl _
    ((first | refine qS rfl rfl ?_ | refine qR rfl rfl ?_); simp only [go_sem,↓dP,↓reduceIte]; with_reducible and_intros; all_goals first | apply qA | exact ⟨⟩ | rfl | (intros; apply qB; first | kernel_rfl | omega) | omega | skip)
    (refine AskI.ret (c104 (mkS W (cur,ks)) hsm) ?_; simp only [go_sem,↓dP,↓reduceIte]; with_reducible and_intros; all_goals first | apply qA | exact ⟨⟩ | rfl | (intros; apply qB; first | kernel_rfl | omega) | omega | skip)
    by_cases heq : sealedL (rowsOf (mkS W (cur,ks))) = t
    rotate_left
    · have hq : (sealedL (rowsOf (mkS W (cur,ks))) == t) = false:=by simpa using heq
      (refine AskI.pan (c135_ifno hq _) ?_; simp only [go_sem,↓dP,↓reduceIte]; with_reducible and_intros; all_goals first | apply qA | exact ⟨⟩ | rfl | (intros; apply qB; first | kernel_rfl | omega) | omega | skip)
      · exact hfin.trans (if_neg heq)
      · exact ⟨_,.refl _⟩
    have hq : (sealedL (rowsOf (mkS W (cur,ks))) == t) = true:=by simpa using heq
    (refine AskI.ret (c135_if hq _) ?_; simp only [go_sem,↓dP,↓reduceIte]; with_reducible and_intros; all_goals first | apply qA | exact ⟨⟩ | rfl | (intros; apply qB; first | kernel_rfl | omega) | omega | skip)
    ((first | refine qS rfl rfl ?_ | refine qR rfl rfl ?_); simp only [go_sem,↓dP,↓reduceIte]; with_reducible and_intros; all_goals first | apply qA | exact ⟨⟩ | rfl | (intros; apply qB; first | kernel_rfl | omega) | omega | skip)
    refine Ok.ret ?_
    (try dsimp only [thenK,blockK,noGotoK])
    refine ⟨_,hfin.trans (if_pos heq),?_⟩
    ((try dsimp only [thenK,blockK,noGotoK]); simp only [toList_mk,List.toList_toArray,retK_ret,retK_normal,resOK,resV,celV,rowV,frzAll,frzT,subV,subL,go_sem,↓dP,↓reduceIte])
    exact ⟨.refl _,.refl _,.refl _,.refl _,.refl _,.refl _,.refl _,.refl _⟩
end Go.Proofs.Sight
namespace Go.Proofs.Sight
open Go Go.RX Go.Proofs Go.RowKit
attribute [local go_sem] Oper.semAt_some
set_option maxRecDepth 100000
set_option maxHeartbeats 4000000 in

theorem catch_text (B1 B2 : Nat) (s : ByteArray) (a b z : Int) (hne : B1 ≠ B2) (w : World) (h1 : w.heap[B1]? = some (.cells #[.int .i64 a,.int .i64 b] 58)) (h2 : w.heap[B2]? = some (.cells #[.int .i64 z] 30)) :
    CallsD Tryz.prog 94 #[.pointer (some ⟨B1,0,none⟩),.pointer (some ⟨B2,0,none⟩)] (.panicking [{ v:=.iface 139 (.agg #[.string s]),recovered:=false }]) w fun e u' w' => e = .returned (.tuple #[]) ∧ settle u' = .returning ∧
      w'.heap[B1]? = some (.cells #[.int .i64 a,.int .i64 b] 58) ∧ w'.heap[B2]? = some (.cells #[.int .i64 4] 30) ∧ w'.heap.size = w.heap.size + 1 ∧ (∀ k,k < w.heap.size → k ≠ B1 → k ≠ B2 → w'.heap[k]? = w.heap[k]?) ∧ w'.os = w.os ∧ w'.tape = w.tape ∧ w'.output = w.output:=by
  refine callsD_of_wpS Tryz.func94 rfl fun c₀ cs hu => ?_
  have hnil : ∀ (v : Value) (w : World),(binOp BinOp.eql 20 (.iface 139 v) .nilIface).run Tryz.prog w = .ok (.bool false) w:=fun _ _ => by kernel_rfl
  have hta : ∀ (v : Value) (w : World),(Instr.typeAssert (.iface 139 v) 20 137 true).run Tryz.prog w = .ok (.tuple #[.agg #[.int .i64 0,.int .i64 0],.bool false]) w:=fun _ _ => by kernel_rfl
  have htb : ∀ (v : Value) (w : World),(Instr.typeAssert (.iface 139 v) 20 139 true).run Tryz.prog w = .ok (.tuple #[v,.bool true]) w:=fun _ _ => by kernel_rfl
  have hA1:=al_old (.cells #[.string s] 139) h1
  have hA2:=al_old (.cells #[.string s] 139) h2
  have f2 : (w.alloc (.cells #[.string s] 139)).frozen? ⟨B2,0,none⟩ = false:=by simp [World.frozen?,hA2]
  have g20:=cellAt hA2 0
  simp only [List.getElem?_toArray,List.getElem?_cons_zero,List.getElem?_cons_succ] at g20
  simp only [Tryz.ntmps94,List.size_toArray,List.length_cons,List.length_nil,Nat.reduceAdd,Nat.reduceSub,Array.replicate_succ,Array.replicate_zero,List.push_toArray,List.append_toArray,List.nil_append,List.cons_append]
  apply wpS_seq
  apply wpS_region
  simp [wpOpsS,go_sem,recoverD,hu,Exit.thenS]
  refine wpS_of_wp ?_
  go_wp2
  refine ⟨rfl,.panicking [{ v:=.iface 139 (.agg #[.string s]),recovered:=true }],rfl,.tuple #[],results_none rfl _ _ _,rfl,rfl,?_⟩
  have s3:=(Below.heap_setCell _ ⟨B2,0,none⟩ (.int .i64 4) B1 hne).trans hA1
  have t3:=st_same hA2 0 (.int .i64 4)
  refine ⟨s3,t3,?_,fun k hk h1 h2 => ?_,rfl,rfl,rfl⟩
  · simp [World.setCell,Array.size_modify]
  · rw [Below.heap_setCell _ _ _ k h2,Below.heap_alloc _ _ k hk]
set_option maxHeartbeats 4000000 in
theorem att_no (f : Nat) (caps : Array Value) (w : World) (hent : ∃ fn,Tryz.prog.funcs[f]? = some fn ∧ (fn.name == "runtime.NumGoroutine") = false ∧ fn.body.isNone = false)
    (hf : ∀ W2,Below w.heap.size w W2 → W2.heap.size = w.heap.size + 1 + 1 → Calls Tryz.prog f caps W2 fun e w1 => ∃ s,e = .panicked [{ v:=.iface 139 (.agg #[.string s]),recovered:=false }] ∧ Below W2.heap.size W2 w1) :
    Calls Tryz.prog 61 #[.func (.func f) #[] caps] w fun e w' => e = .returned (.tuple #[.agg #[.int .i64 0,.int .i64 0],.int .i64 4]) ∧ Below w.heap.size w w':=by
  have hmf : ∀ (fn : Fn) (first cap : Array Value) (w : World),(Instr.makeFunc fn first cap).run Tryz.prog w = .ok (.func fn first cap) w:=fun _ _ _ _ => rfl
  have he:=enters_of' hent
  refine calls_of_wp_defers Tryz.func61 rfl ?_
  simp only [Tryz.ntmps61,List.size_toArray,List.length_cons,List.length_nil,Nat.reduceAdd,Nat.reduceSub,Array.replicate_succ,Array.replicate_zero,List.push_toArray,List.append_toArray,List.nil_append,List.cons_append]
  go_wp2
  obtain ⟨W2,hW2⟩ : ∃ W2,(w.alloc (.cells #[.int .i64 0,.int .i64 0] 58)).alloc (.cells #[.int .i64 0] 30) = W2:=⟨_,rfl⟩
  have k0 : W2.heap[w.heap.size]? = some (.cells #[.int .i64 0,.int .i64 0] 58):=by rw [← hW2]; exact al_old _ (al_new _ rfl)
  have k1 : W2.heap[w.heap.size + 1]? = some (.cells #[.int .i64 0] 30):=by rw [← hW2]; exact al_new _ (al_sz _ rfl)
  have hB2 : Below w.heap.size w W2:=by rw [← hW2]; exact ((Below.refl _ w).alloc (Nat.le_refl _) _).alloc (by simp) _
  have hz2 : W2.heap.size = w.heap.size + 1 + 1:=by rw [← hW2]; exact al_sz _ (al_sz _ rfl)
  rw [hW2]
  refine (hf W2 hB2 hz2).mono ?_
  rintro e w1 ⟨s,rfl,hB1⟩
  have hk0:=(hB1.block _ (by omega)).trans k0
  have hk1:=(hB1.block _ (by omega)).trans k1
  have hne : w.heap.size ≠ w.heap.size + 1:=by omega
  have hsz1:=hB1.size
  refine leaves_cons (f:=94) (args:=#[.pointer (some ⟨w.heap.size,0,none⟩),.pointer (some ⟨w.heap.size + 1,0,none⟩)]) (by simp) (by simp [go_sem]) ?_
  refine (catch_text w.heap.size (w.heap.size + 1) s 0 0 0 hne _ hk0 hk1).mono ?_
  rintro e u' w'' ⟨rfl,hset,m0,m1,hz,hkk,ho,ht,hout⟩
  have q0:=cellAt m0
  have q00:=q0 0
  have q01:=q0 1
  have q10:=cellAt m1 0
  clear q0
  simp only [List.getElem?_toArray,List.getElem?_cons_zero,List.getElem?_cons_succ] at q00 q01 q10
  simp only [hset]
  simp [Leaves,results,Tryz.results61,go_sem,q00,q01,q10]
  exact (hB2.trans (hB1.mono (by omega))).trans ⟨ho,ht,hout,by omega,fun k hk => hkk k (by omega) (by omega) (by omega)⟩
theorem noT_vals {I : Nat → Prop} {w : World} {v : Value} {x : List UInt8} (h : Rep I w v (noT x)) : ∃ s,v = .iface 139 (.agg #[.string s]):=by
  cases h with
  | @ifc t n c us hl hr =>
    obtain ⟨l⟩:=us
    match l,hl with
    | [y],_ =>
      have h0:=hr 0 y rfl
      change Rep I w y (.str x) at h0
      cases h0; exact ⟨_,rfl⟩
set_option maxHeartbeats 1000000 in
theorem cls_no (t : List UInt8) (hp : CtrN Tryz.prog 70 [.d (.str t)]) (B Q : Nat) (W : World) (hG : Tabs W) (hB : W.heap[B]? = some (.cells #[.string ⟨t.toArray⟩] 9)) :
    Calls Tryz.prog 69 #[.pointer (some ⟨B,0,none⟩),.pointer (some ⟨Q,0,none⟩)] W fun e w1 => ∃ s,e = .panicked [{ v:=.iface 139 (.agg #[.string s]),recovered:=false }] ∧ Below W.heap.size W w1:=by
  have hcall:=hp.2 (fun _ => False) W #[.string ⟨t.toArray⟩] hG (fun k hk => hk.elim) rfl (fun j u y hu hy => by
    cases j with
    | zero => simp at hu hy; subst hu; subst hy; exact RepS.of (rep_str' _ _ _)
    | succ j => simp at hy)
  have g:=cellAt hB 0
  simp only [List.getElem?_toArray,List.getElem?_cons_zero,List.getElem?_cons_succ] at g
  go_enter Tryz.func69,Tryz.ntmps69
  go_wp2_with (go_at_call 70; refine hcall.mono ?_; rintro e w1 ⟨v,x,I',rfl,_,_,hv,hW1⟩; obtain ⟨s,rfl⟩:=noT_vals hv)
  exact ⟨rfl,s,rfl,hW1⟩
theorem att_none (t : List UInt8) (hp : CtrN Tryz.prog 70 [.d (.str t)]) (w : World) (hG : Tabs w) :
    Calls Tryz.prog 61 #[.func (.func 69) #[] #[.pointer (some ⟨w.heap.size,0,none⟩),.pointer (some ⟨w.heap.size + 1 + 1,0,none⟩)]] (readW w t) fun e w' => e = .returned (.tuple #[.agg #[.int .i64 0,.int .i64 0],.int .i64 4]) ∧ Below (readW w t).heap.size (readW w t) w':=by
  have hz:=readW_size w t
  have k0 : (readW w t).heap[w.heap.size]? = some (.cells #[.string ⟨t.toArray⟩] 9):=al_old _ (al_old _ (al_new _ rfl))
  have hBW : Below w.heap.size w (readW w t):=(((Below.refl _ w).alloc (Nat.le_refl _) _).alloc (by simp) _).alloc (by simp; omega) _
  refine att_no 69 _ (readW w t) ⟨Tryz.f69,Tryz.func69,rfl,rfl⟩ (fun W2 hB2 hz2 => ?_)
  exact cls_no t hp w.heap.size (w.heap.size + 1 + 1) W2 (Tabs.st _ _ (Tabs.st _ _ hG hBW) hB2) ((hB2.block _ (by omega)).trans k0)
abbrev noS : SV:=.agg [iS 0,iS 0,iS 0,iS 0,iS 0,iS 0,.d .nils,.d .nils]
theorem noS_rep (I : Nat → Prop) (w : World) (e : Int) : RepS I w (.tuple #[.agg zero8,.int .i64 e]) (.tup [noS,iS e]):=by
  intro Y
  refine .tup rfl (fun j u x hu hx => ?_)
  match j,hu,hx with
  | 0,hu,hx =>
    simp at hu hx; subst hu; subst hx
    exact Fits.reps (cs:=[.int .i64 0,.int .i64 0,.int .i64 0,.int .i64 0,.int .i64 0,.int .i64 0,.slice none 0 0,.slice none 0 0]) (xs:=[iD 0,iD 0,iD 0,iD 0,iD 0,iD 0,.nils,.nils]) (.cons .int (.cons .int (.cons .int (.cons .int (.cons .int (.cons .int (.cons .nils (.cons .nils .nil)))))))) Y
  | 1,hu,hx => simp at hu hx; subst hu; subst hx; exact .d .int
  | j + 2,hu,hx => simp at hu
set_option maxHeartbeats 1000000 in
theorem c64_text (t : List UInt8) (hp : CtrN Tryz.prog 70 [.d (.str t)]) (ht : t.length ≤ 450) : Ctr Tryz.prog 34 [.d (.str t)] (.tup [noS,iS 4]):=by
  refine ⟨⟨Tryz.f34,Tryz.func34,rfl,rfl⟩,fun I w vs hG hI hsz hrep => ?_⟩
  obtain ⟨v0,rfl⟩ : ∃ v0,vs = #[v0]:=by
    obtain ⟨l⟩:=vs
    match l,hsz with
    | [a],_ => exact ⟨a,rfl⟩
  obtain rfl:=str_val (hrep 0 v0 _ rfl rfl)
  have hl : ¬ (450 : Int) < (t.length : Int):=by omega
  have hatt:=att_none t hp w hG
  have k1 : (readW w t).heap[w.heap.size + 1]? = some (.cells zero8 27):=al_old _ (al_new _ (al_sz _ rfl))
  have hz:=readW_size w t
  have hBW : Below w.heap.size w (readW w t):=(((Below.refl _ w).alloc (Nat.le_refl _) _).alloc (by simp) _).alloc (by simp; omega) _
  have hmf : ∀ (fn : Fn) (first cap : Array Value) (w : World),(Instr.makeFunc fn first cap).run Tryz.prog w = .ok (.func fn first cap) w:=fun _ _ _ _ => rfl
  go_enter Tryz.func34,Tryz.ntmps34
  go_wp2_with (go_at_call 61; refine hatt.mono ?_; rintro e w1 ⟨rfl,hX⟩; have hz1:=hX.size; have hR1:=(hX.block _ (by omega)).trans k1; have hR2:=al_old (.cells #[.int .i64 0,.int .i64 0] 58) hR1; have r:=cellAt hR2; have r0:=r 0; have r1:=r 1; have r2:=r 2; have r3:=r 3; have r4:=r 4; have r5:=r 5; have r6:=r 6; have r7:=r 7; clear r; simp only [zero8,List.getElem?_toArray,List.getElem?_cons_zero,List.getElem?_cons_succ] at r0 r1 r2 r3 r4 r5 r6 r7; have fz : ∀ o,(w1.alloc (.cells #[.int .i64 0,.int .i64 0] 58)).frozen? ⟨w.heap.size + 1,o,none⟩ = false:=fun o => by simp [World.frozen?,hR2])
  obtain ⟨W',hW'⟩ : ∃ W',put8 (w1.alloc (.cells #[.int .i64 0,.int .i64 0] 58)) (w.heap.size + 1) (.int .i64 0) (.int .i64 0) (.int .i64 0) (.int .i64 0) (.int .i64 0) (.int .i64 0) (.slice none 0 0) (.slice none 0 0) = W':=⟨_,rfl⟩
  have hput:=put8_at hR2 (.int .i64 0) (.int .i64 0) (.int .i64 0) (.int .i64 0) (.int .i64 0) (.int .i64 0) (.slice none 0 0) (.slice none 0 0)
  rw [hW'] at hput
  unfold put8 at hW'
  rw [hW']
  obtain ⟨s7,ho,hz',o1,o2,o3⟩:=hput
  have y:=cellAt s7
  have y0:=y 0
  have y1:=y 1
  have y2:=y 2
  have y3:=y 3
  have y4:=y 4
  have y5:=y 5
  have y6:=y 6
  have y7:=y 7
  clear y
  simp only [List.getElem?_toArray,List.getElem?_cons_zero,List.getElem?_cons_succ] at y0 y1 y2 y3 y4 y5 y6 y7
  have hB12 : Below w.heap.size w (w1.alloc (.cells #[.int .i64 0,.int .i64 0] 58)):=(hBW.trans (hX.mono (by omega))).alloc (by omega) _
  have hBf : Below w.heap.size w W':=⟨o1.trans hB12.os,o2.trans hB12.tape,o3.trans hB12.output,by rw [hz']; exact hB12.size,fun k hk => (ho k (by omega)).trans (hB12.block k hk)⟩
  refine bodyPost_ret (by simp [results,Tryz.results34,go_sem,y0,y1,y2,y3,y4,y5,y6,y7]; rfl) rfl ?_
  exact ⟨_,rfl,noS_rep _ _ _,hBf⟩
end Go.Proofs.Sight
namespace Go.Proofs.Sight
open Go Go.RX Go.Proofs
set_option maxRecDepth 10000
theorem ofNat_dig {n : Nat} (h : n < 10) : (UInt8.ofNat (48 + n)).toNat = 48 + n:=by
  rw [UInt8.toNat_ofNat']; omega
theorem dec_props (n : Nat) : (∀ b ∈ Lib.decDigits n,digit b = true) ∧ numL (Lib.decDigits n) = n ∧ Lib.decDigits n ≠ []:=by
  induction n using Nat.strongRecOn with
  | _ n ih =>
  by_cases h : n < 10
  · rw [Lib.decDigits_one h]
    have e:=ofNat_dig h
    refine ⟨fun b hb => ?_,?_,by simp⟩
    · simp only [List.mem_singleton] at hb
      subst hb
      simp only [digit,e,Bool.and_eq_true,decide_eq_true_eq]; omega
    · simp only [numL,List.foldl_cons,List.foldl_nil,e]; omega
  · obtain ⟨h1,h2,h3⟩:=ih (n / 10) (by omega)
    have e:=ofNat_dig (n:=n % 10) (by omega)
    rw [Lib.decDigits,dif_neg h]
    refine ⟨fun b hb => ?_,?_,by simp⟩
    · simp only [List.mem_append,List.mem_singleton] at hb
      rcases hb with hb | rfl
      · exact h1 b hb
      · simp only [digit,e,Bool.and_eq_true,decide_eq_true_eq]; omega
    · rw [numL_snoc,h2,e]; omega
theorem dec_len2 {n : Nat} (h : n < 100) : (Lib.decDigits n).length ≤ 2:=by
  by_cases h1 : n < 10
  · rw [Lib.decDigits_one h1]; simp
  · rw [Lib.decDigits_two h1 h]; simp
theorem dec_len3 {n : Nat} (h : n < 1000) : (Lib.decDigits n).length ≤ 3:=by
  by_cases h1 : n < 100
  · have:=dec_len2 h1; omega
  · have:=dec_len2 (n:=n / 10) (by omega)
    rw [Lib.decDigits,dif_neg (by omega)]
    simp only [List.length_append,List.length_cons,List.length_nil]; omega
theorem num_itoa {n : Int} (h : pl n) : isNum (Lib.itoa n) ∧ ((numL (Lib.itoa n) : Nat) : Int) = n:=by
  obtain ⟨h0,h1⟩:=h
  obtain ⟨u,rfl⟩ : ∃ u : Nat,n = u:=⟨n.toNat,by omega⟩
  rw [Lib.itoa_nonneg]
  obtain ⟨p1,p2,p3⟩:=dec_props u
  refine ⟨⟨p3,p1,dec_len3 (by omega),?_⟩,by rw [p2]⟩
  rw [p2,Lib.itoa_nonneg]
theorem dig_ne {b : UInt8} (h : digit b = true) : b ≠ 32 ∧ b ≠ 10:=by
  simp only [digit,Bool.and_eq_true,decide_eq_true_eq] at h
  constructor
  · rintro rfl; revert h; decide
  · rintro rfl; revert h; decide
theorem itoa_no {n : Int} (h : pl n) : 32 ∉ Lib.itoa n ∧ 10 ∉ Lib.itoa n:=by
  have:=(num_itoa h).1.2.1
  exact ⟨fun q => (dig_ne (this _ q)).1 rfl,fun q => (dig_ne (this _ q)).2 rfl⟩
theorem row_no10 : ∀ (ns : List Int) (w : List UInt8),(∀ n ∈ ns,pl n) → 10 ∉ w → 10 ∉ rowL w ns
  | [],w,_,hw => by rw [rowL_nil]; exact hw
  | n :: r,w,h,hw => by
    have e : rowL w (n :: r) = w ++ 32 :: rowL (Lib.itoa n) r:=by simp [rowL]
    rw [e]
    have:=row_no10 r (Lib.itoa n) (fun x hx => h x (List.mem_cons_of_mem _ hx)) (itoa_no (h n (List.mem_cons_self ..))).2
    simp only [List.mem_append,List.mem_cons,not_or]
    exact ⟨hw,by decide,this⟩
theorem Street.plain.no10 {s : Street} (h : s.plain) : ∀ r ∈ rowsOf s,10 ∉ r:=by
  intro r hr
  simp only [rowsOf,List.mem_cons,List.mem_append,List.mem_flatMap,List.mem_map,boardRows] at hr
  rcases hr with rfl | ⟨b,hb,rfl | ⟨x,hx,rfl⟩⟩ | ⟨k,hk,rfl⟩
  · exact row_no10 _ _ h.n (by decide)
  · exact row_no10 _ _ (fun n hn => by simp at hn; subst hn; exact h.b b hb) (by decide)
  · exact row_no10 _ _ (h.l b hb x hx) (by decide)
  · exact row_no10 _ _ (h.k k hk) (by unfold blockW; cases k.sure <;> decide)
theorem endL_no10 (c : Nat) : 10 ∉ endL c:=by
  have h:=fun n => (dec_props n).1
  have hn : ∀ n,10 ∉ Lib.decDigits n:=fun n q => (dig_ne (h n _ q)).2 rfl
  simp only [endL,List.mem_append,not_or]
  exact ⟨⟨⟨by decide,hn _⟩,hn _⟩,hn _⟩
theorem spl_flat : ∀ (l : List (List UInt8)) (x : List UInt8),(∀ r ∈ l,10 ∉ r) → spl 10 (flatL l ++ x) = l ++ spl 10 x
  | [],x,_ => rfl
  | r :: l,x,h => by
    have e : flatL (r :: l) ++ x = r ++ 10 :: (flatL l ++ x):=by simp [flatL]
    rw [e,spl_app 10 _ _ (h r (List.mem_cons_self ..)),spl_flat l x (fun y hy => h y (List.mem_cons_of_mem _ hy))]
    rfl
theorem spl_sealed {l : List (List UInt8)} (h : ∀ r ∈ l,10 ∉ r) : splitL (sealedL l) [10] = l ++ [endL (rowsSum 0 l % 179),[]]:=by
  rw [splitL_spl,sealedL,List.append_assoc,spl_flat _ _ h,spl_app 10 _ _ (endL_no10 _)]
  rfl
theorem parse_some {t : List UInt8} {s : Street} (h : parseP t = some s) : s.plain ∧ sealedL (rowsOf s) = t ∧ (s.bs.flatMap boardRows).length + s.ks.length ≤ t.length:=by
  have hl:=splitL_len t [10] (by decide)
  unfold parseP at h
  dsimp only at h
  split at h
  · rename_i h36
    split at h
    · cases h
    · rename_i st hst
      split at h
      · rename_i he
        simp only [Option.some.injEq] at h
        subst h
        obtain ⟨p1,p2⟩:=preL_plain _ _ st (Nat.le_refl _) hst
        refine ⟨mkS_plain h36.2 p1,he,?_⟩
        show nrows st ≤ _
        rw [p2]
        unfold midL
        rw [List.length_take,List.length_drop]; omega
      · cases h
  · cases h
end Go.Proofs.Sight
namespace Go.Proofs.Sight
open Go Go.RX Go.Proofs Go.RowKit
attribute [local go_sem] Oper.semAt_some
set_option maxRecDepth 100000
theorem four_ints {us vs : Array Value} {b : Bool} (h : us.toList.map isB = [false,false,false,false]) (he : eqVs us.toList vs.toList = some b) :
    ∃ k0 k1 k2 k3 x0 x1 x2 x3 y0 y1 y2 y3,us = #[.int k0 x0,.int k1 x1,.int k2 x2,.int k3 x3] ∧ vs = #[.int k0 y0,.int k1 y1,.int k2 y2,.int k3 y3] ∧ b = ((x0 == y0) && ((x1 == y1) && ((x2 == y2) && (x3 == y3)))):=by
  obtain ⟨us⟩:=us
  obtain ⟨vs⟩:=vs
  simp only at h he
  have hl : us.length = 4:=by simpa using congrArg List.length h
  match us,hl,h,he with
  | [u0,u1,u2,u3],_,h,he =>
    obtain ⟨k0,x0,y0,vs1,c1,rfl,rfl,h1,he1,rfl⟩:=eqVs_int h he
    obtain ⟨k1,x1,y1,vs2,c2,rfl,rfl,h2,he2,rfl⟩:=eqVs_int h1 he1
    obtain ⟨k2,x2,y2,vs3,c3,rfl,rfl,h3,he3,rfl⟩:=eqVs_int h2 he2
    obtain ⟨k3,x3,y3,vs4,c4,rfl,rfl,h4,he4,rfl⟩:=eqVs_int h3 he3
    obtain ⟨rfl,rfl⟩:=eqVs_nil he4
    exact ⟨k0,k1,k2,k3,x0,x1,x2,x3,y0,y1,y2,y3,rfl,rfl,by simp⟩
theorem four_ints_bool {us vs : Array Value} {b : Bool} (h : us.toList.map isB = [false,false,false,false,true]) (he : eqVs us.toList vs.toList = some b) :
    ∃ k0 k1 k2 k3 x0 x1 x2 x3 x4 y0 y1 y2 y3 y4,us = #[.int k0 x0,.int k1 x1,.int k2 x2,.int k3 x3,.bool x4] ∧ vs = #[.int k0 y0,.int k1 y1,.int k2 y2,.int k3 y3,.bool y4] ∧ b = ((x0 == y0) && ((x1 == y1) && ((x2 == y2) && ((x3 == y3) && (x4 == y4))))):=by
  obtain ⟨us⟩:=us
  obtain ⟨vs⟩:=vs
  simp only at h he
  have hl : us.length = 5:=by simpa using congrArg List.length h
  match us,hl,h,he with
  | [u0,u1,u2,u3,u4],_,h,he =>
    obtain ⟨k0,x0,y0,vs1,c1,rfl,rfl,h1,he1,rfl⟩:=eqVs_int h he
    obtain ⟨k1,x1,y1,vs2,c2,rfl,rfl,h2,he2,rfl⟩:=eqVs_int h1 he1
    obtain ⟨k2,x2,y2,vs3,c3,rfl,rfl,h3,he3,rfl⟩:=eqVs_int h2 he2
    obtain ⟨k3,x3,y3,vs4,c4,rfl,rfl,h4,he4,rfl⟩:=eqVs_int h3 he3
    obtain ⟨x4,y4,vs5,c5,rfl,rfl,h5,he5,rfl⟩:=eqVs_bool h4 he4
    obtain ⟨rfl,rfl⟩:=eqVs_nil he5
    exact ⟨k0,k1,k2,k3,x0,x1,x2,x3,x4,y0,y1,y2,y3,y4,rfl,rfl,by simp⟩
theorem stEq23 : StEq Tryz.prog 23 [false,false]:=by
  intro us vs w b x y h he
  obtain ⟨k,l,a,c,a',c',rfl,rfl,rfl⟩:=two_ints h he
  have u3:=Tryz.underlying3
  have a3:=Tryz.isAgg3
  have z3:=Tryz.sizeOf3
  have hS : Tryz.prog.underlying 23 = some (.struct (Tryz.prog.fieldsOf 23)):=by kernel_rfl
  have hp : Tryz.prog.stoodInHeld 23 = false:=by kernel_rfl
  have hg : Tryz.prog.eqGuardType Tryz.prog.depth 23 = false:=by kernel_rfl
  have heq : (Op.equalIn 10000 23 (.agg #[.int k a,.int l c]) (.agg #[.int k a',.int l c'])).run Tryz.prog w = .ok ((a == a') && (c == c')) w:=by
    rw [show (10000 : Nat) = 9999 + 1 from rfl,run_equalIn_agg w 9999 23 _ _ hS hp]
    simp only [Program.fieldsOf,Tryz.underlying23]
    go_simp
    by_cases h1 : a = a' <;> by_cases h2 : c = c' <;> simp [h1,h2]
  refine ⟨?_,?_⟩
  · simp only [Sem.run_bind,run_eqGuard_agg w _ _ _ _ _ _ hg,Result.andThen_ok,run_eql_struct,heq]
  · simp only [Sem.run_bind,run_eqGuard_agg w _ _ _ _ _ _ hg,Result.andThen_ok,run_neq_struct,heq]
theorem stEq59 : StEq Tryz.prog 45 [false,false,false,false]:=by
  intro us vs w b x y h he
  obtain ⟨k0,k1,k2,k3,x0,x1,x2,x3,y0,y1,y2,y3,rfl,rfl,rfl⟩:=four_ints h he
  have u3:=Tryz.underlying3
  have a3:=Tryz.isAgg3
  have z3:=Tryz.sizeOf3
  have hS : Tryz.prog.underlying 45 = some (.struct (Tryz.prog.fieldsOf 45)):=by kernel_rfl
  have hp : Tryz.prog.stoodInHeld 45 = false:=by kernel_rfl
  have hg : Tryz.prog.eqGuardType Tryz.prog.depth 45 = false:=by kernel_rfl
  have heq : (Op.equalIn 10000 45 (.agg #[.int k0 x0,.int k1 x1,.int k2 x2,.int k3 x3]) (.agg #[.int k0 y0,.int k1 y1,.int k2 y2,.int k3 y3])).run Tryz.prog w = .ok ((x0 == y0) && ((x1 == y1) && ((x2 == y2) && (x3 == y3)))) w:=by
    rw [show (10000 : Nat) = 9999 + 1 from rfl,run_equalIn_agg w 9999 45 _ _ hS hp]
    simp only [Program.fieldsOf,Tryz.underlying45]
    go_simp
    by_cases h1 : x0 = y0 <;> by_cases h2 : x1 = y1 <;> by_cases h3 : x2 = y2 <;> by_cases h4 : x3 = y3 <;> simp [h1,h2,h3,h4]
  refine ⟨?_,?_⟩
  · simp only [Sem.run_bind,run_eqGuard_agg w _ _ _ _ _ _ hg,Result.andThen_ok,run_eql_struct,heq]
  · simp only [Sem.run_bind,run_eqGuard_agg w _ _ _ _ _ _ hg,Result.andThen_ok,run_neq_struct,heq]
theorem stEq66 : StEq Tryz.prog 48 [false,false,false,false,true]:=by
  intro us vs w b x y h he
  obtain ⟨k0,k1,k2,k3,x0,x1,x2,x3,x4,y0,y1,y2,y3,y4,rfl,rfl,rfl⟩:=four_ints_bool h he
  have u3:=Tryz.underlying3
  have a3:=Tryz.isAgg3
  have z3:=Tryz.sizeOf3
  have u4:=Tryz.underlying4
  have a4:=Tryz.isAgg4
  have z4:=Tryz.sizeOf4
  have a23:=Tryz.isAgg23
  have z23:=Tryz.sizeOf23
  have hS3 : Tryz.prog.underlying 23 = some (.struct (Tryz.prog.fieldsOf 23)):=by kernel_rfl
  have hp3 : Tryz.prog.stoodInHeld 23 = false:=by kernel_rfl
  have hS : Tryz.prog.underlying 48 = some (.struct (Tryz.prog.fieldsOf 48)):=by kernel_rfl
  have hp : Tryz.prog.stoodInHeld 48 = false:=by kernel_rfl
  have hg : Tryz.prog.eqGuardType Tryz.prog.depth 48 = false:=by kernel_rfl
  have hgen : ∀ d,(Op.equalIn (d + 1 + 1 + 1) 48 (.agg #[.int k0 x0,.int k1 x1,.int k2 x2,.int k3 x3,.bool x4]) (.agg #[.int k0 y0,.int k1 y1,.int k2 y2,.int k3 y3,.bool y4])).run Tryz.prog w = .ok ((x0 == y0) && ((x1 == y1) && ((x2 == y2) && ((x3 == y3) && (x4 == y4))))) w:=by
    intro d
    rw [run_equalIn_agg w (d + 1 + 1) 48 _ _ hS hp]
    simp only [Program.fieldsOf,Tryz.underlying48]
    have h3 : ∀ a c a' c' k l,(Op.equalIn (d + 1 + 1) 23 (.agg #[.int k a,.int l c]) (.agg #[.int k a',.int l c'])).run Tryz.prog w = .ok ((a == a') && (c == c')) w:=by
      intro a c a' c' k l
      rw [run_equalIn_agg w (d + 1) 23 _ _ hS3 hp3]
      simp only [Program.fieldsOf,Tryz.underlying23]
      go_simp
      by_cases h1 : a = a' <;> by_cases h2 : c = c' <;> simp [h1,h2]
    clear hS3 hp3
    go_simp
    by_cases h1 : x0 = y0 <;> by_cases h2 : x1 = y1 <;> by_cases h3 : x2 = y2 <;> by_cases h4 : x3 = y3 <;> by_cases h5 : x4 = y4 <;> simp [h1,h2,h3,h4,h5]
  have heq : (Op.equalIn 10000 48 (.agg #[.int k0 x0,.int k1 x1,.int k2 x2,.int k3 x3,.bool x4]) (.agg #[.int k0 y0,.int k1 y1,.int k2 y2,.int k3 y3,.bool y4])).run Tryz.prog w = .ok ((x0 == y0) && ((x1 == y1) && ((x2 == y2) && ((x3 == y3) && (x4 == y4))))) w:=hgen 9997
  refine ⟨?_,?_⟩
  · simp only [Sem.run_bind,run_eqGuard_agg w _ _ _ _ _ _ hg,Result.andThen_ok,run_eql_struct,heq]
  · simp only [Sem.run_bind,run_eqGuard_agg w _ _ _ _ _ _ hg,Result.andThen_ok,run_neq_struct,heq]
end Go.Proofs.Sight
namespace Go.Proofs.Sight
open Go Go.RX Go.Proofs
set_option maxRecDepth 10000
theorem c109 (b : Board) (hl : b.ls.length ≤ 1000) : Ctr Tryz.prog 73 [b.sv,b.sv] (bS true):=by
  (refine Ctr.mk (fn:=Tryz.f73) rfl rfl rfl rfl rfl Tryz.results73 ?_; dsimp only [args,List.toList_toArray])
  ((first | refine qS rfl rfl ?_ | refine qR rfl rfl ?_); simp only [go_sem,↓dP,↓reduceIte]; with_reducible and_intros; all_goals first | apply qA | exact ⟨⟩ | rfl | (intros; apply qB; first | kernel_rfl | omega) | omega | skip)
  refine Ok.seq ?_
  ((first | refine qS rfl rfl ?_ | refine qR rfl rfl ?_); simp only [go_sem,↓dP,↓reduceIte]; with_reducible and_intros; all_goals first | apply qA | exact ⟨⟩ | rfl | (intros; apply qB; first | kernel_rfl | omega) | omega | skip)
  refine Ok.cond rfl ?_ ?_
  · intro hb
    simp at hb
  intro _
  (refine Ok.skip ?_; (try dsimp only [thenK,blockK,noGotoK]))
  refine Ok.seq ?_
  ((first | refine qS rfl rfl ?_ | refine qR rfl rfl ?_); simp only [go_sem,↓dP,↓reduceIte]; with_reducible and_intros; all_goals first | apply qA | exact ⟨⟩ | rfl | (intros; apply qB; first | kernel_rfl | omega) | omega | skip)
  refine Ok.block ?_
  refine Ok.count b.ls.length (fun i => ⟨[(2,.p 0 0),(3,.p 1 0),(5,iS i)],[boardB b,boardB b],[]⟩) (fun _ => True) ⟨trivial,?_⟩ ?_ ?_
  · (refine Sub.of ([0,1]) ([]) ?_ ?_ ?_ rfl rfl <;> simp only [subB,subB1,subT,subT1,newT,subE,subV,subL,go_sem,↓dP,↓reduceIte] <;> (try (repeat' with_reducible apply And.intro)) <;> (try first | exact DEq.refl _ | refine DEq.int ?_ | refine DEq.bool ?_ | omega))
  · intro i hi _
    refine Ok.seq ?_; (((first | refine qS rfl rfl ?_ | refine qR rfl rfl ?_); simp only [go_sem,↓dP,↓reduceIte]; with_reducible and_intros; all_goals first | apply qA | exact ⟨⟩ | rfl | (intros; apply qB; first | kernel_rfl | omega) | omega | skip)); refine Ok.cond rfl (fun _ => ?_) (fun hb => by simp at hb; omega); (refine Ok.skip ?_; (try dsimp only [thenK,blockK,noGotoK])); refine Ok.seq ?_; refine Ok.block ?_
    ((first | refine qS rfl rfl ?_ | refine qR rfl rfl ?_); simp only [go_sem,↓dP,↓reduceIte]; with_reducible and_intros; all_goals first | apply qA | exact ⟨⟩ | rfl | (intros; apply qB; first | kernel_rfl | omega) | omega | skip)
    · exact stEq59
    refine Ok.cond (b:=false) (by first | rfl | (simp only [go_sem,↓dP,↓reduceIte]; rfl)) (fun hb => by cases hb) (fun _ => ?_)
    (refine Ok.skip ?_; (try dsimp only [thenK,blockK,noGotoK]))
    (try dsimp only [thenK,blockK,noGotoK])
    ((first | refine qS rfl rfl ?_ | refine qR rfl rfl ?_); simp only [go_sem,↓dP,↓reduceIte]; with_reducible and_intros; all_goals first | apply qA | exact ⟨⟩ | rfl | (intros; apply qB; first | kernel_rfl | omega) | omega | skip)
    (try dsimp only [thenK,blockK,noGotoK])
    refine ⟨trivial,?_⟩
    (refine Sub.of ([0,1]) ([]) ?_ ?_ ?_ rfl rfl <;> simp only [subB,subB1,subT,subT1,newT,subE,subV,subL,go_sem,↓dP,↓reduceIte] <;> (try (repeat' with_reducible apply And.intro)) <;> (try first | exact DEq.refl _ | refine DEq.int ?_ | refine DEq.bool ?_ | omega))
  · intro _
    refine Ok.seq ?_; (((first | refine qS rfl rfl ?_ | refine qR rfl rfl ?_); simp only [go_sem,↓dP,↓reduceIte]; with_reducible and_intros; all_goals first | apply qA | exact ⟨⟩ | rfl | (intros; apply qB; first | kernel_rfl | omega) | omega | skip)); refine Ok.cond rfl (fun hb => by simp at hb) (fun _ => ?_); (refine Ok.exit ?_; simp only [thenK_exit,blockK_exit,noGotoK_exit,thenK_normal,blockK_normal,noGotoK_normal,↓reduceIte,Nat.reduceEqDiff])
    ((first | refine qS rfl rfl ?_ | refine qR rfl rfl ?_); simp only [go_sem,↓dP,↓reduceIte]; with_reducible and_intros; all_goals first | apply qA | exact ⟨⟩ | rfl | (intros; apply qB; first | kernel_rfl | omega) | omega | skip)
    (refine Ok.ret ?_; (try dsimp only [thenK,blockK,noGotoK]); simp only [toList_mk,List.toList_toArray,retK_ret,retK_normal,resOK,resV,celV,rowV,frzAll,frzT,subV,subL,go_sem,↓dP,↓reduceIte])
    exact .refl _
theorem c66 (s : Street) (h1 : s.bs.length ≤ 1000) (h2 : s.ks.length ≤ 1000) (h3 : ∀ b ∈ s.bs,b.ls.length ≤ 1000) : Ctr Tryz.prog 36 [s.sv,s.sv] (bS true):=by
  (refine Ctr.mk (fn:=Tryz.f36) rfl rfl rfl rfl rfl Tryz.results36 ?_; dsimp only [args,List.toList_toArray])
  ((first | refine qS rfl rfl ?_ | refine qR rfl rfl ?_); simp only [go_sem,↓dP,↓reduceIte]; with_reducible and_intros; all_goals first | apply qA | exact ⟨⟩ | rfl | (intros; apply qB; first | kernel_rfl | omega) | omega | skip)
  refine Ok.seq ?_
  ((first | refine qS rfl rfl ?_ | refine qR rfl rfl ?_); simp only [go_sem,↓dP,↓reduceIte]; with_reducible and_intros; all_goals first | apply qA | exact ⟨⟩ | rfl | (intros; apply qB; first | kernel_rfl | omega) | omega | skip)
  · exact fun _ => stEq23
  · exact fun _ => stEq23
  refine Ok.cond rfl ?_ ?_
  · intro hb
    simp at hb
  intro _
  (refine Ok.skip ?_; (try dsimp only [thenK,blockK,noGotoK]))
  refine Ok.seq ?_
  ((first | refine qS rfl rfl ?_ | refine qR rfl rfl ?_); simp only [go_sem,↓dP,↓reduceIte]; with_reducible and_intros; all_goals first | apply qA | exact ⟨⟩ | rfl | (intros; apply qB; first | kernel_rfl | omega) | omega | skip)
  refine Ok.block ?_
  refine Ok.count s.bs.length (fun i => ⟨[(2,.p 0 0),(3,.p 1 0),(5,iS i)],[streetB s,streetB s],[]⟩) (fun _ => True) ⟨trivial,?_⟩ ?_ ?_
  · (refine Sub.of ([0,1]) ([]) ?_ ?_ ?_ rfl rfl <;> simp only [subB,subB1,subT,subT1,newT,subE,subV,subL,go_sem,↓dP,↓reduceIte] <;> (try (repeat' with_reducible apply And.intro)) <;> (try first | exact DEq.refl _ | refine DEq.int ?_ | refine DEq.bool ?_ | omega))
  · intro i hi _
    refine Ok.seq ?_; (((first | refine qS rfl rfl ?_ | refine qR rfl rfl ?_); simp only [go_sem,↓dP,↓reduceIte]; with_reducible and_intros; all_goals first | apply qA | exact ⟨⟩ | rfl | (intros; apply qB; first | kernel_rfl | omega) | omega | skip)); refine Ok.cond rfl (fun _ => ?_) (fun hb => by simp at hb; omega); (refine Ok.skip ?_; (try dsimp only [thenK,blockK,noGotoK])); refine Ok.seq ?_; refine Ok.block ?_
    ((first | refine qS rfl rfl ?_ | refine qR rfl rfl ?_); simp only [go_sem,↓dP,↓reduceIte]; with_reducible and_intros; all_goals first | apply qA | exact ⟨⟩ | rfl | (intros; apply qB; first | kernel_rfl | omega) | omega | skip)
    (refine AskI.ret (c109 (s.bs.getD i default) (h3 _ (getD_mem hi))) ?_; simp only [go_sem,↓dP,↓reduceIte]; with_reducible and_intros; all_goals first | apply qA | exact ⟨⟩ | rfl | (intros; apply qB; first | kernel_rfl | omega) | omega | skip)
    refine Ok.cond (b:=false) (by first | rfl | (simp only [go_sem,↓dP,↓reduceIte]; rfl)) (fun hb => by cases hb) (fun _ => ?_)
    (refine Ok.skip ?_; (try dsimp only [thenK,blockK,noGotoK]))
    (try dsimp only [thenK,blockK,noGotoK])
    ((first | refine qS rfl rfl ?_ | refine qR rfl rfl ?_); simp only [go_sem,↓dP,↓reduceIte]; with_reducible and_intros; all_goals first | apply qA | exact ⟨⟩ | rfl | (intros; apply qB; first | kernel_rfl | omega) | omega | skip)
    (try dsimp only [thenK,blockK,noGotoK])
    refine ⟨trivial,?_⟩
    (refine Sub.of ([0,1]) ([]) ?_ ?_ ?_ rfl rfl <;> simp only [subB,subB1,subT,subT1,newT,subE,subV,subL,go_sem,↓dP,↓reduceIte] <;> (try (repeat' with_reducible apply And.intro)) <;> (try first | exact DEq.refl _ | refine DEq.int ?_ | refine DEq.bool ?_ | omega))
  · intro _
    refine Ok.seq ?_; (((first | refine qS rfl rfl ?_ | refine qR rfl rfl ?_); simp only [go_sem,↓dP,↓reduceIte]; with_reducible and_intros; all_goals first | apply qA | exact ⟨⟩ | rfl | (intros; apply qB; first | kernel_rfl | omega) | omega | skip)); refine Ok.cond rfl (fun hb => by simp at hb) (fun _ => ?_); (refine Ok.exit ?_; simp only [thenK_exit,blockK_exit,noGotoK_exit,thenK_normal,blockK_normal,noGotoK_normal,↓reduceIte,Nat.reduceEqDiff])
    refine Ok.seq ?_
    ((first | refine qS rfl rfl ?_ | refine qR rfl rfl ?_); simp only [go_sem,↓dP,↓reduceIte]; with_reducible and_intros; all_goals first | apply qA | exact ⟨⟩ | rfl | (intros; apply qB; first | kernel_rfl | omega) | omega | skip)
    refine Ok.block ?_
    refine Ok.count s.ks.length (fun i => ⟨[(2,.p 0 0),(3,.p 1 0),(6,iS i)],[streetB s,streetB s],[]⟩) (fun _ => True) ⟨trivial,?_⟩ ?_ ?_
    · (refine Sub.of ([0,1]) ([]) ?_ ?_ ?_ rfl rfl <;> simp only [subB,subB1,subT,subT1,newT,subE,subV,subL,go_sem,↓dP,↓reduceIte] <;> (try (repeat' with_reducible apply And.intro)) <;> (try first | exact DEq.refl _ | refine DEq.int ?_ | refine DEq.bool ?_ | omega))
    · intro i hi _
      refine Ok.seq ?_; (((first | refine qS rfl rfl ?_ | refine qR rfl rfl ?_); simp only [go_sem,↓dP,↓reduceIte]; with_reducible and_intros; all_goals first | apply qA | exact ⟨⟩ | rfl | (intros; apply qB; first | kernel_rfl | omega) | omega | skip)); refine Ok.cond rfl (fun _ => ?_) (fun hb => by simp at hb; omega); (refine Ok.skip ?_; (try dsimp only [thenK,blockK,noGotoK])); refine Ok.seq ?_; refine Ok.block ?_
      ((first | refine qS rfl rfl ?_ | refine qR rfl rfl ?_); simp only [go_sem,↓dP,↓reduceIte]; with_reducible and_intros; all_goals first | apply qA | exact ⟨⟩ | rfl | (intros; apply qB; first | kernel_rfl | omega) | omega | skip)
      · exact stEq66
      refine Ok.cond (b:=false) (by first | rfl | (simp only [go_sem,↓dP,↓reduceIte]; rfl)) (fun hb => by cases hb) (fun _ => ?_)
      (refine Ok.skip ?_; (try dsimp only [thenK,blockK,noGotoK]))
      (try dsimp only [thenK,blockK,noGotoK])
      ((first | refine qS rfl rfl ?_ | refine qR rfl rfl ?_); simp only [go_sem,↓dP,↓reduceIte]; with_reducible and_intros; all_goals first | apply qA | exact ⟨⟩ | rfl | (intros; apply qB; first | kernel_rfl | omega) | omega | skip)
      (try dsimp only [thenK,blockK,noGotoK])
      refine ⟨trivial,?_⟩
      (refine Sub.of ([0,1]) ([]) ?_ ?_ ?_ rfl rfl <;> simp only [subB,subB1,subT,subT1,newT,subE,subV,subL,go_sem,↓dP,↓reduceIte] <;> (try (repeat' with_reducible apply And.intro)) <;> (try first | exact DEq.refl _ | refine DEq.int ?_ | refine DEq.bool ?_ | omega))
    · intro _
      refine Ok.seq ?_; (((first | refine qS rfl rfl ?_ | refine qR rfl rfl ?_); simp only [go_sem,↓dP,↓reduceIte]; with_reducible and_intros; all_goals first | apply qA | exact ⟨⟩ | rfl | (intros; apply qB; first | kernel_rfl | omega) | omega | skip)); refine Ok.cond rfl (fun hb => by simp at hb) (fun _ => ?_); (refine Ok.exit ?_; simp only [thenK_exit,blockK_exit,noGotoK_exit,thenK_normal,blockK_normal,noGotoK_normal,↓reduceIte,Nat.reduceEqDiff])
      ((first | refine qS rfl rfl ?_ | refine qR rfl rfl ?_); simp only [go_sem,↓dP,↓reduceIte]; with_reducible and_intros; all_goals first | apply qA | exact ⟨⟩ | rfl | (intros; apply qB; first | kernel_rfl | omega) | omega | skip)
      (refine Ok.ret ?_; (try dsimp only [thenK,blockK,noGotoK]); simp only [toList_mk,List.toList_toArray,retK_ret,retK_normal,resOK,resV,celV,rowV,frzAll,frzT,subV,subL,go_sem,↓dP,↓reduceIte])
      exact .refl _
end Go.Proofs.Sight
namespace Go.Proofs.Sight
open Go Go.RX Go.Proofs
set_option maxRecDepth 10000
theorem Ok.join {P : Program} {N : Nat} {x y : Code} {σ σ' : Sy} {K : Exit → Sy → Prop} {Kp : DV → Prop} (h1 : Ok P N x σ (thenK (fun s => Sub s σ') K) Kp) (h2 : Ok P N y σ' K Kp) : Ok P N (.seq x y) σ K Kp :=
  Ok.seq (h1.mono (fun e s hk => by
    cases e with
    | normal => exact Ok.sub hk h2
    | _ => exact hk) (fun _ h => h))
end Go.Proofs.Sight
namespace Go.Proofs.Sight
open Go Go.RX Go.Proofs
set_option maxRecDepth 10000
abbrev RS:=List Int × PS
structure PlainR (st : RS) : Prop where
  hl : st.1.length = 6
  hn : ∀ n ∈ st.1,pl n
  st : PlainP st.2
section
variable {i : Nat} {st : RS} {r : List UInt8} {V : List (List UInt8)}
end
end Go.Proofs.Sight
namespace Go.Proofs.Sight
open Go Go.RX Go.Proofs
set_option maxRecDepth 10000
theorem ok_plain {s : Street} (h : s.ok) : s.plain:=by
  have hl1:=h.len1
  refine ⟨fun n hn => ?_,fun b hb => ?_,fun b hb x hx n hn => ?_,fun k hk n hn => ?_⟩
  · have h':=h
    obtain ⟨l0,l1,w0,w1,e0,e1,e2,e3,g0,g1,g2,g3,_⟩:=h'
    simp only [Street.nums,List.mem_cons,List.not_mem_nil,or_false] at hn
    rcases hn with rfl | rfl | rfl | rfl | rfl | rfl <;> exact ⟨by omega,by omega⟩
  · have:=(isBoard_spec (h.bs b hb)).1
    exact ⟨by omega,by omega⟩
  · have hf:=(isBoard_spec (h.bs b hb)).2.2.2 x hx
    simp only [isLetter,inR,Bool.and_eq_true,decide_eq_true_eq] at hf
    simp only [Letter.nums,List.mem_cons,List.not_mem_nil,or_false] at hn
    rcases hn with rfl | rfl | rfl | rfl <;> exact ⟨by omega,by omega⟩
  · have hf:=h.ks k hk
    have:=h.wid1
    simp only [blockIn,inR,spanR,Bool.and_eq_true,decide_eq_true_eq] at hf
    simp only [Block.nums,List.mem_cons,List.not_mem_nil,or_false] at hn
    rcases hn with rfl | rfl | rfl | rfl <;> exact ⟨by omega,by omega⟩
theorem flat_le {α β : Type} (f : α → List β) (B : Nat) : ∀ (l : List α),(∀ x ∈ l,(f x).length ≤ B) → (l.flatMap f).length ≤ B * l.length
  | [],_ => by simp
  | x :: l,h => by
    have ih:=flat_le f B l (fun y hy => h y (List.mem_cons_of_mem _ hy))
    have:=h x (List.mem_cons_self ..)
    simp only [List.flatMap_cons,List.length_append,List.length_cons]
    rw [Nat.mul_add]
    omega
theorem flatL_le (B : Nat) (l : List (List UInt8)) (h : ∀ r ∈ l,r.length + 1 ≤ B) : (flatL l).length ≤ B * l.length :=
  flat_le _ B l (fun r hr => by have:=h r hr; simp; omega)
theorem ok_rows {s : Street} (h : s.ok) : (s.bs.flatMap boardRows).length + s.ks.length ≤ 22:=by
  have h1:=flat_le boardRows 6 s.bs (fun b hb => by
    have:=(isBoard_spec (h.bs b hb)).2.1
    simp only [boardRows,List.length_cons,List.length_map]; omega)
  have h2:=h.b3
  have h3:=h.k4
  omega
theorem ok_small {s : Street} (h : s.ok) : s.small:=(ok_plain h).small (by have:=ok_rows h; omega)
theorem itoa_len2 {n : Int} (h0 : 0 ≤ n) (h1 : n < 100) : (Lib.itoa n).length ≤ 2:=by
  obtain ⟨u,rfl⟩ : ∃ u : Nat,n = u:=⟨n.toNat,by omega⟩
  rw [Lib.itoa_nonneg]
  exact dec_len2 (by omega)
theorem itoa_len3 {n : Int} (h0 : 0 ≤ n) (h1 : n < 1000) : (Lib.itoa n).length ≤ 3:=by
  obtain ⟨u,rfl⟩ : ∃ u : Nat,n = u:=⟨n.toNat,by omega⟩
  rw [Lib.itoa_nonneg]
  exact dec_len3 (by omega)
theorem rowL_len2 (w : List UInt8) (ns : List Int) (h : ∀ n ∈ ns,0 ≤ n ∧ n < 100) : (rowL w ns).length ≤ w.length + 3 * ns.length:=by
  have:=flat_le (fun n => 32 :: Lib.itoa n) 3 ns (fun n hn => by
    have:=itoa_len2 (h n hn).1 (h n hn).2
    simp only [List.length_cons]; omega)
  simp only [rowL,List.length_append]; omega
theorem row_board {s : Street} (h : s.ok) {b : Board} (hb : b ∈ s.bs) : (boardRow b).length ≤ 8:=by
  have h1:=(isBoard_spec (h.bs b hb)).1
  have:=h.len1
  exact rowL_len2 boardW [b.at_] (fun n hn => by simp at hn; subst hn; exact ⟨by omega,by omega⟩)
theorem row_letter {s : Street} (h : s.ok) {b : Board} (hb : b ∈ s.bs) {x : Letter} (hx : x ∈ b.ls) : (letterRow x).length ≤ 18:=by
  have hf:=(isBoard_spec (h.bs b hb)).2.2.2 x hx
  simp only [isLetter,inR,Bool.and_eq_true,decide_eq_true_eq] at hf
  exact rowL_len2 letterW x.nums (fun n hn => by
    simp only [Letter.nums,List.mem_cons,List.not_mem_nil,or_false] at hn
    rcases hn with rfl | rfl | rfl | rfl <;> exact ⟨by omega,by omega⟩)
theorem row_block {s : Street} (h : s.ok) {k : Block} (hk : k ∈ s.ks) : (blockRow k).length ≤ 25:=by
  have hf:=h.ks k hk
  have h1:=h.wid1
  have h2:=h.len1
  simp only [blockIn,inR,spanR,Bool.and_eq_true,decide_eq_true_eq] at hf
  have:=rowL_len2 (blockW k.sure) k.nums (fun n hn => by
    simp only [Block.nums,List.mem_cons,List.not_mem_nil,or_false] at hn
    rcases hn with rfl | rfl | rfl | rfl <;> exact ⟨by omega,by omega⟩)
  have hw : (blockW k.sure).length ≤ 13:=by unfold blockW; cases k.sure <;> decide
  have hn : k.nums.length = 4:=rfl
  unfold blockRow
  omega
theorem row_head {s : Street} (h : s.ok) : (rowL sightW s.nums).length ≤ 25:=by
  obtain ⟨l0,l1,w0,w1,e0,e1,e2,e3,g0,g1,g2,g3,_⟩:=h
  have a1:=itoa_len2 (n:=s.len) (by omega) (by omega)
  have a2:=itoa_len2 (n:=s.wid) (by omega) (by omega)
  have a3:=itoa_len2 (n:=s.el) (by omega) (by omega)
  have a4:=itoa_len2 (n:=s.eh) (by omega) (by omega)
  have a5:=itoa_len3 (n:=s.ll) (by omega) (by omega)
  have a6:=itoa_len3 (n:=s.lh) (by omega) (by omega)
  simp only [rowL,Street.nums,List.flatMap_cons,List.flatMap_nil,List.length_append,List.length_cons,List.length_nil,sightW]
  omega
theorem endL_len7 {c : Nat} (h : c < 179) : (endL c).length ≤ 7:=by
  have l1 : (Lib.decDigits (c / 100)).length = 1:=by rw [Lib.decDigits_one (by omega)]; rfl
  have l2 : (Lib.decDigits (c / 10 % 10)).length = 1:=by rw [Lib.decDigits_one (by omega)]; rfl
  have l3 : (Lib.decDigits (c % 10)).length = 1:=by rw [Lib.decDigits_one (by omega)]; rfl
  simp only [endL,List.length_append,List.length_cons,List.length_nil]; omega
theorem flatL_app (a b : List (List UInt8)) : flatL (a ++ b) = flatL a ++ flatL b:=by simp [flatL]
theorem flatL_boards {s : Street} (h : s.ok) : ∀ (bs : List Board),(∀ b ∈ bs,b ∈ s.bs) → (flatL (bs.flatMap boardRows)).length ≤ 104 * bs.length
  | [],_ => by simp [flatL]
  | b :: bs,hb => by
    have ih:=flatL_boards h bs (fun x hx => hb x (List.mem_cons_of_mem _ hx))
    have hb0:=hb b (List.mem_cons_self ..)
    have h1:=row_board h hb0
    have h2:=flatL_le 19 (b.ls.map letterRow) (fun r hr => by
      obtain ⟨x,hx,rfl⟩:=List.mem_map.1 hr
      have:=row_letter h hb0 hx
      omega)
    have h3:=(isBoard_spec (h.bs b hb0)).2.1.2
    rw [List.flatMap_cons,flatL_app,List.length_append]
    have e : (flatL (boardRows b)).length = (boardRow b).length + 1 + (flatL (b.ls.map letterRow)).length:=by simp [flatL,boardRows]; omega
    rw [e]
    rw [List.length_map] at h2
    simp only [List.length_cons]
    omega
theorem ok_text {s : Street} (h : s.ok) : (sealedL (rowsOf s)).length ≤ 450:=by
  have h1:=row_head h
  have h2:=flatL_boards h s.bs (fun b hb => hb)
  have h3:=flatL_le 26 (s.ks.map blockRow) (fun r hr => by
    obtain ⟨k,hk,rfl⟩:=List.mem_map.1 hr
    have:=row_block h hk
    omega)
  have h4:=endL_len7 (c:=rowsSum 0 (rowsOf s) % 179) (Nat.mod_lt _ (by decide))
  have h5:=h.b3
  have h6:=h.k4
  rw [List.length_map] at h3
  have e : (flatL (rowsOf s)).length = (rowL sightW s.nums).length + 1 + ((flatL (s.bs.flatMap boardRows)).length + (flatL (s.ks.map blockRow)).length):=by
    rw [← List.length_append,← flatL_app]
    simp [flatL,rowsOf]
    omega
  simp only [sealedL,List.length_append,List.length_cons,List.length_nil]
  omega
theorem c63_ok {s : Street} (h : s.ok) : Ctr Tryz.prog 33 [s.sv] (.tup [.d (.str (sealedL (rowsOf s))),iS 0]):=by
  have h102:=c102 s h.fit
  rw [isStreet_ok.2 h] at h102
  (refine Ctr.mk (fn:=Tryz.f33) rfl rfl rfl rfl rfl Tryz.results33 ?_; dsimp only [args,List.toList_toArray])
  ((first | refine qS rfl rfl ?_ | refine qR rfl rfl ?_); simp only [go_sem,↓dP,↓reduceIte]; with_reducible and_intros; all_goals first | apply qA | exact ⟨⟩ | rfl | (intros; apply qB; first | kernel_rfl | omega) | omega | skip)
  refine Ok.seq ?_
  ((first | refine qS rfl rfl ?_ | refine qR rfl rfl ?_); simp only [go_sem,↓dP,↓reduceIte]; with_reducible and_intros; all_goals first | apply qA | exact ⟨⟩ | rfl | (intros; apply qB; first | kernel_rfl | omega) | omega | skip)
  (refine AskI.ret (h102) ?_; simp only [go_sem,↓dP,↓reduceIte]; with_reducible and_intros; all_goals first | apply qA | exact ⟨⟩ | rfl | (intros; apply qB; first | kernel_rfl | omega) | omega | skip)
  refine Ok.cond (b:=false) (by first | rfl | (simp only [go_sem,↓dP,↓reduceIte]; rfl)) (fun hb => by cases hb) (fun _ => ?_)
  (refine Ok.skip ?_; (try dsimp only [thenK,blockK,noGotoK]))
  ((first | refine qS rfl rfl ?_ | refine qR rfl rfl ?_); simp only [go_sem,↓dP,↓reduceIte]; with_reducible and_intros; all_goals first | apply qA | exact ⟨⟩ | rfl | (intros; apply qB; first | kernel_rfl | omega) | omega | skip)
  (refine AskI.ret (c104 s (ok_small h)) ?_; simp only [go_sem,↓dP,↓reduceIte]; with_reducible and_intros; all_goals first | apply qA | exact ⟨⟩ | rfl | (intros; apply qB; first | kernel_rfl | omega) | omega | skip)
  (refine Ok.ret ?_; (try dsimp only [thenK,blockK,noGotoK]); simp only [toList_mk,List.toList_toArray,retK_ret,retK_normal,resOK,resV,celV,rowV,frzAll,frzT,subV,subL,go_sem,↓dP,↓reduceIte])
  exact ⟨.refl _,.refl _⟩
theorem plain_fit {s : Street} (hr : (s.bs.flatMap boardRows).length + s.ks.length ≤ 600) : s.fit ∧ s.bs.length ≤ 1000 ∧ s.ks.length ≤ 1000 ∧ ∀ b ∈ s.bs,b.ls.length ≤ 1000:=by
  have h1:=flat_rows s.bs
  have h3 : ∀ b ∈ s.bs,b.ls.length ≤ 1000:=by
    intro b hb
    have : (boardRows b).length ≤ (s.bs.flatMap boardRows).length:=by
      obtain ⟨l,r,e⟩:=List.append_of_mem hb
      rw [e]
      simp only [List.flatMap_append,List.flatMap_cons,List.length_append]
      omega
    simp only [boardRows,List.length_cons,List.length_map] at this
    omega
  exact ⟨⟨by omega,by omega,fun b hb => by have:=h3 b hb; omega⟩,by omega,by omega,h3⟩
theorem c64_none {t : List UInt8} (h : parseP t = none) (ht : t.length ≤ 450) : Ctr Tryz.prog 34 [.d (.str t)] (.tup [noS,iS 4]):=c64_text t ((f106_walk t ht).2 h) ht
theorem c66s {s : Street} (hr : (s.bs.flatMap boardRows).length + s.ks.length ≤ 600) : Ctr Tryz.prog 36 [s.sv,s.sv] (bS true):=by
  obtain ⟨_,h1,h2,h3⟩:=plain_fit hr
  exact c66 s h1 h2 h3
theorem c66z : Ctr Tryz.prog 36 [noS,noS] (bS true):=by
  have h:=c66s (s:=⟨0,0,0,0,0,0,[],[]⟩) (by decide)
  exact h.args ⟨⟨.refl _,.refl _,.refl _,.refl _,.refl _,.refl _,DEq.nils rfl,DEq.nils rfl,trivial⟩,⟨.refl _,.refl _,.refl _,.refl _,.refl _,.refl _,DEq.nils rfl,DEq.nils rfl,trivial⟩,trivial⟩
end Go.Proofs.Sight
namespace Go.Proofs.Sight
open Go Go.RX Go.Proofs Go.RowKit
set_option maxRecDepth 10000
section
variable {P : Program} {ops : Array Oper} {Q : Exit → Act → World → Prop} {a : Act} {w w' : World} {rest : List Oper} {o : Oper}
theorem wpl_val {v : Value} (hg : o.guard = none) (hr : (execOp a.eval o).run P w = .ok (.value v) w') (h : wpList P ops Q rest (a.put o.dst v) w') : wpList P ops Q (o :: rest) a w:=by
  unfold wpList
  rw [if_pos (by simp [Region.wanted,hg])]
  exact .inl (wp_val hr h)
theorem wpl_skp (hg : o.guard = none) (hr : (execOp a.eval o).run P w = .ok .skip w') (h : wpList P ops Q rest (a.put o.dst undef) w') : wpList P ops Q (o :: rest) a w:=by
  unfold wpList
  rw [if_pos (by simp [Region.wanted,hg])]
  exact .inl (wp_skp hr h)
theorem ev_same {d : Nat} {v : Value} (h : d < a.tmps.size) : (a.put (some d) v).eval (.tmp d) = v:=by
  show (a.put (some d) v).tmps.getD d undef = v
  rw [getD_put h,if_pos rfl]
theorem ev_other {d t : Nat} {v : Value} (h : d < a.tmps.size) (hne : t ≠ d) : (a.put (some d) v).eval (.tmp t) = a.eval (.tmp t):=by
  show (a.put (some d) v).tmps.getD t undef = a.tmps.getD t undef
  rw [getD_put h,if_neg hne]
end
abbrev bysD (l : List UInt8) : DV:=.sl 1 l.length (fun i _ => .int .u8 (l.getD i 0).toNat)
theorem lk_updO (k : Nat) (v : SV) (r : List (Nat × SV)) : updO (lk r) (some k) v = lk ((k,v) :: r):=by
  funext t
  simp only [updO,upd,lk]
  by_cases e : t = k
  · rw [if_pos e,if_pos e.symm]
  · rw [if_neg e,if_neg (fun h => e h.symm)]
section
variable {I : Nat → Prop} {β : Nat → Option Nat} {τ : Nat → Option Value} {Y : Nat → Option Bool} {E : Nat → SV} {B : Nat → Option BC} {K : Nat → Option TC} {I0 : Nat → Prop} {N : Nat} {w0 w : World} {a : Act}
theorem inv_know (h : InvX I β τ Y E B K I0 N w0 a w) {d : Nat} {V : SV} (hv : Mt I β τ Y w (a.tmps.getD d undef) V) : InvX I β τ Y (upd E d V) B K I0 N w0 a w :=
  { h with env:=fun t => (by
      by_cases e : t = d
      · subst e; rw [upd_same]; exact .m hv
      · rw [upd_other _ _ _ _ e]; exact h.env t) }
end
theorem st_fr {W : World} {B : Nat} {cs : Array Value} {T : TypeId} {fr : Nat × Nat} (h : W.heap[B]? = some (.cells cs T fr)) (j : Nat) (v : Value) : (W.setCell ⟨B,j,none⟩ v).heap[B]? = some (.cells (cs.setIfInBounds j v) T fr):=by
  obtain ⟨hlt,hk⟩:=Array.getElem?_eq_some_iff.1 h
  show (W.heap.modify B _)[B]? = _
  rw [Array.getElem?_eq_getElem (by rw [Array.size_modify]; exact hlt),Array.getElem_modify_self,hk]
  rfl
theorem cell_fr {W : World} {B j : Nat} {cs : Array Value} {T : TypeId} {fr : Nat × Nat} (h : W.heap[B]? = some (.cells cs T fr)) : W.cell? ⟨B,j,none⟩ = cs[j]?:=by
  simp [World.cell?,h]
theorem cells_set {w : World} (l : List UInt8) (p : Nat) (b : UInt8) (hp : p < l.length) (j : Nat) (hj : j < l.length) :
    ((Lib.bytesWorld w 5 ⟨l.toArray⟩).setCell ⟨w.heap.size,p,none⟩ (.int .u8 b.toNat)).cell? ⟨w.heap.size,j,none⟩ = some (.int .u8 ((l.set p b).getD j 0).toNat):=by
  have hnew:=Lib.bytesWorld_at_new w 5 ⟨l.toArray⟩
  have hold:=Lib.bytesWorld_cell w 5 ⟨l.toArray⟩ j hj
  rw [cell_fr hnew] at hold
  rw [cell_fr (st_fr hnew p _),Array.getElem?_setIfInBounds]
  have hs : (Lib.bytesCells w 5 ⟨l.toArray⟩).size ≥ l.length:=by simp [Lib.bytesCells]
  by_cases e : p = j
  · subst e
    rw [if_pos rfl,if_pos (by omega)]
    simp [hp]
  · rw [if_neg e,hold]
    simp [e]
set_option maxHeartbeats 1000000 in

theorem ok_spoil {i8 i9 : Nat} {c : Code} {σ : Sy} {K : Exit → Sy → Prop} {Kp : DV → Prop} {y1 y2 y3 y4 y5 y6 y7 y8 y9 y10 : Nat} {p1 p2 p3 p4 p5 p6 p7 p8 p9 p10 : String} {f1 f2 f3 f4 f5 f6 f7 f8 f9 f10 : Array Edge}
    (l : List UInt8) (n dg : Int) (h7 : lk σ.env 7 = .d (.str l)) (h1 : lk σ.env 1 = iS n) (h2 : lk σ.env 2 = iS dg) (n0 : 0 ≤ n) (n1 : n < l.length) (d0 : 0 ≤ dg) (d9 : dg ≤ 9)
    (hk : Ok Tryz.prog 90 c { σ with env:=(9,.d (bysD (l.set n.toNat (UInt8.ofNat (48 + dg.toNat))))) :: (73,.any) :: (72,.any) :: (71,.any) :: (70,.any) :: (69,.any) :: (68,.any) :: (9,.any) :: (67,.any) :: (66,.any) :: σ.env } K Kp) (hlen : l.length ≤ 1000000) :
    Ok Tryz.prog 90 (.seq (.region i8 #[⟨some 66,.move (.tmp 7),y1,p1,f1,none⟩,⟨some 67,.convert 9 77 (.tmp 66),y2,p2,f2,none⟩,⟨some 9,.assign (.tmp 67),y3,p3,f3,none⟩] false)
      (.seq (.region i9 #[⟨some 68,.move (.tmp 9),y4,p4,f4,none⟩,⟨some 69,.move (.tmp 1),y5,p5,f5,none⟩,⟨some 70,.move (.tmp 2),y6,p6,f6,none⟩,
        ⟨some 71,.binOp .add 3 (.const (.int .i64 48)) (.tmp 70) 3,y7,p7,f7,none⟩,⟨some 72,.convert 3 5 (.tmp 71),y8,p8,f8,none⟩,⟨some 73,.indexAddr 77 (.tmp 68) (.tmp 69),y9,p9,f9,none⟩,
        ⟨none,.store 5 (.tmp 73) (.tmp 72),y10,p10,f10,none⟩] false) c)) σ K Kp:=by
  intro I0 w0 a w hst
  obtain ⟨I,β,τ,hx⟩:=hst (fun _ => none)
  have q7:=(hx.env 7).un (by rw [h7]; intro _ _ _ e; cases e)
  have q1:=(hx.env 1).un (by rw [h1]; intro _ _ _ e; cases e)
  have q2:=(hx.env 2).un (by rw [h2]; intro _ _ _ e; cases e)
  rw [h7] at q7; rw [h1] at q1; rw [h2] at q2
  have hsz:=hx.sz
  have v7 : a.eval (.tmp 7) = .string ⟨l.toArray⟩:=by
    obtain ⟨s,e,hs⟩:=rep_str (mt_d q7)
    obtain ⟨⟨d⟩⟩:=s
    simp at hs; subst hs
    exact e
  have v1 : a.eval (.tmp 1) = .int .i64 n:=rep_int (mt_d q1)
  have v2 : a.eval (.tmp 2) = .int .i64 dg:=rep_int (mt_d q2)
  have hp : n.toNat < l.length:=by omega
  obtain ⟨cap,hcap⟩ : ∃ cap,grownCap w (⟨l.toArray⟩ : ByteArray).size 0 5 = cap:=⟨_,rfl⟩
  have hconv:=Lib.run_convert_string_bytes (P:=Tryz.prog) w 9 77 5 ⟨l.toArray⟩ Tryz.underlying9 Tryz.underlying77 Tryz.underlying5
  rw [hcap] at hconv
  have hnew:=Lib.bytesWorld_at_new w 5 ⟨l.toArray⟩
  obtain ⟨W2,hW2⟩ : ∃ W2,Lib.bytesWorld w 5 ⟨l.toArray⟩ = W2:=⟨_,rfl⟩
  rw [hW2] at hconv hnew
  obtain ⟨sl,hsl⟩ : ∃ sl,Value.slice (some ⟨w.heap.size,0,none⟩) (⟨l.toArray⟩ : ByteArray).size cap = sl:=⟨_,rfl⟩
  rw [hsl] at hconv
  obtain ⟨a1,ha1⟩ : ∃ a1,a.put (some 66) (.string ⟨l.toArray⟩) = a1:=⟨_,rfl⟩
  have z1 : a1.tmps.size = 90:=by rw [← ha1,size_put,hsz]
  obtain ⟨a2,ha2⟩ : ∃ a2,a1.put (some 67) sl = a2:=⟨_,rfl⟩
  have z2 : a2.tmps.size = 90:=by rw [← ha2,size_put,z1]
  obtain ⟨a3,ha3⟩ : ∃ a3,a2.put (some 9) sl = a3:=⟨_,rfl⟩
  have z3 : a3.tmps.size = 90:=by rw [← ha3,size_put,z2]
  obtain ⟨a4,ha4⟩ : ∃ a4,a3.put (some 68) sl = a4:=⟨_,rfl⟩
  have z4 : a4.tmps.size = 90:=by rw [← ha4,size_put,z3]
  obtain ⟨a5,ha5⟩ : ∃ a5,a4.put (some 69) (.int .i64 n) = a5:=⟨_,rfl⟩
  have z5 : a5.tmps.size = 90:=by rw [← ha5,size_put,z4]
  obtain ⟨a6,ha6⟩ : ∃ a6,a5.put (some 70) (.int .i64 dg) = a6:=⟨_,rfl⟩
  have z6 : a6.tmps.size = 90:=by rw [← ha6,size_put,z5]
  obtain ⟨a7,ha7⟩ : ∃ a7,a6.put (some 71) (.int .i64 (48 + dg)) = a7:=⟨_,rfl⟩
  have z7 : a7.tmps.size = 90:=by rw [← ha7,size_put,z6]
  obtain ⟨a8,ha8⟩ : ∃ a8,a7.put (some 72) (.int .u8 (48 + dg)) = a8:=⟨_,rfl⟩
  have z8 : a8.tmps.size = 90:=by rw [← ha8,size_put,z7]
  obtain ⟨a9,ha9⟩ : ∃ a9,a8.put (some 73) (.pointer (some ⟨w.heap.size,n.toNat,none⟩)) = a9:=⟨_,rfl⟩
  have z9 : a9.tmps.size = 90:=by rw [← ha9,size_put,z8]
  have o {x y : Act} {d t : Nat} {v : Value} (hz : x.tmps.size = 90) (hd : d < 90) (e : x.put (some d) v = y) (hne : t ≠ d) : y.eval (.tmp t) = x.eval (.tmp t):=by
    rw [← e]; exact ev_other (by omega) hne
  have m {x y : Act} {d : Nat} {v : Value} (hz : x.tmps.size = 90) (hd : d < 90) (e : x.put (some d) v = y) : y.eval (.tmp d) = v:=by
    rw [← e]; exact ev_same (by omega)
  have e166 : a1.eval (.tmp 66) = .string ⟨l.toArray⟩:=m hsz (by decide) ha1
  have e267 : a2.eval (.tmp 67) = sl:=m z1 (by decide) ha2
  have e39 : a3.eval (.tmp 9) = sl:=m z2 (by decide) ha3
  have e41 : a4.eval (.tmp 1) = .int .i64 n:=by rw [o z3 (by decide) ha4 (by decide),o z2 (by decide) ha3 (by decide),o z1 (by decide) ha2 (by decide),o hsz (by decide) ha1 (by decide),v1]
  have e52 : a5.eval (.tmp 2) = .int .i64 dg:=by rw [o z4 (by decide) ha5 (by decide),o z3 (by decide) ha4 (by decide),o z2 (by decide) ha3 (by decide),o z1 (by decide) ha2 (by decide),o hsz (by decide) ha1 (by decide),v2]
  have e670 : a6.eval (.tmp 70) = .int .i64 dg:=m z5 (by decide) ha6
  have e771 : a7.eval (.tmp 71) = .int .i64 (48 + dg):=m z6 (by decide) ha7
  have e868 : a8.eval (.tmp 68) = sl:=by rw [o z7 (by decide) ha8 (by decide),o z6 (by decide) ha7 (by decide),o z5 (by decide) ha6 (by decide),o z4 (by decide) ha5 (by decide),m z3 (by decide) ha4]
  have e869 : a8.eval (.tmp 69) = .int .i64 n:=by rw [o z7 (by decide) ha8 (by decide),o z6 (by decide) ha7 (by decide),o z5 (by decide) ha6 (by decide),m z4 (by decide) ha5]
  have e973 : a9.eval (.tmp 73) = .pointer (some ⟨w.heap.size,n.toNat,none⟩):=m z8 (by decide) ha9
  have e972 : a9.eval (.tmp 72) = .int .u8 (48 + dg):=by rw [o z8 (by decide) ha9 (by decide),m z7 (by decide) ha8]
  refine wp_seq (wp_region_list (wpl_val rfl (v:=.string ⟨l.toArray⟩) (w':=w) (by simp [execOp,v7]) ?_))
  dsimp only
  rw [ha1]
  refine wpl_val rfl (v:=sl) (w':=W2) (by simp [execOp,e166,hconv]) ?_
  dsimp only
  rw [ha2]
  refine wpl_val rfl (v:=sl) (w':=W2) (by simp [execOp,e267]) ?_
  dsimp only
  rw [ha3]
  refine wpList_nil ?_
  refine wp_seq (wp_region_list (wpl_val rfl (v:=sl) (w':=W2) (by simp [execOp,e39]) ?_))
  dsimp only
  rw [ha4]
  refine wpl_val rfl (v:=.int .i64 n) (w':=W2) (by simp [execOp,e41]) ?_
  dsimp only
  rw [ha5]
  refine wpl_val rfl (v:=.int .i64 dg) (w':=W2) (by simp [execOp,e52]) ?_
  dsimp only
  rw [ha6]
  refine wpl_val rfl (v:=.int .i64 (48 + dg)) (w':=W2) ?_ ?_
  · have hc : a6.eval (.const (.int .i64 48)) = .int .i64 48:=rfl
    have hr : IntKind.wrap .i64 (48 + dg) = 48 + dg:=R64 (by omega) (by omega)
    simp only [execOp,e670,hc]
    simp [go_sem,hr]
    trace_state
  dsimp only
  rw [ha7]
  refine wpl_val rfl (v:=.int .u8 (48 + dg)) (w':=W2) ?_ ?_
  · have hr : IntKind.wrap .u8 (48 + dg) = 48 + dg:=R8 (by omega) (by omega)
    simp [execOp,e771,convert,run_underlying Tryz.underlying3,run_underlying Tryz.underlying5,Conv.intToInt,hr]
    trace_state
  dsimp only
  rw [ha8]
  refine wpl_val rfl (v:=.pointer (some ⟨w.heap.size,n.toNat,none⟩)) (w':=W2) ?_ ?_
  · rw [← hsl] at e868
    have:=run_index_op (P:=Tryz.prog) (w:=W2) (o:=⟨some 73,.indexAddr 77 (.tmp 68) (.tmp 69),y9,p9,f9,none⟩) (e:=5) (k:=1) (by_:=1) rfl e868 e869 (by kernel_rfl) ⟨n0,by show n < ((l.length : Nat) : Int); exact n1⟩
    rw [this,Nat.mul_one]
    have e : (⟨w.heap.size,0,none⟩ : Addr).add n.toNat = ⟨w.heap.size,n.toNat,none⟩:=by unfold Addr.add; split <;> simp_all
    rw [e]
  dsimp only
  rw [ha9]
  refine wpl_skp rfl (w':=W2.setCell ⟨w.heap.size,n.toNat,none⟩ (.int .u8 (48 + dg))) ?_ ?_
  · have hz : (Lib.bytesCells w 5 ⟨l.toArray⟩).size ≥ l.length:=by simp [Lib.bytesCells]
    have hfz : W2.frozen? ⟨w.heap.size,n.toNat,none⟩ = false:=by
      simp only [World.frozen?,hnew]
      simp
      omega
    obtain ⟨u,hu⟩ : ∃ u,W2.cell? ⟨w.heap.size,n.toNat,none⟩ = some u:=by
      rw [cell_fr hnew]
      exact ⟨_,Array.getElem?_eq_getElem (by omega)⟩
    have s5:=Tryz.sizeOf5
    have a5':=Tryz.isAgg5
    simp only [execOp,e973,e972]
    simp [go_sem,hfz,hu]
    trace_state
  refine wpList_nil ?_
  obtain ⟨W3,hW3⟩ : ∃ W3,W2.setCell ⟨w.heap.size,n.toNat,none⟩ (.int .u8 (48 + dg)) = W3:=⟨_,rfl⟩
  show Code.wp Tryz.prog c (QK K Kp I0 90 w0) a9 (W2.setCell ⟨w.heap.size,n.toNat,none⟩ (.int .u8 (48 + dg)))
  have hcell:=fun j hj => cells_set (w:=w) l n.toNat (UInt8.ofNat (48 + dg.toNat)) hp j hj
  have hb : (((UInt8.ofNat (48 + dg.toNat)).toNat : Nat) : Int) = 48 + dg:=by
    rw [UInt8.toNat_ofNat']; omega
  rw [hb,hW2,hW3] at hcell
  have hz2 : W2.heap.size = w.heap.size + 1:=by rw [← hW2]; exact Lib.bytesWorld_size _ _ _
  have hz3 : W3.heap.size = w.heap.size + 1:=by rw [← hW3]; simp [World.setCell,Array.size_modify,hz2]
  have hB : Below w.heap.size w W3:=by
    have h1 : Below w.heap.size w W2:=⟨by rw [← hW2]; rfl,by rw [← hW2]; rfl,by rw [← hW2]; rfl,by omega,fun k hk => by rw [← hW2]; exact Lib.bytesWorld_at_old w 5 _ k hk⟩
    rw [← hW3]
    exact h1.setCell (p:=⟨w.heap.size,n.toNat,none⟩) (Nat.le_refl _) _
  have ht9 : a9.eval (.tmp 9) = sl:=by rw [o z8 (by decide) ha9 (by decide),o z7 (by decide) ha8 (by decide),o z6 (by decide) ha7 (by decide),o z5 (by decide) ha6 (by decide),o z4 (by decide) ha5 (by decide),o z3 (by decide) ha4 (by decide),m z2 (by decide) ha3]
  rw [hW3]
  refine hk I0 w0 a9 W3 (fun Y => ?_)
  obtain ⟨I,β,τ,g⟩:=hst Y
  have g1:=g.quiet (w':=W3) hB (dst:=some 66) (fun d hd => by cases hd; decide) (v:=.string ⟨l.toArray⟩) (V:=.any) .any
  rw [ha1] at g1
  have g2:=g1.quiet (w':=W3) (Below.refl _ _) (dst:=some 67) (fun d hd => by cases hd; decide) (v:=sl) (V:=.any) .any
  rw [ha2] at g2
  have g3:=g2.quiet (w':=W3) (Below.refl _ _) (dst:=some 9) (fun d hd => by cases hd; decide) (v:=sl) (V:=.any) .any
  rw [ha3] at g3
  have g4:=g3.quiet (w':=W3) (Below.refl _ _) (dst:=some 68) (fun d hd => by cases hd; decide) (v:=sl) (V:=.any) .any
  rw [ha4] at g4
  have g5:=g4.quiet (w':=W3) (Below.refl _ _) (dst:=some 69) (fun d hd => by cases hd; decide) (v:=.int .i64 n) (V:=.any) .any
  rw [ha5] at g5
  have g6:=g5.quiet (w':=W3) (Below.refl _ _) (dst:=some 70) (fun d hd => by cases hd; decide) (v:=.int .i64 dg) (V:=.any) .any
  rw [ha6] at g6
  have g7:=g6.quiet (w':=W3) (Below.refl _ _) (dst:=some 71) (fun d hd => by cases hd; decide) (v:=.int .i64 (48 + dg)) (V:=.any) .any
  rw [ha7] at g7
  have g8:=g7.quiet (w':=W3) (Below.refl _ _) (dst:=some 72) (fun d hd => by cases hd; decide) (v:=.int .u8 (48 + dg)) (V:=.any) .any
  rw [ha8] at g8
  have g9:=g8.quiet (w':=W3) (Below.refl _ _) (dst:=some 73) (fun d hd => by cases hd; decide) (v:=.pointer (some ⟨w.heap.size,n.toNat,none⟩)) (V:=.any) .any
  rw [ha9,lk_updO,lk_updO,lk_updO,lk_updO,lk_updO,lk_updO,lk_updO,lk_updO,lk_updO] at g9
  have gk:=inv_know g9 (d:=9) (V:=.d (bysD (l.set n.toNat (UInt8.ofNat (48 + dg.toNat))))) (by
    show Mt _ _ _ _ _ (a9.eval (.tmp 9)) _
    rw [ht9,← hsl]
    refine .d ?_
    unfold bysD
    rw [List.length_set]
    refine .sl (fun i _ => .int .u8 ((l.set n.toNat (UInt8.ofNat (48 + dg.toNat))).getD i 0).toNat) ?_ ?_ ?_ (fun i j hi hj => ?_) (fun i j hi hj => .int)
    · exact .inl (.inl (.inl (.inl (.inl (.inl (.inl (.inl (.inr ⟨Nat.le_refl _,by omega⟩))))))))
    · rw [← hcap]; exact grownCap_ge w _ 0 5
    · rw [← hcap]; exact grownCap_le_maxLen w _ 0 5 (by show l.length ≤ maxLen; unfold maxLen; omega)
    · have : j = 0:=by omega
      subst this
      rw [Nat.zero_add,Nat.mul_one,Nat.add_zero]
      exact hcell i hi)
  have e:=lk_updO 9 (.d (bysD (l.set n.toNat (UInt8.ofNat (48 + dg.toNat))))) ((73,.any) :: (72,.any) :: (71,.any) :: (70,.any) :: (69,.any) :: (68,.any) :: (9,.any) :: (67,.any) :: (66,.any) :: σ.env)
  change upd _ _ _ = _ at e
  rw [e] at gk
  exact ⟨_,β,τ,gk⟩
end Go.Proofs.Sight
namespace Go.Proofs.Sight
open Go Go.RX Go.Proofs
set_option maxRecDepth 10000
theorem spl_set (c b : UInt8) (hb : b ≠ c) : ∀ (l : List UInt8) (p : Nat),p < l.length → l.getD p 0 ≠ c →
    ∃ i k,i < (spl c l).length ∧ k < ((spl c l).getD i []).length ∧ ((spl c l).getD i []).getD k 0 = l.getD p 0 ∧ spl c (l.set p b) = (spl c l).set i (((spl c l).getD i []).set k b)
  | [],p,hp,_ => by simp at hp
  | a :: l,0,_,ha => by
    have ha' : a ≠ c:=by simpa using ha
    obtain ⟨x,r,hx⟩ : ∃ x r,spl c l = x :: r:=by
      cases h : spl c l with
      | nil => exact absurd h (spl_ne c l)
      | cons x r => exact ⟨x,r,rfl⟩
    refine ⟨0,0,?_⟩
    simp only [List.set_cons_zero,spl,if_neg ha',if_neg hb,hx]
    simp
  | a :: l,p + 1,hp,ha => by
    obtain ⟨i,k,h1,h2,h3,h4⟩:=spl_set c b hb l p (by simpa using hp) (by simpa using ha)
    by_cases hac : a = c
    · refine ⟨i + 1,k,?_⟩
      simp only [List.set_cons_succ,spl,if_pos hac,List.getD_cons_succ,List.length_cons]
      exact ⟨by omega,h2,h3,by rw [h4]⟩
    · obtain ⟨x,r,hx⟩ : ∃ x r,spl c l = x :: r:=by
        cases h : spl c l with
        | nil => exact absurd h (spl_ne c l)
        | cons x r => exact ⟨x,r,rfl⟩
      rw [hx] at h1 h2 h3 h4
      cases i with
      | zero =>
        refine ⟨0,k + 1,?_⟩
        simp only [List.getD_cons_zero,List.set_cons_zero] at h2 h3 h4
        simp only [List.set_cons_succ,spl,if_neg hac,hx,h4,List.getD_cons_zero,List.getD_cons_succ,List.length_cons,List.set_cons_zero]
        exact ⟨by omega,by omega,h3,trivial⟩
      | succ i =>
        refine ⟨i + 1,k,?_⟩
        simp only [List.getD_cons_succ,List.set_cons_succ,List.length_cons] at h1 h2 h3 h4
        simp only [List.set_cons_succ,spl,if_neg hac,hx,h4,List.getD_cons_succ,List.length_cons]
        exact ⟨h1,h2,h3,trivial⟩
theorem rowSum_set (i : Nat) (b : UInt8) : ∀ (r : List UInt8) (k0 k : Nat),k < r.length → rowSum i k0 (r.set k b) + (r.getD k 0).toNat * (k0 + k + 1) * (i + 1) = rowSum i k0 r + b.toNat * (k0 + k + 1) * (i + 1)
  | [],_,_,h => by simp at h
  | a :: r,k0,0,_ => by
    simp only [List.set_cons_zero,rowSum,List.getD_cons_zero,Nat.add_zero]
    omega
  | a :: r,k0,k + 1,h => by
    have ih:=rowSum_set i b r (k0 + 1) k (by simpa using h)
    simp only [List.set_cons_succ,rowSum,List.getD_cons_succ]
    rw [show k0 + (k + 1) + 1 = k0 + 1 + k + 1 by omega]
    omega
theorem rowsSum_set (r' : List UInt8) : ∀ (R : List (List UInt8)) (i0 i : Nat),i < R.length → rowsSum i0 (R.set i r') + rowSum (i0 + i) 0 (R.getD i []) = rowsSum i0 R + rowSum (i0 + i) 0 r'
  | [],_,_,h => by simp at h
  | a :: R,i0,0,_ => by
    simp only [List.set_cons_zero,rowsSum,List.getD_cons_zero,Nat.add_zero]
    omega
  | a :: R,i0,i + 1,h => by
    have ih:=rowsSum_set r' R (i0 + 1) i (by simpa using h)
    simp only [List.set_cons_succ,rowsSum,List.getD_cons_succ]
    rw [show i0 + (i + 1) = i0 + 1 + i by omega]
    omega
theorem endL_inj {c c' : Nat} (h : c < 179) (h' : c' < 179) (e : endL c = endL c') : c = c':=by
  unfold endL at e
  rw [Lib.decDigits_one (i:=c / 100) (by omega),Lib.decDigits_one (i:=c / 10 % 10) (by omega),Lib.decDigits_one (i:=c % 10) (by omega),Lib.decDigits_one (i:=c' / 100) (by omega),Lib.decDigits_one (i:=c' / 10 % 10) (by omega),Lib.decDigits_one (i:=c' % 10) (by omega)] at e
  simp only [List.cons_append,List.nil_append,List.cons.injEq,and_true,true_and] at e
  obtain ⟨e1,e2,e3⟩:=e
  have f1:=congrArg UInt8.toNat e1
  have f2:=congrArg UInt8.toNat e2
  have f3:=congrArg UInt8.toNat e3
  rw [ofNat_dig (by omega),ofNat_dig (by omega)] at f1 f2 f3
  omega
theorem no179 (d : Nat) (hd : d < 10) (k : Nat) (hk : k < 26) (i : Nat) (hi : i < 24) (d0 : 0 < d) (k0 : 0 < k) (i0 : 0 < i) : d * k * i % 179 ≠ 0:=by
  have h : ((List.range 10).all fun d => (List.range 26).all fun k => (List.range 24).all fun i => d == 0 || k == 0 || i == 0 || d * k * i % 179 != 0) = true:=by decide +kernel
  simp only [List.all_eq_true,List.mem_range] at h
  have:=h d hd k hk i hi
  simp only [Bool.or_eq_true,beq_iff_eq,bne_iff_ne] at this
  rcases this with ((h | h) | h) | h
  · omega
  · omega
  · omega
  · exact h
theorem sum_ne {S S' u v k i : Nat} (h : S' + u * k * i = S + v * k * i) (hm : S' % 179 = S % 179) (hne : u ≠ v) (hu : 48 ≤ u ∧ u ≤ 57) (hv : 48 ≤ v ∧ v ≤ 57) (hk : 0 < k ∧ k < 26) (hi : 0 < i ∧ i < 24) : False:=by
  rw [Nat.mul_assoc,Nat.mul_assoc] at h
  have hd : ∀ d,0 < d → d < 10 → d * k * i % 179 ≠ 0:=fun d h0 h1 => no179 d h1 k hk.2 i hi.2 h0 hk.1 hi.1
  rcases Nat.lt_or_gt_of_ne hne with hlt | hgt
  · obtain ⟨d,rfl⟩ : ∃ d,v = u + d:=⟨v - u,by omega⟩
    have:=hd d (by omega) (by omega)
    rw [Nat.add_mul] at h
    rw [Nat.mul_assoc] at this
    omega
  · obtain ⟨d,rfl⟩ : ∃ d,u = v + d:=⟨u - v,by omega⟩
    have:=hd d (by omega) (by omega)
    rw [Nat.add_mul] at h
    rw [Nat.mul_assoc] at this
    omega
theorem rows_len {s : Street} (h : s.ok) : (rowsOf s).length ≤ 23:=by
  have:=ok_rows h
  simp only [rowsOf,List.length_cons,List.length_append,List.length_map]
  omega
theorem rows_25 {s : Street} (h : s.ok) : ∀ r ∈ rowsOf s,r.length ≤ 25:=by
  intro r hr
  simp only [rowsOf,List.mem_cons,List.mem_append,List.mem_flatMap,List.mem_map,boardRows] at hr
  rcases hr with rfl | ⟨b,hb,rfl | ⟨x,hx,rfl⟩⟩ | ⟨k,hk,rfl⟩
  · exact row_head h
  · have:=row_board h hb; omega
  · have:=row_letter h hb hx; omega
  · exact row_block h hk
theorem spoilt_none {s : Street} (h : s.ok) {p : Nat} (hp : p < (sealedL (rowsOf s)).length) (hd : digit ((sealedL (rowsOf s)).getD p 0) = true) {b : UInt8} (hb : digit b = true) (hne : b ≠ (sealedL (rowsOf s)).getD p 0) : parseP ((sealedL (rowsOf s)).set p b) = none:=by
  cases hx : parseP ((sealedL (rowsOf s)).set p b) with
  | none => rfl
  | some s' =>
    exfalso
    obtain ⟨hpl,htx,_⟩:=parse_some hx
    have e1:=spl_sealed (ok_plain h).no10
    have e2:=spl_sealed hpl.no10
    rw [htx,splitL_spl] at e2
    rw [splitL_spl] at e1
    obtain ⟨i,k,q1,q2,q3,q4⟩:=spl_set 10 b (dig_ne hb).2 (sealedL (rowsOf s)) p hp (dig_ne hd).2
    rw [e1] at q1 q2 q3 q4
    rw [e2] at q4
    have hlen:=congrArg List.length q4
    simp only [List.length_append,List.length_cons,List.length_nil,List.length_set] at hlen q1
    have hRl:=rows_len h
    have hR25:=rows_25 h
    generalize rowsOf s = R at *
    generalize rowsOf s' = R' at *
    have hlR : R'.length = R.length:=by omega
    have hc:=Nat.mod_lt (rowsSum 0 R) (y:=179) (by decide)
    have hc':=Nat.mod_lt (rowsSum 0 R') (y:=179) (by decide)
    by_cases hi : i < R.length
    · have hg : (R ++ [endL (rowsSum 0 R % 179),[]]).getD i [] = R.getD i []:=by
        simp only [List.getD_eq_getElem?_getD,List.getElem?_append_left hi]
      rw [hg] at q2 q3 q4
      rw [List.set_append_left _ _ hi] at q4
      obtain ⟨f1,f2⟩:=List.append_inj q4 (by rw [List.length_set]; exact hlR)
      have f3 : endL (rowsSum 0 R' % 179) = endL (rowsSum 0 R % 179):=by
        simp only [List.cons.injEq,and_true] at f2
        exact f2
      have f4:=endL_inj hc' hc f3
      have hm : R.getD i [] ∈ R:=by
        have : R.getD i [] = R.getD i default:=rfl
        rw [this]; exact getD_mem hi
      have hk25:=hR25 _ hm
      have s1:=rowsSum_set ((R.getD i []).set k b) R 0 i hi
      have s2:=rowSum_set i b (R.getD i []) 0 k q2
      rw [← f1] at s1
      rw [Nat.zero_add] at s1 s2
      rw [q3] at s2
      simp only [digit,Bool.and_eq_true,decide_eq_true_eq] at hd hb
      exact sum_ne (S:=rowsSum 0 R) (S':=rowsSum 0 R') (u:=((sealedL R).getD p 0).toNat) (v:=b.toNat) (k:=k + 1) (i:=i + 1) (by omega) f4 (fun e => hne (UInt8.toNat_inj.1 e.symm)) hd hb ⟨by omega,by omega⟩ ⟨by omega,by omega⟩
    · by_cases hi2 : i = R.length
      · subst hi2
        have hg : (R ++ [endL (rowsSum 0 R % 179),[]]).getD R.length [] = endL (rowsSum 0 R % 179):=by
          simp
        rw [hg] at q2 q3 q4
        rw [List.set_append_right _ _ (Nat.le_refl _),Nat.sub_self,List.set_cons_zero] at q4
        obtain ⟨f1,f2⟩:=List.append_inj q4 hlR
        subst f1
        simp only [List.cons.injEq,and_true] at f2
        have f3 : (endL (rowsSum 0 R' % 179)).getD k 0 = ((endL (rowsSum 0 R' % 179)).set k b).getD k 0:=congrArg (fun l => l.getD k 0) f2
        rw [q3] at f3
        have : ((endL (rowsSum 0 R' % 179)).set k b).getD k 0 = b:=by
          rw [List.getD_eq_getElem?_getD,List.getElem?_set_self q2]; rfl
        rw [this] at f3
        exact hne f3.symm
      · have hi3 : i = R.length + 1:=by omega
        subst hi3
        have hg : (R ++ [endL (rowsSum 0 R % 179),[]]).getD (R.length + 1) [] = []:=by
          rw [List.getD_eq_getElem?_getD,List.getElem?_append_right (by omega)]
          simp
        rw [hg] at q2
        simp at q2
end Go.Proofs.Sight
namespace Go.Proofs.Sight
open Go Go.RX Go.Proofs
set_option maxRecDepth 10000
theorem bys_map (l : List UInt8) : (List.range l.length).map (fun i => byt (.int .u8 (l.getD i 0).toNat)) = l:=by
  refine List.ext_getElem (by simp) (fun i h1 h2 => ?_)
  simp only [List.getElem_map,List.getElem_range,byt_nat]
  rw [getD0,getD_lt h2]
  simp
theorem c20 (s : Street) (hh : s.held) (n dg : Int) : Ctr Tryz.prog 10 [s.sv,iS n,iS dg] (bS true):=by
  (refine Ctr.mk (fn:=Tryz.f10) rfl rfl rfl rfl rfl Tryz.results10 ?_; dsimp only [args,List.toList_toArray])
  ((first | refine qS rfl rfl ?_ | refine qR rfl rfl ?_); simp only [go_sem,↓dP,↓reduceIte]; with_reducible and_intros; all_goals first | apply qA | exact ⟨⟩ | rfl | (intros; apply qB; first | kernel_rfl | omega) | omega | skip)
  refine Ok.seq ?_
  ((first | refine qS rfl rfl ?_ | refine qR rfl rfl ?_); simp only [go_sem,↓dP,↓reduceIte]; with_reducible and_intros; all_goals first | apply qA | exact ⟨⟩ | rfl | (intros; apply qB; first | kernel_rfl | omega) | omega | skip)
  (refine AskI.ret (c28 s hh) ?_; simp only [go_sem,↓dP,↓reduceIte]; with_reducible and_intros; all_goals first | apply qA | exact ⟨⟩ | rfl | (intros; apply qB; first | kernel_rfl | omega) | omega | skip)
  (refine AskGI.ret (fun h => c30 s (short_fit (by simpa using h))) ?_; simp only [go_sem,↓dP,↓reduceIte]; with_reducible and_intros; all_goals first | apply qA | exact ⟨⟩ | rfl | (intros; apply qB; first | kernel_rfl | omega) | omega | skip)
  refine Ok.cond rfl ?_ ?_
  · intro _
    ((first | refine qS rfl rfl ?_ | refine qR rfl rfl ?_); simp only [go_sem,↓dP,↓reduceIte]; with_reducible and_intros; all_goals first | apply qA | exact ⟨⟩ | rfl | (intros; apply qB; first | kernel_rfl | omega) | omega | skip)
    (refine AskI.ret (c24) ?_; simp only [go_sem,↓dP,↓reduceIte]; with_reducible and_intros; all_goals first | apply qA | exact ⟨⟩ | rfl | (intros; apply qB; first | kernel_rfl | omega) | omega | skip)
    (refine Ok.ret ?_; (try dsimp only [thenK,blockK,noGotoK]); simp only [toList_mk,List.toList_toArray,retK_ret,retK_normal,resOK,resV,celV,rowV,frzAll,frzT,subV,subL,go_sem,↓dP,↓reduceIte])
    exact .refl _
  intro hb
  simp only [Bool.or_eq_false_iff,Bool.not_eq_false',decide_eq_false_iff_not] at hb
  obtain ⟨⟨⟨hsh,hst⟩,hd0⟩,hd9⟩:=hb
  have hok:=isStreet_ok.1 hst
  (refine Ok.skip ?_; (try dsimp only [thenK,blockK,noGotoK]))
  ((first | refine qS rfl rfl ?_ | refine qR rfl rfl ?_); simp only [go_sem,↓dP,↓reduceIte]; with_reducible and_intros; all_goals first | apply qA | exact ⟨⟩ | rfl | (intros; apply qB; first | kernel_rfl | omega) | omega | skip)
  (refine AskI.ret (c63_ok hok) ?_; simp only [go_sem,↓dP,↓reduceIte]; with_reducible and_intros; all_goals first | apply qA | exact ⟨⟩ | rfl | (intros; apply qB; first | kernel_rfl | omega) | omega | skip)
  refine Ok.seq ?_
  ((first | refine qS rfl rfl ?_ | refine qR rfl rfl ?_); simp only [go_sem,↓dP,↓reduceIte]; with_reducible and_intros; all_goals first | apply qA | exact ⟨⟩ | rfl | (intros; apply qB; first | kernel_rfl | omega) | omega | skip)
  refine Ok.cond (b:=false) (by first | rfl | (simp only [go_sem,↓dP,↓reduceIte]; rfl)) (fun hb => by cases hb) (fun _ => ?_)
  (refine Ok.skip ?_; (try dsimp only [thenK,blockK,noGotoK]))
  have htl:=ok_text hok
  have hsp:=fun p hp hd b hb hne => spoilt_none hok (p:=p) hp hd (b:=b) hb hne
  generalize sealedL (rowsOf s) = t at *
  refine Ok.seq ?_
  ((first | refine qS rfl rfl ?_ | refine qR rfl rfl ?_); simp only [go_sem,↓dP,↓reduceIte]; with_reducible and_intros; all_goals first | apply qA | exact ⟨⟩ | rfl | (intros; apply qB; first | kernel_rfl | omega) | omega | skip)
  · intro h
    simp only [beq_iff_eq,Bool.or_eq_false_iff,decide_eq_false_iff_not] at h
    omega
  · intro h
    simp only [beq_iff_eq,Bool.or_eq_false_iff,decide_eq_false_iff_not] at h
    omega
  · intro h
    simp only [beq_iff_eq,Bool.or_eq_false_iff,decide_eq_false_iff_not] at h
    omega
  · intro h
    simp only [beq_iff_eq,Bool.or_eq_false_iff,decide_eq_false_iff_not] at h
    exact R8 (by omega) (by omega)
  · intro h
    simp only [beq_iff_eq,Bool.or_eq_false_iff,decide_eq_false_iff_not] at h
    exact R64 (by omega) (by omega)
  refine Ok.cond rfl ?_ ?_
  · intro _
    ((first | refine qS rfl rfl ?_ | refine qR rfl rfl ?_); simp only [go_sem,↓dP,↓reduceIte]; with_reducible and_intros; all_goals first | apply qA | exact ⟨⟩ | rfl | (intros; apply qB; first | kernel_rfl | omega) | omega | skip)
    (refine AskI.ret (c24) ?_; simp only [go_sem,↓dP,↓reduceIte]; with_reducible and_intros; all_goals first | apply qA | exact ⟨⟩ | rfl | (intros; apply qB; first | kernel_rfl | omega) | omega | skip)
    (refine Ok.ret ?_; (try dsimp only [thenK,blockK,noGotoK]); simp only [toList_mk,List.toList_toArray,retK_ret,retK_normal,resOK,resV,celV,rowV,frzAll,frzT,subV,subL,go_sem,↓dP,↓reduceIte])
    exact .refl _
  intro hb
  simp only [Bool.or_eq_false_iff,decide_eq_false_iff_not,beq_eq_false_iff_ne] at hb
  obtain ⟨⟨⟨⟨h1,h2⟩,h3⟩,h4⟩,h5⟩:=hb
  (refine Ok.skip ?_; (try dsimp only [thenK,blockK,noGotoK]))
  have hnone:=hsp n.toNat (by omega) (by simp only [digit,Bool.and_eq_true,decide_eq_true_eq]; omega) (UInt8.ofNat (48 + dg.toNat)) (by simp only [digit,ofNat_dig (n:=dg.toNat) (by omega),Bool.and_eq_true,decide_eq_true_eq]; omega) (fun e => h5 (by rw [← e,ofNat_dig (n:=dg.toNat) (by omega)]; omega))
  refine ok_spoil t n dg rfl rfl rfl (by omega) (by omega) (by omega) (by omega) ?_ (by omega)
  have hread:=c64_none hnone (by rw [List.length_set]; omega)
  generalize t.set n.toNat (UInt8.ofNat (48 + dg.toNat)) = x at *
  ((first | refine qS rfl rfl ?_ | refine qR rfl rfl ?_); simp only [go_sem,↓dP,↓reduceIte]; with_reducible and_intros; all_goals first | apply qA | exact ⟨⟩ | rfl | (intros; apply qB; first | kernel_rfl | omega) | omega | skip)
  · intro i hi
    rw [byt_nat,UInt8.ofNat_toNat]
  rw [bys_map]
  (refine AskI.ret (hread) ?_; simp only [go_sem,↓dP,↓reduceIte]; with_reducible and_intros; all_goals first | apply qA | exact ⟨⟩ | rfl | (intros; apply qB; first | kernel_rfl | omega) | omega | skip)
  ((first | refine qS rfl rfl ?_ | refine qR rfl rfl ?_); simp only [go_sem,↓dP,↓reduceIte]; with_reducible and_intros; all_goals first | apply qA | exact ⟨⟩ | rfl | (intros; apply qB; first | kernel_rfl | omega) | omega | skip)
  (refine AskGI.ret (fun _ => c66z) ?_; simp only [go_sem,↓dP,↓reduceIte]; with_reducible and_intros; all_goals first | apply qA | exact ⟨⟩ | rfl | (intros; apply qB; first | kernel_rfl | omega) | omega | skip)
  (refine AskGI.ret (fun _ => c24) ?_; simp only [go_sem,↓dP,↓reduceIte]; with_reducible and_intros; all_goals first | apply qA | exact ⟨⟩ | rfl | (intros; apply qB; first | kernel_rfl | omega) | omega | skip)
  (refine Ok.ret ?_; (try dsimp only [thenK,blockK,noGotoK]); simp only [toList_mk,List.toList_toArray,retK_ret,retK_normal,resOK,resV,celV,rowV,frzAll,frzT,subV,subL,go_sem,↓dP,↓reduceIte])
  refine DEq.bool ?_
  simp
end Go.Proofs.Sight
namespace Go.Proofs.Sight
open Go Go.RX Go.Proofs Go.RowKit Go.ChangeShapes Go.WideShapes Go.Deep Go.ChangeAt
set_option maxRecDepth 100000
section
variable {H : Type} {enc : TypeId × Value → H} {W : World}
theorem cell3 : Tryz.prog.cellsOf 3 = 1:=by kernel_rfl
theorem cell4 : Tryz.prog.cellsOf 4 = 1:=by kernel_rfl
theorem cell23 : Tryz.prog.cellsOf 23 = 2:=by kernel_rfl
theorem cell24 : Tryz.prog.cellsOf 24 = 1:=by kernel_rfl
theorem cell25 : Tryz.prog.cellsOf 25 = 1:=by kernel_rfl
theorem cell27 : Tryz.prog.cellsOf 27 = 8:=by kernel_rfl
theorem cell29 : Tryz.prog.cellsOf 42 = 2:=by kernel_rfl
theorem cell49 : Tryz.prog.cellsOf 36 = 1:=by kernel_rfl
theorem cell51 : Tryz.prog.cellsOf 38 = 2:=by kernel_rfl
theorem cell59 : Tryz.prog.cellsOf 45 = 4:=by kernel_rfl
theorem cell66 : Tryz.prog.cellsOf 48 = 5:=by kernel_rfl
abbrev There (W : World) : Nat → Prop:=fun b => b < W.heap.size
theorem cell_there {a : Addr} {v : Value} (h : W.cell? a = some v) : a.spot = none ∧ a.block < W.heap.size:=by
  unfold World.cell? at h
  cases ho : W.heap[a.block]? with
  | none => rw [ho] at h; cases h
  | some o =>
    have hlt:=(Array.getElem?_eq_some_iff.1 ho).1
    rw [ho] at h
    cases o <;> simp only at h <;> try (cases h; done)
    cases hsp : a.spot with
    | none => exact ⟨rfl,hlt⟩
    | some x => rw [hsp] at h; simp at h
theorem open_rows {α : Type} [Inhabited α] {t e k : Nat} (ht : Tryz.prog.underlying t = some (.slice e)) (hc : Tryz.prog.cellsOf e = k) (hk : 0 < k) (f : α → Nat → DV) (Q : α → Prop)
    (hel : ∀ n cs x,DataW.trod enc Tryz.prog W 0 (fun _ => true) true n e cs = some x → ∃ y : α,Q y ∧ cs.length = k ∧ ∀ j u,cs[j]? = some u → Rep (There W) W u (f y j))
    {n : Nat} {cs : List Value} {x : DataW H × List MemPlace} (h : DataW.trod enc Tryz.prog W 0 (fun _ => true) true n t cs = some x) :
    ∃ (v : Value) (l : List α),cs = [v] ∧ l.length ≤ maxLen ∧ Rep (There W) W v (slD k f l) ∧ ∀ y ∈ l,Q y:=by
  rcases open_slice ht h with ⟨rfl,_⟩ | ⟨a,len,cap,m,n',D,Pl,rfl,hb,hl,hm,hmm,rfl,hx⟩
  · exact ⟨_,[],rfl,Nat.zero_le _,.sl0,fun y hy => by simp at hy⟩
  simp only [if_true] at hmm
  subst hmm
  have hx' : ∀ i,i < len → ∃ y : α,Q y ∧ ∀ j,j < k → ∃ u,W.cell? ((a.add (i * k)).add j) = some u ∧ Rep (There W) W u (f y j):=by
    intro i hi
    obtain ⟨cs',h1,h2⟩:=hx i (by omega)
    rw [hc] at h1
    obtain ⟨y,hq,hlen,hr⟩:=hel _ _ _ h2
    obtain ⟨_,_,h3⟩:=World.cells?_some h1
    refine ⟨y,hq,fun j hj => ?_⟩
    have hj' : j < cs'.length:=by omega
    exact ⟨cs'[j],by rw [h3 j hj,List.getElem?_eq_getElem hj'],hr j _ (List.getElem?_eq_getElem hj')⟩
  obtain ⟨L,hL⟩:=choose_lt hx'
  by_cases h0 : len = 0
  · subst h0
    exact ⟨_,[],rfl,Nat.zero_le _,.sl1 hm,fun y hy => by simp at hy⟩
  · obtain ⟨u0,hu0,_⟩:=(hL 0 (by omega)).2 0 hk
    rw [Go.Deep.add_add,show 0 * k + 0 = 0 by omega,show a.add 0 = a from rfl] at hu0
    obtain ⟨hs,hlt⟩:=cell_there hu0
    obtain ⟨b,o,sp⟩:=a
    simp only at hs hlt
    subst hs
    refine ⟨_,(List.range len).map L,rfl,by simp; omega,?_,fun y hy => ?_⟩
    · have hll : ((List.range len).map L).length = len:=by simp
      show Rep _ _ _ (.sl k ((List.range len).map L).length _)
      rw [hll]
      refine .sl (fun i j => (W.cell? ⟨b,o + (i * k + j),none⟩).getD undef) hlt hl hm (fun i j hi hj => ?_) (fun i j hi hj => ?_)
      · obtain ⟨u,hu,_⟩:=(hL i hi).2 j hj
        rw [Go.Deep.add_add,Addr.add_mid] at hu
        rw [hu]; rfl
      · obtain ⟨u,hu,hr⟩:=(hL i hi).2 j hj
        rw [Go.Deep.add_add,Addr.add_mid] at hu
        rw [hu]
        have : ((List.range len).map L).getD i default = L i:=by simp [List.getD_eq_getElem?_getD,hi]
        rw [this]; exact hr
    · obtain ⟨i,hi,rfl⟩:=List.mem_map.1 hy
      exact (hL i (List.mem_range.1 hi)).1
theorem open_letter (n : Nat) (cs : List Value) (x : DataW H × List MemPlace) (h : DataW.trod enc Tryz.prog W 0 (fun _ => true) true n 45 cs = some x) : ∃ y : Letter,True ∧ cs.length = 4 ∧ ∀ j u,cs[j]? = some u → Rep (There W) W u (letD y j):=by
  obtain ⟨y0,y1,y2,y3,m,_,hl,h0,h1,h2,h3⟩:=Joins.trod_struct4 Tryz.underlying45 h
  rw [cell59] at hl
  match cs,hl with
  | [c0,c1,c2,c3],_ =>
    obtain ⟨n0,e0,_⟩:=DataW.trod_int Tryz.underlying3 h0
    obtain ⟨n1,e1,_⟩:=DataW.trod_int Tryz.underlying3 h1
    obtain ⟨n2,e2,_⟩:=DataW.trod_int Tryz.underlying3 h2
    obtain ⟨n3,e3,_⟩:=DataW.trod_int Tryz.underlying3 h3
    simp [cell3] at e0 e1 e2 e3
    subst e0; subst e1; subst e2; subst e3
    refine ⟨⟨n0,n1,n2,n3⟩,trivial,rfl,fun j u hu => ?_⟩
    match j,hu with
    | 0,hu => simp at hu; subst hu; exact .int
    | 1,hu => simp at hu; subst hu; exact .int
    | 2,hu => simp at hu; subst hu; exact .int
    | 3,hu => simp at hu; subst hu; exact .int
    | j + 4,hu => simp at hu
theorem open_span {n : Nat} {cs : List Value} {x : DataW H × List MemPlace} (h : DataW.trod enc Tryz.prog W 0 (fun _ => true) true n 23 cs = some x) : ∃ a b : Int,cs = [.int .i64 a,.int .i64 b]:=by
  obtain ⟨y0,y1,m,_,hl,h0,h1⟩:=trod_struct2 Tryz.underlying23 h
  rw [cell23] at hl
  match cs,hl with
  | [c0,c1],_ =>
    obtain ⟨n0,e0,_⟩:=DataW.trod_int Tryz.underlying3 h0
    obtain ⟨n1,e1,_⟩:=DataW.trod_int Tryz.underlying3 h1
    simp [cell3] at e0 e1
    subst e0; subst e1
    exact ⟨n0,n1,rfl⟩
theorem open_block (n : Nat) (cs : List Value) (x : DataW H × List MemPlace) (h : DataW.trod enc Tryz.prog W 0 (fun _ => true) true n 48 cs = some x) : ∃ y : Block,True ∧ cs.length = 5 ∧ ∀ j u,cs[j]? = some u → Rep (There W) W u (bloD y j):=by
  obtain ⟨y0,y1,y2,m,_,hl,h0,h1,h2⟩:=trod_struct3 Tryz.underlying48 h
  rw [cell66] at hl
  match cs,hl with
  | [c0,c1,c2,c3,c4],_ =>
    obtain ⟨a0,b0,e0⟩:=open_span h0
    obtain ⟨a1,b1,e1⟩:=open_span h1
    obtain ⟨s,e2,_⟩:=DataW.trod_bool Tryz.underlying4 h2
    simp [cell23,cell4] at e0 e1 e2
    obtain ⟨rfl,rfl⟩:=e0
    obtain ⟨rfl,rfl⟩:=e1
    subst e2
    refine ⟨⟨a0,b0,a1,b1,s⟩,trivial,rfl,fun j u hu => ?_⟩
    match j,hu with
    | 0,hu => simp at hu; subst hu; exact .int
    | 1,hu => simp at hu; subst hu; exact .int
    | 2,hu => simp at hu; subst hu; exact .int
    | 3,hu => simp at hu; subst hu; exact .int
    | 4,hu => simp at hu; subst hu; exact .bool
    | j + 5,hu => simp at hu
theorem open_board (n : Nat) (cs : List Value) (x : DataW H × List MemPlace) (h : DataW.trod enc Tryz.prog W 0 (fun _ => true) true n 38 cs = some x) : ∃ y : Board,y.ls.length ≤ maxLen ∧ cs.length = 2 ∧ ∀ j u,cs[j]? = some u → Rep (There W) W u (boaD y j):=by
  obtain ⟨y0,y1,m,_,hl,h0,h1⟩:=trod_struct2 Tryz.underlying38 h
  rw [cell51] at hl
  match cs,hl with
  | [c0,c1],_ =>
    obtain ⟨n0,e0,_⟩:=DataW.trod_int Tryz.underlying3 h0
    obtain ⟨v,l,e1,hlen,hrep,_⟩:=open_rows Tryz.underlying36 cell59 (by decide) letD (fun _ => True) open_letter h1
    simp [cell3,cell49] at e0 e1
    subst e0; subst e1
    refine ⟨⟨n0,l⟩,hlen,rfl,fun j u hu => ?_⟩
    match j,hu with
    | 0,hu => simp at hu; subst hu; exact .int
    | 1,hu => simp at hu; subst hu; exact hrep
    | j + 2,hu => simp at hu
theorem open_street {v : Value} {d : DataW H} {ps : List MemPlace} {b0 : Nat} (hok : Value.okWide Tryz.prog W .any b0 27 v) (h : DataW.Trod enc Tryz.prog W 0 (fun _ => true) true 27 v d ps) : ∃ s : Street,RepS (There W) W v s.sv ∧ s.held:=by
  unfold Value.okWide at hok
  rw [Tryz.underlying27] at hok
  obtain ⟨cs,rfl,_,_⟩:=hok
  obtain ⟨n,h⟩:=h
  obtain ⟨xs,m,_,_,hl,hlen,hf⟩:=DataW.trod_struct Tryz.underlying27 h
  simp only [Value.cells] at hl hf
  rw [cell27] at hl
  match xs,hlen with
  | [y0,y1,y2,y3,y4,y5],_ =>
    have h0:=hf 0 _ rfl
    have h1:=hf 1 _ rfl
    have h2:=hf 2 _ rfl
    have h3:=hf 3 _ rfl
    have h4:=hf 4 _ rfl
    have h5:=hf 5 _ rfl
    obtain ⟨cs⟩:=cs
    simp only at hl h0 h1 h2 h3 h4 h5
    match cs,hl with
    | [c0,c1,c2,c3,c4,c5,c6,c7],_ =>
      obtain ⟨n0,e0,_⟩:=DataW.trod_int Tryz.underlying3 h0
      obtain ⟨n1,e1,_⟩:=DataW.trod_int Tryz.underlying3 h1
      obtain ⟨a2,b2,e2⟩:=open_span h2
      obtain ⟨a3,b3,e3⟩:=open_span h3
      obtain ⟨v4,bs,e4,hbl,hbr,hbq⟩:=open_rows Tryz.underlying24 cell51 (by decide) boaD (fun b => b.ls.length ≤ maxLen) open_board h4
      obtain ⟨v5,ks,e5,hkl,hkr,_⟩:=open_rows Tryz.underlying25 cell66 (by decide) bloD (fun _ => True) open_block h5
      simp [cell3,cell23,cell24,cell25] at e0 e1 e2 e3 e4 e5
      subst e0; subst e1
      obtain ⟨rfl,rfl⟩:=e2
      obtain ⟨rfl,rfl⟩:=e3
      subst e4; subst e5
      refine ⟨⟨n0,n1,a2,b2,a3,b3,bs,ks⟩,Fits.reps (xs:=[iD n0,iD n1,iD a2,iD b2,iD a3,iD b3,slD 2 boaD bs,slD 5 bloD ks]) (.cons .int (.cons .int (.cons .int (.cons .int (.cons .int (.cons .int (.cons hbr (.cons hkr .nil)))))))),?_,?_,fun b hb => ?_⟩
      · have : maxLen ≤ 9223372036854775807:=by decide
        exact Nat.le_trans hbl this
      · have : maxLen ≤ 9223372036854775807:=by decide
        exact Nat.le_trans hkl this
      · have : maxLen ≤ 9223372036854775807:=by decide
        exact Nat.le_trans (hbq b hb) this
theorem open_place {v : Value} {d : DataW H} {ps : List MemPlace} {b0 : Nat} (hok : Value.okWide Tryz.prog W .any b0 42 v) (h : DataW.Trod enc Tryz.prog W 0 (fun _ => true) true 42 v d ps) : ∃ p : Place,RepS (There W) W v p.sv:=by
  unfold Value.okWide at hok
  rw [Tryz.underlying42] at hok
  obtain ⟨cs,rfl,_,_⟩:=hok
  obtain ⟨n,h⟩:=h
  obtain ⟨y0,y1,m,_,hl,h0,h1⟩:=trod_struct2 Tryz.underlying42 h
  simp only [Value.cells] at hl h0 h1
  rw [cell29] at hl
  obtain ⟨cs⟩:=cs
  simp only at hl h0 h1
  match cs,hl with
  | [c0,c1],_ =>
    obtain ⟨n0,e0,_⟩:=DataW.trod_int Tryz.underlying3 h0
    obtain ⟨n1,e1,_⟩:=DataW.trod_int Tryz.underlying3 h1
    simp [cell3] at e0 e1
    subst e0; subst e1
    exact ⟨⟨n0,n1⟩,Fits.reps (xs:=[iD n0,iD n1]) (.cons .int (.cons .int .nil))⟩
end
end Go.Proofs.Sight
namespace Go.Proofs.YtchnganlpgfdjaaGreatDoor
open Go Go.RX Go.Proofs.Sight Go.RowKit Go.ChangeShapes Go.WideShapes Go.ChangeAt
set_option maxRecDepth 100000
theorem own : ownKnob Tryz.prog.godebug = none:=by kernel_rfl
abbrev laid5 : List (String × DataW Unit):=Rows.sightHangsRow.laid
theorem tabs_of {W : World} (hL : laidMetH Tryz.prog laid5 W) (hS : W.ShapedOpen Tryz.prog) : Tabs W:=by
  rw [MakeChecks.laidMetH_plain _ _ _ (by kernel_rfl)] at hL
  refine ⟨?_,?_⟩
  · exact Lib.tabIs_of_head (zs:=Lib.pow10Tab) (g:=0) (t:=211) (e:=198) (n:=20) (by kernel_rfl) (by kernel_rfl) Tryz.underlying211 Tryz.underlying198 (by kernel_rfl) (by kernel_rfl) hL.tail.tail
  · exact Go.Proofs.cell_of_shapedOpen_int (t:=3) (zero:=#[.int .i64 0]) hS (of_decide_eq_true (by kernel_rfl)) (by kernel_rfl) rfl (by kernel_rfl) (by kernel_rfl) Tryz.underlying3
variable {H : Type} {enc : TypeId × Value → H}
theorem trodAll_below {W W' : World} (hb : Below W.heap.size W W') : ∀ {ts : List TypeId} {vs : List Value} {ds : List (DataW H)} {ps : List MemPlace},(∀ t ∈ ts,Tryz.prog.readableRec t = true ∧ t < Tryz.prog.types.size) →
    DataW.TrodAll enc Tryz.prog W 0 (fun _ => true) true ts vs ds ps → (∀ x ∈ ps,x.block < W.heap.size) → DataW.TrodAll enc Tryz.prog W' 0 (fun b => decide (b < W.heap.size)) true ts vs ds ps
  | [],[],[],_,_,h,_ => h
  | _ :: _,_ :: _,_ :: _,_,hT,⟨p,q,h1,h2,e⟩,hs => ⟨p,q,Below.trod laidOut (hT _ (List.mem_cons.2 (Or.inl rfl))).1 (hT _ (List.mem_cons.2 (Or.inl rfl))).2 h1 hb (fun x hx => hs x (by rw [e]; exact List.mem_append_left _ hx)),
      trodAll_below hb (fun t ht => hT t (List.mem_cons.2 (Or.inr ht))) h2 (fun x hx => hs x (by rw [e]; exact List.mem_append_right _ hx)),e⟩
theorem law_ret {os : Os} {f : FuncId} {fn : Func} (s : ChangeSpec) (hv : s.vars = []) (started : os.Started) (noInit : Tryz.prog.inits.idxOf? f = none) (hfn : Tryz.prog.funcs[f]? = some fn) (hres : fn.resultTypes = #[4])
    (hts : ∀ t ∈ fn.params.toList,Tryz.prog.readableRec t = true ∧ t < Tryz.prog.types.size)
    (hs : ∀ ds : List (DataW H),ds.length = fn.params.toList.length → s.fn H (ds ++ []) = { results:=[.lit (.bool true)],args:=ds })
    (witness : ∃ (w : World) (tape : Tape) (i : Input),w.os = os ∧ (w.forCall tape i).Shaped Tryz.prog ∧ i.vars = [] ∧ Input.okWide Tryz.prog (w.forCall tape i) .any w.heap.size f i ∧
      ((s.pre enc Tryz.prog fn [] false (w.forCall tape i).memory i.args ∧ laidMetH Tryz.prog laid5 (w.forCall tape i).memory) ∧ sizedMet enc Tryz.prog fn (OpenSpec.ofChange s) false (w.forCall tape i).memory i.args) ∧ ({} : Assume).holds Tryz.prog (lone (Frame.enter Tryz.prog f i.args .normal) [] (w.forCall tape i)))
    (contract : ∀ (W : World) (base : Nat) (args : Array Value) (ds : List (DataW H)) (ps : List MemPlace),
      (∀ (j : Nat) t v,fn.params[j]? = some t → args[j]? = some v → Value.okWide Tryz.prog W .any base t v) →
      DataW.TrodAll enc Tryz.prog W 0 (fun _ => true) true fn.params.toList args.toList ds ps → Tabs W →
      Calls Tryz.prog f args W fun e W' => e = .returned (.bool true) ∧ Below W.heap.size W W') :
    ReturnsInHanded {} Tryz.checked os f .any (fun w args => (s.pre enc Tryz.prog fn [] false w args ∧ laidMetH Tryz.prog laid5 w) ∧ sizedMet enc Tryz.prog fn (OpenSpec.ofChange s) false w args) (s.post enc Tryz.prog fn false true false false):=by
  refine returnsInHanded_of_calls (C:=Tryz.checked) own started noInit witness ?_
  intro w tape i _ hsh _ hok hpre hholds
  obtain ⟨_,_,_,fn',hfn',_,_,_,_,hval⟩:=hok
  have e : fn' = fn:=Option.some.inj (hfn'.symm.trans hfn)
  subst e
  obtain ⟨⟨⟨ds,gs,before,hw,hc⟩,hx⟩,hz⟩:=hpre
  have hW':=DataW.Whole.of_heap (w':=w.forCall tape i) (by rfl) hw
  have hW:=hW'
  obtain ⟨p,q,hA,hV,rfl,_,_⟩:=hW
  rw [hv] at hV
  obtain ⟨rfl,rfl⟩:=trodVars_none hV
  have hL : laidMetH Tryz.prog laid5 (w.forCall tape i):=hx.of_heap (by rfl)
  refine (contract (w.forCall tape i) w.heap.size i.args ds p hval hA (tabs_of hL hsh)).mono fun e W' ⟨he,hb⟩ => ?_
  subst he
  refine ChangeSpec.post_blind ?_
  have hlen:=(Go.trodAll_length hA).2
  have hsf:=hs ds hlen
  refine ⟨ds,[],_,[],p,[],hW',?_,?_,?_,hb.frame _,fun h => by cases h⟩
  · rw [hsf,hres]
    exact trodAll_mk1 (shut_bool Tryz.underlying4 _)
  · rw [hsf]
    exact trodAll_below hb hts hA (fun x hx => by
      have:=hW'.lt x (by simpa using hx)
      exact this)
  · rw [hsf,hv]
    rfl
end Go.Proofs.YtchnganlpgfdjaaGreatDoor
namespace Go.Proofs.YtchnganlpgfdjaaGreatDoor
open Go Go.RX Go.Proofs.Sight Go.RowKit Go.ChangeShapes Go.WideShapes Go.ChangeAt
set_option maxRecDepth 100000
abbrev zS : Value:=.agg #[.int .i64 0,.int .i64 0,.int .i64 0,.int .i64 0,.int .i64 0,.int .i64 0,.slice none 0 0,.slice none 0 0]
abbrev zI : Value:=.int .i64 0
def opens (t : TypeId) (A : SV) : Prop :=
  (t = 27 ∧ ∃ s : Street,A = s.sv ∧ s.held) ∨ (t = 42 ∧ ∃ p : Go.Proofs.Sight.Place,A = p.sv) ∨ (t = 3 ∧ ∃ i : Int,A = iS i ∧ -9223372036854775808 ≤ i ∧ i ≤ 9223372036854775807) ∨ (t = 9 ∧ ∃ x : List UInt8,A = .d (.str x) ∧ x.length ≤ maxLen)
def opensAll : List TypeId → List SV → Prop
  | [],[] => True
  | t :: ts,A :: As => opens t A ∧ opensAll ts As
  | _,_ => False
section
variable {H : Type} {enc : TypeId × Value → H} {W : World}
theorem open_one {t : TypeId} {v : Value} {d : DataW H} {ps : List MemPlace} {b0 : Nat} (ht : t = 27 ∨ t = 42 ∨ t = 3 ∨ t = 9) (hok : Value.okWide Tryz.prog W .any b0 t v)
    (h : DataW.Trod enc Tryz.prog W 0 (fun _ => true) true t v d ps) : ∃ A,opens t A ∧ RepS (There W) W v A:=by
  rcases ht with rfl | rfl | rfl | rfl
  · obtain ⟨s,hr,hh⟩:=open_street hok h
    exact ⟨_,.inl ⟨rfl,s,rfl,hh⟩,hr⟩
  · obtain ⟨p,hr⟩:=open_place hok h
    exact ⟨_,.inr (.inl ⟨rfl,p,rfl⟩),hr⟩
  · obtain ⟨m,rfl,_,_,hm⟩:=open_int Tryz.underlying3 hok h
    simp [Lit.wf,IntKind.min,IntKind.max,IntKind.signed,IntKind.bits] at hm
    exact ⟨iS m,.inr (.inr (.inl ⟨rfl,m,rfl,by omega,by omega⟩)),RepS.of .int⟩
  · obtain ⟨x,rfl,_,_,hm⟩:=Go.ChangeMaps.open_string Tryz.underlying9 hok h
    refine ⟨.d (.str x.data.toList),.inr (.inr (.inr ⟨rfl,_,rfl,?_⟩)),RepS.of (.str rfl)⟩
    have : x.data.toList.length = x.size:=rfl
    omega
theorem open_all {b0 : Nat} : ∀ {ts : List TypeId} {vs : List Value} {ds : List (DataW H)} {ps : List MemPlace},(∀ t ∈ ts,t = 27 ∨ t = 42 ∨ t = 3 ∨ t = 9) →
    (∀ (j : Nat) t v,ts[j]? = some t → vs[j]? = some v → Value.okWide Tryz.prog W .any b0 t v) → DataW.TrodAll enc Tryz.prog W 0 (fun _ => true) true ts vs ds ps →
    ∃ As,opensAll ts As ∧ vs.length = As.length ∧ ∀ (j : Nat) u s,vs[j]? = some u → As[j]? = some s → RepS (There W) W u s
  | [],vs,ds,ps,_,_,h => by
    obtain ⟨rfl,rfl,rfl⟩:=trodAll_nil h
    exact ⟨[],trivial,rfl,fun j u s h1 _ => by simp at h1⟩
  | t :: ts,vs,ds,ps,hT,hv,h => by
    obtain ⟨v,vs',d,ds',p,q,rfl,rfl,rfl,h1,h2⟩:=trodAll_cons h
    obtain ⟨A,ha,hr⟩:=open_one (hT t (List.mem_cons.2 (.inl rfl))) (hv 0 t v rfl rfl) h1
    obtain ⟨As,hA,hl,hR⟩:=open_all (fun t ht => hT t (List.mem_cons.2 (.inr ht))) (fun j t v a b => hv (j + 1) t v (by simpa using a) (by simpa using b)) h2
    refine ⟨A :: As,⟨ha,hA⟩,by simp [hl],fun j u s a b => ?_⟩
    cases j with
    | zero =>
      simp at a b
      subst a; subst b
      exact hr
    | succ j => exact hR j u s (by simpa using a) (by simpa using b)
theorem read_of {t : TypeId} (ht : t = 27 ∨ t = 42 ∨ t = 3 ∨ t = 9) : Tryz.prog.readableRec t = true ∧ t < Tryz.prog.types.size:=by
  rcases ht with rfl | rfl | rfl | rfl <;> exact ⟨by kernel_rfl,of_decide_eq_true (by kernel_rfl)⟩
end
theorem opensAll_cons {t : TypeId} {ts : List TypeId} {As : List SV} (h : opensAll (t :: ts) As) : ∃ A Bs,As = A :: Bs ∧ opens t A ∧ opensAll ts Bs:=by
  cases As with
  | nil => exact h.elim
  | cons A Bs => exact ⟨A,Bs,rfl,h.1,h.2⟩
theorem opensAll_nil {As : List SV} (h : opensAll [] As) : As = []:=by
  cases As with
  | nil => rfl
  | cons A Bs => exact h.elim
theorem opens_street {A : SV} (h : opens 27 A) : ∃ s : Street,A = s.sv ∧ s.held:=by
  rcases h with h | h | h | h
  · exact h.2
  · exact absurd h.1 (by decide)
  · exact absurd h.1 (by decide)
  · exact absurd h.1 (by decide)
theorem opens_int {A : SV} (h : opens 3 A) : ∃ i : Int,A = iS i ∧ -9223372036854775808 ≤ i ∧ i ≤ 9223372036854775807:=by
  rcases h with h | h | h | h
  · exact absurd h.1 (by decide)
  · exact absurd h.1 (by decide)
  · exact h.2
  · exact absurd h.1 (by decide)
theorem law_stand {t : TypeId} {ts : List TypeId} (hts : ∀ t ∈ ts,t = 27 ∨ t = 42 ∨ t = 3 ∨ t = 9) (ht : t ∈ ts) : Tryz.prog.wantsStandIn t = false:=by
  rcases hts t ht with rfl | rfl | rfl | rfl <;> kernel_rfl
theorem law_ctr {H : Type} {enc : TypeId × Value → H} {os : Os} {f : FuncId} {fn : Func} {ts : List TypeId} (s : ChangeSpec) (hv : s.vars = []) (started : os.Started) (noInit : Tryz.prog.inits.idxOf? f = none) (hfn : Tryz.prog.funcs[f]? = some fn) (hres : fn.resultTypes = #[4])
    (hp : fn.params.toList = ts) (hts : ∀ t ∈ ts,t = 27 ∨ t = 42 ∨ t = 3 ∨ t = 9)
    (hs : ∀ ds : List (DataW H),ds.length = ts.length → s.fn H (ds ++ []) = { results:=[.lit (.bool true)],args:=ds })
    (witness : ∃ (w : World) (tape : Tape) (i : Input),w.os = os ∧ (w.forCall tape i).Shaped Tryz.prog ∧ i.vars = [] ∧ Input.okWide Tryz.prog (w.forCall tape i) .any w.heap.size f i ∧
      ((s.pre enc Tryz.prog fn [] false (w.forCall tape i).memory i.args ∧ laidMetH Tryz.prog laid5 (w.forCall tape i).memory) ∧ sizedMet enc Tryz.prog fn (OpenSpec.ofChange s) false (w.forCall tape i).memory i.args) ∧ ({} : Assume).holds Tryz.prog (lone (Frame.enter Tryz.prog f i.args .normal) [] (w.forCall tape i)))
    (contract : ∀ As,opensAll ts As → Ctr Tryz.prog f As (bS true)) :
    ReturnsInHanded {} Tryz.checked os f .any (fun w args => (s.pre enc Tryz.prog fn [] false w args ∧ laidMetH Tryz.prog laid5 w) ∧ sizedMet enc Tryz.prog fn (OpenSpec.ofChange s) false w args) (s.post enc Tryz.prog fn false true false false):=by
  subst hp
  refine law_ret s hv started noInit hfn hres (fun t ht => read_of (hts t ht)) hs witness ?_
  intro W base args ds ps hval hA hT
  obtain ⟨As,ho,hl,hR⟩:=open_all (b0:=base) hts (fun j t v a b => hval j t v (by simpa using a) (by simpa using b)) hA
  refine ((contract As ho).2 (There W) W args hT (fun b h => h) (by simpa using hl) (fun j u s a b => hR j u s (by simpa using a) b)).mono fun e W' ⟨v,he,hr,hb⟩ => ?_
  subst he
  have h0:=hr (fun _ => none)
  cases h0 with
  | d h0 =>
    cases h0
    exact ⟨rfl,hb⟩
end Go.Proofs.YtchnganlpgfdjaaGreatDoor
namespace Go.Proofs.YtchnganlpgfdjaaGreatDoor
open Go Go.RX Go.Proofs.Sight Go.RowKit Go.ChangeShapes Go.WideShapes Go.ChangeAt
set_option maxRecDepth 100000
theorem init_is : Tryz.prog.initOrder = String.ofList ("harness".toList ++ Char.ofNat 32 :: ("4e11b3a9e1b7f322c0875aff538975e56966d1b41feccace7074b138c2bd9333".toList ++ Char.ofNat 32 :: ("cut".toList ++ Char.ofNat 32 :: [.ofNat 97,.ofNat 116,.ofNat 32,.ofNat 109,.ofNat 97,.ofNat 104,.ofNat 108,.ofNat 115,.ofNat 116,.ofNat 105,.ofNat 99,.ofNat 107,.ofNat 47,.ofNat 109,.ofNat 97,.ofNat 104,.ofNat 108,.ofNat 115,.ofNat 116,.ofNat 105,.ofNat 99,.ofNat 107,.ofNat 108,.ofNat 97,
  .ofNat 119,.ofNat 48,.ofNat 50,.ofNat 46,.ofNat 83,.ofNat 105,.ofNat 103,.ofNat 104,.ofNat 116,.ofNat 72,.ofNat 97,.ofNat 110,.ofNat 103,.ofNat 115,.ofNat 32,.ofNat 109,.ofNat 97,.ofNat 104,.ofNat 108,.ofNat 115,.ofNat 116,.ofNat 105,.ofNat 99,.ofNat 107,
  .ofNat 47,.ofNat 109,.ofNat 97,.ofNat 104,.ofNat 108,.ofNat 115,.ofNat 116,.ofNat 105,.ofNat 99,.ofNat 107,.ofNat 108,.ofNat 97,.ofNat 119,.ofNat 48,.ofNat 50,.ofNat 46,.ofNat 83,.ofNat 105,.ofNat 103,.ofNat 104,.ofNat 116,.ofNat 69,.ofNat 108,.ofNat 115,
  .ofNat 101,.ofNat 119,.ofNat 104,.ofNat 101,.ofNat 114,.ofNat 101,.ofNat 32,.ofNat 109,.ofNat 97,.ofNat 104,.ofNat 108,.ofNat 115,.ofNat 116,.ofNat 105,.ofNat 99,.ofNat 107,.ofNat 47,.ofNat 109,.ofNat 97,.ofNat 104,.ofNat 108,.ofNat 115,.ofNat 116,.ofNat 105,
  .ofNat 99,.ofNat 107,.ofNat 108,.ofNat 97,.ofNat 119,.ofNat 48,.ofNat 50,.ofNat 46,.ofNat 83,.ofNat 105,.ofNat 103,.ofNat 104,.ofNat 116,.ofNat 77,.ofNat 111,.ofNat 114,.ofNat 101,.ofNat 32,.ofNat 109,.ofNat 97,.ofNat 104,.ofNat 108,.ofNat 115,.ofNat 116,
  .ofNat 105,.ofNat 99,.ofNat 107,.ofNat 47,.ofNat 109,.ofNat 97,.ofNat 104,.ofNat 108,.ofNat 115,.ofNat 116,.ofNat 105,.ofNat 99,.ofNat 107,.ofNat 108,.ofNat 97,.ofNat 119,.ofNat 48,.ofNat 50,.ofNat 46,.ofNat 83,.ofNat 105,.ofNat 103,.ofNat 104,.ofNat 116,
  .ofNat 84,.ofNat 117,.ofNat 114,.ofNat 110,.ofNat 101,.ofNat 100,.ofNat 32,.ofNat 109,.ofNat 97,.ofNat 104,.ofNat 108,.ofNat 115,.ofNat 116,.ofNat 105,.ofNat 99,.ofNat 107,.ofNat 47,.ofNat 109,.ofNat 97,.ofNat 104,.ofNat 108,.ofNat 115,.ofNat 116,.ofNat 105,
  .ofNat 99,.ofNat 107,.ofNat 108,.ofNat 97,.ofNat 119,.ofNat 48,.ofNat 50,.ofNat 46,.ofNat 83,.ofNat 105,.ofNat 103,.ofNat 104,.ofNat 116,.ofNat 83,.ofNat 101,.ofNat 101,.ofNat 110,.ofNat 115,.ofNat 32,.ofNat 109,.ofNat 97,.ofNat 104,.ofNat 108,.ofNat 115,
  .ofNat 116,.ofNat 105,.ofNat 99,.ofNat 107,.ofNat 47,.ofNat 109,.ofNat 97,.ofNat 104,.ofNat 108,.ofNat 115,.ofNat 116,.ofNat 105,.ofNat 99,.ofNat 107,.ofNat 108,.ofNat 97,.ofNat 119,.ofNat 48,.ofNat 50,.ofNat 46,.ofNat 83,.ofNat 105,.ofNat 103,.ofNat 104,
  .ofNat 116,.ofNat 80,.ofNat 114,.ofNat 105,.ofNat 110,.ofNat 116,.ofNat 115,.ofNat 32,.ofNat 109,.ofNat 97,.ofNat 104,.ofNat 108,.ofNat 115,.ofNat 116,.ofNat 105,.ofNat 99,.ofNat 107,.ofNat 47,.ofNat 109,.ofNat 97,.ofNat 104,.ofNat 108,.ofNat 115,.ofNat 116,
  .ofNat 105,.ofNat 99,.ofNat 107,.ofNat 108,.ofNat 97,.ofNat 119,.ofNat 48,.ofNat 50,.ofNat 46,.ofNat 83,.ofNat 105,.ofNat 103,.ofNat 104,.ofNat 116,.ofNat 82,.ofNat 101,.ofNat 97,.ofNat 100,.ofNat 115,.ofNat 32,.ofNat 109,.ofNat 97,.ofNat 104,.ofNat 108,
  .ofNat 115,.ofNat 116,.ofNat 105,.ofNat 99,.ofNat 107,.ofNat 47,.ofNat 109,.ofNat 97,.ofNat 104,.ofNat 108,.ofNat 115,.ofNat 116,.ofNat 105,.ofNat 99,.ofNat 107,.ofNat 108,.ofNat 97,.ofNat 119,.ofNat 48,.ofNat 50,.ofNat 46,.ofNat 83,.ofNat 105,.ofNat 103,
  .ofNat 104,.ofNat 116,.ofNat 83,.ofNat 112,.ofNat 111,.ofNat 105,.ofNat 108,.ofNat 116,.ofNat 32,.ofNat 109,.ofNat 97,.ofNat 104,.ofNat 108,.ofNat 115,.ofNat 116,.ofNat 105,.ofNat 99,.ofNat 107,.ofNat 47,.ofNat 109,.ofNat 97,.ofNat 104,.ofNat 108,.ofNat 115,
  .ofNat 116,.ofNat 105,.ofNat 99,.ofNat 107,.ofNat 108,.ofNat 97,.ofNat 119,.ofNat 48,.ofNat 50,.ofNat 46,.ofNat 83,.ofNat 105,.ofNat 103,.ofNat 104,.ofNat 116,.ofNat 66,.ofNat 111,.ofNat 116,.ofNat 104,.ofNat 115,.ofNat 32,.ofNat 109,.ofNat 97,.ofNat 104,
  .ofNat 108,.ofNat 115,.ofNat 116,.ofNat 105,.ofNat 99,.ofNat 107,.ofNat 47,.ofNat 109,.ofNat 97,.ofNat 104,.ofNat 108,.ofNat 115,.ofNat 116,.ofNat 105,.ofNat 99,.ofNat 107,.ofNat 108,.ofNat 97,.ofNat 119,.ofNat 48,.ofNat 50,.ofNat 46,.ofNat 83,.ofNat 105,
  .ofNat 103,.ofNat 104,.ofNat 116,.ofNat 83,.ofNat 104,.ofNat 97,.ofNat 114,.ofNat 101,.ofNat 100]))):=by kernel_rfl
theorem words_cons (c : Char) (r : List Char) (h : c ≠ Char.ofNat 32) : wordsSigns (c :: r) = match wordsSigns r with | w :: ws => (c :: w) :: ws | [] => [[c]]:=by
  rw [wordsSigns.eq_3 _ _ (by intro e; exact h e)]
  cases wordsSigns r <;> rfl
theorem words_of : ∀ (w r : List Char),(∀ c ∈ w,c ≠ Char.ofNat 32) → wordsSigns (w ++ Char.ofNat 32 :: r) = w :: wordsSigns r
  | [],r,_ => rfl
  | c :: w,r,h => by
    rw [List.cons_append,words_cons _ _ (h c (List.mem_cons.2 (.inl rfl))),words_of w r (fun c hc => h c (List.mem_cons.2 (.inr hc)))]
theorem words_is : ∃ ws,wordsSigns Tryz.prog.initOrder.toList = "harness".toList :: "4e11b3a9e1b7f322c0875aff538975e56966d1b41feccace7074b138c2bd9333".toList :: "cut".toList :: ws:=by
  rw [init_is,String.toList_ofList]
  exact ⟨_,by rw [words_of _ _ (by decide +kernel),words_of _ _ (by decide +kernel),words_of _ _ (by decide +kernel)]⟩
theorem behind_of (s : List Char) (ws : List (List Char)) (h : isSumSigns s = true) : behindMainWord ("harness".toList :: s :: ws) = ws:=by
  unfold behindMainWord
  simp only [h,beq_self_eq_true,Bool.true_or,Bool.and_self,if_true]
theorem sum_is : isSumSigns "4e11b3a9e1b7f322c0875aff538975e56966d1b41feccace7074b138c2bd9333".toList = true:=by decide +kernel
theorem behind_is : ∃ ws,behindMainWord (wordsSigns Tryz.prog.initOrder.toList) = "cut".toList :: ws:=by
  obtain ⟨ws,h⟩:=words_is
  exact ⟨ws,(congrArg behindMainWord h).trans (behind_of _ _ sum_is)⟩
theorem mainIs_of (P : Program) (s : List Char) (ws : List (List Char)) (h : wordsSigns P.initOrder.toList = "harness".toList :: s :: ws) (hs : isSumSigns s = true) : P.mainIs = some (true,s):=by
  unfold Program.mainIs
  rw [h]
  simp only [hs,beq_self_eq_true,if_true,Bool.not_true,if_false,Bool.false_eq_true]
theorem main_is : Tryz.prog.mainIs = some (true,"4e11b3a9e1b7f322c0875aff538975e56966d1b41feccace7074b138c2bd9333".toList):=by
  obtain ⟨ws,h⟩:=words_is
  exact mainIs_of _ _ _ h sum_is
theorem strip_cut (ws : List (List Char)) : stripLifts liftWords ("cut".toList :: ws) = ([],"cut".toList :: ws):=by
  have e : ∀ (l : List String),l.all (fun o => !("cut".toList == o.toList)) = true → stripLifts l ("cut".toList :: ws) = ([],"cut".toList :: ws)
    := fun l => by
      induction l with
      | nil => intro _; rfl
      | cons o os ih =>
        intro h
        rw [List.all_cons,Bool.and_eq_true] at h
        rw [stripLifts,if_neg (by simpa using h.1)]
        exact ih h.2
  exact e _ (by decide +kernel)
theorem lifts_of (P : Program) (ws : List (List Char)) (h : behindMainWord (wordsSigns P.initOrder.toList) = "cut".toList :: ws) : P.headLifts = []:=by
  unfold Program.headLifts
  rw [h,strip_cut]
  simp
theorem later_is : Tryz.prog.laysLater = false:=by kernel_rfl
theorem reflect_is : Tryz.prog.bearsReflect = false:=by kernel_rfl
theorem door_is : Tryz.prog.doorFits [] = true:=by kernel_rfl
theorem ne_gc : ("cut".toList == "gc".toList) = false:=by decide +kernel
theorem ne_spec : ("cut".toList == "spec".toList) = false:=by decide +kernel
theorem ne_carried : ("cut".toList == "carried".toList) = false:=by decide +kernel
theorem enter_of (P : Program) (ws : List (List Char)) (h : behindMainWord (wordsSigns P.initOrder.toList) = "cut".toList :: ws) (h1 : P.laysLater = false) (h2 : P.bearsReflect = false) (h3 : P.doorFits [] = true) : P.mayEnter = true:=by
  unfold Program.mayEnter
  rw [h]
  simp only [strip_cut,h1,h2,h3,ne_gc,ne_spec,ne_carried,List.head?_cons,beq_self_eq_true,Bool.not_false,Bool.or_true,Bool.and_self,List.contains_nil,Bool.or_self,Bool.false_and,Bool.false_or]
theorem final_of (P : Program) (ws : List (List Char)) (h : behindMainWord (wordsSigns P.initOrder.toList) = "cut".toList :: ws) : P.liftsFinal = false:=by
  unfold Program.liftsFinal
  have e : ((some "cut".toList : Option (List Char)) == some "carried".toList) = false:=by decide +kernel
  simp only [h,lifts_of P ws h,List.head?_cons,e,Bool.false_and,Bool.false_or,List.contains_nil]
theorem make_of (P : Program) (ws : List (List Char)) (h : behindMainWord (wordsSigns P.initOrder.toList) = "cut".toList :: ws) : P.make = some .cut:=by
  unfold Program.make
  rw [h]
  simp only [ne_gc,ne_spec,beq_self_eq_true,Bool.or_self,Bool.true_or,Bool.false_eq_true,if_false,if_true]
theorem enter_is : Tryz.prog.mayEnter = true:=by
  obtain ⟨ws,h⟩:=behind_is
  exact enter_of _ ws h later_is reflect_is door_is
theorem final_is : Tryz.prog.liftsFinal = false:=by
  obtain ⟨ws,h⟩:=behind_is
  exact final_of _ ws h
theorem make_is : Tryz.prog.make = some .cut:=by
  obtain ⟨ws,h⟩:=behind_is
  exact make_of _ ws h
end Go.Proofs.YtchnganlpgfdjaaGreatDoor
namespace Go.Proofs.YtchnganlpgfdjaaGreatDoor
open Go Go.RX Go.Proofs.Sight Go.RowKit Go.ChangeShapes Go.WideShapes Go.ChangeAt
set_option maxRecDepth 100000
theorem spoilt_ctr (As : List SV) (h : opensAll [27,3,3] As) : Ctr Tryz.prog 10 As (bS true):=by
  obtain ⟨_,A1,rfl,h0,h⟩:=opensAll_cons h
  obtain ⟨_,A2,rfl,h1,h⟩:=opensAll_cons h
  obtain ⟨_,A3,rfl,h2,h⟩:=opensAll_cons h
  obtain rfl:=opensAll_nil h
  obtain ⟨x0,rfl,y0⟩:=opens_street h0
  obtain ⟨x1,rfl,y1,z1⟩:=opens_int h1
  obtain ⟨x2,rfl,y2,z2⟩:=opens_int h2
  exact c20 x0 y0 x1 x2
theorem spoilt_facts : joinedFacts Tryz.prog 10 Tryz.f10 Rows.sightSpoiltSpec Rows.sightSpoiltRow = true:=by unfold joinedFacts; rw [enter_is,final_is,make_is]; kernel_rfl
theorem spoilt_lifted (os : Os) (started : os.Started) (H : Type) (enc : TypeId × Value → H) :
    ReturnsInHanded {} Tryz.checked os 10 .any (fun w args => (Rows.sightSpoiltSpec.pre enc Tryz.prog Tryz.f10 [] false w args ∧ laidMetH Tryz.prog laid5 w) ∧ sizedMet enc Tryz.prog Tryz.f10 (OpenSpec.ofChange Rows.sightSpoiltSpec) false w args)
      (Rows.sightSpoiltSpec.post enc Tryz.prog Tryz.f10 false true false false):=by
  refine law_ctr (ts:=[27,3,3]) Rows.sightSpoiltSpec rfl started (by kernel_rfl) Tryz.func10 (by kernel_rfl) (by rw [Tryz.params10]) (by decide)
    (fun ds hd => ?_)
    (ChangeSpec.witness_shaped (enc:=enc) (C:=Tryz.checked) (os:=os) (X:=fun w _ => laidMetH Tryz.prog laid5 w) false (World.laidAll Tryz.prog os laid5) #[zS,zI,zI] 8 (World.laidAll_os _ _ _)
      (World.shaped_of_ZipB (by kernel_rfl) (by kernel_rfl)) (by kernel_rfl) (by kernel_rfl) (by kernel_rfl)
      (by rw [MakeChecks.laidMetH_plain _ _ _ (by kernel_rfl)]; exact laidMet_laidAll _ (by kernel_rfl) (by kernel_rfl))) spoilt_ctr
  match ds,hd with
  | [d0,d1,d2],_ => rfl
theorem spoilt_row : Rows.SightSpoiltSaid :=
  OpenClaim.holds_of_wide 10 Tryz.f10 rfl rfl rfl rfl rfl rfl rfl ⟨rfl,rfl,rfl,rfl,rfl⟩ rfl rfl rfl rfl rfl (by kernel_rfl) Tryz.func10 spoilt_facts (of_decide_eq_true (by kernel_rfl))
    (by unfold Func.isWrapper; first | (rw [if_pos (by decide +kernel)]; kernel_rfl) | (rw [if_neg (by decide +kernel)]; exact ⟨rfl,rfl⟩)) (fun os started H enc _ => spoilt_lifted os started H enc)
theorem spoilt_card : Rows.SightSpoiltCardSaid :=
  Claim7.holds_tied_plain_at .later [] [.data,.data,.data,.data,.pinned] true (true,"4e11b3a9e1b7f322c0875aff538975e56966d1b41feccace7074b138c2bd9333") true spoilt_row
    (fun _ h => by cases h) (by kernel_rfl) (fun _ h => by cases h) sightSpoilt_row_tie rfl ⟨rfl,rfl⟩ main_is rfl
    (fun f fn hf hfn => by
      obtain rfl : f = 10:=Option.some.inj ((show Tryz.prog.funcNamed "mahlstick/mahlsticklaw02.SightSpoilt" = some 10 by kernel_rfl).symm.trans hf) |>.symm
      obtain rfl : fn = Tryz.f10:=(Option.some.inj (Tryz.func10.symm.trans hfn)).symm
      exact ⟨by kernel_rfl,fun j t ht => by
        rw [Tryz.params10] at ht
        exact law_stand (ts:=[27,3,3]) (by decide) (by simpa using Array.mem_of_getElem? ht)⟩) (by kernel_rfl)
#print axioms spoilt_card
end Go.Proofs.YtchnganlpgfdjaaGreatDoor
