/-
  Which street any string is the text of,or the errors: SightReads returns true at every input,and leaves it as it was.
  No condition beside those that the statement itself names.
-/
import Derived.Test.YtchnganlpgfdjaaGreatDoorB00
import Derived.Test.YtchnganlpgfdjaaGreatDoorB01
import Derived.Test.YtchnganlpgfdjaaGreatDoorB02
import Derived.Test.YtchnganlpgfdjaaGreatDoorB03
import Derived.Test.YtchnganlpgfdjaaGreatDoorB04
import Derived.Test.YtchnganlpgfdjaaGreatDoorB05
import Derived.Test.YtchnganlpgfdjaaGreatDoorB06
import Derived.Test.YtchnganlpgfdjaaGreatDoorB07
import Derived.Test.YtchnganlpgfdjaaGreatDoorB08
import Derived.Test.YtchnganlpgfdjaaGreatDoorB09
import Derived.Test.YtchnganlpgfdjaaGreatDoorB10
import Derived.Test.YtchnganlpgfdjaaGreatDoorB11
import Derived.Test.YtchnganlpgfdjaaGreatDoorB12
import Derived.Test.YtchnganlpgfdjaaGreatDoorB13
import Derived.Test.YtchnganlpgfdjaaGreatDoorB14
import Derived.Test.YtchnganlpgfdjaaGreatDoorB15
import Derived.Test.YtchnganlpgfdjaaGreatDoorB16
import Derived.Test.YtchnganlpgfdjaaGreatDoorB17
import Derived.Test.YtchnganlpgfdjaaGreatDoorB18
import Derived.Test.YtchnganlpgfdjaaGreatDoorB19
import Derived.Test.YtchnganlpgfdjaaGreatDoorB20
import Derived.Test.YtchnganlpgfdjaaGreatDoorB21
import Derived.Test.YtchnganlpgfdjaaGreatDoorB22
import Derived.Test.YtchnganlpgfdjaaGreatDoorB23
import Derived.Test.YtchnganlpgfdjaaGreatDoorB24
import Derived.Test.YtchnganlpgfdjaaGreatDoorB25
import Derived.Test.YtchnganlpgfdjaaGreatDoorB26
import Derived.Defers
import Derived.Recover
import Derived.Laws.StructEq
import Derived.OpenShut
import Derived.Deep.Slices
import Derived.Deep.Strs
import Derived.Lib.SmallJoins
import Derived.Test.YtchnganlpgfdjaaGreatDoorRows
import Derived.Test.YtchnganlpgfdjaaGreatDoorTie
import Derived.Test.YtchnganlpgfdjaaGreatDoorCards
import Derived.ProofKit
import Derived.LaidMore
import Derived.Lay
import Derived.LaidOnce
import Derived.SevenTiedAt
import Derived.Shelf.Vars
import Derived.Carry
import Derived.HandedShaped
import Derived.Stop.LaidErr
import Derived.ChangeCalls
import Derived.ChangeMaps5
set_option linter.all false
set_option linter.unusedVariables false
set_option linter.unusedSectionVars false
set_option linter.unusedSimpArgs false
set_option linter.unnecessarySimpa false
namespace Go.Proofs.Sight
open Go Go.RX Go.Proofs
set_option maxRecDepth 10000
attribute [go_sem] storeX
abbrev noT (w : List UInt8) : DV:=.ifc 139 1 (dget [.str w])
theorem c135_ifno {b : Bool} (h : b = false) (why : List UInt8) : CtrP Tryz.prog 108 [bS b,.d (.str why)] (noT why):=by
  subst h; exact c135_no why
theorem decode_none (l : List UInt8) (p : Nat) (hp : p < l.length) (h : digit (l.getD p 0) = false) : ¬ (48 ≤ (Utf8.decode ⟨l.toArray⟩ p).1 ∧ (Utf8.decode ⟨l.toArray⟩ p).1 ≤ 57):=by
  have hb : (ByteArray.get! ⟨l.toArray⟩ (p + 0)) = l.getD p 0:=by
    show (l.toArray)[p + 0]! = _
    rw [Nat.add_zero,getElem!_pos l.toArray p (by simpa using hp),getD0,getD_lt hp]
    simp
  have hd : ¬ (48 ≤ (l.getD p 0).toNat ∧ (l.getD p 0).toNat ≤ 57):=by
    intro hh
    simp only [digit,Bool.and_eq_false_iff,decide_eq_false_iff_not] at h
    omega
  have hr : Utf8.runeError = 65533:=rfl
  unfold Utf8.decode
  simp only [hb]
  generalize (l.getD p 0).toNat = b at hd
  (repeat' split) <;> (try simp only [Bool.and_eq_true,decide_eq_true_eq,ge_iff_le] at *) <;> (try dsimp only) <;> omega
theorem numL_lt' (l : List UInt8) : ∀ i,(∀ k,k < i → digit (l.getD k 0) = true) → i ≤ l.length → numL (l.take i) < 10 ^ i
  | 0,_,_ => by simp [numL]
  | i + 1,h,hi => by
    have ih:=numL_lt' l i (fun k hk => h k (by omega)) (by omega)
    have hd:=h i (by omega)
    simp only [digit,Bool.and_eq_true,decide_eq_true_eq] at hd
    rw [getD_take (by omega),numL_snoc,Nat.pow_succ]
    have : (l.getD i default).toNat = (l.getD i 0).toNat:=rfl
    omega
theorem stop_at {w : List UInt8} (h : ¬ isNum w) : ∃ k0,k0 ≤ w.length ∧ (∀ k,k < k0 → digit (w.getD k 0) = true) ∧ (0 < k0 → w.length ≤ 3) ∧
    ((k0 < w.length ∧ (digit (w.getD k0 0) = false ∨ 3 < w.length)) ∨ (k0 = w.length ∧ (w = [] ∨ Lib.itoa (numL w) ≠ w))):=by
  by_cases hl : 3 < w.length
  · exact ⟨0,by omega,fun k hk => by omega,fun h => by omega,.inl ⟨by omega,.inr hl⟩⟩
  · cases hf : w.findIdx? (fun b => !digit b) with
    | some k0 =>
      obtain ⟨h1,h2,h3⟩:=List.findIdx?_eq_some_iff_getElem.1 hf
      refine ⟨k0,by omega,fun k hk => ?_,fun _ => by omega,.inl ⟨h1,.inl ?_⟩⟩
      · rw [getD0,getD_lt (by omega)]
        simpa using h3 k hk
      · rw [getD0,getD_lt h1]; simpa using h2
    | none =>
      have h0:=List.findIdx?_eq_none_iff.1 hf
      have hd : ∀ b ∈ w,digit b = true:=fun b hb => by simpa using h0 b hb
      refine ⟨w.length,Nat.le_refl _,fun k hk => hd _ (getD_mem hk),fun _ => by omega,.inr ⟨rfl,?_⟩⟩
      by_cases hw : w = []
      · exact .inl hw
      · exact .inr (fun e => h ⟨hw,hd,by omega,e⟩)
theorem c136_cnt (ws : List (List UInt8)) (n : Int) (hn : (ws.length : Int) ≠ n) : CtrP Tryz.prog 109 [.d (strsD ws),iS n] (noT [110,117,109,98,101,114,115]):=by
  (refine CtrP.mk (fn:=Tryz.f109) rfl rfl rfl rfl rfl ?_; dsimp only [args])
  ((first | refine qS rfl rfl ?_ | refine qR rfl rfl ?_); simp only [go_sem,↓dP,↓reduceIte]; with_reducible and_intros; all_goals first | apply qA | exact ⟨⟩ | rfl | (intros; apply qB; first | kernel_rfl | omega) | omega | skip)
  ((first | refine qS rfl rfl ?_ | refine qR rfl rfl ?_); simp only [go_sem,↓dP,↓reduceIte]; with_reducible and_intros; all_goals first | apply qA | exact ⟨⟩ | rfl | (intros; apply qB; first | kernel_rfl | omega) | omega | skip)
  (refine AskI.pan (c135_ifno (by simpa using hn) _) ?_; simp only [go_sem,↓dP,↓reduceIte]; with_reducible and_intros; all_goals first | apply qA | exact ⟨⟩ | rfl | (intros; apply qB; first | kernel_rfl | omega) | omega | skip)
  exact .refl _
theorem c136_bad (ws : List (List UInt8)) (i0 : Nat) (hi0 : i0 < ws.length) (hok : ∀ w ∈ ws.take i0,isNum w) (hbad : ¬ isNum (ws.getD i0 default)) (hl : ws.length ≤ 1000) :
    CtrP Tryz.prog 109 [.d (strsD ws),iS ws.length] (noT (ws.getD i0 default)):=by
  (refine CtrP.mk (fn:=Tryz.f109) rfl rfl rfl rfl rfl ?_; dsimp only [args])
  ((first | refine qS rfl rfl ?_ | refine qR rfl rfl ?_); simp only [go_sem,↓dP,↓reduceIte]; with_reducible and_intros; all_goals first | apply qA | exact ⟨⟩ | rfl | (intros; apply qB; first | kernel_rfl | omega) | omega | skip)
  ((first | refine qS rfl rfl ?_ | refine qR rfl rfl ?_); simp only [go_sem,↓dP,↓reduceIte]; with_reducible and_intros; all_goals first | apply qA | exact ⟨⟩ | rfl | (intros; apply qB; first | kernel_rfl | omega) | omega | skip)
  (refine AskI.ret (c135_ok _) ?_; simp only [go_sem,↓dP,↓reduceIte]; with_reducible and_intros; all_goals first | apply qA | exact ⟨⟩ | rfl | (intros; apply qB; first | kernel_rfl | omega) | omega | skip)
  ((first | refine qS rfl rfl ?_ | refine qR rfl rfl ?_); simp only [go_sem,↓dP,↓reduceIte]; with_reducible and_intros; all_goals first | apply qA | exact ⟨⟩ | rfl | (intros; apply qB; first | kernel_rfl | omega) | omega | skip)
  refine Ok.seq ?_
  ((first | refine qS rfl rfl ?_ | refine qR rfl rfl ?_); simp only [go_sem,↓dP,↓reduceIte]; with_reducible and_intros; all_goals first | apply qA | exact ⟨⟩ | rfl | (intros; apply qB; first | kernel_rfl | omega) | omega | skip)
  refine Ok.block ?_
  refine Ok.count i0 (fun i => ⟨[(5,.tk 0),(16,.d (strsD ws)),(17,iS ws.length),(18,iS i)],[],[ownD 3 1 natD ((ws.take i).map numL)]⟩) (fun _ => True) ⟨trivial,?_⟩ ?_ ?_
  · (refine Sub.of ([]) ([none]) ?_ ?_ ?_ rfl rfl <;> simp only [subB,subB1,subT,subT1,newT,subE,subV,subL,go_sem,↓dP,↓reduceIte] <;> (try (repeat' with_reducible apply And.intro)) <;> (try first | exact DEq.refl _ | refine DEq.int ?_ | refine DEq.bool ?_ | omega))
  · intro i hi' _
    have hi : i < ws.length:=by omega
    have hlen:=map_len numL (l:=ws) (i:=i) (by omega)
    have hsn:=map_snoc numL hi
    obtain ⟨hne,hdig,hl3,hit⟩:=hok _ (at_take hi' hi)
    generalize hW : ws.getD i default = w at hne hdig hl3 hit hsn
    (((first | refine qS rfl rfl ?_ | refine qR rfl rfl ?_); simp only [go_sem,↓dP,↓reduceIte]; with_reducible and_intros; all_goals first | apply qA | exact ⟨⟩ | rfl | (intros; apply qB; first | kernel_rfl | omega) | omega | skip)); refine Ok.seq ?_; refine Ok.cond rfl (fun _ => ?_) (fun hb => by simp at hb; omega); (refine Ok.skip ?_; (try dsimp only [thenK,blockK,noGotoK])); refine Ok.seq ?_; refine Ok.block ?_
    ((first | refine qS rfl rfl ?_ | refine qR rfl rfl ?_); simp only [go_sem,↓dP,↓reduceIte]; with_reducible and_intros; all_goals first | apply qA | exact ⟨⟩ | rfl | (intros; apply qB; first | kernel_rfl | omega) | omega | skip)
    rw [hW]
    ((first | refine qS rfl rfl ?_ | refine qR rfl rfl ?_); simp only [go_sem,↓dP,↓reduceIte]; with_reducible and_intros; all_goals first | apply qA | exact ⟨⟩ | rfl | (intros; apply qB; first | kernel_rfl | omega) | omega | skip)
    refine Ok.seq ?_
    ((first | refine qS rfl rfl ?_ | refine qR rfl rfl ?_); simp only [go_sem,↓dP,↓reduceIte]; with_reducible and_intros; all_goals first | apply qA | exact ⟨⟩ | rfl | (intros; apply qB; first | kernel_rfl | omega) | omega | skip)
    refine Ok.block ?_
    refine Ok.count w.length (fun k => ⟨[(5,.tk 0),(7,.d (.str w)),(8,iS (numL (w.take k) : Nat)),(16,.d (strsD ws)),(17,iS ws.length),(18,iS i),(23,.p 0 0)],[{ frz:=false,xs:=[],it:=some (w,k) }],[ownD 3 1 natD ((ws.take i).map numL)]⟩) (fun _ => True) ⟨trivial,?_⟩ ?_ ?_
    · (refine Sub.of ([0]) ([some 0]) ?_ ?_ ?_ rfl rfl <;> simp only [subB,subB1,subT,subT1,newT,subE,subV,subL,go_sem,↓dP,↓reduceIte] <;> (try (repeat' with_reducible apply And.intro)) <;> (try first | exact DEq.refl _ | refine DEq.int ?_ | refine DEq.bool ?_ | omega))
      exact fun _ _ _ _ => DEq.refl _
    · intro k hk _
      have hd : digit (w.getD k 0) = true:=hdig _ (getD_mem hk)
      have hdec:=decode_digit w k hk hd
      ((first | refine qS rfl rfl ?_ | refine qR rfl rfl ?_); simp only [go_sem,↓dP,↓reduceIte]; with_reducible and_intros; all_goals first | apply qA | exact ⟨⟩ | rfl | (intros; apply qB; first | kernel_rfl | omega) | omega | skip)
      rw [if_pos hk,hdec]
      (simp only [go_sem,↓dP,↓reduceIte]; with_reducible and_intros; all_goals first | apply qA | exact ⟨⟩ | rfl | (intros; apply qB; first | kernel_rfl | omega) | omega | skip)
      refine Ok.seq ?_
      refine Ok.cond (b:=true) (by first | rfl | (simp only [go_sem,↓dP,↓reduceIte]; rfl)) (fun _ => ?_) (fun hb => by cases hb)
      (refine Ok.skip ?_; (try dsimp only [thenK,blockK,noGotoK]))
      refine Ok.block ?_
      ((first | refine qS rfl rfl ?_ | refine qR rfl rfl ?_); simp only [go_sem,↓dP,↓reduceIte]; with_reducible and_intros; all_goals first | apply qA | exact ⟨⟩ | rfl | (intros; apply qB; first | kernel_rfl | omega) | omega | skip)
      ((first | refine qS rfl rfl ?_ | refine qR rfl rfl ?_); simp only [go_sem,↓dP,↓reduceIte]; with_reducible and_intros; all_goals first | apply qA | exact ⟨⟩ | rfl | (intros; apply qB; first | kernel_rfl | omega) | omega | skip)
      simp only [digit,Bool.and_eq_true,decide_eq_true_eq] at hd
      have hnl:=numL_lt w k hdig (by omega)
      have hpow : 10 ^ k ≤ 100:=by
        have:=Nat.pow_le_pow_right (n:=10) (by decide) (show k ≤ 2 by omega)
        simpa using this
      have hns : numL (w.take (k + 1)) = 10 * numL (w.take k) + ((w.getD k 0).toNat - 48):=by rw [getD_take hk,numL_snoc]; rfl
      generalize hB : (w.getD k 0).toNat = b at hd hns
      (refine AskI.ret (c135_if (by simp only [hB,Bool.and_eq_true,decide_eq_true_eq]; omega) _) ?_; simp only [go_sem,↓dP,↓reduceIte]; with_reducible and_intros; all_goals first | apply qA | exact ⟨⟩ | rfl | (intros; apply qB; first | kernel_rfl | omega) | omega | skip)
      ((first | refine qS rfl rfl ?_ | refine qR rfl rfl ?_); simp only [go_sem,↓dP,↓reduceIte]; with_reducible and_intros; all_goals first | apply qA | exact ⟨⟩ | rfl | (intros; apply qB; first | kernel_rfl | omega) | omega | skip)
      · exact R32 (by omega) (by omega)
      (try dsimp only [thenK,blockK,noGotoK])
      refine ⟨trivial,?_⟩
      (refine Sub.of ([0]) ([some 0]) ?_ ?_ ?_ rfl rfl <;> simp only [subB,subB1,subT,subT1,newT,subE,subV,subL,go_sem,↓dP,↓reduceIte] <;> (try (repeat' with_reducible apply And.intro)) <;> (try first | exact DEq.refl _ | refine DEq.int ?_ | refine DEq.bool ?_ | omega))
      all_goals first | (exact fun _ _ _ _ => DEq.refl _) | (rw [hns]; omega)
    · intro _
      ((first | refine qS rfl rfl ?_ | refine qR rfl rfl ?_); simp only [go_sem,↓dP,↓reduceIte]; with_reducible and_intros; all_goals first | apply qA | exact ⟨⟩ | rfl | (intros; apply qB; first | kernel_rfl | omega) | omega | skip)
      rw [if_neg (by omega)]
      (simp only [go_sem,↓dP,↓reduceIte]; with_reducible and_intros; all_goals first | apply qA | exact ⟨⟩ | rfl | (intros; apply qB; first | kernel_rfl | omega) | omega | skip)
      refine Ok.seq ?_
      refine Ok.cond (b:=false) (by first | rfl | (simp only [go_sem,↓dP,↓reduceIte]; rfl)) (fun hb => by cases hb) (fun _ => ?_)
      (refine Ok.exit ?_; simp only [thenK_exit,blockK_exit,noGotoK_exit,thenK_normal,blockK_normal,noGotoK_normal,↓reduceIte,Nat.reduceEqDiff])
      have hnl:=numL_lt w w.length hdig (Nat.le_refl _)
      rw [List.take_length] at hnl
      have hpow : 10 ^ w.length ≤ 1000:=Nat.pow_le_pow_right (by decide) hl3
      rw [List.take_length]
      ((first | refine qS rfl rfl ?_ | refine qR rfl rfl ?_); simp only [go_sem,↓dP,↓reduceIte]; with_reducible and_intros; all_goals first | apply qA | exact ⟨⟩ | rfl | (intros; apply qB; first | kernel_rfl | omega) | omega | skip)
      (refine AskGI.ret (fun _ => c132 _ (by omega) (by omega)) ?_; simp only [go_sem,↓dP,↓reduceIte]; with_reducible and_intros; all_goals first | apply qA | exact ⟨⟩ | rfl | (intros; apply qB; first | kernel_rfl | omega) | omega | skip)
      rw [hit]
      (refine AskI.ret (c135_if (by simp [hne]) _) ?_; simp only [go_sem,↓dP,↓reduceIte]; with_reducible and_intros; all_goals first | apply qA | exact ⟨⟩ | rfl | (intros; apply qB; first | kernel_rfl | omega) | omega | skip)
      ((first | refine qS rfl rfl ?_ | refine qR rfl rfl ?_); simp only [go_sem,↓dP,↓reduceIte]; with_reducible and_intros; all_goals first | apply qA | exact ⟨⟩ | rfl | (intros; apply qB; first | kernel_rfl | omega) | omega | skip)
      (try dsimp only [thenK,blockK,noGotoK])
      ((first | refine qS rfl rfl ?_ | refine qR rfl rfl ?_); simp only [go_sem,↓dP,↓reduceIte]; with_reducible and_intros; all_goals first | apply qA | exact ⟨⟩ | rfl | (intros; apply qB; first | kernel_rfl | omega) | omega | skip)
      (try dsimp only [thenK,blockK,noGotoK])
      refine ⟨trivial,?_⟩
      (refine Sub.of ([]) ([some 1]) ?_ ?_ ?_ rfl rfl <;> simp only [subB,subB1,subT,subT1,newT,subE,subV,subL,go_sem,↓dP,↓reduceIte] <;> (try (repeat' with_reducible apply And.intro)) <;> (try first | exact DEq.refl _ | refine DEq.int ?_ | refine DEq.bool ?_ | omega))
      · rw [hsn]; simp
      · rw [hsn]
        exact snoc_D (fun c hc => by have : c = 0:=by omega
                                     subst this; rfl)
  · intro _
    generalize hW : ws.getD i0 default = w at hbad
    (((first | refine qS rfl rfl ?_ | refine qR rfl rfl ?_); simp only [go_sem,↓dP,↓reduceIte]; with_reducible and_intros; all_goals first | apply qA | exact ⟨⟩ | rfl | (intros; apply qB; first | kernel_rfl | omega) | omega | skip)); refine Ok.seq ?_; refine Ok.cond rfl (fun _ => ?_) (fun hb => by simp at hb; omega); (refine Ok.skip ?_; (try dsimp only [thenK,blockK,noGotoK])); refine Ok.seq ?_; refine Ok.block ?_
    ((first | refine qS rfl rfl ?_ | refine qR rfl rfl ?_); simp only [go_sem,↓dP,↓reduceIte]; with_reducible and_intros; all_goals first | apply qA | exact ⟨⟩ | rfl | (intros; apply qB; first | kernel_rfl | omega) | omega | skip)
    rw [hW]
    ((first | refine qS rfl rfl ?_ | refine qR rfl rfl ?_); simp only [go_sem,↓dP,↓reduceIte]; with_reducible and_intros; all_goals first | apply qA | exact ⟨⟩ | rfl | (intros; apply qB; first | kernel_rfl | omega) | omega | skip)
    refine Ok.seq ?_
    ((first | refine qS rfl rfl ?_ | refine qR rfl rfl ?_); simp only [go_sem,↓dP,↓reduceIte]; with_reducible and_intros; all_goals first | apply qA | exact ⟨⟩ | rfl | (intros; apply qB; first | kernel_rfl | omega) | omega | skip)
    refine Ok.block ?_
    
    obtain ⟨k0,hk0,hpre,hl0,hstop⟩ : ∃ k0,k0 ≤ w.length ∧ (∀ k,k < k0 → digit (w.getD k 0) = true) ∧ (0 < k0 → w.length ≤ 3) ∧ ((k0 < w.length ∧ (digit (w.getD k0 0) = false ∨ 3 < w.length)) ∨ (k0 = w.length ∧ (w = [] ∨ Lib.itoa (numL w) ≠ w))):=stop_at hbad
    refine Ok.count k0 (fun k => ⟨[(5,.tk 0),(7,.d (.str w)),(8,iS (numL (w.take k) : Nat)),(16,.d (strsD ws)),(17,iS ws.length),(18,iS i0),(23,.p 0 0)],[{ frz:=false,xs:=[],it:=some (w,k) }],[ownD 3 1 natD ((ws.take i0).map numL)]⟩) (fun _ => True) ⟨trivial,?_⟩ ?_ ?_
    · (refine Sub.of ([0]) ([some 0]) ?_ ?_ ?_ rfl rfl <;> simp only [subB,subB1,subT,subT1,newT,subE,subV,subL,go_sem,↓dP,↓reduceIte] <;> (try (repeat' with_reducible apply And.intro)) <;> (try first | exact DEq.refl _ | refine DEq.int ?_ | refine DEq.bool ?_ | omega))
      exact fun _ _ _ _ => DEq.refl _
    · intro k hk' _
      have hk : k < w.length:=by omega
      have hl3:=hl0 (by omega)
      have hd : digit (w.getD k 0) = true:=hpre k hk'
      have hdec:=decode_digit w k hk hd
      ((first | refine qS rfl rfl ?_ | refine qR rfl rfl ?_); simp only [go_sem,↓dP,↓reduceIte]; with_reducible and_intros; all_goals first | apply qA | exact ⟨⟩ | rfl | (intros; apply qB; first | kernel_rfl | omega) | omega | skip)
      rw [if_pos hk,hdec]
      (simp only [go_sem,↓dP,↓reduceIte]; with_reducible and_intros; all_goals first | apply qA | exact ⟨⟩ | rfl | (intros; apply qB; first | kernel_rfl | omega) | omega | skip)
      refine Ok.seq ?_
      refine Ok.cond (b:=true) (by first | rfl | (simp only [go_sem,↓dP,↓reduceIte]; rfl)) (fun _ => ?_) (fun hb => by cases hb)
      (refine Ok.skip ?_; (try dsimp only [thenK,blockK,noGotoK]))
      refine Ok.block ?_
      ((first | refine qS rfl rfl ?_ | refine qR rfl rfl ?_); simp only [go_sem,↓dP,↓reduceIte]; with_reducible and_intros; all_goals first | apply qA | exact ⟨⟩ | rfl | (intros; apply qB; first | kernel_rfl | omega) | omega | skip)
      ((first | refine qS rfl rfl ?_ | refine qR rfl rfl ?_); simp only [go_sem,↓dP,↓reduceIte]; with_reducible and_intros; all_goals first | apply qA | exact ⟨⟩ | rfl | (intros; apply qB; first | kernel_rfl | omega) | omega | skip)
      simp only [digit,Bool.and_eq_true,decide_eq_true_eq] at hd
      have hnl:=numL_lt' w k (fun i hi => hpre i (by omega)) (by omega)
      have hpow : 10 ^ k ≤ 100:=by
        have:=Nat.pow_le_pow_right (n:=10) (by decide) (show k ≤ 2 by omega)
        simpa using this
      have hns : numL (w.take (k + 1)) = 10 * numL (w.take k) + ((w.getD k 0).toNat - 48):=by rw [getD_take hk,numL_snoc]; rfl
      generalize hB : (w.getD k 0).toNat = b at hd hns
      (refine AskI.ret (c135_if (by simp only [hB,Bool.and_eq_true,decide_eq_true_eq]; omega) _) ?_; simp only [go_sem,↓dP,↓reduceIte]; with_reducible and_intros; all_goals first | apply qA | exact ⟨⟩ | rfl | (intros; apply qB; first | kernel_rfl | omega) | omega | skip)
      ((first | refine qS rfl rfl ?_ | refine qR rfl rfl ?_); simp only [go_sem,↓dP,↓reduceIte]; with_reducible and_intros; all_goals first | apply qA | exact ⟨⟩ | rfl | (intros; apply qB; first | kernel_rfl | omega) | omega | skip)
      · exact R32 (by omega) (by omega)
      (try dsimp only [thenK,blockK,noGotoK])
      refine ⟨trivial,?_⟩
      (refine Sub.of ([0]) ([some 0]) ?_ ?_ ?_ rfl rfl <;> simp only [subB,subB1,subT,subT1,newT,subE,subV,subL,go_sem,↓dP,↓reduceIte] <;> (try (repeat' with_reducible apply And.intro)) <;> (try first | exact DEq.refl _ | refine DEq.int ?_ | refine DEq.bool ?_ | omega))
      all_goals first | (exact fun _ _ _ _ => DEq.refl _) | (rw [hns]; omega)
    · intro _
      rcases hstop with ⟨hk,hst⟩ | ⟨hk,hst⟩
      · have hdec : digit (w.getD k0 0) = false → _:=decode_none w k0 hk
        ((first | refine qS rfl rfl ?_ | refine qR rfl rfl ?_); simp only [go_sem,↓dP,↓reduceIte]; with_reducible and_intros; all_goals first | apply qA | exact ⟨⟩ | rfl | (intros; apply qB; first | kernel_rfl | omega) | omega | skip)
        rw [if_pos hk]
        (simp only [go_sem,↓dP,↓reduceIte]; with_reducible and_intros; all_goals first | apply qA | exact ⟨⟩ | rfl | (intros; apply qB; first | kernel_rfl | omega) | omega | skip)
        refine Ok.seq ?_
        refine Ok.cond (b:=true) (by first | rfl | (simp only [go_sem,↓dP,↓reduceIte]; rfl)) (fun _ => ?_) (fun hb => by cases hb)
        (refine Ok.skip ?_; (try dsimp only [thenK,blockK,noGotoK]))
        refine Ok.block ?_
        ((first | refine qS rfl rfl ?_ | refine qR rfl rfl ?_); simp only [go_sem,↓dP,↓reduceIte]; with_reducible and_intros; all_goals first | apply qA | exact ⟨⟩ | rfl | (intros; apply qB; first | kernel_rfl | omega) | omega | skip)
        ((first | refine qS rfl rfl ?_ | refine qR rfl rfl ?_); simp only [go_sem,↓dP,↓reduceIte]; with_reducible and_intros; all_goals first | apply qA | exact ⟨⟩ | rfl | (intros; apply qB; first | kernel_rfl | omega) | omega | skip)
        have hc : (decide ((48 : Int) ≤ ((Utf8.decode ⟨w.toArray⟩ k0).1 : Int)) && decide (((Utf8.decode ⟨w.toArray⟩ k0).1 : Int) ≤ 57) && decide ((w.length : Int) ≤ 3)) = false:=by
          simp only [Bool.and_eq_false_iff,decide_eq_false_iff_not]
          rcases hst with h | h
          · have:=hdec h; omega
          · omega
        (refine AskI.pan (c135_ifno hc _) ?_; simp only [go_sem,↓dP,↓reduceIte]; with_reducible and_intros; all_goals first | apply qA | exact ⟨⟩ | rfl | (intros; apply qB; first | kernel_rfl | omega) | omega | skip)
        exact .refl _
      · subst hk
        ((first | refine qS rfl rfl ?_ | refine qR rfl rfl ?_); simp only [go_sem,↓dP,↓reduceIte]; with_reducible and_intros; all_goals first | apply qA | exact ⟨⟩ | rfl | (intros; apply qB; first | kernel_rfl | omega) | omega | skip)
        rw [if_neg (by omega)]
        (simp only [go_sem,↓dP,↓reduceIte]; with_reducible and_intros; all_goals first | apply qA | exact ⟨⟩ | rfl | (intros; apply qB; first | kernel_rfl | omega) | omega | skip)
        refine Ok.seq ?_
        refine Ok.cond (b:=false) (by first | rfl | (simp only [go_sem,↓dP,↓reduceIte]; rfl)) (fun hb => by cases hb) (fun _ => ?_)
        (refine Ok.exit ?_; simp only [thenK_exit,blockK_exit,noGotoK_exit,thenK_normal,blockK_normal,noGotoK_normal,↓reduceIte,Nat.reduceEqDiff])
        have hl3 : w.length ≤ 3:=by
          rcases Nat.eq_zero_or_pos w.length with h | h
          · omega
          · exact hl0 h
        have hnl:=numL_lt' w w.length hpre (Nat.le_refl _)
        rw [List.take_length] at hnl
        have hpow : 10 ^ w.length ≤ 1000:=Nat.pow_le_pow_right (by decide) hl3
        rw [List.take_length]
        ((first | refine qS rfl rfl ?_ | refine qR rfl rfl ?_); simp only [go_sem,↓dP,↓reduceIte]; with_reducible and_intros; all_goals first | apply qA | exact ⟨⟩ | rfl | (intros; apply qB; first | kernel_rfl | omega) | omega | skip)
        (refine AskGI.ret (fun _ => c132 _ (by omega) (by omega)) ?_; simp only [go_sem,↓dP,↓reduceIte]; with_reducible and_intros; all_goals first | apply qA | exact ⟨⟩ | rfl | (intros; apply qB; first | kernel_rfl | omega) | omega | skip)
        have hc : (w != [] && Lib.itoa ((numL w : Nat) : Int) == w) = false:=by
          rcases hst with h | h
          · subst h; rfl
          · simp [h]
        (refine AskI.pan (c135_ifno hc _) ?_; simp only [go_sem,↓dP,↓reduceIte]; with_reducible and_intros; all_goals first | apply qA | exact ⟨⟩ | rfl | (intros; apply qB; first | kernel_rfl | omega) | omega | skip)
        exact .refl _
end Go.Proofs.Sight
namespace Go.Proofs.Sight
open Go Go.RX Go.Proofs
set_option maxRecDepth 10000
instance (w : List UInt8) : Decidable (isNum w):=by unfold isNum; infer_instance
def nums (ws : List (List UInt8)) (n : Nat) : Prop:=ws.length = n ∧ ∀ w ∈ ws,isNum w
instance (ws : List (List UInt8)) (n : Nat) : Decidable (nums ws n):=by unfold nums; infer_instance
theorem num_lt {w : List UInt8} (h : isNum w) : numL w < 1000:=by
  have h1:=numL_lt w w.length h.2.1 (Nat.le_refl _)
  rw [List.take_length] at h1
  have h2 : 10 ^ w.length ≤ 1000:=Nat.pow_le_pow_right (by decide) h.2.2.1
  omega
abbrev Cur:=Option (List Board × Int × List Letter)
abbrev PS:=Cur × List Block
def bsOf : Cur → List Board
  | none => []
  | some (bs,a,ls) => bs ++ [⟨a,ls⟩]
def nth' (ws : List (List UInt8)) (i : Nat) : Int:=(numL (ws.getD i default) : Nat)
def stepP (st : PS) (r : List UInt8) : Option PS :=
  let W:=splitL r [32]
  if W.getD 0 default = boardW then
    if nums (W.drop 1) 1 then some (some (bsOf st.1,nth' W 1,[]),st.2) else none
  else if W.getD 0 default = letterW then
    if nums (W.drop 1) 4 then
      match st.1 with
      | none => none
      | some (bs,a,ls) => some (some (bs,a,ls ++ [⟨nth' W 1,nth' W 2,nth' W 3,nth' W 4⟩]),st.2)
    else none
  else if W.length = 6 ∧ nums (W.drop 2) 4 then
    some (st.1,st.2 ++ [⟨nth' W 2,nth' W 3,nth' W 4,nth' W 5,W.getD 1 default == [115,117,114,101]⟩])
  else none
def midL (rows : List (List UInt8)) : List (List UInt8):=(rows.drop 1).take (rows.length - 3)
def preL (m : List (List UInt8)) (i : Nat) : Option PS:=(m.take i).foldlM stepP (none,[])
def mkS (W : List (List UInt8)) (st : PS) : Street:=⟨nth' W 1,nth' W 2,nth' W 3,nth' W 4,nth' W 5,nth' W 6,bsOf st.1,st.2⟩
def parseP (t : List UInt8) : Option Street :=
  let rows:=splitL t [10]
  let W:=splitL (rows.getD 0 default) [32]
  if 3 ≤ rows.length ∧ nums (W.drop 1) 6 then
    match preL (midL rows) (midL rows).length with
    | none => none
    | some st => if sealedL (rowsOf (mkS W st)) = t then some (mkS W st) else none
  else none
theorem preL_zero (m : List (List UInt8)) : preL m 0 = some (none,[]):=rfl
theorem preL_succ (m : List (List UInt8)) {i : Nat} (h : i < m.length) : preL m (i + 1) = (preL m i).bind (fun st => stepP st (m.getD i default)):=by
  unfold preL
  rw [getD_take h,List.foldlM_append]
  cases (m.take i).foldlM stepP (none,[]) with
  | none => rfl
  | some st =>
    show List.foldlM stepP st [m.getD i default] = stepP st (m.getD i default)
    rw [List.foldlM_cons]
    cases stepP st (m.getD i default) <;> rfl
theorem preL_none (m : List (List UInt8)) {i : Nat} (h : preL m i = none) : ∀ n,i + n ≤ m.length → preL m (i + n) = none
  | 0,_ => h
  | n + 1,hn => by
    rw [← Nat.add_assoc,preL_succ m (by omega),preL_none m h n (by omega)]; rfl
theorem preL_fail (m : List (List UInt8)) {i : Nat} {st : PS} (hi : i < m.length) (h : preL m i = some st) (hs : stepP st (m.getD i default) = none) : preL m m.length = none:=by
  have h1 : preL m (i + 1) = none:=by rw [preL_succ m hi,h]; exact hs
  have h2:=preL_none m h1 (m.length - (i + 1)) (by omega)
  rwa [show i + 1 + (m.length - (i + 1)) = m.length by omega] at h2
def pl (n : Int) : Prop:=0 ≤ n ∧ n < 1000
structure Street.plain (s : Street) : Prop where
  n : ∀ n ∈ s.nums,pl n
  b : ∀ b ∈ s.bs,pl b.at_
  l : ∀ b ∈ s.bs,∀ x ∈ b.ls,∀ n ∈ x.nums,pl n
  k : ∀ k ∈ s.ks,∀ n ∈ k.nums,pl n
theorem pl_num {W : List (List UInt8)} {a n : Nat} (h : nums (W.drop a) n) {i : Nat} (h1 : a ≤ i) (h2 : i < a + n) : pl (nth' W i):=by
  have hl:=h.1
  rw [List.length_drop] at hl
  have:=num_lt (h.2 (W.getD i default) (by
    have : (W.drop a).getD (i - a) default = W.getD i default:=by
      simp only [List.getD_eq_getElem?_getD,List.getElem?_drop]
      rw [show a + (i - a) = i by omega]
    rw [← this]
    exact getD_mem (by rw [List.length_drop]; omega)))
  unfold pl nth'
  omega
def nrows (st : PS) : Nat:=((bsOf st.1).flatMap boardRows).length + st.2.length
structure PlainP (st : PS) : Prop where
  b : ∀ b ∈ bsOf st.1,pl b.at_
  l : ∀ b ∈ bsOf st.1,∀ x ∈ b.ls,∀ n ∈ x.nums,pl n
  k : ∀ k ∈ st.2,∀ n ∈ k.nums,pl n
theorem stepP_plain {st st' : PS} {r : List UInt8} (h : stepP st r = some st') (hp : PlainP st) : PlainP st' ∧ nrows st' = nrows st + 1:=by
  unfold stepP at h
  dsimp only at h
  split at h
  · split at h
    · rename_i hn
      simp only [Option.some.injEq] at h
      subst h
      have h1:=pl_num hn (i:=1) (by omega) (by omega)
      refine ⟨⟨fun b hb => ?_,fun b hb => ?_,hp.k⟩,?_⟩
      · simp only [bsOf,List.mem_append,List.mem_singleton] at hb
        rcases hb with hb | rfl
        · exact hp.b b hb
        · exact h1
      · simp only [bsOf,List.mem_append,List.mem_singleton] at hb
        rcases hb with hb | rfl
        · exact hp.l b hb
        · intro x hx; simp at hx
      · simp only [nrows,bsOf,List.flatMap_append,List.flatMap_cons,List.flatMap_nil,boardRows,List.length_append,List.length_cons,List.map_nil,List.length_nil]
        omega
    · cases h
  · split at h
    · split at h
      · rename_i hn
        split at h
        · cases h
        · rename_i bs a ls hc
          simp only [Option.some.injEq] at h
          subst h
          obtain ⟨c,ks⟩:=st
          dsimp only at hc
          subst hc
          have h1:=pl_num hn (i:=1) (by omega) (by omega)
          have h2:=pl_num hn (i:=2) (by omega) (by omega)
          have h3:=pl_num hn (i:=3) (by omega) (by omega)
          have h4:=pl_num hn (i:=4) (by omega) (by omega)
          refine ⟨⟨fun b hb => ?_,fun b hb => ?_,hp.k⟩,?_⟩
          · simp only [bsOf,List.mem_append,List.mem_singleton] at hb
            rcases hb with hb | rfl
            · exact hp.b b (by simp only [bsOf,List.mem_append]; exact .inl hb)
            · exact hp.b ⟨a,ls⟩ (by simp [bsOf])
          · simp only [bsOf,List.mem_append,List.mem_singleton] at hb
            rcases hb with hb | rfl
            · exact hp.l b (by simp only [bsOf,List.mem_append]; exact .inl hb)
            · intro x hx
              simp only [List.mem_append,List.mem_singleton] at hx
              rcases hx with hx | rfl
              · exact hp.l ⟨a,ls⟩ (by simp [bsOf]) x hx
              · intro n hn
                simp only [Letter.nums,List.mem_cons,List.not_mem_nil,or_false] at hn
                rcases hn with rfl | rfl | rfl | rfl <;> assumption
          · simp only [nrows,bsOf,List.flatMap_append,List.flatMap_cons,List.flatMap_nil,boardRows,List.length_append,List.length_cons,List.map_nil,List.length_nil,List.length_map]
            omega
      · cases h
    · split at h
      · rename_i hn
        simp only [Option.some.injEq] at h
        subst h
        have h1:=pl_num hn.2 (i:=2) (by omega) (by omega)
        have h2:=pl_num hn.2 (i:=3) (by omega) (by omega)
        have h3:=pl_num hn.2 (i:=4) (by omega) (by omega)
        have h4:=pl_num hn.2 (i:=5) (by omega) (by omega)
        refine ⟨⟨hp.b,hp.l,fun k hk => ?_⟩,by simp only [nrows,List.length_append,List.length_cons,List.length_nil]; omega⟩
        simp only [List.mem_append,List.mem_singleton] at hk
        rcases hk with hk | rfl
        · exact hp.k k hk
        · intro n hn
          simp only [Block.nums,List.mem_cons,List.not_mem_nil,or_false] at hn
          rcases hn with rfl | rfl | rfl | rfl <;> assumption
      · cases h
theorem preL_plain (m : List (List UInt8)) : ∀ (i : Nat) (st : PS),i ≤ m.length → preL m i = some st → PlainP st ∧ nrows st = i
  | 0,st,_,h => by
    rw [preL_zero] at h
    cases h
    exact ⟨⟨by simp [bsOf],by simp [bsOf],by simp⟩,rfl⟩
  | i + 1,st,hi,h => by
    rw [preL_succ m (by omega)] at h
    cases hp : preL m i with
    | none => rw [hp] at h; cases h
    | some s0 =>
      rw [hp] at h
      have ⟨h1,h2⟩:=preL_plain m i s0 (by omega) hp
      have ⟨h3,h4⟩:=stepP_plain (show stepP s0 _ = some st from h) h1
      exact ⟨h3,by omega⟩
theorem mkS_plain {W : List (List UInt8)} {st : PS} (hn : nums (W.drop 1) 6) (hp : PlainP st) : (mkS W st).plain:=by
  refine ⟨fun n h => ?_,hp.b,hp.l,hp.k⟩
  have h1:=pl_num hn (i:=1) (by omega) (by omega)
  have h2:=pl_num hn (i:=2) (by omega) (by omega)
  have h3:=pl_num hn (i:=3) (by omega) (by omega)
  have h4:=pl_num hn (i:=4) (by omega) (by omega)
  have h5:=pl_num hn (i:=5) (by omega) (by omega)
  have h6:=pl_num hn (i:=6) (by omega) (by omega)
  simp only [Street.nums,mkS,List.mem_cons,List.not_mem_nil,or_false] at h
  rcases h with rfl | rfl | rfl | rfl | rfl | rfl <;> assumption
theorem Street.plain.small {s : Street} (h : s.plain) (hr : (s.bs.flatMap boardRows).length + s.ks.length ≤ 600) : s.small:=by
  have e : ∀ {n : Int},pl n → 0 ≤ n ∧ n < 1000000:=fun h => ⟨h.1,by have:=h.2; omega⟩
  exact ⟨fun n hn => e (h.n n hn),fun b hb => e (h.b b hb),fun b hb x hx n hn => e (h.l b hb x hx n hn),fun k hk n hn => e (h.k k hk n hn),hr⟩
theorem splitL_pos (s sep : List UInt8) (h1 : 1 ≤ sep.length) : 0 < (splitL s sep).length:=by
  have hlen:=Lib.splitB_all ⟨sep.toArray⟩ h1 0 _ ⟨s.toArray⟩ rfl
  rw [splitL,List.length_map,hlen]; omega
theorem splitL_len (s sep : List UInt8) (h1 : 1 ≤ sep.length) : (splitL s sep).length ≤ s.length + 1:=by
  have hlen:=Lib.splitB_all ⟨sep.toArray⟩ h1 0 _ ⟨s.toArray⟩ rfl
  have hcnt:=Lib.countB_le ⟨sep.toArray⟩ h1 _ ⟨s.toArray⟩ (Nat.le_refl _)
  have hss : (⟨s.toArray⟩ : ByteArray).size = s.length:=rfl
  rw [splitL,List.length_map,hlen]; omega
end Go.Proofs.Sight
namespace Go.Proofs.Sight
open Go Go.RX Go.Proofs
set_option maxRecDepth 10000
def spl (c : UInt8) : List UInt8 → List (List UInt8)
  | [] => [[]]
  | b :: l => if b = c then [] :: spl c l else
    match spl c l with
    | [] => [[b]]
    | x :: r => (b :: x) :: r
theorem spl_ne (c : UInt8) : ∀ l,spl c l ≠ []
  | [] => by simp [spl]
  | b :: l => by
    unfold spl
    split
    · simp
    · split <;> simp
theorem splitK_spl (c : UInt8) : ∀ l,Lib.splitK [c] 0 (Lib.count l [c]) l = spl c l
  | [] => by
    rw [Lib.count_miss (by simp [Lib.index])]
    rfl
  | b :: l => by
    have ih:=splitK_spl c l
    by_cases h : b = c
    · subst h
      have hix : Lib.index (b :: l) [b] = ((0 : Nat) : Int):=by rw [Lib.index]; simp [List.isPrefixOf]
      rw [Lib.count_cons_eq,Nat.add_comm,Lib.splitK,if_neg (by rw [hix]; decide),hix]
      simp only [spl,if_true]
      rw [← ih]
      simp
    · rw [Lib.count_cons_ne b c l h]
      simp only [spl,if_neg h]
      rw [← ih]
      have hp : ([c] : List UInt8).isPrefixOf (b :: l) = false:=by simp [List.isPrefixOf,Ne.symm h]
      have hix : Lib.index (b :: l) [c] = if Lib.index l [c] == -1 then -1 else Lib.index l [c] + 1:=by rw [Lib.index,hp]; simp
      by_cases hm : Lib.index l [c] = -1
      · rw [Lib.count_miss hm]
        rfl
      · have hge:=Lib.index_ge l [c]
        obtain ⟨j,hj⟩ : ∃ j : Nat,Lib.index l [c] = j:=⟨(Lib.index l [c]).toNat,by omega⟩
        have hm2 : ¬ (Lib.index l [c] == -1) = true:=fun e => hm (beq_iff_eq.1 e)
        rw [Lib.count_hit (by simp) hj,Nat.add_comm 1]
        simp only [Lib.splitK,hix,if_neg hm2]
        rw [if_neg (by simp only [beq_iff_eq]; omega),hj]
        have e1 : (((j : Nat) : Int) + 1).toNat = j + 1:=by omega
        have e2 : ((j : Nat) : Int).toNat = j:=by omega
        simp only [e1,e2,Nat.add_zero,List.take_succ_cons,List.length_cons,List.length_nil,List.drop_succ_cons,Nat.zero_add]
theorem splitL_spl (c : UInt8) (l : List UInt8) : splitL l [c] = spl c l:=by
  unfold splitL
  rw [Lib.splitB_data]
  exact splitK_spl c l
theorem spl_snoc (c b : UInt8) : ∀ (l : List UInt8) (o : List (List UInt8)) (x : List UInt8),spl c l = o ++ [x] → spl c (l ++ [b]) = if b = c then o ++ [x,[]] else o ++ [x ++ [b]]
  | [],o,x,h => by
    simp only [spl] at h
    cases o with
    | nil =>
      simp at h; subst h
      by_cases hb : b = c <;> simp [spl,hb]
    | cons y o => simp at h
  | a :: l,o,x,h => by
    obtain ⟨o',x',h'⟩ : ∃ o' x',spl c l = o' ++ [x']:=by
      refine ⟨(spl c l).dropLast,(spl c l).getLast (spl_ne c l),(List.dropLast_concat_getLast _).symm⟩
    have ih:=spl_snoc c b l o' x' h'
    simp only [List.cons_append,spl]
    simp only [spl,h'] at h
    rw [ih]
    by_cases ha : a = c
    · simp only [ha,if_true] at h ⊢
      have h1 : ([] : List UInt8) :: (o' ++ [x']) = ([] :: o') ++ [x']:=rfl
      rw [h1] at h
      obtain ⟨rfl,h2⟩:=List.append_inj' h rfl
      cases h2
      by_cases hb : b = c <;> simp [hb]
    · simp only [if_neg ha] at h ⊢
      cases o' with
      | nil =>
        simp only [List.nil_append] at h ⊢
        have : o = [] ∧ x = a :: x':=by
          cases o with
          | nil => simpa [eq_comm] using h
          | cons y o => simp at h
        obtain ⟨rfl,rfl⟩:=this
        by_cases hb : b = c <;> simp [hb]
      | cons y o' =>
        simp only [List.cons_append] at h ⊢
        have h1 : (a :: y) :: (o' ++ [x']) = ((a :: y) :: o') ++ [x']:=rfl
        rw [h1] at h
        obtain ⟨rfl,h2⟩:=List.append_inj' h rfl
        cases h2
        by_cases hb : b = c <;> simp [hb]
theorem spl_short (c : UInt8) : ∀ (l : List UInt8),∀ x ∈ spl c l,x.length ≤ l.length
  | [],x,h => by simp [spl] at h; subst h; simp
  | b :: l,x,h => by
    simp only [spl] at h
    split at h
    · simp only [List.mem_cons] at h
      rcases h with rfl | h
      · simp
      · have:=spl_short c l x h; simp only [List.length_cons]; omega
    · split at h
      · exact absurd ‹_› (spl_ne c l)
      · rename_i y r hy
        simp only [List.mem_cons] at h
        rcases h with rfl | h
        · have:=spl_short c l y (by rw [hy]; simp); simp only [List.length_cons]; omega
        · have:=spl_short c l x (by rw [hy]; simp [h]); simp only [List.length_cons]; omega
theorem spl_one (c : UInt8) : ∀ (l : List UInt8),c ∉ l → spl c l = [l]
  | [],_ => rfl
  | b :: l,h => by
    simp only [List.mem_cons,not_or] at h
    simp only [spl,if_neg (Ne.symm h.1),spl_one c l h.2]
theorem spl_app (c : UInt8) : ∀ (l r : List UInt8),c ∉ l → spl c (l ++ c :: r) = l :: spl c r
  | [],r,_ => by simp [spl]
  | b :: l,r,h => by
    simp only [List.mem_cons,not_or] at h
    simp only [List.cons_append,spl,if_neg (Ne.symm h.1),spl_app c l r h.2]
theorem splitL_short (c : UInt8) (l : List UInt8) (i : Nat) : ((splitL l [c]).getD i default).length ≤ l.length:=by
  by_cases h : i < (splitL l [c]).length
  · have:=getD_mem h
    rw [splitL_spl] at this ⊢
    exact spl_short c l _ this
  · rw [List.getD_eq_getElem?_getD,List.getElem?_eq_none (by omega)]
    exact Nat.zero_le _
end Go.Proofs.Sight
namespace Go.Proofs.Sight
open Go Go.RX Go.Proofs Go.RowKit
set_option maxRecDepth 10000
theorem CtrP.args {f : FuncId} {A A' : List SV} {d : DV} (h : CtrP Tryz.prog f A d) (hs : subL { env:=[],bx:=[],tk:=[] } [] [] A' A) : CtrP Tryz.prog f A' d:=by
  refine ⟨h.1,fun I w vs hG hI hl hA => h.2 I w vs hG hI (by rw [hl,subL_len _ _ hs]) (fun j u s hu hsj Y => ?_)⟩
  have:=subL_ok (I:=I) (β:=fun _ => none) (τ:=fun _ => none) (Y:=Y) (n0:=0) (w:=w) (rB:=[]) (rT:=[]) (fun k c hk => by simp [nth] at hk) A' A j u s hs (fun x hx => hA j u x hu hx Y) hsj
  exact this.mono (fun _ h => h) (fun _ _ => rfl) (fun k b hk => by simp [βn,nth] at hk) (fun k b hk => by simp [τn,nth] at hk)
def CtrN (P : Program) (f : FuncId) (A : List SV) : Prop :=
  (∃ fn,P.funcs[f]? = some fn ∧ (fn.name == "runtime.NumGoroutine") = false ∧ fn.body.isNone = false) ∧
  ∀ (I : Nat → Prop) (w : World) (vs : Array Value),Glob.G w → (∀ b,I b → b < w.heap.size) → vs.size = A.length → (∀ (j : Nat) (u : Value) (s : SV),vs[j]? = some u → A[j]? = some s → RepS I w u s) →
    Calls P f vs w fun e w' => ∃ v x I',e = .panicked [{ v:=v,recovered:=false }] ∧ (∀ b,I' b → b < w'.heap.size) ∧ (∀ b,I' b → I b ∨ w.heap.size ≤ b) ∧ Rep I' w' v (noT x) ∧ Below w.heap.size w w'
theorem two_mk {S : Type} {f : FuncId} {fn : Func} {c : Code} {A : List SV} {N : Nat} (rv : S → SV) (o : Option S) (hf : Tryz.prog.funcs[f]? = some fn) (hb : fn.body = some c) (hname : (fn.name == "runtime.NumGoroutine") = false) (hN : fn.ntmps = N) (hn : A.length ≤ N) {rs : Array ResultVar} (hr : fn.results = rs)
    (h : Ok Tryz.prog N c { env:=args 0 A,bx:=[],tk:=[] } (fun e σ => ∃ s,o = some s ∧ retK Tryz.prog rs.toList (rv s) e σ) (fun d => o = none ∧ ∃ x,DEq d (noT x))) :
    (∀ s,o = some s → Ctr Tryz.prog f A (rv s)) ∧ (o = none → CtrN Tryz.prog f A):=by
  subst hN; subst hr
  refine ⟨fun s hs => Ctr.of_body hf hb hname hn (h.mono ?_ ?_),fun ho => ⟨⟨fn,hf,hname,by simp [hb]⟩,fun I w vs hG hI hl hA => ?_⟩⟩
  · rintro e σ ⟨s',hs',hk⟩
    rw [hs] at hs'; cases hs'
    exact hk
  · rintro d ⟨h0,_⟩
    rw [hs] at h0; cases h0
  · refine calls_of_wp hf hb ?_
    refine wp_mono (h I w _ w (St.start hG hI hl hn hA)) ?_
    intro e a' w' hq
    cases e with
    | panic ch =>
      obtain ⟨d',⟨_,x,hd⟩,hdf,⟨v,I',rfl,h1,h2,h3⟩,hbel⟩:=hq
      exact ⟨hdf,v,x,I',rfl,h1,fun b hb => (h2 b hb),hd _ _ _ h3,hbel⟩
    | _ => obtain ⟨σ',⟨s,hs,_⟩,_⟩:=hq; rw [ho] at hs; cases hs
theorem nums_map {W : List (List UInt8)} {a n : Nat} (h : nums (W.drop a) n) : (W.drop a).map numL = (List.range n).map (fun i => numL (W.getD (a + i) default)):=by
  have hl:=h.1
  refine List.ext_getElem (by rw [List.length_map,hl]; simp) (fun i h1 h2 => ?_)
  simp only [List.getElem_map,List.getElem_drop,List.getElem_range]
  congr 1
  rw [List.length_map] at h1
  rw [List.length_drop] at h1
  exact (getD_lt (by omega)).symm
theorem given_ok (W : List (List UInt8)) (a n m : Nat) (h : nums (W.drop a) n) (hl : W.length ≤ 1000) (hm : m = n) (ha : a + n = W.length) :
    Ctr Tryz.prog 109 [.d (.sl 1 m (fun i j => strD (W.getD (a + i) default) j)),iS n] (.d (slD 1 natD ((List.range n).map (fun i => numL (W.getD (a + i) default))))):=by
  rw [← nums_map h]
  exact c136_drop W a n m _ ha h.2 hl hm rfl
theorem bad_at : ∀ (ws : List (List UInt8)),(¬ ∀ w ∈ ws,isNum w) → ∃ i,i < ws.length ∧ (∀ w ∈ ws.take i,isNum w) ∧ ¬ isNum (ws.getD i default)
  | [],h => (h (fun w hw => by simp at hw)).elim
  | w :: ws,h => by
    by_cases hw : isNum w
    · obtain ⟨i,h1,h2,h3⟩:=bad_at ws (fun h' => h (fun x hx => by
        simp only [List.mem_cons] at hx
        rcases hx with rfl | hx
        · exact hw
        · exact h' x hx))
      exact ⟨i + 1,by simp; omega,fun x hx => by
        simp only [List.take_succ_cons,List.mem_cons] at hx
        rcases hx with rfl | hx
        · exact hw
        · exact h2 x hx,by simpa using h3⟩
    · exact ⟨0,by simp,by simp,by simpa using hw⟩
theorem given_no (W : List (List UInt8)) (a n m : Nat) (k : Int) (h : ¬ nums (W.drop a) n) (hl : W.length ≤ 1000) (hm : m = W.length - a) (hk : k = (n : Int)) (ha : a ≤ W.length) :
    ∃ x,CtrP Tryz.prog 109 [.d (.sl 1 m (fun i j => strD (W.getD (a + i) default) j)),iS k] (noT x):=by
  have hlen : (W.drop a).length = W.length - a:=List.length_drop
  have hd:=slice_D (k:=1) (n:=m) (m:=W.length - a) (a:=a) (f:=strD) (l:=W) hm (by omega)
  rw [List.take_of_length_le (by omega)] at hd
  by_cases hn : (W.drop a).length = n
  · have hb : ¬ ∀ w ∈ W.drop a,isNum w:=fun hb => h ⟨hn,hb⟩
    obtain ⟨i,h1,h2,h3⟩:=bad_at _ hb
    have hc:=c136_bad (W.drop a) i h1 h2 h3 (by omega)
    rw [hn] at hc
    subst hk
    exact ⟨_,CtrP.args hc ⟨hd,.refl _,trivial⟩⟩
  · have hc:=c136_cnt (W.drop a) k (by omega)
    exact ⟨_,CtrP.args hc ⟨hd,.refl _,trivial⟩⟩
def curT : Cur → TC
  | none => ownD 38 2 boaD []
  | some (bs,a,_) => .ownx 38 2 (bs.length + 1) (fun x c => if x < bs.length then boaD (bs.getD x default) c else dget [iD a,.nils] ((x - bs.length) * 2 + c)) 1 1
def curL : Cur → List Letter
  | none => []
  | some (_,_,ls) => ls
def parSt (t : List UInt8) (m : List (List UInt8)) (W : List (List UInt8)) (i : Nat) (st : PS) : Sy :=
  ⟨[(0,.d (.str t)),(2,.p 0 0),(5,.p 1 0),(51,.d (strsD m)),(52,iS m.length),(53,iS i)],
    [streetB default,{ frz:=false,xs:=[iS (nth' W 1),iS (nth' W 2),iS (nth' W 3),iS (nth' W 4),iS (nth' W 5),iS (nth' W 6),.tk 0,.tk 2] }],
    [curT st.1,ownD 45 4 letD (curL st.1),ownD 48 5 bloD st.2]⟩
section
variable {t : List UInt8} {rows W : List (List UInt8)}
theorem parse_few (hr : splitL t [10] = rows) (h : ¬ 3 ≤ rows.length) : parseP t = none:=by
  subst hr; unfold parseP; dsimp only; rw [if_neg (fun q => h q.1)]
theorem parse_head (hr : splitL t [10] = rows) (hW : splitL (rows.getD 0 default) [32] = W) (h : ¬ nums (W.drop 1) 6) : parseP t = none:=by
  subst hr; subst hW; unfold parseP; dsimp only; rw [if_neg (fun q => h q.2)]
theorem parse_line (hr : splitL t [10] = rows) (h : preL (midL rows) (midL rows).length = none) : parseP t = none:=by
  subst hr; unfold parseP; dsimp only; split
  · rw [h]
  · rfl
theorem parse_all (hr : splitL t [10] = rows) (hW : splitL (rows.getD 0 default) [32] = W) (h3 : 3 ≤ rows.length) (h6 : nums (W.drop 1) 6) {st : PS} (h : preL (midL rows) (midL rows).length = some st) :
    parseP t = if sealedL (rowsOf (mkS W st)) = t then some (mkS W st) else none:=by
  subst hr; subst hW; unfold parseP; dsimp only; rw [if_pos ⟨h3,h6⟩,h]
end
theorem given6 (W : List (List UInt8)) (m : Nat) (k : Int) (h : nums (W.drop 1) 6) (hl : W.length ≤ 1000) (hm : m = 6) (hk : k = 6) :
    Ctr Tryz.prog 109 [.d (.sl 1 m (fun i j => strD (W.getD (1 + i) default) j)),iS k] (.d (slD 1 intD [nth' W 1,nth' W 2,nth' W 3,nth' W 4,nth' W 5,nth' W 6])):=by
  subst hk; exact (given_ok W 1 6 m h hl hm (by have:=h.1; rw [List.length_drop] at this; omega)).sub (nats_D _)
theorem given1 (W : List (List UInt8)) (m : Nat) (k : Int) (h : nums (W.drop 1) 1) (hl : W.length ≤ 1000) (hm : m = 1) (hk : k = 1) :
    Ctr Tryz.prog 109 [.d (.sl 1 m (fun i j => strD (W.getD (1 + i) default) j)),iS k] (.d (slD 1 intD [nth' W 1])):=by
  subst hk; exact (given_ok W 1 1 m h hl hm (by have:=h.1; rw [List.length_drop] at this; omega)).sub (nats_D _)
theorem given4 (W : List (List UInt8)) (m : Nat) (k : Int) (h : nums (W.drop 1) 4) (hl : W.length ≤ 1000) (hm : m = 4) (hk : k = 4) :
    Ctr Tryz.prog 109 [.d (.sl 1 m (fun i j => strD (W.getD (1 + i) default) j)),iS k] (.d (slD 1 intD [nth' W 1,nth' W 2,nth' W 3,nth' W 4])):=by
  subst hk; exact (given_ok W 1 4 m h hl hm (by have:=h.1; rw [List.length_drop] at this; omega)).sub (nats_D _)
theorem given4' (W : List (List UInt8)) (m : Nat) (k : Int) (h : nums (W.drop 2) 4) (hl : W.length ≤ 1000) (hm : m = 4) (hk : k = 4) :
    Ctr Tryz.prog 109 [.d (.sl 1 m (fun i j => strD (W.getD (2 + i) default) j)),iS k] (.d (slD 1 intD [nth' W 2,nth' W 3,nth' W 4,nth' W 5])):=by
  subst hk; exact (given_ok W 2 4 m h hl hm (by have:=h.1; rw [List.length_drop] at this; omega)).sub (nats_D _)
theorem numsD_len {W : List (List UInt8)} {a n : Nat} (h : nums (W.drop a) n) : W.length - a = n:=by
  have:=h.1
  rwa [List.length_drop] at this
section
variable {st : PS} {r : List UInt8} {V : List (List UInt8)}
theorem stepP_board (hV : splitL r [32] = V) (hb : V.getD 0 default = boardW) : stepP st r = if nums (V.drop 1) 1 then some (some (bsOf st.1,nth' V 1,[]),st.2) else none:=by
  subst hV; unfold stepP; dsimp only; rw [if_pos hb]
theorem stepP_letter (hV : splitL r [32] = V) (hb : V.getD 0 default ≠ boardW) (hl : V.getD 0 default = letterW) : stepP st r = if nums (V.drop 1) 4 then (match st.1 with
      | none => none
      | some (bs,a,ls) => some (some (bs,a,ls ++ [⟨nth' V 1,nth' V 2,nth' V 3,nth' V 4⟩]),st.2)) else none:=by
  subst hV; unfold stepP; dsimp only; rw [if_neg hb,if_pos hl]
  all_goals (rcases st with ⟨_ | ⟨_,_,_⟩,_⟩ <;> rfl)
theorem stepP_block (hV : splitL r [32] = V) (hb : V.getD 0 default ≠ boardW) (hl : V.getD 0 default ≠ letterW) : stepP st r = if V.length = 6 ∧ nums (V.drop 2) 4 then
    some (st.1,st.2 ++ [⟨nth' V 2,nth' V 3,nth' V 4,nth' V 5,V.getD 1 default == [115,117,114,101]⟩]) else none:=by
  subst hV; unfold stepP; dsimp only; rw [if_neg hb,if_neg hl]
end
theorem close_D (bs : List Board) (a : Int) (ls : List Letter) (i j : Nat) (hi : i < bs.length + 1) (hj : j < 2) {inst : Decidable (i = bs.length ∧ j = 1)} :
    DEq (@ite _ (i = bs.length ∧ j = 1) inst (DV.sl 4 ls.length fun a => letD (ls.getD a default)) (if i < bs.length then boaD (bs.getD i default) j else dget [iD a,DV.nils] ((i - bs.length) * 2 + j))) (boaD ((bs ++ [(⟨a,ls⟩ : Board)]).getD i default) j):=by
  by_cases h : i < bs.length
  · have e : (bs ++ [(⟨a,ls⟩ : Board)]).getD i default = bs.getD i default:=by
      rw [List.getD_eq_getElem?_getD,List.getD_eq_getElem?_getD,List.getElem?_append_left h]
    rw [if_neg (fun q => by omega),if_pos h,e]
    exact .refl _
  · have e0 : i = bs.length:=by omega
    subst e0
    have e : (bs ++ [(⟨a,ls⟩ : Board)]).getD bs.length default = ⟨a,ls⟩:=by
      rw [List.getD_eq_getElem?_getD,List.getElem?_append_right (Nat.le_refl _)]; simp
    rw [e,if_neg h]
    match j,hj with
    | 0,_ => rw [if_neg (fun q => by omega),Nat.sub_self]; exact .refl _
    | 1,_ => rw [if_pos ⟨rfl,rfl⟩]; exact .refl _
theorem f106_walk (t : List UInt8) (ht : t.length ≤ 450) : (∀ s,parseP t = some s → Ctr Tryz.prog 70 [.d (.str t)] s.sv) ∧ (parseP t = none → CtrN Tryz.prog 70 [.d (.str t)]):=by
  refine two_mk (fn:=Tryz.f70) Street.sv (parseP t) (N:=160) rfl rfl rfl rfl (show 1 ≤ 160 by decide) Tryz.results70 ?_
  dsimp only [args]
  have hrl:=splitL_len t [10] (by decide)
  have hr0:=splitL_pos t [10] (by decide)
  have hrs:=splitL_short 10 t
  have c134r:=c134 t [10] (by omega) (by decide)
  obtain ⟨rows,hr⟩ : ∃ rows,splitL t [10] = rows:=⟨_,rfl⟩
  rw [hr] at hrl hr0 hrs c134r
  have hW0:=splitL_pos (rows.getD 0 default) [32] (by decide)
  have hWl:=splitL_len (rows.getD 0 default) [32] (by decide)
  have hW1:=hrs 0
  have c134w:=c134 (rows.getD 0 default) [32] (by omega) (by decide)
  obtain ⟨W,hW⟩ : ∃ W,splitL (rows.getD 0 default) [32] = W:=⟨_,rfl⟩
  rw [hW] at hW0 hWl c134w
  ((first | refine qS rfl rfl ?_ | refine qR rfl rfl ?_); simp only [go_sem,↓dP,↓reduceIte]; with_reducible and_intros; all_goals first | apply qA | exact ⟨⟩ | rfl | (intros; apply qB; first | kernel_rfl | omega) | omega | skip)
  ((first | refine qS rfl rfl ?_ | refine qR rfl rfl ?_); simp only [go_sem,↓dP,↓reduceIte]; with_reducible and_intros; all_goals first | apply qA | exact ⟨⟩ | rfl | (intros; apply qB; first | kernel_rfl | omega) | omega | skip)
  (refine AskI.ret (c134r) ?_; simp only [go_sem,↓dP,↓reduceIte]; with_reducible and_intros; all_goals first | apply qA | exact ⟨⟩ | rfl | (intros; apply qB; first | kernel_rfl | omega) | omega | skip)
  ((first | refine qS rfl rfl ?_ | refine qR rfl rfl ?_); simp only [go_sem,↓dP,↓reduceIte]; with_reducible and_intros; all_goals first | apply qA | exact ⟨⟩ | rfl | (intros; apply qB; first | kernel_rfl | omega) | omega | skip)
  by_cases h3 : 3 ≤ rows.length
  rotate_left
  · have hc : decide ((3 : Int) ≤ (rows.length : Int)) = false:=by simp; omega
    (refine AskI.pan (c135_ifno hc _) ?_; simp only [go_sem,↓dP,↓reduceIte]; with_reducible and_intros; all_goals first | apply qA | exact ⟨⟩ | rfl | (intros; apply qB; first | kernel_rfl | omega) | omega | skip)
    · exact parse_few hr h3
    · exact ⟨_,.refl _⟩
  have hc : decide ((3 : Int) ≤ (rows.length : Int)) = true:=by simp; omega
  (refine AskI.ret (c135_if hc _) ?_; simp only [go_sem,↓dP,↓reduceIte]; with_reducible and_intros; all_goals first | apply qA | exact ⟨⟩ | rfl | (intros; apply qB; first | kernel_rfl | omega) | omega | skip)
  ((first | refine qS rfl rfl ?_ | refine qR rfl rfl ?_); simp only [go_sem,↓dP,↓reduceIte]; with_reducible and_intros; all_goals first | apply qA | exact ⟨⟩ | rfl | (intros; apply qB; first | kernel_rfl | omega) | omega | skip)
  (refine AskI.ret (c134w) ?_; simp only [go_sem,↓dP,↓reduceIte]; with_reducible and_intros; all_goals first | apply qA | exact ⟨⟩ | rfl | (intros; apply qB; first | kernel_rfl | omega) | omega | skip)
  by_cases h6 : nums (W.drop 1) 6
  rotate_left
  · obtain ⟨x,hx⟩:=given_no W 1 6 ((W.length : Int) - 1).toNat 6 h6 (by omega) (by omega) rfl hW0
    (refine AskI.pan (hx) ?_; simp only [go_sem,↓dP,↓reduceIte]; with_reducible and_intros; all_goals first | apply qA | exact ⟨⟩ | rfl | (intros; apply qB; first | kernel_rfl | omega) | omega | skip)
    · exact parse_head hr hW h6
    · exact ⟨_,.refl _⟩
  have hl6:=numsD_len h6
  (refine AskI.ret (given6 W _ _ h6 (by omega) (by omega) rfl) ?_; simp only [go_sem,↓dP,↓reduceIte]; with_reducible and_intros; all_goals first | apply qA | exact ⟨⟩ | rfl | (intros; apply qB; first | kernel_rfl | omega) | omega | skip)
  ((first | refine qS rfl rfl ?_ | refine qR rfl rfl ?_); simp only [go_sem,↓dP,↓reduceIte]; with_reducible and_intros; all_goals first | apply qA | exact ⟨⟩ | rfl | (intros; apply qB; first | kernel_rfl | omega) | omega | skip)
  refine Ok.seq ?_
  ((first | refine qS rfl rfl ?_ | refine qR rfl rfl ?_); simp only [go_sem,↓dP,↓reduceIte]; with_reducible and_intros; all_goals first | apply qA | exact ⟨⟩ | rfl | (intros; apply qB; first | kernel_rfl | omega) | omega | skip)
  refine Ok.block ?_
  have hml : (midL rows).length = rows.length - 3:=by unfold midL; rw [List.length_take,List.length_drop]; omega
  have hmd : DEq (.sl 1 ((rows.length : Int) - 2 - 1).toNat (fun i j => strD (rows.getD (1 + i) default) j)) (strsD (midL rows)):=slice_D (k:=1) (f:=strD) (l:=rows) (a:=1) (m:=rows.length - 3) (by omega) (by omega)
  have hmg : ∀ i,i < (midL rows).length → ((midL rows).getD i default).length ≤ t.length:=by
    intro i hi
    rw [hml] at hi
    have e : (midL rows).getD i default = rows.getD (1 + i) default:=by
      unfold midL
      rw [List.getD_eq_getElem?_getD,List.getD_eq_getElem?_getD,List.getElem?_take_of_lt hi,List.getElem?_drop]
    rw [e]; exact hrs _
  refine Ok.count (midL rows).length (fun i => parSt t (midL rows) W i ((preL (midL rows) i).getD (none,[]))) (fun i => ∃ st,preL (midL rows) i = some st) ⟨⟨_,preL_zero _⟩,?_⟩ ?_ ?_
  · simp only [preL_zero,Option.getD_some,parSt,curT,curL]
    (refine Sub.of ([0,1]) ([none,none,none]) ?_ ?_ ?_ rfl rfl <;> simp only [subB,subB1,subT,subT1,newT,subE,subV,subL,go_sem,↓dP,↓reduceIte] <;> (try (repeat' with_reducible apply And.intro)) <;> (try first | exact DEq.refl _ | refine DEq.int ?_ | refine DEq.bool ?_ | omega))
    all_goals first | exact hmd | exact DEq.nils rfl | omega
  · rintro i hi ⟨⟨cur,ks⟩,hst⟩
    obtain ⟨hpl,hnr⟩:=preL_plain (midL rows) i _ (by omega) hst
    have hfl:=flat_rows (bsOf cur)
    have hbl : (bsOf cur).length ≤ 500:=by simp only [nrows] at hnr; omega
    have hkl : ks.length ≤ 500:=by simp only [nrows] at hnr; omega
    have hpf:=fun q => parse_line hr (preL_fail (midL rows) hi hst q)
    simp only [hst,Option.getD_some,parSt]
    have hLr:=hmg i hi
    obtain ⟨r,hrow⟩ : ∃ r,(midL rows).getD i default = r:=⟨_,rfl⟩
    rw [hrow] at hLr hpf
    have hV0:=splitL_pos r [32] (by decide)
    have hVl:=splitL_len r [32] (by decide)
    have c134v:=c134 r [32] (by omega) (by decide)
    obtain ⟨V,hV⟩ : ∃ V,splitL r [32] = V:=⟨_,rfl⟩
    rw [hV] at hV0 hVl c134v
    (((first | refine qS rfl rfl ?_ | refine qR rfl rfl ?_); simp only [go_sem,↓dP,↓reduceIte]; with_reducible and_intros; all_goals first | apply qA | exact ⟨⟩ | rfl | (intros; apply qB; first | kernel_rfl | omega) | omega | skip)); refine Ok.seq ?_; refine Ok.cond rfl (fun _ => ?_) (fun hb => by simp at hb; omega); (refine Ok.skip ?_; (try dsimp only [thenK,blockK,noGotoK])); refine Ok.seq ?_; refine Ok.block ?_
    ((first | refine qS rfl rfl ?_ | refine qR rfl rfl ?_); simp only [go_sem,↓dP,↓reduceIte]; with_reducible and_intros; all_goals first | apply qA | exact ⟨⟩ | rfl | (intros; apply qB; first | kernel_rfl | omega) | omega | skip)
    rw [hrow]
    ((first | refine qS rfl rfl ?_ | refine qR rfl rfl ?_); simp only [go_sem,↓dP,↓reduceIte]; with_reducible and_intros; all_goals first | apply qA | exact ⟨⟩ | rfl | (intros; apply qB; first | kernel_rfl | omega) | omega | skip)
    (refine AskI.ret (c134v) ?_; simp only [go_sem,↓dP,↓reduceIte]; with_reducible and_intros; all_goals first | apply qA | exact ⟨⟩ | rfl | (intros; apply qB; first | kernel_rfl | omega) | omega | skip)
    refine Ok.seq ?_
    ((first | refine qS rfl rfl ?_ | refine qR rfl rfl ?_); simp only [go_sem,↓dP,↓reduceIte]; with_reducible and_intros; all_goals first | apply qA | exact ⟨⟩ | rfl | (intros; apply qB; first | kernel_rfl | omega) | omega | skip)
    (try dsimp only [thenK,blockK,noGotoK])
    refine Ok.block ?_
    ((first | refine qS rfl rfl ?_ | refine qR rfl rfl ?_); simp only [go_sem,↓dP,↓reduceIte]; with_reducible and_intros; all_goals first | apply qA | exact ⟨⟩ | rfl | (intros; apply qB; first | kernel_rfl | omega) | omega | skip)
    (refine AskI.ret (c137) ?_; simp only [go_sem,↓dP,↓reduceIte]; with_reducible and_intros; all_goals first | apply qA | exact ⟨⟩ | rfl | (intros; apply qB; first | kernel_rfl | omega) | omega | skip)
    refine Ok.cond rfl ?_ ?_
    · intro hb
      have hb' : V.getD 0 default = boardW:=by simpa using hb
      ((first | refine qS rfl rfl ?_ | refine qR rfl rfl ?_); simp only [go_sem,↓dP,↓reduceIte]; with_reducible and_intros; all_goals first | apply qA | exact ⟨⟩ | rfl | (intros; apply qB; first | kernel_rfl | omega) | omega | skip)
      by_cases hn : nums (V.drop 1) 1
      rotate_left
      · obtain ⟨x,hx⟩:=given_no V 1 1 ((V.length : Int) - 1).toNat 1 hn (by omega) (by omega) rfl hV0
        (refine AskI.pan (hx) ?_; simp only [go_sem,↓dP,↓reduceIte]; with_reducible and_intros; all_goals first | apply qA | exact ⟨⟩ | rfl | (intros; apply qB; first | kernel_rfl | omega) | omega | skip)
        · exact hpf (by rw [stepP_board hV hb',if_neg hn])
        · exact ⟨_,.refl _⟩
      have hln:=numsD_len hn
      (refine AskI.ret (given1 V _ _ hn (by omega) (by omega) rfl) ?_; simp only [go_sem,↓dP,↓reduceIte]; with_reducible and_intros; all_goals first | apply qA | exact ⟨⟩ | rfl | (intros; apply qB; first | kernel_rfl | omega) | omega | skip)
      refine Ok.sub (σ':=⟨[(0,.d (.str t)),(2,.p 0 0),(5,.p 1 0),(51,.d (strsD (midL rows))),(52,iS (midL rows).length),(53,iS i),(9,.d (slD 1 intD [nth' V 1]))],
    [streetB default,{ frz:=false,xs:=[iS (nth' W 1),iS (nth' W 2),iS (nth' W 3),iS (nth' W 4),iS (nth' W 5),iS (nth' W 6),.tk 0,.tk 2] }],
    [ownD 38 2 boaD (bsOf cur),.dead,ownD 48 5 bloD ks]⟩) ?_ ?_
      · rcases cur with _ | ⟨bs,a,ls⟩
        · simp only [bsOf,curT,curL]
          (refine Sub.of ([0,1]) ([some 0,some 1,some 2]) ?_ ?_ ?_ rfl rfl <;> simp only [subB,subB1,subT,subT1,newT,subE,subV,subL,go_sem,↓dP,↓reduceIte] <;> (try (repeat' with_reducible apply And.intro)) <;> (try first | exact DEq.refl _ | refine DEq.int ?_ | refine DEq.bool ?_ | omega))
          all_goals exact fun _ _ _ _ => DEq.refl _
        · simp only [bsOf,curT,curL]
          refine Sub.trans (Sub.close (i:=0) (j:=1) rfl rfl) ?_
          (refine Sub.of ([0,1]) ([some 0,some 1,some 2]) ?_ ?_ ?_ rfl rfl <;> simp only [subB,subB1,subT,subT1,newT,subE,subV,subL,go_sem,↓dP,↓reduceIte] <;> (try (repeat' with_reducible apply And.intro)) <;> (try first | exact DEq.refl _ | refine DEq.int ?_ | refine DEq.bool ?_ | omega))
          · simp
          · exact fun i j hi hj => close_D bs a ls i j hi hj
          · exact fun _ _ _ _ => DEq.refl _
      ((first | refine qS rfl rfl ?_ | refine qR rfl rfl ?_); simp only [go_sem,↓dP,↓reduceIte]; with_reducible and_intros; all_goals first | apply qA | exact ⟨⟩ | rfl | (intros; apply qB; first | kernel_rfl | omega) | omega | skip)
      (try dsimp only [thenK,blockK,noGotoK])
      ((first | refine qS rfl rfl ?_ | refine qR rfl rfl ?_); simp only [go_sem,↓dP,↓reduceIte]; with_reducible and_intros; all_goals first | apply qA | exact ⟨⟩ | rfl | (intros; apply qB; first | kernel_rfl | omega) | omega | skip)
      (try dsimp only [thenK,blockK,noGotoK])
      have hnx : preL (midL rows) (i + 1) = some (some (bsOf cur,nth' V 1,[]),ks):=by
        rw [preL_succ _ hi,hst,hrow]
        exact (stepP_board hV hb').trans (if_pos hn)
      refine ⟨⟨_,hnx⟩,?_⟩
      simp only [hnx,Option.getD_some,parSt,curT,curL]
      refine Sub.trans (Sub.link (i:=3) (e':=45) (k':=4) (c:=1) (h':=fun _ => letD default) rfl (by omega) (by simp; rfl) (by omega)) ?_
      (refine Sub.of ([0,1]) ([some 3,some 4,some 2]) ?_ ?_ ?_ rfl rfl <;> simp only [subB,subB1,subT,subT1,newT,subE,subV,subL,go_sem,↓dP,↓reduceIte] <;> (try (repeat' with_reducible apply And.intro)) <;> (try first | exact DEq.refl _ | refine DEq.int ?_ | refine DEq.bool ?_ | omega))
      all_goals exact fun _ _ _ _ => DEq.refl _
    · intro hb
      have hb' : V.getD 0 default ≠ boardW:=by simpa using hb
      ((first | refine qS rfl rfl ?_ | refine qR rfl rfl ?_); simp only [go_sem,↓dP,↓reduceIte]; with_reducible and_intros; all_goals first | apply qA | exact ⟨⟩ | rfl | (intros; apply qB; first | kernel_rfl | omega) | omega | skip)
      (refine AskI.ret (c137) ?_; simp only [go_sem,↓dP,↓reduceIte]; with_reducible and_intros; all_goals first | apply qA | exact ⟨⟩ | rfl | (intros; apply qB; first | kernel_rfl | omega) | omega | skip)
      refine Ok.cond rfl ?_ ?_
      · intro hl
        have hl' : V.getD 0 default = letterW:=by simpa using hl
        ((first | refine qS rfl rfl ?_ | refine qR rfl rfl ?_); simp only [go_sem,↓dP,↓reduceIte]; with_reducible and_intros; all_goals first | apply qA | exact ⟨⟩ | rfl | (intros; apply qB; first | kernel_rfl | omega) | omega | skip)
        by_cases hn : nums (V.drop 1) 4
        rotate_left
        · obtain ⟨x,hx⟩:=given_no V 1 4 ((V.length : Int) - 1).toNat 4 hn (by omega) (by omega) rfl hV0
          (refine AskI.pan (hx) ?_; simp only [go_sem,↓dP,↓reduceIte]; with_reducible and_intros; all_goals first | apply qA | exact ⟨⟩ | rfl | (intros; apply qB; first | kernel_rfl | omega) | omega | skip)
          · exact hpf (by rw [stepP_letter hV hb' hl',if_neg hn])
          · exact ⟨_,.refl _⟩
        have hln:=numsD_len hn
        (refine AskI.ret (given4 V _ _ hn (by omega) (by omega) rfl) ?_; simp only [go_sem,↓dP,↓reduceIte]; with_reducible and_intros; all_goals first | apply qA | exact ⟨⟩ | rfl | (intros; apply qB; first | kernel_rfl | omega) | omega | skip)
        have hstep : stepP (cur,ks) r = _:=(stepP_letter hV hb' hl').trans (if_pos hn)
        rcases cur with _ | ⟨bs,a,ls⟩
        · simp only [curT,curL]
          ((first | refine qS rfl rfl ?_ | refine qR rfl rfl ?_); simp only [go_sem,↓dP,↓reduceIte]; with_reducible and_intros; all_goals first | apply qA | exact ⟨⟩ | rfl | (intros; apply qB; first | kernel_rfl | omega) | omega | skip)
          (refine AskI.pan (c135_ifno rfl _) ?_; simp only [go_sem,↓dP,↓reduceIte]; with_reducible and_intros; all_goals first | apply qA | exact ⟨⟩ | rfl | (intros; apply qB; first | kernel_rfl | omega) | omega | skip)
          · exact hpf hstep
          · exact ⟨_,.refl _⟩
        · simp only [curT,curL]
          have hb0 : decide (0 < ((bs.length + 1 : Nat) : Int)) = true:=by simp
          have hbs : bs.length + 1 ≤ 500:=by simpa [bsOf] using hbl
          have hls : ls.length ≤ 500:=by
            simp only [nrows,bsOf,List.flatMap_append,List.flatMap_cons,List.flatMap_nil,boardRows,List.length_append,List.length_cons,List.length_nil,List.length_map] at hnr
            omega
          ((first | refine qS rfl rfl ?_ | refine qR rfl rfl ?_); simp only [go_sem,↓dP,↓reduceIte]; with_reducible and_intros; all_goals first | apply qA | exact ⟨⟩ | rfl | (intros; apply qB; first | kernel_rfl | omega) | omega | skip)
          (refine AskI.ret (c135_if hb0 _) ?_; simp only [go_sem,↓dP,↓reduceIte]; with_reducible and_intros; all_goals first | apply qA | exact ⟨⟩ | rfl | (intros; apply qB; first | kernel_rfl | omega) | omega | skip)
          ((first | refine qS rfl rfl ?_ | refine qR rfl rfl ?_); simp only [go_sem,↓dP,↓reduceIte]; with_reducible and_intros; all_goals first | apply qA | exact ⟨⟩ | rfl | (intros; apply qB; first | kernel_rfl | omega) | omega | skip)
          ((first | refine qS rfl rfl ?_ | refine qR rfl rfl ?_); simp only [go_sem,↓dP,↓reduceIte]; with_reducible and_intros; all_goals first | apply qA | exact ⟨⟩ | rfl | (intros; apply qB; first | kernel_rfl | omega) | omega | skip)
          (try dsimp only [thenK,blockK,noGotoK])
          ((first | refine qS rfl rfl ?_ | refine qR rfl rfl ?_); simp only [go_sem,↓dP,↓reduceIte]; with_reducible and_intros; all_goals first | apply qA | exact ⟨⟩ | rfl | (intros; apply qB; first | kernel_rfl | omega) | omega | skip)
          (try dsimp only [thenK,blockK,noGotoK])
          have hnx : preL (midL rows) (i + 1) = some (some (bs,a,ls ++ [⟨nth' V 1,nth' V 2,nth' V 3,nth' V 4⟩]),ks):=by
            rw [preL_succ _ hi,hst,hrow]
            exact hstep
          refine ⟨⟨_,hnx⟩,?_⟩
          simp only [hnx,Option.getD_some]
          (refine Sub.of ([0,1]) ([some 0,some 3,some 2]) ?_ ?_ ?_ rfl rfl <;> simp only [subB,subB1,subT,subT1,newT,subE,subV,subL,go_sem,↓dP,↓reduceIte] <;> (try (repeat' with_reducible apply And.intro)) <;> (try first | exact DEq.refl _ | refine DEq.int ?_ | refine DEq.bool ?_ | omega))
          all_goals first
            | exact fun _ _ _ _ => DEq.refl _
            | exact snoc_D (fun c hc => by match c,hc with | 0,_ | 1,_ | 2,_ | 3,_ => rfl)
            | simp
      · intro hl
        have hl' : V.getD 0 default ≠ letterW:=by simpa using hl
        ((first | refine qS rfl rfl ?_ | refine qR rfl rfl ?_); simp only [go_sem,↓dP,↓reduceIte]; with_reducible and_intros; all_goals first | apply qA | exact ⟨⟩ | rfl | (intros; apply qB; first | kernel_rfl | omega) | omega | skip)
        by_cases hV6 : V.length = 6
        rotate_left
        · have hc6 : decide ((V.length : Int) = 6) = false:=by simp; omega
          (refine AskI.pan (c135_ifno hc6 _) ?_; simp only [go_sem,↓dP,↓reduceIte]; with_reducible and_intros; all_goals first | apply qA | exact ⟨⟩ | rfl | (intros; apply qB; first | kernel_rfl | omega) | omega | skip)
          · exact hpf (by rw [stepP_block hV hb' hl',if_neg (fun q => hV6 q.1)])
          · exact ⟨_,.refl _⟩
        have hc6 : decide ((V.length : Int) = 6) = true:=by simp; omega
        (refine AskI.ret (c135_if hc6 _) ?_; simp only [go_sem,↓dP,↓reduceIte]; with_reducible and_intros; all_goals first | apply qA | exact ⟨⟩ | rfl | (intros; apply qB; first | kernel_rfl | omega) | omega | skip)
        ((first | refine qS rfl rfl ?_ | refine qR rfl rfl ?_); simp only [go_sem,↓dP,↓reduceIte]; with_reducible and_intros; all_goals first | apply qA | exact ⟨⟩ | rfl | (intros; apply qB; first | kernel_rfl | omega) | omega | skip)
        by_cases hn : nums (V.drop 2) 4
        rotate_left
        · obtain ⟨x,hx⟩:=given_no V 2 4 ((V.length : Int) - 2).toNat 4 hn (by omega) (by omega) rfl (by omega)
          (refine AskI.pan (hx) ?_; simp only [go_sem,↓dP,↓reduceIte]; with_reducible and_intros; all_goals first | apply qA | exact ⟨⟩ | rfl | (intros; apply qB; first | kernel_rfl | omega) | omega | skip)
          · exact hpf (by rw [stepP_block hV hb' hl',if_neg (fun q => hn q.2)])
          · exact ⟨_,.refl _⟩
        have hln:=numsD_len hn
        (refine AskI.ret (given4' V _ _ hn (by omega) (by omega) rfl) ?_; simp only [go_sem,↓dP,↓reduceIte]; with_reducible and_intros; all_goals first | apply qA | exact ⟨⟩ | rfl | (intros; apply qB; first | kernel_rfl | omega) | omega | skip)
        have hstep : stepP (cur,ks) r = _:=(stepP_block hV hb' hl').trans (if_pos ⟨hV6,hn⟩)
        ((first | refine qS rfl rfl ?_ | refine qR rfl rfl ?_); simp only [go_sem,↓dP,↓reduceIte]; with_reducible and_intros; all_goals first | apply qA | exact ⟨⟩ | rfl | (intros; apply qB; first | kernel_rfl | omega) | omega | skip)
        (try dsimp only [thenK,blockK,noGotoK])
        ((first | refine qS rfl rfl ?_ | refine qR rfl rfl ?_); simp only [go_sem,↓dP,↓reduceIte]; with_reducible and_intros; all_goals first | apply qA | exact ⟨⟩ | rfl | (intros; apply qB; first | kernel_rfl | omega) | omega | skip)
        (try dsimp only [thenK,blockK,noGotoK])
        have hnx : preL (midL rows) (i + 1) = some (cur,ks ++ [⟨nth' V 2,nth' V 3,nth' V 4,nth' V 5,V.getD 1 default == [115,117,114,101]⟩]):=by
          rw [preL_succ _ hi,hst,hrow]
          exact hstep
        refine ⟨⟨_,hnx⟩,?_⟩
        simp only [hnx,Option.getD_some]
        rcases cur with _ | ⟨bs,a,ls⟩ <;> simp only [curT,curL]
        · (refine Sub.of ([0,1]) ([some 0,some 1,some 3]) ?_ ?_ ?_ rfl rfl <;> simp only [subB,subB1,subT,subT1,newT,subE,subV,subL,go_sem,↓dP,↓reduceIte] <;> (try (repeat' with_reducible apply And.intro)) <;> (try first | exact DEq.refl _ | refine DEq.int ?_ | refine DEq.bool ?_ | omega))
          all_goals first
            | exact fun _ _ _ _ => DEq.refl _
            | exact snoc_D (fun c hc => by match c,hc with | 0,_ | 1,_ | 2,_ | 3,_ | 4,_ => rfl)
            | simp
        · (refine Sub.of ([0,1]) ([some 0,some 1,some 3]) ?_ ?_ ?_ rfl rfl <;> simp only [subB,subB1,subT,subT1,newT,subE,subV,subL,go_sem,↓dP,↓reduceIte] <;> (try (repeat' with_reducible apply And.intro)) <;> (try first | exact DEq.refl _ | refine DEq.int ?_ | refine DEq.bool ?_ | omega))
          all_goals first
            | exact fun _ _ _ _ => DEq.refl _
            | exact snoc_D (fun c hc => by match c,hc with | 0,_ | 1,_ | 2,_ | 3,_ | 4,_ => rfl)
            | simp
  · rintro ⟨⟨cur,ks⟩,hst⟩
    obtain ⟨hpl,hnr⟩:=preL_plain (midL rows) _ _ (Nat.le_refl _) hst
    have hfin:=parse_all hr hW h3 h6 hst
    simp only [hst,Option.getD_some,parSt]
    have hsm : (mkS W (cur,ks)).small:=(mkS_plain h6 hpl).small (by simp only [nrows] at hnr; show ((bsOf cur).flatMap boardRows).length + ks.length ≤ 600; omega)
    (((first | refine qS rfl rfl ?_ | refine qR rfl rfl ?_); simp only [go_sem,↓dP,↓reduceIte]; with_reducible and_intros; all_goals first | apply qA | exact ⟨⟩ | rfl | (intros; apply qB; first | kernel_rfl | omega) | omega | skip)); refine Ok.seq ?_; refine Ok.cond rfl (fun hb => by simp at hb) (fun _ => ?_); (refine Ok.exit ?_; simp only [thenK_exit,blockK_exit,noGotoK_exit,thenK_normal,blockK_normal,noGotoK_normal,↓reduceIte,Nat.reduceEqDiff])
    refine Ok.sub (σ':=⟨[(0,.d (.str t)),(2,.p 0 0),(5,.p 1 0)],
    [streetB default,{ frz:=false,xs:=[iS (nth' W 1),iS (nth' W 2),iS (nth' W 3),iS (nth' W 4),iS (nth' W 5),iS (nth' W 6),.tk 0,.tk 1] }],
    [ownD 38 2 boaD (bsOf cur),ownD 48 5 bloD ks]⟩) ?_ ?_
    · rcases cur with _ | ⟨bs,a,ls⟩ <;> simp only [curT,curL,bsOf]
      · (refine Sub.of ([0,1]) ([some 0,some 2]) ?_ ?_ ?_ rfl rfl <;> simp only [subB,subB1,subT,subT1,newT,subE,subV,subL,go_sem,↓dP,↓reduceIte] <;> (try (repeat' with_reducible apply And.intro)) <;> (try first | exact DEq.refl _ | refine DEq.int ?_ | refine DEq.bool ?_ | omega))
        all_goals exact fun _ _ _ _ => DEq.refl _
      · refine Sub.trans (Sub.close (i:=0) (j:=1) rfl rfl) ?_
        (refine Sub.of ([0,1]) ([some 0,some 2]) ?_ ?_ ?_ rfl rfl <;> simp only [subB,subB1,subT,subT1,newT,subE,subV,subL,go_sem,↓dP,↓reduceIte] <;> (try (repeat' with_reducible apply And.intro)) <;> (try first | exact DEq.refl _ | refine DEq.int ?_ | refine DEq.bool ?_ | omega))
        · simp
        · exact fun i j hi hj => close_D bs a ls i j hi hj
        · exact fun _ _ _ _ => DEq.refl _
    ((first | refine qS rfl rfl ?_ | refine qR rfl rfl ?_); simp only [go_sem,↓dP,↓reduceIte]; with_reducible and_intros; all_goals first | apply qA | exact ⟨⟩ | rfl | (intros; apply qB; first | kernel_rfl | omega) | omega | skip)
    (refine AskI.ret (c104 (mkS W (cur,ks)) hsm) ?_; simp only [go_sem,↓dP,↓reduceIte]; with_reducible and_intros; all_goals first | apply qA | exact ⟨⟩ | rfl | (intros; apply qB; first | kernel_rfl | omega) | omega | skip)
    by_cases heq : sealedL (rowsOf (mkS W (cur,ks))) = t
    rotate_left
    · have hq : (sealedL (rowsOf (mkS W (cur,ks))) == t) = false:=by simpa using heq
      (refine AskI.pan (c135_ifno hq _) ?_; simp only [go_sem,↓dP,↓reduceIte]; with_reducible and_intros; all_goals first | apply qA | exact ⟨⟩ | rfl | (intros; apply qB; first | kernel_rfl | omega) | omega | skip)
      · exact hfin.trans (if_neg heq)
      · exact ⟨_,.refl _⟩
    have hq : (sealedL (rowsOf (mkS W (cur,ks))) == t) = true:=by simpa using heq
    (refine AskI.ret (c135_if hq _) ?_; simp only [go_sem,↓dP,↓reduceIte]; with_reducible and_intros; all_goals first | apply qA | exact ⟨⟩ | rfl | (intros; apply qB; first | kernel_rfl | omega) | omega | skip)
    ((first | refine qS rfl rfl ?_ | refine qR rfl rfl ?_); simp only [go_sem,↓dP,↓reduceIte]; with_reducible and_intros; all_goals first | apply qA | exact ⟨⟩ | rfl | (intros; apply qB; first | kernel_rfl | omega) | omega | skip)
    refine Ok.ret ?_
    (try dsimp only [thenK,blockK,noGotoK])
    refine ⟨_,hfin.trans (if_pos heq),?_⟩
    ((try dsimp only [thenK,blockK,noGotoK]); simp only [toList_mk,List.toList_toArray,retK_ret,retK_normal,resOK,resV,celV,rowV,frzAll,frzT,subV,subL,go_sem,↓dP,↓reduceIte])
    exact ⟨.refl _,.refl _,.refl _,.refl _,.refl _,.refl _,.refl _,.refl _⟩
end Go.Proofs.Sight
namespace Go.Proofs.Sight
open Go Go.RX Go.Proofs Go.RowKit
attribute [local go_sem] Oper.semAt_some
set_option maxRecDepth 100000
set_option maxHeartbeats 4000000 in

theorem catch_text (B1 B2 : Nat) (s : ByteArray) (a b z : Int) (hne : B1 ≠ B2) (w : World) (h1 : w.heap[B1]? = some (.cells #[.int .i64 a,.int .i64 b] 58)) (h2 : w.heap[B2]? = some (.cells #[.int .i64 z] 30)) :
    CallsD Tryz.prog 94 #[.pointer (some ⟨B1,0,none⟩),.pointer (some ⟨B2,0,none⟩)] (.panicking [{ v:=.iface 139 (.agg #[.string s]),recovered:=false }]) w fun e u' w' => e = .returned (.tuple #[]) ∧ settle u' = .returning ∧
      w'.heap[B1]? = some (.cells #[.int .i64 a,.int .i64 b] 58) ∧ w'.heap[B2]? = some (.cells #[.int .i64 4] 30) ∧ w'.heap.size = w.heap.size + 1 ∧ (∀ k,k < w.heap.size → k ≠ B1 → k ≠ B2 → w'.heap[k]? = w.heap[k]?) ∧ w'.os = w.os ∧ w'.tape = w.tape ∧ w'.output = w.output:=by
  refine callsD_of_wpS Tryz.func94 rfl fun c₀ cs hu => ?_
  have hnil : ∀ (v : Value) (w : World),(binOp BinOp.eql 20 (.iface 139 v) .nilIface).run Tryz.prog w = .ok (.bool false) w:=fun _ _ => by kernel_rfl
  have hta : ∀ (v : Value) (w : World),(Instr.typeAssert (.iface 139 v) 20 137 true).run Tryz.prog w = .ok (.tuple #[.agg #[.int .i64 0,.int .i64 0],.bool false]) w:=fun _ _ => by kernel_rfl
  have htb : ∀ (v : Value) (w : World),(Instr.typeAssert (.iface 139 v) 20 139 true).run Tryz.prog w = .ok (.tuple #[v,.bool true]) w:=fun _ _ => by kernel_rfl
  have hA1:=al_old (.cells #[.string s] 139) h1
  have hA2:=al_old (.cells #[.string s] 139) h2
  have f2 : (w.alloc (.cells #[.string s] 139)).frozen? ⟨B2,0,none⟩ = false:=by simp [World.frozen?,hA2]
  have g20:=cellAt hA2 0
  simp only [List.getElem?_toArray,List.getElem?_cons_zero,List.getElem?_cons_succ] at g20
  simp only [Tryz.ntmps94,List.size_toArray,List.length_cons,List.length_nil,Nat.reduceAdd,Nat.reduceSub,Array.replicate_succ,Array.replicate_zero,List.push_toArray,List.append_toArray,List.nil_append,List.cons_append]
  apply wpS_seq
  apply wpS_region
  simp [wpOpsS,go_sem,recoverD,hu,Exit.thenS]
  refine wpS_of_wp ?_
  go_wp2
  refine ⟨rfl,.panicking [{ v:=.iface 139 (.agg #[.string s]),recovered:=true }],rfl,.tuple #[],results_none rfl _ _ _,rfl,rfl,?_⟩
  have s3:=(Below.heap_setCell _ ⟨B2,0,none⟩ (.int .i64 4) B1 hne).trans hA1
  have t3:=st_same hA2 0 (.int .i64 4)
  refine ⟨s3,t3,?_,fun k hk h1 h2 => ?_,rfl,rfl,rfl⟩
  · simp [World.setCell,Array.size_modify]
  · rw [Below.heap_setCell _ _ _ k h2,Below.heap_alloc _ _ k hk]
set_option maxHeartbeats 4000000 in
theorem att_no (f : Nat) (caps : Array Value) (w : World) (hent : ∃ fn,Tryz.prog.funcs[f]? = some fn ∧ (fn.name == "runtime.NumGoroutine") = false ∧ fn.body.isNone = false)
    (hf : ∀ W2,Below w.heap.size w W2 → W2.heap.size = w.heap.size + 1 + 1 → Calls Tryz.prog f caps W2 fun e w1 => ∃ s,e = .panicked [{ v:=.iface 139 (.agg #[.string s]),recovered:=false }] ∧ Below W2.heap.size W2 w1) :
    Calls Tryz.prog 61 #[.func (.func f) #[] caps] w fun e w' => e = .returned (.tuple #[.agg #[.int .i64 0,.int .i64 0],.int .i64 4]) ∧ Below w.heap.size w w':=by
  have hmf : ∀ (fn : Fn) (first cap : Array Value) (w : World),(Instr.makeFunc fn first cap).run Tryz.prog w = .ok (.func fn first cap) w:=fun _ _ _ _ => rfl
  have he:=enters_of' hent
  refine calls_of_wp_defers Tryz.func61 rfl ?_
  simp only [Tryz.ntmps61,List.size_toArray,List.length_cons,List.length_nil,Nat.reduceAdd,Nat.reduceSub,Array.replicate_succ,Array.replicate_zero,List.push_toArray,List.append_toArray,List.nil_append,List.cons_append]
  go_wp2
  obtain ⟨W2,hW2⟩ : ∃ W2,(w.alloc (.cells #[.int .i64 0,.int .i64 0] 58)).alloc (.cells #[.int .i64 0] 30) = W2:=⟨_,rfl⟩
  have k0 : W2.heap[w.heap.size]? = some (.cells #[.int .i64 0,.int .i64 0] 58):=by rw [← hW2]; exact al_old _ (al_new _ rfl)
  have k1 : W2.heap[w.heap.size + 1]? = some (.cells #[.int .i64 0] 30):=by rw [← hW2]; exact al_new _ (al_sz _ rfl)
  have hB2 : Below w.heap.size w W2:=by rw [← hW2]; exact ((Below.refl _ w).alloc (Nat.le_refl _) _).alloc (by simp) _
  have hz2 : W2.heap.size = w.heap.size + 1 + 1:=by rw [← hW2]; exact al_sz _ (al_sz _ rfl)
  rw [hW2]
  refine (hf W2 hB2 hz2).mono ?_
  rintro e w1 ⟨s,rfl,hB1⟩
  have hk0:=(hB1.block _ (by omega)).trans k0
  have hk1:=(hB1.block _ (by omega)).trans k1
  have hne : w.heap.size ≠ w.heap.size + 1:=by omega
  have hsz1:=hB1.size
  refine leaves_cons (f:=94) (args:=#[.pointer (some ⟨w.heap.size,0,none⟩),.pointer (some ⟨w.heap.size + 1,0,none⟩)]) (by simp) (by simp [go_sem]) ?_
  refine (catch_text w.heap.size (w.heap.size + 1) s 0 0 0 hne _ hk0 hk1).mono ?_
  rintro e u' w'' ⟨rfl,hset,m0,m1,hz,hkk,ho,ht,hout⟩
  have q0:=cellAt m0
  have q00:=q0 0
  have q01:=q0 1
  have q10:=cellAt m1 0
  clear q0
  simp only [List.getElem?_toArray,List.getElem?_cons_zero,List.getElem?_cons_succ] at q00 q01 q10
  simp only [hset]
  simp [Leaves,results,Tryz.results61,go_sem,q00,q01,q10]
  exact (hB2.trans (hB1.mono (by omega))).trans ⟨ho,ht,hout,by omega,fun k hk => hkk k (by omega) (by omega) (by omega)⟩
theorem noT_vals {I : Nat → Prop} {w : World} {v : Value} {x : List UInt8} (h : Rep I w v (noT x)) : ∃ s,v = .iface 139 (.agg #[.string s]):=by
  cases h with
  | @ifc t n c us hl hr =>
    obtain ⟨l⟩:=us
    match l,hl with
    | [y],_ =>
      have h0:=hr 0 y rfl
      change Rep I w y (.str x) at h0
      cases h0; exact ⟨_,rfl⟩
set_option maxHeartbeats 1000000 in
theorem cls_no (t : List UInt8) (hp : CtrN Tryz.prog 70 [.d (.str t)]) (B Q : Nat) (W : World) (hG : Tabs W) (hB : W.heap[B]? = some (.cells #[.string ⟨t.toArray⟩] 9)) :
    Calls Tryz.prog 69 #[.pointer (some ⟨B,0,none⟩),.pointer (some ⟨Q,0,none⟩)] W fun e w1 => ∃ s,e = .panicked [{ v:=.iface 139 (.agg #[.string s]),recovered:=false }] ∧ Below W.heap.size W w1:=by
  have hcall:=hp.2 (fun _ => False) W #[.string ⟨t.toArray⟩] hG (fun k hk => hk.elim) rfl (fun j u y hu hy => by
    cases j with
    | zero => simp at hu hy; subst hu; subst hy; exact RepS.of (rep_str' _ _ _)
    | succ j => simp at hy)
  have g:=cellAt hB 0
  simp only [List.getElem?_toArray,List.getElem?_cons_zero,List.getElem?_cons_succ] at g
  go_enter Tryz.func69,Tryz.ntmps69
  go_wp2_with (go_at_call 70; refine hcall.mono ?_; rintro e w1 ⟨v,x,I',rfl,_,_,hv,hW1⟩; obtain ⟨s,rfl⟩:=noT_vals hv)
  exact ⟨rfl,s,rfl,hW1⟩
theorem att_none (t : List UInt8) (hp : CtrN Tryz.prog 70 [.d (.str t)]) (w : World) (hG : Tabs w) :
    Calls Tryz.prog 61 #[.func (.func 69) #[] #[.pointer (some ⟨w.heap.size,0,none⟩),.pointer (some ⟨w.heap.size + 1 + 1,0,none⟩)]] (readW w t) fun e w' => e = .returned (.tuple #[.agg #[.int .i64 0,.int .i64 0],.int .i64 4]) ∧ Below (readW w t).heap.size (readW w t) w':=by
  have hz:=readW_size w t
  have k0 : (readW w t).heap[w.heap.size]? = some (.cells #[.string ⟨t.toArray⟩] 9):=al_old _ (al_old _ (al_new _ rfl))
  have hBW : Below w.heap.size w (readW w t):=(((Below.refl _ w).alloc (Nat.le_refl _) _).alloc (by simp) _).alloc (by simp; omega) _
  refine att_no 69 _ (readW w t) ⟨Tryz.f69,Tryz.func69,rfl,rfl⟩ (fun W2 hB2 hz2 => ?_)
  exact cls_no t hp w.heap.size (w.heap.size + 1 + 1) W2 (Tabs.st _ _ (Tabs.st _ _ hG hBW) hB2) ((hB2.block _ (by omega)).trans k0)
abbrev noS : SV:=.agg [iS 0,iS 0,iS 0,iS 0,iS 0,iS 0,.d .nils,.d .nils]
theorem noS_rep (I : Nat → Prop) (w : World) (e : Int) : RepS I w (.tuple #[.agg zero8,.int .i64 e]) (.tup [noS,iS e]):=by
  intro Y
  refine .tup rfl (fun j u x hu hx => ?_)
  match j,hu,hx with
  | 0,hu,hx =>
    simp at hu hx; subst hu; subst hx
    exact Fits.reps (cs:=[.int .i64 0,.int .i64 0,.int .i64 0,.int .i64 0,.int .i64 0,.int .i64 0,.slice none 0 0,.slice none 0 0]) (xs:=[iD 0,iD 0,iD 0,iD 0,iD 0,iD 0,.nils,.nils]) (.cons .int (.cons .int (.cons .int (.cons .int (.cons .int (.cons .int (.cons .nils (.cons .nils .nil)))))))) Y
  | 1,hu,hx => simp at hu hx; subst hu; subst hx; exact .d .int
  | j + 2,hu,hx => simp at hu
set_option maxHeartbeats 1000000 in
theorem c64_text (t : List UInt8) (hp : CtrN Tryz.prog 70 [.d (.str t)]) (ht : t.length ≤ 450) : Ctr Tryz.prog 34 [.d (.str t)] (.tup [noS,iS 4]):=by
  refine ⟨⟨Tryz.f34,Tryz.func34,rfl,rfl⟩,fun I w vs hG hI hsz hrep => ?_⟩
  obtain ⟨v0,rfl⟩ : ∃ v0,vs = #[v0]:=by
    obtain ⟨l⟩:=vs
    match l,hsz with
    | [a],_ => exact ⟨a,rfl⟩
  obtain rfl:=str_val (hrep 0 v0 _ rfl rfl)
  have hl : ¬ (450 : Int) < (t.length : Int):=by omega
  have hatt:=att_none t hp w hG
  have k1 : (readW w t).heap[w.heap.size + 1]? = some (.cells zero8 27):=al_old _ (al_new _ (al_sz _ rfl))
  have hz:=readW_size w t
  have hBW : Below w.heap.size w (readW w t):=(((Below.refl _ w).alloc (Nat.le_refl _) _).alloc (by simp) _).alloc (by simp; omega) _
  have hmf : ∀ (fn : Fn) (first cap : Array Value) (w : World),(Instr.makeFunc fn first cap).run Tryz.prog w = .ok (.func fn first cap) w:=fun _ _ _ _ => rfl
  go_enter Tryz.func34,Tryz.ntmps34
  go_wp2_with (go_at_call 61; refine hatt.mono ?_; rintro e w1 ⟨rfl,hX⟩; have hz1:=hX.size; have hR1:=(hX.block _ (by omega)).trans k1; have hR2:=al_old (.cells #[.int .i64 0,.int .i64 0] 58) hR1; have r:=cellAt hR2; have r0:=r 0; have r1:=r 1; have r2:=r 2; have r3:=r 3; have r4:=r 4; have r5:=r 5; have r6:=r 6; have r7:=r 7; clear r; simp only [zero8,List.getElem?_toArray,List.getElem?_cons_zero,List.getElem?_cons_succ] at r0 r1 r2 r3 r4 r5 r6 r7; have fz : ∀ o,(w1.alloc (.cells #[.int .i64 0,.int .i64 0] 58)).frozen? ⟨w.heap.size + 1,o,none⟩ = false:=fun o => by simp [World.frozen?,hR2])
  obtain ⟨W',hW'⟩ : ∃ W',put8 (w1.alloc (.cells #[.int .i64 0,.int .i64 0] 58)) (w.heap.size + 1) (.int .i64 0) (.int .i64 0) (.int .i64 0) (.int .i64 0) (.int .i64 0) (.int .i64 0) (.slice none 0 0) (.slice none 0 0) = W':=⟨_,rfl⟩
  have hput:=put8_at hR2 (.int .i64 0) (.int .i64 0) (.int .i64 0) (.int .i64 0) (.int .i64 0) (.int .i64 0) (.slice none 0 0) (.slice none 0 0)
  rw [hW'] at hput
  unfold put8 at hW'
  rw [hW']
  obtain ⟨s7,ho,hz',o1,o2,o3⟩:=hput
  have y:=cellAt s7
  have y0:=y 0
  have y1:=y 1
  have y2:=y 2
  have y3:=y 3
  have y4:=y 4
  have y5:=y 5
  have y6:=y 6
  have y7:=y 7
  clear y
  simp only [List.getElem?_toArray,List.getElem?_cons_zero,List.getElem?_cons_succ] at y0 y1 y2 y3 y4 y5 y6 y7
  have hB12 : Below w.heap.size w (w1.alloc (.cells #[.int .i64 0,.int .i64 0] 58)):=(hBW.trans (hX.mono (by omega))).alloc (by omega) _
  have hBf : Below w.heap.size w W':=⟨o1.trans hB12.os,o2.trans hB12.tape,o3.trans hB12.output,by rw [hz']; exact hB12.size,fun k hk => (ho k (by omega)).trans (hB12.block k hk)⟩
  refine bodyPost_ret (by simp [results,Tryz.results34,go_sem,y0,y1,y2,y3,y4,y5,y6,y7]; rfl) rfl ?_
  exact ⟨_,rfl,noS_rep _ _ _,hBf⟩
set_option maxHeartbeats 1000000 in
theorem c64_arg (t : List UInt8) (s : Street) (hp : Ctr Tryz.prog 70 [.d (.str t)] s.sv) (ht : t.length ≤ 450) (hs : isStreet s = false) (hfit : s.fit) : Ctr Tryz.prog 34 [.d (.str t)] (.tup [noS,iS 2]):=by
  refine ⟨⟨Tryz.f34,Tryz.func34,rfl,rfl⟩,fun I w vs hG hI hsz hrep => ?_⟩
  obtain ⟨v0,rfl⟩ : ∃ v0,vs = #[v0]:=by
    obtain ⟨l⟩:=vs
    match l,hsz with
    | [a],_ => exact ⟨a,rfl⟩
  obtain rfl:=str_val (hrep 0 v0 _ rfl rfl)
  have hl : ¬ (450 : Int) < (t.length : Int):=by omega
  have hatt:=att_read t s hp w hG
  have k1 : (readW w t).heap[w.heap.size + 1]? = some (.cells zero8 27):=al_old _ (al_new _ (al_sz _ rfl))
  have hz:=readW_size w t
  have hBW : Below w.heap.size w (readW w t):=(((Below.refl _ w).alloc (Nat.le_refl _) _).alloc (by simp) _).alloc (by simp; omega) _
  have hmf : ∀ (fn : Fn) (first cap : Array Value) (w : World),(Instr.makeFunc fn first cap).run Tryz.prog w = .ok (.func fn first cap) w:=fun _ _ _ _ => rfl
  go_enter Tryz.func34,Tryz.ntmps34
  go_wp2_with (first | (go_at_call 61; refine hatt.mono ?_; rintro e w1 ⟨rfl,hX,a,b,c,d,e,f,p1,l1,c1,p2,l2,c2,h1,N,hN,hF⟩; have hR1:=(hX.block _ (by omega) (by omega)).trans k1; have q:=cellAt (al_old (.cells #[.int .i64 0,.int .i64 0] 58) h1); have q0:=q 0; have q1:=q 1; have q2:=q 2; have q3:=q 3; have q4:=q 4; have q5:=q 5; have q6:=q 6; have q7:=q 7; clear q; simp only [List.getElem?_toArray,List.getElem?_cons_zero,List.getElem?_cons_succ] at q0 q1 q2 q3 q4 q5 q6 q7) | (go_at_call 64; have hBw1:=below_of_X hBW hX (by omega); have hF2:=hF.mono (I':=N) (w':=w1.alloc (.cells #[.int .i64 0,.int .i64 0] 58)) (fun _ h => h) (fun k hk => hold_alloc _ _ _ (hN k hk).2); refine ((c102 s hfit).2 N (w1.alloc (.cells #[.int .i64 0,.int .i64 0] 58)) _ (Tabs.st _ _ hG (hBw1.alloc (by have:=hBw1.size; omega) _)) (fun k hk => by have:=(hN k hk).2; simp; omega) rfl (fun j u y hu hy => by cases j with | zero => simp at hu hy; subst hu; subst hy; exact Fits.reps hF2 | succ j => simp at hy)).mono ?_; rintro e w2 ⟨v,rfl,hv,hB2⟩; obtain rfl : v = .bool false:=(by have:=RepS.rep hv; rw [hs] at this; cases this; rfl); have hz1:=hX.size; have hQ2:=(hB2.block (w.heap.size + 1 + 1) (by simp; omega)).trans (al_old _ h1); have hR2:=(hB2.block (w.heap.size + 1) (by simp; omega)).trans (al_old _ hR1); have u:=cellAt hQ2; have u0:=u 0; have u1:=u 1; have u2:=u 2; have u3:=u 3; have u4:=u 4; have u5:=u 5; have u6:=u 6; have u7:=u 7; clear u; have r:=cellAt hR2; have r0:=r 0; have r1:=r 1; have r2:=r 2; have r3:=r 3; have r4:=r 4; have r5:=r 5; have r6:=r 6; have r7:=r 7; clear r; simp only [zero8,List.getElem?_toArray,List.getElem?_cons_zero,List.getElem?_cons_succ] at u0 u1 u2 u3 u4 u5 u6 u7 r0 r1 r2 r3 r4 r5 r6 r7; have fz : ∀ o,w2.frozen? ⟨w.heap.size + 1,o,none⟩ = false:=fun o => by simp [World.frozen?,hR2]))
  obtain ⟨W',hW'⟩ : ∃ W',put8 w2 (w.heap.size + 1) (.int .i64 0) (.int .i64 0) (.int .i64 0) (.int .i64 0) (.int .i64 0) (.int .i64 0) (.slice none 0 0) (.slice none 0 0) = W':=⟨_,rfl⟩
  have hput:=put8_at hR2 (.int .i64 0) (.int .i64 0) (.int .i64 0) (.int .i64 0) (.int .i64 0) (.int .i64 0) (.slice none 0 0) (.slice none 0 0)
  rw [hW'] at hput
  unfold put8 at hW'
  rw [hW']
  obtain ⟨s7,ho,hz',o1,o2,o3⟩:=hput
  have y:=cellAt s7
  have y0:=y 0
  have y1:=y 1
  have y2:=y 2
  have y3:=y 3
  have y4:=y 4
  have y5:=y 5
  have y6:=y 6
  have y7:=y 7
  clear y
  simp only [List.getElem?_toArray,List.getElem?_cons_zero,List.getElem?_cons_succ] at y0 y1 y2 y3 y4 y5 y6 y7
  have hB12 : Below w.heap.size w w2:=(hBw1.alloc (by have:=hBw1.size; omega) _).trans (hB2.mono (by simp; have:=hBw1.size; omega))
  have hBf : Below w.heap.size w W':=⟨o1.trans hB12.os,o2.trans hB12.tape,o3.trans hB12.output,by rw [hz']; exact hB12.size,fun k hk => (ho k (by omega)).trans (hB12.block k hk)⟩
  refine bodyPost_ret (by simp [results,Tryz.results34,go_sem,y0,y1,y2,y3,y4,y5,y6,y7]; rfl) rfl ?_
  exact ⟨_,rfl,noS_rep _ _ _,hBf⟩
end Go.Proofs.Sight
namespace Go.Proofs.Sight
open Go Go.RX Go.Proofs
set_option maxRecDepth 10000
theorem ofNat_dig {n : Nat} (h : n < 10) : (UInt8.ofNat (48 + n)).toNat = 48 + n:=by
  rw [UInt8.toNat_ofNat']; omega
theorem dec_props (n : Nat) : (∀ b ∈ Lib.decDigits n,digit b = true) ∧ numL (Lib.decDigits n) = n ∧ Lib.decDigits n ≠ []:=by
  induction n using Nat.strongRecOn with
  | _ n ih =>
  by_cases h : n < 10
  · rw [Lib.decDigits_one h]
    have e:=ofNat_dig h
    refine ⟨fun b hb => ?_,?_,by simp⟩
    · simp only [List.mem_singleton] at hb
      subst hb
      simp only [digit,e,Bool.and_eq_true,decide_eq_true_eq]; omega
    · simp only [numL,List.foldl_cons,List.foldl_nil,e]; omega
  · obtain ⟨h1,h2,h3⟩:=ih (n / 10) (by omega)
    have e:=ofNat_dig (n:=n % 10) (by omega)
    rw [Lib.decDigits,dif_neg h]
    refine ⟨fun b hb => ?_,?_,by simp⟩
    · simp only [List.mem_append,List.mem_singleton] at hb
      rcases hb with hb | rfl
      · exact h1 b hb
      · simp only [digit,e,Bool.and_eq_true,decide_eq_true_eq]; omega
    · rw [numL_snoc,h2,e]; omega
theorem dec_len2 {n : Nat} (h : n < 100) : (Lib.decDigits n).length ≤ 2:=by
  by_cases h1 : n < 10
  · rw [Lib.decDigits_one h1]; simp
  · rw [Lib.decDigits_two h1 h]; simp
theorem dec_len3 {n : Nat} (h : n < 1000) : (Lib.decDigits n).length ≤ 3:=by
  by_cases h1 : n < 100
  · have:=dec_len2 h1; omega
  · have:=dec_len2 (n:=n / 10) (by omega)
    rw [Lib.decDigits,dif_neg (by omega)]
    simp only [List.length_append,List.length_cons,List.length_nil]; omega
theorem num_itoa {n : Int} (h : pl n) : isNum (Lib.itoa n) ∧ ((numL (Lib.itoa n) : Nat) : Int) = n:=by
  obtain ⟨h0,h1⟩:=h
  obtain ⟨u,rfl⟩ : ∃ u : Nat,n = u:=⟨n.toNat,by omega⟩
  rw [Lib.itoa_nonneg]
  obtain ⟨p1,p2,p3⟩:=dec_props u
  refine ⟨⟨p3,p1,dec_len3 (by omega),?_⟩,by rw [p2]⟩
  rw [p2,Lib.itoa_nonneg]
theorem dig_ne {b : UInt8} (h : digit b = true) : b ≠ 32 ∧ b ≠ 10:=by
  simp only [digit,Bool.and_eq_true,decide_eq_true_eq] at h
  constructor
  · rintro rfl; revert h; decide
  · rintro rfl; revert h; decide
theorem itoa_no {n : Int} (h : pl n) : 32 ∉ Lib.itoa n ∧ 10 ∉ Lib.itoa n:=by
  have:=(num_itoa h).1.2.1
  exact ⟨fun q => (dig_ne (this _ q)).1 rfl,fun q => (dig_ne (this _ q)).2 rfl⟩
theorem spl_row : ∀ (ns : List Int) (w : List UInt8),(∀ n ∈ ns,pl n) → 32 ∉ w → spl 32 (rowL w ns) = w :: ns.map Lib.itoa
  | [],w,_,hw => by rw [rowL_nil,spl_one 32 w hw]; rfl
  | n :: r,w,h,hw => by
    have e : rowL w (n :: r) = w ++ 32 :: rowL (Lib.itoa n) r:=by simp [rowL]
    rw [e,spl_app 32 _ _ hw,spl_row r (Lib.itoa n) (fun x hx => h x (List.mem_cons_of_mem _ hx)) (itoa_no (h n (List.mem_cons_self ..))).1]
    rfl
theorem row_no10 : ∀ (ns : List Int) (w : List UInt8),(∀ n ∈ ns,pl n) → 10 ∉ w → 10 ∉ rowL w ns
  | [],w,_,hw => by rw [rowL_nil]; exact hw
  | n :: r,w,h,hw => by
    have e : rowL w (n :: r) = w ++ 32 :: rowL (Lib.itoa n) r:=by simp [rowL]
    rw [e]
    have:=row_no10 r (Lib.itoa n) (fun x hx => h x (List.mem_cons_of_mem _ hx)) (itoa_no (h n (List.mem_cons_self ..))).2
    simp only [List.mem_append,List.mem_cons,not_or]
    exact ⟨hw,by decide,this⟩
def blkW : List UInt8:=[98,108,111,99,107]
def sureW : List UInt8:=[115,117,114,101]
def perhW : List UInt8:=[112,101,114,104,97,112,115]
def whenW (b : Bool) : List UInt8:=if b then sureW else perhW
theorem blockW_eq (b : Bool) : blockW b = blkW ++ 32 :: whenW b:=by cases b <;> rfl
theorem spl_block {k : Block} (h : ∀ n ∈ k.nums,pl n) : splitL (blockRow k) [32] = [blkW,whenW k.sure,Lib.itoa k.al,Lib.itoa k.ah,Lib.itoa k.cl,Lib.itoa k.ch]:=by
  rw [splitL_spl,blockRow,blockW_eq]
  have e : rowL (blkW ++ 32 :: whenW k.sure) k.nums = blkW ++ 32 :: rowL (whenW k.sure) k.nums:=by simp [rowL]
  rw [e,spl_app 32 _ _ (by decide),spl_row _ _ h (by cases k.sure <;> decide)]
  rfl
theorem spl_board {b : Board} (h : pl b.at_) : splitL (boardRow b) [32] = [boardW,Lib.itoa b.at_]:=by
  rw [splitL_spl,boardRow,spl_row _ _ (fun n hn => by simp at hn; subst hn; exact h) (by decide)]
  rfl
theorem spl_letter {x : Letter} (h : ∀ n ∈ x.nums,pl n) : splitL (letterRow x) [32] = [letterW,Lib.itoa x.h,Lib.itoa x.w,Lib.itoa x.s,Lib.itoa x.p]:=by
  rw [splitL_spl,letterRow,spl_row _ _ h (by decide)]
  rfl
theorem spl_head {s : Street} (h : ∀ n ∈ s.nums,pl n) : splitL (rowL sightW s.nums) [32] = sightW :: s.nums.map Lib.itoa:=by
  rw [splitL_spl,spl_row _ _ h (by decide)]
theorem step_board {b : Board} (h : pl b.at_) (st : PS) : stepP st (boardRow b) = some (some (bsOf st.1,b.at_,[]),st.2):=by
  have hn:=num_itoa h
  rw [stepP_board (spl_board h) rfl,if_pos ⟨rfl,fun w hw => by simp at hw; subst hw; exact hn.1⟩]
  have : nth' [boardW,Lib.itoa b.at_] 1 = b.at_:=hn.2
  rw [this]
theorem step_letter {x : Letter} (h : ∀ n ∈ x.nums,pl n) (bs : List Board) (a : Int) (ls : List Letter) (ks : List Block) : stepP (some (bs,a,ls),ks) (letterRow x) = some (some (bs,a,ls ++ [x]),ks):=by
  have h1:=num_itoa (h x.h (by simp [Letter.nums]))
  have h2:=num_itoa (h x.w (by simp [Letter.nums]))
  have h3:=num_itoa (h x.s (by simp [Letter.nums]))
  have h4:=num_itoa (h x.p (by simp [Letter.nums]))
  rw [stepP_letter (spl_letter h) (by show letterW ≠ boardW; decide) rfl,if_pos ⟨rfl,fun w hw => by
    simp at hw
    rcases hw with rfl | rfl | rfl | rfl
    · exact h1.1
    · exact h2.1
    · exact h3.1
    · exact h4.1⟩]
  have e1 : nth' [letterW,Lib.itoa x.h,Lib.itoa x.w,Lib.itoa x.s,Lib.itoa x.p] 1 = x.h:=h1.2
  have e2 : nth' [letterW,Lib.itoa x.h,Lib.itoa x.w,Lib.itoa x.s,Lib.itoa x.p] 2 = x.w:=h2.2
  have e3 : nth' [letterW,Lib.itoa x.h,Lib.itoa x.w,Lib.itoa x.s,Lib.itoa x.p] 3 = x.s:=h3.2
  have e4 : nth' [letterW,Lib.itoa x.h,Lib.itoa x.w,Lib.itoa x.s,Lib.itoa x.p] 4 = x.p:=h4.2
  dsimp only
  rw [e1,e2,e3,e4]
theorem step_block {k : Block} (h : ∀ n ∈ k.nums,pl n) (st : PS) : stepP st (blockRow k) = some (st.1,st.2 ++ [k]):=by
  have h1:=num_itoa (h k.al (by simp [Block.nums]))
  have h2:=num_itoa (h k.ah (by simp [Block.nums]))
  have h3:=num_itoa (h k.cl (by simp [Block.nums]))
  have h4:=num_itoa (h k.ch (by simp [Block.nums]))
  rw [stepP_block (spl_block h) (by show blkW ≠ boardW; decide) (by show blkW ≠ letterW; decide),if_pos ⟨rfl,rfl,fun w hw => by
    simp at hw
    rcases hw with rfl | rfl | rfl | rfl
    · exact h1.1
    · exact h2.1
    · exact h3.1
    · exact h4.1⟩]
  have e1 : nth' [blkW,whenW k.sure,Lib.itoa k.al,Lib.itoa k.ah,Lib.itoa k.cl,Lib.itoa k.ch] 2 = k.al:=h1.2
  have e2 : nth' [blkW,whenW k.sure,Lib.itoa k.al,Lib.itoa k.ah,Lib.itoa k.cl,Lib.itoa k.ch] 3 = k.ah:=h2.2
  have e3 : nth' [blkW,whenW k.sure,Lib.itoa k.al,Lib.itoa k.ah,Lib.itoa k.cl,Lib.itoa k.ch] 4 = k.cl:=h3.2
  have e4 : nth' [blkW,whenW k.sure,Lib.itoa k.al,Lib.itoa k.ah,Lib.itoa k.cl,Lib.itoa k.ch] 5 = k.ch:=h4.2
  rw [e1,e2,e3,e4]
  have e : (whenW k.sure == [115,117,114,101]) = k.sure:=by cases k.sure <;> rfl
  show some (st.1,st.2 ++ [⟨k.al,k.ah,k.cl,k.ch,whenW k.sure == [115,117,114,101]⟩]) = _
  rw [e]
theorem fold_letters : ∀ (xs : List Letter) (bs : List Board) (a : Int) (ls : List Letter) (ks : List Block),(∀ x ∈ xs,∀ n ∈ x.nums,pl n) → (xs.map letterRow).foldlM stepP (some (bs,a,ls),ks) = some (some (bs,a,ls ++ xs),ks)
  | [],bs,a,ls,ks,_ => by simp
  | x :: xs,bs,a,ls,ks,h => by
    rw [List.map_cons,List.foldlM_cons,step_letter (h x (List.mem_cons_self ..))]
    show (xs.map letterRow).foldlM stepP (some (bs,a,ls ++ [x]),ks) = _
    rw [fold_letters xs bs a (ls ++ [x]) ks (fun y hy => h y (List.mem_cons_of_mem _ hy))]
    simp
theorem fold_boards : ∀ (bs : List Board) (st : PS),(∀ b ∈ bs,pl b.at_) → (∀ b ∈ bs,∀ x ∈ b.ls,∀ n ∈ x.nums,pl n) → ∃ c,(bs.flatMap boardRows).foldlM stepP st = some (c,st.2) ∧ bsOf c = bsOf st.1 ++ bs
  | [],st,_,_ => ⟨st.1,by simp,by simp⟩
  | b :: bs,st,h,h' => by
    obtain ⟨c,h1,h2⟩:=fold_boards bs (some (bsOf st.1,b.at_,b.ls),st.2) (fun y hy => h y (List.mem_cons_of_mem _ hy)) (fun y hy => h' y (List.mem_cons_of_mem _ hy))
    refine ⟨c,?_,?_⟩
    · rw [List.flatMap_cons,List.foldlM_append,boardRows,List.foldlM_cons,step_board (h b (List.mem_cons_self ..))]
      have:=fold_letters b.ls (bsOf st.1) b.at_ [] st.2 (h' b (List.mem_cons_self ..))
      show (List.foldlM stepP (some (bsOf st.1,b.at_,[]),st.2) (b.ls.map letterRow)).bind _ = _
      rw [this]
      exact h1
    · rw [h2]; simp [bsOf]
theorem fold_blocks : ∀ (ks : List Block) (st : PS),(∀ k ∈ ks,∀ n ∈ k.nums,pl n) → (ks.map blockRow).foldlM stepP st = some (st.1,st.2 ++ ks)
  | [],st,_ => by simp
  | k :: ks,st,h => by
    rw [List.map_cons,List.foldlM_cons,step_block (h k (List.mem_cons_self ..))]
    show (ks.map blockRow).foldlM stepP (st.1,st.2 ++ [k]) = _
    rw [fold_blocks ks _ (fun y hy => h y (List.mem_cons_of_mem _ hy))]
    simp
theorem Street.plain.no10 {s : Street} (h : s.plain) : ∀ r ∈ rowsOf s,10 ∉ r:=by
  intro r hr
  simp only [rowsOf,List.mem_cons,List.mem_append,List.mem_flatMap,List.mem_map,boardRows] at hr
  rcases hr with rfl | ⟨b,hb,rfl | ⟨x,hx,rfl⟩⟩ | ⟨k,hk,rfl⟩
  · exact row_no10 _ _ h.n (by decide)
  · exact row_no10 _ _ (fun n hn => by simp at hn; subst hn; exact h.b b hb) (by decide)
  · exact row_no10 _ _ (h.l b hb x hx) (by decide)
  · exact row_no10 _ _ (h.k k hk) (by unfold blockW; cases k.sure <;> decide)
theorem endL_no10 (c : Nat) : 10 ∉ endL c:=by
  have h:=fun n => (dec_props n).1
  have hn : ∀ n,10 ∉ Lib.decDigits n:=fun n q => (dig_ne (h n _ q)).2 rfl
  simp only [endL,List.mem_append,not_or]
  exact ⟨⟨⟨by decide,hn _⟩,hn _⟩,hn _⟩
theorem spl_flat : ∀ (l : List (List UInt8)) (x : List UInt8),(∀ r ∈ l,10 ∉ r) → spl 10 (flatL l ++ x) = l ++ spl 10 x
  | [],x,_ => rfl
  | r :: l,x,h => by
    have e : flatL (r :: l) ++ x = r ++ 10 :: (flatL l ++ x):=by simp [flatL]
    rw [e,spl_app 10 _ _ (h r (List.mem_cons_self ..)),spl_flat l x (fun y hy => h y (List.mem_cons_of_mem _ hy))]
    rfl
theorem spl_sealed {l : List (List UInt8)} (h : ∀ r ∈ l,10 ∉ r) : splitL (sealedL l) [10] = l ++ [endL (rowsSum 0 l % 179),[]]:=by
  rw [splitL_spl,sealedL,List.append_assoc,spl_flat _ _ h,spl_app 10 _ _ (endL_no10 _)]
  rfl
theorem mid_rows (a : List UInt8) (l : List (List UInt8)) (x y : List UInt8) : midL (a :: l ++ [x,y]) = l:=by
  unfold midL
  simp
theorem parse_text {s : Street} (h : s.plain) : parseP (sealedL (rowsOf s)) = some s:=by
  have hr:=spl_sealed h.no10
  obtain ⟨c,h1,h2⟩:=fold_boards s.bs (none,[]) h.b h.l
  have h3:=fold_blocks s.ks (c,[]) h.k
  have hm : midL (rowsOf s ++ [endL (rowsSum 0 (rowsOf s) % 179),[]]) = s.bs.flatMap boardRows ++ s.ks.map blockRow:=mid_rows _ _ _ _
  have hW : splitL ((rowsOf s ++ [endL (rowsSum 0 (rowsOf s) % 179),[]]).getD 0 default) [32] = sightW :: s.nums.map Lib.itoa:=spl_head h.n
  have hst : preL (midL (rowsOf s ++ [endL (rowsSum 0 (rowsOf s) % 179),[]])) (midL (rowsOf s ++ [endL (rowsSum 0 (rowsOf s) % 179),[]])).length = some (c,s.ks):=by
    rw [hm,preL,List.take_length,List.foldlM_append,h1]
    exact h3
  have hn:=fun n hn => num_itoa (h.n n hn)
  have h6 : nums ((sightW :: s.nums.map Lib.itoa).drop 1) 6:=⟨by simp [Street.nums],fun w hw => by
    simp only [List.drop_succ_cons,List.drop_zero,List.mem_map] at hw
    obtain ⟨n,hm,rfl⟩:=hw
    exact (hn n hm).1⟩
  have e : mkS (sightW :: s.nums.map Lib.itoa) (c,s.ks) = s:=by
    have e1 : nth' (sightW :: s.nums.map Lib.itoa) 1 = s.len:=(hn s.len (by simp [Street.nums])).2
    have e2 : nth' (sightW :: s.nums.map Lib.itoa) 2 = s.wid:=(hn s.wid (by simp [Street.nums])).2
    have e3 : nth' (sightW :: s.nums.map Lib.itoa) 3 = s.el:=(hn s.el (by simp [Street.nums])).2
    have e4 : nth' (sightW :: s.nums.map Lib.itoa) 4 = s.eh:=(hn s.eh (by simp [Street.nums])).2
    have e5 : nth' (sightW :: s.nums.map Lib.itoa) 5 = s.ll:=(hn s.ll (by simp [Street.nums])).2
    have e6 : nth' (sightW :: s.nums.map Lib.itoa) 6 = s.lh:=(hn s.lh (by simp [Street.nums])).2
    unfold mkS
    rw [e1,e2,e3,e4,e5,e6]
    dsimp only
    rw [h2]
    rfl
  rw [parse_all hr hW (by rw [List.length_append]; simp only [rowsOf,List.length_cons,List.length_nil]; omega) h6 hst,e,if_pos rfl]
theorem parse_some {t : List UInt8} {s : Street} (h : parseP t = some s) : s.plain ∧ sealedL (rowsOf s) = t ∧ (s.bs.flatMap boardRows).length + s.ks.length ≤ t.length:=by
  have hl:=splitL_len t [10] (by decide)
  unfold parseP at h
  dsimp only at h
  split at h
  · rename_i h36
    split at h
    · cases h
    · rename_i st hst
      split at h
      · rename_i he
        simp only [Option.some.injEq] at h
        subst h
        obtain ⟨p1,p2⟩:=preL_plain _ _ st (Nat.le_refl _) hst
        refine ⟨mkS_plain h36.2 p1,he,?_⟩
        show nrows st ≤ _
        rw [p2]
        unfold midL
        rw [List.length_take,List.length_drop]; omega
      · cases h
  · cases h
end Go.Proofs.Sight
namespace Go.Proofs.Sight
open Go Go.RX Go.Proofs Go.RowKit
attribute [local go_sem] Oper.semAt_some
set_option maxRecDepth 100000
theorem four_ints {us vs : Array Value} {b : Bool} (h : us.toList.map isB = [false,false,false,false]) (he : eqVs us.toList vs.toList = some b) :
    ∃ k0 k1 k2 k3 x0 x1 x2 x3 y0 y1 y2 y3,us = #[.int k0 x0,.int k1 x1,.int k2 x2,.int k3 x3] ∧ vs = #[.int k0 y0,.int k1 y1,.int k2 y2,.int k3 y3] ∧ b = ((x0 == y0) && ((x1 == y1) && ((x2 == y2) && (x3 == y3)))):=by
  obtain ⟨us⟩:=us
  obtain ⟨vs⟩:=vs
  simp only at h he
  have hl : us.length = 4:=by simpa using congrArg List.length h
  match us,hl,h,he with
  | [u0,u1,u2,u3],_,h,he =>
    obtain ⟨k0,x0,y0,vs1,c1,rfl,rfl,h1,he1,rfl⟩:=eqVs_int h he
    obtain ⟨k1,x1,y1,vs2,c2,rfl,rfl,h2,he2,rfl⟩:=eqVs_int h1 he1
    obtain ⟨k2,x2,y2,vs3,c3,rfl,rfl,h3,he3,rfl⟩:=eqVs_int h2 he2
    obtain ⟨k3,x3,y3,vs4,c4,rfl,rfl,h4,he4,rfl⟩:=eqVs_int h3 he3
    obtain ⟨rfl,rfl⟩:=eqVs_nil he4
    exact ⟨k0,k1,k2,k3,x0,x1,x2,x3,y0,y1,y2,y3,rfl,rfl,by simp⟩
theorem four_ints_bool {us vs : Array Value} {b : Bool} (h : us.toList.map isB = [false,false,false,false,true]) (he : eqVs us.toList vs.toList = some b) :
    ∃ k0 k1 k2 k3 x0 x1 x2 x3 x4 y0 y1 y2 y3 y4,us = #[.int k0 x0,.int k1 x1,.int k2 x2,.int k3 x3,.bool x4] ∧ vs = #[.int k0 y0,.int k1 y1,.int k2 y2,.int k3 y3,.bool y4] ∧ b = ((x0 == y0) && ((x1 == y1) && ((x2 == y2) && ((x3 == y3) && (x4 == y4))))):=by
  obtain ⟨us⟩:=us
  obtain ⟨vs⟩:=vs
  simp only at h he
  have hl : us.length = 5:=by simpa using congrArg List.length h
  match us,hl,h,he with
  | [u0,u1,u2,u3,u4],_,h,he =>
    obtain ⟨k0,x0,y0,vs1,c1,rfl,rfl,h1,he1,rfl⟩:=eqVs_int h he
    obtain ⟨k1,x1,y1,vs2,c2,rfl,rfl,h2,he2,rfl⟩:=eqVs_int h1 he1
    obtain ⟨k2,x2,y2,vs3,c3,rfl,rfl,h3,he3,rfl⟩:=eqVs_int h2 he2
    obtain ⟨k3,x3,y3,vs4,c4,rfl,rfl,h4,he4,rfl⟩:=eqVs_int h3 he3
    obtain ⟨x4,y4,vs5,c5,rfl,rfl,h5,he5,rfl⟩:=eqVs_bool h4 he4
    obtain ⟨rfl,rfl⟩:=eqVs_nil he5
    exact ⟨k0,k1,k2,k3,x0,x1,x2,x3,x4,y0,y1,y2,y3,y4,rfl,rfl,by simp⟩
theorem stEq23 : StEq Tryz.prog 23 [false,false]:=by
  intro us vs w b x y h he
  obtain ⟨k,l,a,c,a',c',rfl,rfl,rfl⟩:=two_ints h he
  have u3:=Tryz.underlying3
  have a3:=Tryz.isAgg3
  have z3:=Tryz.sizeOf3
  have hS : Tryz.prog.underlying 23 = some (.struct (Tryz.prog.fieldsOf 23)):=by kernel_rfl
  have hp : Tryz.prog.stoodInHeld 23 = false:=by kernel_rfl
  have hg : Tryz.prog.eqGuardType Tryz.prog.depth 23 = false:=by kernel_rfl
  have heq : (Op.equalIn 10000 23 (.agg #[.int k a,.int l c]) (.agg #[.int k a',.int l c'])).run Tryz.prog w = .ok ((a == a') && (c == c')) w:=by
    rw [show (10000 : Nat) = 9999 + 1 from rfl,run_equalIn_agg w 9999 23 _ _ hS hp]
    simp only [Program.fieldsOf,Tryz.underlying23]
    go_simp
    by_cases h1 : a = a' <;> by_cases h2 : c = c' <;> simp [h1,h2]
  refine ⟨?_,?_⟩
  · simp only [Sem.run_bind,run_eqGuard_agg w _ _ _ _ _ _ hg,Result.andThen_ok,run_eql_struct,heq]
  · simp only [Sem.run_bind,run_eqGuard_agg w _ _ _ _ _ _ hg,Result.andThen_ok,run_neq_struct,heq]
theorem stEq59 : StEq Tryz.prog 45 [false,false,false,false]:=by
  intro us vs w b x y h he
  obtain ⟨k0,k1,k2,k3,x0,x1,x2,x3,y0,y1,y2,y3,rfl,rfl,rfl⟩:=four_ints h he
  have u3:=Tryz.underlying3
  have a3:=Tryz.isAgg3
  have z3:=Tryz.sizeOf3
  have hS : Tryz.prog.underlying 45 = some (.struct (Tryz.prog.fieldsOf 45)):=by kernel_rfl
  have hp : Tryz.prog.stoodInHeld 45 = false:=by kernel_rfl
  have hg : Tryz.prog.eqGuardType Tryz.prog.depth 45 = false:=by kernel_rfl
  have heq : (Op.equalIn 10000 45 (.agg #[.int k0 x0,.int k1 x1,.int k2 x2,.int k3 x3]) (.agg #[.int k0 y0,.int k1 y1,.int k2 y2,.int k3 y3])).run Tryz.prog w = .ok ((x0 == y0) && ((x1 == y1) && ((x2 == y2) && (x3 == y3)))) w:=by
    rw [show (10000 : Nat) = 9999 + 1 from rfl,run_equalIn_agg w 9999 45 _ _ hS hp]
    simp only [Program.fieldsOf,Tryz.underlying45]
    go_simp
    by_cases h1 : x0 = y0 <;> by_cases h2 : x1 = y1 <;> by_cases h3 : x2 = y2 <;> by_cases h4 : x3 = y3 <;> simp [h1,h2,h3,h4]
  refine ⟨?_,?_⟩
  · simp only [Sem.run_bind,run_eqGuard_agg w _ _ _ _ _ _ hg,Result.andThen_ok,run_eql_struct,heq]
  · simp only [Sem.run_bind,run_eqGuard_agg w _ _ _ _ _ _ hg,Result.andThen_ok,run_neq_struct,heq]
theorem stEq66 : StEq Tryz.prog 48 [false,false,false,false,true]:=by
  intro us vs w b x y h he
  obtain ⟨k0,k1,k2,k3,x0,x1,x2,x3,x4,y0,y1,y2,y3,y4,rfl,rfl,rfl⟩:=four_ints_bool h he
  have u3:=Tryz.underlying3
  have a3:=Tryz.isAgg3
  have z3:=Tryz.sizeOf3
  have u4:=Tryz.underlying4
  have a4:=Tryz.isAgg4
  have z4:=Tryz.sizeOf4
  have a23:=Tryz.isAgg23
  have z23:=Tryz.sizeOf23
  have hS3 : Tryz.prog.underlying 23 = some (.struct (Tryz.prog.fieldsOf 23)):=by kernel_rfl
  have hp3 : Tryz.prog.stoodInHeld 23 = false:=by kernel_rfl
  have hS : Tryz.prog.underlying 48 = some (.struct (Tryz.prog.fieldsOf 48)):=by kernel_rfl
  have hp : Tryz.prog.stoodInHeld 48 = false:=by kernel_rfl
  have hg : Tryz.prog.eqGuardType Tryz.prog.depth 48 = false:=by kernel_rfl
  have hgen : ∀ d,(Op.equalIn (d + 1 + 1 + 1) 48 (.agg #[.int k0 x0,.int k1 x1,.int k2 x2,.int k3 x3,.bool x4]) (.agg #[.int k0 y0,.int k1 y1,.int k2 y2,.int k3 y3,.bool y4])).run Tryz.prog w = .ok ((x0 == y0) && ((x1 == y1) && ((x2 == y2) && ((x3 == y3) && (x4 == y4))))) w:=by
    intro d
    rw [run_equalIn_agg w (d + 1 + 1) 48 _ _ hS hp]
    simp only [Program.fieldsOf,Tryz.underlying48]
    have h3 : ∀ a c a' c' k l,(Op.equalIn (d + 1 + 1) 23 (.agg #[.int k a,.int l c]) (.agg #[.int k a',.int l c'])).run Tryz.prog w = .ok ((a == a') && (c == c')) w:=by
      intro a c a' c' k l
      rw [run_equalIn_agg w (d + 1) 23 _ _ hS3 hp3]
      simp only [Program.fieldsOf,Tryz.underlying23]
      go_simp
      by_cases h1 : a = a' <;> by_cases h2 : c = c' <;> simp [h1,h2]
    clear hS3 hp3
    go_simp
    by_cases h1 : x0 = y0 <;> by_cases h2 : x1 = y1 <;> by_cases h3 : x2 = y2 <;> by_cases h4 : x3 = y3 <;> by_cases h5 : x4 = y4 <;> simp [h1,h2,h3,h4,h5]
  have heq : (Op.equalIn 10000 48 (.agg #[.int k0 x0,.int k1 x1,.int k2 x2,.int k3 x3,.bool x4]) (.agg #[.int k0 y0,.int k1 y1,.int k2 y2,.int k3 y3,.bool y4])).run Tryz.prog w = .ok ((x0 == y0) && ((x1 == y1) && ((x2 == y2) && ((x3 == y3) && (x4 == y4))))) w:=hgen 9997
  refine ⟨?_,?_⟩
  · simp only [Sem.run_bind,run_eqGuard_agg w _ _ _ _ _ _ hg,Result.andThen_ok,run_eql_struct,heq]
  · simp only [Sem.run_bind,run_eqGuard_agg w _ _ _ _ _ _ hg,Result.andThen_ok,run_neq_struct,heq]
end Go.Proofs.Sight
namespace Go.Proofs.Sight
open Go Go.RX Go.Proofs
set_option maxRecDepth 10000
theorem c109 (b : Board) (hl : b.ls.length ≤ 1000) : Ctr Tryz.prog 73 [b.sv,b.sv] (bS true):=by
  (refine Ctr.mk (fn:=Tryz.f73) rfl rfl rfl rfl rfl Tryz.results73 ?_; dsimp only [args,List.toList_toArray])
  ((first | refine qS rfl rfl ?_ | refine qR rfl rfl ?_); simp only [go_sem,↓dP,↓reduceIte]; with_reducible and_intros; all_goals first | apply qA | exact ⟨⟩ | rfl | (intros; apply qB; first | kernel_rfl | omega) | omega | skip)
  refine Ok.seq ?_
  ((first | refine qS rfl rfl ?_ | refine qR rfl rfl ?_); simp only [go_sem,↓dP,↓reduceIte]; with_reducible and_intros; all_goals first | apply qA | exact ⟨⟩ | rfl | (intros; apply qB; first | kernel_rfl | omega) | omega | skip)
  refine Ok.cond rfl ?_ ?_
  · intro hb
    simp at hb
  intro _
  (refine Ok.skip ?_; (try dsimp only [thenK,blockK,noGotoK]))
  refine Ok.seq ?_
  ((first | refine qS rfl rfl ?_ | refine qR rfl rfl ?_); simp only [go_sem,↓dP,↓reduceIte]; with_reducible and_intros; all_goals first | apply qA | exact ⟨⟩ | rfl | (intros; apply qB; first | kernel_rfl | omega) | omega | skip)
  refine Ok.block ?_
  refine Ok.count b.ls.length (fun i => ⟨[(2,.p 0 0),(3,.p 1 0),(5,iS i)],[boardB b,boardB b],[]⟩) (fun _ => True) ⟨trivial,?_⟩ ?_ ?_
  · (refine Sub.of ([0,1]) ([]) ?_ ?_ ?_ rfl rfl <;> simp only [subB,subB1,subT,subT1,newT,subE,subV,subL,go_sem,↓dP,↓reduceIte] <;> (try (repeat' with_reducible apply And.intro)) <;> (try first | exact DEq.refl _ | refine DEq.int ?_ | refine DEq.bool ?_ | omega))
  · intro i hi _
    refine Ok.seq ?_; (((first | refine qS rfl rfl ?_ | refine qR rfl rfl ?_); simp only [go_sem,↓dP,↓reduceIte]; with_reducible and_intros; all_goals first | apply qA | exact ⟨⟩ | rfl | (intros; apply qB; first | kernel_rfl | omega) | omega | skip)); refine Ok.cond rfl (fun _ => ?_) (fun hb => by simp at hb; omega); (refine Ok.skip ?_; (try dsimp only [thenK,blockK,noGotoK])); refine Ok.seq ?_; refine Ok.block ?_
    ((first | refine qS rfl rfl ?_ | refine qR rfl rfl ?_); simp only [go_sem,↓dP,↓reduceIte]; with_reducible and_intros; all_goals first | apply qA | exact ⟨⟩ | rfl | (intros; apply qB; first | kernel_rfl | omega) | omega | skip)
    · exact stEq59
    refine Ok.cond (b:=false) (by first | rfl | (simp only [go_sem,↓dP,↓reduceIte]; rfl)) (fun hb => by cases hb) (fun _ => ?_)
    (refine Ok.skip ?_; (try dsimp only [thenK,blockK,noGotoK]))
    (try dsimp only [thenK,blockK,noGotoK])
    ((first | refine qS rfl rfl ?_ | refine qR rfl rfl ?_); simp only [go_sem,↓dP,↓reduceIte]; with_reducible and_intros; all_goals first | apply qA | exact ⟨⟩ | rfl | (intros; apply qB; first | kernel_rfl | omega) | omega | skip)
    (try dsimp only [thenK,blockK,noGotoK])
    refine ⟨trivial,?_⟩
    (refine Sub.of ([0,1]) ([]) ?_ ?_ ?_ rfl rfl <;> simp only [subB,subB1,subT,subT1,newT,subE,subV,subL,go_sem,↓dP,↓reduceIte] <;> (try (repeat' with_reducible apply And.intro)) <;> (try first | exact DEq.refl _ | refine DEq.int ?_ | refine DEq.bool ?_ | omega))
  · intro _
    refine Ok.seq ?_; (((first | refine qS rfl rfl ?_ | refine qR rfl rfl ?_); simp only [go_sem,↓dP,↓reduceIte]; with_reducible and_intros; all_goals first | apply qA | exact ⟨⟩ | rfl | (intros; apply qB; first | kernel_rfl | omega) | omega | skip)); refine Ok.cond rfl (fun hb => by simp at hb) (fun _ => ?_); (refine Ok.exit ?_; simp only [thenK_exit,blockK_exit,noGotoK_exit,thenK_normal,blockK_normal,noGotoK_normal,↓reduceIte,Nat.reduceEqDiff])
    ((first | refine qS rfl rfl ?_ | refine qR rfl rfl ?_); simp only [go_sem,↓dP,↓reduceIte]; with_reducible and_intros; all_goals first | apply qA | exact ⟨⟩ | rfl | (intros; apply qB; first | kernel_rfl | omega) | omega | skip)
    (refine Ok.ret ?_; (try dsimp only [thenK,blockK,noGotoK]); simp only [toList_mk,List.toList_toArray,retK_ret,retK_normal,resOK,resV,celV,rowV,frzAll,frzT,subV,subL,go_sem,↓dP,↓reduceIte])
    exact .refl _
theorem c66 (s : Street) (h1 : s.bs.length ≤ 1000) (h2 : s.ks.length ≤ 1000) (h3 : ∀ b ∈ s.bs,b.ls.length ≤ 1000) : Ctr Tryz.prog 36 [s.sv,s.sv] (bS true):=by
  (refine Ctr.mk (fn:=Tryz.f36) rfl rfl rfl rfl rfl Tryz.results36 ?_; dsimp only [args,List.toList_toArray])
  ((first | refine qS rfl rfl ?_ | refine qR rfl rfl ?_); simp only [go_sem,↓dP,↓reduceIte]; with_reducible and_intros; all_goals first | apply qA | exact ⟨⟩ | rfl | (intros; apply qB; first | kernel_rfl | omega) | omega | skip)
  refine Ok.seq ?_
  ((first | refine qS rfl rfl ?_ | refine qR rfl rfl ?_); simp only [go_sem,↓dP,↓reduceIte]; with_reducible and_intros; all_goals first | apply qA | exact ⟨⟩ | rfl | (intros; apply qB; first | kernel_rfl | omega) | omega | skip)
  · exact fun _ => stEq23
  · exact fun _ => stEq23
  refine Ok.cond rfl ?_ ?_
  · intro hb
    simp at hb
  intro _
  (refine Ok.skip ?_; (try dsimp only [thenK,blockK,noGotoK]))
  refine Ok.seq ?_
  ((first | refine qS rfl rfl ?_ | refine qR rfl rfl ?_); simp only [go_sem,↓dP,↓reduceIte]; with_reducible and_intros; all_goals first | apply qA | exact ⟨⟩ | rfl | (intros; apply qB; first | kernel_rfl | omega) | omega | skip)
  refine Ok.block ?_
  refine Ok.count s.bs.length (fun i => ⟨[(2,.p 0 0),(3,.p 1 0),(5,iS i)],[streetB s,streetB s],[]⟩) (fun _ => True) ⟨trivial,?_⟩ ?_ ?_
  · (refine Sub.of ([0,1]) ([]) ?_ ?_ ?_ rfl rfl <;> simp only [subB,subB1,subT,subT1,newT,subE,subV,subL,go_sem,↓dP,↓reduceIte] <;> (try (repeat' with_reducible apply And.intro)) <;> (try first | exact DEq.refl _ | refine DEq.int ?_ | refine DEq.bool ?_ | omega))
  · intro i hi _
    refine Ok.seq ?_; (((first | refine qS rfl rfl ?_ | refine qR rfl rfl ?_); simp only [go_sem,↓dP,↓reduceIte]; with_reducible and_intros; all_goals first | apply qA | exact ⟨⟩ | rfl | (intros; apply qB; first | kernel_rfl | omega) | omega | skip)); refine Ok.cond rfl (fun _ => ?_) (fun hb => by simp at hb; omega); (refine Ok.skip ?_; (try dsimp only [thenK,blockK,noGotoK])); refine Ok.seq ?_; refine Ok.block ?_
    ((first | refine qS rfl rfl ?_ | refine qR rfl rfl ?_); simp only [go_sem,↓dP,↓reduceIte]; with_reducible and_intros; all_goals first | apply qA | exact ⟨⟩ | rfl | (intros; apply qB; first | kernel_rfl | omega) | omega | skip)
    (refine AskI.ret (c109 (s.bs.getD i default) (h3 _ (getD_mem hi))) ?_; simp only [go_sem,↓dP,↓reduceIte]; with_reducible and_intros; all_goals first | apply qA | exact ⟨⟩ | rfl | (intros; apply qB; first | kernel_rfl | omega) | omega | skip)
    refine Ok.cond (b:=false) (by first | rfl | (simp only [go_sem,↓dP,↓reduceIte]; rfl)) (fun hb => by cases hb) (fun _ => ?_)
    (refine Ok.skip ?_; (try dsimp only [thenK,blockK,noGotoK]))
    (try dsimp only [thenK,blockK,noGotoK])
    ((first | refine qS rfl rfl ?_ | refine qR rfl rfl ?_); simp only [go_sem,↓dP,↓reduceIte]; with_reducible and_intros; all_goals first | apply qA | exact ⟨⟩ | rfl | (intros; apply qB; first | kernel_rfl | omega) | omega | skip)
    (try dsimp only [thenK,blockK,noGotoK])
    refine ⟨trivial,?_⟩
    (refine Sub.of ([0,1]) ([]) ?_ ?_ ?_ rfl rfl <;> simp only [subB,subB1,subT,subT1,newT,subE,subV,subL,go_sem,↓dP,↓reduceIte] <;> (try (repeat' with_reducible apply And.intro)) <;> (try first | exact DEq.refl _ | refine DEq.int ?_ | refine DEq.bool ?_ | omega))
  · intro _
    refine Ok.seq ?_; (((first | refine qS rfl rfl ?_ | refine qR rfl rfl ?_); simp only [go_sem,↓dP,↓reduceIte]; with_reducible and_intros; all_goals first | apply qA | exact ⟨⟩ | rfl | (intros; apply qB; first | kernel_rfl | omega) | omega | skip)); refine Ok.cond rfl (fun hb => by simp at hb) (fun _ => ?_); (refine Ok.exit ?_; simp only [thenK_exit,blockK_exit,noGotoK_exit,thenK_normal,blockK_normal,noGotoK_normal,↓reduceIte,Nat.reduceEqDiff])
    refine Ok.seq ?_
    ((first | refine qS rfl rfl ?_ | refine qR rfl rfl ?_); simp only [go_sem,↓dP,↓reduceIte]; with_reducible and_intros; all_goals first | apply qA | exact ⟨⟩ | rfl | (intros; apply qB; first | kernel_rfl | omega) | omega | skip)
    refine Ok.block ?_
    refine Ok.count s.ks.length (fun i => ⟨[(2,.p 0 0),(3,.p 1 0),(6,iS i)],[streetB s,streetB s],[]⟩) (fun _ => True) ⟨trivial,?_⟩ ?_ ?_
    · (refine Sub.of ([0,1]) ([]) ?_ ?_ ?_ rfl rfl <;> simp only [subB,subB1,subT,subT1,newT,subE,subV,subL,go_sem,↓dP,↓reduceIte] <;> (try (repeat' with_reducible apply And.intro)) <;> (try first | exact DEq.refl _ | refine DEq.int ?_ | refine DEq.bool ?_ | omega))
    · intro i hi _
      refine Ok.seq ?_; (((first | refine qS rfl rfl ?_ | refine qR rfl rfl ?_); simp only [go_sem,↓dP,↓reduceIte]; with_reducible and_intros; all_goals first | apply qA | exact ⟨⟩ | rfl | (intros; apply qB; first | kernel_rfl | omega) | omega | skip)); refine Ok.cond rfl (fun _ => ?_) (fun hb => by simp at hb; omega); (refine Ok.skip ?_; (try dsimp only [thenK,blockK,noGotoK])); refine Ok.seq ?_; refine Ok.block ?_
      ((first | refine qS rfl rfl ?_ | refine qR rfl rfl ?_); simp only [go_sem,↓dP,↓reduceIte]; with_reducible and_intros; all_goals first | apply qA | exact ⟨⟩ | rfl | (intros; apply qB; first | kernel_rfl | omega) | omega | skip)
      · exact stEq66
      refine Ok.cond (b:=false) (by first | rfl | (simp only [go_sem,↓dP,↓reduceIte]; rfl)) (fun hb => by cases hb) (fun _ => ?_)
      (refine Ok.skip ?_; (try dsimp only [thenK,blockK,noGotoK]))
      (try dsimp only [thenK,blockK,noGotoK])
      ((first | refine qS rfl rfl ?_ | refine qR rfl rfl ?_); simp only [go_sem,↓dP,↓reduceIte]; with_reducible and_intros; all_goals first | apply qA | exact ⟨⟩ | rfl | (intros; apply qB; first | kernel_rfl | omega) | omega | skip)
      (try dsimp only [thenK,blockK,noGotoK])
      refine ⟨trivial,?_⟩
      (refine Sub.of ([0,1]) ([]) ?_ ?_ ?_ rfl rfl <;> simp only [subB,subB1,subT,subT1,newT,subE,subV,subL,go_sem,↓dP,↓reduceIte] <;> (try (repeat' with_reducible apply And.intro)) <;> (try first | exact DEq.refl _ | refine DEq.int ?_ | refine DEq.bool ?_ | omega))
    · intro _
      refine Ok.seq ?_; (((first | refine qS rfl rfl ?_ | refine qR rfl rfl ?_); simp only [go_sem,↓dP,↓reduceIte]; with_reducible and_intros; all_goals first | apply qA | exact ⟨⟩ | rfl | (intros; apply qB; first | kernel_rfl | omega) | omega | skip)); refine Ok.cond rfl (fun hb => by simp at hb) (fun _ => ?_); (refine Ok.exit ?_; simp only [thenK_exit,blockK_exit,noGotoK_exit,thenK_normal,blockK_normal,noGotoK_normal,↓reduceIte,Nat.reduceEqDiff])
      ((first | refine qS rfl rfl ?_ | refine qR rfl rfl ?_); simp only [go_sem,↓dP,↓reduceIte]; with_reducible and_intros; all_goals first | apply qA | exact ⟨⟩ | rfl | (intros; apply qB; first | kernel_rfl | omega) | omega | skip)
      (refine Ok.ret ?_; (try dsimp only [thenK,blockK,noGotoK]); simp only [toList_mk,List.toList_toArray,retK_ret,retK_normal,resOK,resV,celV,rowV,frzAll,frzT,subV,subL,go_sem,↓dP,↓reduceIte])
      exact .refl _
end Go.Proofs.Sight
namespace Go.Proofs.Sight
open Go Go.RX Go.Proofs
set_option maxRecDepth 10000
def fromC (c : UInt8) (l : List UInt8) : Nat → Nat
  | 0 => 0
  | i + 1 => if l.getD i 0 = c then i + 1 else fromC c l i
def outC (c : UInt8) (l : List UInt8) : Nat → List (List UInt8)
  | 0 => []
  | i + 1 => if l.getD i 0 = c then outC c l i ++ [(l.take i).drop (fromC c l i)] else outC c l i
theorem fromC_succ (c : UInt8) (l : List UInt8) (i : Nat) : fromC c l (i + 1) = if l.getD i 0 = c then i + 1 else fromC c l i:=rfl
theorem outC_succ (c : UInt8) (l : List UInt8) (i : Nat) : outC c l (i + 1) = if l.getD i 0 = c then outC c l i ++ [(l.take i).drop (fromC c l i)] else outC c l i:=rfl
theorem fromC_le (c : UInt8) (l : List UInt8) : ∀ i,fromC c l i ≤ i
  | 0 => Nat.le_refl _
  | i + 1 => by
    have:=fromC_le c l i
    rw [fromC_succ]
    split <;> omega
theorem outC_len (c : UInt8) (l : List UInt8) : ∀ i,(outC c l i).length ≤ i
  | 0 => Nat.le_refl _
  | i + 1 => by
    have:=outC_len c l i
    rw [outC_succ]
    split
    · simp; omega
    · omega
theorem outC_spl (c : UInt8) (l : List UInt8) : ∀ i,i ≤ l.length → spl c (l.take i) = outC c l i ++ [(l.take i).drop (fromC c l i)]
  | 0,_ => rfl
  | i + 1,hi => by
    have ih:=outC_spl c l i (by omega)
    have hf:=fromC_le c l i
    have e : l.take (i + 1) = l.take i ++ [l.getD i 0]:=getD_take (by omega)
    have hl : (l.take i).length = i:=by rw [List.length_take]; omega
    rw [e,spl_snoc c _ _ _ _ ih]
    rw [outC_succ,fromC_succ]
    by_cases h : l.getD i 0 = c
    · simp only [if_pos h]
      have e2 : (l.take i ++ [l.getD i 0]).drop (i + 1) = []:=List.drop_of_length_le (by rw [List.length_append,hl]; simp)
      rw [e2]
      simp
    · simp only [if_neg h]
      rw [List.drop_append_of_le_length (by omega)]
theorem c110 (s : List UInt8) (c : UInt8) (n : Int) (hn : n = (c.toNat : Int)) (hl : s.length ≤ 1000) : Ctr Tryz.prog 74 [.d (.str s),.d (.int .u8 n)] (.d (strsD (spl c s))):=by
  (refine Ctr.mk (fn:=Tryz.f74) rfl rfl rfl rfl rfl Tryz.results74 ?_; dsimp only [args,List.toList_toArray])
  ((first | refine qS rfl rfl ?_ | refine qR rfl rfl ?_); simp only [go_sem,↓dP,↓reduceIte]; with_reducible and_intros; all_goals first | apply qA | exact ⟨⟩ | rfl | (intros; apply qB; first | kernel_rfl | omega) | omega | skip)
  ((first | refine qS rfl rfl ?_ | refine qR rfl rfl ?_); simp only [go_sem,↓dP,↓reduceIte]; with_reducible and_intros; all_goals first | apply qA | exact ⟨⟩ | rfl | (intros; apply qB; first | kernel_rfl | omega) | omega | skip)
  ((first | refine qS rfl rfl ?_ | refine qR rfl rfl ?_); simp only [go_sem,↓dP,↓reduceIte]; with_reducible and_intros; all_goals first | apply qA | exact ⟨⟩ | rfl | (intros; apply qB; first | kernel_rfl | omega) | omega | skip)
  refine Ok.seq ?_
  ((first | refine qS rfl rfl ?_ | refine qR rfl rfl ?_); simp only [go_sem,↓dP,↓reduceIte]; with_reducible and_intros; all_goals first | apply qA | exact ⟨⟩ | rfl | (intros; apply qB; first | kernel_rfl | omega) | omega | skip)
  refine Ok.block ?_
  refine Ok.count s.length (fun i => ⟨[(0,.d (.str s)),(1,.d (.int .u8 n)),(5,.tk 0),(6,iS (fromC c s i)),(7,iS i)],[],[ownD 9 1 strD (outC c s i)]⟩) (fun _ => True) ⟨trivial,?_⟩ ?_ ?_
  · (refine Sub.of ([]) ([none]) ?_ ?_ ?_ rfl rfl <;> simp only [subB,subB1,subT,subT1,newT,subE,subV,subL,go_sem,↓dP,↓reduceIte] <;> (try (repeat' with_reducible apply And.intro)) <;> (try first | exact DEq.refl _ | refine DEq.int ?_ | refine DEq.bool ?_ | omega))
    rfl
  · intro i hi _
    have hf:=fromC_le c s i
    have ho:=outC_len c s i
    have hcn : ∀ {b : UInt8},((b.toNat : Int) = n) ↔ b = c:=by
      intro b
      subst hn
      exact ⟨fun h => UInt8.toNat_inj.1 (by omega),fun h => by rw [h]⟩
    refine Ok.seq ?_; (((first | refine qS rfl rfl ?_ | refine qR rfl rfl ?_); simp only [go_sem,↓dP,↓reduceIte]; with_reducible and_intros; all_goals first | apply qA | exact ⟨⟩ | rfl | (intros; apply qB; first | kernel_rfl | omega) | omega | skip)); refine Ok.cond rfl (fun _ => ?_) (fun hb => by simp at hb; omega); (refine Ok.skip ?_; (try dsimp only [thenK,blockK,noGotoK])); refine Ok.seq ?_; refine Ok.block ?_
    ((first | refine qS rfl rfl ?_ | refine qR rfl rfl ?_); simp only [go_sem,↓dP,↓reduceIte]; with_reducible and_intros; all_goals first | apply qA | exact ⟨⟩ | rfl | (intros; apply qB; first | kernel_rfl | omega) | omega | skip)
    refine Ok.cond rfl ?_ ?_
    · intro hb
      have hb' : s.getD i 0 = c:=hcn.1 (by simpa using hb)
      ((first | refine qS rfl rfl ?_ | refine qR rfl rfl ?_); simp only [go_sem,↓dP,↓reduceIte]; with_reducible and_intros; all_goals first | apply qA | exact ⟨⟩ | rfl | (intros; apply qB; first | kernel_rfl | omega) | omega | skip)
      ((first | refine qS rfl rfl ?_ | refine qR rfl rfl ?_); simp only [go_sem,↓dP,↓reduceIte]; with_reducible and_intros; all_goals first | apply qA | exact ⟨⟩ | rfl | (intros; apply qB; first | kernel_rfl | omega) | omega | skip)
      (try dsimp only [thenK,blockK,noGotoK])
      ((first | refine qS rfl rfl ?_ | refine qR rfl rfl ?_); simp only [go_sem,↓dP,↓reduceIte]; with_reducible and_intros; all_goals first | apply qA | exact ⟨⟩ | rfl | (intros; apply qB; first | kernel_rfl | omega) | omega | skip)
      (try dsimp only [thenK,blockK,noGotoK])
      refine ⟨trivial,?_⟩
      rw [fromC_succ,outC_succ,if_pos hb',if_pos hb']
      (refine Sub.of ([]) ([some 2]) ?_ ?_ ?_ rfl rfl <;> simp only [subB,subB1,subT,subT1,newT,subE,subV,subL,go_sem,↓dP,↓reduceIte] <;> (try (repeat' with_reducible apply And.intro)) <;> (try first | exact DEq.refl _ | refine DEq.int ?_ | refine DEq.bool ?_ | omega))
      · simp
      · exact snoc_D (str_snoc _)
    · intro hb
      have hb' : s.getD i 0 ≠ c:=fun h => by rw [hcn.2 h] at hb; simp at hb
      (refine Ok.skip ?_; (try dsimp only [thenK,blockK,noGotoK]))
      ((first | refine qS rfl rfl ?_ | refine qR rfl rfl ?_); simp only [go_sem,↓dP,↓reduceIte]; with_reducible and_intros; all_goals first | apply qA | exact ⟨⟩ | rfl | (intros; apply qB; first | kernel_rfl | omega) | omega | skip)
      (try dsimp only [thenK,blockK,noGotoK])
      refine ⟨trivial,?_⟩
      rw [fromC_succ,outC_succ,if_neg hb',if_neg hb']
      (refine Sub.of ([]) ([some 0]) ?_ ?_ ?_ rfl rfl <;> simp only [subB,subB1,subT,subT1,newT,subE,subV,subL,go_sem,↓dP,↓reduceIte] <;> (try (repeat' with_reducible apply And.intro)) <;> (try first | exact DEq.refl _ | refine DEq.int ?_ | refine DEq.bool ?_ | omega))
      exact fun _ _ _ _ => DEq.refl _
  · intro _
    have hf:=fromC_le c s s.length
    have ho:=outC_len c s s.length
    have hsp:=outC_spl c s s.length (Nat.le_refl _)
    rw [List.take_length] at hsp
    refine Ok.seq ?_; (((first | refine qS rfl rfl ?_ | refine qR rfl rfl ?_); simp only [go_sem,↓dP,↓reduceIte]; with_reducible and_intros; all_goals first | apply qA | exact ⟨⟩ | rfl | (intros; apply qB; first | kernel_rfl | omega) | omega | skip)); refine Ok.cond rfl (fun hb => by simp at hb) (fun _ => ?_); (refine Ok.exit ?_; simp only [thenK_exit,blockK_exit,noGotoK_exit,thenK_normal,blockK_normal,noGotoK_normal,↓reduceIte,Nat.reduceEqDiff])
    ((first | refine qS rfl rfl ?_ | refine qR rfl rfl ?_); simp only [go_sem,↓dP,↓reduceIte]; with_reducible and_intros; all_goals first | apply qA | exact ⟨⟩ | rfl | (intros; apply qB; first | kernel_rfl | omega) | omega | skip)
    (refine Ok.ret ?_; (try dsimp only [thenK,blockK,noGotoK]); simp only [toList_mk,List.toList_toArray,retK_ret,retK_normal,resOK,resV,celV,rowV,frzAll,frzT,subV,subL,go_sem,↓dP,↓reduceIte])
    rw [hsp,List.take_length]
    exact DEq.sl (by simp) (fun i j hi hj => snoc_D (str_snoc _) i j hi hj)
end Go.Proofs.Sight
namespace Go.Proofs.Sight
open Go Go.RX Go.Proofs
set_option maxRecDepth 10000
theorem tdivM (n : Nat) : (-(n : Int)).tdiv 10 = -((n / 10 : Nat) : Int):=by rw [Int.neg_tdiv,tdivN]
theorem tmodM (n : Nat) : (-(n : Int)).tmod 10 = -((n % 10 : Nat) : Int):=by rw [Int.neg_tmod,tmodN]
theorem c138n : ∀ n : Nat,1 ≤ n → n < 1000000 → Ctr Tryz.prog 111 [iS (-(n : Int))] (.d (.str (45 :: Lib.decDigits n))):=by
  intro n
  induction n using Nat.strongRecOn with
  | _ n ih =>
  intro h1 hn
  (refine Ctr.mk (fn:=Tryz.f111) rfl rfl rfl rfl rfl Tryz.results111 ?_; dsimp only [args,List.toList_toArray])
  ((first | refine qS rfl rfl ?_ | refine qR rfl rfl ?_); simp only [go_sem,↓dP,↓reduceIte]; with_reducible and_intros; all_goals first | apply qA | exact ⟨⟩ | rfl | (intros; apply qB; first | kernel_rfl | omega) | omega | skip)
  refine Ok.seq ?_
  ((first | refine qS rfl rfl ?_ | refine qR rfl rfl ?_); simp only [go_sem,↓dP,↓reduceIte]; with_reducible and_intros; all_goals first | apply qA | exact ⟨⟩ | rfl | (intros; apply qB; first | kernel_rfl | omega) | omega | skip)
  refine Ok.cond rfl ?_ ?_
  · intro hb
    have hb' : n < 10:=by simp at hb; omega
    ((first | refine qS rfl rfl ?_ | refine qR rfl rfl ?_); simp only [go_sem,↓dP,↓reduceIte]; with_reducible and_intros; all_goals first | apply qA | exact ⟨⟩ | rfl | (intros; apply qB; first | kernel_rfl | omega) | omega | skip)
    · exact R8 (by omega) (by omega)
    · exact byt_p (by omega) (by omega)
    · rw [byt_s _ (48 + n) (by omega)]
      simp only [strRoom,List.length_cons,List.length_nil]
      omega
    (refine Ok.ret ?_; (try dsimp only [thenK,blockK,noGotoK]); simp only [toList_mk,List.toList_toArray,retK_ret,retK_normal,resOK,resV,celV,rowV,frzAll,frzT,subV,subL,go_sem,↓dP,↓reduceIte])
    refine DEq.str ?_
    rw [byt_s _ (48 + n) (by omega),Lib.decDigits,dif_pos hb']
  · intro hb
    have hb' : ¬ n < 10:=fun h => by simp at hb; omega
    (refine Ok.skip ?_; (try dsimp only [thenK,blockK,noGotoK]))
    refine Ok.seq ?_
    ((first | refine qS rfl rfl ?_ | refine qR rfl rfl ?_); simp only [go_sem,↓dP,↓reduceIte]; with_reducible and_intros; all_goals first | apply qA | exact ⟨⟩ | rfl | (intros; apply qB; first | kernel_rfl | omega) | omega | skip)
    refine Ok.cond rfl (fun _ => ?_) (fun hb => by simp at hb; omega)
    ((first | refine qS rfl rfl ?_ | refine qR rfl rfl ?_); simp only [go_sem,↓dP,↓reduceIte]; with_reducible and_intros; all_goals first | apply qA | exact ⟨⟩ | rfl | (intros; apply qB; first | kernel_rfl | omega) | omega | skip)
    · rw [tdivM]; exact R64 (by omega) (by omega)
    rw [tdivM]
    (refine AskI.ret (ih (n / 10) (by omega) (by omega) (by omega)) ?_; simp only [go_sem,↓dP,↓reduceIte]; with_reducible and_intros; all_goals first | apply qA | exact ⟨⟩ | rfl | (intros; apply qB; first | kernel_rfl | omega) | omega | skip)
    · rw [tmodM]; exact R64 (by omega) (by omega)
    · rw [tmodM]; exact R8 (by omega) (by omega)
    · rw [tmodM]; exact byt_p (by omega) (by omega)
    · rw [tmodM,byt_s _ (48 + n % 10) (by omega)]
      have:=decLen (n / 10) (by omega)
      simp only [strRoom,List.length_cons,List.length_nil]
      omega
    (refine Ok.ret ?_; (try dsimp only [thenK,blockK,noGotoK]); simp only [toList_mk,List.toList_toArray,retK_ret,retK_normal,resOK,resV,celV,rowV,frzAll,frzT,subV,subL,go_sem,↓dP,↓reduceIte])
    refine DEq.str ?_
    rw [tmodM,byt_s _ (48 + n % 10) (by omega)]
    conv => rhs; rw [Lib.decDigits,dif_neg hb']
def sgnW (w : List UInt8) : Int:=if w.getD 0 0 = 45 then -1 else 1
def bodW (w : List UInt8) : List UInt8:=if w.getD 0 0 = 45 then w.drop 1 else w
def rnum (w : List UInt8) : Int × Bool :=
  if (bodW w).length < 1 ∨ 3 < (bodW w).length then (0,false)
  else if (bodW w).all digit then (sgnW w * (numL (bodW w) : Nat),Lib.itoa (sgnW w * (numL (bodW w) : Nat)) == w)
  else (0,false)
theorem c138z (z : Int) (h0 : -1000 < z) (h1 : z < 1000) : Ctr Tryz.prog 111 [iS z] (.d (.str (Lib.itoa z))):=by
  by_cases h : z < 0
  · obtain ⟨u,rfl⟩ : ∃ u : Nat,z = -(u : Int):=⟨z.natAbs,by omega⟩
    rw [Lib.itoa_neg u (by omega)]
    exact c138n u (by omega) (by omega)
  · obtain ⟨u,rfl⟩ : ∃ u : Nat,z = (u : Int):=⟨z.toNat,by omega⟩
    rw [Lib.itoa_nonneg]
    exact c138 u (by omega)
theorem rnum_ok (w : List UInt8) : ((rnum w).2 = true ∧ 0 ≤ (rnum w).1) ↔ isNum w:=by
  unfold rnum
  constructor
  · rintro ⟨h,h0⟩
    split at h
    · cases h
    · rename_i hl
      rw [if_neg hl] at h0
      split at h
      · rename_i hd
        rw [if_pos hd] at h0
        simp only [beq_iff_eq] at h
        simp only at h0
        by_cases hm : w.getD 0 0 = 45
        · simp only [sgnW,if_pos hm] at h h0
          have hz : numL (bodW w) = 0:=by omega
          rw [hz] at h
          have e : (-1 : Int) * ((0 : Nat) : Int) = ((0 : Nat) : Int):=by decide
          rw [e,Lib.itoa_nonneg,Lib.decDigits_one (by decide)] at h
          rw [← h] at hm
          exact absurd hm (by decide)
        · simp only [sgnW,bodW,if_neg hm,Int.one_mul] at h hl hd
          refine ⟨fun e => by subst e; simp at hl,fun b hb => ?_,by omega,h⟩
          simp only [List.all_eq_true] at hd
          exact hd b hb
      · cases h
  · intro h
    have hm : w.getD 0 0 ≠ 45:=by
      intro e
      obtain ⟨b,r,rfl⟩ : ∃ b r,w = b :: r:=by
        cases w with
        | nil => exact (h.1 rfl).elim
        | cons b r => exact ⟨b,r,rfl⟩
      have:=h.2.1 b (List.mem_cons_self ..)
      simp at e
      subst e
      revert this; decide
    have hl : ¬ ((bodW w).length < 1 ∨ 3 < (bodW w).length):=by
      simp only [bodW,if_neg hm]
      have h1:=h.2.2.1
      have h2 : 0 < w.length:=List.length_pos_iff.2 h.1
      omega
    have hd : (bodW w).all digit = true:=by
      simp only [bodW,if_neg hm,List.all_eq_true]
      exact h.2.1
    rw [if_neg hl,if_pos hd]
    simp only [sgnW,bodW,if_neg hm,Int.one_mul,beq_iff_eq]
    exact ⟨h.2.2.2,by omega⟩
theorem rnum_val {w : List UInt8} (h : isNum w) : rnum w = (((numL w : Nat) : Int),true):=by
  have hm : w.getD 0 0 ≠ 45:=by
    intro e
    obtain ⟨b,r,rfl⟩ : ∃ b r,w = b :: r:=by
      cases w with
      | nil => exact (h.1 rfl).elim
      | cons b r => exact ⟨b,r,rfl⟩
    have:=h.2.1 b (List.mem_cons_self ..)
    simp at e
    subst e
    revert this; decide
  have hl : ¬ ((bodW w).length < 1 ∨ 3 < (bodW w).length):=by
    simp only [bodW,if_neg hm]
    have h1:=h.2.2.1
    have h2 : 0 < w.length:=List.length_pos_iff.2 h.1
    omega
  have hd : (bodW w).all digit = true:=by
    simp only [bodW,if_neg hm,List.all_eq_true]
    exact h.2.1
  unfold rnum
  rw [if_neg hl,if_pos hd]
  simp only [sgnW,bodW,if_neg hm,Int.one_mul]
  rw [h.2.2.2]
  simp
theorem Ok.join {P : Program} {N : Nat} {x y : Code} {σ σ' : Sy} {K : Exit → Sy → Prop} {Kp : DV → Prop} (h1 : Ok P N x σ (thenK (fun s => Sub s σ') K) Kp) (h2 : Ok P N y σ' K Kp) : Ok P N (.seq x y) σ K Kp :=
  Ok.seq (h1.mono (fun e s hk => by
    cases e with
    | normal => exact Ok.sub hk h2
    | _ => exact hk) (fun _ h => h))
theorem c155 (w : List UInt8) (hw : w.length ≤ 1000) : Ctr Tryz.prog 130 [.d (.str w),iS 3] (.tup [iS (rnum w).1,bS (rnum w).2]):=by
  generalize hrn : rnum w = p
  unfold rnum at hrn
  (refine Ctr.mk (fn:=Tryz.f130) rfl rfl rfl rfl rfl Tryz.results130 ?_; dsimp only [args,List.toList_toArray])
  ((first | refine qS rfl rfl ?_ | refine qR rfl rfl ?_); simp only [go_sem,↓dP,↓reduceIte]; with_reducible and_intros; all_goals first | apply qA | exact ⟨⟩ | rfl | (intros; apply qB; first | kernel_rfl | omega) | omega | skip)
  ((first | refine qS rfl rfl ?_ | refine qR rfl rfl ?_); simp only [go_sem,↓dP,↓reduceIte]; with_reducible and_intros; all_goals first | apply qA | exact ⟨⟩ | rfl | (intros; apply qB; first | kernel_rfl | omega) | omega | skip)
  refine Ok.join (σ':=⟨[(0,.d (.str w)),(1,iS 3),(6,iS (sgnW w)),(7,.d (.str (bodW w)))],[],[]⟩) ?_ ?_
  · ((first | refine qS rfl rfl ?_ | refine qR rfl rfl ?_); simp only [go_sem,↓dP,↓reduceIte]; with_reducible and_intros; all_goals first | apply qA | exact ⟨⟩ | rfl | (intros; apply qB; first | kernel_rfl | omega) | omega | skip)
    · intro h; simpa using h
    refine Ok.cond rfl (fun hb => ?_) (fun hb => ?_)
    · have hb' : 0 < w.length ∧ (w.getD 0 0).toNat = 45:=by
        simp only [Bool.and_eq_true,decide_eq_true_eq,beq_iff_eq] at hb
        omega
      have hm : w.getD 0 0 = 45:=UInt8.toNat_inj.1 hb'.2
      ((first | refine qS rfl rfl ?_ | refine qR rfl rfl ?_); simp only [go_sem,↓dP,↓reduceIte]; with_reducible and_intros; all_goals first | apply qA | exact ⟨⟩ | rfl | (intros; apply qB; first | kernel_rfl | omega) | omega | skip)
      (try dsimp only [thenK,blockK,noGotoK])
      simp only [sgnW,bodW,if_pos hm]
      (refine Sub.of ([]) ([]) ?_ ?_ ?_ rfl rfl <;> simp only [subB,subB1,subT,subT1,newT,subE,subV,subL,go_sem,↓dP,↓reduceIte] <;> (try (repeat' with_reducible apply And.intro)) <;> (try first | exact DEq.refl _ | refine DEq.int ?_ | refine DEq.bool ?_ | omega))
      rw [List.take_length]
      exact .refl _
    · have hm : w.getD 0 0 ≠ 45:=fun e => by
        have h0 : 0 < w.length:=by
          rcases Nat.eq_zero_or_pos w.length with h | h
          · rw [List.length_eq_zero_iff.1 h] at e; exact absurd e (by decide)
          · exact h
        rw [e] at hb
        simp only [Bool.and_eq_false_iff,decide_eq_false_iff_not] at hb
        rcases hb with hb | hb
        · omega
        · exact absurd hb (by decide)
      (refine Ok.skip ?_; (try dsimp only [thenK,blockK,noGotoK]))
      simp only [sgnW,bodW,if_neg hm]
      (refine Sub.of ([]) ([]) ?_ ?_ ?_ rfl rfl <;> simp only [subB,subB1,subT,subT1,newT,subE,subV,subL,go_sem,↓dP,↓reduceIte] <;> (try (repeat' with_reducible apply And.intro)) <;> (try first | exact DEq.refl _ | refine DEq.int ?_ | refine DEq.bool ?_ | omega))
  have hbl : (bodW w).length ≤ w.length:=by
    unfold bodW
    split
    · rw [List.length_drop]; omega
    · omega
  have hsg : sgnW w = 1 ∨ sgnW w = -1:=by unfold sgnW; split <;> simp
  generalize bodW w = b at hbl hrn
  generalize sgnW w = g at hrn hsg
  refine Ok.seq ?_
  ((first | refine qS rfl rfl ?_ | refine qR rfl rfl ?_); simp only [go_sem,↓dP,↓reduceIte]; with_reducible and_intros; all_goals first | apply qA | exact ⟨⟩ | rfl | (intros; apply qB; first | kernel_rfl | omega) | omega | skip)
  refine Ok.cond rfl (fun hb => ?_) (fun hb => ?_)
  · have hb' : b.length < 1 ∨ 3 < b.length:=by
      simp at hb
      omega
    rw [if_pos hb'] at hrn
    ((first | refine qS rfl rfl ?_ | refine qR rfl rfl ?_); simp only [go_sem,↓dP,↓reduceIte]; with_reducible and_intros; all_goals first | apply qA | exact ⟨⟩ | rfl | (intros; apply qB; first | kernel_rfl | omega) | omega | skip)
    (refine Ok.ret ?_; (try dsimp only [thenK,blockK,noGotoK]); simp only [toList_mk,List.toList_toArray,retK_ret,retK_normal,resOK,resV,celV,rowV,frzAll,frzT,subV,subL,go_sem,↓dP,↓reduceIte])
    subst hrn
    exact ⟨.refl _,.refl _⟩
  have hb' : ¬ (b.length < 1 ∨ 3 < b.length):=by
    simp at hb
    omega
  rw [if_neg hb'] at hrn
  (refine Ok.skip ?_; (try dsimp only [thenK,blockK,noGotoK]))
  ((first | refine qS rfl rfl ?_ | refine qR rfl rfl ?_); simp only [go_sem,↓dP,↓reduceIte]; with_reducible and_intros; all_goals first | apply qA | exact ⟨⟩ | rfl | (intros; apply qB; first | kernel_rfl | omega) | omega | skip)
  refine Ok.seq ?_
  ((first | refine qS rfl rfl ?_ | refine qR rfl rfl ?_); simp only [go_sem,↓dP,↓reduceIte]; with_reducible and_intros; all_goals first | apply qA | exact ⟨⟩ | rfl | (intros; apply qB; first | kernel_rfl | omega) | omega | skip)
  refine Ok.block ?_
  refine Ok.count b.length (fun i => ⟨[(0,.d (.str w)),(1,iS 3),(6,iS g),(7,.d (.str b)),(8,iS (numL (b.take i) : Nat)),(9,iS i)],[],[]⟩) (fun i => ∀ k,k < i → digit (b.getD k 0) = true) ⟨fun k hk => by omega,?_⟩ ?_ ?_
  · (refine Sub.of ([]) ([]) ?_ ?_ ?_ rfl rfl <;> simp only [subB,subB1,subT,subT1,newT,subE,subV,subL,go_sem,↓dP,↓reduceIte] <;> (try (repeat' with_reducible apply And.intro)) <;> (try first | exact DEq.refl _ | refine DEq.int ?_ | refine DEq.bool ?_ | omega))
  · intro i hi hj
    refine Ok.seq ?_; (((first | refine qS rfl rfl ?_ | refine qR rfl rfl ?_); simp only [go_sem,↓dP,↓reduceIte]; with_reducible and_intros; all_goals first | apply qA | exact ⟨⟩ | rfl | (intros; apply qB; first | kernel_rfl | omega) | omega | skip)); refine Ok.cond rfl (fun _ => ?_) (fun hb => by simp at hb; omega); (refine Ok.skip ?_; (try dsimp only [thenK,blockK,noGotoK])); refine Ok.seq ?_; refine Ok.block ?_
    refine Ok.seq ?_
    ((first | refine qS rfl rfl ?_ | refine qR rfl rfl ?_); simp only [go_sem,↓dP,↓reduceIte]; with_reducible and_intros; all_goals first | apply qA | exact ⟨⟩ | rfl | (intros; apply qB; first | kernel_rfl | omega) | omega | skip)
    refine Ok.cond rfl (fun hb => ?_) (fun hb => ?_)
    · have hd : digit (b.getD i 0) = false:=by
        simp only [digit,Bool.and_eq_false_iff,decide_eq_false_iff_not]
        simp only [Bool.or_eq_true,decide_eq_true_eq] at hb
        omega
      have ha : ¬ b.all digit = true:=fun h => by
        rw [List.all_eq_true] at h
        have:=h _ (getD_mem hi)
        rw [← getD0,hd] at this
        cases this
      rw [if_neg ha] at hrn
      ((first | refine qS rfl rfl ?_ | refine qR rfl rfl ?_); simp only [go_sem,↓dP,↓reduceIte]; with_reducible and_intros; all_goals first | apply qA | exact ⟨⟩ | rfl | (intros; apply qB; first | kernel_rfl | omega) | omega | skip)
      (refine Ok.ret ?_; (try dsimp only [thenK,blockK,noGotoK]); simp only [toList_mk,List.toList_toArray,retK_ret,retK_normal,resOK,resV,celV,rowV,frzAll,frzT,subV,subL,go_sem,↓dP,↓reduceIte])
      subst hrn
      exact ⟨.refl _,.refl _⟩
    · have hd : 48 ≤ (b.getD i 0).toNat ∧ (b.getD i 0).toNat ≤ 57:=by
        simp only [Bool.or_eq_false_iff,decide_eq_false_iff_not] at hb
        omega
      have hdg : digit (b.getD i 0) = true:=by
        simp only [digit,Bool.and_eq_true,decide_eq_true_eq]
        exact hd
      have hnl:=numL_lt' b i hj (by omega)
      have hpow : 10 ^ i ≤ 100:=by
        have:=Nat.pow_le_pow_right (n:=10) (by decide) (show i ≤ 2 by omega)
        simpa using this
      have hns : numL (b.take (i + 1)) = 10 * numL (b.take i) + ((b.getD i 0).toNat - 48):=by rw [getD_take hi,numL_snoc]; rfl
      generalize hB : (b.getD i 0).toNat = q at hd hns
      (refine Ok.skip ?_; (try dsimp only [thenK,blockK,noGotoK]))
      ((first | refine qS rfl rfl ?_ | refine qR rfl rfl ?_); simp only [go_sem,↓dP,↓reduceIte]; with_reducible and_intros; all_goals first | apply qA | exact ⟨⟩ | rfl | (intros; apply qB; first | kernel_rfl | omega) | omega | skip)
      · exact R8 (by omega) (by omega)
      (try dsimp only [thenK,blockK,noGotoK])
      ((first | refine qS rfl rfl ?_ | refine qR rfl rfl ?_); simp only [go_sem,↓dP,↓reduceIte]; with_reducible and_intros; all_goals first | apply qA | exact ⟨⟩ | rfl | (intros; apply qB; first | kernel_rfl | omega) | omega | skip)
      (try dsimp only [thenK,blockK,noGotoK])
      refine ⟨fun k hk => ?_,?_⟩
      · by_cases h : k < i
        · exact hj k h
        · have : k = i:=by omega
          subst this
          exact hdg
      · (refine Sub.of ([]) ([]) ?_ ?_ ?_ rfl rfl <;> simp only [subB,subB1,subT,subT1,newT,subE,subV,subL,go_sem,↓dP,↓reduceIte] <;> (try (repeat' with_reducible apply And.intro)) <;> (try first | exact DEq.refl _ | refine DEq.int ?_ | refine DEq.bool ?_ | omega))
        rw [hns]; omega
  · intro hj
    have ha : b.all digit = true:=by
      rw [List.all_eq_true]
      intro x hx
      obtain ⟨k,hk,rfl⟩:=List.mem_iff_getElem.1 hx
      have:=hj k hk
      rw [getD0,getD_lt hk] at this
      exact this
    rw [if_pos ha] at hrn
    have hnl:=numL_lt' b b.length hj (Nat.le_refl _)
    rw [List.take_length] at hnl
    have hpow : 10 ^ b.length ≤ 10 ^ 3:=Nat.pow_le_pow_right (n:=10) (by decide) (by omega)
    refine Ok.seq ?_; (((first | refine qS rfl rfl ?_ | refine qR rfl rfl ?_); simp only [go_sem,↓dP,↓reduceIte]; with_reducible and_intros; all_goals first | apply qA | exact ⟨⟩ | rfl | (intros; apply qB; first | kernel_rfl | omega) | omega | skip)); refine Ok.cond rfl (fun hb => by simp at hb) (fun _ => ?_); (refine Ok.exit ?_; simp only [thenK_exit,blockK_exit,noGotoK_exit,thenK_normal,blockK_normal,noGotoK_normal,↓reduceIte,Nat.reduceEqDiff])
    rw [List.take_length]
    have hgn : -1000 < g * (numL b : Nat) ∧ g * (numL b : Nat) < 1000:=by
      rcases hsg with rfl | rfl <;> omega
    ((first | refine qS rfl rfl ?_ | refine qR rfl rfl ?_); simp only [go_sem,↓dP,↓reduceIte]; with_reducible and_intros; all_goals first | apply qA | exact ⟨⟩ | rfl | (intros; apply qB; first | kernel_rfl | omega) | omega | skip)
    (refine AskI.ret (c138z _ hgn.1 hgn.2) ?_; simp only [go_sem,↓dP,↓reduceIte]; with_reducible and_intros; all_goals first | apply qA | exact ⟨⟩ | rfl | (intros; apply qB; first | kernel_rfl | omega) | omega | skip)
    (refine Ok.ret ?_; (try dsimp only [thenK,blockK,noGotoK]); simp only [toList_mk,List.toList_toArray,retK_ret,retK_normal,resOK,resV,celV,rowV,frzAll,frzT,subV,subL,go_sem,↓dP,↓reduceIte])
    subst hrn
    exact ⟨.refl _,.refl _⟩
def rnums (ws : List (List UInt8)) : List Int:=ws.map (fun w => (rnum w).1)
def rall (ws : List (List UInt8)) : Bool:=ws.all (fun w => (rnum w).2)
theorem c139 (ws : List (List UInt8)) (hl : ws.length ≤ 1000) (hw : ∀ w ∈ ws,w.length ≤ 1000) : Ctr Tryz.prog 112 [.d (strsD ws),iS 3] (.tup [.d (slD 1 intD (if rall ws then rnums ws else [])),bS (rall ws)]):=by
  (refine Ctr.mk (fn:=Tryz.f112) rfl rfl rfl rfl rfl Tryz.results112 ?_; dsimp only [args,List.toList_toArray])
  ((first | refine qS rfl rfl ?_ | refine qR rfl rfl ?_); simp only [go_sem,↓dP,↓reduceIte]; with_reducible and_intros; all_goals first | apply qA | exact ⟨⟩ | rfl | (intros; apply qB; first | kernel_rfl | omega) | omega | skip)
  ((first | refine qS rfl rfl ?_ | refine qR rfl rfl ?_); simp only [go_sem,↓dP,↓reduceIte]; with_reducible and_intros; all_goals first | apply qA | exact ⟨⟩ | rfl | (intros; apply qB; first | kernel_rfl | omega) | omega | skip)
  refine Ok.seq ?_
  ((first | refine qS rfl rfl ?_ | refine qR rfl rfl ?_); simp only [go_sem,↓dP,↓reduceIte]; with_reducible and_intros; all_goals first | apply qA | exact ⟨⟩ | rfl | (intros; apply qB; first | kernel_rfl | omega) | omega | skip)
  refine Ok.block ?_
  refine Ok.count ws.length (fun i => ⟨[(0,.d (strsD ws)),(1,iS 3),(6,.tk 0),(7,iS i)],[],[ownD 3 1 intD (rnums (ws.take i))]⟩) (fun i => ∀ k,k < i → (rnum (ws.getD k default)).2 = true) ⟨fun k hk => by omega,?_⟩ ?_ ?_
  · (refine Sub.of ([]) ([none]) ?_ ?_ ?_ rfl rfl <;> simp only [subB,subB1,subT,subT1,newT,subE,subV,subL,go_sem,↓dP,↓reduceIte] <;> (try (repeat' with_reducible apply And.intro)) <;> (try first | exact DEq.refl _ | refine DEq.int ?_ | refine DEq.bool ?_ | omega))
    rfl
  · intro i hi hj
    have hlen : (rnums (ws.take i)).length = i:=by rw [rnums,List.length_map,List.length_take]; omega
    have hsn : rnums (ws.take (i + 1)) = rnums (ws.take i) ++ [(rnum (ws.getD i default)).1]:=by rw [rnums,rnums,getD_take hi,List.map_append]; rfl
    refine Ok.seq ?_; (((first | refine qS rfl rfl ?_ | refine qR rfl rfl ?_); simp only [go_sem,↓dP,↓reduceIte]; with_reducible and_intros; all_goals first | apply qA | exact ⟨⟩ | rfl | (intros; apply qB; first | kernel_rfl | omega) | omega | skip)); refine Ok.cond rfl (fun _ => ?_) (fun hb => by simp at hb; omega); (refine Ok.skip ?_; (try dsimp only [thenK,blockK,noGotoK])); refine Ok.seq ?_; refine Ok.block ?_
    ((first | refine qS rfl rfl ?_ | refine qR rfl rfl ?_); simp only [go_sem,↓dP,↓reduceIte]; with_reducible and_intros; all_goals first | apply qA | exact ⟨⟩ | rfl | (intros; apply qB; first | kernel_rfl | omega) | omega | skip)
    (refine AskI.ret (c155 (ws.getD i default) (hw _ (getD_mem hi))) ?_; simp only [go_sem,↓dP,↓reduceIte]; with_reducible and_intros; all_goals first | apply qA | exact ⟨⟩ | rfl | (intros; apply qB; first | kernel_rfl | omega) | omega | skip)
    refine Ok.seq ?_
    ((first | refine qS rfl rfl ?_ | refine qR rfl rfl ?_); simp only [go_sem,↓dP,↓reduceIte]; with_reducible and_intros; all_goals first | apply qA | exact ⟨⟩ | rfl | (intros; apply qB; first | kernel_rfl | omega) | omega | skip)
    refine Ok.cond rfl ?_ ?_
    · intro hb
      have hf : rall ws = false:=by
        rw [Bool.eq_false_iff]
        intro h
        rw [rall,List.all_eq_true] at h
        have:=h _ (getD_mem hi)
        rw [this] at hb
        simp at hb
      rw [hf]
      ((first | refine qS rfl rfl ?_ | refine qR rfl rfl ?_); simp only [go_sem,↓dP,↓reduceIte]; with_reducible and_intros; all_goals first | apply qA | exact ⟨⟩ | rfl | (intros; apply qB; first | kernel_rfl | omega) | omega | skip)
      (refine Ok.ret ?_; (try dsimp only [thenK,blockK,noGotoK]); simp only [toList_mk,List.toList_toArray,retK_ret,retK_normal,resOK,resV,celV,rowV,frzAll,frzT,subV,subL,go_sem,↓dP,↓reduceIte])
      exact ⟨DEq.nils rfl,.refl _⟩
    · intro hb
      have hok : (rnum (ws.getD i default)).2 = true:=by simpa using hb
      (refine Ok.skip ?_; (try dsimp only [thenK,blockK,noGotoK]))
      ((first | refine qS rfl rfl ?_ | refine qR rfl rfl ?_); simp only [go_sem,↓dP,↓reduceIte]; with_reducible and_intros; all_goals first | apply qA | exact ⟨⟩ | rfl | (intros; apply qB; first | kernel_rfl | omega) | omega | skip)
      (try dsimp only [thenK,blockK,noGotoK])
      ((first | refine qS rfl rfl ?_ | refine qR rfl rfl ?_); simp only [go_sem,↓dP,↓reduceIte]; with_reducible and_intros; all_goals first | apply qA | exact ⟨⟩ | rfl | (intros; apply qB; first | kernel_rfl | omega) | omega | skip)
      (try dsimp only [thenK,blockK,noGotoK])
      refine ⟨fun k hk => ?_,?_⟩
      · by_cases h : k < i
        · exact hj k h
        · have : k = i:=by omega
          subst this
          exact hok
      · (refine Sub.of ([]) ([some 1]) ?_ ?_ ?_ rfl rfl <;> simp only [subB,subB1,subT,subT1,newT,subE,subV,subL,go_sem,↓dP,↓reduceIte] <;> (try (repeat' with_reducible apply And.intro)) <;> (try first | exact DEq.refl _ | refine DEq.int ?_ | refine DEq.bool ?_ | omega))
        · rw [hsn]; simp
        · rw [hsn]
          exact snoc_D (fun c hc => by have : c = 0:=by omega
                                       subst this; rfl)
  · intro hj
    have ht : rall ws = true:=by
      rw [rall,List.all_eq_true]
      intro x hx
      obtain ⟨k,hk,rfl⟩:=List.mem_iff_getElem.1 hx
      have:=hj k hk
      rw [getD_lt hk] at this
      exact this
    rw [ht]
    refine Ok.seq ?_; (((first | refine qS rfl rfl ?_ | refine qR rfl rfl ?_); simp only [go_sem,↓dP,↓reduceIte]; with_reducible and_intros; all_goals first | apply qA | exact ⟨⟩ | rfl | (intros; apply qB; first | kernel_rfl | omega) | omega | skip)); refine Ok.cond rfl (fun hb => by simp at hb) (fun _ => ?_); (refine Ok.exit ?_; simp only [thenK_exit,blockK_exit,noGotoK_exit,thenK_normal,blockK_normal,noGotoK_normal,↓reduceIte,Nat.reduceEqDiff])
    ((first | refine qS rfl rfl ?_ | refine qR rfl rfl ?_); simp only [go_sem,↓dP,↓reduceIte]; with_reducible and_intros; all_goals first | apply qA | exact ⟨⟩ | rfl | (intros; apply qB; first | kernel_rfl | omega) | omega | skip)
    (refine Ok.ret ?_; (try dsimp only [thenK,blockK,noGotoK]); simp only [toList_mk,List.toList_toArray,retK_ret,retK_normal,resOK,resV,celV,rowV,frzAll,frzT,subV,subL,go_sem,↓dP,↓reduceIte])
    rw [List.take_length]
    exact ⟨.refl _,.refl _⟩
def rpl (ws : List (List UInt8)) : Bool:=rall ws && (rnums ws).all (fun n => decide (0 ≤ n))
theorem rpl_ok (ws : List (List UInt8)) : rpl ws = true ↔ ∀ w ∈ ws,isNum w:=by
  simp only [rpl,rall,rnums,Bool.and_eq_true,List.all_eq_true,List.mem_map,decide_eq_true_eq]
  constructor
  · rintro ⟨h1,h2⟩ w hw
    exact (rnum_ok w).1 ⟨h1 w hw,h2 _ ⟨w,hw,rfl⟩⟩
  · intro h
    refine ⟨fun w hw => ((rnum_ok w).2 (h w hw)).1,?_⟩
    rintro n ⟨w,hw,rfl⟩
    exact ((rnum_ok w).2 (h w hw)).2
def rlist (ws : List (List UInt8)) : List Int:=if rall ws then rnums ws else []
theorem rlist_ok {ws : List (List UInt8)} (h : rpl ws = true) : rlist ws = ws.map (fun w => ((numL w : Nat) : Int)):=by
  have hn:=(rpl_ok ws).1 h
  have ha : rall ws = true:=by
    simp only [rpl,Bool.and_eq_true] at h
    exact h.1
  rw [rlist,if_pos ha,rnums]
  exact List.map_congr_left (fun w hw => by rw [rnum_val (hn w hw)])
theorem rlist_len (ws : List (List UInt8)) : (rlist ws).length ≤ ws.length:=by
  unfold rlist
  split
  · rw [rnums,List.length_map]; omega
  · simp
theorem c111 (ws : List (List UInt8)) (hl : ws.length ≤ 1000) (hw : ∀ w ∈ ws,w.length ≤ 1000) : Ctr Tryz.prog 75 [.d (strsD ws),iS 3] (.tup [.d (slD 1 intD (rlist ws)),bS (rpl ws)]):=by
  have h139:=c139 ws hl hw
  have hll:=rlist_len ws
  have hpl : rpl ws = (rall ws && (rlist ws).all (fun n => decide (0 ≤ n))):=by
    unfold rpl rlist
    cases h : rall ws <;> simp
  rw [show (if rall ws then rnums ws else []) = rlist ws from rfl] at h139
  rw [hpl]
  generalize rlist ws = l at *
  generalize rall ws = a at *
  (refine Ctr.mk (fn:=Tryz.f75) rfl rfl rfl rfl rfl Tryz.results75 ?_; dsimp only [args,List.toList_toArray])
  ((first | refine qS rfl rfl ?_ | refine qR rfl rfl ?_); simp only [go_sem,↓dP,↓reduceIte]; with_reducible and_intros; all_goals first | apply qA | exact ⟨⟩ | rfl | (intros; apply qB; first | kernel_rfl | omega) | omega | skip)
  ((first | refine qS rfl rfl ?_ | refine qR rfl rfl ?_); simp only [go_sem,↓dP,↓reduceIte]; with_reducible and_intros; all_goals first | apply qA | exact ⟨⟩ | rfl | (intros; apply qB; first | kernel_rfl | omega) | omega | skip)
  (refine AskI.ret (h139) ?_; simp only [go_sem,↓dP,↓reduceIte]; with_reducible and_intros; all_goals first | apply qA | exact ⟨⟩ | rfl | (intros; apply qB; first | kernel_rfl | omega) | omega | skip)
  refine Ok.seq ?_
  ((first | refine qS rfl rfl ?_ | refine qR rfl rfl ?_); simp only [go_sem,↓dP,↓reduceIte]; with_reducible and_intros; all_goals first | apply qA | exact ⟨⟩ | rfl | (intros; apply qB; first | kernel_rfl | omega) | omega | skip)
  refine Ok.block ?_
  refine Ok.count l.length (fun i => ⟨[(6,.d (slD 1 intD l)),(7,bS (a && (l.take i).all (fun n => decide (0 ≤ n)))),(8,iS i)],[],[]⟩) (fun i => True) ⟨trivial,?_⟩ ?_ ?_
  · (refine Sub.of ([]) ([]) ?_ ?_ ?_ rfl rfl <;> simp only [subB,subB1,subT,subT1,newT,subE,subV,subL,go_sem,↓dP,↓reduceIte] <;> (try (repeat' with_reducible apply And.intro)) <;> (try first | exact DEq.refl _ | refine DEq.int ?_ | refine DEq.bool ?_ | omega))
  · intro i hi _
    refine Ok.seq ?_; (((first | refine qS rfl rfl ?_ | refine qR rfl rfl ?_); simp only [go_sem,↓dP,↓reduceIte]; with_reducible and_intros; all_goals first | apply qA | exact ⟨⟩ | rfl | (intros; apply qB; first | kernel_rfl | omega) | omega | skip)); refine Ok.cond rfl (fun _ => ?_) (fun hb => by simp at hb; omega); (refine Ok.skip ?_; (try dsimp only [thenK,blockK,noGotoK])); refine Ok.seq ?_; refine Ok.block ?_
    ((first | refine qS rfl rfl ?_ | refine qR rfl rfl ?_); simp only [go_sem,↓dP,↓reduceIte]; with_reducible and_intros; all_goals first | apply qA | exact ⟨⟩ | rfl | (intros; apply qB; first | kernel_rfl | omega) | omega | skip)
    (try dsimp only [thenK,blockK,noGotoK])
    ((first | refine qS rfl rfl ?_ | refine qR rfl rfl ?_); simp only [go_sem,↓dP,↓reduceIte]; with_reducible and_intros; all_goals first | apply qA | exact ⟨⟩ | rfl | (intros; apply qB; first | kernel_rfl | omega) | omega | skip)
    (try dsimp only [thenK,blockK,noGotoK])
    refine ⟨trivial,?_⟩
    (refine Sub.of ([]) ([]) ?_ ?_ ?_ rfl rfl <;> simp only [subB,subB1,subT,subT1,newT,subE,subV,subL,go_sem,↓dP,↓reduceIte] <;> (try (repeat' with_reducible apply And.intro)) <;> (try first | exact DEq.refl _ | refine DEq.int ?_ | refine DEq.bool ?_ | omega))
    rw [getD_take hi,List.all_append]
    simp [Bool.and_assoc]
  · intro _
    rw [List.take_length]
    refine Ok.seq ?_; (((first | refine qS rfl rfl ?_ | refine qR rfl rfl ?_); simp only [go_sem,↓dP,↓reduceIte]; with_reducible and_intros; all_goals first | apply qA | exact ⟨⟩ | rfl | (intros; apply qB; first | kernel_rfl | omega) | omega | skip)); refine Ok.cond rfl (fun hb => by simp at hb) (fun _ => ?_); (refine Ok.exit ?_; simp only [thenK_exit,blockK_exit,noGotoK_exit,thenK_normal,blockK_normal,noGotoK_normal,↓reduceIte,Nat.reduceEqDiff])
    ((first | refine qS rfl rfl ?_ | refine qR rfl rfl ?_); simp only [go_sem,↓dP,↓reduceIte]; with_reducible and_intros; all_goals first | apply qA | exact ⟨⟩ | rfl | (intros; apply qB; first | kernel_rfl | omega) | omega | skip)
    (refine Ok.ret ?_; (try dsimp only [thenK,blockK,noGotoK]); simp only [toList_mk,List.toList_toArray,retK_ret,retK_normal,resOK,resV,celV,rowV,frzAll,frzT,subV,subL,go_sem,↓dP,↓reduceIte])
    exact ⟨.refl _,.refl _⟩
end Go.Proofs.Sight
namespace Go.Proofs.Sight
open Go Go.RX Go.Proofs
set_option maxRecDepth 10000
abbrev RS:=List Int × PS
def stepR (i : Nat) (st : RS) (r : List UInt8) : Option RS :=
  let W:=splitL r [32]
  if W.getD 0 default = blkW ∧ W.length = 6 then
    if rpl (W.drop 2) = true then some (st.1,st.2.1,st.2.2 ++ [⟨nth' W 2,nth' W 3,nth' W 4,nth' W 5,W.getD 1 default == [115,117,114,101]⟩]) else none
  else if rpl (W.drop 1) = true then
    if i = 0 ∧ W.length = 7 then some ([nth' W 1,nth' W 2,nth' W 3,nth' W 4,nth' W 5,nth' W 6],st.2)
    else if W.length = 2 then some (st.1,some (bsOf st.2.1,nth' W 1,[]),st.2.2)
    else if W.length = 5 then
      match st.2.1 with
      | none => none
      | some (bs,a,ls) => some (st.1,some (bs,a,ls ++ [⟨nth' W 1,nth' W 2,nth' W 3,nth' W 4⟩]),st.2.2)
    else none
  else none
theorem stepR_pos (i : Nat) : stepR (i + 1) = stepR 1:=rfl
def zeroR : RS:=([0,0,0,0,0,0],none,[])
def preR (m : List (List UInt8)) (i : Nat) : Option RS :=
  match m.take i with
  | [] => some zeroR
  | a :: b => (stepR 0 zeroR a).bind (fun st => b.foldlM (stepR 1) st)
def mkR (st : RS) : Street:=⟨st.1.getD 0 0,st.1.getD 1 0,st.1.getD 2 0,st.1.getD 3 0,st.1.getD 4 0,st.1.getD 5 0,bsOf st.2.1,st.2.2⟩
def parseR (t : List UInt8) : Option Street :=
  let m:=splitL t [10]
  match preR m (m.length - 2) with
  | none => none
  | some st => if sealedL (rowsOf (mkR st)) = t then some (mkR st) else none
theorem preR_zero (m : List (List UInt8)) : preR m 0 = some zeroR:=rfl
theorem preR_succ (m : List (List UInt8)) {i : Nat} (h : i < m.length) : preR m (i + 1) = (preR m i).bind (fun st => stepR i st (m.getD i default)):=by
  cases i with
  | zero =>
    cases m with
    | nil => simp at h
    | cons a b =>
      simp only [preR,List.take_zero,Nat.zero_add,List.take_succ_cons,List.getD_cons_zero,Option.bind_some]
      cases stepR 0 zeroR a <;> rfl
  | succ i =>
    cases m with
    | nil => simp at h
    | cons a b =>
      have hi : i < b.length:=by simpa using h
      have e : (a :: b).getD (i + 1) default = b.getD i default:=by simp
      rw [e,stepR_pos]
      simp only [preR,List.take_succ_cons]
      rw [getD_take hi]
      cases stepR 0 zeroR a with
      | none => rfl
      | some s0 =>
        simp only [Option.bind_some,List.foldlM_append]
        cases (b.take i).foldlM (stepR 1) s0 with
        | none => rfl
        | some s1 =>
          show List.foldlM (stepR 1) s1 [b.getD i default] = stepR 1 s1 (b.getD i default)
          rw [List.foldlM_cons]
          cases stepR 1 s1 (b.getD i default) <;> rfl
theorem preR_none (m : List (List UInt8)) {i : Nat} (h : preR m i = none) : ∀ n,i + n ≤ m.length → preR m (i + n) = none
  | 0,_ => h
  | n + 1,hn => by
    rw [← Nat.add_assoc,preR_succ m (by omega),preR_none m h n (by omega)]; rfl
theorem preR_fail (m : List (List UInt8)) {i k : Nat} {st : RS} (hi : i < k) (hk : k ≤ m.length) (h : preR m i = some st) (hs : stepR i st (m.getD i default) = none) : preR m k = none:=by
  have h1 : preR m (i + 1) = none:=by rw [preR_succ m (by omega),h]; exact hs
  have h2:=preR_none m h1 (k - (i + 1)) (by omega)
  rwa [show i + 1 + (k - (i + 1)) = k by omega] at h2
theorem rpl_nums {W : List (List UInt8)} {a : Nat} (h : rpl (W.drop a) = true) {n : Nat} (hl : W.length - a = n) : nums (W.drop a) n :=
  ⟨by rw [List.length_drop]; exact hl,(rpl_ok _).1 h⟩
structure PlainR (st : RS) : Prop where
  hl : st.1.length = 6
  hn : ∀ n ∈ st.1,pl n
  st : PlainP st.2
section
variable {i : Nat} {st : RS} {r : List UInt8} {V : List (List UInt8)}
theorem stepR_block (hV : splitL r [32] = V) (hb : V.getD 0 default = blkW ∧ V.length = 6) : stepR i st r = if rpl (V.drop 2) = true then some (st.1,st.2.1,st.2.2 ++ [⟨nth' V 2,nth' V 3,nth' V 4,nth' V 5,V.getD 1 default == [115,117,114,101]⟩]) else none:=by
  subst hV; unfold stepR; dsimp only; rw [if_pos hb]
theorem stepR_not (hV : splitL r [32] = V) (hb : ¬ (V.getD 0 default = blkW ∧ V.length = 6)) (hp : ¬ rpl (V.drop 1) = true) : stepR i st r = none:=by
  subst hV; unfold stepR; dsimp only; rw [if_neg hb,if_neg hp]
theorem stepR_head (hV : splitL r [32] = V) (hb : ¬ (V.getD 0 default = blkW ∧ V.length = 6)) (hp : rpl (V.drop 1) = true) (h : i = 0 ∧ V.length = 7) : stepR i st r = some ([nth' V 1,nth' V 2,nth' V 3,nth' V 4,nth' V 5,nth' V 6],st.2):=by
  subst hV; unfold stepR; dsimp only; rw [if_neg hb,if_pos hp,if_pos h]
theorem stepR_board (hV : splitL r [32] = V) (hb : ¬ (V.getD 0 default = blkW ∧ V.length = 6)) (hp : rpl (V.drop 1) = true) (h2 : V.length = 2) : stepR i st r = some (st.1,some (bsOf st.2.1,nth' V 1,[]),st.2.2):=by
  subst hV; unfold stepR; dsimp only; rw [if_neg hb,if_pos hp,if_neg (by omega),if_pos h2]
theorem stepR_letter (hV : splitL r [32] = V) (hb : ¬ (V.getD 0 default = blkW ∧ V.length = 6)) (hp : rpl (V.drop 1) = true) (h5 : V.length = 5) : stepR i st r = (match st.2.1 with
      | none => none
      | some (bs,a,ls) => some (st.1,some (bs,a,ls ++ [⟨nth' V 1,nth' V 2,nth' V 3,nth' V 4⟩]),st.2.2)):=by
  subst hV; unfold stepR; dsimp only; rw [if_neg hb,if_pos hp,if_neg (by omega),if_neg (by omega),if_pos h5]
theorem stepR_else (hV : splitL r [32] = V) (hb : ¬ (V.getD 0 default = blkW ∧ V.length = 6)) (h : ¬ (i = 0 ∧ V.length = 7)) (h2 : V.length ≠ 2) (h5 : V.length ≠ 5) : stepR i st r = none:=by
  subst hV; unfold stepR; dsimp only; rw [if_neg hb]
  by_cases hp : rpl ((splitL r [32]).drop 1) = true
  · rw [if_pos hp,if_neg h,if_neg h2,if_neg h5]
  · rw [if_neg hp]
end
theorem board_plain {c : Cur} {ks : List Block} {a : Int} (hp : PlainP (c,ks)) (ha : pl a) : PlainP (some (bsOf c,a,[]),ks) ∧ nrows (some (bsOf c,a,[]),ks) = nrows (c,ks) + 1:=by
  refine ⟨⟨fun b hb => ?_,fun b hb => ?_,hp.k⟩,?_⟩
  · simp only [bsOf,List.mem_append,List.mem_singleton] at hb
    rcases hb with hb | rfl
    · exact hp.b b hb
    · exact ha
  · simp only [bsOf,List.mem_append,List.mem_singleton] at hb
    rcases hb with hb | rfl
    · exact hp.l b hb
    · intro x hx; simp at hx
  · simp only [nrows,bsOf,List.flatMap_append,List.flatMap_cons,List.flatMap_nil,boardRows,List.length_append,List.length_cons,List.map_nil,List.length_nil]
    omega
theorem letter_plain {bs : List Board} {a : Int} {ls : List Letter} {ks : List Block} {x : Letter} (hp : PlainP (some (bs,a,ls),ks)) (hx : ∀ n ∈ x.nums,pl n) : PlainP (some (bs,a,ls ++ [x]),ks) ∧ nrows (some (bs,a,ls ++ [x]),ks) = nrows (some (bs,a,ls),ks) + 1:=by
  refine ⟨⟨fun b hb => ?_,fun b hb => ?_,hp.k⟩,?_⟩
  · simp only [bsOf,List.mem_append,List.mem_singleton] at hb
    rcases hb with hb | rfl
    · exact hp.b b (by simp only [bsOf,List.mem_append]; exact .inl hb)
    · exact hp.b ⟨a,ls⟩ (by simp [bsOf])
  · simp only [bsOf,List.mem_append,List.mem_singleton] at hb
    rcases hb with hb | rfl
    · exact hp.l b (by simp only [bsOf,List.mem_append]; exact .inl hb)
    · intro y hy
      simp only [List.mem_append,List.mem_singleton] at hy
      rcases hy with hy | rfl
      · exact hp.l ⟨a,ls⟩ (by simp [bsOf]) y hy
      · exact hx
  · simp only [nrows,bsOf,List.flatMap_append,List.flatMap_cons,List.flatMap_nil,boardRows,List.length_append,List.length_cons,List.map_nil,List.length_nil,List.length_map]
    omega
theorem block_plain {c : Cur} {ks : List Block} {k : Block} (hp : PlainP (c,ks)) (hk : ∀ n ∈ k.nums,pl n) : PlainP (c,ks ++ [k]) ∧ nrows (c,ks ++ [k]) = nrows (c,ks) + 1:=by
  refine ⟨⟨hp.b,hp.l,fun x hx => ?_⟩,by simp only [nrows,List.length_append,List.length_cons,List.length_nil]; omega⟩
  simp only [List.mem_append,List.mem_singleton] at hx
  rcases hx with hx | rfl
  · exact hp.k x hx
  · exact hk
theorem stepR_plain {i : Nat} {st st' : RS} {r : List UInt8} (h : stepR i st r = some st') (hp : PlainR st) : PlainR st' ∧ nrows st'.2 ≤ nrows st.2 + 1:=by
  obtain ⟨V,hV⟩ : ∃ V,splitL r [32] = V:=⟨_,rfl⟩
  obtain ⟨hd,c,ks⟩:=st
  by_cases hb : V.getD 0 default = blkW ∧ V.length = 6
  · rw [stepR_block hV hb] at h
    split at h
    · rename_i hr
      have hn:=rpl_nums hr (n:=4) (by omega)
      simp only [Option.some.injEq] at h
      subst h
      have:=block_plain hp.st (k:=⟨nth' V 2,nth' V 3,nth' V 4,nth' V 5,V.getD 1 default == [115,117,114,101]⟩) (fun n hm => by
        simp only [Block.nums,List.mem_cons,List.not_mem_nil,or_false] at hm
        rcases hm with rfl | rfl | rfl | rfl
        · exact pl_num hn (i:=2) (by omega) (by omega)
        · exact pl_num hn (i:=3) (by omega) (by omega)
        · exact pl_num hn (i:=4) (by omega) (by omega)
        · exact pl_num hn (i:=5) (by omega) (by omega))
      exact ⟨⟨hp.hl,hp.hn,this.1⟩,Nat.le_of_eq this.2⟩
    · cases h
  · by_cases hr : rpl (V.drop 1) = true
    · by_cases h7 : i = 0 ∧ V.length = 7
      · rw [stepR_head hV hb hr h7] at h
        have hn:=rpl_nums hr (n:=6) (by omega)
        simp only [Option.some.injEq] at h
        subst h
        refine ⟨⟨rfl,fun n hm => ?_,hp.st⟩,by simp only; omega⟩
        simp only [List.mem_cons,List.not_mem_nil,or_false] at hm
        rcases hm with rfl | rfl | rfl | rfl | rfl | rfl
        · exact pl_num hn (i:=1) (by omega) (by omega)
        · exact pl_num hn (i:=2) (by omega) (by omega)
        · exact pl_num hn (i:=3) (by omega) (by omega)
        · exact pl_num hn (i:=4) (by omega) (by omega)
        · exact pl_num hn (i:=5) (by omega) (by omega)
        · exact pl_num hn (i:=6) (by omega) (by omega)
      · by_cases h2 : V.length = 2
        · rw [stepR_board hV hb hr h2] at h
          have hn:=rpl_nums hr (n:=1) (by omega)
          simp only [Option.some.injEq] at h
          subst h
          have:=board_plain hp.st (pl_num hn (i:=1) (by omega) (by omega))
          exact ⟨⟨hp.hl,hp.hn,this.1⟩,Nat.le_of_eq this.2⟩
        · by_cases h5 : V.length = 5
          · rw [stepR_letter hV hb hr h5] at h
            have hn:=rpl_nums hr (n:=4) (by omega)
            rcases c with _ | ⟨bs,a,ls⟩
            · cases h
            · simp only [Option.some.injEq] at h
              subst h
              have:=letter_plain hp.st (x:=⟨nth' V 1,nth' V 2,nth' V 3,nth' V 4⟩) (fun n hm => by
                simp only [Letter.nums,List.mem_cons,List.not_mem_nil,or_false] at hm
                rcases hm with rfl | rfl | rfl | rfl
                · exact pl_num hn (i:=1) (by omega) (by omega)
                · exact pl_num hn (i:=2) (by omega) (by omega)
                · exact pl_num hn (i:=3) (by omega) (by omega)
                · exact pl_num hn (i:=4) (by omega) (by omega))
              exact ⟨⟨hp.hl,hp.hn,this.1⟩,Nat.le_of_eq this.2⟩
          · rw [stepR_else hV hb h7 h2 h5] at h
            cases h
    · rw [stepR_not hV hb hr] at h
      cases h
theorem preR_plain (m : List (List UInt8)) : ∀ (i : Nat) (st : RS),i ≤ m.length → preR m i = some st → PlainR st ∧ nrows st.2 ≤ i
  | 0,st,_,h => by
    rw [preR_zero] at h
    cases h
    refine ⟨⟨rfl,fun n hn => ?_,⟨by simp [bsOf,zeroR],by simp [bsOf,zeroR],by simp [zeroR]⟩⟩,Nat.le_refl _⟩
    simp [zeroR] at hn
    subst hn
    exact ⟨by decide,by decide⟩
  | i + 1,st,hi,h => by
    rw [preR_succ m (by omega)] at h
    cases hp : preR m i with
    | none => rw [hp] at h; cases h
    | some s0 =>
      rw [hp] at h
      have ⟨h1,h2⟩:=preR_plain m i s0 (by omega) hp
      have ⟨h3,h4⟩:=stepR_plain (show stepR i s0 _ = some st from h) h1
      exact ⟨h3,by omega⟩
theorem getD_pl {l : List Int} {k : Nat} (hl : l.length = 6) (h : ∀ n ∈ l,pl n) (hk : k < 6) : pl (l.getD k 0):=by
  have : l.getD k 0 = l.getD k default:=rfl
  rw [this]
  exact h _ (getD_mem (by omega))
theorem mkR_plain {st : RS} (hp : PlainR st) : (mkR st).plain:=by
  refine ⟨fun n h => ?_,hp.st.b,hp.st.l,hp.st.k⟩
  simp only [Street.nums,mkR,List.mem_cons,List.not_mem_nil,or_false] at h
  rcases h with rfl | rfl | rfl | rfl | rfl | rfl <;> exact getD_pl hp.hl hp.hn (by decide)
theorem parseR_some {t : List UInt8} {s : Street} (h : parseR t = some s) : s.plain ∧ sealedL (rowsOf s) = t:=by
  unfold parseR at h
  dsimp only at h
  split at h
  · cases h
  · rename_i st hst
    split at h
    · rename_i he
      simp only [Option.some.injEq] at h
      subst h
      exact ⟨mkR_plain (preR_plain _ _ st (by omega) hst).1,he⟩
    · cases h
theorem same_step {s : Street} (h : s.plain) {r : List UInt8} (hr : r ∈ s.bs.flatMap boardRows ++ s.ks.map blockRow) (hd : List Int) (st : PS) : stepR 1 (hd,st) r = (stepP st r).map (fun x => (hd,x)):=by
  simp only [List.mem_append,List.mem_flatMap,List.mem_map,boardRows,List.mem_cons] at hr
  obtain ⟨c,ks⟩:=st
  rcases hr with ⟨b,hb,rfl | ⟨x,hx,rfl⟩⟩ | ⟨k,hk,rfl⟩
  · have hn:=num_itoa (h.b b hb)
    rw [step_board (h.b b hb),stepR_board (spl_board (h.b b hb)) (fun q => absurd q.1 (by show ¬ boardW = blkW; decide)) ((rpl_ok _).2 (fun w hw => by simp at hw; subst hw; exact hn.1)) rfl]
    have : nth' [boardW,Lib.itoa b.at_] 1 = b.at_:=hn.2
    rw [this]; rfl
  · have hx':=h.l b hb x hx
    have h1:=num_itoa (hx' x.h (by simp [Letter.nums]))
    have h2:=num_itoa (hx' x.w (by simp [Letter.nums]))
    have h3:=num_itoa (hx' x.s (by simp [Letter.nums]))
    have h4:=num_itoa (hx' x.p (by simp [Letter.nums]))
    have hall : ∀ w ∈ [letterW,Lib.itoa x.h,Lib.itoa x.w,Lib.itoa x.s,Lib.itoa x.p].drop 1,isNum w:=fun w hw => by
      simp at hw
      rcases hw with rfl | rfl | rfl | rfl
      · exact h1.1
      · exact h2.1
      · exact h3.1
      · exact h4.1
    rw [stepR_letter (spl_letter hx') (fun q => absurd q.1 (by show ¬ letterW = blkW; decide)) ((rpl_ok _).2 hall) rfl,stepP_letter (spl_letter hx') (by show letterW ≠ boardW; decide) rfl,if_pos ⟨rfl,hall⟩]
    rcases c with _ | ⟨bs,a,ls⟩ <;> rfl
  · have hk':=h.k k hk
    have h1:=num_itoa (hk' k.al (by simp [Block.nums]))
    have h2:=num_itoa (hk' k.ah (by simp [Block.nums]))
    have h3:=num_itoa (hk' k.cl (by simp [Block.nums]))
    have h4:=num_itoa (hk' k.ch (by simp [Block.nums]))
    have hall : ∀ w ∈ [blkW,whenW k.sure,Lib.itoa k.al,Lib.itoa k.ah,Lib.itoa k.cl,Lib.itoa k.ch].drop 2,isNum w:=fun w hw => by
      simp at hw
      rcases hw with rfl | rfl | rfl | rfl
      · exact h1.1
      · exact h2.1
      · exact h3.1
      · exact h4.1
    rw [stepR_block (spl_block hk') ⟨rfl,rfl⟩,if_pos ((rpl_ok _).2 hall),stepP_block (spl_block hk') (by show blkW ≠ boardW; decide) (by show blkW ≠ letterW; decide),if_pos ⟨rfl,rfl,hall⟩]
    rfl
theorem fold_same : ∀ (l : List (List UInt8)) (hd : List Int) (st : PS),(∀ r ∈ l,∀ st,stepR 1 (hd,st) r = (stepP st r).map (fun x => (hd,x))) → l.foldlM (stepR 1) (hd,st) = (l.foldlM stepP st).map (fun x => (hd,x))
  | [],hd,st,_ => rfl
  | r :: l,hd,st,h => by
    rw [List.foldlM_cons,List.foldlM_cons,h r (List.mem_cons_self ..)]
    cases stepP st r with
    | none => rfl
    | some s1 => exact fold_same l hd s1 (fun x hx => h x (List.mem_cons_of_mem _ hx))
theorem parseR_text {s : Street} (h : s.plain) : parseR (sealedL (rowsOf s)) = some s:=by
  have hr:=spl_sealed h.no10
  obtain ⟨c,h1,h2⟩:=fold_boards s.bs (none,[]) h.b h.l
  have h3:=fold_blocks s.ks (c,[]) h.k
  have hbody : (s.bs.flatMap boardRows ++ s.ks.map blockRow).foldlM stepP (none,[]) = some (c,s.ks):=by
    rw [List.foldlM_append,h1]
    exact h3
  have hn:=fun n hn => num_itoa (h.n n hn)
  have hall : ∀ w ∈ (sightW :: s.nums.map Lib.itoa).drop 1,isNum w:=fun w hw => by
    simp only [List.drop_succ_cons,List.drop_zero,List.mem_map] at hw
    obtain ⟨n,hm,rfl⟩:=hw
    exact (hn n hm).1
  have hhead : stepR 0 zeroR (rowL sightW s.nums) = some (s.nums,none,[]):=by
    rw [stepR_head (spl_head h.n) (fun q => absurd q.1 (by show ¬ sightW = blkW; decide)) ((rpl_ok _).2 hall) ⟨rfl,rfl⟩]
    have e1 : nth' (sightW :: s.nums.map Lib.itoa) 1 = s.len:=(hn s.len (by simp [Street.nums])).2
    have e2 : nth' (sightW :: s.nums.map Lib.itoa) 2 = s.wid:=(hn s.wid (by simp [Street.nums])).2
    have e3 : nth' (sightW :: s.nums.map Lib.itoa) 3 = s.el:=(hn s.el (by simp [Street.nums])).2
    have e4 : nth' (sightW :: s.nums.map Lib.itoa) 4 = s.eh:=(hn s.eh (by simp [Street.nums])).2
    have e5 : nth' (sightW :: s.nums.map Lib.itoa) 5 = s.ll:=(hn s.ll (by simp [Street.nums])).2
    have e6 : nth' (sightW :: s.nums.map Lib.itoa) 6 = s.lh:=(hn s.lh (by simp [Street.nums])).2
    rw [e1,e2,e3,e4,e5,e6]
    rfl
  have hst : preR (rowsOf s ++ [endL (rowsSum 0 (rowsOf s) % 179),[]]) ((rowsOf s ++ [endL (rowsSum 0 (rowsOf s) % 179),[]]).length - 2) = some (s.nums,c,s.ks):=by
    have hl : (rowsOf s ++ [endL (rowsSum 0 (rowsOf s) % 179),[]]).length - 2 = (rowsOf s).length:=by simp
    rw [hl,preR,List.take_left]
    show (stepR 0 zeroR (rowL sightW s.nums)).bind (fun st => (s.bs.flatMap boardRows ++ s.ks.map blockRow).foldlM (stepR 1) st) = _
    rw [hhead,Option.bind_some,fold_same _ s.nums (none,[]) (fun r hr st => same_step h hr s.nums st),hbody]
    rfl
  have e : mkR (s.nums,c,s.ks) = s:=by
    unfold mkR
    dsimp only
    rw [h2]
    rfl
  unfold parseR
  dsimp only
  rw [hr,hst]
  dsimp only
  rw [e,if_pos rfl]
theorem parse_same (t : List UInt8) : parseR t = parseP t:=by
  cases hR : parseR t with
  | some s =>
    obtain ⟨h1,h2⟩:=parseR_some hR
    rw [← h2,parse_text h1]
  | none =>
    cases hP : parseP t with
    | none => rfl
    | some s =>
      obtain ⟨h1,h2,_⟩:=parse_some hP
      rw [← h2,parseR_text h1] at hR
      cases hR
end Go.Proofs.Sight
namespace Go.Proofs.Sight
open Go Go.RX Go.Proofs
set_option maxRecDepth 10000
theorem plain_drop (W : List (List UInt8)) (a m : Nat) (ha : a ≤ W.length) (hm : m = W.length - a) (hl : W.length ≤ 1000) (hw : ∀ w ∈ W,w.length ≤ 1000) :
    Ctr Tryz.prog 75 [.d (.sl 1 m (fun i j => strD (W.getD (a + i) default) j)),iS 3] (.tup [.d (slD 1 intD (rlist (W.drop a))),bS (rpl (W.drop a))]):=by
  have hd:=slice_D (k:=1) (n:=m) (m:=W.length - a) (a:=a) (f:=strD) (l:=W) hm (by omega)
  rw [List.take_of_length_le (by rw [List.length_drop]; omega)] at hd
  exact (c111 (W.drop a) (by rw [List.length_drop]; omega) (fun w hw' => hw w (List.mem_of_mem_drop hw'))).args ⟨hd,.refl _,trivial⟩
theorem rl_list {W : List (List UInt8)} {a n : Nat} (h : rpl (W.drop a) = true) (hl : W.length - a = n) : rlist (W.drop a) = (List.range n).map (fun i => nth' W (a + i)):=by
  rw [rlist_ok h]
  have:=nums_map (rpl_nums h hl)
  have e : (W.drop a).map (fun w => ((numL w : Nat) : Int)) = ((W.drop a).map numL).map (fun n : Nat => (n : Int)):=by rw [List.map_map]; rfl
  rw [e,this,List.map_map]
  rfl
def resR : Option Street → SV
  | none => .tup [noS,bS false]
  | some s => .tup [s.sv,bS true]
theorem resR_none : resR none = .tup [noS,bS false]:=Eq.trans rfl rfl
theorem resR_some (s : Street) : resR (some s) = .tup [s.sv,bS true]:=Eq.trans rfl rfl
def redSt (t : List UInt8) (m : List (List UInt8)) (i : Nat) (st : RS) : Sy :=
  ⟨[(0,.d (.str t)),(2,.p 0 0),(4,.p 1 0),(5,.d (strsD m)),(6,iS i)],
    [{ frz:=false,xs:=[iS 0,iS 0,iS 0,iS 0,iS 0,iS 0,.d .nils,.d .nils] },{ frz:=false,xs:=[iS (st.1.getD 0 0),iS (st.1.getD 1 0),iS (st.1.getD 2 0),iS (st.1.getD 3 0),iS (st.1.getD 4 0),iS (st.1.getD 5 0),.tk 0,.tk 2] }],
    [curT st.2.1,ownD 45 4 letD (curL st.2.1),ownD 48 5 bloD st.2.2]⟩
theorem c67 (t : List UInt8) (ht : t.length ≤ 550) : Ctr Tryz.prog 37 [.d (.str t)] (resR (parseR t)):=by
  generalize hp : parseR t = o
  unfold parseR at hp
  dsimp only at hp
  have hrl:=splitL_len t [10] (by decide)
  have hr0:=splitL_pos t [10] (by decide)
  have hrs:=splitL_short 10 t
  have c110r:=c110 t 10 10 rfl (by omega)
  rw [← splitL_spl] at c110r
  obtain ⟨m,hm⟩ : ∃ rows,splitL t [10] = rows:=⟨_,rfl⟩
  rw [hm] at hrl hr0 hrs c110r hp
  (refine Ctr.mk (fn:=Tryz.f37) rfl rfl rfl rfl rfl Tryz.results37 ?_; dsimp only [args,List.toList_toArray])
  ((first | refine qS rfl rfl ?_ | refine qR rfl rfl ?_); simp only [go_sem,↓dP,↓reduceIte]; with_reducible and_intros; all_goals first | apply qA | exact ⟨⟩ | rfl | (intros; apply qB; first | kernel_rfl | omega) | omega | skip)
  ((first | refine qS rfl rfl ?_ | refine qR rfl rfl ?_); simp only [go_sem,↓dP,↓reduceIte]; with_reducible and_intros; all_goals first | apply qA | exact ⟨⟩ | rfl | (intros; apply qB; first | kernel_rfl | omega) | omega | skip)
  ((first | refine qS rfl rfl ?_ | refine qR rfl rfl ?_); simp only [go_sem,↓dP,↓reduceIte]; with_reducible and_intros; all_goals first | apply qA | exact ⟨⟩ | rfl | (intros; apply qB; first | kernel_rfl | omega) | omega | skip)
  (refine AskI.ret (c110r) ?_; simp only [go_sem,↓dP,↓reduceIte]; with_reducible and_intros; all_goals first | apply qA | exact ⟨⟩ | rfl | (intros; apply qB; first | kernel_rfl | omega) | omega | skip)
  refine Ok.seq ?_
  ((first | refine qS rfl rfl ?_ | refine qR rfl rfl ?_); simp only [go_sem,↓dP,↓reduceIte]; with_reducible and_intros; all_goals first | apply qA | exact ⟨⟩ | rfl | (intros; apply qB; first | kernel_rfl | omega) | omega | skip)
  refine Ok.block ?_
  refine Ok.count (m.length - 2) (fun i => redSt t m i ((preR m i).getD zeroR)) (fun i => ∃ st,preR m i = some st) ⟨⟨_,preR_zero _⟩,?_⟩ ?_ ?_
  · simp only [preR_zero,Option.getD_some,redSt,curT,curL,zeroR]
    (refine Sub.of ([0,1]) ([none,none,none]) ?_ ?_ ?_ rfl rfl <;> simp only [subB,subB1,subT,subT1,newT,subE,subV,subL,go_sem,↓dP,↓reduceIte] <;> (try (repeat' with_reducible apply And.intro)) <;> (try first | exact DEq.refl _ | refine DEq.int ?_ | refine DEq.bool ?_ | omega))
    all_goals first | exact DEq.nils rfl | rfl
  · rintro i hi ⟨⟨hd,cur,ks⟩,hst⟩
    obtain ⟨hpl,hnr⟩:=preR_plain m i _ (by omega) hst
    have hfl:=flat_rows (bsOf cur)
    have hbl : (bsOf cur).length ≤ 600:=by simp only [nrows] at hnr; omega
    have hkl : ks.length ≤ 600:=by simp only [nrows] at hnr; omega
    have hpf : stepR i (hd,cur,ks) (m.getD i default) = none → none = o:=fun q => by
      rw [preR_fail m hi (by omega) hst q] at hp
      exact hp
    simp only [hst,Option.getD_some,redSt]
    have hLr:=hrs i
    obtain ⟨r,hrow⟩ : ∃ r,m.getD i default = r:=⟨_,rfl⟩
    rw [hrow] at hLr hpf
    have hV0:=splitL_pos r [32] (by decide)
    have hVl:=splitL_len r [32] (by decide)
    have hVs:=spl_short 32 r
    have c110v:=c110 r 32 32 rfl (by omega)
    rw [← splitL_spl] at c110v hVs
    obtain ⟨V,hV⟩ : ∃ V,splitL r [32] = V:=⟨_,rfl⟩
    rw [hV] at hV0 hVl c110v hVs
    have h1:=plain_drop V 1 ((V.length : Int) - 1).toNat hV0 (by omega) (by omega) (fun w hw => by have:=hVs w hw; omega)
    
    have hlen : ∃ n,n ≤ 601 ∧ ((match cur with | none => 0 | some (bs,_,_) => bs.length + 1) = n):=by
      refine ⟨_,?_,rfl⟩
      rcases cur with _ | ⟨bs,a,ls⟩
      · simp
      · have : (bsOf (some (bs,a,ls))).length = bs.length + 1:=by simp [bsOf]
        simp only; omega
    refine Ok.seq ?_; (((first | refine qS rfl rfl ?_ | refine qR rfl rfl ?_); simp only [go_sem,↓dP,↓reduceIte]; with_reducible and_intros; all_goals first | apply qA | exact ⟨⟩ | rfl | (intros; apply qB; first | kernel_rfl | omega) | omega | skip)); refine Ok.cond rfl (fun _ => ?_) (fun hb => by simp at hb; omega); (refine Ok.skip ?_; (try dsimp only [thenK,blockK,noGotoK])); refine Ok.seq ?_; refine Ok.block ?_
    rcases cur with _ | ⟨bs,a,ls⟩
    · simp only [curT,curL]
      ((first | refine qS rfl rfl ?_ | refine qR rfl rfl ?_); simp only [go_sem,↓dP,↓reduceIte]; with_reducible and_intros; all_goals first | apply qA | exact ⟨⟩ | rfl | (intros; apply qB; first | kernel_rfl | omega) | omega | skip)
      rw [hrow]
      (refine AskI.ret (c110v) ?_; simp only [go_sem,↓dP,↓reduceIte]; with_reducible and_intros; all_goals first | apply qA | exact ⟨⟩ | rfl | (intros; apply qB; first | kernel_rfl | omega) | omega | skip)
      ((first | refine qS rfl rfl ?_ | refine qR rfl rfl ?_); simp only [go_sem,↓dP,↓reduceIte]; with_reducible and_intros; all_goals first | apply qA | exact ⟨⟩ | rfl | (intros; apply qB; first | kernel_rfl | omega) | omega | skip)
      ((first | refine qS rfl rfl ?_ | refine qR rfl rfl ?_); simp only [go_sem,↓dP,↓reduceIte]; with_reducible and_intros; all_goals first | apply qA | exact ⟨⟩ | rfl | (intros; apply qB; first | kernel_rfl | omega) | omega | skip)
      (refine AskI.ret (h1) ?_; simp only [go_sem,↓dP,↓reduceIte]; with_reducible and_intros; all_goals first | apply qA | exact ⟨⟩ | rfl | (intros; apply qB; first | kernel_rfl | omega) | omega | skip)
      by_cases hblk : V.getD 0 default = blkW ∧ V.length = 6
      · have hcond : (V.getD 0 default == [98,108,111,99,107] && (V.length : Int) == 6) = true:=by rw [hblk.1,hblk.2]; rfl
        refine Ok.seq ?_
        ((first | refine qS rfl rfl ?_ | refine qR rfl rfl ?_); simp only [go_sem,↓dP,↓reduceIte]; with_reducible and_intros; all_goals first | apply qA | exact ⟨⟩ | rfl | (intros; apply qB; first | kernel_rfl | omega) | omega | skip)
        rw [hcond]
        refine Ok.cond (b:=true) (by first | rfl | (simp only [go_sem,↓dP,↓reduceIte]; rfl)) (fun _ => ?_) (fun hb => by cases hb)
        refine Ok.seq ?_
        ((first | refine qS rfl rfl ?_ | refine qR rfl rfl ?_); simp only [go_sem,↓dP,↓reduceIte]; with_reducible and_intros; all_goals first | apply qA | exact ⟨⟩ | rfl | (intros; apply qB; first | kernel_rfl | omega) | omega | skip)
        have h2:=plain_drop V 2 ((V.length : Int) - 2).toNat (by omega) (by omega) (by omega) (fun w hw => by have:=hVs w hw; omega)
        (refine AskI.ret (h2) ?_; simp only [go_sem,↓dP,↓reduceIte]; with_reducible and_intros; all_goals first | apply qA | exact ⟨⟩ | rfl | (intros; apply qB; first | kernel_rfl | omega) | omega | skip)
        by_cases hpr : rpl (V.drop 2) = true
        · have hls : rlist (V.drop 2) = [nth' V 2,nth' V 3,nth' V 4,nth' V 5]:=(rl_list hpr (n:=4) (by omega)).trans rfl
          rw [hls,hpr]
          ((first | refine qS rfl rfl ?_ | refine qR rfl rfl ?_); simp only [go_sem,↓dP,↓reduceIte]; with_reducible and_intros; all_goals first | apply qA | exact ⟨⟩ | rfl | (intros; apply qB; first | kernel_rfl | omega) | omega | skip)
          refine Ok.cond (b:=true) (by first | rfl | (simp only [go_sem,↓dP,↓reduceIte]; rfl)) (fun _ => ?_) (fun hb => by cases hb)
          ((first | refine qS rfl rfl ?_ | refine qR rfl rfl ?_); simp only [go_sem,↓dP,↓reduceIte]; with_reducible and_intros; all_goals first | apply qA | exact ⟨⟩ | rfl | (intros; apply qB; first | kernel_rfl | omega) | omega | skip)
          (try dsimp only [thenK,blockK,noGotoK])
          refine Ok.seq ?_
          ((first | refine qS rfl rfl ?_ | refine qR rfl rfl ?_); simp only [go_sem,↓dP,↓reduceIte]; with_reducible and_intros; all_goals first | apply qA | exact ⟨⟩ | rfl | (intros; apply qB; first | kernel_rfl | omega) | omega | skip)
          refine Ok.cond (b:=false) (by first | rfl | (simp only [go_sem,↓dP,↓reduceIte]; rfl)) (fun hb => by cases hb) (fun _ => ?_)
          (refine Ok.skip ?_; (try dsimp only [thenK,blockK,noGotoK]))
          (try dsimp only [thenK,blockK,noGotoK])
          ((first | refine qS rfl rfl ?_ | refine qR rfl rfl ?_); simp only [go_sem,↓dP,↓reduceIte]; with_reducible and_intros; all_goals first | apply qA | exact ⟨⟩ | rfl | (intros; apply qB; first | kernel_rfl | omega) | omega | skip)
          (try dsimp only [thenK,blockK,noGotoK])
          have hnx : preR m (i + 1) = some (hd,none,ks ++ [⟨nth' V 2,nth' V 3,nth' V 4,nth' V 5,V.getD 1 default == [115,117,114,101]⟩]):=by
            rw [preR_succ m (by omega),hst,hrow]
            exact (stepR_block hV hblk).trans (if_pos hpr)
          refine ⟨⟨_,hnx⟩,?_⟩
          simp only [hnx,Option.getD_some,bsOf]
          (refine Sub.of ([0,1]) ([some 0,some 1,some 3]) ?_ ?_ ?_ rfl rfl <;> simp only [subB,subB1,subT,subT1,newT,subE,subV,subL,go_sem,↓dP,↓reduceIte] <;> (try (repeat' with_reducible apply And.intro)) <;> (try first | exact DEq.refl _ | refine DEq.int ?_ | refine DEq.bool ?_ | omega))
          all_goals first
            | exact fun _ _ _ _ => DEq.refl _
            | exact snoc_D (fun c hc => by match c,hc with | 0,_ | 1,_ | 2,_ | 3,_ | 4,_ => rfl)
            | exact snoc_D (fun c hc => by match c,hc with | 0,_ | 1,_ | 2,_ | 3,_ => rfl)
            | simp
        · have hpr' : rpl (V.drop 2) = false:=by simpa using hpr
          rw [hpr']
          ((first | refine qS rfl rfl ?_ | refine qR rfl rfl ?_); simp only [go_sem,↓dP,↓reduceIte]; with_reducible and_intros; all_goals first | apply qA | exact ⟨⟩ | rfl | (intros; apply qB; first | kernel_rfl | omega) | omega | skip)
          refine Ok.cond (b:=false) (by first | rfl | (simp only [go_sem,↓dP,↓reduceIte]; rfl)) (fun hb => by cases hb) (fun _ => ?_)
          (refine Ok.skip ?_; (try dsimp only [thenK,blockK,noGotoK]))
          refine Ok.seq ?_
          ((first | refine qS rfl rfl ?_ | refine qR rfl rfl ?_); simp only [go_sem,↓dP,↓reduceIte]; with_reducible and_intros; all_goals first | apply qA | exact ⟨⟩ | rfl | (intros; apply qB; first | kernel_rfl | omega) | omega | skip)
          refine Ok.cond (b:=true) (by first | rfl | (simp only [go_sem,↓dP,↓reduceIte]; rfl)) (fun _ => ?_) (fun hb => by cases hb)
          have hno:=hpf ((stepR_block hV hblk).trans (if_neg hpr))
          subst hno
          rw [resR_none]
          ((first | refine qS rfl rfl ?_ | refine qR rfl rfl ?_); simp only [go_sem,↓dP,↓reduceIte]; with_reducible and_intros; all_goals first | apply qA | exact ⟨⟩ | rfl | (intros; apply qB; first | kernel_rfl | omega) | omega | skip)
          (refine Ok.ret ?_; (try dsimp only [thenK,blockK,noGotoK]); simp only [toList_mk,List.toList_toArray,retK_ret,retK_normal,resOK,resV,celV,rowV,frzAll,frzT,subV,subL,go_sem,↓dP,↓reduceIte])
          and_intros <;> exact .refl _
      · have hcond : (V.getD 0 default == [98,108,111,99,107] && (V.length : Int) == 6) = false:=by
          rw [Bool.eq_false_iff]
          intro h
          simp only [Bool.and_eq_true,beq_iff_eq] at h
          exact hblk ⟨h.1,by omega⟩
        refine Ok.seq ?_
        ((first | refine qS rfl rfl ?_ | refine qR rfl rfl ?_); simp only [go_sem,↓dP,↓reduceIte]; with_reducible and_intros; all_goals first | apply qA | exact ⟨⟩ | rfl | (intros; apply qB; first | kernel_rfl | omega) | omega | skip)
        rw [hcond]
        refine Ok.cond (b:=false) (by first | rfl | (simp only [go_sem,↓dP,↓reduceIte]; rfl)) (fun hb => by cases hb) (fun _ => ?_)
        by_cases hpr : rpl (V.drop 1) = true
        · have hll : (rlist (V.drop 1)).length = V.length - 1:=by rw [rl_list hpr rfl]; simp
          rw [hpr]
          ((first | refine qS rfl rfl ?_ | refine qR rfl rfl ?_); simp only [go_sem,↓dP,↓reduceIte]; with_reducible and_intros; all_goals first | apply qA | exact ⟨⟩ | rfl | (intros; apply qB; first | kernel_rfl | omega) | omega | skip)
          by_cases h7 : i = 0 ∧ V.length = 7
          · have hc7 : ((i : Int) == 0 && ((rlist (V.drop 1)).length : Int) == 6) = true:=by
              simp only [Bool.and_eq_true,beq_iff_eq]
              omega
            have hls : rlist (V.drop 1) = [nth' V 1,nth' V 2,nth' V 3,nth' V 4,nth' V 5,nth' V 6]:=(rl_list hpr (n:=6) (by omega)).trans rfl
            rw [hc7]
            refine Ok.cond (b:=true) (by first | rfl | (simp only [go_sem,↓dP,↓reduceIte]; rfl)) (fun _ => ?_) (fun hb => by cases hb)
            rw [hls]
            ((first | refine qS rfl rfl ?_ | refine qR rfl rfl ?_); simp only [go_sem,↓dP,↓reduceIte]; with_reducible and_intros; all_goals first | apply qA | exact ⟨⟩ | rfl | (intros; apply qB; first | kernel_rfl | omega) | omega | skip)
            (try dsimp only [thenK,blockK,noGotoK])
            refine Ok.seq ?_
            ((first | refine qS rfl rfl ?_ | refine qR rfl rfl ?_); simp only [go_sem,↓dP,↓reduceIte]; with_reducible and_intros; all_goals first | apply qA | exact ⟨⟩ | rfl | (intros; apply qB; first | kernel_rfl | omega) | omega | skip)
            refine Ok.cond (b:=false) (by first | rfl | (simp only [go_sem,↓dP,↓reduceIte]; rfl)) (fun hb => by cases hb) (fun _ => ?_)
            (refine Ok.skip ?_; (try dsimp only [thenK,blockK,noGotoK]))
            (try dsimp only [thenK,blockK,noGotoK])
            ((first | refine qS rfl rfl ?_ | refine qR rfl rfl ?_); simp only [go_sem,↓dP,↓reduceIte]; with_reducible and_intros; all_goals first | apply qA | exact ⟨⟩ | rfl | (intros; apply qB; first | kernel_rfl | omega) | omega | skip)
            (try dsimp only [thenK,blockK,noGotoK])
            have hnx : preR m (i + 1) = some ([nth' V 1,nth' V 2,nth' V 3,nth' V 4,nth' V 5,nth' V 6],none,ks):=by
              rw [preR_succ m (by omega),hst,hrow]
              exact stepR_head hV hblk hpr h7
            refine ⟨⟨_,hnx⟩,?_⟩
            simp only [hnx,Option.getD_some,bsOf]
            (refine Sub.of ([0,1]) ([some 0,some 1,some 2]) ?_ ?_ ?_ rfl rfl <;> simp only [subB,subB1,subT,subT1,newT,subE,subV,subL,go_sem,↓dP,↓reduceIte] <;> (try (repeat' with_reducible apply And.intro)) <;> (try first | exact DEq.refl _ | refine DEq.int ?_ | refine DEq.bool ?_ | omega))
            all_goals first
              | exact fun _ _ _ _ => DEq.refl _
              | exact snoc_D (fun c hc => by match c,hc with | 0,_ | 1,_ | 2,_ | 3,_ | 4,_ => rfl)
              | exact snoc_D (fun c hc => by match c,hc with | 0,_ | 1,_ | 2,_ | 3,_ => rfl)
              | simp
          · have hc7 : ((i : Int) == 0 && ((rlist (V.drop 1)).length : Int) == 6) = false:=by
              rw [Bool.eq_false_iff]
              intro h
              simp only [Bool.and_eq_true,beq_iff_eq] at h
              exact h7 (by omega)
            rw [hc7]
            refine Ok.cond (b:=false) (by first | rfl | (simp only [go_sem,↓dP,↓reduceIte]; rfl)) (fun hb => by cases hb) (fun _ => ?_)
            ((first | refine qS rfl rfl ?_ | refine qR rfl rfl ?_); simp only [go_sem,↓dP,↓reduceIte]; with_reducible and_intros; all_goals first | apply qA | exact ⟨⟩ | rfl | (intros; apply qB; first | kernel_rfl | omega) | omega | skip)
            by_cases hc2 : V.length = 2
            · have hb2 : (((rlist (V.drop 1)).length : Int) == 1) = true:=by
                simp only [beq_iff_eq]
                omega
              have hls : rlist (V.drop 1) = [nth' V 1]:=(rl_list hpr (n:=1) (by omega)).trans rfl
              rw [hb2]
              refine Ok.cond (b:=true) (by first | rfl | (simp only [go_sem,↓dP,↓reduceIte]; rfl)) (fun _ => ?_) (fun hb => by cases hb)
              rw [hls]
              refine Ok.sub (σ':=⟨[(0,.d (.str t)),(2,.p 0 0),(4,.p 1 0),(5,.d (strsD m)),(6,iS i),(9,.d (slD 1 intD [nth' V 1])),(10,bS true)],
                [{ frz:=false,xs:=[iS 0,iS 0,iS 0,iS 0,iS 0,iS 0,.d .nils,.d .nils] },{ frz:=false,xs:=[iS (hd.getD 0 0),iS (hd.getD 1 0),iS (hd.getD 2 0),iS (hd.getD 3 0),iS (hd.getD 4 0),iS (hd.getD 5 0),.tk 0,.tk 2] }],
                [ownD 38 2 boaD (bsOf (none)),.dead,ownD 48 5 bloD ks]⟩) ?_ ?_
              · simp only [bsOf]
                (refine Sub.of ([0,1]) ([some 0,some 1,some 2]) ?_ ?_ ?_ rfl rfl <;> simp only [subB,subB1,subT,subT1,newT,subE,subV,subL,go_sem,↓dP,↓reduceIte] <;> (try (repeat' with_reducible apply And.intro)) <;> (try first | exact DEq.refl _ | refine DEq.int ?_ | refine DEq.bool ?_ | omega))
                all_goals exact fun _ _ _ _ => DEq.refl _
              ((first | refine qS rfl rfl ?_ | refine qR rfl rfl ?_); simp only [go_sem,↓dP,↓reduceIte]; with_reducible and_intros; all_goals first | apply qA | exact ⟨⟩ | rfl | (intros; apply qB; first | kernel_rfl | omega) | omega | skip)
              (try dsimp only [thenK,blockK,noGotoK])
              refine Ok.seq ?_
              ((first | refine qS rfl rfl ?_ | refine qR rfl rfl ?_); simp only [go_sem,↓dP,↓reduceIte]; with_reducible and_intros; all_goals first | apply qA | exact ⟨⟩ | rfl | (intros; apply qB; first | kernel_rfl | omega) | omega | skip)
              refine Ok.cond (b:=false) (by first | rfl | (simp only [go_sem,↓dP,↓reduceIte]; rfl)) (fun hb => by cases hb) (fun _ => ?_)
              (refine Ok.skip ?_; (try dsimp only [thenK,blockK,noGotoK]))
              (try dsimp only [thenK,blockK,noGotoK])
              ((first | refine qS rfl rfl ?_ | refine qR rfl rfl ?_); simp only [go_sem,↓dP,↓reduceIte]; with_reducible and_intros; all_goals first | apply qA | exact ⟨⟩ | rfl | (intros; apply qB; first | kernel_rfl | omega) | omega | skip)
              (try dsimp only [thenK,blockK,noGotoK])
              have hnx : preR m (i + 1) = some (hd,some (bsOf (none),nth' V 1,[]),ks):=by
                rw [preR_succ m (by omega),hst,hrow]
                exact stepR_board hV hblk hpr hc2
              refine ⟨⟨_,hnx⟩,?_⟩
              simp only [hnx,Option.getD_some]
              simp only [bsOf,curT,curL]
              refine Sub.trans (Sub.link (i:=3) (e':=45) (k':=4) (c:=1) (h':=fun _ => letD default) rfl (by omega) (by simp; rfl) (by omega)) ?_
              (refine Sub.of ([0,1]) ([some 3,some 4,some 2]) ?_ ?_ ?_ rfl rfl <;> simp only [subB,subB1,subT,subT1,newT,subE,subV,subL,go_sem,↓dP,↓reduceIte] <;> (try (repeat' with_reducible apply And.intro)) <;> (try first | exact DEq.refl _ | refine DEq.int ?_ | refine DEq.bool ?_ | omega))
              all_goals first
                | exact fun _ _ _ _ => DEq.refl _
                | exact snoc_D (fun c hc => by match c,hc with | 0,_ | 1,_ | 2,_ | 3,_ | 4,_ => rfl)
                | exact snoc_D (fun c hc => by match c,hc with | 0,_ | 1,_ | 2,_ | 3,_ => rfl)
                | simp
            · have hb2 : (((rlist (V.drop 1)).length : Int) == 1) = false:=by
                rw [Bool.eq_false_iff]
                intro h
                simp only [beq_iff_eq] at h
                omega
              rw [hb2]
              refine Ok.cond (b:=false) (by first | rfl | (simp only [go_sem,↓dP,↓reduceIte]; rfl)) (fun hb => by cases hb) (fun _ => ?_)
              ((first | refine qS rfl rfl ?_ | refine qR rfl rfl ?_); simp only [go_sem,↓dP,↓reduceIte]; with_reducible and_intros; all_goals first | apply qA | exact ⟨⟩ | rfl | (intros; apply qB; first | kernel_rfl | omega) | omega | skip)
              have hb5 : (((rlist (V.drop 1)).length : Int) == 4 && decide ((0 : Int) ≤ ((0 : Nat) : Int) - 1)) = false:=by simp
              rw [hb5]
              refine Ok.cond (b:=false) (by first | rfl | (simp only [go_sem,↓dP,↓reduceIte]; rfl)) (fun hb => by cases hb) (fun _ => ?_)
              have hz : stepR i (hd,none,ks) r = none:=by
                by_cases h5 : V.length = 5
                · exact stepR_letter hV hblk hpr h5
                · exact stepR_else hV hblk h7 hc2 h5
              have hno:=hpf (hz)
              subst hno
              rw [resR_none]
              ((first | refine qS rfl rfl ?_ | refine qR rfl rfl ?_); simp only [go_sem,↓dP,↓reduceIte]; with_reducible and_intros; all_goals first | apply qA | exact ⟨⟩ | rfl | (intros; apply qB; first | kernel_rfl | omega) | omega | skip)
              (refine Ok.ret ?_; (try dsimp only [thenK,blockK,noGotoK]); simp only [toList_mk,List.toList_toArray,retK_ret,retK_normal,resOK,resV,celV,rowV,frzAll,frzT,subV,subL,go_sem,↓dP,↓reduceIte])
              and_intros <;> exact .refl _
        · have hpr' : rpl (V.drop 1) = false:=by simpa using hpr
          rw [hpr']
          ((first | refine qS rfl rfl ?_ | refine qR rfl rfl ?_); simp only [go_sem,↓dP,↓reduceIte]; with_reducible and_intros; all_goals first | apply qA | exact ⟨⟩ | rfl | (intros; apply qB; first | kernel_rfl | omega) | omega | skip)
          refine Ok.cond (b:=false) (by first | rfl | (simp only [go_sem,↓dP,↓reduceIte]; rfl)) (fun hb => by cases hb) (fun _ => ?_)
          ((first | refine qS rfl rfl ?_ | refine qR rfl rfl ?_); simp only [go_sem,↓dP,↓reduceIte]; with_reducible and_intros; all_goals first | apply qA | exact ⟨⟩ | rfl | (intros; apply qB; first | kernel_rfl | omega) | omega | skip)
          refine Ok.cond (b:=false) (by first | rfl | (simp only [go_sem,↓dP,↓reduceIte]; rfl)) (fun hb => by cases hb) (fun _ => ?_)
          ((first | refine qS rfl rfl ?_ | refine qR rfl rfl ?_); simp only [go_sem,↓dP,↓reduceIte]; with_reducible and_intros; all_goals first | apply qA | exact ⟨⟩ | rfl | (intros; apply qB; first | kernel_rfl | omega) | omega | skip)
          refine Ok.cond (b:=false) (by first | rfl | (simp only [go_sem,↓dP,↓reduceIte]; rfl)) (fun hb => by cases hb) (fun _ => ?_)
          have hno:=hpf (stepR_not hV hblk hpr)
          subst hno
          rw [resR_none]
          ((first | refine qS rfl rfl ?_ | refine qR rfl rfl ?_); simp only [go_sem,↓dP,↓reduceIte]; with_reducible and_intros; all_goals first | apply qA | exact ⟨⟩ | rfl | (intros; apply qB; first | kernel_rfl | omega) | omega | skip)
          (refine Ok.ret ?_; (try dsimp only [thenK,blockK,noGotoK]); simp only [toList_mk,List.toList_toArray,retK_ret,retK_normal,resOK,resV,celV,rowV,frzAll,frzT,subV,subL,go_sem,↓dP,↓reduceIte])
          and_intros <;> exact .refl _
    · simp only [curT,curL]
      have hbs : bs.length + 1 ≤ 600:=by simpa [bsOf] using hbl
      have hls0 : ls.length ≤ 600:=by
        simp only [nrows,bsOf,List.flatMap_append,List.flatMap_cons,List.flatMap_nil,boardRows,List.length_append,List.length_cons,List.length_nil,List.length_map] at hnr
        omega
      ((first | refine qS rfl rfl ?_ | refine qR rfl rfl ?_); simp only [go_sem,↓dP,↓reduceIte]; with_reducible and_intros; all_goals first | apply qA | exact ⟨⟩ | rfl | (intros; apply qB; first | kernel_rfl | omega) | omega | skip)
      rw [hrow]
      (refine AskI.ret (c110v) ?_; simp only [go_sem,↓dP,↓reduceIte]; with_reducible and_intros; all_goals first | apply qA | exact ⟨⟩ | rfl | (intros; apply qB; first | kernel_rfl | omega) | omega | skip)
      ((first | refine qS rfl rfl ?_ | refine qR rfl rfl ?_); simp only [go_sem,↓dP,↓reduceIte]; with_reducible and_intros; all_goals first | apply qA | exact ⟨⟩ | rfl | (intros; apply qB; first | kernel_rfl | omega) | omega | skip)
      ((first | refine qS rfl rfl ?_ | refine qR rfl rfl ?_); simp only [go_sem,↓dP,↓reduceIte]; with_reducible and_intros; all_goals first | apply qA | exact ⟨⟩ | rfl | (intros; apply qB; first | kernel_rfl | omega) | omega | skip)
      (refine AskI.ret (h1) ?_; simp only [go_sem,↓dP,↓reduceIte]; with_reducible and_intros; all_goals first | apply qA | exact ⟨⟩ | rfl | (intros; apply qB; first | kernel_rfl | omega) | omega | skip)
      by_cases hblk : V.getD 0 default = blkW ∧ V.length = 6
      · have hcond : (V.getD 0 default == [98,108,111,99,107] && (V.length : Int) == 6) = true:=by rw [hblk.1,hblk.2]; rfl
        refine Ok.seq ?_
        ((first | refine qS rfl rfl ?_ | refine qR rfl rfl ?_); simp only [go_sem,↓dP,↓reduceIte]; with_reducible and_intros; all_goals first | apply qA | exact ⟨⟩ | rfl | (intros; apply qB; first | kernel_rfl | omega) | omega | skip)
        rw [hcond]
        refine Ok.cond (b:=true) (by first | rfl | (simp only [go_sem,↓dP,↓reduceIte]; rfl)) (fun _ => ?_) (fun hb => by cases hb)
        refine Ok.seq ?_
        ((first | refine qS rfl rfl ?_ | refine qR rfl rfl ?_); simp only [go_sem,↓dP,↓reduceIte]; with_reducible and_intros; all_goals first | apply qA | exact ⟨⟩ | rfl | (intros; apply qB; first | kernel_rfl | omega) | omega | skip)
        have h2:=plain_drop V 2 ((V.length : Int) - 2).toNat (by omega) (by omega) (by omega) (fun w hw => by have:=hVs w hw; omega)
        (refine AskI.ret (h2) ?_; simp only [go_sem,↓dP,↓reduceIte]; with_reducible and_intros; all_goals first | apply qA | exact ⟨⟩ | rfl | (intros; apply qB; first | kernel_rfl | omega) | omega | skip)
        by_cases hpr : rpl (V.drop 2) = true
        · have hls : rlist (V.drop 2) = [nth' V 2,nth' V 3,nth' V 4,nth' V 5]:=(rl_list hpr (n:=4) (by omega)).trans rfl
          rw [hls,hpr]
          ((first | refine qS rfl rfl ?_ | refine qR rfl rfl ?_); simp only [go_sem,↓dP,↓reduceIte]; with_reducible and_intros; all_goals first | apply qA | exact ⟨⟩ | rfl | (intros; apply qB; first | kernel_rfl | omega) | omega | skip)
          refine Ok.cond (b:=true) (by first | rfl | (simp only [go_sem,↓dP,↓reduceIte]; rfl)) (fun _ => ?_) (fun hb => by cases hb)
          ((first | refine qS rfl rfl ?_ | refine qR rfl rfl ?_); simp only [go_sem,↓dP,↓reduceIte]; with_reducible and_intros; all_goals first | apply qA | exact ⟨⟩ | rfl | (intros; apply qB; first | kernel_rfl | omega) | omega | skip)
          (try dsimp only [thenK,blockK,noGotoK])
          refine Ok.seq ?_
          ((first | refine qS rfl rfl ?_ | refine qR rfl rfl ?_); simp only [go_sem,↓dP,↓reduceIte]; with_reducible and_intros; all_goals first | apply qA | exact ⟨⟩ | rfl | (intros; apply qB; first | kernel_rfl | omega) | omega | skip)
          refine Ok.cond (b:=false) (by first | rfl | (simp only [go_sem,↓dP,↓reduceIte]; rfl)) (fun hb => by cases hb) (fun _ => ?_)
          (refine Ok.skip ?_; (try dsimp only [thenK,blockK,noGotoK]))
          (try dsimp only [thenK,blockK,noGotoK])
          ((first | refine qS rfl rfl ?_ | refine qR rfl rfl ?_); simp only [go_sem,↓dP,↓reduceIte]; with_reducible and_intros; all_goals first | apply qA | exact ⟨⟩ | rfl | (intros; apply qB; first | kernel_rfl | omega) | omega | skip)
          (try dsimp only [thenK,blockK,noGotoK])
          have hnx : preR m (i + 1) = some (hd,some (bs,a,ls),ks ++ [⟨nth' V 2,nth' V 3,nth' V 4,nth' V 5,V.getD 1 default == [115,117,114,101]⟩]):=by
            rw [preR_succ m (by omega),hst,hrow]
            exact (stepR_block hV hblk).trans (if_pos hpr)
          refine ⟨⟨_,hnx⟩,?_⟩
          simp only [hnx,Option.getD_some,bsOf]
          (refine Sub.of ([0,1]) ([some 0,some 1,some 3]) ?_ ?_ ?_ rfl rfl <;> simp only [subB,subB1,subT,subT1,newT,subE,subV,subL,go_sem,↓dP,↓reduceIte] <;> (try (repeat' with_reducible apply And.intro)) <;> (try first | exact DEq.refl _ | refine DEq.int ?_ | refine DEq.bool ?_ | omega))
          all_goals first
            | exact fun _ _ _ _ => DEq.refl _
            | exact snoc_D (fun c hc => by match c,hc with | 0,_ | 1,_ | 2,_ | 3,_ | 4,_ => rfl)
            | exact snoc_D (fun c hc => by match c,hc with | 0,_ | 1,_ | 2,_ | 3,_ => rfl)
            | simp
        · have hpr' : rpl (V.drop 2) = false:=by simpa using hpr
          rw [hpr']
          ((first | refine qS rfl rfl ?_ | refine qR rfl rfl ?_); simp only [go_sem,↓dP,↓reduceIte]; with_reducible and_intros; all_goals first | apply qA | exact ⟨⟩ | rfl | (intros; apply qB; first | kernel_rfl | omega) | omega | skip)
          refine Ok.cond (b:=false) (by first | rfl | (simp only [go_sem,↓dP,↓reduceIte]; rfl)) (fun hb => by cases hb) (fun _ => ?_)
          (refine Ok.skip ?_; (try dsimp only [thenK,blockK,noGotoK]))
          refine Ok.seq ?_
          ((first | refine qS rfl rfl ?_ | refine qR rfl rfl ?_); simp only [go_sem,↓dP,↓reduceIte]; with_reducible and_intros; all_goals first | apply qA | exact ⟨⟩ | rfl | (intros; apply qB; first | kernel_rfl | omega) | omega | skip)
          refine Ok.cond (b:=true) (by first | rfl | (simp only [go_sem,↓dP,↓reduceIte]; rfl)) (fun _ => ?_) (fun hb => by cases hb)
          have hno:=hpf ((stepR_block hV hblk).trans (if_neg hpr))
          subst hno
          rw [resR_none]
          ((first | refine qS rfl rfl ?_ | refine qR rfl rfl ?_); simp only [go_sem,↓dP,↓reduceIte]; with_reducible and_intros; all_goals first | apply qA | exact ⟨⟩ | rfl | (intros; apply qB; first | kernel_rfl | omega) | omega | skip)
          (refine Ok.ret ?_; (try dsimp only [thenK,blockK,noGotoK]); simp only [toList_mk,List.toList_toArray,retK_ret,retK_normal,resOK,resV,celV,rowV,frzAll,frzT,subV,subL,go_sem,↓dP,↓reduceIte])
          and_intros <;> exact .refl _
      · have hcond : (V.getD 0 default == [98,108,111,99,107] && (V.length : Int) == 6) = false:=by
          rw [Bool.eq_false_iff]
          intro h
          simp only [Bool.and_eq_true,beq_iff_eq] at h
          exact hblk ⟨h.1,by omega⟩
        refine Ok.seq ?_
        ((first | refine qS rfl rfl ?_ | refine qR rfl rfl ?_); simp only [go_sem,↓dP,↓reduceIte]; with_reducible and_intros; all_goals first | apply qA | exact ⟨⟩ | rfl | (intros; apply qB; first | kernel_rfl | omega) | omega | skip)
        rw [hcond]
        refine Ok.cond (b:=false) (by first | rfl | (simp only [go_sem,↓dP,↓reduceIte]; rfl)) (fun hb => by cases hb) (fun _ => ?_)
        by_cases hpr : rpl (V.drop 1) = true
        · have hll : (rlist (V.drop 1)).length = V.length - 1:=by rw [rl_list hpr rfl]; simp
          rw [hpr]
          ((first | refine qS rfl rfl ?_ | refine qR rfl rfl ?_); simp only [go_sem,↓dP,↓reduceIte]; with_reducible and_intros; all_goals first | apply qA | exact ⟨⟩ | rfl | (intros; apply qB; first | kernel_rfl | omega) | omega | skip)
          by_cases h7 : i = 0 ∧ V.length = 7
          · have hc7 : ((i : Int) == 0 && ((rlist (V.drop 1)).length : Int) == 6) = true:=by
              simp only [Bool.and_eq_true,beq_iff_eq]
              omega
            have hls : rlist (V.drop 1) = [nth' V 1,nth' V 2,nth' V 3,nth' V 4,nth' V 5,nth' V 6]:=(rl_list hpr (n:=6) (by omega)).trans rfl
            rw [hc7]
            refine Ok.cond (b:=true) (by first | rfl | (simp only [go_sem,↓dP,↓reduceIte]; rfl)) (fun _ => ?_) (fun hb => by cases hb)
            rw [hls]
            ((first | refine qS rfl rfl ?_ | refine qR rfl rfl ?_); simp only [go_sem,↓dP,↓reduceIte]; with_reducible and_intros; all_goals first | apply qA | exact ⟨⟩ | rfl | (intros; apply qB; first | kernel_rfl | omega) | omega | skip)
            (try dsimp only [thenK,blockK,noGotoK])
            refine Ok.seq ?_
            ((first | refine qS rfl rfl ?_ | refine qR rfl rfl ?_); simp only [go_sem,↓dP,↓reduceIte]; with_reducible and_intros; all_goals first | apply qA | exact ⟨⟩ | rfl | (intros; apply qB; first | kernel_rfl | omega) | omega | skip)
            refine Ok.cond (b:=false) (by first | rfl | (simp only [go_sem,↓dP,↓reduceIte]; rfl)) (fun hb => by cases hb) (fun _ => ?_)
            (refine Ok.skip ?_; (try dsimp only [thenK,blockK,noGotoK]))
            (try dsimp only [thenK,blockK,noGotoK])
            ((first | refine qS rfl rfl ?_ | refine qR rfl rfl ?_); simp only [go_sem,↓dP,↓reduceIte]; with_reducible and_intros; all_goals first | apply qA | exact ⟨⟩ | rfl | (intros; apply qB; first | kernel_rfl | omega) | omega | skip)
            (try dsimp only [thenK,blockK,noGotoK])
            have hnx : preR m (i + 1) = some ([nth' V 1,nth' V 2,nth' V 3,nth' V 4,nth' V 5,nth' V 6],some (bs,a,ls),ks):=by
              rw [preR_succ m (by omega),hst,hrow]
              exact stepR_head hV hblk hpr h7
            refine ⟨⟨_,hnx⟩,?_⟩
            simp only [hnx,Option.getD_some,bsOf]
            (refine Sub.of ([0,1]) ([some 0,some 1,some 2]) ?_ ?_ ?_ rfl rfl <;> simp only [subB,subB1,subT,subT1,newT,subE,subV,subL,go_sem,↓dP,↓reduceIte] <;> (try (repeat' with_reducible apply And.intro)) <;> (try first | exact DEq.refl _ | refine DEq.int ?_ | refine DEq.bool ?_ | omega))
            all_goals first
              | exact fun _ _ _ _ => DEq.refl _
              | exact snoc_D (fun c hc => by match c,hc with | 0,_ | 1,_ | 2,_ | 3,_ | 4,_ => rfl)
              | exact snoc_D (fun c hc => by match c,hc with | 0,_ | 1,_ | 2,_ | 3,_ => rfl)
              | simp
          · have hc7 : ((i : Int) == 0 && ((rlist (V.drop 1)).length : Int) == 6) = false:=by
              rw [Bool.eq_false_iff]
              intro h
              simp only [Bool.and_eq_true,beq_iff_eq] at h
              exact h7 (by omega)
            rw [hc7]
            refine Ok.cond (b:=false) (by first | rfl | (simp only [go_sem,↓dP,↓reduceIte]; rfl)) (fun hb => by cases hb) (fun _ => ?_)
            ((first | refine qS rfl rfl ?_ | refine qR rfl rfl ?_); simp only [go_sem,↓dP,↓reduceIte]; with_reducible and_intros; all_goals first | apply qA | exact ⟨⟩ | rfl | (intros; apply qB; first | kernel_rfl | omega) | omega | skip)
            by_cases hc2 : V.length = 2
            · have hb2 : (((rlist (V.drop 1)).length : Int) == 1) = true:=by
                simp only [beq_iff_eq]
                omega
              have hls : rlist (V.drop 1) = [nth' V 1]:=(rl_list hpr (n:=1) (by omega)).trans rfl
              rw [hb2]
              refine Ok.cond (b:=true) (by first | rfl | (simp only [go_sem,↓dP,↓reduceIte]; rfl)) (fun _ => ?_) (fun hb => by cases hb)
              rw [hls]
              refine Ok.sub (σ':=⟨[(0,.d (.str t)),(2,.p 0 0),(4,.p 1 0),(5,.d (strsD m)),(6,iS i),(9,.d (slD 1 intD [nth' V 1])),(10,bS true)],
                [{ frz:=false,xs:=[iS 0,iS 0,iS 0,iS 0,iS 0,iS 0,.d .nils,.d .nils] },{ frz:=false,xs:=[iS (hd.getD 0 0),iS (hd.getD 1 0),iS (hd.getD 2 0),iS (hd.getD 3 0),iS (hd.getD 4 0),iS (hd.getD 5 0),.tk 0,.tk 2] }],
                [ownD 38 2 boaD (bsOf (some (bs,a,ls))),.dead,ownD 48 5 bloD ks]⟩) ?_ ?_
              · simp only [bsOf]
                refine Sub.trans (Sub.close (i:=0) (j:=1) rfl rfl) ?_
                (refine Sub.of ([0,1]) ([some 0,some 1,some 2]) ?_ ?_ ?_ rfl rfl <;> simp only [subB,subB1,subT,subT1,newT,subE,subV,subL,go_sem,↓dP,↓reduceIte] <;> (try (repeat' with_reducible apply And.intro)) <;> (try first | exact DEq.refl _ | refine DEq.int ?_ | refine DEq.bool ?_ | omega))
                · simp
                · exact fun i j hi hj => close_D bs a ls i j hi hj
                · exact fun _ _ _ _ => DEq.refl _
              ((first | refine qS rfl rfl ?_ | refine qR rfl rfl ?_); simp only [go_sem,↓dP,↓reduceIte]; with_reducible and_intros; all_goals first | apply qA | exact ⟨⟩ | rfl | (intros; apply qB; first | kernel_rfl | omega) | omega | skip)
              (try dsimp only [thenK,blockK,noGotoK])
              refine Ok.seq ?_
              ((first | refine qS rfl rfl ?_ | refine qR rfl rfl ?_); simp only [go_sem,↓dP,↓reduceIte]; with_reducible and_intros; all_goals first | apply qA | exact ⟨⟩ | rfl | (intros; apply qB; first | kernel_rfl | omega) | omega | skip)
              refine Ok.cond (b:=false) (by first | rfl | (simp only [go_sem,↓dP,↓reduceIte]; rfl)) (fun hb => by cases hb) (fun _ => ?_)
              (refine Ok.skip ?_; (try dsimp only [thenK,blockK,noGotoK]))
              (try dsimp only [thenK,blockK,noGotoK])
              ((first | refine qS rfl rfl ?_ | refine qR rfl rfl ?_); simp only [go_sem,↓dP,↓reduceIte]; with_reducible and_intros; all_goals first | apply qA | exact ⟨⟩ | rfl | (intros; apply qB; first | kernel_rfl | omega) | omega | skip)
              (try dsimp only [thenK,blockK,noGotoK])
              have hnx : preR m (i + 1) = some (hd,some (bsOf (some (bs,a,ls)),nth' V 1,[]),ks):=by
                rw [preR_succ m (by omega),hst,hrow]
                exact stepR_board hV hblk hpr hc2
              refine ⟨⟨_,hnx⟩,?_⟩
              simp only [hnx,Option.getD_some]
              simp only [bsOf,curT,curL]
              refine Sub.trans (Sub.link (i:=3) (e':=45) (k':=4) (c:=1) (h':=fun _ => letD default) rfl (by omega) (by simp; rfl) (by omega)) ?_
              (refine Sub.of ([0,1]) ([some 3,some 4,some 2]) ?_ ?_ ?_ rfl rfl <;> simp only [subB,subB1,subT,subT1,newT,subE,subV,subL,go_sem,↓dP,↓reduceIte] <;> (try (repeat' with_reducible apply And.intro)) <;> (try first | exact DEq.refl _ | refine DEq.int ?_ | refine DEq.bool ?_ | omega))
              all_goals first
                | exact fun _ _ _ _ => DEq.refl _
                | exact snoc_D (fun c hc => by match c,hc with | 0,_ | 1,_ | 2,_ | 3,_ | 4,_ => rfl)
                | exact snoc_D (fun c hc => by match c,hc with | 0,_ | 1,_ | 2,_ | 3,_ => rfl)
                | simp
            · have hb2 : (((rlist (V.drop 1)).length : Int) == 1) = false:=by
                rw [Bool.eq_false_iff]
                intro h
                simp only [beq_iff_eq] at h
                omega
              rw [hb2]
              refine Ok.cond (b:=false) (by first | rfl | (simp only [go_sem,↓dP,↓reduceIte]; rfl)) (fun hb => by cases hb) (fun _ => ?_)
              ((first | refine qS rfl rfl ?_ | refine qR rfl rfl ?_); simp only [go_sem,↓dP,↓reduceIte]; with_reducible and_intros; all_goals first | apply qA | exact ⟨⟩ | rfl | (intros; apply qB; first | kernel_rfl | omega) | omega | skip)
              by_cases h5 : V.length = 5
              · have hb5 : (((rlist (V.drop 1)).length : Int) == 4 && decide ((0 : Int) ≤ ((bs.length + 1 : Nat) : Int) - 1)) = true:=by
                  simp only [Bool.and_eq_true,beq_iff_eq,decide_eq_true_eq]
                  omega
                have hls : rlist (V.drop 1) = [nth' V 1,nth' V 2,nth' V 3,nth' V 4]:=(rl_list hpr (n:=4) (by omega)).trans rfl
                rw [hb5]
                refine Ok.cond (b:=true) (by first | rfl | (simp only [go_sem,↓dP,↓reduceIte]; rfl)) (fun _ => ?_) (fun hb => by cases hb)
                rw [hls]
                ((first | refine qS rfl rfl ?_ | refine qR rfl rfl ?_); simp only [go_sem,↓dP,↓reduceIte]; with_reducible and_intros; all_goals first | apply qA | exact ⟨⟩ | rfl | (intros; apply qB; first | kernel_rfl | omega) | omega | skip)
                (try dsimp only [thenK,blockK,noGotoK])
                refine Ok.seq ?_
                ((first | refine qS rfl rfl ?_ | refine qR rfl rfl ?_); simp only [go_sem,↓dP,↓reduceIte]; with_reducible and_intros; all_goals first | apply qA | exact ⟨⟩ | rfl | (intros; apply qB; first | kernel_rfl | omega) | omega | skip)
                refine Ok.cond (b:=false) (by first | rfl | (simp only [go_sem,↓dP,↓reduceIte]; rfl)) (fun hb => by cases hb) (fun _ => ?_)
                (refine Ok.skip ?_; (try dsimp only [thenK,blockK,noGotoK]))
                (try dsimp only [thenK,blockK,noGotoK])
                ((first | refine qS rfl rfl ?_ | refine qR rfl rfl ?_); simp only [go_sem,↓dP,↓reduceIte]; with_reducible and_intros; all_goals first | apply qA | exact ⟨⟩ | rfl | (intros; apply qB; first | kernel_rfl | omega) | omega | skip)
                (try dsimp only [thenK,blockK,noGotoK])
                have hnx : preR m (i + 1) = some (hd,some (bs,a,ls ++ [⟨nth' V 1,nth' V 2,nth' V 3,nth' V 4⟩]),ks):=by
                  rw [preR_succ m (by omega),hst,hrow]
                  exact stepR_letter hV hblk hpr h5
                refine ⟨⟨_,hnx⟩,?_⟩
                simp only [hnx,Option.getD_some,bsOf]
                (refine Sub.of ([0,1]) ([some 0,some 3,some 2]) ?_ ?_ ?_ rfl rfl <;> simp only [subB,subB1,subT,subT1,newT,subE,subV,subL,go_sem,↓dP,↓reduceIte] <;> (try (repeat' with_reducible apply And.intro)) <;> (try first | exact DEq.refl _ | refine DEq.int ?_ | refine DEq.bool ?_ | omega))
                all_goals first
                  | exact fun _ _ _ _ => DEq.refl _
                  | exact snoc_D (fun c hc => by match c,hc with | 0,_ | 1,_ | 2,_ | 3,_ | 4,_ => rfl)
                  | exact snoc_D (fun c hc => by match c,hc with | 0,_ | 1,_ | 2,_ | 3,_ => rfl)
                  | simp
              · have hb5 : (((rlist (V.drop 1)).length : Int) == 4 && decide ((0 : Int) ≤ ((bs.length + 1 : Nat) : Int) - 1)) = false:=by
                  rw [Bool.eq_false_iff]
                  intro h
                  simp only [Bool.and_eq_true,beq_iff_eq] at h
                  omega
                rw [hb5]
                refine Ok.cond (b:=false) (by first | rfl | (simp only [go_sem,↓dP,↓reduceIte]; rfl)) (fun hb => by cases hb) (fun _ => ?_)
                have hno:=hpf (stepR_else hV hblk h7 hc2 h5)
                subst hno
                rw [resR_none]
                ((first | refine qS rfl rfl ?_ | refine qR rfl rfl ?_); simp only [go_sem,↓dP,↓reduceIte]; with_reducible and_intros; all_goals first | apply qA | exact ⟨⟩ | rfl | (intros; apply qB; first | kernel_rfl | omega) | omega | skip)
                (refine Ok.ret ?_; (try dsimp only [thenK,blockK,noGotoK]); simp only [toList_mk,List.toList_toArray,retK_ret,retK_normal,resOK,resV,celV,rowV,frzAll,frzT,subV,subL,go_sem,↓dP,↓reduceIte])
                and_intros <;> exact .refl _
        · have hpr' : rpl (V.drop 1) = false:=by simpa using hpr
          rw [hpr']
          ((first | refine qS rfl rfl ?_ | refine qR rfl rfl ?_); simp only [go_sem,↓dP,↓reduceIte]; with_reducible and_intros; all_goals first | apply qA | exact ⟨⟩ | rfl | (intros; apply qB; first | kernel_rfl | omega) | omega | skip)
          refine Ok.cond (b:=false) (by first | rfl | (simp only [go_sem,↓dP,↓reduceIte]; rfl)) (fun hb => by cases hb) (fun _ => ?_)
          ((first | refine qS rfl rfl ?_ | refine qR rfl rfl ?_); simp only [go_sem,↓dP,↓reduceIte]; with_reducible and_intros; all_goals first | apply qA | exact ⟨⟩ | rfl | (intros; apply qB; first | kernel_rfl | omega) | omega | skip)
          refine Ok.cond (b:=false) (by first | rfl | (simp only [go_sem,↓dP,↓reduceIte]; rfl)) (fun hb => by cases hb) (fun _ => ?_)
          ((first | refine qS rfl rfl ?_ | refine qR rfl rfl ?_); simp only [go_sem,↓dP,↓reduceIte]; with_reducible and_intros; all_goals first | apply qA | exact ⟨⟩ | rfl | (intros; apply qB; first | kernel_rfl | omega) | omega | skip)
          refine Ok.cond (b:=false) (by first | rfl | (simp only [go_sem,↓dP,↓reduceIte]; rfl)) (fun hb => by cases hb) (fun _ => ?_)
          have hno:=hpf (stepR_not hV hblk hpr)
          subst hno
          rw [resR_none]
          ((first | refine qS rfl rfl ?_ | refine qR rfl rfl ?_); simp only [go_sem,↓dP,↓reduceIte]; with_reducible and_intros; all_goals first | apply qA | exact ⟨⟩ | rfl | (intros; apply qB; first | kernel_rfl | omega) | omega | skip)
          (refine Ok.ret ?_; (try dsimp only [thenK,blockK,noGotoK]); simp only [toList_mk,List.toList_toArray,retK_ret,retK_normal,resOK,resV,celV,rowV,frzAll,frzT,subV,subL,go_sem,↓dP,↓reduceIte])
          and_intros <;> exact .refl _
  · rintro ⟨⟨hd,cur,ks⟩,hst⟩
    obtain ⟨hpl,hnr⟩:=preR_plain m _ _ (by omega) hst
    rw [hst] at hp
    dsimp only at hp
    have hsm : (mkR (hd,cur,ks)).small:=(mkR_plain hpl).small (by simp only [nrows] at hnr; show ((bsOf cur).flatMap boardRows).length + ks.length ≤ 600; omega)
    simp only [hst,Option.getD_some,redSt]
    refine Ok.seq ?_; (((first | refine qS rfl rfl ?_ | refine qR rfl rfl ?_); simp only [go_sem,↓dP,↓reduceIte]; with_reducible and_intros; all_goals first | apply qA | exact ⟨⟩ | rfl | (intros; apply qB; first | kernel_rfl | omega) | omega | skip)); refine Ok.cond rfl (fun hb => by simp at hb; omega) (fun _ => ?_); (refine Ok.exit ?_; simp only [thenK_exit,blockK_exit,noGotoK_exit,thenK_normal,blockK_normal,noGotoK_normal,↓reduceIte,Nat.reduceEqDiff])
    refine Ok.sub (σ':=⟨[(0,.d (.str t)),(2,.p 0 0),(4,.p 1 0)],
      [{ frz:=false,xs:=[iS 0,iS 0,iS 0,iS 0,iS 0,iS 0,.d .nils,.d .nils] },{ frz:=false,xs:=[iS (hd.getD 0 0),iS (hd.getD 1 0),iS (hd.getD 2 0),iS (hd.getD 3 0),iS (hd.getD 4 0),iS (hd.getD 5 0),.tk 0,.tk 1] }],
      [ownD 38 2 boaD (bsOf cur),ownD 48 5 bloD ks]⟩) ?_ ?_
    · rcases cur with _ | ⟨bs,a,ls⟩ <;> simp only [curT,curL,bsOf]
      · (refine Sub.of ([0,1]) ([some 0,some 2]) ?_ ?_ ?_ rfl rfl <;> simp only [subB,subB1,subT,subT1,newT,subE,subV,subL,go_sem,↓dP,↓reduceIte] <;> (try (repeat' with_reducible apply And.intro)) <;> (try first | exact DEq.refl _ | refine DEq.int ?_ | refine DEq.bool ?_ | omega))
        all_goals exact fun _ _ _ _ => DEq.refl _
      · refine Sub.trans (Sub.close (i:=0) (j:=1) rfl rfl) ?_
        (refine Sub.of ([0,1]) ([some 0,some 2]) ?_ ?_ ?_ rfl rfl <;> simp only [subB,subB1,subT,subT1,newT,subE,subV,subL,go_sem,↓dP,↓reduceIte] <;> (try (repeat' with_reducible apply And.intro)) <;> (try first | exact DEq.refl _ | refine DEq.int ?_ | refine DEq.bool ?_ | omega))
        · simp
        · exact fun i j hi hj => close_D bs a ls i j hi hj
        · exact fun _ _ _ _ => DEq.refl _
    refine Ok.seq ?_
    ((first | refine qS rfl rfl ?_ | refine qR rfl rfl ?_); simp only [go_sem,↓dP,↓reduceIte]; with_reducible and_intros; all_goals first | apply qA | exact ⟨⟩ | rfl | (intros; apply qB; first | kernel_rfl | omega) | omega | skip)
    (refine AskI.ret (c65 (mkR (hd,cur,ks)) hsm) ?_; simp only [go_sem,↓dP,↓reduceIte]; with_reducible and_intros; all_goals first | apply qA | exact ⟨⟩ | rfl | (intros; apply qB; first | kernel_rfl | omega) | omega | skip)
    by_cases heq : sealedL (rowsOf (mkR (hd,cur,ks))) = t
    · rw [if_pos heq] at hp
      subst hp
      rw [resR_some]
      have hq : (sealedL (rowsOf (mkR (hd,cur,ks))) != t) = false:=by simpa using heq
      rw [hq]
      refine Ok.cond (b:=false) (by first | rfl | (simp only [go_sem,↓dP,↓reduceIte]; rfl)) (fun hb => by cases hb) (fun _ => ?_)
      (refine Ok.skip ?_; (try dsimp only [thenK,blockK,noGotoK]))
      ((first | refine qS rfl rfl ?_ | refine qR rfl rfl ?_); simp only [go_sem,↓dP,↓reduceIte]; with_reducible and_intros; all_goals first | apply qA | exact ⟨⟩ | rfl | (intros; apply qB; first | kernel_rfl | omega) | omega | skip)
      (refine Ok.ret ?_; (try dsimp only [thenK,blockK,noGotoK]); simp only [toList_mk,List.toList_toArray,retK_ret,retK_normal,resOK,resV,celV,rowV,frzAll,frzT,subV,subL,go_sem,↓dP,↓reduceIte])
      refine ⟨⟨.refl _,.refl _,.refl _,.refl _,.refl _,.refl _,.refl _,.refl _⟩,.refl _⟩
    · rw [if_neg heq] at hp
      subst hp
      rw [resR_none]
      have hq : (sealedL (rowsOf (mkR (hd,cur,ks))) != t) = true:=by simpa using heq
      rw [hq]
      refine Ok.cond (b:=true) (by first | rfl | (simp only [go_sem,↓dP,↓reduceIte]; rfl)) (fun _ => ?_) (fun hb => by cases hb)
      ((first | refine qS rfl rfl ?_ | refine qR rfl rfl ?_); simp only [go_sem,↓dP,↓reduceIte]; with_reducible and_intros; all_goals first | apply qA | exact ⟨⟩ | rfl | (intros; apply qB; first | kernel_rfl | omega) | omega | skip)
      (refine Ok.ret ?_; (try dsimp only [thenK,blockK,noGotoK]); simp only [toList_mk,List.toList_toArray,retK_ret,retK_normal,resOK,resV,celV,rowV,frzAll,frzT,subV,subL,go_sem,↓dP,↓reduceIte])
      and_intros <;> exact .refl _
end Go.Proofs.Sight
namespace Go.Proofs.Sight
open Go Go.RX Go.Proofs
set_option maxRecDepth 10000
theorem ok_plain {s : Street} (h : s.ok) : s.plain:=by
  have hl1:=h.len1
  refine ⟨fun n hn => ?_,fun b hb => ?_,fun b hb x hx n hn => ?_,fun k hk n hn => ?_⟩
  · have h':=h
    obtain ⟨l0,l1,w0,w1,e0,e1,e2,e3,g0,g1,g2,g3,_⟩:=h'
    simp only [Street.nums,List.mem_cons,List.not_mem_nil,or_false] at hn
    rcases hn with rfl | rfl | rfl | rfl | rfl | rfl <;> exact ⟨by omega,by omega⟩
  · have:=(isBoard_spec (h.bs b hb)).1
    exact ⟨by omega,by omega⟩
  · have hf:=(isBoard_spec (h.bs b hb)).2.2.2 x hx
    simp only [isLetter,inR,Bool.and_eq_true,decide_eq_true_eq] at hf
    simp only [Letter.nums,List.mem_cons,List.not_mem_nil,or_false] at hn
    rcases hn with rfl | rfl | rfl | rfl <;> exact ⟨by omega,by omega⟩
  · have hf:=h.ks k hk
    have:=h.wid1
    simp only [blockIn,inR,spanR,Bool.and_eq_true,decide_eq_true_eq] at hf
    simp only [Block.nums,List.mem_cons,List.not_mem_nil,or_false] at hn
    rcases hn with rfl | rfl | rfl | rfl <;> exact ⟨by omega,by omega⟩
theorem flat_le {α β : Type} (f : α → List β) (B : Nat) : ∀ (l : List α),(∀ x ∈ l,(f x).length ≤ B) → (l.flatMap f).length ≤ B * l.length
  | [],_ => by simp
  | x :: l,h => by
    have ih:=flat_le f B l (fun y hy => h y (List.mem_cons_of_mem _ hy))
    have:=h x (List.mem_cons_self ..)
    simp only [List.flatMap_cons,List.length_append,List.length_cons]
    rw [Nat.mul_add]
    omega
theorem ok_rows {s : Street} (h : s.ok) : (s.bs.flatMap boardRows).length + s.ks.length ≤ 22:=by
  have h1:=flat_le boardRows 6 s.bs (fun b hb => by
    have:=(isBoard_spec (h.bs b hb)).2.1
    simp only [boardRows,List.length_cons,List.length_map]; omega)
  have h2:=h.b3
  have h3:=h.k4
  omega
theorem ok_small {s : Street} (h : s.ok) : s.small:=(ok_plain h).small (by have:=ok_rows h; omega)
theorem c63_ok {s : Street} (h : s.ok) : Ctr Tryz.prog 33 [s.sv] (.tup [.d (.str (sealedL (rowsOf s))),iS 0]):=by
  have h102:=c102 s h.fit
  rw [isStreet_ok.2 h] at h102
  (refine Ctr.mk (fn:=Tryz.f33) rfl rfl rfl rfl rfl Tryz.results33 ?_; dsimp only [args,List.toList_toArray])
  ((first | refine qS rfl rfl ?_ | refine qR rfl rfl ?_); simp only [go_sem,↓dP,↓reduceIte]; with_reducible and_intros; all_goals first | apply qA | exact ⟨⟩ | rfl | (intros; apply qB; first | kernel_rfl | omega) | omega | skip)
  refine Ok.seq ?_
  ((first | refine qS rfl rfl ?_ | refine qR rfl rfl ?_); simp only [go_sem,↓dP,↓reduceIte]; with_reducible and_intros; all_goals first | apply qA | exact ⟨⟩ | rfl | (intros; apply qB; first | kernel_rfl | omega) | omega | skip)
  (refine AskI.ret (h102) ?_; simp only [go_sem,↓dP,↓reduceIte]; with_reducible and_intros; all_goals first | apply qA | exact ⟨⟩ | rfl | (intros; apply qB; first | kernel_rfl | omega) | omega | skip)
  refine Ok.cond (b:=false) (by first | rfl | (simp only [go_sem,↓dP,↓reduceIte]; rfl)) (fun hb => by cases hb) (fun _ => ?_)
  (refine Ok.skip ?_; (try dsimp only [thenK,blockK,noGotoK]))
  ((first | refine qS rfl rfl ?_ | refine qR rfl rfl ?_); simp only [go_sem,↓dP,↓reduceIte]; with_reducible and_intros; all_goals first | apply qA | exact ⟨⟩ | rfl | (intros; apply qB; first | kernel_rfl | omega) | omega | skip)
  (refine AskI.ret (c104 s (ok_small h)) ?_; simp only [go_sem,↓dP,↓reduceIte]; with_reducible and_intros; all_goals first | apply qA | exact ⟨⟩ | rfl | (intros; apply qB; first | kernel_rfl | omega) | omega | skip)
  (refine Ok.ret ?_; (try dsimp only [thenK,blockK,noGotoK]); simp only [toList_mk,List.toList_toArray,retK_ret,retK_normal,resOK,resV,celV,rowV,frzAll,frzT,subV,subL,go_sem,↓dP,↓reduceIte])
  exact ⟨.refl _,.refl _⟩
theorem c64_long (t : List UInt8) (ht : 450 < t.length) (hl : t.length ≤ 1000) : Ctr Tryz.prog 34 [.d (.str t)] (.tup [noS,iS 3]):=by
  (refine Ctr.mk (fn:=Tryz.f34) rfl rfl rfl rfl rfl Tryz.results34 ?_; dsimp only [args,List.toList_toArray])
  ((first | refine qS rfl rfl ?_ | refine qR rfl rfl ?_); simp only [go_sem,↓dP,↓reduceIte]; with_reducible and_intros; all_goals first | apply qA | exact ⟨⟩ | rfl | (intros; apply qB; first | kernel_rfl | omega) | omega | skip)
  refine Ok.seq ?_
  ((first | refine qS rfl rfl ?_ | refine qR rfl rfl ?_); simp only [go_sem,↓dP,↓reduceIte]; with_reducible and_intros; all_goals first | apply qA | exact ⟨⟩ | rfl | (intros; apply qB; first | kernel_rfl | omega) | omega | skip)
  refine Ok.cond rfl (fun _ => ?_) (fun hb => by simp at hb; omega)
  ((first | refine qS rfl rfl ?_ | refine qR rfl rfl ?_); simp only [go_sem,↓dP,↓reduceIte]; with_reducible and_intros; all_goals first | apply qA | exact ⟨⟩ | rfl | (intros; apply qB; first | kernel_rfl | omega) | omega | skip)
  (refine Ok.ret ?_; (try dsimp only [thenK,blockK,noGotoK]); simp only [toList_mk,List.toList_toArray,retK_ret,retK_normal,resOK,resV,celV,rowV,frzAll,frzT,subV,subL,go_sem,↓dP,↓reduceIte])
  and_intros <;> exact .refl _
theorem plain_fit {s : Street} (hr : (s.bs.flatMap boardRows).length + s.ks.length ≤ 600) : s.fit ∧ s.bs.length ≤ 1000 ∧ s.ks.length ≤ 1000 ∧ ∀ b ∈ s.bs,b.ls.length ≤ 1000:=by
  have h1:=flat_rows s.bs
  have h3 : ∀ b ∈ s.bs,b.ls.length ≤ 1000:=by
    intro b hb
    have : (boardRows b).length ≤ (s.bs.flatMap boardRows).length:=by
      obtain ⟨l,r,e⟩:=List.append_of_mem hb
      rw [e]
      simp only [List.flatMap_append,List.flatMap_cons,List.length_append]
      omega
    simp only [boardRows,List.length_cons,List.length_map] at this
    omega
  exact ⟨⟨by omega,by omega,fun b hb => by have:=h3 b hb; omega⟩,by omega,by omega,h3⟩
theorem c64_none {t : List UInt8} (h : parseP t = none) (ht : t.length ≤ 450) : Ctr Tryz.prog 34 [.d (.str t)] (.tup [noS,iS 4]):=c64_text t ((f106_walk t ht).2 h) ht
theorem c64_some {t : List UInt8} {s : Street} (h : parseP t = some s) (ht : t.length ≤ 450) (hs : isStreet s = true) : Ctr Tryz.prog 34 [.d (.str t)] (.tup [s.sv,iS 0]):=c64_ok t s ((f106_walk t ht).1 s h) ht hs
theorem c64_bad {t : List UInt8} {s : Street} (h : parseP t = some s) (ht : t.length ≤ 450) (hs : isStreet s = false) : Ctr Tryz.prog 34 [.d (.str t)] (.tup [noS,iS 2]) :=
  c64_arg t s ((f106_walk t ht).1 s h) ht hs (plain_fit (by have:=(parse_some h).2.2; omega)).1
theorem c66s {s : Street} (hr : (s.bs.flatMap boardRows).length + s.ks.length ≤ 600) : Ctr Tryz.prog 36 [s.sv,s.sv] (bS true):=by
  obtain ⟨_,h1,h2,h3⟩:=plain_fit hr
  exact c66 s h1 h2 h3
theorem c66z : Ctr Tryz.prog 36 [noS,noS] (bS true):=by
  have h:=c66s (s:=⟨0,0,0,0,0,0,[],[]⟩) (by decide)
  exact h.args ⟨⟨.refl _,.refl _,.refl _,.refl _,.refl _,.refl _,DEq.nils rfl,DEq.nils rfl,trivial⟩,⟨.refl _,.refl _,.refl _,.refl _,.refl _,.refl _,DEq.nils rfl,DEq.nils rfl,trivial⟩,trivial⟩
end Go.Proofs.Sight
namespace Go.Proofs.Sight
open Go Go.RX Go.Proofs
set_option maxRecDepth 10000
theorem c19 (t : List UInt8) (ht : t.length ≤ 9223372036854775807) : Ctr Tryz.prog 9 [.d (.str t)] (bS true):=by
  (refine Ctr.mk (fn:=Tryz.f9) rfl rfl rfl rfl rfl Tryz.results9 ?_; dsimp only [args,List.toList_toArray])
  ((first | refine qS rfl rfl ?_ | refine qR rfl rfl ?_); simp only [go_sem,↓dP,↓reduceIte]; with_reducible and_intros; all_goals first | apply qA | exact ⟨⟩ | rfl | (intros; apply qB; first | kernel_rfl | omega) | omega | skip)
  refine Ok.seq ?_
  ((first | refine qS rfl rfl ?_ | refine qR rfl rfl ?_); simp only [go_sem,↓dP,↓reduceIte]; with_reducible and_intros; all_goals first | apply qA | exact ⟨⟩ | rfl | (intros; apply qB; first | kernel_rfl | omega) | omega | skip)
  refine Ok.cond rfl ?_ ?_
  · intro _
    ((first | refine qS rfl rfl ?_ | refine qR rfl rfl ?_); simp only [go_sem,↓dP,↓reduceIte]; with_reducible and_intros; all_goals first | apply qA | exact ⟨⟩ | rfl | (intros; apply qB; first | kernel_rfl | omega) | omega | skip)
    (refine AskI.ret (c24) ?_; simp only [go_sem,↓dP,↓reduceIte]; with_reducible and_intros; all_goals first | apply qA | exact ⟨⟩ | rfl | (intros; apply qB; first | kernel_rfl | omega) | omega | skip)
    (refine Ok.ret ?_; (try dsimp only [thenK,blockK,noGotoK]); simp only [toList_mk,List.toList_toArray,retK_ret,retK_normal,resOK,resV,celV,rowV,frzAll,frzT,subV,subL,go_sem,↓dP,↓reduceIte])
    exact .refl _
  intro hb
  have h550 : t.length ≤ 550:=by simp at hb; omega
  have h67:=c67 t h550
  rw [parse_same] at h67
  (refine Ok.skip ?_; (try dsimp only [thenK,blockK,noGotoK]))
  by_cases h450 : 450 < t.length
  · ((first | refine qS rfl rfl ?_ | refine qR rfl rfl ?_); simp only [go_sem,↓dP,↓reduceIte]; with_reducible and_intros; all_goals first | apply qA | exact ⟨⟩ | rfl | (intros; apply qB; first | kernel_rfl | omega) | omega | skip)
    (refine AskI.ret (c64_long t h450 (by omega)) ?_; simp only [go_sem,↓dP,↓reduceIte]; with_reducible and_intros; all_goals first | apply qA | exact ⟨⟩ | rfl | (intros; apply qB; first | kernel_rfl | omega) | omega | skip)
    ((first | refine qS rfl rfl ?_ | refine qR rfl rfl ?_); simp only [go_sem,↓dP,↓reduceIte]; with_reducible and_intros; all_goals first | apply qA | exact ⟨⟩ | rfl | (intros; apply qB; first | kernel_rfl | omega) | omega | skip)
    cases hp : parseP t with
    | none =>
      rw [hp,resR_none] at h67
      (refine AskI.ret (h67) ?_; simp only [go_sem,↓dP,↓reduceIte]; with_reducible and_intros; all_goals first | apply qA | exact ⟨⟩ | rfl | (intros; apply qB; first | kernel_rfl | omega) | omega | skip)
      ((first | refine qS rfl rfl ?_ | refine qR rfl rfl ?_); simp only [go_sem,↓dP,↓reduceIte]; with_reducible and_intros; all_goals first | apply qA | exact ⟨⟩ | rfl | (intros; apply qB; first | kernel_rfl | omega) | omega | skip)
      refine Ok.seq ?_
      ((first | refine qS rfl rfl ?_ | refine qR rfl rfl ?_); simp only [go_sem,↓dP,↓reduceIte]; with_reducible and_intros; all_goals first | apply qA | exact ⟨⟩ | rfl | (intros; apply qB; first | kernel_rfl | omega) | omega | skip)
      refine Ok.cond rfl (fun _ => ?_) (fun hb => by simp at hb; omega)
      ((first | refine qS rfl rfl ?_ | refine qR rfl rfl ?_); simp only [go_sem,↓dP,↓reduceIte]; with_reducible and_intros; all_goals first | apply qA | exact ⟨⟩ | rfl | (intros; apply qB; first | kernel_rfl | omega) | omega | skip)
      (try dsimp only [thenK,blockK,noGotoK])
      refine Ok.seq ?_
      ((first | refine qS rfl rfl ?_ | refine qR rfl rfl ?_); simp only [go_sem,↓dP,↓reduceIte]; with_reducible and_intros; all_goals first | apply qA | exact ⟨⟩ | rfl | (intros; apply qB; first | kernel_rfl | omega) | omega | skip)
      refine Ok.cond (b:=true) (by first | rfl | (simp only [go_sem,↓dP,↓reduceIte]; rfl)) (fun _ => ?_) (fun hb => by cases hb)
      ((first | refine qS rfl rfl ?_ | refine qR rfl rfl ?_); simp only [go_sem,↓dP,↓reduceIte]; with_reducible and_intros; all_goals first | apply qA | exact ⟨⟩ | rfl | (intros; apply qB; first | kernel_rfl | omega) | omega | skip)
      (refine AskGI.ret (fun _ => c66z) ?_; simp only [go_sem,↓dP,↓reduceIte]; with_reducible and_intros; all_goals first | apply qA | exact ⟨⟩ | rfl | (intros; apply qB; first | kernel_rfl | omega) | omega | skip)
      (refine AskGI.ret (fun _ => c24) ?_; simp only [go_sem,↓dP,↓reduceIte]; with_reducible and_intros; all_goals first | apply qA | exact ⟨⟩ | rfl | (intros; apply qB; first | kernel_rfl | omega) | omega | skip)
      (refine Ok.ret ?_; (try dsimp only [thenK,blockK,noGotoK]); simp only [toList_mk,List.toList_toArray,retK_ret,retK_normal,resOK,resV,celV,rowV,frzAll,frzT,subV,subL,go_sem,↓dP,↓reduceIte])
      refine DEq.bool ?_
      simp
    | some s =>
      rw [hp,resR_some] at h67
      (refine AskI.ret (h67) ?_; simp only [go_sem,↓dP,↓reduceIte]; with_reducible and_intros; all_goals first | apply qA | exact ⟨⟩ | rfl | (intros; apply qB; first | kernel_rfl | omega) | omega | skip)
      ((first | refine qS rfl rfl ?_ | refine qR rfl rfl ?_); simp only [go_sem,↓dP,↓reduceIte]; with_reducible and_intros; all_goals first | apply qA | exact ⟨⟩ | rfl | (intros; apply qB; first | kernel_rfl | omega) | omega | skip)
      refine Ok.seq ?_
      ((first | refine qS rfl rfl ?_ | refine qR rfl rfl ?_); simp only [go_sem,↓dP,↓reduceIte]; with_reducible and_intros; all_goals first | apply qA | exact ⟨⟩ | rfl | (intros; apply qB; first | kernel_rfl | omega) | omega | skip)
      refine Ok.cond rfl (fun _ => ?_) (fun hb => by simp at hb; omega)
      ((first | refine qS rfl rfl ?_ | refine qR rfl rfl ?_); simp only [go_sem,↓dP,↓reduceIte]; with_reducible and_intros; all_goals first | apply qA | exact ⟨⟩ | rfl | (intros; apply qB; first | kernel_rfl | omega) | omega | skip)
      (try dsimp only [thenK,blockK,noGotoK])
      refine Ok.seq ?_
      ((first | refine qS rfl rfl ?_ | refine qR rfl rfl ?_); simp only [go_sem,↓dP,↓reduceIte]; with_reducible and_intros; all_goals first | apply qA | exact ⟨⟩ | rfl | (intros; apply qB; first | kernel_rfl | omega) | omega | skip)
      refine Ok.cond (b:=true) (by first | rfl | (simp only [go_sem,↓dP,↓reduceIte]; rfl)) (fun _ => ?_) (fun hb => by cases hb)
      ((first | refine qS rfl rfl ?_ | refine qR rfl rfl ?_); simp only [go_sem,↓dP,↓reduceIte]; with_reducible and_intros; all_goals first | apply qA | exact ⟨⟩ | rfl | (intros; apply qB; first | kernel_rfl | omega) | omega | skip)
      (refine AskGI.ret (fun _ => c66z) ?_; simp only [go_sem,↓dP,↓reduceIte]; with_reducible and_intros; all_goals first | apply qA | exact ⟨⟩ | rfl | (intros; apply qB; first | kernel_rfl | omega) | omega | skip)
      (refine AskGI.ret (fun _ => c24) ?_; simp only [go_sem,↓dP,↓reduceIte]; with_reducible and_intros; all_goals first | apply qA | exact ⟨⟩ | rfl | (intros; apply qB; first | kernel_rfl | omega) | omega | skip)
      (refine Ok.ret ?_; (try dsimp only [thenK,blockK,noGotoK]); simp only [toList_mk,List.toList_toArray,retK_ret,retK_normal,resOK,resV,celV,rowV,frzAll,frzT,subV,subL,go_sem,↓dP,↓reduceIte])
      refine DEq.bool ?_
      simp
  · cases hp : parseP t with
    | none =>
      rw [hp,resR_none] at h67
      ((first | refine qS rfl rfl ?_ | refine qR rfl rfl ?_); simp only [go_sem,↓dP,↓reduceIte]; with_reducible and_intros; all_goals first | apply qA | exact ⟨⟩ | rfl | (intros; apply qB; first | kernel_rfl | omega) | omega | skip)
      (refine AskI.ret (c64_none hp (by omega)) ?_; simp only [go_sem,↓dP,↓reduceIte]; with_reducible and_intros; all_goals first | apply qA | exact ⟨⟩ | rfl | (intros; apply qB; first | kernel_rfl | omega) | omega | skip)
      ((first | refine qS rfl rfl ?_ | refine qR rfl rfl ?_); simp only [go_sem,↓dP,↓reduceIte]; with_reducible and_intros; all_goals first | apply qA | exact ⟨⟩ | rfl | (intros; apply qB; first | kernel_rfl | omega) | omega | skip)
      (refine AskI.ret (h67) ?_; simp only [go_sem,↓dP,↓reduceIte]; with_reducible and_intros; all_goals first | apply qA | exact ⟨⟩ | rfl | (intros; apply qB; first | kernel_rfl | omega) | omega | skip)
      ((first | refine qS rfl rfl ?_ | refine qR rfl rfl ?_); simp only [go_sem,↓dP,↓reduceIte]; with_reducible and_intros; all_goals first | apply qA | exact ⟨⟩ | rfl | (intros; apply qB; first | kernel_rfl | omega) | omega | skip)
      refine Ok.seq ?_
      ((first | refine qS rfl rfl ?_ | refine qR rfl rfl ?_); simp only [go_sem,↓dP,↓reduceIte]; with_reducible and_intros; all_goals first | apply qA | exact ⟨⟩ | rfl | (intros; apply qB; first | kernel_rfl | omega) | omega | skip)
      refine Ok.cond rfl (fun hb => by simp at hb; omega) (fun _ => ?_)
      ((first | refine qS rfl rfl ?_ | refine qR rfl rfl ?_); simp only [go_sem,↓dP,↓reduceIte]; with_reducible and_intros; all_goals first | apply qA | exact ⟨⟩ | rfl | (intros; apply qB; first | kernel_rfl | omega) | omega | skip)
      refine Ok.cond (b:=true) (by first | rfl | (simp only [go_sem,↓dP,↓reduceIte]; rfl)) (fun _ => ?_) (fun hb => by cases hb)
      ((first | refine qS rfl rfl ?_ | refine qR rfl rfl ?_); simp only [go_sem,↓dP,↓reduceIte]; with_reducible and_intros; all_goals first | apply qA | exact ⟨⟩ | rfl | (intros; apply qB; first | kernel_rfl | omega) | omega | skip)
      (try dsimp only [thenK,blockK,noGotoK])
      refine Ok.seq ?_
      ((first | refine qS rfl rfl ?_ | refine qR rfl rfl ?_); simp only [go_sem,↓dP,↓reduceIte]; with_reducible and_intros; all_goals first | apply qA | exact ⟨⟩ | rfl | (intros; apply qB; first | kernel_rfl | omega) | omega | skip)
      refine Ok.cond (b:=true) (by first | rfl | (simp only [go_sem,↓dP,↓reduceIte]; rfl)) (fun _ => ?_) (fun hb => by cases hb)
      ((first | refine qS rfl rfl ?_ | refine qR rfl rfl ?_); simp only [go_sem,↓dP,↓reduceIte]; with_reducible and_intros; all_goals first | apply qA | exact ⟨⟩ | rfl | (intros; apply qB; first | kernel_rfl | omega) | omega | skip)
      (refine AskGI.ret (fun _ => c66z) ?_; simp only [go_sem,↓dP,↓reduceIte]; with_reducible and_intros; all_goals first | apply qA | exact ⟨⟩ | rfl | (intros; apply qB; first | kernel_rfl | omega) | omega | skip)
      (refine AskGI.ret (fun _ => c24) ?_; simp only [go_sem,↓dP,↓reduceIte]; with_reducible and_intros; all_goals first | apply qA | exact ⟨⟩ | rfl | (intros; apply qB; first | kernel_rfl | omega) | omega | skip)
      (refine Ok.ret ?_; (try dsimp only [thenK,blockK,noGotoK]); simp only [toList_mk,List.toList_toArray,retK_ret,retK_normal,resOK,resV,celV,rowV,frzAll,frzT,subV,subL,go_sem,↓dP,↓reduceIte])
      refine DEq.bool ?_
      simp
    | some s =>
      rw [hp,resR_some] at h67
      obtain ⟨hpl,htx,hrw⟩:=parse_some hp
      have hfit:=plain_fit (s:=s) (by omega)
      have h30:=c30 s hfit.1
      by_cases hs : isStreet s = true
      · have hok:=isStreet_ok.1 hs
        have h63:=c63_ok hok
        rw [htx] at h63
        rw [hs] at h30
        ((first | refine qS rfl rfl ?_ | refine qR rfl rfl ?_); simp only [go_sem,↓dP,↓reduceIte]; with_reducible and_intros; all_goals first | apply qA | exact ⟨⟩ | rfl | (intros; apply qB; first | kernel_rfl | omega) | omega | skip)
        (refine AskI.ret (c64_some hp (by omega) hs) ?_; simp only [go_sem,↓dP,↓reduceIte]; with_reducible and_intros; all_goals first | apply qA | exact ⟨⟩ | rfl | (intros; apply qB; first | kernel_rfl | omega) | omega | skip)
        ((first | refine qS rfl rfl ?_ | refine qR rfl rfl ?_); simp only [go_sem,↓dP,↓reduceIte]; with_reducible and_intros; all_goals first | apply qA | exact ⟨⟩ | rfl | (intros; apply qB; first | kernel_rfl | omega) | omega | skip)
        (refine AskI.ret (h67) ?_; simp only [go_sem,↓dP,↓reduceIte]; with_reducible and_intros; all_goals first | apply qA | exact ⟨⟩ | rfl | (intros; apply qB; first | kernel_rfl | omega) | omega | skip)
        ((first | refine qS rfl rfl ?_ | refine qR rfl rfl ?_); simp only [go_sem,↓dP,↓reduceIte]; with_reducible and_intros; all_goals first | apply qA | exact ⟨⟩ | rfl | (intros; apply qB; first | kernel_rfl | omega) | omega | skip)
        refine Ok.seq ?_
        ((first | refine qS rfl rfl ?_ | refine qR rfl rfl ?_); simp only [go_sem,↓dP,↓reduceIte]; with_reducible and_intros; all_goals first | apply qA | exact ⟨⟩ | rfl | (intros; apply qB; first | kernel_rfl | omega) | omega | skip)
        refine Ok.cond rfl (fun hb => by simp at hb; omega) (fun _ => ?_)
        ((first | refine qS rfl rfl ?_ | refine qR rfl rfl ?_); simp only [go_sem,↓dP,↓reduceIte]; with_reducible and_intros; all_goals first | apply qA | exact ⟨⟩ | rfl | (intros; apply qB; first | kernel_rfl | omega) | omega | skip)
        refine Ok.cond (b:=false) (by first | rfl | (simp only [go_sem,↓dP,↓reduceIte]; rfl)) (fun hb => by cases hb) (fun _ => ?_)
        ((first | refine qS rfl rfl ?_ | refine qR rfl rfl ?_); simp only [go_sem,↓dP,↓reduceIte]; with_reducible and_intros; all_goals first | apply qA | exact ⟨⟩ | rfl | (intros; apply qB; first | kernel_rfl | omega) | omega | skip)
        (refine AskI.ret (h30) ?_; simp only [go_sem,↓dP,↓reduceIte]; with_reducible and_intros; all_goals first | apply qA | exact ⟨⟩ | rfl | (intros; apply qB; first | kernel_rfl | omega) | omega | skip)
        refine Ok.cond (b:=false) (by first | rfl | (simp only [go_sem,↓dP,↓reduceIte]; rfl)) (fun hb => by cases hb) (fun _ => ?_)
        (refine Ok.skip ?_; (try dsimp only [thenK,blockK,noGotoK]))
        refine Ok.seq ?_
        ((first | refine qS rfl rfl ?_ | refine qR rfl rfl ?_); simp only [go_sem,↓dP,↓reduceIte]; with_reducible and_intros; all_goals first | apply qA | exact ⟨⟩ | rfl | (intros; apply qB; first | kernel_rfl | omega) | omega | skip)
        refine Ok.cond (b:=false) (by first | rfl | (simp only [go_sem,↓dP,↓reduceIte]; rfl)) (fun hb => by cases hb) (fun _ => ?_)
        (refine Ok.skip ?_; (try dsimp only [thenK,blockK,noGotoK]))
        ((first | refine qS rfl rfl ?_ | refine qR rfl rfl ?_); simp only [go_sem,↓dP,↓reduceIte]; with_reducible and_intros; all_goals first | apply qA | exact ⟨⟩ | rfl | (intros; apply qB; first | kernel_rfl | omega) | omega | skip)
        (refine AskI.ret (h63) ?_; simp only [go_sem,↓dP,↓reduceIte]; with_reducible and_intros; all_goals first | apply qA | exact ⟨⟩ | rfl | (intros; apply qB; first | kernel_rfl | omega) | omega | skip)
        ((first | refine qS rfl rfl ?_ | refine qR rfl rfl ?_); simp only [go_sem,↓dP,↓reduceIte]; with_reducible and_intros; all_goals first | apply qA | exact ⟨⟩ | rfl | (intros; apply qB; first | kernel_rfl | omega) | omega | skip)
        (refine AskGI.ret (fun _ => c66s (by omega)) ?_; simp only [go_sem,↓dP,↓reduceIte]; with_reducible and_intros; all_goals first | apply qA | exact ⟨⟩ | rfl | (intros; apply qB; first | kernel_rfl | omega) | omega | skip)
        (refine AskGI.ret (fun _ => c24) ?_; simp only [go_sem,↓dP,↓reduceIte]; with_reducible and_intros; all_goals first | apply qA | exact ⟨⟩ | rfl | (intros; apply qB; first | kernel_rfl | omega) | omega | skip)
        (refine Ok.ret ?_; (try dsimp only [thenK,blockK,noGotoK]); simp only [toList_mk,List.toList_toArray,retK_ret,retK_normal,resOK,resV,celV,rowV,frzAll,frzT,subV,subL,go_sem,↓dP,↓reduceIte])
        refine DEq.bool ?_
        simp
      · have hs' : isStreet s = false:=by simpa using hs
        rw [hs'] at h30
        ((first | refine qS rfl rfl ?_ | refine qR rfl rfl ?_); simp only [go_sem,↓dP,↓reduceIte]; with_reducible and_intros; all_goals first | apply qA | exact ⟨⟩ | rfl | (intros; apply qB; first | kernel_rfl | omega) | omega | skip)
        (refine AskI.ret (c64_bad hp (by omega) hs') ?_; simp only [go_sem,↓dP,↓reduceIte]; with_reducible and_intros; all_goals first | apply qA | exact ⟨⟩ | rfl | (intros; apply qB; first | kernel_rfl | omega) | omega | skip)
        ((first | refine qS rfl rfl ?_ | refine qR rfl rfl ?_); simp only [go_sem,↓dP,↓reduceIte]; with_reducible and_intros; all_goals first | apply qA | exact ⟨⟩ | rfl | (intros; apply qB; first | kernel_rfl | omega) | omega | skip)
        (refine AskI.ret (h67) ?_; simp only [go_sem,↓dP,↓reduceIte]; with_reducible and_intros; all_goals first | apply qA | exact ⟨⟩ | rfl | (intros; apply qB; first | kernel_rfl | omega) | omega | skip)
        ((first | refine qS rfl rfl ?_ | refine qR rfl rfl ?_); simp only [go_sem,↓dP,↓reduceIte]; with_reducible and_intros; all_goals first | apply qA | exact ⟨⟩ | rfl | (intros; apply qB; first | kernel_rfl | omega) | omega | skip)
        refine Ok.seq ?_
        ((first | refine qS rfl rfl ?_ | refine qR rfl rfl ?_); simp only [go_sem,↓dP,↓reduceIte]; with_reducible and_intros; all_goals first | apply qA | exact ⟨⟩ | rfl | (intros; apply qB; first | kernel_rfl | omega) | omega | skip)
        refine Ok.cond rfl (fun hb => by simp at hb; omega) (fun _ => ?_)
        ((first | refine qS rfl rfl ?_ | refine qR rfl rfl ?_); simp only [go_sem,↓dP,↓reduceIte]; with_reducible and_intros; all_goals first | apply qA | exact ⟨⟩ | rfl | (intros; apply qB; first | kernel_rfl | omega) | omega | skip)
        refine Ok.cond (b:=false) (by first | rfl | (simp only [go_sem,↓dP,↓reduceIte]; rfl)) (fun hb => by cases hb) (fun _ => ?_)
        ((first | refine qS rfl rfl ?_ | refine qR rfl rfl ?_); simp only [go_sem,↓dP,↓reduceIte]; with_reducible and_intros; all_goals first | apply qA | exact ⟨⟩ | rfl | (intros; apply qB; first | kernel_rfl | omega) | omega | skip)
        (refine AskI.ret (h30) ?_; simp only [go_sem,↓dP,↓reduceIte]; with_reducible and_intros; all_goals first | apply qA | exact ⟨⟩ | rfl | (intros; apply qB; first | kernel_rfl | omega) | omega | skip)
        refine Ok.cond (b:=true) (by first | rfl | (simp only [go_sem,↓dP,↓reduceIte]; rfl)) (fun _ => ?_) (fun hb => by cases hb)
        ((first | refine qS rfl rfl ?_ | refine qR rfl rfl ?_); simp only [go_sem,↓dP,↓reduceIte]; with_reducible and_intros; all_goals first | apply qA | exact ⟨⟩ | rfl | (intros; apply qB; first | kernel_rfl | omega) | omega | skip)
        (try dsimp only [thenK,blockK,noGotoK])
        refine Ok.seq ?_
        ((first | refine qS rfl rfl ?_ | refine qR rfl rfl ?_); simp only [go_sem,↓dP,↓reduceIte]; with_reducible and_intros; all_goals first | apply qA | exact ⟨⟩ | rfl | (intros; apply qB; first | kernel_rfl | omega) | omega | skip)
        refine Ok.cond (b:=true) (by first | rfl | (simp only [go_sem,↓dP,↓reduceIte]; rfl)) (fun _ => ?_) (fun hb => by cases hb)
        ((first | refine qS rfl rfl ?_ | refine qR rfl rfl ?_); simp only [go_sem,↓dP,↓reduceIte]; with_reducible and_intros; all_goals first | apply qA | exact ⟨⟩ | rfl | (intros; apply qB; first | kernel_rfl | omega) | omega | skip)
        (refine AskGI.ret (fun _ => c66z) ?_; simp only [go_sem,↓dP,↓reduceIte]; with_reducible and_intros; all_goals first | apply qA | exact ⟨⟩ | rfl | (intros; apply qB; first | kernel_rfl | omega) | omega | skip)
        (refine AskGI.ret (fun _ => c24) ?_; simp only [go_sem,↓dP,↓reduceIte]; with_reducible and_intros; all_goals first | apply qA | exact ⟨⟩ | rfl | (intros; apply qB; first | kernel_rfl | omega) | omega | skip)
        (refine Ok.ret ?_; (try dsimp only [thenK,blockK,noGotoK]); simp only [toList_mk,List.toList_toArray,retK_ret,retK_normal,resOK,resV,celV,rowV,frzAll,frzT,subV,subL,go_sem,↓dP,↓reduceIte])
        refine DEq.bool ?_
        simp
end Go.Proofs.Sight
namespace Go.Proofs.Sight
open Go Go.RX Go.Proofs Go.RowKit Go.ChangeShapes Go.WideShapes Go.Deep Go.ChangeAt
set_option maxRecDepth 100000
section
variable {H : Type} {enc : TypeId × Value → H} {W : World}
theorem cell3 : Tryz.prog.cellsOf 3 = 1:=by kernel_rfl
theorem cell4 : Tryz.prog.cellsOf 4 = 1:=by kernel_rfl
theorem cell23 : Tryz.prog.cellsOf 23 = 2:=by kernel_rfl
theorem cell24 : Tryz.prog.cellsOf 24 = 1:=by kernel_rfl
theorem cell25 : Tryz.prog.cellsOf 25 = 1:=by kernel_rfl
theorem cell27 : Tryz.prog.cellsOf 27 = 8:=by kernel_rfl
theorem cell29 : Tryz.prog.cellsOf 42 = 2:=by kernel_rfl
theorem cell49 : Tryz.prog.cellsOf 36 = 1:=by kernel_rfl
theorem cell51 : Tryz.prog.cellsOf 38 = 2:=by kernel_rfl
theorem cell59 : Tryz.prog.cellsOf 45 = 4:=by kernel_rfl
theorem cell66 : Tryz.prog.cellsOf 48 = 5:=by kernel_rfl
abbrev There (W : World) : Nat → Prop:=fun b => b < W.heap.size
theorem cell_there {a : Addr} {v : Value} (h : W.cell? a = some v) : a.spot = none ∧ a.block < W.heap.size:=by
  unfold World.cell? at h
  cases ho : W.heap[a.block]? with
  | none => rw [ho] at h; cases h
  | some o =>
    have hlt:=(Array.getElem?_eq_some_iff.1 ho).1
    rw [ho] at h
    cases o <;> simp only at h <;> try (cases h; done)
    cases hsp : a.spot with
    | none => exact ⟨rfl,hlt⟩
    | some x => rw [hsp] at h; simp at h
theorem open_rows {α : Type} [Inhabited α] {t e k : Nat} (ht : Tryz.prog.underlying t = some (.slice e)) (hc : Tryz.prog.cellsOf e = k) (hk : 0 < k) (f : α → Nat → DV) (Q : α → Prop)
    (hel : ∀ n cs x,DataW.trod enc Tryz.prog W 0 (fun _ => true) true n e cs = some x → ∃ y : α,Q y ∧ cs.length = k ∧ ∀ j u,cs[j]? = some u → Rep (There W) W u (f y j))
    {n : Nat} {cs : List Value} {x : DataW H × List MemPlace} (h : DataW.trod enc Tryz.prog W 0 (fun _ => true) true n t cs = some x) :
    ∃ (v : Value) (l : List α),cs = [v] ∧ l.length ≤ maxLen ∧ Rep (There W) W v (slD k f l) ∧ ∀ y ∈ l,Q y:=by
  rcases open_slice ht h with ⟨rfl,_⟩ | ⟨a,len,cap,m,n',D,Pl,rfl,hb,hl,hm,hmm,rfl,hx⟩
  · exact ⟨_,[],rfl,Nat.zero_le _,.sl0,fun y hy => by simp at hy⟩
  simp only [if_true] at hmm
  subst hmm
  have hx' : ∀ i,i < len → ∃ y : α,Q y ∧ ∀ j,j < k → ∃ u,W.cell? ((a.add (i * k)).add j) = some u ∧ Rep (There W) W u (f y j):=by
    intro i hi
    obtain ⟨cs',h1,h2⟩:=hx i (by omega)
    rw [hc] at h1
    obtain ⟨y,hq,hlen,hr⟩:=hel _ _ _ h2
    obtain ⟨_,_,h3⟩:=World.cells?_some h1
    refine ⟨y,hq,fun j hj => ?_⟩
    have hj' : j < cs'.length:=by omega
    exact ⟨cs'[j],by rw [h3 j hj,List.getElem?_eq_getElem hj'],hr j _ (List.getElem?_eq_getElem hj')⟩
  obtain ⟨L,hL⟩:=choose_lt hx'
  by_cases h0 : len = 0
  · subst h0
    exact ⟨_,[],rfl,Nat.zero_le _,.sl1 hm,fun y hy => by simp at hy⟩
  · obtain ⟨u0,hu0,_⟩:=(hL 0 (by omega)).2 0 hk
    rw [Go.Deep.add_add,show 0 * k + 0 = 0 by omega,show a.add 0 = a from rfl] at hu0
    obtain ⟨hs,hlt⟩:=cell_there hu0
    obtain ⟨b,o,sp⟩:=a
    simp only at hs hlt
    subst hs
    refine ⟨_,(List.range len).map L,rfl,by simp; omega,?_,fun y hy => ?_⟩
    · have hll : ((List.range len).map L).length = len:=by simp
      show Rep _ _ _ (.sl k ((List.range len).map L).length _)
      rw [hll]
      refine .sl (fun i j => (W.cell? ⟨b,o + (i * k + j),none⟩).getD undef) hlt hl hm (fun i j hi hj => ?_) (fun i j hi hj => ?_)
      · obtain ⟨u,hu,_⟩:=(hL i hi).2 j hj
        rw [Go.Deep.add_add,Addr.add_mid] at hu
        rw [hu]; rfl
      · obtain ⟨u,hu,hr⟩:=(hL i hi).2 j hj
        rw [Go.Deep.add_add,Addr.add_mid] at hu
        rw [hu]
        have : ((List.range len).map L).getD i default = L i:=by simp [List.getD_eq_getElem?_getD,hi]
        rw [this]; exact hr
    · obtain ⟨i,hi,rfl⟩:=List.mem_map.1 hy
      exact (hL i (List.mem_range.1 hi)).1
theorem open_letter (n : Nat) (cs : List Value) (x : DataW H × List MemPlace) (h : DataW.trod enc Tryz.prog W 0 (fun _ => true) true n 45 cs = some x) : ∃ y : Letter,True ∧ cs.length = 4 ∧ ∀ j u,cs[j]? = some u → Rep (There W) W u (letD y j):=by
  obtain ⟨y0,y1,y2,y3,m,_,hl,h0,h1,h2,h3⟩:=Joins.trod_struct4 Tryz.underlying45 h
  rw [cell59] at hl
  match cs,hl with
  | [c0,c1,c2,c3],_ =>
    obtain ⟨n0,e0,_⟩:=DataW.trod_int Tryz.underlying3 h0
    obtain ⟨n1,e1,_⟩:=DataW.trod_int Tryz.underlying3 h1
    obtain ⟨n2,e2,_⟩:=DataW.trod_int Tryz.underlying3 h2
    obtain ⟨n3,e3,_⟩:=DataW.trod_int Tryz.underlying3 h3
    simp [cell3] at e0 e1 e2 e3
    subst e0; subst e1; subst e2; subst e3
    refine ⟨⟨n0,n1,n2,n3⟩,trivial,rfl,fun j u hu => ?_⟩
    match j,hu with
    | 0,hu => simp at hu; subst hu; exact .int
    | 1,hu => simp at hu; subst hu; exact .int
    | 2,hu => simp at hu; subst hu; exact .int
    | 3,hu => simp at hu; subst hu; exact .int
    | j + 4,hu => simp at hu
theorem open_span {n : Nat} {cs : List Value} {x : DataW H × List MemPlace} (h : DataW.trod enc Tryz.prog W 0 (fun _ => true) true n 23 cs = some x) : ∃ a b : Int,cs = [.int .i64 a,.int .i64 b]:=by
  obtain ⟨y0,y1,m,_,hl,h0,h1⟩:=trod_struct2 Tryz.underlying23 h
  rw [cell23] at hl
  match cs,hl with
  | [c0,c1],_ =>
    obtain ⟨n0,e0,_⟩:=DataW.trod_int Tryz.underlying3 h0
    obtain ⟨n1,e1,_⟩:=DataW.trod_int Tryz.underlying3 h1
    simp [cell3] at e0 e1
    subst e0; subst e1
    exact ⟨n0,n1,rfl⟩
theorem open_block (n : Nat) (cs : List Value) (x : DataW H × List MemPlace) (h : DataW.trod enc Tryz.prog W 0 (fun _ => true) true n 48 cs = some x) : ∃ y : Block,True ∧ cs.length = 5 ∧ ∀ j u,cs[j]? = some u → Rep (There W) W u (bloD y j):=by
  obtain ⟨y0,y1,y2,m,_,hl,h0,h1,h2⟩:=trod_struct3 Tryz.underlying48 h
  rw [cell66] at hl
  match cs,hl with
  | [c0,c1,c2,c3,c4],_ =>
    obtain ⟨a0,b0,e0⟩:=open_span h0
    obtain ⟨a1,b1,e1⟩:=open_span h1
    obtain ⟨s,e2,_⟩:=DataW.trod_bool Tryz.underlying4 h2
    simp [cell23,cell4] at e0 e1 e2
    obtain ⟨rfl,rfl⟩:=e0
    obtain ⟨rfl,rfl⟩:=e1
    subst e2
    refine ⟨⟨a0,b0,a1,b1,s⟩,trivial,rfl,fun j u hu => ?_⟩
    match j,hu with
    | 0,hu => simp at hu; subst hu; exact .int
    | 1,hu => simp at hu; subst hu; exact .int
    | 2,hu => simp at hu; subst hu; exact .int
    | 3,hu => simp at hu; subst hu; exact .int
    | 4,hu => simp at hu; subst hu; exact .bool
    | j + 5,hu => simp at hu
theorem open_board (n : Nat) (cs : List Value) (x : DataW H × List MemPlace) (h : DataW.trod enc Tryz.prog W 0 (fun _ => true) true n 38 cs = some x) : ∃ y : Board,y.ls.length ≤ maxLen ∧ cs.length = 2 ∧ ∀ j u,cs[j]? = some u → Rep (There W) W u (boaD y j):=by
  obtain ⟨y0,y1,m,_,hl,h0,h1⟩:=trod_struct2 Tryz.underlying38 h
  rw [cell51] at hl
  match cs,hl with
  | [c0,c1],_ =>
    obtain ⟨n0,e0,_⟩:=DataW.trod_int Tryz.underlying3 h0
    obtain ⟨v,l,e1,hlen,hrep,_⟩:=open_rows Tryz.underlying36 cell59 (by decide) letD (fun _ => True) open_letter h1
    simp [cell3,cell49] at e0 e1
    subst e0; subst e1
    refine ⟨⟨n0,l⟩,hlen,rfl,fun j u hu => ?_⟩
    match j,hu with
    | 0,hu => simp at hu; subst hu; exact .int
    | 1,hu => simp at hu; subst hu; exact hrep
    | j + 2,hu => simp at hu
theorem open_street {v : Value} {d : DataW H} {ps : List MemPlace} {b0 : Nat} (hok : Value.okWide Tryz.prog W .any b0 27 v) (h : DataW.Trod enc Tryz.prog W 0 (fun _ => true) true 27 v d ps) : ∃ s : Street,RepS (There W) W v s.sv ∧ s.held:=by
  unfold Value.okWide at hok
  rw [Tryz.underlying27] at hok
  obtain ⟨cs,rfl,_,_⟩:=hok
  obtain ⟨n,h⟩:=h
  obtain ⟨xs,m,_,_,hl,hlen,hf⟩:=DataW.trod_struct Tryz.underlying27 h
  simp only [Value.cells] at hl hf
  rw [cell27] at hl
  match xs,hlen with
  | [y0,y1,y2,y3,y4,y5],_ =>
    have h0:=hf 0 _ rfl
    have h1:=hf 1 _ rfl
    have h2:=hf 2 _ rfl
    have h3:=hf 3 _ rfl
    have h4:=hf 4 _ rfl
    have h5:=hf 5 _ rfl
    obtain ⟨cs⟩:=cs
    simp only at hl h0 h1 h2 h3 h4 h5
    match cs,hl with
    | [c0,c1,c2,c3,c4,c5,c6,c7],_ =>
      obtain ⟨n0,e0,_⟩:=DataW.trod_int Tryz.underlying3 h0
      obtain ⟨n1,e1,_⟩:=DataW.trod_int Tryz.underlying3 h1
      obtain ⟨a2,b2,e2⟩:=open_span h2
      obtain ⟨a3,b3,e3⟩:=open_span h3
      obtain ⟨v4,bs,e4,hbl,hbr,hbq⟩:=open_rows Tryz.underlying24 cell51 (by decide) boaD (fun b => b.ls.length ≤ maxLen) open_board h4
      obtain ⟨v5,ks,e5,hkl,hkr,_⟩:=open_rows Tryz.underlying25 cell66 (by decide) bloD (fun _ => True) open_block h5
      simp [cell3,cell23,cell24,cell25] at e0 e1 e2 e3 e4 e5
      subst e0; subst e1
      obtain ⟨rfl,rfl⟩:=e2
      obtain ⟨rfl,rfl⟩:=e3
      subst e4; subst e5
      refine ⟨⟨n0,n1,a2,b2,a3,b3,bs,ks⟩,Fits.reps (xs:=[iD n0,iD n1,iD a2,iD b2,iD a3,iD b3,slD 2 boaD bs,slD 5 bloD ks]) (.cons .int (.cons .int (.cons .int (.cons .int (.cons .int (.cons .int (.cons hbr (.cons hkr .nil)))))))),?_,?_,fun b hb => ?_⟩
      · have : maxLen ≤ 9223372036854775807:=by decide
        exact Nat.le_trans hbl this
      · have : maxLen ≤ 9223372036854775807:=by decide
        exact Nat.le_trans hkl this
      · have : maxLen ≤ 9223372036854775807:=by decide
        exact Nat.le_trans (hbq b hb) this
theorem open_place {v : Value} {d : DataW H} {ps : List MemPlace} {b0 : Nat} (hok : Value.okWide Tryz.prog W .any b0 42 v) (h : DataW.Trod enc Tryz.prog W 0 (fun _ => true) true 42 v d ps) : ∃ p : Place,RepS (There W) W v p.sv:=by
  unfold Value.okWide at hok
  rw [Tryz.underlying42] at hok
  obtain ⟨cs,rfl,_,_⟩:=hok
  obtain ⟨n,h⟩:=h
  obtain ⟨y0,y1,m,_,hl,h0,h1⟩:=trod_struct2 Tryz.underlying42 h
  simp only [Value.cells] at hl h0 h1
  rw [cell29] at hl
  obtain ⟨cs⟩:=cs
  simp only at hl h0 h1
  match cs,hl with
  | [c0,c1],_ =>
    obtain ⟨n0,e0,_⟩:=DataW.trod_int Tryz.underlying3 h0
    obtain ⟨n1,e1,_⟩:=DataW.trod_int Tryz.underlying3 h1
    simp [cell3] at e0 e1
    subst e0; subst e1
    exact ⟨⟨n0,n1⟩,Fits.reps (xs:=[iD n0,iD n1]) (.cons .int (.cons .int .nil))⟩
end
end Go.Proofs.Sight
namespace Go.Proofs.YtchnganlpgfdjaaGreatDoor
open Go Go.RX Go.Proofs.Sight Go.RowKit Go.ChangeShapes Go.WideShapes Go.ChangeAt
set_option maxRecDepth 100000
theorem own : ownKnob Tryz.prog.godebug = none:=by kernel_rfl
abbrev laid5 : List (String × DataW Unit):=Rows.sightHangsRow.laid
theorem tabs_of {W : World} (hL : laidMetH Tryz.prog laid5 W) (hS : W.ShapedOpen Tryz.prog) : Tabs W:=by
  rw [MakeChecks.laidMetH_plain _ _ _ (by kernel_rfl)] at hL
  refine ⟨?_,?_⟩
  · exact Lib.tabIs_of_head (zs:=Lib.pow10Tab) (g:=0) (t:=211) (e:=198) (n:=20) (by kernel_rfl) (by kernel_rfl) Tryz.underlying211 Tryz.underlying198 (by kernel_rfl) (by kernel_rfl) hL.tail.tail
  · exact Go.Proofs.cell_of_shapedOpen_int (t:=3) (zero:=#[.int .i64 0]) hS (of_decide_eq_true (by kernel_rfl)) (by kernel_rfl) rfl (by kernel_rfl) (by kernel_rfl) Tryz.underlying3
variable {H : Type} {enc : TypeId × Value → H}
theorem trodAll_below {W W' : World} (hb : Below W.heap.size W W') : ∀ {ts : List TypeId} {vs : List Value} {ds : List (DataW H)} {ps : List MemPlace},(∀ t ∈ ts,Tryz.prog.readableRec t = true ∧ t < Tryz.prog.types.size) →
    DataW.TrodAll enc Tryz.prog W 0 (fun _ => true) true ts vs ds ps → (∀ x ∈ ps,x.block < W.heap.size) → DataW.TrodAll enc Tryz.prog W' 0 (fun b => decide (b < W.heap.size)) true ts vs ds ps
  | [],[],[],_,_,h,_ => h
  | _ :: _,_ :: _,_ :: _,_,hT,⟨p,q,h1,h2,e⟩,hs => ⟨p,q,Below.trod laidOut (hT _ (List.mem_cons.2 (Or.inl rfl))).1 (hT _ (List.mem_cons.2 (Or.inl rfl))).2 h1 hb (fun x hx => hs x (by rw [e]; exact List.mem_append_left _ hx)),
      trodAll_below hb (fun t ht => hT t (List.mem_cons.2 (Or.inr ht))) h2 (fun x hx => hs x (by rw [e]; exact List.mem_append_right _ hx)),e⟩
theorem law_ret {os : Os} {f : FuncId} {fn : Func} (s : ChangeSpec) (hv : s.vars = []) (started : os.Started) (noInit : Tryz.prog.inits.idxOf? f = none) (hfn : Tryz.prog.funcs[f]? = some fn) (hres : fn.resultTypes = #[4])
    (hts : ∀ t ∈ fn.params.toList,Tryz.prog.readableRec t = true ∧ t < Tryz.prog.types.size)
    (hs : ∀ ds : List (DataW H),ds.length = fn.params.toList.length → s.fn H (ds ++ []) = { results:=[.lit (.bool true)],args:=ds })
    (witness : ∃ (w : World) (tape : Tape) (i : Input),w.os = os ∧ (w.forCall tape i).Shaped Tryz.prog ∧ i.vars = [] ∧ Input.okWide Tryz.prog (w.forCall tape i) .any w.heap.size f i ∧
      ((s.pre enc Tryz.prog fn [] false (w.forCall tape i).memory i.args ∧ laidMetH Tryz.prog laid5 (w.forCall tape i).memory) ∧ sizedMet enc Tryz.prog fn (OpenSpec.ofChange s) false (w.forCall tape i).memory i.args) ∧ ({} : Assume).holds Tryz.prog (lone (Frame.enter Tryz.prog f i.args .normal) [] (w.forCall tape i)))
    (contract : ∀ (W : World) (base : Nat) (args : Array Value) (ds : List (DataW H)) (ps : List MemPlace),
      (∀ (j : Nat) t v,fn.params[j]? = some t → args[j]? = some v → Value.okWide Tryz.prog W .any base t v) →
      DataW.TrodAll enc Tryz.prog W 0 (fun _ => true) true fn.params.toList args.toList ds ps → Tabs W →
      Calls Tryz.prog f args W fun e W' => e = .returned (.bool true) ∧ Below W.heap.size W W') :
    ReturnsInHanded {} Tryz.checked os f .any (fun w args => (s.pre enc Tryz.prog fn [] false w args ∧ laidMetH Tryz.prog laid5 w) ∧ sizedMet enc Tryz.prog fn (OpenSpec.ofChange s) false w args) (s.post enc Tryz.prog fn false true false false):=by
  refine returnsInHanded_of_calls (C:=Tryz.checked) own started noInit witness ?_
  intro w tape i _ hsh _ hok hpre hholds
  obtain ⟨_,_,_,fn',hfn',_,_,_,_,hval⟩:=hok
  have e : fn' = fn:=Option.some.inj (hfn'.symm.trans hfn)
  subst e
  obtain ⟨⟨⟨ds,gs,before,hw,hc⟩,hx⟩,hz⟩:=hpre
  have hW':=DataW.Whole.of_heap (w':=w.forCall tape i) (by rfl) hw
  have hW:=hW'
  obtain ⟨p,q,hA,hV,rfl,_,_⟩:=hW
  rw [hv] at hV
  obtain ⟨rfl,rfl⟩:=trodVars_none hV
  have hL : laidMetH Tryz.prog laid5 (w.forCall tape i):=hx.of_heap (by rfl)
  refine (contract (w.forCall tape i) w.heap.size i.args ds p hval hA (tabs_of hL hsh)).mono fun e W' ⟨he,hb⟩ => ?_
  subst he
  refine ChangeSpec.post_blind ?_
  have hlen:=(Go.trodAll_length hA).2
  have hsf:=hs ds hlen
  refine ⟨ds,[],_,[],p,[],hW',?_,?_,?_,hb.frame _,fun h => by cases h⟩
  · rw [hsf,hres]
    exact trodAll_mk1 (shut_bool Tryz.underlying4 _)
  · rw [hsf]
    exact trodAll_below hb hts hA (fun x hx => by
      have:=hW'.lt x (by simpa using hx)
      exact this)
  · rw [hsf,hv]
    rfl
end Go.Proofs.YtchnganlpgfdjaaGreatDoor
namespace Go.Proofs.YtchnganlpgfdjaaGreatDoor
open Go Go.RX Go.Proofs.Sight Go.RowKit Go.ChangeShapes Go.WideShapes Go.ChangeAt
set_option maxRecDepth 100000
def opens (t : TypeId) (A : SV) : Prop :=
  (t = 27 ∧ ∃ s : Street,A = s.sv ∧ s.held) ∨ (t = 42 ∧ ∃ p : Go.Proofs.Sight.Place,A = p.sv) ∨ (t = 3 ∧ ∃ i : Int,A = iS i ∧ -9223372036854775808 ≤ i ∧ i ≤ 9223372036854775807) ∨ (t = 9 ∧ ∃ x : List UInt8,A = .d (.str x) ∧ x.length ≤ maxLen)
def opensAll : List TypeId → List SV → Prop
  | [],[] => True
  | t :: ts,A :: As => opens t A ∧ opensAll ts As
  | _,_ => False
section
variable {H : Type} {enc : TypeId × Value → H} {W : World}
theorem open_one {t : TypeId} {v : Value} {d : DataW H} {ps : List MemPlace} {b0 : Nat} (ht : t = 27 ∨ t = 42 ∨ t = 3 ∨ t = 9) (hok : Value.okWide Tryz.prog W .any b0 t v)
    (h : DataW.Trod enc Tryz.prog W 0 (fun _ => true) true t v d ps) : ∃ A,opens t A ∧ RepS (There W) W v A:=by
  rcases ht with rfl | rfl | rfl | rfl
  · obtain ⟨s,hr,hh⟩:=open_street hok h
    exact ⟨_,.inl ⟨rfl,s,rfl,hh⟩,hr⟩
  · obtain ⟨p,hr⟩:=open_place hok h
    exact ⟨_,.inr (.inl ⟨rfl,p,rfl⟩),hr⟩
  · obtain ⟨m,rfl,_,_,hm⟩:=open_int Tryz.underlying3 hok h
    simp [Lit.wf,IntKind.min,IntKind.max,IntKind.signed,IntKind.bits] at hm
    exact ⟨iS m,.inr (.inr (.inl ⟨rfl,m,rfl,by omega,by omega⟩)),RepS.of .int⟩
  · obtain ⟨x,rfl,_,_,hm⟩:=Go.ChangeMaps.open_string Tryz.underlying9 hok h
    refine ⟨.d (.str x.data.toList),.inr (.inr (.inr ⟨rfl,_,rfl,?_⟩)),RepS.of (.str rfl)⟩
    have : x.data.toList.length = x.size:=rfl
    omega
theorem open_all {b0 : Nat} : ∀ {ts : List TypeId} {vs : List Value} {ds : List (DataW H)} {ps : List MemPlace},(∀ t ∈ ts,t = 27 ∨ t = 42 ∨ t = 3 ∨ t = 9) →
    (∀ (j : Nat) t v,ts[j]? = some t → vs[j]? = some v → Value.okWide Tryz.prog W .any b0 t v) → DataW.TrodAll enc Tryz.prog W 0 (fun _ => true) true ts vs ds ps →
    ∃ As,opensAll ts As ∧ vs.length = As.length ∧ ∀ (j : Nat) u s,vs[j]? = some u → As[j]? = some s → RepS (There W) W u s
  | [],vs,ds,ps,_,_,h => by
    obtain ⟨rfl,rfl,rfl⟩:=trodAll_nil h
    exact ⟨[],trivial,rfl,fun j u s h1 _ => by simp at h1⟩
  | t :: ts,vs,ds,ps,hT,hv,h => by
    obtain ⟨v,vs',d,ds',p,q,rfl,rfl,rfl,h1,h2⟩:=trodAll_cons h
    obtain ⟨A,ha,hr⟩:=open_one (hT t (List.mem_cons.2 (.inl rfl))) (hv 0 t v rfl rfl) h1
    obtain ⟨As,hA,hl,hR⟩:=open_all (fun t ht => hT t (List.mem_cons.2 (.inr ht))) (fun j t v a b => hv (j + 1) t v (by simpa using a) (by simpa using b)) h2
    refine ⟨A :: As,⟨ha,hA⟩,by simp [hl],fun j u s a b => ?_⟩
    cases j with
    | zero =>
      simp at a b
      subst a; subst b
      exact hr
    | succ j => exact hR j u s (by simpa using a) (by simpa using b)
theorem read_of {t : TypeId} (ht : t = 27 ∨ t = 42 ∨ t = 3 ∨ t = 9) : Tryz.prog.readableRec t = true ∧ t < Tryz.prog.types.size:=by
  rcases ht with rfl | rfl | rfl | rfl <;> exact ⟨by kernel_rfl,of_decide_eq_true (by kernel_rfl)⟩
end
theorem opensAll_cons {t : TypeId} {ts : List TypeId} {As : List SV} (h : opensAll (t :: ts) As) : ∃ A Bs,As = A :: Bs ∧ opens t A ∧ opensAll ts Bs:=by
  cases As with
  | nil => exact h.elim
  | cons A Bs => exact ⟨A,Bs,rfl,h.1,h.2⟩
theorem opensAll_nil {As : List SV} (h : opensAll [] As) : As = []:=by
  cases As with
  | nil => rfl
  | cons A Bs => exact h.elim
theorem opens_text {A : SV} (h : opens 9 A) : ∃ x : List UInt8,A = .d (.str x) ∧ x.length ≤ maxLen:=by
  rcases h with h | h | h | h
  · exact absurd h.1 (by decide)
  · exact absurd h.1 (by decide)
  · exact absurd h.1 (by decide)
  · exact h.2
theorem law_stand {t : TypeId} {ts : List TypeId} (hts : ∀ t ∈ ts,t = 27 ∨ t = 42 ∨ t = 3 ∨ t = 9) (ht : t ∈ ts) : Tryz.prog.wantsStandIn t = false:=by
  rcases hts t ht with rfl | rfl | rfl | rfl <;> kernel_rfl
theorem law_ctr {H : Type} {enc : TypeId × Value → H} {os : Os} {f : FuncId} {fn : Func} {ts : List TypeId} (s : ChangeSpec) (hv : s.vars = []) (started : os.Started) (noInit : Tryz.prog.inits.idxOf? f = none) (hfn : Tryz.prog.funcs[f]? = some fn) (hres : fn.resultTypes = #[4])
    (hp : fn.params.toList = ts) (hts : ∀ t ∈ ts,t = 27 ∨ t = 42 ∨ t = 3 ∨ t = 9)
    (hs : ∀ ds : List (DataW H),ds.length = ts.length → s.fn H (ds ++ []) = { results:=[.lit (.bool true)],args:=ds })
    (witness : ∃ (w : World) (tape : Tape) (i : Input),w.os = os ∧ (w.forCall tape i).Shaped Tryz.prog ∧ i.vars = [] ∧ Input.okWide Tryz.prog (w.forCall tape i) .any w.heap.size f i ∧
      ((s.pre enc Tryz.prog fn [] false (w.forCall tape i).memory i.args ∧ laidMetH Tryz.prog laid5 (w.forCall tape i).memory) ∧ sizedMet enc Tryz.prog fn (OpenSpec.ofChange s) false (w.forCall tape i).memory i.args) ∧ ({} : Assume).holds Tryz.prog (lone (Frame.enter Tryz.prog f i.args .normal) [] (w.forCall tape i)))
    (contract : ∀ As,opensAll ts As → Ctr Tryz.prog f As (bS true)) :
    ReturnsInHanded {} Tryz.checked os f .any (fun w args => (s.pre enc Tryz.prog fn [] false w args ∧ laidMetH Tryz.prog laid5 w) ∧ sizedMet enc Tryz.prog fn (OpenSpec.ofChange s) false w args) (s.post enc Tryz.prog fn false true false false):=by
  subst hp
  refine law_ret s hv started noInit hfn hres (fun t ht => read_of (hts t ht)) hs witness ?_
  intro W base args ds ps hval hA hT
  obtain ⟨As,ho,hl,hR⟩:=open_all (b0:=base) hts (fun j t v a b => hval j t v (by simpa using a) (by simpa using b)) hA
  refine ((contract As ho).2 (There W) W args hT (fun b h => h) (by simpa using hl) (fun j u s a b => hR j u s (by simpa using a) b)).mono fun e W' ⟨v,he,hr,hb⟩ => ?_
  subst he
  have h0:=hr (fun _ => none)
  cases h0 with
  | d h0 =>
    cases h0
    exact ⟨rfl,hb⟩
end Go.Proofs.YtchnganlpgfdjaaGreatDoor
