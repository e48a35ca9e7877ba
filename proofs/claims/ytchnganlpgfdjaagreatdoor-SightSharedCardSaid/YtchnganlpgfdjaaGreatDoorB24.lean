/-
  The program's functions,contracts: what each one returns,whatever the world: part 25. No condition.
-/
import Derived.Test.YtchnganlpgfdjaaGreatDoorB00
import Derived.Test.YtchnganlpgfdjaaGreatDoorB01
import Derived.Test.YtchnganlpgfdjaaGreatDoorB02
import Derived.Test.YtchnganlpgfdjaaGreatDoorB03
import Derived.Test.YtchnganlpgfdjaaGreatDoorB04
import Derived.Test.YtchnganlpgfdjaaGreatDoorB05
import Derived.Test.YtchnganlpgfdjaaGreatDoorB06
import Derived.Test.YtchnganlpgfdjaaGreatDoorB07
import Derived.Test.YtchnganlpgfdjaaGreatDoorB08
import Derived.Test.YtchnganlpgfdjaaGreatDoorB09
import Derived.Test.YtchnganlpgfdjaaGreatDoorB10
import Derived.Test.YtchnganlpgfdjaaGreatDoorB11
import Derived.Test.YtchnganlpgfdjaaGreatDoorB12
import Derived.Test.YtchnganlpgfdjaaGreatDoorB13
import Derived.Test.YtchnganlpgfdjaaGreatDoorB14
import Derived.Test.YtchnganlpgfdjaaGreatDoorB15
import Derived.Test.YtchnganlpgfdjaaGreatDoorB16
import Derived.Test.YtchnganlpgfdjaaGreatDoorB17
import Derived.Test.YtchnganlpgfdjaaGreatDoorB18
import Derived.Test.YtchnganlpgfdjaaGreatDoorB19
import Derived.Test.YtchnganlpgfdjaaGreatDoorB20
import Derived.Test.YtchnganlpgfdjaaGreatDoorB21
import Derived.Test.YtchnganlpgfdjaaGreatDoorB22
import Derived.Test.YtchnganlpgfdjaaGreatDoorB23
import Derived.Defers
import Derived.Recover
set_option linter.all false
set_option linter.unusedVariables false
set_option linter.unusedSectionVars false
set_option linter.unusedSimpArgs false
set_option linter.unnecessarySimpa false
namespace Go.Proofs.Sight
open Go Go.RX Go.Proofs
set_option maxRecDepth 10000
theorem R32 {n : Int} (h1 : -2147483648 ≤ n) (h2 : n ≤ 2147483647) : R .i32 n:=by unfold R; rw [IntKind.wrap_i32]; omega
theorem c135_ok (why : List UInt8) : Ctr Tryz.prog 108 [bS true,.d (.str why)] (.tup []):=by
  (refine Ctr.mk (fn:=Tryz.f108) rfl rfl rfl rfl rfl Tryz.results108 ?_; dsimp only [args,List.toList_toArray])
  ((first | refine qS rfl rfl ?_ | refine qR rfl rfl ?_); simp only [go_sem,↓dP,↓reduceIte]; with_reducible and_intros; all_goals first | apply qA | exact ⟨⟩ | rfl | (intros; apply qB; first | kernel_rfl | omega) | omega | skip)
  refine Ok.cond (b:=false) (by first | rfl | (simp only [go_sem,↓dP,↓reduceIte]; rfl)) (fun hb => by cases hb) (fun _ => ?_)
  (refine Ok.skip ?_; (try dsimp only [thenK,blockK,noGotoK]))
  ((try dsimp only [thenK,blockK,noGotoK]); simp only [toList_mk,List.toList_toArray,retK_ret,retK_normal,resOK,resV,celV,rowV,frzAll,frzT,subV,subL,go_sem,↓dP,↓reduceIte])
theorem c135_if {b : Bool} (h : b = true) (why : List UInt8) : Ctr Tryz.prog 108 [bS b,.d (.str why)] (.tup []):=by
  subst h; exact c135_ok why
theorem c135_no (why : List UInt8) : CtrP Tryz.prog 108 [bS false,.d (.str why)] (.ifc 139 1 (dget [.str why])):=by
  (refine CtrP.mk (fn:=Tryz.f108) rfl rfl rfl rfl rfl ?_; dsimp only [args])
  ((first | refine qS rfl rfl ?_ | refine qR rfl rfl ?_); simp only [go_sem,↓dP,↓reduceIte]; with_reducible and_intros; all_goals first | apply qA | exact ⟨⟩ | rfl | (intros; apply qB; first | kernel_rfl | omega) | omega | skip)
  refine Ok.cond (b:=true) (by first | rfl | (simp only [go_sem,↓dP,↓reduceIte]; rfl)) (fun _ => ?_) (fun hb => by cases hb)
  ((first | refine qS rfl rfl ?_ | refine qR rfl rfl ?_); simp only [go_sem,↓dP,↓reduceIte]; with_reducible and_intros; all_goals first | apply qA | exact ⟨⟩ | rfl | (intros; apply qB; first | kernel_rfl | omega) | omega | skip)
  exact .refl _
def digit (b : UInt8) : Bool:=decide (48 ≤ b.toNat) && decide (b.toNat ≤ 57)
def numL (l : List UInt8) : Nat:=l.foldl (fun n b => 10 * n + (b.toNat - 48)) 0
theorem numL_snoc (l : List UInt8) (b : UInt8) : numL (l ++ [b]) = 10 * numL l + (b.toNat - 48):=by simp [numL]
def isNum (w : List UInt8) : Prop:=w ≠ [] ∧ (∀ b ∈ w,digit b = true) ∧ w.length ≤ 3 ∧ Lib.itoa (numL w) = w
theorem decode_digit (l : List UInt8) (p : Nat) (hp : p < l.length) (h : digit (l.getD p 0) = true) : Utf8.decode ⟨l.toArray⟩ p = ((l.getD p 0).toNat,1):=by
  simp only [digit,Bool.and_eq_true,decide_eq_true_eq] at h
  have hb : (ByteArray.get! ⟨l.toArray⟩ (p + 0)) = l.getD p 0:=by
    show (l.toArray)[p + 0]! = _
    rw [Nat.add_zero,getElem!_pos l.toArray p (by simpa using hp),getD0,getD_lt hp]
    simp
  unfold Utf8.decode
  simp only [hb]
  rw [if_pos (by omega)]
theorem numL_lt (l : List UInt8) : ∀ i,(∀ b ∈ l,digit b = true) → i ≤ l.length → numL (l.take i) < 10 ^ i
  | 0,_,_ => by simp [numL]
  | i + 1,h,hi => by
    have ih:=numL_lt l i h (by omega)
    have hd:=h _ (getD_mem (i:=i) (by omega))
    simp only [digit,Bool.and_eq_true,decide_eq_true_eq] at hd
    rw [getD_take (by omega),numL_snoc,Nat.pow_succ]
    omega
theorem c136_ok (ws : List (List UInt8)) (hw : ∀ w ∈ ws,isNum w) (hl : ws.length ≤ 1000) : Ctr Tryz.prog 109 [.d (strsD ws),iS ws.length] (.d (slD 1 natD (ws.map numL))):=by
  (refine Ctr.mk (fn:=Tryz.f109) rfl rfl rfl rfl rfl Tryz.results109 ?_; dsimp only [args,List.toList_toArray])
  ((first | refine qS rfl rfl ?_ | refine qR rfl rfl ?_); simp only [go_sem,↓dP,↓reduceIte]; with_reducible and_intros; all_goals first | apply qA | exact ⟨⟩ | rfl | (intros; apply qB; first | kernel_rfl | omega) | omega | skip)
  ((first | refine qS rfl rfl ?_ | refine qR rfl rfl ?_); simp only [go_sem,↓dP,↓reduceIte]; with_reducible and_intros; all_goals first | apply qA | exact ⟨⟩ | rfl | (intros; apply qB; first | kernel_rfl | omega) | omega | skip)
  (refine AskI.ret (c135_ok _) ?_; simp only [go_sem,↓dP,↓reduceIte]; with_reducible and_intros; all_goals first | apply qA | exact ⟨⟩ | rfl | (intros; apply qB; first | kernel_rfl | omega) | omega | skip)
  ((first | refine qS rfl rfl ?_ | refine qR rfl rfl ?_); simp only [go_sem,↓dP,↓reduceIte]; with_reducible and_intros; all_goals first | apply qA | exact ⟨⟩ | rfl | (intros; apply qB; first | kernel_rfl | omega) | omega | skip)
  refine Ok.seq ?_
  ((first | refine qS rfl rfl ?_ | refine qR rfl rfl ?_); simp only [go_sem,↓dP,↓reduceIte]; with_reducible and_intros; all_goals first | apply qA | exact ⟨⟩ | rfl | (intros; apply qB; first | kernel_rfl | omega) | omega | skip)
  refine Ok.block ?_
  refine Ok.count ws.length (fun i => ⟨[(5,.tk 0),(16,.d (strsD ws)),(17,iS ws.length),(18,iS i)],[],[ownD 3 1 natD ((ws.take i).map numL)]⟩) (fun _ => True) ⟨trivial,?_⟩ ?_ ?_
  · (refine Sub.of ([]) ([none]) ?_ ?_ ?_ rfl rfl <;> simp only [subB,subB1,subT,subT1,newT,subE,subV,subL,go_sem,↓dP,↓reduceIte] <;> (try (repeat' with_reducible apply And.intro)) <;> (try first | exact DEq.refl _ | refine DEq.int ?_ | refine DEq.bool ?_ | omega))
  · intro i hi _
    have hlen:=map_len numL (l:=ws) (i:=i) (by omega)
    have hsn:=map_snoc numL hi
    obtain ⟨hne,hdig,hl3,hit⟩:=hw _ (getD_mem hi)
    generalize hW : ws.getD i default = w at hne hdig hl3 hit hsn
    (((first | refine qS rfl rfl ?_ | refine qR rfl rfl ?_); simp only [go_sem,↓dP,↓reduceIte]; with_reducible and_intros; all_goals first | apply qA | exact ⟨⟩ | rfl | (intros; apply qB; first | kernel_rfl | omega) | omega | skip)); refine Ok.seq ?_; refine Ok.cond rfl (fun _ => ?_) (fun hb => by simp at hb; omega); (refine Ok.skip ?_; (try dsimp only [thenK,blockK,noGotoK])); refine Ok.seq ?_; refine Ok.block ?_
    ((first | refine qS rfl rfl ?_ | refine qR rfl rfl ?_); simp only [go_sem,↓dP,↓reduceIte]; with_reducible and_intros; all_goals first | apply qA | exact ⟨⟩ | rfl | (intros; apply qB; first | kernel_rfl | omega) | omega | skip)
    rw [hW]
    ((first | refine qS rfl rfl ?_ | refine qR rfl rfl ?_); simp only [go_sem,↓dP,↓reduceIte]; with_reducible and_intros; all_goals first | apply qA | exact ⟨⟩ | rfl | (intros; apply qB; first | kernel_rfl | omega) | omega | skip)
    refine Ok.seq ?_
    ((first | refine qS rfl rfl ?_ | refine qR rfl rfl ?_); simp only [go_sem,↓dP,↓reduceIte]; with_reducible and_intros; all_goals first | apply qA | exact ⟨⟩ | rfl | (intros; apply qB; first | kernel_rfl | omega) | omega | skip)
    refine Ok.block ?_
    refine Ok.count w.length (fun k => ⟨[(5,.tk 0),(7,.d (.str w)),(8,iS (numL (w.take k) : Nat)),(16,.d (strsD ws)),(17,iS ws.length),(18,iS i),(23,.p 0 0)],[{ frz:=false,xs:=[],it:=some (w,k) }],[ownD 3 1 natD ((ws.take i).map numL)]⟩) (fun _ => True) ⟨trivial,?_⟩ ?_ ?_
    · (refine Sub.of ([0]) ([some 0]) ?_ ?_ ?_ rfl rfl <;> simp only [subB,subB1,subT,subT1,newT,subE,subV,subL,go_sem,↓dP,↓reduceIte] <;> (try (repeat' with_reducible apply And.intro)) <;> (try first | exact DEq.refl _ | refine DEq.int ?_ | refine DEq.bool ?_ | omega))
      exact fun _ _ _ _ => DEq.refl _
    · intro k hk _
      have hd : digit (w.getD k 0) = true:=hdig _ (getD_mem hk)
      have hdec:=decode_digit w k hk hd
      ((first | refine qS rfl rfl ?_ | refine qR rfl rfl ?_); simp only [go_sem,↓dP,↓reduceIte]; with_reducible and_intros; all_goals first | apply qA | exact ⟨⟩ | rfl | (intros; apply qB; first | kernel_rfl | omega) | omega | skip)
      rw [if_pos hk,hdec]
      (simp only [go_sem,↓dP,↓reduceIte]; with_reducible and_intros; all_goals first | apply qA | exact ⟨⟩ | rfl | (intros; apply qB; first | kernel_rfl | omega) | omega | skip)
      refine Ok.seq ?_
      refine Ok.cond (b:=true) (by first | rfl | (simp only [go_sem,↓dP,↓reduceIte]; rfl)) (fun _ => ?_) (fun hb => by cases hb)
      (refine Ok.skip ?_; (try dsimp only [thenK,blockK,noGotoK]))
      refine Ok.block ?_
      ((first | refine qS rfl rfl ?_ | refine qR rfl rfl ?_); simp only [go_sem,↓dP,↓reduceIte]; with_reducible and_intros; all_goals first | apply qA | exact ⟨⟩ | rfl | (intros; apply qB; first | kernel_rfl | omega) | omega | skip)
      ((first | refine qS rfl rfl ?_ | refine qR rfl rfl ?_); simp only [go_sem,↓dP,↓reduceIte]; with_reducible and_intros; all_goals first | apply qA | exact ⟨⟩ | rfl | (intros; apply qB; first | kernel_rfl | omega) | omega | skip)
      simp only [digit,Bool.and_eq_true,decide_eq_true_eq] at hd
      have hnl:=numL_lt w k hdig (by omega)
      have hpow : 10 ^ k ≤ 100:=by
        have:=Nat.pow_le_pow_right (n:=10) (by decide) (show k ≤ 2 by omega)
        simpa using this
      have hns : numL (w.take (k + 1)) = 10 * numL (w.take k) + ((w.getD k 0).toNat - 48):=by rw [getD_take hk,numL_snoc]; rfl
      generalize hB : (w.getD k 0).toNat = b at hd hns
      (refine AskI.ret (c135_if (by simp only [hB,Bool.and_eq_true,decide_eq_true_eq]; omega) _) ?_; simp only [go_sem,↓dP,↓reduceIte]; with_reducible and_intros; all_goals first | apply qA | exact ⟨⟩ | rfl | (intros; apply qB; first | kernel_rfl | omega) | omega | skip)
      ((first | refine qS rfl rfl ?_ | refine qR rfl rfl ?_); simp only [go_sem,↓dP,↓reduceIte]; with_reducible and_intros; all_goals first | apply qA | exact ⟨⟩ | rfl | (intros; apply qB; first | kernel_rfl | omega) | omega | skip)
      · exact R32 (by omega) (by omega)
      (try dsimp only [thenK,blockK,noGotoK])
      refine ⟨trivial,?_⟩
      (refine Sub.of ([0]) ([some 0]) ?_ ?_ ?_ rfl rfl <;> simp only [subB,subB1,subT,subT1,newT,subE,subV,subL,go_sem,↓dP,↓reduceIte] <;> (try (repeat' with_reducible apply And.intro)) <;> (try first | exact DEq.refl _ | refine DEq.int ?_ | refine DEq.bool ?_ | omega))
      all_goals first | (exact fun _ _ _ _ => DEq.refl _) | (rw [hns]; omega)
    · intro _
      ((first | refine qS rfl rfl ?_ | refine qR rfl rfl ?_); simp only [go_sem,↓dP,↓reduceIte]; with_reducible and_intros; all_goals first | apply qA | exact ⟨⟩ | rfl | (intros; apply qB; first | kernel_rfl | omega) | omega | skip)
      rw [if_neg (by omega)]
      (simp only [go_sem,↓dP,↓reduceIte]; with_reducible and_intros; all_goals first | apply qA | exact ⟨⟩ | rfl | (intros; apply qB; first | kernel_rfl | omega) | omega | skip)
      refine Ok.seq ?_
      refine Ok.cond (b:=false) (by first | rfl | (simp only [go_sem,↓dP,↓reduceIte]; rfl)) (fun hb => by cases hb) (fun _ => ?_)
      (refine Ok.exit ?_; simp only [thenK_exit,blockK_exit,noGotoK_exit,thenK_normal,blockK_normal,noGotoK_normal,↓reduceIte,Nat.reduceEqDiff])
      have hnl:=numL_lt w w.length hdig (Nat.le_refl _)
      rw [List.take_length] at hnl
      have hpow : 10 ^ w.length ≤ 1000:=Nat.pow_le_pow_right (by decide) hl3
      rw [List.take_length]
      ((first | refine qS rfl rfl ?_ | refine qR rfl rfl ?_); simp only [go_sem,↓dP,↓reduceIte]; with_reducible and_intros; all_goals first | apply qA | exact ⟨⟩ | rfl | (intros; apply qB; first | kernel_rfl | omega) | omega | skip)
      (refine AskGI.ret (fun _ => c132 _ (by omega) (by omega)) ?_; simp only [go_sem,↓dP,↓reduceIte]; with_reducible and_intros; all_goals first | apply qA | exact ⟨⟩ | rfl | (intros; apply qB; first | kernel_rfl | omega) | omega | skip)
      rw [hit]
      (refine AskI.ret (c135_if (by simp [hne]) _) ?_; simp only [go_sem,↓dP,↓reduceIte]; with_reducible and_intros; all_goals first | apply qA | exact ⟨⟩ | rfl | (intros; apply qB; first | kernel_rfl | omega) | omega | skip)
      ((first | refine qS rfl rfl ?_ | refine qR rfl rfl ?_); simp only [go_sem,↓dP,↓reduceIte]; with_reducible and_intros; all_goals first | apply qA | exact ⟨⟩ | rfl | (intros; apply qB; first | kernel_rfl | omega) | omega | skip)
      (try dsimp only [thenK,blockK,noGotoK])
      ((first | refine qS rfl rfl ?_ | refine qR rfl rfl ?_); simp only [go_sem,↓dP,↓reduceIte]; with_reducible and_intros; all_goals first | apply qA | exact ⟨⟩ | rfl | (intros; apply qB; first | kernel_rfl | omega) | omega | skip)
      (try dsimp only [thenK,blockK,noGotoK])
      refine ⟨trivial,?_⟩
      (refine Sub.of ([]) ([some 1]) ?_ ?_ ?_ rfl rfl <;> simp only [subB,subB1,subT,subT1,newT,subE,subV,subL,go_sem,↓dP,↓reduceIte] <;> (try (repeat' with_reducible apply And.intro)) <;> (try first | exact DEq.refl _ | refine DEq.int ?_ | refine DEq.bool ?_ | omega))
      · rw [hsn]; simp
      · rw [hsn]
        exact snoc_D (fun c hc => by have : c = 0:=by omega
                                     subst this; rfl)
  · intro _
    (((first | refine qS rfl rfl ?_ | refine qR rfl rfl ?_); simp only [go_sem,↓dP,↓reduceIte]; with_reducible and_intros; all_goals first | apply qA | exact ⟨⟩ | rfl | (intros; apply qB; first | kernel_rfl | omega) | omega | skip)); refine Ok.seq ?_; refine Ok.cond rfl (fun hb => by simp at hb) (fun _ => ?_); (refine Ok.exit ?_; simp only [thenK_exit,blockK_exit,noGotoK_exit,thenK_normal,blockK_normal,noGotoK_normal,↓reduceIte,Nat.reduceEqDiff])
    ((first | refine qS rfl rfl ?_ | refine qR rfl rfl ?_); simp only [go_sem,↓dP,↓reduceIte]; with_reducible and_intros; all_goals first | apply qA | exact ⟨⟩ | rfl | (intros; apply qB; first | kernel_rfl | omega) | omega | skip)
    (refine Ok.ret ?_; (try dsimp only [thenK,blockK,noGotoK]); simp only [toList_mk,List.toList_toArray,retK_ret,retK_normal,resOK,resV,celV,rowV,frzAll,frzT,subV,subL,go_sem,↓dP,↓reduceIte])
    simp only [List.take_length]
    ((repeat' with_reducible apply And.intro) <;> (first | exact DEq.refl _ | refine DEq.int ?_ | refine DEq.bool ?_ | skip))
end Go.Proofs.Sight
namespace Go.Proofs.Sight
open Go Go.RX Go.Proofs
set_option maxRecDepth 10000
def exText : List UInt8:=[115,105,103,104,116,32,49,32,49,32,49,32,49,32,49,32,49,10,98,111,97,114,100,32,48,10,108,101,116,116,101,114,32,49,32,49,32,49,32,48,10,101,110,100,32,48,49,57,10]
def exR0 : List UInt8:=[115,105,103,104,116,32,49,32,49,32,49,32,49,32,49,32,49]
def exR1 : List UInt8:=[98,111,97,114,100,32,48]
def exR2 : List UInt8:=[108,101,116,116,101,114,32,49,32,49,32,49,32,48]
def exR3 : List UInt8:=[101,110,100,32,48,49,57]
def exR4 : List UInt8:=[]
def exRows : List (List UInt8):=[exR0,exR1,exR2,exR3,exR4]
def exW0 : List (List UInt8):=[[115,105,103,104,116],[49],[49],[49],[49],[49],[49]]
def exW1 : List (List UInt8):=[[98,111,97,114,100],[48]]
def exW2 : List (List UInt8):=[[108,101,116,116,101,114],[49],[49],[49],[48]]
theorem ex_rows : splitL exText [10] = exRows:=by decide +kernel
theorem ex_w0 : splitL exR0 [32] = exW0:=by decide +kernel
theorem ex_w1 : splitL exR1 [32] = exW1:=by decide +kernel
theorem ex_w2 : splitL exR2 [32] = exW2:=by decide +kernel
def exX : Street:=⟨1,1,1,1,1,1,[⟨0,[⟨1,1,1,0⟩]⟩],[]⟩
theorem itoa_0 : Lib.itoa (numL [48] : Nat) = [48]:=by
  have h:=itoa_one (n:=0) (by decide)
  exact h
theorem itoa_1 : Lib.itoa (numL [49] : Nat) = [49]:=by
  have h:=itoa_one (n:=1) (by decide)
  exact h
theorem num_0 : isNum [48]:=⟨by decide,by decide,by decide,itoa_0⟩
theorem num_1 : isNum [49]:=⟨by decide,by decide,by decide,itoa_1⟩
theorem small_X : exX.small:=by
  refine ⟨by decide,by decide,by decide,by decide,?_⟩
  show 2 ≤ 600
  decide
theorem dec_one {n : Nat} (h : n < 10) : Lib.decDigits n = [UInt8.ofNat (48 + n)]:=by rw [← Lib.itoa_nonneg,itoa_one h]
theorem ex_text : sealedL (rowsOf exX) = exText:=by
  have h0 : Lib.itoa 0 = [48]:=itoa_0
  have h1 : Lib.itoa 1 = [49]:=itoa_1
  have hr : rowsOf exX = [exR0,exR1,exR2]:=by
    simp only [rowsOf,exX,Street.nums,boardRows,boardRow,letterRow,Letter.nums,rowL,List.flatMap_cons,List.flatMap_nil,List.map_cons,List.map_nil,h0,h1]
    rfl
  have hs : rowsSum 0 [exR0,exR1,exR2] % 179 = 19:=by decide +kernel
  unfold sealedL
  rw [hr,hs,endL,dec_one (n:=19 / 100) (by decide),dec_one (n:=19 / 10 % 10) (by decide),dec_one (n:=19 % 10) (by decide)]
  decide +kernel
end Go.Proofs.Sight
namespace Go.Proofs.Sight
open Go Go.RX Go.Proofs
set_option maxRecDepth 10000
theorem c134_rows : Ctr Tryz.prog 107 [.d (.str exText),.d (.str [10])] (.d (strsD exRows)):=by
  have h:=c134 exText [10] (by decide) (by decide)
  rwa [ex_rows] at h
theorem c134_0 : Ctr Tryz.prog 107 [.d (.str exR0),.d (.str [32])] (.d (strsD exW0)):=by
  have h:=c134 exR0 [32] (by decide) (by decide)
  rwa [ex_w0] at h
theorem c134_1 : Ctr Tryz.prog 107 [.d (.str exR1),.d (.str [32])] (.d (strsD exW1)):=by
  have h:=c134 exR1 [32] (by decide) (by decide)
  rwa [ex_w1] at h
theorem c134_2 : Ctr Tryz.prog 107 [.d (.str exR2),.d (.str [32])] (.d (strsD exW2)):=by
  have h:=c134 exR2 [32] (by decide) (by decide)
  rwa [ex_w2] at h
theorem c136_drop (W : List (List UInt8)) (a m n : Nat) (ns : List Nat) (ha : a + m = W.length) (hn : ∀ w ∈ W.drop a,isNum w) (hl : W.length ≤ 1000) (hnm : n = m) (hns : (W.drop a).map numL = ns) :
    Ctr Tryz.prog 109 [.d (.sl 1 n (fun i j => strD (W.getD (a + i) default) j)),iS m] (.d (slD 1 natD ns)):=by
  have h:=c136_ok (W.drop a) hn (by rw [List.length_drop]; omega)
  rw [hns,show (W.drop a).length = m by rw [List.length_drop]; omega] at h
  have hd:=slice_D (k:=1) (n:=n) (m:=m) (a:=a) (f:=strD) (l:=W) hnm (by omega)
  rw [List.take_of_length_le (by rw [List.length_drop]; omega)] at hd
  exact h.args ⟨hd,.refl _,trivial⟩
theorem ex_boards : DEq (.sl 2 1 fun x' j => if x' = 0 ∧ 1 ≤ j ∧ j < 2 then dget [DV.sl 4 1 fun i j => dget [iD (1 : Nat),iD (1 : Nat),iD (1 : Nat),iD (0 : Nat)] (i * 4 + j)] (j - 1) else dget [iD (0 : Nat),DV.nils] (x' * 2 + j)) (slD 2 boaD exX.bs) :=
  DEq.sl rfl (fun i j hi hj => by
    match i,j,hi,hj with
    | 0,0,_,_ => exact .refl _
    | 0,1,_,_ =>
      refine DEq.sl rfl (fun i j hi hj => ?_)
      match i,j,hi,hj with
      | 0,0,_,_ => exact .refl _
      | 0,1,_,_ => exact .refl _
      | 0,2,_,_ => exact .refl _
      | 0,3,_,_ => exact .refl _)
theorem c106_ex : Ctr Tryz.prog 70 [.d (.str exText)] exX.sv:=by
  (refine Ctr.mk (fn:=Tryz.f70) rfl rfl rfl rfl rfl Tryz.results70 ?_; dsimp only [args,List.toList_toArray])
  ((first | refine qS rfl rfl ?_ | refine qR rfl rfl ?_); simp only [go_sem,↓dP,↓reduceIte]; with_reducible and_intros; all_goals first | apply qA | exact ⟨⟩ | rfl | (intros; apply qB; first | kernel_rfl | omega) | omega | skip)
  ((first | refine qS rfl rfl ?_ | refine qR rfl rfl ?_); simp only [go_sem,↓dP,↓reduceIte]; with_reducible and_intros; all_goals first | apply qA | exact ⟨⟩ | rfl | (intros; apply qB; first | kernel_rfl | omega) | omega | skip)
  (refine AskI.ret (c134_rows) ?_; simp only [go_sem,↓dP,↓reduceIte]; with_reducible and_intros; all_goals first | apply qA | exact ⟨⟩ | rfl | (intros; apply qB; first | kernel_rfl | omega) | omega | skip)
  ((first | refine qS rfl rfl ?_ | refine qR rfl rfl ?_); simp only [go_sem,↓dP,↓reduceIte]; with_reducible and_intros; all_goals first | apply qA | exact ⟨⟩ | rfl | (intros; apply qB; first | kernel_rfl | omega) | omega | skip)
  (refine AskI.ret (c135_if (by decide) _) ?_; simp only [go_sem,↓dP,↓reduceIte]; with_reducible and_intros; all_goals first | apply qA | exact ⟨⟩ | rfl | (intros; apply qB; first | kernel_rfl | omega) | omega | skip)
  ((first | refine qS rfl rfl ?_ | refine qR rfl rfl ?_); simp only [go_sem,↓dP,↓reduceIte]; with_reducible and_intros; all_goals first | apply qA | exact ⟨⟩ | rfl | (intros; apply qB; first | kernel_rfl | omega) | omega | skip)
  · decide
  (refine AskI.ret (c134_0) ?_; simp only [go_sem,↓dP,↓reduceIte]; with_reducible and_intros; all_goals first | apply qA | exact ⟨⟩ | rfl | (intros; apply qB; first | kernel_rfl | omega) | omega | skip)
  · decide
  (refine AskI.ret (c136_drop exW0 1 6 _ [1,1,1,1,1,1] (by decide) (by intro w hw; simp [exW0] at hw; subst hw; exact num_1) (by decide) (by decide) (by decide)) ?_; simp only [go_sem,↓dP,↓reduceIte]; with_reducible and_intros; all_goals first | apply qA | exact ⟨⟩ | rfl | (intros; apply qB; first | kernel_rfl | omega) | omega | skip)
  ((first | refine qS rfl rfl ?_ | refine qR rfl rfl ?_); simp only [go_sem,↓dP,↓reduceIte]; with_reducible and_intros; all_goals first | apply qA | exact ⟨⟩ | rfl | (intros; apply qB; first | kernel_rfl | omega) | omega | skip)
  refine Ok.sub (σ':=⟨[(0,.d (.str exText)),(2,.p 0 0),(3,.d (strsD exRows)),(5,.p 1 0)],[streetB default,{ frz:=false,xs:=[iS 1,iS 1,iS 1,iS 1,iS 1,iS 1,.d .nils,.d .nils] }],[]⟩) ?_ ?_
  · (refine Sub.of ([0,1]) ([]) ?_ ?_ ?_ rfl rfl <;> simp only [subB,subB1,subT,subT1,newT,subE,subV,subL,go_sem,↓dP,↓reduceIte] <;> (try (repeat' with_reducible apply And.intro)) <;> (try first | exact DEq.refl _ | refine DEq.int ?_ | refine DEq.bool ?_ | omega))
    all_goals first | rfl | exact DEq.nils rfl
  refine Ok.seq ?_
  ((first | refine qS rfl rfl ?_ | refine qR rfl rfl ?_); simp only [go_sem,↓dP,↓reduceIte]; with_reducible and_intros; all_goals first | apply qA | exact ⟨⟩ | rfl | (intros; apply qB; first | kernel_rfl | omega) | omega | skip)
  · rfl
  · decide
  refine Ok.block ?_
  refine Ok.sub (σ':=⟨[(0,.d (.str exText)),(2,.p 0 0),(5,.p 1 0),(51,.d (strsD [exR1,exR2])),(52,iS 2),(53,iS 0)],[streetB default,{ frz:=false,xs:=[iS 1,iS 1,iS 1,iS 1,iS 1,iS 1,.d .nils,.d .nils] }],[]⟩) ?_ ?_
  · (refine Sub.of ([0,1]) ([]) ?_ ?_ ?_ rfl rfl <;> simp only [subB,subB1,subT,subT1,newT,subE,subV,subL,go_sem,↓dP,↓reduceIte] <;> (try (repeat' with_reducible apply And.intro)) <;> (try first | exact DEq.refl _ | refine DEq.int ?_ | refine DEq.bool ?_ | omega))
    exact slice_D (k:=1) (f:=strD) (l:=exRows) (a:=1) (m:=2) (by decide) (by decide)
  refine Ok.rounds 3 (OkN.round ?_)
  ((first | refine qS rfl rfl ?_ | refine qR rfl rfl ?_); simp only [go_sem,↓dP,↓reduceIte]; with_reducible and_intros; all_goals first | apply qA | exact ⟨⟩ | rfl | (intros; apply qB; first | kernel_rfl | omega) | omega | skip)
  refine Ok.seq ?_
  refine Ok.cond (b:=true) (by first | rfl | (simp only [go_sem,↓dP,↓reduceIte]; rfl)) (fun _ => ?_) (fun hb => by cases hb)
  (refine Ok.skip ?_; (try dsimp only [thenK,blockK,noGotoK]))
  refine Ok.seq ?_
  refine Ok.block ?_
  ((first | refine qS rfl rfl ?_ | refine qR rfl rfl ?_); simp only [go_sem,↓dP,↓reduceIte]; with_reducible and_intros; all_goals first | apply qA | exact ⟨⟩ | rfl | (intros; apply qB; first | kernel_rfl | omega) | omega | skip)
  ((first | refine qS rfl rfl ?_ | refine qR rfl rfl ?_); simp only [go_sem,↓dP,↓reduceIte]; with_reducible and_intros; all_goals first | apply qA | exact ⟨⟩ | rfl | (intros; apply qB; first | kernel_rfl | omega) | omega | skip)
  (refine AskI.ret (c134_1) ?_; simp only [go_sem,↓dP,↓reduceIte]; with_reducible and_intros; all_goals first | apply qA | exact ⟨⟩ | rfl | (intros; apply qB; first | kernel_rfl | omega) | omega | skip)
  refine Ok.seq ?_
  ((first | refine qS rfl rfl ?_ | refine qR rfl rfl ?_); simp only [go_sem,↓dP,↓reduceIte]; with_reducible and_intros; all_goals first | apply qA | exact ⟨⟩ | rfl | (intros; apply qB; first | kernel_rfl | omega) | omega | skip)
  · decide
  (try dsimp only [thenK,blockK,noGotoK])
  refine Ok.block ?_
  ((first | refine qS rfl rfl ?_ | refine qR rfl rfl ?_); simp only [go_sem,↓dP,↓reduceIte]; with_reducible and_intros; all_goals first | apply qA | exact ⟨⟩ | rfl | (intros; apply qB; first | kernel_rfl | omega) | omega | skip)
  (refine AskI.ret (c137) ?_; simp only [go_sem,↓dP,↓reduceIte]; with_reducible and_intros; all_goals first | apply qA | exact ⟨⟩ | rfl | (intros; apply qB; first | kernel_rfl | omega) | omega | skip)
  refine Ok.cond (b:=true) (by first | rfl | (simp only [go_sem,↓dP,↓reduceIte]; rfl)) (fun _ => ?_) (fun hb => by cases hb)
  ((first | refine qS rfl rfl ?_ | refine qR rfl rfl ?_); simp only [go_sem,↓dP,↓reduceIte]; with_reducible and_intros; all_goals first | apply qA | exact ⟨⟩ | rfl | (intros; apply qB; first | kernel_rfl | omega) | omega | skip)
  · decide
  (refine AskI.ret (c136_drop exW1 1 1 _ [0] (by decide) (by intro w hw; simp [exW1] at hw; subst hw; exact num_0) (by decide) (by decide) (by decide)) ?_; simp only [go_sem,↓dP,↓reduceIte]; with_reducible and_intros; all_goals first | apply qA | exact ⟨⟩ | rfl | (intros; apply qB; first | kernel_rfl | omega) | omega | skip)
  ((first | refine qS rfl rfl ?_ | refine qR rfl rfl ?_); simp only [go_sem,↓dP,↓reduceIte]; with_reducible and_intros; all_goals first | apply qA | exact ⟨⟩ | rfl | (intros; apply qB; first | kernel_rfl | omega) | omega | skip)
  (try dsimp only [thenK,blockK,noGotoK])
  ((first | refine qS rfl rfl ?_ | refine qR rfl rfl ?_); simp only [go_sem,↓dP,↓reduceIte]; with_reducible and_intros; all_goals first | apply qA | exact ⟨⟩ | rfl | (intros; apply qB; first | kernel_rfl | omega) | omega | skip)
  (try dsimp only [thenK,blockK,noGotoK])
  refine OkN.round ?_
  ((first | refine qS rfl rfl ?_ | refine qR rfl rfl ?_); simp only [go_sem,↓dP,↓reduceIte]; with_reducible and_intros; all_goals first | apply qA | exact ⟨⟩ | rfl | (intros; apply qB; first | kernel_rfl | omega) | omega | skip)
  refine Ok.seq ?_
  refine Ok.cond (b:=true) (by first | rfl | (simp only [go_sem,↓dP,↓reduceIte]; rfl)) (fun _ => ?_) (fun hb => by cases hb)
  (refine Ok.skip ?_; (try dsimp only [thenK,blockK,noGotoK]))
  refine Ok.seq ?_
  refine Ok.block ?_
  ((first | refine qS rfl rfl ?_ | refine qR rfl rfl ?_); simp only [go_sem,↓dP,↓reduceIte]; with_reducible and_intros; all_goals first | apply qA | exact ⟨⟩ | rfl | (intros; apply qB; first | kernel_rfl | omega) | omega | skip)
  ((first | refine qS rfl rfl ?_ | refine qR rfl rfl ?_); simp only [go_sem,↓dP,↓reduceIte]; with_reducible and_intros; all_goals first | apply qA | exact ⟨⟩ | rfl | (intros; apply qB; first | kernel_rfl | omega) | omega | skip)
  (refine AskI.ret (c134_2) ?_; simp only [go_sem,↓dP,↓reduceIte]; with_reducible and_intros; all_goals first | apply qA | exact ⟨⟩ | rfl | (intros; apply qB; first | kernel_rfl | omega) | omega | skip)
  refine Ok.seq ?_
  ((first | refine qS rfl rfl ?_ | refine qR rfl rfl ?_); simp only [go_sem,↓dP,↓reduceIte]; with_reducible and_intros; all_goals first | apply qA | exact ⟨⟩ | rfl | (intros; apply qB; first | kernel_rfl | omega) | omega | skip)
  · decide
  (try dsimp only [thenK,blockK,noGotoK])
  refine Ok.block ?_
  ((first | refine qS rfl rfl ?_ | refine qR rfl rfl ?_); simp only [go_sem,↓dP,↓reduceIte]; with_reducible and_intros; all_goals first | apply qA | exact ⟨⟩ | rfl | (intros; apply qB; first | kernel_rfl | omega) | omega | skip)
  (refine AskI.ret (c137) ?_; simp only [go_sem,↓dP,↓reduceIte]; with_reducible and_intros; all_goals first | apply qA | exact ⟨⟩ | rfl | (intros; apply qB; first | kernel_rfl | omega) | omega | skip)
  refine Ok.cond (b:=false) (by first | rfl | (simp only [go_sem,↓dP,↓reduceIte]; rfl)) (fun hb => by cases hb) (fun _ => ?_)
  ((first | refine qS rfl rfl ?_ | refine qR rfl rfl ?_); simp only [go_sem,↓dP,↓reduceIte]; with_reducible and_intros; all_goals first | apply qA | exact ⟨⟩ | rfl | (intros; apply qB; first | kernel_rfl | omega) | omega | skip)
  (refine AskI.ret (c137) ?_; simp only [go_sem,↓dP,↓reduceIte]; with_reducible and_intros; all_goals first | apply qA | exact ⟨⟩ | rfl | (intros; apply qB; first | kernel_rfl | omega) | omega | skip)
  refine Ok.cond (b:=true) (by first | rfl | (simp only [go_sem,↓dP,↓reduceIte]; rfl)) (fun _ => ?_) (fun hb => by cases hb)
  ((first | refine qS rfl rfl ?_ | refine qR rfl rfl ?_); simp only [go_sem,↓dP,↓reduceIte]; with_reducible and_intros; all_goals first | apply qA | exact ⟨⟩ | rfl | (intros; apply qB; first | kernel_rfl | omega) | omega | skip)
  · decide
  (refine AskI.ret (c136_drop exW2 1 4 _ [1,1,1,0] (by decide) (by intro w hw; simp [exW2] at hw; rcases hw with rfl | rfl | rfl | rfl <;> first | exact num_1 | exact num_0) (by decide) (by decide) (by decide)) ?_; simp only [go_sem,↓dP,↓reduceIte]; with_reducible and_intros; all_goals first | apply qA | exact ⟨⟩ | rfl | (intros; apply qB; first | kernel_rfl | omega) | omega | skip)
  ((first | refine qS rfl rfl ?_ | refine qR rfl rfl ?_); simp only [go_sem,↓dP,↓reduceIte]; with_reducible and_intros; all_goals first | apply qA | exact ⟨⟩ | rfl | (intros; apply qB; first | kernel_rfl | omega) | omega | skip)
  (refine AskI.ret (c135_if (by decide) _) ?_; simp only [go_sem,↓dP,↓reduceIte]; with_reducible and_intros; all_goals first | apply qA | exact ⟨⟩ | rfl | (intros; apply qB; first | kernel_rfl | omega) | omega | skip)
  ((first | refine qS rfl rfl ?_ | refine qR rfl rfl ?_); simp only [go_sem,↓dP,↓reduceIte]; with_reducible and_intros; all_goals first | apply qA | exact ⟨⟩ | rfl | (intros; apply qB; first | kernel_rfl | omega) | omega | skip)
  ((first | refine qS rfl rfl ?_ | refine qR rfl rfl ?_); simp only [go_sem,↓dP,↓reduceIte]; with_reducible and_intros; all_goals first | apply qA | exact ⟨⟩ | rfl | (intros; apply qB; first | kernel_rfl | omega) | omega | skip)
  rw [show (((1 : Nat) : Int) - 1).toNat = 0 from rfl]
  (simp only [go_sem,↓dP,↓reduceIte]; with_reducible and_intros; all_goals first | apply qA | exact ⟨⟩ | rfl | (intros; apply qB; first | kernel_rfl | omega) | omega | skip)
  (try dsimp only [thenK,blockK,noGotoK])
  ((first | refine qS rfl rfl ?_ | refine qR rfl rfl ?_); simp only [go_sem,↓dP,↓reduceIte]; with_reducible and_intros; all_goals first | apply qA | exact ⟨⟩ | rfl | (intros; apply qB; first | kernel_rfl | omega) | omega | skip)
  (try dsimp only [thenK,blockK,noGotoK])
  refine OkN.round ?_
  ((first | refine qS rfl rfl ?_ | refine qR rfl rfl ?_); simp only [go_sem,↓dP,↓reduceIte]; with_reducible and_intros; all_goals first | apply qA | exact ⟨⟩ | rfl | (intros; apply qB; first | kernel_rfl | omega) | omega | skip)
  refine Ok.seq ?_
  refine Ok.cond (b:=false) (by first | rfl | (simp only [go_sem,↓dP,↓reduceIte]; rfl)) (fun hb => by cases hb) (fun _ => ?_)
  (refine Ok.exit ?_; simp only [thenK_exit,blockK_exit,noGotoK_exit,thenK_normal,blockK_normal,noGotoK_normal,↓reduceIte,Nat.reduceEqDiff])
  have h104:=c104 exX small_X
  rw [ex_text] at h104
  ((first | refine qS rfl rfl ?_ | refine qR rfl rfl ?_); simp only [go_sem,↓dP,↓reduceIte]; with_reducible and_intros; all_goals first | apply qA | exact ⟨⟩ | rfl | (intros; apply qB; first | kernel_rfl | omega) | omega | skip)
  (refine AskI.ret (h104.args ⟨⟨.refl _,.refl _,.refl _,.refl _,.refl _,.refl _,ex_boards,DEq.nils rfl,trivial⟩,trivial⟩) ?_; simp only [go_sem,↓dP,↓reduceIte]; with_reducible and_intros; all_goals first | apply qA | exact ⟨⟩ | rfl | (intros; apply qB; first | kernel_rfl | omega) | omega | skip)
  (refine AskI.ret (c135_if (by decide) _) ?_; simp only [go_sem,↓dP,↓reduceIte]; with_reducible and_intros; all_goals first | apply qA | exact ⟨⟩ | rfl | (intros; apply qB; first | kernel_rfl | omega) | omega | skip)
  ((first | refine qS rfl rfl ?_ | refine qR rfl rfl ?_); simp only [go_sem,↓dP,↓reduceIte]; with_reducible and_intros; all_goals first | apply qA | exact ⟨⟩ | rfl | (intros; apply qB; first | kernel_rfl | omega) | omega | skip)
  (refine Ok.ret ?_; (try dsimp only [thenK,blockK,noGotoK]); simp only [toList_mk,List.toList_toArray,retK_ret,retK_normal,resOK,resV,celV,rowV,frzAll,frzT,subV,subL,go_sem,↓dP,↓reduceIte])
  exact ⟨.refl _,.refl _,.refl _,.refl _,.refl _,.refl _,ex_boards,DEq.nils rfl⟩
end Go.Proofs.Sight
namespace Go.Proofs.Sight
open Go Go.RX Go.Proofs Go.RowKit
attribute [local go_sem] Oper.semAt_some
set_option maxRecDepth 100000
structure BelowX (Q : Nat) (w w' : World) : Prop where
  os : w'.os = w.os
  tape : w'.tape = w.tape
  output : w'.output = w.output
  size : w.heap.size ≤ w'.heap.size
  block : ∀ k,k < w.heap.size → k ≠ Q → w'.heap[k]? = w.heap[k]?
set_option maxHeartbeats 4000000 in
theorem att_ok (f Q : Nat) (caps : Array Value) (w : World) (hQ : Q < w.heap.size) (hent : ∃ fn,Tryz.prog.funcs[f]? = some fn ∧ (fn.name == "runtime.NumGoroutine") = false ∧ fn.body.isNone = false) (R : World → Prop)
    (hR : ∀ W W',R W → (∀ k,k ≠ w.heap.size → k ≠ w.heap.size + 1 → W'.heap[k]? = W.heap[k]?) → W'.heap.size = W.heap.size → R W')
    (hf : ∀ W2,Below w.heap.size w W2 → W2.heap.size = w.heap.size + 1 + 1 → Calls Tryz.prog f caps W2 fun e w1 => e = .returned (.tuple #[]) ∧ BelowX Q W2 w1 ∧ R w1) :
    Calls Tryz.prog 61 #[.func (.func f) #[] caps] w fun e w' => e = .returned (.tuple #[.agg #[.int .i64 0,.int .i64 0],.int .i64 0]) ∧ BelowX Q w w' ∧ R w':=by
  have hmf : ∀ (fn : Fn) (first cap : Array Value) (w : World),(Instr.makeFunc fn first cap).run Tryz.prog w = .ok (.func fn first cap) w:=fun _ _ _ _ => rfl
  have he:=enters_of' hent
  refine calls_of_wp_defers Tryz.func61 rfl ?_
  simp only [Tryz.ntmps61,List.size_toArray,List.length_cons,List.length_nil,Nat.reduceAdd,Nat.reduceSub,Array.replicate_succ,Array.replicate_zero,List.push_toArray,List.append_toArray,List.nil_append,List.cons_append]
  go_wp2
  obtain ⟨W2,hW2⟩ : ∃ W2,(w.alloc (.cells #[.int .i64 0,.int .i64 0] 58)).alloc (.cells #[.int .i64 0] 30) = W2:=⟨_,rfl⟩
  have k0 : W2.heap[w.heap.size]? = some (.cells #[.int .i64 0,.int .i64 0] 58):=by rw [← hW2]; exact al_old _ (al_new _ rfl)
  have k1 : W2.heap[w.heap.size + 1]? = some (.cells #[.int .i64 0] 30):=by rw [← hW2]; exact al_new _ (al_sz _ rfl)
  have hB2 : Below w.heap.size w W2:=by rw [← hW2]; exact ((Below.refl _ w).alloc (Nat.le_refl _) _).alloc (by simp) _
  have hz2 : W2.heap.size = w.heap.size + 1 + 1:=by rw [← hW2]; exact al_sz _ (al_sz _ rfl)
  rw [hW2]
  refine (hf W2 hB2 hz2).mono ?_
  rintro e w1 ⟨rfl,hB1,hR1⟩
  have g0:=cellAt ((hB1.block _ (by omega) (by omega)).trans k0)
  have g00:=g0 0
  have g01:=g0 1
  have g10:=cellAt ((hB1.block _ (by omega) (by omega)).trans k1) 0
  clear g0
  simp only [List.getElem?_toArray,List.getElem?_cons_zero,List.getElem?_cons_succ] at g00 g01 g10
  have f0 : ∀ o,w1.frozen? ⟨w.heap.size,o,none⟩ = false:=fun o => by simp [World.frozen?,(hB1.block _ (by omega) (by omega)).trans k0]
  have f1 : ∀ o,w1.frozen? ⟨w.heap.size + 1,o,none⟩ = false:=fun o => by simp [World.frozen?,(hB1.block _ (by omega) (by omega)).trans k1]
  go_wp2
  have hk0:=(hB1.block _ (by omega) (by omega)).trans k0
  have hk1:=(hB1.block _ (by omega) (by omega)).trans k1
  have hne : w.heap.size ≠ w.heap.size + 1:=by omega
  obtain ⟨W3,hW3⟩ : ∃ W3,((w1.setCell ⟨w.heap.size,0,none⟩ (.int .i64 0)).setCell ⟨w.heap.size,1,none⟩ (.int .i64 0)).setCell ⟨w.heap.size + 1,0,none⟩ (.int .i64 0) = W3:=⟨_,rfl⟩
  have m0 : W3.heap[w.heap.size]? = some (.cells #[.int .i64 0,.int .i64 0] 58):=by
    rw [← hW3]; exact (Below.heap_setCell _ ⟨w.heap.size + 1,0,none⟩ _ _ hne).trans (st_same (st_same hk0 0 _) 1 _)
  have m1 : W3.heap[w.heap.size + 1]? = some (.cells #[.int .i64 0] 30):=by
    rw [← hW3]; exact st_same ((Below.heap_setCell _ ⟨w.heap.size,1,none⟩ _ _ hne.symm).trans ((Below.heap_setCell _ ⟨w.heap.size,0,none⟩ _ _ hne.symm).trans hk1)) 0 _
  have hsame : ∀ k,k ≠ w.heap.size → k ≠ w.heap.size + 1 → W3.heap[k]? = w1.heap[k]?:=fun k h1 h2 => by
    rw [← hW3,Below.heap_setCell _ ⟨w.heap.size + 1,0,none⟩ _ k h2,Below.heap_setCell _ ⟨w.heap.size,1,none⟩ _ k h1,Below.heap_setCell _ ⟨w.heap.size,0,none⟩ _ k h1]
  have hsz3 : W3.heap.size = w1.heap.size:=by rw [← hW3]; simp [World.setCell,Array.size_modify]
  have ho3 : W3.os = w1.os ∧ W3.tape = w1.tape ∧ W3.output = w1.output:=by rw [← hW3]; exact ⟨rfl,rfl,rfl⟩
  rw [hW3]
  have hBX : BelowX Q w W3:=⟨ho3.1.trans (hB1.os.trans hB2.os),ho3.2.1.trans (hB1.tape.trans hB2.tape),ho3.2.2.trans (hB1.output.trans hB2.output),by rw [hsz3]; have:=hB1.size; omega,
    fun k hk hkQ => by rw [hsame k (by omega) (by omega),hB1.block k (by omega) hkQ]; exact hB2.block k hk⟩
  have hRR:=hR w1 W3 hR1 hsame hsz3
  refine leaves_cons (f:=94) (args:=#[.pointer (some ⟨w.heap.size,0,none⟩),.pointer (some ⟨w.heap.size + 1,0,none⟩)]) (by simp) (by simp [go_sem]) ?_
  refine (catch_idle ⟨w.heap.size,0,none⟩ ⟨w.heap.size + 1,0,none⟩ _).mono ?_
  rintro e u' w'' ⟨rfl,rfl,rfl⟩
  have q0:=cellAt m0
  have q00:=q0 0
  have q01:=q0 1
  have q10:=cellAt m1 0
  clear q0
  simp only [List.getElem?_toArray,List.getElem?_cons_zero,List.getElem?_cons_succ] at q00 q01 q10
  simp [Leaves,settle,results,Tryz.results61,go_sem,q00,q01,q10]
  exact ⟨hBX,hRR⟩
theorem rep_slice {I : Nat → Prop} {w : World} {v : Value} {k n : Nat} {g : Nat → Nat → DV} (h : Rep I w v (.sl k n g)) : ∃ p l c,v = .slice p l c:=by
  cases h with
  | sl0 => exact ⟨_,_,_,rfl⟩
  | sl1 => exact ⟨_,_,_,rfl⟩
  | sl => exact ⟨_,_,_,rfl⟩
theorem street_vals8 {I : Nat → Prop} {w : World} {v : Value} {s : Street} (h : RepS I w v s.sv) : ∃ a b c d e f p1 l1 c1 p2 l2 c2,v = .agg #[.int .i64 a,.int .i64 b,.int .i64 c,.int .i64 d,.int .i64 e,.int .i64 f,.slice p1 l1 c1,.slice p2 l2 c2] ∧
    Fits I w [.int .i64 a,.int .i64 b,.int .i64 c,.int .i64 d,.int .i64 e,.int .i64 f,.slice p1 l1 c1,.slice p2 l2 c2] (streetDs s):=by
  obtain ⟨cs,rfl,hf⟩:=RepS.fits (xs:=streetDs s) h
  have hf':=hf
  unfold streetDs at hf
  match cs,hf with
  | _,.cons h0 (.cons h1 (.cons h2 (.cons h3 (.cons h4 (.cons h5 (.cons h6 (.cons h7 .nil))))))) =>
    obtain ⟨p1,l1,c1,rfl⟩:=rep_slice h6
    obtain ⟨p2,l2,c2,rfl⟩:=rep_slice h7
    cases h0; cases h1; cases h2; cases h3; cases h4; cases h5
    exact ⟨_,_,_,_,_,_,_,_,_,_,_,_,rfl,hf'⟩
def put8 (W : World) (Q : Nat) (a b c d e f g h : Value) : World :=
  (((((((W.setCell ⟨Q,0,none⟩ a).setCell ⟨Q,1,none⟩ b).setCell ⟨Q,2,none⟩ c).setCell ⟨Q,3,none⟩ d).setCell ⟨Q,4,none⟩ e).setCell ⟨Q,5,none⟩ f).setCell ⟨Q,6,none⟩ g).setCell ⟨Q,7,none⟩ h
theorem put8_at {W : World} {Q : Nat} {T : TypeId} {x0 x1 x2 x3 x4 x5 x6 x7 : Value} (hk : W.heap[Q]? = some (.cells #[x0,x1,x2,x3,x4,x5,x6,x7] T)) (a b c d e f g h : Value) :
    (put8 W Q a b c d e f g h).heap[Q]? = some (.cells #[a,b,c,d,e,f,g,h] T) ∧ (∀ k,k ≠ Q → (put8 W Q a b c d e f g h).heap[k]? = W.heap[k]?) ∧ (put8 W Q a b c d e f g h).heap.size = W.heap.size ∧
      (put8 W Q a b c d e f g h).os = W.os ∧ (put8 W Q a b c d e f g h).tape = W.tape ∧ (put8 W Q a b c d e f g h).output = W.output:=by
  have s0:=st_same hk 0 a
  have s1:=st_same s0 1 b
  have s2:=st_same s1 2 c
  have s3:=st_same s2 3 d
  have s4:=st_same s3 4 e
  have s5:=st_same s4 5 f
  have s6:=st_same s5 6 g
  have s7:=st_same s6 7 h
  refine ⟨by unfold put8; simpa using s7,fun k hk => ?_,by simp [put8,World.setCell,Array.size_modify],by simp only [put8,World.setCell],by simp only [put8,World.setCell],by simp only [put8,World.setCell]⟩
  unfold put8
  rw [Below.heap_setCell _ ⟨Q,7,none⟩ _ k hk,Below.heap_setCell _ ⟨Q,6,none⟩ _ k hk,Below.heap_setCell _ ⟨Q,5,none⟩ _ k hk,Below.heap_setCell _ ⟨Q,4,none⟩ _ k hk,Below.heap_setCell _ ⟨Q,3,none⟩ _ k hk,Below.heap_setCell _ ⟨Q,2,none⟩ _ k hk,Below.heap_setCell _ ⟨Q,1,none⟩ _ k hk,Below.heap_setCell _ ⟨Q,0,none⟩ _ k hk]
def StreetAt (Q n0 : Nat) (s : Street) (W : World) : Prop :=
  ∃ a b c d e f p1 l1 c1 p2 l2 c2,W.heap[Q]? = some (.cells #[.int .i64 a,.int .i64 b,.int .i64 c,.int .i64 d,.int .i64 e,.int .i64 f,.slice p1 l1 c1,.slice p2 l2 c2] 27) ∧
    ∃ (N : Nat → Prop),(∀ k,N k → n0 ≤ k ∧ k < W.heap.size) ∧ Fits N W [.int .i64 a,.int .i64 b,.int .i64 c,.int .i64 d,.int .i64 e,.int .i64 f,.slice p1 l1 c1,.slice p2 l2 c2] (streetDs s)
set_option maxHeartbeats 1000000 in
theorem cls_ok (t : List UInt8) (s : Street) (hp : Ctr Tryz.prog 70 [.d (.str t)] s.sv) (B Q : Nat) (W : World) (hG : Tabs W) (hB : W.heap[B]? = some (.cells #[.string ⟨t.toArray⟩] 9)) (hQ : W.heap[Q]? = some (.cells #[.int .i64 0,.int .i64 0,.int .i64 0,.int .i64 0,.int .i64 0,.int .i64 0,.slice none 0 0,.slice none 0 0] 27)) :
    Calls Tryz.prog 69 #[.pointer (some ⟨B,0,none⟩),.pointer (some ⟨Q,0,none⟩)] W fun e w1 => e = .returned (.tuple #[]) ∧ BelowX Q W w1 ∧ StreetAt Q W.heap.size s w1:=by
  have hlt:=(Array.getElem?_eq_some_iff.1 hQ).1
  have hcall:=hp.2 (fun _ => False) W #[.string ⟨t.toArray⟩] hG (fun k hk => hk.elim) rfl (fun j u y hu hy => by
    cases j with
    | zero => simp at hu hy; subst hu; subst hy; exact RepS.of (rep_str' _ _ _)
    | succ j => simp at hy)
  have g:=cellAt hB 0
  simp only [List.getElem?_toArray,List.getElem?_cons_zero,List.getElem?_cons_succ] at g
  go_enter Tryz.func69,Tryz.ntmps69
  go_wp2_with (go_at_call 70; refine hcall.mono ?_; rintro e w1 ⟨v,rfl,hv,hW1⟩; obtain ⟨a,b,c,d,e,f,p1,l1,c1,p2,l2,c2,rfl,hfit⟩:=street_vals8 hv; have hk:=(hW1.block Q hlt).trans hQ; have q:=cellAt hk; have q0:=q 0; have q1:=q 1; have q2:=q 2; have q3:=q 3; have q4:=q 4; have q5:=q 5; have q6:=q 6; have q7:=q 7; clear q; simp only [List.getElem?_toArray,List.getElem?_cons_zero,List.getElem?_cons_succ] at q0 q1 q2 q3 q4 q5 q6 q7; have fz : ∀ o,w1.frozen? ⟨Q,o,none⟩ = false:=fun o => by simp [World.frozen?,hk])
  obtain ⟨W',hW'⟩ : ∃ W',put8 w1 Q (.int .i64 a) (.int .i64 b) (.int .i64 c) (.int .i64 d) (.int .i64 e) (.int .i64 f) (.slice p1 l1 c1) (.slice p2 l2 c2) = W':=⟨_,rfl⟩
  have hput:=put8_at hk (.int .i64 a) (.int .i64 b) (.int .i64 c) (.int .i64 d) (.int .i64 e) (.int .i64 f) (.slice p1 l1 c1) (.slice p2 l2 c2)
  rw [hW'] at hput
  unfold put8 at hW'
  rw [hW']
  obtain ⟨s7,ho,hz,o1,o2,o3⟩:=hput
  go_end0
  refine ⟨rfl,⟨o1.trans hW1.os,o2.trans hW1.tape,o3.trans hW1.output,by rw [hz]; exact hW1.size,fun k hk hkQ => by rw [ho k hkQ]; exact hW1.block k hk⟩,a,b,c,d,e,f,p1,l1,c1,p2,l2,c2,s7,fun k => W.heap.size ≤ k ∧ k < w1.heap.size,fun k hk => ⟨hk.1,by rw [hz]; exact hk.2⟩,?_⟩
  exact hfit.mono (fun k hk => by rcases hk with hk | hk; exact hk.elim; exact hk) (fun k hk => by rcases hk with hk | hk; exact hk.elim; exact ho k (by omega))
end Go.Proofs.Sight
