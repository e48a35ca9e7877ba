/-
  The theorem of larger letters: SightLarger returns true at every input,and leaves it as it was.
  No condition beside those that the statement itself names.
-/
import Derived.Test.YtmafgkfeicjdgaaGreatDoorB00
import Derived.Test.YtmafgkfeicjdgaaGreatDoorB01
import Derived.Test.YtmafgkfeicjdgaaGreatDoorB02
import Derived.Test.YtmafgkfeicjdgaaGreatDoorB03
import Derived.Test.YtmafgkfeicjdgaaGreatDoorB04
import Derived.Test.YtmafgkfeicjdgaaGreatDoorB05
import Derived.Test.YtmafgkfeicjdgaaGreatDoorB06
import Derived.Test.YtmafgkfeicjdgaaGreatDoorB07
import Derived.Test.YtmafgkfeicjdgaaGreatDoorB08
import Derived.Test.YtmafgkfeicjdgaaGreatDoorB09
import Derived.Test.YtmafgkfeicjdgaaGreatDoorB10
import Derived.Test.YtmafgkfeicjdgaaGreatDoorB11
import Derived.Test.YtmafgkfeicjdgaaGreatDoorB12
import Derived.Test.YtmafgkfeicjdgaaGreatDoorB13
import Derived.Test.YtmafgkfeicjdgaaGreatDoorB14
import Derived.Test.YtmafgkfeicjdgaaGreatDoorB15
import Derived.Test.YtmafgkfeicjdgaaGreatDoorB16
import Derived.Test.YtmafgkfeicjdgaaGreatDoorB17
import Derived.Test.YtmafgkfeicjdgaaGreatDoorB18
import Derived.Test.YtmafgkfeicjdgaaGreatDoorB19
import Derived.Test.YtmafgkfeicjdgaaGreatDoorB20
import Derived.Test.YtmafgkfeicjdgaaGreatDoorB21
import Derived.Test.YtmafgkfeicjdgaaGreatDoorB22
import Derived.Test.YtmafgkfeicjdgaaGreatDoorB23
import Derived.Test.YtmafgkfeicjdgaaGreatDoorB24
import Derived.Test.YtmafgkfeicjdgaaGreatDoorB25
import Derived.Test.YtmafgkfeicjdgaaGreatDoorB26
import Derived.OpenShut
import Derived.Deep.Slices
import Derived.Deep.Strs
import Derived.Lib.SmallJoins
import Derived.Test.YtmafgkfeicjdgaaGreatDoorRows
import Derived.Test.YtmafgkfeicjdgaaGreatDoorTie
import Derived.Test.YtmafgkfeicjdgaaGreatDoorCards
import Derived.ProofKit
import Derived.LaidMore
import Derived.Lay
import Derived.LaidOnce
import Derived.SevenTiedAt
import Derived.Shelf.Vars
import Derived.Carry
import Derived.HandedShaped
import Derived.Stop.LaidErr
import Derived.ChangeCalls
import Derived.ChangeMaps5
set_option linter.all false
set_option linter.unusedVariables false
set_option linter.unusedSectionVars false
set_option linter.unusedSimpArgs false
set_option linter.unnecessarySimpa false
namespace Go.Proofs.Sight
open Go Go.RX Go.Proofs
set_option maxRecDepth 10000
theorem rightS_spec {s : Street} {i : Int} {p : Place} (h : rightS s i p = true) : s.fit ∧ lookOk s i p = true:=by
  simp only [rightS,Bool.and_eq_true] at h
  exact ⟨short_fit h.1,h.2⟩
theorem lookOk_of {s : Street} {i : Int} {p : Place} (hs : s.ok) (hi : 0 ≤ i ∧ i < s.bs.length) (hp : placeIn s p = true) : lookOk s i p = true:=by
  simp only [lookOk,Bool.and_eq_true,isStreet_ok.2 hs,hp,inR,decide_eq_true_eq,and_true,true_and]
  omega
theorem seen_of {s : Street} {i : Int} {p : Place} (h : lookOk s i p = true) : seenW s i p = word (surelyL ⟨s,brd s i,p⟩) (mayL ⟨s,brd s i,p⟩):=by
  obtain ⟨_,_,_,hl,_⟩:=lookOk_spec h
  rw [seenW,if_pos h,hl]; rfl
theorem c25r {s : Street} {i : Int} {p : Place} (h : lookOk s i p = true) : Ctr Tryz.prog 15 [s.sv,iS i,p.sv] (.tup [iS (word (surelyL ⟨s,brd s i,p⟩) (mayL ⟨s,brd s i,p⟩)),iS 0]):=by
  have h':=c25 s (lookOk_spec h).1.fit i p
  rwa [seen_of h,h,show errA true = 0 from rfl] at h'
end Go.Proofs.Sight
namespace Go.Proofs.Sight
open Go Go.RX Go.Proofs
abbrev Look.lo (L : Look) : Int:=L.s.el * L.s.ll
abbrev Look.hi (L : Look) : Int:=L.s.eh * L.s.lh
abbrev Look.at_ (L : Look) (k : Nat) : Letter:=L.b.ls.getD k default
section
variable {L : Look} (hg : L.good) (hp : L.lo ≤ L.hi)
include hg hp
end
end Go.Proofs.Sight
namespace Go.Proofs.Sight
open Go Go.RX Go.Proofs
set_option maxRecDepth 10000
theorem firstN_some {q : Nat → Bool} {m j : Nat} (h : firstN q m = some j) : j < m ∧ q j = true ∧ ∀ i,i < j → q i = false:=by
  unfold firstN at h
  rw [List.find?_range_eq_some] at h
  exact ⟨List.mem_range.1 h.2.1,h.1,fun i hi => by simpa using h.2.2 i hi⟩
theorem firstN_none {q : Nat → Bool} {m : Nat} (h : firstN q m = none) : ∀ i,i < m → q i = false:=by
  unfold firstN at h
  rw [List.find?_eq_none] at h
  intro i hi
  simpa using h i (List.mem_range.2 hi)
theorem firstN_from {q : Nat → Bool} {m : Nat} (hq : ∀ i j,i ≤ j → j < m → q i = true → q j = true) {k : Nat} (hk : k < m) (n : Int) (hn : n = k + 1) :
    q k = (errO (firstN q m) == 0 && decide (n ≥ numO (firstN q m))):=by
  cases h : firstN q m with
  | none => rw [firstN_none h k hk]; rfl
  | some j =>
    obtain ⟨h1,h2,h3⟩:=firstN_some h
    rw [errO_some,numO_some,Bool.eq_iff_iff]
    simp only [beq_self_eq_true,Bool.true_and,decide_eq_true_eq]
    constructor
    · intro hh
      have : ¬ k < j:=fun hlt => by rw [h3 k hlt] at hh; cases hh
      omega
    · intro hh
      exact hq j k (by omega) hk h2
abbrev Street.lit (s : Street) (n : Int) : Street:={ s with ll:=n,lh:=n }
theorem numO_in {q : Nat → Bool} {m : Nat} (h : errO (firstN q m) = 0) : 1 ≤ numO (firstN q m) ∧ numO (firstN q m) ≤ m:=by
  cases h' : firstN q m with
  | none => rw [h'] at h; cases h
  | some j =>
    have:=(firstN_some h').1
    rw [numO_some]; omega
theorem errO_or (o : Option Nat) : errO o = 0 ∨ errO o = 5:=by cases o <;> simp [errO]
end Go.Proofs.Sight
namespace Go.Proofs.Sight
open Go Go.RX Go.Proofs
set_option maxRecDepth 10000
theorem c53 (b : Board) (hb : ∀ x ∈ b.ls,x.fine) (hl : b.ls.length < 1000000) (n : Int) (h0 : 0 ≤ n) (h1 : n ≤ 1000) : Ctr Tryz.prog 43 [b.sv,iS n] (b.mul n).sv:=by
  (refine Ctr.mk (fn:=Tryz.f43) rfl rfl rfl rfl rfl Tryz.results43 ?_; dsimp only [args,List.toList_toArray])
  ((first | refine qS rfl rfl ?_ | refine qR rfl rfl ?_); simp only [go_sem,↓dP,↓reduceIte]; with_reducible and_intros; all_goals first | apply qA | exact ⟨⟩ | rfl | (intros; apply qB; first | kernel_rfl | omega) | omega | skip)
  ((first | refine qS rfl rfl ?_ | refine qR rfl rfl ?_); simp only [go_sem,↓dP,↓reduceIte]; with_reducible and_intros; all_goals first | apply qA | exact ⟨⟩ | rfl | (intros; apply qB; first | kernel_rfl | omega) | omega | skip)
  refine Ok.seq ?_
  ((first | refine qS rfl rfl ?_ | refine qR rfl rfl ?_); simp only [go_sem,↓dP,↓reduceIte]; with_reducible and_intros; all_goals first | apply qA | exact ⟨⟩ | rfl | (intros; apply qB; first | kernel_rfl | omega) | omega | skip)
  refine Ok.block ?_
  refine Ok.count b.ls.length (fun j => ⟨[(1,iS n),(2,.p 0 0),(4,.p 1 0),(5,.p 2 0),(6,iS j)],[boardB b,{ frz:=false,xs:=[iS 0,.d .nils] },{ frz:=false,xs:=[iS b.at_,.tk 0] }],[ownD 59 4 letD ((b.ls.take j).map (·.mul n))]⟩) (fun _ => True) ⟨trivial,?_⟩ ?_ ?_
  · (refine Sub.of ([0,1,2]) ([none]) ?_ ?_ ?_ rfl rfl <;> simp only [subB,subB1,subT,subT1,newT,subE,subV,subL,go_sem,↓dP,↓reduceIte] <;> (try (repeat' with_reducible apply And.intro)) <;> (try first | exact DEq.refl _ | refine DEq.int ?_ | refine DEq.bool ?_ | omega))
  · intro j hj _
    have hlen:=map_len (·.mul n) (l:=b.ls) (i:=j) (by omega)
    have hsn:=map_snoc (·.mul n) hj
    obtain ⟨x1,x2,x3,x4,x5,x6,x7,x8⟩:=hb _ (getD_mem hj)
    have e1:=mulB (a:=(b.ls.getD j default).h) (b:=n) (A:=1000) (B:=1000) (by omega) (by omega) (by omega) (by omega)
    have e2:=mulB (a:=(b.ls.getD j default).w) (b:=n) (A:=1000) (B:=1000) (by omega) (by omega) (by omega) (by omega)
    have e3:=mulB (a:=(b.ls.getD j default).s) (b:=n) (A:=1000) (B:=1000) (by omega) (by omega) (by omega) (by omega)
    have e4:=mulB (a:=(b.ls.getD j default).p) (b:=n) (A:=1000) (B:=1000) (by omega) (by omega) (by omega) (by omega)
    refine Ok.seq ?_; (((first | refine qS rfl rfl ?_ | refine qR rfl rfl ?_); simp only [go_sem,↓dP,↓reduceIte]; with_reducible and_intros; all_goals first | apply qA | exact ⟨⟩ | rfl | (intros; apply qB; first | kernel_rfl | omega) | omega | skip)); refine Ok.cond rfl (fun _ => ?_) (fun hb => by simp at hb; omega); (refine Ok.skip ?_; (try dsimp only [thenK,blockK,noGotoK])); refine Ok.seq ?_; refine Ok.block ?_
    ((first | refine qS rfl rfl ?_ | refine qR rfl rfl ?_); simp only [go_sem,↓dP,↓reduceIte]; with_reducible and_intros; all_goals first | apply qA | exact ⟨⟩ | rfl | (intros; apply qB; first | kernel_rfl | omega) | omega | skip)
    ((first | refine qS rfl rfl ?_ | refine qR rfl rfl ?_); simp only [go_sem,↓dP,↓reduceIte]; with_reducible and_intros; all_goals first | apply qA | exact ⟨⟩ | rfl | (intros; apply qB; first | kernel_rfl | omega) | omega | skip)
    (try dsimp only [thenK,blockK,noGotoK])
    ((first | refine qS rfl rfl ?_ | refine qR rfl rfl ?_); simp only [go_sem,↓dP,↓reduceIte]; with_reducible and_intros; all_goals first | apply qA | exact ⟨⟩ | rfl | (intros; apply qB; first | kernel_rfl | omega) | omega | skip)
    (try dsimp only [thenK,blockK,noGotoK])
    refine ⟨trivial,?_⟩
    (refine Sub.of ([0,1,2]) ([some 1]) ?_ ?_ ?_ rfl rfl <;> simp only [subB,subB1,subT,subT1,newT,subE,subV,subL,go_sem,↓dP,↓reduceIte] <;> (try (repeat' with_reducible apply And.intro)) <;> (try first | exact DEq.refl _ | refine DEq.int ?_ | refine DEq.bool ?_ | omega))
    · rw [hsn]; simp
    · rw [hsn]
      exact snoc_D (fun c hc => by
        match c,hc with
        | 0,_ => rfl
        | 1,_ => rfl
        | 2,_ => rfl
        | 3,_ => rfl)
  · intro _
    refine Ok.seq ?_; (((first | refine qS rfl rfl ?_ | refine qR rfl rfl ?_); simp only [go_sem,↓dP,↓reduceIte]; with_reducible and_intros; all_goals first | apply qA | exact ⟨⟩ | rfl | (intros; apply qB; first | kernel_rfl | omega) | omega | skip)); refine Ok.cond rfl (fun hb => by simp at hb) (fun _ => ?_); (refine Ok.exit ?_; simp only [thenK_exit,blockK_exit,noGotoK_exit,thenK_normal,blockK_normal,noGotoK_normal,↓reduceIte,Nat.reduceEqDiff])
    ((first | refine qS rfl rfl ?_ | refine qR rfl rfl ?_); simp only [go_sem,↓dP,↓reduceIte]; with_reducible and_intros; all_goals first | apply qA | exact ⟨⟩ | rfl | (intros; apply qB; first | kernel_rfl | omega) | omega | skip)
    (refine Ok.ret ?_; (try dsimp only [thenK,blockK,noGotoK]); simp only [toList_mk,List.toList_toArray,retK_ret,retK_normal,resOK,resV,celV,rowV,frzAll,frzT,subV,subL,go_sem,↓dP,↓reduceIte])
    simp only [List.take_length]
    ((repeat' with_reducible apply And.intro) <;> (first | exact DEq.refl _ | refine DEq.int ?_ | refine DEq.bool ?_ | skip))
end Go.Proofs.Sight
namespace Go.Proofs.Sight
open Go Go.RX Go.Proofs
theorem map_getD {α β : Type} [Inhabited α] [Inhabited β] (f : α → β) {l : List α} {i : Nat} (h : i < l.length) : (l.map f).getD i default = f (l.getD i default):=by
  rw [List.getD_eq_getElem?_getD,List.getD_eq_getElem?_getD,List.getElem?_map,List.getElem?_eq_getElem h]; rfl
theorem set_getD {α : Type} [Inhabited α] {l : List α} {i a : Nat} {b : α} (h : a < l.length) : (l.set i b).getD a default = if a = i then b else l.getD a default:=by
  rw [List.getD_eq_getElem?_getD,List.getD_eq_getElem?_getD,List.getElem?_set]
  by_cases e : a = i
  · subst e; rw [if_pos rfl,if_pos rfl,if_pos h]; rfl
  · rw [if_neg (fun h => e h.symm),if_neg e]
def Street.setB (s : Street) (i : Int) (b : Board) : Street:={ s with bs:=s.bs.set i.toNat b }
theorem setB_len (s : Street) (i : Int) (b : Board) : (s.setB i b).bs.length = s.bs.length:=by simp [Street.setB]
theorem setB_brd {s : Street} {i : Int} (hi : 0 ≤ i ∧ i < s.bs.length) (b : Board) : brd (s.setB i b) i = b:=by
  rw [brd,Street.setB]
  dsimp only
  rw [set_getD (by omega),if_pos rfl]
theorem setB_mem {s : Street} {i : Int} {b x : Board} (h : x ∈ (s.setB i b).bs) : x = b ∨ x ∈ s.bs:=by
  have:=List.mem_or_eq_of_mem_set h
  rcases this with h | h
  · exact .inr h
  · exact .inl h
theorem setB_fit {s : Street} (hs : s.fit) {b : Board} (hb : b.ls.length < 1000000) (i : Int) : (s.setB i b).fit:=by
  refine ⟨by rw [setB_len]; exact hs.1,hs.2.1,fun x hx => ?_⟩
  rcases setB_mem hx with rfl | h
  · exact hb
  · exact hs.2.2 _ h
theorem setB_look {s : Street} {i : Int} {p : Place} (h : lookOk s i p = true) {b : Board} (hb : (s.setB i b).ok) : lookOk (s.setB i b) i p = true:=by
  obtain ⟨hs,hi,hp,_,_⟩:=lookOk_spec h
  exact lookOk_of hb (by rw [setB_len]; exact hi) hp
theorem setB_surely (s : Street) (i : Int) (b b' : Board) (p : Place) : surelyL ⟨s.setB i b,b',p⟩ = surelyL ⟨s,b',p⟩:=by
  rw [Bool.eq_iff_iff,surely_iff,surely_iff]; rfl
theorem setB_may (s : Street) (i : Int) (b b' : Board) (p : Place) : mayL ⟨s.setB i b,b',p⟩ = mayL ⟨s,b',p⟩:=by
  rw [Bool.eq_iff_iff,may_iff,may_iff]; rfl
theorem seen_setB {s : Street} {i : Int} {p : Place} (h : lookOk s i p = true) {b : Board} (hb : (s.setB i b).ok) : Ctr Tryz.prog 15 [(s.setB i b).sv,iS i,p.sv] (.tup [iS (word (surelyL ⟨s,b,p⟩) (mayL ⟨s,b,p⟩)),iS 0]):=by
  have h':=c25r (setB_look h hb)
  rwa [setB_brd (lookOk_spec h).2.1,setB_surely,setB_may] at h'
theorem set_D {α : Type} [Inhabited α] {f : α → Nat → DV} {l : List α} {i k : Nat} {b : α} {ys : List DV} (hk : ∀ c,c < k → dget ys c = f b c) : ∀ a c,a < l.length → c < k →
    DEq (if a = i ∧ c < k then dget ys c else f (l.getD a default) c) (f ((l.set i b).getD a default) c):=by
  intro a c ha hc
  rw [set_getD ha]
  by_cases e : a = i
  · rw [if_pos ⟨e,hc⟩,if_pos e,hk c hc]; exact .refl _
  · rw [if_neg (fun h => e h.1),if_neg e]; exact .refl _
def streetX (s : Street) (n : Nat) : BC:={ frz:=false,xs:=[iS s.len,iS s.wid,iS s.el,iS s.eh,iS s.ll,iS s.lh,.tk n,.d (slD 5 bloD s.ks)] }
theorem streetX_def (s : Street) (n : Nat) : streetX s n = { frz:=false,xs:=[iS s.len,iS s.wid,iS s.el,iS s.eh,iS s.ll,iS s.lh,.tk n,.d (slD 5 bloD s.ks)] }:=Eq.trans rfl rfl
attribute [go_sem] streetX_def
theorem mul_leq {x : Letter} (hx : x.fine) {m n : Int} (h : m ≤ n) : (x.mul m).leq (x.mul n) :=
  ⟨Int.mul_le_mul_of_nonneg_left h hx.h0,Int.mul_le_mul_of_nonneg_left h hx.w0,Int.mul_le_mul_of_nonneg_left h hx.s0,Int.mul_le_mul_of_nonneg_left h hx.p0⟩
theorem larger_up {L : Look} (hg : L.good) (ht : ∀ x ∈ L.b.ls,isLetter x = true) : ∀ i j : Nat,i ≤ j → j < 9 → surelyL { L with b:=L.b.mul (i + 1) } = true → surelyL { L with b:=L.b.mul (j + 1) } = true:=by
  intro i j hij hj h
  have h1:=good_mul hg ht (i + 1) (by omega) (by omega)
  rw [surely_iff] at h ⊢
  refine ⟨fun k hk => ?_,clear_mono h1 rfl rfl (by simp [Board.mul]) (fun a ha => ?_) (pow_least h1.fine).1 (Int.le_refl _) h.2⟩
  · exact (hides_same (L:={ L with b:=L.b.mul (i + 1) }) (L':={ L with b:=L.b.mul (j + 1) }) rfl rfl k).trans (h.1 k hk)
  · have ha' : a < L.b.ls.length:=by simpa [Board.mul] using ha
    simp only [Board.mul]
    rw [map_getD _ ha',map_getD _ ha']
    exact mul_leq (hg.ls _ (getD_mem ha')) (by omega)
theorem c49r {s : Street} {i : Int} {p : Place} (h : lookOk s i p = true) : Ctr Tryz.prog 39 [s.sv,iS i,p.sv] (.tup [iS (numO (leastL ⟨s,brd s i,p⟩)),iS (errO (leastL ⟨s,brd s i,p⟩))]):=by
  have h':=c49 s (lookOk_spec h).1.fit i p
  obtain ⟨_,_,_,hl,_⟩:=lookOk_spec h
  have e1 : leastW s i p = numO (leastL ⟨s,brd s i,p⟩):=by rw [leastW,if_pos h,hl]; rfl
  have e2 : leastE s i p = errO (leastL ⟨s,brd s i,p⟩):=by rw [leastE,if_pos h,hl]; rfl
  rwa [e1,e2] at h'
end Go.Proofs.Sight
namespace Go.Proofs.Sight
open Go Go.RX Go.Proofs
set_option maxRecDepth 10000
theorem c11 (s : Street) (hh : s.held) (i : Int) (p : Place) (n : Int) : Ctr Tryz.prog 11 [s.sv,iS i,p.sv,iS n] (bS true):=by
  (refine Ctr.mk (fn:=Tryz.f11) rfl rfl rfl rfl rfl Tryz.results11 ?_; dsimp only [args,List.toList_toArray])
  ((first | refine qS rfl rfl ?_ | refine qR rfl rfl ?_); simp only [go_sem,↓dP,↓reduceIte]; with_reducible and_intros; all_goals first | apply qA | exact ⟨⟩ | rfl | (intros; apply qB; first | kernel_rfl | omega) | omega | skip)
  refine Ok.seq ?_
  ((first | refine qS rfl rfl ?_ | refine qR rfl rfl ?_); simp only [go_sem,↓dP,↓reduceIte]; with_reducible and_intros; all_goals first | apply qA | exact ⟨⟩ | rfl | (intros; apply qB; first | kernel_rfl | omega) | omega | skip)
  (refine AskI.ret (c23 s hh i p) ?_; simp only [go_sem,↓dP,↓reduceIte]; with_reducible and_intros; all_goals first | apply qA | exact ⟨⟩ | rfl | (intros; apply qB; first | kernel_rfl | omega) | omega | skip)
  refine Ok.cond rfl ?_ ?_
  · intro _
    ((first | refine qS rfl rfl ?_ | refine qR rfl rfl ?_); simp only [go_sem,↓dP,↓reduceIte]; with_reducible and_intros; all_goals first | apply qA | exact ⟨⟩ | rfl | (intros; apply qB; first | kernel_rfl | omega) | omega | skip)
    (refine AskI.ret (c24) ?_; simp only [go_sem,↓dP,↓reduceIte]; with_reducible and_intros; all_goals first | apply qA | exact ⟨⟩ | rfl | (intros; apply qB; first | kernel_rfl | omega) | omega | skip)
    (refine Ok.ret ?_; (try dsimp only [thenK,blockK,noGotoK]); simp only [toList_mk,List.toList_toArray,retK_ret,retK_normal,resOK,resV,celV,rowV,frzAll,frzT,subV,subL,go_sem,↓dP,↓reduceIte])
    exact .refl _
  intro hb
  simp only [Bool.or_eq_false_iff,Bool.not_eq_false',decide_eq_false_iff_not] at hb
  obtain ⟨⟨hr,n1⟩,n2⟩:=hb
  obtain ⟨hfit,hlk⟩:=rightS_spec hr
  obtain ⟨hok,hi,hp,hl,hg⟩:=lookOk_spec hlk
  rw [hl] at hg
  change (Look.mk s (brd s i) p).good at hg
  have hbd : isBoard (brd s i) s.len = true:=hok.bs _ (getD_mem (by omega))
  have ht : ∀ x ∈ (brd s i).ls,isLetter x = true:=(isBoard_spec hbd).2.2.2
  have hb3:=hok.b3
  have hn5:=hg.n5
  dsimp only at hn5
  have k53:=c53 (brd s i) hg.ls (by omega) n (by omega) (by omega)
  have hml : ((brd s i).mul n).ls.length < 1000000:=by simp [Board.mul]; omega
  have hxf:=setB_fit hfit hml i
  have k0:=c49r hlk
  have hfrom:=firstN_from (larger_up hg ht) (k:=(n - 1).toNat) (by omega) n (by omega)
  have hin:=numO_in (q:=fun j => surelyL { (Look.mk s (brd s i) p) with b:=(brd s i).mul (j + 1) }) (m:=9)
  have k1 : (s.setB i ((brd s i).mul n)).ok → _:=fun h => seen_setB hlk h
  change _ = (errO (leastL ⟨s,brd s i,p⟩) == 0 && decide (n ≥ numO (leastL ⟨s,brd s i,p⟩))) at hfrom
  change errO (leastL ⟨s,brd s i,p⟩) = 0 → 1 ≤ numO (leastL ⟨s,brd s i,p⟩) ∧ numO (leastL ⟨s,brd s i,p⟩) ≤ 9 at hin
  rw [show ((n - 1).toNat : Int) + 1 = n by omega] at hfrom
  have her:=errO_or (leastL ⟨s,brd s i,p⟩)
  generalize errO (leastL ⟨s,brd s i,p⟩) = e at *
  generalize numO (leastL ⟨s,brd s i,p⟩) = m at *
  generalize surelyL ⟨s,(brd s i).mul n,p⟩ = a at *
  generalize mayL ⟨s,(brd s i).mul n,p⟩ = b at *
  (refine Ok.skip ?_; (try dsimp only [thenK,blockK,noGotoK]))
  ((first | refine qS rfl rfl ?_ | refine qR rfl rfl ?_); simp only [go_sem,↓dP,↓reduceIte]; with_reducible and_intros; all_goals first | apply qA | exact ⟨⟩ | rfl | (intros; apply qB; first | kernel_rfl | omega) | omega | skip)
  ((first | refine qS rfl rfl ?_ | refine qR rfl rfl ?_); simp only [go_sem,↓dP,↓reduceIte]; with_reducible and_intros; all_goals first | apply qA | exact ⟨⟩ | rfl | (intros; apply qB; first | kernel_rfl | omega) | omega | skip)
  ((first | refine qS rfl rfl ?_ | refine qR rfl rfl ?_); simp only [go_sem,↓dP,↓reduceIte]; with_reducible and_intros; all_goals first | apply qA | exact ⟨⟩ | rfl | (intros; apply qB; first | kernel_rfl | omega) | omega | skip)
  (refine AskI.ret (k53) ?_; simp only [go_sem,↓dP,↓reduceIte]; with_reducible and_intros; all_goals first | apply qA | exact ⟨⟩ | rfl | (intros; apply qB; first | kernel_rfl | omega) | omega | skip)
  refine Ok.sub (σ':=⟨[(1,iS i),(3,iS n),(4,.p 0 0),(6,.p 1 0),(9,.p 2 0)],[streetB s,placeB p,streetX s 0],[ownD 51 2 boaD (s.setB i ((brd s i).mul n)).bs]⟩) ?_ ?_
  · (refine Sub.of ([0,1,2]) ([some 0]) ?_ ?_ ?_ rfl rfl <;> simp only [subB,subB1,subT,subT1,newT,subE,subV,subL,go_sem,↓dP,↓reduceIte] <;> (try (repeat' with_reducible apply And.intro)) <;> (try first | exact DEq.refl _ | refine DEq.int ?_ | refine DEq.bool ?_ | omega))
    · simp [Street.setB]
    · exact set_D (fun c hc => by
        match c,hc with
        | 0,_ => rfl
        | 1,_ => rfl)
  refine Ok.seq ?_
  ((first | refine qS rfl rfl ?_ | refine qR rfl rfl ?_); simp only [go_sem,↓dP,↓reduceIte]; with_reducible and_intros; all_goals first | apply qA | exact ⟨⟩ | rfl | (intros; apply qB; first | kernel_rfl | omega) | omega | skip)
  (refine AskI.ret (c30 (s.setB i ((brd s i).mul n)) hxf) ?_; simp only [go_sem,↓dP,↓reduceIte]; with_reducible and_intros; all_goals first | apply qA | exact ⟨⟩ | rfl | (intros; apply qB; first | kernel_rfl | omega) | omega | skip)
  refine Ok.cond rfl ?_ ?_
  · intro _
    ((first | refine qS rfl rfl ?_ | refine qR rfl rfl ?_); simp only [go_sem,↓dP,↓reduceIte]; with_reducible and_intros; all_goals first | apply qA | exact ⟨⟩ | rfl | (intros; apply qB; first | kernel_rfl | omega) | omega | skip)
    (refine AskI.ret (c24) ?_; simp only [go_sem,↓dP,↓reduceIte]; with_reducible and_intros; all_goals first | apply qA | exact ⟨⟩ | rfl | (intros; apply qB; first | kernel_rfl | omega) | omega | skip)
    (refine Ok.ret ?_; (try dsimp only [thenK,blockK,noGotoK]); simp only [toList_mk,List.toList_toArray,retK_ret,retK_normal,resOK,resV,celV,rowV,frzAll,frzT,subV,subL,go_sem,↓dP,↓reduceIte])
    exact .refl _
  intro hb
  have hx : (s.setB i ((brd s i).mul n)).ok:=isStreet_ok.1 (by simpa using hb)
  (refine Ok.skip ?_; (try dsimp only [thenK,blockK,noGotoK]))
  ((first | refine qS rfl rfl ?_ | refine qR rfl rfl ?_); simp only [go_sem,↓dP,↓reduceIte]; with_reducible and_intros; all_goals first | apply qA | exact ⟨⟩ | rfl | (intros; apply qB; first | kernel_rfl | omega) | omega | skip)
  (refine AskI.ret (k0) ?_; simp only [go_sem,↓dP,↓reduceIte]; with_reducible and_intros; all_goals first | apply qA | exact ⟨⟩ | rfl | (intros; apply qB; first | kernel_rfl | omega) | omega | skip)
  ((first | refine qS rfl rfl ?_ | refine qR rfl rfl ?_); simp only [go_sem,↓dP,↓reduceIte]; with_reducible and_intros; all_goals first | apply qA | exact ⟨⟩ | rfl | (intros; apply qB; first | kernel_rfl | omega) | omega | skip)
  (refine AskI.ret (k1 hx) ?_; simp only [go_sem,↓dP,↓reduceIte]; with_reducible and_intros; all_goals first | apply qA | exact ⟨⟩ | rfl | (intros; apply qB; first | kernel_rfl | omega) | omega | skip)
  refine Ok.seq ?_
  ((first | refine qS rfl rfl ?_ | refine qR rfl rfl ?_); simp only [go_sem,↓dP,↓reduceIte]; with_reducible and_intros; all_goals first | apply qA | exact ⟨⟩ | rfl | (intros; apply qB; first | kernel_rfl | omega) | omega | skip)
  refine Ok.cond rfl (fun hb => ?_) (fun _ => ?_)
  · exfalso
    rcases her with rfl | rfl
    · have:=hin rfl
      simp at hb
      omega
    · simp at hb
  (refine Ok.skip ?_; (try dsimp only [thenK,blockK,noGotoK]))
  ((first | refine qS rfl rfl ?_ | refine qR rfl rfl ?_); simp only [go_sem,↓dP,↓reduceIte]; with_reducible and_intros; all_goals first | apply qA | exact ⟨⟩ | rfl | (intros; apply qB; first | kernel_rfl | omega) | omega | skip)
  (refine AskGI.ret (fun _ => c24) ?_; simp only [go_sem,↓dP,↓reduceIte]; with_reducible and_intros; all_goals first | apply qA | exact ⟨⟩ | rfl | (intros; apply qB; first | kernel_rfl | omega) | omega | skip)
  (refine Ok.ret ?_; (try dsimp only [thenK,blockK,noGotoK]); simp only [toList_mk,List.toList_toArray,retK_ret,retK_normal,resOK,resV,celV,rowV,frzAll,frzT,subV,subL,go_sem,↓dP,↓reduceIte])
  rw [word_3,hfrom]
  refine DEq.bool ?_
  simp
end Go.Proofs.Sight
namespace Go.Proofs.Sight
open Go Go.RX Go.Proofs Go.RowKit Go.ChangeShapes Go.WideShapes Go.Deep Go.ChangeAt
set_option maxRecDepth 100000
section
variable {H : Type} {enc : TypeId × Value → H} {W : World}
theorem cell3 : Tryz.prog.cellsOf 3 = 1:=by kernel_rfl
theorem cell4 : Tryz.prog.cellsOf 4 = 1:=by kernel_rfl
theorem cell23 : Tryz.prog.cellsOf 23 = 2:=by kernel_rfl
theorem cell24 : Tryz.prog.cellsOf 24 = 1:=by kernel_rfl
theorem cell25 : Tryz.prog.cellsOf 25 = 1:=by kernel_rfl
theorem cell27 : Tryz.prog.cellsOf 27 = 8:=by kernel_rfl
theorem cell29 : Tryz.prog.cellsOf 29 = 2:=by kernel_rfl
theorem cell49 : Tryz.prog.cellsOf 49 = 1:=by kernel_rfl
theorem cell51 : Tryz.prog.cellsOf 51 = 2:=by kernel_rfl
theorem cell59 : Tryz.prog.cellsOf 59 = 4:=by kernel_rfl
theorem cell66 : Tryz.prog.cellsOf 66 = 5:=by kernel_rfl
abbrev There (W : World) : Nat → Prop:=fun b => b < W.heap.size
theorem cell_there {a : Addr} {v : Value} (h : W.cell? a = some v) : a.spot = none ∧ a.block < W.heap.size:=by
  unfold World.cell? at h
  cases ho : W.heap[a.block]? with
  | none => rw [ho] at h; cases h
  | some o =>
    have hlt:=(Array.getElem?_eq_some_iff.1 ho).1
    rw [ho] at h
    cases o <;> simp only at h <;> try (cases h; done)
    cases hsp : a.spot with
    | none => exact ⟨rfl,hlt⟩
    | some x => rw [hsp] at h; simp at h
theorem open_rows {α : Type} [Inhabited α] {t e k : Nat} (ht : Tryz.prog.underlying t = some (.slice e)) (hc : Tryz.prog.cellsOf e = k) (hk : 0 < k) (f : α → Nat → DV) (Q : α → Prop)
    (hel : ∀ n cs x,DataW.trod enc Tryz.prog W 0 (fun _ => true) true n e cs = some x → ∃ y : α,Q y ∧ cs.length = k ∧ ∀ j u,cs[j]? = some u → Rep (There W) W u (f y j))
    {n : Nat} {cs : List Value} {x : DataW H × List MemPlace} (h : DataW.trod enc Tryz.prog W 0 (fun _ => true) true n t cs = some x) :
    ∃ (v : Value) (l : List α),cs = [v] ∧ l.length ≤ maxLen ∧ Rep (There W) W v (slD k f l) ∧ ∀ y ∈ l,Q y:=by
  rcases open_slice ht h with ⟨rfl,_⟩ | ⟨a,len,cap,m,n',D,Pl,rfl,hb,hl,hm,hmm,rfl,hx⟩
  · exact ⟨_,[],rfl,Nat.zero_le _,.sl0,fun y hy => by simp at hy⟩
  simp only [if_true] at hmm
  subst hmm
  have hx' : ∀ i,i < len → ∃ y : α,Q y ∧ ∀ j,j < k → ∃ u,W.cell? ((a.add (i * k)).add j) = some u ∧ Rep (There W) W u (f y j):=by
    intro i hi
    obtain ⟨cs',h1,h2⟩:=hx i (by omega)
    rw [hc] at h1
    obtain ⟨y,hq,hlen,hr⟩:=hel _ _ _ h2
    obtain ⟨_,_,h3⟩:=World.cells?_some h1
    refine ⟨y,hq,fun j hj => ?_⟩
    have hj' : j < cs'.length:=by omega
    exact ⟨cs'[j],by rw [h3 j hj,List.getElem?_eq_getElem hj'],hr j _ (List.getElem?_eq_getElem hj')⟩
  obtain ⟨L,hL⟩:=choose_lt hx'
  by_cases h0 : len = 0
  · subst h0
    exact ⟨_,[],rfl,Nat.zero_le _,.sl1 hm,fun y hy => by simp at hy⟩
  · obtain ⟨u0,hu0,_⟩:=(hL 0 (by omega)).2 0 hk
    rw [Go.Deep.add_add,show 0 * k + 0 = 0 by omega,show a.add 0 = a from rfl] at hu0
    obtain ⟨hs,hlt⟩:=cell_there hu0
    obtain ⟨b,o,sp⟩:=a
    simp only at hs hlt
    subst hs
    refine ⟨_,(List.range len).map L,rfl,by simp; omega,?_,fun y hy => ?_⟩
    · have hll : ((List.range len).map L).length = len:=by simp
      show Rep _ _ _ (.sl k ((List.range len).map L).length _)
      rw [hll]
      refine .sl (fun i j => (W.cell? ⟨b,o + (i * k + j),none⟩).getD undef) hlt hl hm (fun i j hi hj => ?_) (fun i j hi hj => ?_)
      · obtain ⟨u,hu,_⟩:=(hL i hi).2 j hj
        rw [Go.Deep.add_add,Addr.add_mid] at hu
        rw [hu]; rfl
      · obtain ⟨u,hu,hr⟩:=(hL i hi).2 j hj
        rw [Go.Deep.add_add,Addr.add_mid] at hu
        rw [hu]
        have : ((List.range len).map L).getD i default = L i:=by simp [List.getD_eq_getElem?_getD,hi]
        rw [this]; exact hr
    · obtain ⟨i,hi,rfl⟩:=List.mem_map.1 hy
      exact (hL i (List.mem_range.1 hi)).1
theorem open_letter (n : Nat) (cs : List Value) (x : DataW H × List MemPlace) (h : DataW.trod enc Tryz.prog W 0 (fun _ => true) true n 59 cs = some x) : ∃ y : Letter,True ∧ cs.length = 4 ∧ ∀ j u,cs[j]? = some u → Rep (There W) W u (letD y j):=by
  obtain ⟨y0,y1,y2,y3,m,_,hl,h0,h1,h2,h3⟩:=Joins.trod_struct4 Tryz.underlying59 h
  rw [cell59] at hl
  match cs,hl with
  | [c0,c1,c2,c3],_ =>
    obtain ⟨n0,e0,_⟩:=DataW.trod_int Tryz.underlying3 h0
    obtain ⟨n1,e1,_⟩:=DataW.trod_int Tryz.underlying3 h1
    obtain ⟨n2,e2,_⟩:=DataW.trod_int Tryz.underlying3 h2
    obtain ⟨n3,e3,_⟩:=DataW.trod_int Tryz.underlying3 h3
    simp [cell3] at e0 e1 e2 e3
    subst e0; subst e1; subst e2; subst e3
    refine ⟨⟨n0,n1,n2,n3⟩,trivial,rfl,fun j u hu => ?_⟩
    match j,hu with
    | 0,hu => simp at hu; subst hu; exact .int
    | 1,hu => simp at hu; subst hu; exact .int
    | 2,hu => simp at hu; subst hu; exact .int
    | 3,hu => simp at hu; subst hu; exact .int
    | j + 4,hu => simp at hu
theorem open_span {n : Nat} {cs : List Value} {x : DataW H × List MemPlace} (h : DataW.trod enc Tryz.prog W 0 (fun _ => true) true n 23 cs = some x) : ∃ a b : Int,cs = [.int .i64 a,.int .i64 b]:=by
  obtain ⟨y0,y1,m,_,hl,h0,h1⟩:=trod_struct2 Tryz.underlying23 h
  rw [cell23] at hl
  match cs,hl with
  | [c0,c1],_ =>
    obtain ⟨n0,e0,_⟩:=DataW.trod_int Tryz.underlying3 h0
    obtain ⟨n1,e1,_⟩:=DataW.trod_int Tryz.underlying3 h1
    simp [cell3] at e0 e1
    subst e0; subst e1
    exact ⟨n0,n1,rfl⟩
theorem open_block (n : Nat) (cs : List Value) (x : DataW H × List MemPlace) (h : DataW.trod enc Tryz.prog W 0 (fun _ => true) true n 66 cs = some x) : ∃ y : Block,True ∧ cs.length = 5 ∧ ∀ j u,cs[j]? = some u → Rep (There W) W u (bloD y j):=by
  obtain ⟨y0,y1,y2,m,_,hl,h0,h1,h2⟩:=trod_struct3 Tryz.underlying66 h
  rw [cell66] at hl
  match cs,hl with
  | [c0,c1,c2,c3,c4],_ =>
    obtain ⟨a0,b0,e0⟩:=open_span h0
    obtain ⟨a1,b1,e1⟩:=open_span h1
    obtain ⟨s,e2,_⟩:=DataW.trod_bool Tryz.underlying4 h2
    simp [cell23,cell4] at e0 e1 e2
    obtain ⟨rfl,rfl⟩:=e0
    obtain ⟨rfl,rfl⟩:=e1
    subst e2
    refine ⟨⟨a0,b0,a1,b1,s⟩,trivial,rfl,fun j u hu => ?_⟩
    match j,hu with
    | 0,hu => simp at hu; subst hu; exact .int
    | 1,hu => simp at hu; subst hu; exact .int
    | 2,hu => simp at hu; subst hu; exact .int
    | 3,hu => simp at hu; subst hu; exact .int
    | 4,hu => simp at hu; subst hu; exact .bool
    | j + 5,hu => simp at hu
theorem open_board (n : Nat) (cs : List Value) (x : DataW H × List MemPlace) (h : DataW.trod enc Tryz.prog W 0 (fun _ => true) true n 51 cs = some x) : ∃ y : Board,y.ls.length ≤ maxLen ∧ cs.length = 2 ∧ ∀ j u,cs[j]? = some u → Rep (There W) W u (boaD y j):=by
  obtain ⟨y0,y1,m,_,hl,h0,h1⟩:=trod_struct2 Tryz.underlying51 h
  rw [cell51] at hl
  match cs,hl with
  | [c0,c1],_ =>
    obtain ⟨n0,e0,_⟩:=DataW.trod_int Tryz.underlying3 h0
    obtain ⟨v,l,e1,hlen,hrep,_⟩:=open_rows Tryz.underlying49 cell59 (by decide) letD (fun _ => True) open_letter h1
    simp [cell3,cell49] at e0 e1
    subst e0; subst e1
    refine ⟨⟨n0,l⟩,hlen,rfl,fun j u hu => ?_⟩
    match j,hu with
    | 0,hu => simp at hu; subst hu; exact .int
    | 1,hu => simp at hu; subst hu; exact hrep
    | j + 2,hu => simp at hu
theorem open_street {v : Value} {d : DataW H} {ps : List MemPlace} {b0 : Nat} (hok : Value.okWide Tryz.prog W .any b0 27 v) (h : DataW.Trod enc Tryz.prog W 0 (fun _ => true) true 27 v d ps) : ∃ s : Street,RepS (There W) W v s.sv ∧ s.held:=by
  unfold Value.okWide at hok
  rw [Tryz.underlying27] at hok
  obtain ⟨cs,rfl,_,_⟩:=hok
  obtain ⟨n,h⟩:=h
  obtain ⟨xs,m,_,_,hl,hlen,hf⟩:=DataW.trod_struct Tryz.underlying27 h
  simp only [Value.cells] at hl hf
  rw [cell27] at hl
  match xs,hlen with
  | [y0,y1,y2,y3,y4,y5],_ =>
    have h0:=hf 0 _ rfl
    have h1:=hf 1 _ rfl
    have h2:=hf 2 _ rfl
    have h3:=hf 3 _ rfl
    have h4:=hf 4 _ rfl
    have h5:=hf 5 _ rfl
    obtain ⟨cs⟩:=cs
    simp only at hl h0 h1 h2 h3 h4 h5
    match cs,hl with
    | [c0,c1,c2,c3,c4,c5,c6,c7],_ =>
      obtain ⟨n0,e0,_⟩:=DataW.trod_int Tryz.underlying3 h0
      obtain ⟨n1,e1,_⟩:=DataW.trod_int Tryz.underlying3 h1
      obtain ⟨a2,b2,e2⟩:=open_span h2
      obtain ⟨a3,b3,e3⟩:=open_span h3
      obtain ⟨v4,bs,e4,hbl,hbr,hbq⟩:=open_rows Tryz.underlying24 cell51 (by decide) boaD (fun b => b.ls.length ≤ maxLen) open_board h4
      obtain ⟨v5,ks,e5,hkl,hkr,_⟩:=open_rows Tryz.underlying25 cell66 (by decide) bloD (fun _ => True) open_block h5
      simp [cell3,cell23,cell24,cell25] at e0 e1 e2 e3 e4 e5
      subst e0; subst e1
      obtain ⟨rfl,rfl⟩:=e2
      obtain ⟨rfl,rfl⟩:=e3
      subst e4; subst e5
      refine ⟨⟨n0,n1,a2,b2,a3,b3,bs,ks⟩,Fits.reps (xs:=[iD n0,iD n1,iD a2,iD b2,iD a3,iD b3,slD 2 boaD bs,slD 5 bloD ks]) (.cons .int (.cons .int (.cons .int (.cons .int (.cons .int (.cons .int (.cons hbr (.cons hkr .nil)))))))),?_,?_,fun b hb => ?_⟩
      · have : maxLen ≤ 9223372036854775807:=by decide
        exact Nat.le_trans hbl this
      · have : maxLen ≤ 9223372036854775807:=by decide
        exact Nat.le_trans hkl this
      · have : maxLen ≤ 9223372036854775807:=by decide
        exact Nat.le_trans (hbq b hb) this
theorem open_place {v : Value} {d : DataW H} {ps : List MemPlace} {b0 : Nat} (hok : Value.okWide Tryz.prog W .any b0 29 v) (h : DataW.Trod enc Tryz.prog W 0 (fun _ => true) true 29 v d ps) : ∃ p : Place,RepS (There W) W v p.sv:=by
  unfold Value.okWide at hok
  rw [Tryz.underlying29] at hok
  obtain ⟨cs,rfl,_,_⟩:=hok
  obtain ⟨n,h⟩:=h
  obtain ⟨y0,y1,m,_,hl,h0,h1⟩:=trod_struct2 Tryz.underlying29 h
  simp only [Value.cells] at hl h0 h1
  rw [cell29] at hl
  obtain ⟨cs⟩:=cs
  simp only at hl h0 h1
  match cs,hl with
  | [c0,c1],_ =>
    obtain ⟨n0,e0,_⟩:=DataW.trod_int Tryz.underlying3 h0
    obtain ⟨n1,e1,_⟩:=DataW.trod_int Tryz.underlying3 h1
    simp [cell3] at e0 e1
    subst e0; subst e1
    exact ⟨⟨n0,n1⟩,Fits.reps (xs:=[iD n0,iD n1]) (.cons .int (.cons .int .nil))⟩
end
end Go.Proofs.Sight
namespace Go.Proofs.YtmafgkfeicjdgaaGreatDoor
open Go Go.RX Go.Proofs.Sight Go.RowKit Go.ChangeShapes Go.WideShapes Go.ChangeAt
set_option maxRecDepth 100000
theorem own : ownKnob Tryz.prog.godebug = none:=by kernel_rfl
abbrev laid5 : List (String × DataW Unit):=Rows.sightEyesRow.laid
theorem tabs_of {W : World} (hL : laidMetH Tryz.prog laid5 W) (hS : W.ShapedOpen Tryz.prog) : Tabs W:=by
  rw [MakeChecks.laidMetH_plain _ _ _ (by kernel_rfl)] at hL
  refine ⟨?_,?_⟩
  · exact Lib.tabIs_of_head (zs:=Lib.pow10Tab) (g:=3) (t:=207) (e:=191) (n:=20) (by kernel_rfl) (by kernel_rfl) Tryz.underlying207 Tryz.underlying191 (by kernel_rfl) (by kernel_rfl) hL.tail.tail
  · exact Go.Proofs.cell_of_shapedOpen_int (t:=3) (zero:=#[.int .i64 0]) hS (of_decide_eq_true (by kernel_rfl)) (by kernel_rfl) rfl (by kernel_rfl) (by kernel_rfl) Tryz.underlying3
variable {H : Type} {enc : TypeId × Value → H}
theorem trodAll_below {W W' : World} (hb : Below W.heap.size W W') : ∀ {ts : List TypeId} {vs : List Value} {ds : List (DataW H)} {ps : List MemPlace},(∀ t ∈ ts,Tryz.prog.readableRec t = true ∧ t < Tryz.prog.types.size) →
    DataW.TrodAll enc Tryz.prog W 0 (fun _ => true) true ts vs ds ps → (∀ x ∈ ps,x.block < W.heap.size) → DataW.TrodAll enc Tryz.prog W' 0 (fun b => decide (b < W.heap.size)) true ts vs ds ps
  | [],[],[],_,_,h,_ => h
  | _ :: _,_ :: _,_ :: _,_,hT,⟨p,q,h1,h2,e⟩,hs => ⟨p,q,Below.trod laidOut (hT _ (List.mem_cons.2 (Or.inl rfl))).1 (hT _ (List.mem_cons.2 (Or.inl rfl))).2 h1 hb (fun x hx => hs x (by rw [e]; exact List.mem_append_left _ hx)),
      trodAll_below hb (fun t ht => hT t (List.mem_cons.2 (Or.inr ht))) h2 (fun x hx => hs x (by rw [e]; exact List.mem_append_right _ hx)),e⟩
theorem law_ret {os : Os} {f : FuncId} {fn : Func} (s : ChangeSpec) (hv : s.vars = []) (started : os.Started) (noInit : Tryz.prog.inits.idxOf? f = none) (hfn : Tryz.prog.funcs[f]? = some fn) (hres : fn.resultTypes = #[4])
    (hts : ∀ t ∈ fn.params.toList,Tryz.prog.readableRec t = true ∧ t < Tryz.prog.types.size)
    (hs : ∀ ds : List (DataW H),ds.length = fn.params.toList.length → s.fn H (ds ++ []) = { results:=[.lit (.bool true)],args:=ds })
    (witness : ∃ (w : World) (tape : Tape) (i : Input),w.os = os ∧ (w.forCall tape i).Shaped Tryz.prog ∧ i.vars = [] ∧ Input.okWide Tryz.prog (w.forCall tape i) .any w.heap.size f i ∧
      ((s.pre enc Tryz.prog fn [] false (w.forCall tape i).memory i.args ∧ laidMetH Tryz.prog laid5 (w.forCall tape i).memory) ∧ sizedMet enc Tryz.prog fn (OpenSpec.ofChange s) false (w.forCall tape i).memory i.args) ∧ ({} : Assume).holds Tryz.prog (lone (Frame.enter Tryz.prog f i.args .normal) [] (w.forCall tape i)))
    (contract : ∀ (W : World) (base : Nat) (args : Array Value) (ds : List (DataW H)) (ps : List MemPlace),
      (∀ (j : Nat) t v,fn.params[j]? = some t → args[j]? = some v → Value.okWide Tryz.prog W .any base t v) →
      DataW.TrodAll enc Tryz.prog W 0 (fun _ => true) true fn.params.toList args.toList ds ps → Tabs W →
      Calls Tryz.prog f args W fun e W' => e = .returned (.bool true) ∧ Below W.heap.size W W') :
    ReturnsInHanded {} Tryz.checked os f .any (fun w args => (s.pre enc Tryz.prog fn [] false w args ∧ laidMetH Tryz.prog laid5 w) ∧ sizedMet enc Tryz.prog fn (OpenSpec.ofChange s) false w args) (s.post enc Tryz.prog fn false true false false):=by
  refine returnsInHanded_of_calls (C:=Tryz.checked) own started noInit witness ?_
  intro w tape i _ hsh _ hok hpre hholds
  obtain ⟨_,_,_,fn',hfn',_,_,_,_,hval⟩:=hok
  have e : fn' = fn:=Option.some.inj (hfn'.symm.trans hfn)
  subst e
  obtain ⟨⟨⟨ds,gs,before,hw,hc⟩,hx⟩,hz⟩:=hpre
  have hW':=DataW.Whole.of_heap (w':=w.forCall tape i) (by rfl) hw
  have hW:=hW'
  obtain ⟨p,q,hA,hV,rfl,_,_⟩:=hW
  rw [hv] at hV
  obtain ⟨rfl,rfl⟩:=trodVars_none hV
  have hL : laidMetH Tryz.prog laid5 (w.forCall tape i):=hx.of_heap (by rfl)
  refine (contract (w.forCall tape i) w.heap.size i.args ds p hval hA (tabs_of hL hsh)).mono fun e W' ⟨he,hb⟩ => ?_
  subst he
  refine ChangeSpec.post_blind ?_
  have hlen:=(Go.trodAll_length hA).2
  have hsf:=hs ds hlen
  refine ⟨ds,[],_,[],p,[],hW',?_,?_,?_,hb.frame _,fun h => by cases h⟩
  · rw [hsf,hres]
    exact trodAll_mk1 (shut_bool Tryz.underlying4 _)
  · rw [hsf]
    exact trodAll_below hb hts hA (fun x hx => by
      have:=hW'.lt x (by simpa using hx)
      exact this)
  · rw [hsf,hv]
    rfl
end Go.Proofs.YtmafgkfeicjdgaaGreatDoor
namespace Go.Proofs.YtmafgkfeicjdgaaGreatDoor
open Go Go.RX Go.Proofs.Sight Go.RowKit Go.ChangeShapes Go.WideShapes Go.ChangeAt
set_option maxRecDepth 100000
abbrev zS : Value:=.agg #[.int .i64 0,.int .i64 0,.int .i64 0,.int .i64 0,.int .i64 0,.int .i64 0,.slice none 0 0,.slice none 0 0]
abbrev zP : Value:=.agg #[.int .i64 0,.int .i64 0]
abbrev zI : Value:=.int .i64 0
def opens (t : TypeId) (A : SV) : Prop :=
  (t = 27 ∧ ∃ s : Street,A = s.sv ∧ s.held) ∨ (t = 29 ∧ ∃ p : Go.Proofs.Sight.Place,A = p.sv) ∨ (t = 3 ∧ ∃ i : Int,A = iS i ∧ -9223372036854775808 ≤ i ∧ i ≤ 9223372036854775807) ∨ (t = 9 ∧ ∃ x : List UInt8,A = .d (.str x) ∧ x.length ≤ maxLen)
def opensAll : List TypeId → List SV → Prop
  | [],[] => True
  | t :: ts,A :: As => opens t A ∧ opensAll ts As
  | _,_ => False
section
variable {H : Type} {enc : TypeId × Value → H} {W : World}
theorem open_one {t : TypeId} {v : Value} {d : DataW H} {ps : List MemPlace} {b0 : Nat} (ht : t = 27 ∨ t = 29 ∨ t = 3 ∨ t = 9) (hok : Value.okWide Tryz.prog W .any b0 t v)
    (h : DataW.Trod enc Tryz.prog W 0 (fun _ => true) true t v d ps) : ∃ A,opens t A ∧ RepS (There W) W v A:=by
  rcases ht with rfl | rfl | rfl | rfl
  · obtain ⟨s,hr,hh⟩:=open_street hok h
    exact ⟨_,.inl ⟨rfl,s,rfl,hh⟩,hr⟩
  · obtain ⟨p,hr⟩:=open_place hok h
    exact ⟨_,.inr (.inl ⟨rfl,p,rfl⟩),hr⟩
  · obtain ⟨m,rfl,_,_,hm⟩:=open_int Tryz.underlying3 hok h
    simp [Lit.wf,IntKind.min,IntKind.max,IntKind.signed,IntKind.bits] at hm
    exact ⟨iS m,.inr (.inr (.inl ⟨rfl,m,rfl,by omega,by omega⟩)),RepS.of .int⟩
  · obtain ⟨x,rfl,_,_,hm⟩:=Go.ChangeMaps.open_string Tryz.underlying9 hok h
    refine ⟨.d (.str x.data.toList),.inr (.inr (.inr ⟨rfl,_,rfl,?_⟩)),RepS.of (.str rfl)⟩
    have : x.data.toList.length = x.size:=rfl
    omega
theorem open_all {b0 : Nat} : ∀ {ts : List TypeId} {vs : List Value} {ds : List (DataW H)} {ps : List MemPlace},(∀ t ∈ ts,t = 27 ∨ t = 29 ∨ t = 3 ∨ t = 9) →
    (∀ (j : Nat) t v,ts[j]? = some t → vs[j]? = some v → Value.okWide Tryz.prog W .any b0 t v) → DataW.TrodAll enc Tryz.prog W 0 (fun _ => true) true ts vs ds ps →
    ∃ As,opensAll ts As ∧ vs.length = As.length ∧ ∀ (j : Nat) u s,vs[j]? = some u → As[j]? = some s → RepS (There W) W u s
  | [],vs,ds,ps,_,_,h => by
    obtain ⟨rfl,rfl,rfl⟩:=trodAll_nil h
    exact ⟨[],trivial,rfl,fun j u s h1 _ => by simp at h1⟩
  | t :: ts,vs,ds,ps,hT,hv,h => by
    obtain ⟨v,vs',d,ds',p,q,rfl,rfl,rfl,h1,h2⟩:=trodAll_cons h
    obtain ⟨A,ha,hr⟩:=open_one (hT t (List.mem_cons.2 (.inl rfl))) (hv 0 t v rfl rfl) h1
    obtain ⟨As,hA,hl,hR⟩:=open_all (fun t ht => hT t (List.mem_cons.2 (.inr ht))) (fun j t v a b => hv (j + 1) t v (by simpa using a) (by simpa using b)) h2
    refine ⟨A :: As,⟨ha,hA⟩,by simp [hl],fun j u s a b => ?_⟩
    cases j with
    | zero =>
      simp at a b
      subst a; subst b
      exact hr
    | succ j => exact hR j u s (by simpa using a) (by simpa using b)
theorem read_of {t : TypeId} (ht : t = 27 ∨ t = 29 ∨ t = 3 ∨ t = 9) : Tryz.prog.readableRec t = true ∧ t < Tryz.prog.types.size:=by
  rcases ht with rfl | rfl | rfl | rfl <;> exact ⟨by kernel_rfl,of_decide_eq_true (by kernel_rfl)⟩
end
theorem opensAll_cons {t : TypeId} {ts : List TypeId} {As : List SV} (h : opensAll (t :: ts) As) : ∃ A Bs,As = A :: Bs ∧ opens t A ∧ opensAll ts Bs:=by
  cases As with
  | nil => exact h.elim
  | cons A Bs => exact ⟨A,Bs,rfl,h.1,h.2⟩
theorem opensAll_nil {As : List SV} (h : opensAll [] As) : As = []:=by
  cases As with
  | nil => rfl
  | cons A Bs => exact h.elim
theorem opens_street {A : SV} (h : opens 27 A) : ∃ s : Street,A = s.sv ∧ s.held:=by
  rcases h with h | h | h | h
  · exact h.2
  · exact absurd h.1 (by decide)
  · exact absurd h.1 (by decide)
  · exact absurd h.1 (by decide)
theorem opens_place {A : SV} (h : opens 29 A) : ∃ p : Go.Proofs.Sight.Place,A = p.sv:=by
  rcases h with h | h | h | h
  · exact absurd h.1 (by decide)
  · exact h.2
  · exact absurd h.1 (by decide)
  · exact absurd h.1 (by decide)
theorem opens_int {A : SV} (h : opens 3 A) : ∃ i : Int,A = iS i ∧ -9223372036854775808 ≤ i ∧ i ≤ 9223372036854775807:=by
  rcases h with h | h | h | h
  · exact absurd h.1 (by decide)
  · exact absurd h.1 (by decide)
  · exact h.2
  · exact absurd h.1 (by decide)
theorem law_stand {t : TypeId} {ts : List TypeId} (hts : ∀ t ∈ ts,t = 27 ∨ t = 29 ∨ t = 3 ∨ t = 9) (ht : t ∈ ts) : Tryz.prog.wantsStandIn t = false:=by
  rcases hts t ht with rfl | rfl | rfl | rfl <;> kernel_rfl
theorem law_ctr {H : Type} {enc : TypeId × Value → H} {os : Os} {f : FuncId} {fn : Func} {ts : List TypeId} (s : ChangeSpec) (hv : s.vars = []) (started : os.Started) (noInit : Tryz.prog.inits.idxOf? f = none) (hfn : Tryz.prog.funcs[f]? = some fn) (hres : fn.resultTypes = #[4])
    (hp : fn.params.toList = ts) (hts : ∀ t ∈ ts,t = 27 ∨ t = 29 ∨ t = 3 ∨ t = 9)
    (hs : ∀ ds : List (DataW H),ds.length = ts.length → s.fn H (ds ++ []) = { results:=[.lit (.bool true)],args:=ds })
    (witness : ∃ (w : World) (tape : Tape) (i : Input),w.os = os ∧ (w.forCall tape i).Shaped Tryz.prog ∧ i.vars = [] ∧ Input.okWide Tryz.prog (w.forCall tape i) .any w.heap.size f i ∧
      ((s.pre enc Tryz.prog fn [] false (w.forCall tape i).memory i.args ∧ laidMetH Tryz.prog laid5 (w.forCall tape i).memory) ∧ sizedMet enc Tryz.prog fn (OpenSpec.ofChange s) false (w.forCall tape i).memory i.args) ∧ ({} : Assume).holds Tryz.prog (lone (Frame.enter Tryz.prog f i.args .normal) [] (w.forCall tape i)))
    (contract : ∀ As,opensAll ts As → Ctr Tryz.prog f As (bS true)) :
    ReturnsInHanded {} Tryz.checked os f .any (fun w args => (s.pre enc Tryz.prog fn [] false w args ∧ laidMetH Tryz.prog laid5 w) ∧ sizedMet enc Tryz.prog fn (OpenSpec.ofChange s) false w args) (s.post enc Tryz.prog fn false true false false):=by
  subst hp
  refine law_ret s hv started noInit hfn hres (fun t ht => read_of (hts t ht)) hs witness ?_
  intro W base args ds ps hval hA hT
  obtain ⟨As,ho,hl,hR⟩:=open_all (b0:=base) hts (fun j t v a b => hval j t v (by simpa using a) (by simpa using b)) hA
  refine ((contract As ho).2 (There W) W args hT (fun b h => h) (by simpa using hl) (fun j u s a b => hR j u s (by simpa using a) b)).mono fun e W' ⟨v,he,hr,hb⟩ => ?_
  subst he
  have h0:=hr (fun _ => none)
  cases h0 with
  | d h0 =>
    cases h0
    exact ⟨rfl,hb⟩
end Go.Proofs.YtmafgkfeicjdgaaGreatDoor
namespace Go.Proofs.YtmafgkfeicjdgaaGreatDoor
open Go Go.RX Go.Proofs.Sight Go.RowKit Go.ChangeShapes Go.WideShapes Go.ChangeAt
set_option maxRecDepth 100000
theorem init_is : Tryz.prog.initOrder = String.ofList ("harness".toList ++ Char.ofNat 32 :: ("c089f4a6c7dee226a511cebe5626e4f890a9efbc5be6c538b82d4ec1adb53a90".toList ++ Char.ofNat 32 :: ("cut".toList ++ Char.ofNat 32 :: [.ofNat 97,.ofNat 116,.ofNat 32,.ofNat 109,.ofNat 97,.ofNat 104,.ofNat 108,.ofNat 115,.ofNat 116,.ofNat 105,.ofNat 99,.ofNat 107,.ofNat 47,.ofNat 109,.ofNat 97,.ofNat 104,.ofNat 108,.ofNat 115,.ofNat 116,.ofNat 105,.ofNat 99,.ofNat 107,.ofNat 108,.ofNat 97,
  .ofNat 119,.ofNat 48,.ofNat 50,.ofNat 46,.ofNat 83,.ofNat 105,.ofNat 103,.ofNat 104,.ofNat 116,.ofNat 69,.ofNat 121,.ofNat 101,.ofNat 115,.ofNat 32,.ofNat 109,.ofNat 97,.ofNat 104,.ofNat 108,.ofNat 115,.ofNat 116,.ofNat 105,.ofNat 99,.ofNat 107,.ofNat 47,
  .ofNat 109,.ofNat 97,.ofNat 104,.ofNat 108,.ofNat 115,.ofNat 116,.ofNat 105,.ofNat 99,.ofNat 107,.ofNat 108,.ofNat 97,.ofNat 119,.ofNat 48,.ofNat 50,.ofNat 46,.ofNat 83,.ofNat 105,.ofNat 103,.ofNat 104,.ofNat 116,.ofNat 87,.ofNat 104,.ofNat 121,.ofNat 115,
  .ofNat 32,.ofNat 109,.ofNat 97,.ofNat 104,.ofNat 108,.ofNat 115,.ofNat 116,.ofNat 105,.ofNat 99,.ofNat 107,.ofNat 47,.ofNat 109,.ofNat 97,.ofNat 104,.ofNat 108,.ofNat 115,.ofNat 116,.ofNat 105,.ofNat 99,.ofNat 107,.ofNat 108,.ofNat 97,.ofNat 119,.ofNat 48,
  .ofNat 50,.ofNat 46,.ofNat 83,.ofNat 105,.ofNat 103,.ofNat 104,.ofNat 116,.ofNat 70,.ofNat 97,.ofNat 117,.ofNat 108,.ofNat 116,.ofNat 121,.ofNat 32,.ofNat 109,.ofNat 97,.ofNat 104,.ofNat 108,.ofNat 115,.ofNat 116,.ofNat 105,.ofNat 99,.ofNat 107,.ofNat 47,
  .ofNat 109,.ofNat 97,.ofNat 104,.ofNat 108,.ofNat 115,.ofNat 116,.ofNat 105,.ofNat 99,.ofNat 107,.ofNat 108,.ofNat 97,.ofNat 119,.ofNat 48,.ofNat 50,.ofNat 46,.ofNat 83,.ofNat 105,.ofNat 103,.ofNat 104,.ofNat 116,.ofNat 76,.ofNat 101,.ofNat 116,.ofNat 116,
  .ofNat 101,.ofNat 114,.ofNat 105,.ofNat 110,.ofNat 103,.ofNat 115,.ofNat 32,.ofNat 109,.ofNat 97,.ofNat 104,.ofNat 108,.ofNat 115,.ofNat 116,.ofNat 105,.ofNat 99,.ofNat 107,.ofNat 47,.ofNat 109,.ofNat 97,.ofNat 104,.ofNat 108,.ofNat 115,.ofNat 116,.ofNat 105,
  .ofNat 99,.ofNat 107,.ofNat 108,.ofNat 97,.ofNat 119,.ofNat 48,.ofNat 50,.ofNat 46,.ofNat 83,.ofNat 105,.ofNat 103,.ofNat 104,.ofNat 116,.ofNat 80,.ofNat 97,.ofNat 114,.ofNat 116,.ofNat 115,.ofNat 32,.ofNat 109,.ofNat 97,.ofNat 104,.ofNat 108,.ofNat 115,
  .ofNat 116,.ofNat 105,.ofNat 99,.ofNat 107,.ofNat 47,.ofNat 109,.ofNat 97,.ofNat 104,.ofNat 108,.ofNat 115,.ofNat 116,.ofNat 105,.ofNat 99,.ofNat 107,.ofNat 108,.ofNat 97,.ofNat 119,.ofNat 48,.ofNat 50,.ofNat 46,.ofNat 83,.ofNat 105,.ofNat 103,.ofNat 104,
  .ofNat 116,.ofNat 77,.ofNat 97,.ofNat 110,.ofNat 121,.ofNat 115,.ofNat 32,.ofNat 109,.ofNat 97,.ofNat 104,.ofNat 108,.ofNat 115,.ofNat 116,.ofNat 105,.ofNat 99,.ofNat 107,.ofNat 47,.ofNat 109,.ofNat 97,.ofNat 104,.ofNat 108,.ofNat 115,.ofNat 116,.ofNat 105,
  .ofNat 99,.ofNat 107,.ofNat 108,.ofNat 97,.ofNat 119,.ofNat 48,.ofNat 50,.ofNat 46,.ofNat 83,.ofNat 105,.ofNat 103,.ofNat 104,.ofNat 116,.ofNat 65,.ofNat 119,.ofNat 97,.ofNat 121,.ofNat 32,.ofNat 109,.ofNat 97,.ofNat 104,.ofNat 108,.ofNat 115,.ofNat 116,
  .ofNat 105,.ofNat 99,.ofNat 107,.ofNat 47,.ofNat 109,.ofNat 97,.ofNat 104,.ofNat 108,.ofNat 115,.ofNat 116,.ofNat 105,.ofNat 99,.ofNat 107,.ofNat 108,.ofNat 97,.ofNat 119,.ofNat 48,.ofNat 50,.ofNat 46,.ofNat 83,.ofNat 105,.ofNat 103,.ofNat 104,.ofNat 116,
  .ofNat 76,.ofNat 101,.ofNat 97,.ofNat 115,.ofNat 116,.ofNat 115,.ofNat 32,.ofNat 109,.ofNat 97,.ofNat 104,.ofNat 108,.ofNat 115,.ofNat 116,.ofNat 105,.ofNat 99,.ofNat 107,.ofNat 47,.ofNat 109,.ofNat 97,.ofNat 104,.ofNat 108,.ofNat 115,.ofNat 116,.ofNat 105,
  .ofNat 99,.ofNat 107,.ofNat 108,.ofNat 97,.ofNat 119,.ofNat 48,.ofNat 50,.ofNat 46,.ofNat 83,.ofNat 105,.ofNat 103,.ofNat 104,.ofNat 116,.ofNat 76,.ofNat 97,.ofNat 114,.ofNat 103,.ofNat 101,.ofNat 114,.ofNat 32,.ofNat 109,.ofNat 97,.ofNat 104,.ofNat 108,
  .ofNat 115,.ofNat 116,.ofNat 105,.ofNat 99,.ofNat 107,.ofNat 47,.ofNat 109,.ofNat 97,.ofNat 104,.ofNat 108,.ofNat 115,.ofNat 116,.ofNat 105,.ofNat 99,.ofNat 107,.ofNat 108,.ofNat 97,.ofNat 119,.ofNat 48,.ofNat 50,.ofNat 46,.ofNat 83,.ofNat 105,.ofNat 103,
  .ofNat 104,.ofNat 116,.ofNat 76,.ofNat 105,.ofNat 116]))):=by kernel_rfl
theorem words_cons (c : Char) (r : List Char) (h : c ≠ Char.ofNat 32) : wordsSigns (c :: r) = match wordsSigns r with | w :: ws => (c :: w) :: ws | [] => [[c]]:=by
  rw [wordsSigns.eq_3 _ _ (by intro e; exact h e)]
  cases wordsSigns r <;> rfl
theorem words_of : ∀ (w r : List Char),(∀ c ∈ w,c ≠ Char.ofNat 32) → wordsSigns (w ++ Char.ofNat 32 :: r) = w :: wordsSigns r
  | [],r,_ => rfl
  | c :: w,r,h => by
    rw [List.cons_append,words_cons _ _ (h c (List.mem_cons.2 (.inl rfl))),words_of w r (fun c hc => h c (List.mem_cons.2 (.inr hc)))]
theorem words_is : ∃ ws,wordsSigns Tryz.prog.initOrder.toList = "harness".toList :: "c089f4a6c7dee226a511cebe5626e4f890a9efbc5be6c538b82d4ec1adb53a90".toList :: "cut".toList :: ws:=by
  rw [init_is,String.toList_ofList]
  exact ⟨_,by rw [words_of _ _ (by decide +kernel),words_of _ _ (by decide +kernel),words_of _ _ (by decide +kernel)]⟩
theorem behind_of (s : List Char) (ws : List (List Char)) (h : isSumSigns s = true) : behindMainWord ("harness".toList :: s :: ws) = ws:=by
  unfold behindMainWord
  simp only [h,beq_self_eq_true,Bool.true_or,Bool.and_self,if_true]
theorem sum_is : isSumSigns "c089f4a6c7dee226a511cebe5626e4f890a9efbc5be6c538b82d4ec1adb53a90".toList = true:=by decide +kernel
theorem behind_is : ∃ ws,behindMainWord (wordsSigns Tryz.prog.initOrder.toList) = "cut".toList :: ws:=by
  obtain ⟨ws,h⟩:=words_is
  exact ⟨ws,(congrArg behindMainWord h).trans (behind_of _ _ sum_is)⟩
theorem mainIs_of (P : Program) (s : List Char) (ws : List (List Char)) (h : wordsSigns P.initOrder.toList = "harness".toList :: s :: ws) (hs : isSumSigns s = true) : P.mainIs = some (true,s):=by
  unfold Program.mainIs
  rw [h]
  simp only [hs,beq_self_eq_true,if_true,Bool.not_true,if_false,Bool.false_eq_true]
theorem main_is : Tryz.prog.mainIs = some (true,"c089f4a6c7dee226a511cebe5626e4f890a9efbc5be6c538b82d4ec1adb53a90".toList):=by
  obtain ⟨ws,h⟩:=words_is
  exact mainIs_of _ _ _ h sum_is
theorem strip_cut (ws : List (List Char)) : stripLifts liftWords ("cut".toList :: ws) = ([],"cut".toList :: ws):=by
  have e : ∀ (l : List String),l.all (fun o => !("cut".toList == o.toList)) = true → stripLifts l ("cut".toList :: ws) = ([],"cut".toList :: ws)
    := fun l => by
      induction l with
      | nil => intro _; rfl
      | cons o os ih =>
        intro h
        rw [List.all_cons,Bool.and_eq_true] at h
        rw [stripLifts,if_neg (by simpa using h.1)]
        exact ih h.2
  exact e _ (by decide +kernel)
theorem lifts_of (P : Program) (ws : List (List Char)) (h : behindMainWord (wordsSigns P.initOrder.toList) = "cut".toList :: ws) : P.headLifts = []:=by
  unfold Program.headLifts
  rw [h,strip_cut]
  simp
theorem later_is : Tryz.prog.laysLater = false:=by kernel_rfl
theorem reflect_is : Tryz.prog.bearsReflect = false:=by kernel_rfl
theorem door_is : Tryz.prog.doorFits [] = true:=by kernel_rfl
theorem ne_gc : ("cut".toList == "gc".toList) = false:=by decide +kernel
theorem ne_spec : ("cut".toList == "spec".toList) = false:=by decide +kernel
theorem ne_carried : ("cut".toList == "carried".toList) = false:=by decide +kernel
theorem enter_of (P : Program) (ws : List (List Char)) (h : behindMainWord (wordsSigns P.initOrder.toList) = "cut".toList :: ws) (h1 : P.laysLater = false) (h2 : P.bearsReflect = false) (h3 : P.doorFits [] = true) : P.mayEnter = true:=by
  unfold Program.mayEnter
  rw [h]
  simp only [strip_cut,h1,h2,h3,ne_gc,ne_spec,ne_carried,List.head?_cons,beq_self_eq_true,Bool.not_false,Bool.or_true,Bool.and_self,List.contains_nil,Bool.or_self,Bool.false_and,Bool.false_or]
theorem final_of (P : Program) (ws : List (List Char)) (h : behindMainWord (wordsSigns P.initOrder.toList) = "cut".toList :: ws) : P.liftsFinal = false:=by
  unfold Program.liftsFinal
  have e : ((some "cut".toList : Option (List Char)) == some "carried".toList) = false:=by decide +kernel
  simp only [h,lifts_of P ws h,List.head?_cons,e,Bool.false_and,Bool.false_or,List.contains_nil]
theorem make_of (P : Program) (ws : List (List Char)) (h : behindMainWord (wordsSigns P.initOrder.toList) = "cut".toList :: ws) : P.make = some .cut:=by
  unfold Program.make
  rw [h]
  simp only [ne_gc,ne_spec,beq_self_eq_true,Bool.or_self,Bool.true_or,Bool.false_eq_true,if_false,if_true]
theorem enter_is : Tryz.prog.mayEnter = true:=by
  obtain ⟨ws,h⟩:=behind_is
  exact enter_of _ ws h later_is reflect_is door_is
theorem final_is : Tryz.prog.liftsFinal = false:=by
  obtain ⟨ws,h⟩:=behind_is
  exact final_of _ ws h
theorem make_is : Tryz.prog.make = some .cut:=by
  obtain ⟨ws,h⟩:=behind_is
  exact make_of _ ws h
end Go.Proofs.YtmafgkfeicjdgaaGreatDoor
namespace Go.Proofs.YtmafgkfeicjdgaaGreatDoor
open Go Go.RX Go.Proofs.Sight Go.RowKit Go.ChangeShapes Go.WideShapes Go.ChangeAt
set_option maxRecDepth 100000
theorem larger_ctr (As : List SV) (h : opensAll [27,3,29,3] As) : Ctr Tryz.prog 11 As (bS true):=by
  obtain ⟨_,A1,rfl,h0,h⟩:=opensAll_cons h
  obtain ⟨_,A2,rfl,h1,h⟩:=opensAll_cons h
  obtain ⟨_,A3,rfl,h2,h⟩:=opensAll_cons h
  obtain ⟨_,A4,rfl,h3,h⟩:=opensAll_cons h
  obtain rfl:=opensAll_nil h
  obtain ⟨x0,rfl,y0⟩:=opens_street h0
  obtain ⟨x1,rfl,y1,z1⟩:=opens_int h1
  obtain ⟨x2,rfl⟩:=opens_place h2
  obtain ⟨x3,rfl,y3,z3⟩:=opens_int h3
  exact c11 x0 y0 x1 x2 x3
theorem larger_facts : joinedFacts Tryz.prog 11 Tryz.f11 Rows.sightLargerSpec Rows.sightLargerRow = true:=by unfold joinedFacts; rw [enter_is,final_is,make_is]; kernel_rfl
theorem larger_lifted (os : Os) (started : os.Started) (H : Type) (enc : TypeId × Value → H) :
    ReturnsInHanded {} Tryz.checked os 11 .any (fun w args => (Rows.sightLargerSpec.pre enc Tryz.prog Tryz.f11 [] false w args ∧ laidMetH Tryz.prog laid5 w) ∧ sizedMet enc Tryz.prog Tryz.f11 (OpenSpec.ofChange Rows.sightLargerSpec) false w args)
      (Rows.sightLargerSpec.post enc Tryz.prog Tryz.f11 false true false false):=by
  refine law_ctr (ts:=[27,3,29,3]) Rows.sightLargerSpec rfl started (by kernel_rfl) Tryz.func11 (by kernel_rfl) (by rw [Tryz.params11]) (by decide)
    (fun ds hd => ?_)
    (ChangeSpec.witness_shaped (enc:=enc) (C:=Tryz.checked) (os:=os) (X:=fun w _ => laidMetH Tryz.prog laid5 w) false (World.laidAll Tryz.prog os laid5) #[zS,zI,zP,zI] 8 (World.laidAll_os _ _ _)
      (World.shaped_of_ZipB (by kernel_rfl) (by kernel_rfl)) (by kernel_rfl) (by kernel_rfl) (by kernel_rfl)
      (by rw [MakeChecks.laidMetH_plain _ _ _ (by kernel_rfl)]; exact laidMet_laidAll _ (by kernel_rfl) (by kernel_rfl))) larger_ctr
  match ds,hd with
  | [d0,d1,d2,d3],_ => rfl
theorem larger_row : Rows.SightLargerSaid :=
  OpenClaim.holds_of_wide 11 Tryz.f11 rfl rfl rfl rfl rfl rfl rfl ⟨rfl,rfl,rfl,rfl,rfl⟩ rfl rfl rfl rfl rfl (by kernel_rfl) Tryz.func11 larger_facts (of_decide_eq_true (by kernel_rfl))
    (by unfold Func.isWrapper; first | (rw [if_pos (by decide +kernel)]; kernel_rfl) | (rw [if_neg (by decide +kernel)]; exact ⟨rfl,rfl⟩)) (fun os started H enc _ => larger_lifted os started H enc)
theorem larger_card : Rows.SightLargerCardSaid :=
  Claim7.holds_tied_plain_at .later [] [.data,.data,.data,.data,.pinned] true (true,"c089f4a6c7dee226a511cebe5626e4f890a9efbc5be6c538b82d4ec1adb53a90") true larger_row
    (fun _ h => by cases h) (by kernel_rfl) (fun _ h => by cases h) sightLarger_row_tie rfl ⟨rfl,rfl⟩ main_is rfl
    (fun f fn hf hfn => by
      obtain rfl : f = 11:=Option.some.inj ((show Tryz.prog.funcNamed "mahlstick/mahlsticklaw02.SightLarger" = some 11 by kernel_rfl).symm.trans hf) |>.symm
      obtain rfl : fn = Tryz.f11:=(Option.some.inj (Tryz.func11.symm.trans hfn)).symm
      exact ⟨by kernel_rfl,fun j t ht => by
        rw [Tryz.params11] at ht
        exact law_stand (ts:=[27,3,29,3]) (by decide) (by simpa using Array.mem_of_getElem? ht)⟩) (by kernel_rfl)
#print axioms larger_card
end Go.Proofs.YtmafgkfeicjdgaaGreatDoor
