/-
  The program's functions,contracts: what each one returns,whatever the world: part 24. No condition.
-/
import Derived.Test.YtchnganlpgfdjaaGreatDoorB00
import Derived.Test.YtchnganlpgfdjaaGreatDoorB01
import Derived.Test.YtchnganlpgfdjaaGreatDoorB02
import Derived.Test.YtchnganlpgfdjaaGreatDoorB03
import Derived.Test.YtchnganlpgfdjaaGreatDoorB04
import Derived.Test.YtchnganlpgfdjaaGreatDoorB05
import Derived.Test.YtchnganlpgfdjaaGreatDoorB06
import Derived.Test.YtchnganlpgfdjaaGreatDoorB07
import Derived.Test.YtchnganlpgfdjaaGreatDoorB08
import Derived.Test.YtchnganlpgfdjaaGreatDoorB09
import Derived.Test.YtchnganlpgfdjaaGreatDoorB10
import Derived.Test.YtchnganlpgfdjaaGreatDoorB11
import Derived.Test.YtchnganlpgfdjaaGreatDoorB12
import Derived.Test.YtchnganlpgfdjaaGreatDoorB13
import Derived.Test.YtchnganlpgfdjaaGreatDoorB14
import Derived.Test.YtchnganlpgfdjaaGreatDoorB15
import Derived.Test.YtchnganlpgfdjaaGreatDoorB16
import Derived.Test.YtchnganlpgfdjaaGreatDoorB17
import Derived.Test.YtchnganlpgfdjaaGreatDoorB18
import Derived.Test.YtchnganlpgfdjaaGreatDoorB19
import Derived.Test.YtchnganlpgfdjaaGreatDoorB20
import Derived.Test.YtchnganlpgfdjaaGreatDoorB21
import Derived.Test.YtchnganlpgfdjaaGreatDoorB22
import Derived.Defers
import Derived.Recover
import Derived.Shelf.Strings.Builder1
import Derived.Shelf.Strings.Builder2
import Derived.Shelf.Strings.OnBuilder
import Derived.Shelf.Strings.BuilderF
import Derived.Shelf.Strings.BuilderK
import Derived.Shelf.Utf8.RuneCount
import Derived.Shelf.Strings.Builder2Cap
import Derived.Shelf.Strconv.Itoa0
import Derived.Shelf.Strconv.Itoa1
import Derived.Shelf.LaysM
import Derived.Shelf.Strconv.Itoa2
import Derived.Shelf.Strconv.Itoa3
import Derived.Shelf.Strings.Search1
import Derived.Shelf.Strings.Search2
import Derived.Shelf.Strings.Search3
import Derived.Shelf.Strings.Count
import Derived.Shelf.Strings.Shaped
import Derived.Shelf.Strings.Split
import Derived.Shelf.Strings.SplitShaped
import Derived.Shelf.Unicode.Decode
import Derived.Shelf.Strings.RuneCount
import Derived.Shelf.Strings.Explode
import Derived.Shelf.Unicode.DecodeSlow
import Derived.Shelf.Unicode.DecodeAny
import Derived.Shelf.Strings.BuilderCap
import Derived.Test.YtchnganlpgfdjaaGreatDoorProg
import Derived.Lib.AppendIntMem
import Derived.Lib.SplitLaws
import Derived.Lib.ItoaLen
set_option linter.all false
set_option linter.unusedVariables false
set_option linter.unusedSectionVars false
set_option linter.unusedSimpArgs false
set_option linter.unnecessarySimpa false
namespace Go.Proofs.Sight
open Go Go.RX Go.Proofs
set_option maxRecDepth 10000
def plL (s : Street) : List Pl:=uptoP s.wid.toNat ((s.len.toNat + 1) * s.wid.toNat)
def sureAt (s : Street) (b : Board) (x : Pl) : Bool:=surelyL ⟨s,b,x.p⟩
def mayAt (s : Street) (b : Board) (x : Pl) : Bool:=mayL ⟨s,b,x.p⟩
def fromL (q : Pl → Bool) (s : Street) : List Pl:=seenF q (plL s)
theorem good_pl {s : Street} (hs : s.ok) {b : Board} (hb : isBoard b s.len = true) (x : Pl) : (Look.mk s b x.p).good:=by
  have h0 : placeIn s ⟨0,1⟩ = true:=by
    have:=hs.len0; have:=hs.wid0
    simp [placeIn,inR]; omega
  have g:=good_of hs hb h0
  have f:=g.fine
  have:=x.1.isLt; have:=x.2.isLt
  exact ⟨⟨f.at0,f.at1,by simp only [Pl.p]; omega,by simp only [Pl.p]; omega,by simp only [Pl.p]; omega,by simp only [Pl.p]; omega,f.el0,f.el1,f.eh0,f.eh1,f.ll0,f.ll1,f.lh0,f.lh1⟩,g.ls,g.ks,g.n1,g.n5,g.k4⟩
theorem c92S {s : Street} (hs : s.ok) {b : Board} (hb : isBoard b s.len = true) (cc : Nat → DV) : Ctr Tryz.prog 50 [s.sv,b.sv,.d (.clo 51 0 cc)] (.d (mpD (fromL (sureAt s b) s))) :=
  c92 s b 51 cc (sureAt s b) s.len.toNat s.wid.toNat (by have:=hs.len0; omega) (by have:=hs.wid0; omega) (by have:=hs.len1; omega) (by have:=hs.wid1; omega) (fun x => c74 _ (good_pl hs hb x))
theorem c92M {s : Street} (hs : s.ok) {b : Board} (hb : isBoard b s.len = true) (cc : Nat → DV) : Ctr Tryz.prog 50 [s.sv,b.sv,.d (.clo 58 0 cc)] (.d (mpD (fromL (mayAt s b) s))) :=
  c92 s b 58 cc (mayAt s b) s.len.toNat s.wid.toNat (by have:=hs.len0; omega) (by have:=hs.wid0; omega) (by have:=hs.len1; omega) (by have:=hs.wid1; omega) (fun x => c75 _ (good_pl hs hb x))
def boardOk (s : Street) (i : Int) : Bool:=isStreet s && inR i 0 (s.bs.length - 1)
def brd (s : Street) (i : Int) : Board:=s.bs.getD i.toNat default
theorem boardOk_spec {s : Street} {i : Int} (h : boardOk s i = true) : s.ok ∧ (0 ≤ i ∧ i < s.bs.length) ∧ isBoard (brd s i) s.len = true:=by
  simp only [boardOk,inR,Bool.and_eq_true,decide_eq_true_eq] at h
  have hs:=isStreet_ok.1 h.1
  exact ⟨hs,⟨by omega,by omega⟩,hs.bs _ (getD_mem (by omega))⟩
def manyS (s : Street) (i : Int) : Int:=if boardOk s i then (fromL (sureAt s (brd s i)) s).length else 0
def manyM (s : Street) (i : Int) : Int:=if boardOk s i then (fromL (mayAt s (brd s i)) s).length else 0
theorem c42 (s : Street) (hs : s.fit) (i : Int) : Ctr Tryz.prog 20 [s.sv,iS i] (.tup [iS (manyS s i),iS (manyM s i),iS (errA (boardOk s i))]):=by
  have h91:=c91 s hs i
  (refine Ctr.mk (fn:=Tryz.f20) rfl rfl rfl rfl rfl Tryz.results20 ?_; dsimp only [args,List.toList_toArray])
  ((first | refine qS rfl rfl ?_ | refine qR rfl rfl ?_); simp only [go_sem,↓dP,↓reduceIte]; with_reducible and_intros; all_goals first | apply qA | exact ⟨⟩ | rfl | (intros; apply qB; first | kernel_rfl | omega) | omega | skip)
  refine Ok.seq ?_
  ((first | refine qS rfl rfl ?_ | refine qR rfl rfl ?_); simp only [go_sem,↓dP,↓reduceIte]; with_reducible and_intros; all_goals first | apply qA | exact ⟨⟩ | rfl | (intros; apply qB; first | kernel_rfl | omega) | omega | skip)
  (refine AskI.ret (h91) ?_; simp only [go_sem,↓dP,↓reduceIte]; with_reducible and_intros; all_goals first | apply qA | exact ⟨⟩ | rfl | (intros; apply qB; first | kernel_rfl | omega) | omega | skip)
  refine Ok.cond rfl ?_ ?_
  · intro hb
    have hb' : boardOk s i = false:=by
      unfold boardOk
      revert hb
      cases (isStreet s && inR i 0 (s.bs.length - 1)) <;> simp
    ((first | refine qS rfl rfl ?_ | refine qR rfl rfl ?_); simp only [go_sem,↓dP,↓reduceIte]; with_reducible and_intros; all_goals first | apply qA | exact ⟨⟩ | rfl | (intros; apply qB; first | kernel_rfl | omega) | omega | skip)
    (refine Ok.ret ?_; (try dsimp only [thenK,blockK,noGotoK]); simp only [toList_mk,List.toList_toArray,retK_ret,retK_normal,resOK,resV,celV,rowV,frzAll,frzT,subV,subL,go_sem,↓dP,↓reduceIte])
    simp only [manyS,manyM,errA,hb']
    exact ⟨.refl _,.refl _,.refl _⟩
  intro hb
  have hb' : boardOk s i = true:=by
    unfold boardOk
    revert hb
    cases (isStreet s && inR i 0 (s.bs.length - 1)) <;> simp
  obtain ⟨hok,hi,hbd⟩:=boardOk_spec hb'
  have e1 : manyS s i = (fromL (sureAt s (brd s i)) s).length:=by simp [manyS,hb']
  have e2 : manyM s i = (fromL (mayAt s (brd s i)) s).length:=by simp [manyM,hb']
  have e3 : errA (boardOk s i) = 0:=by simp [errA,hb']
  rw [e1,e2,e3]
  have hS:=c92S hok hbd
  have hM:=c92M hok hbd
  (refine Ok.skip ?_; (try dsimp only [thenK,blockK,noGotoK]))
  ((first | refine qS rfl rfl ?_ | refine qR rfl rfl ?_); simp only [go_sem,↓dP,↓reduceIte]; with_reducible and_intros; all_goals first | apply qA | exact ⟨⟩ | rfl | (intros; apply qB; first | kernel_rfl | omega) | omega | skip)
  ((first | refine qS rfl rfl ?_ | refine qR rfl rfl ?_); simp only [go_sem,↓dP,↓reduceIte]; with_reducible and_intros; all_goals first | apply qA | exact ⟨⟩ | rfl | (intros; apply qB; first | kernel_rfl | omega) | omega | skip)
  (refine AskI.ret (hS _) ?_; simp only [go_sem,↓dP,↓reduceIte]; with_reducible and_intros; all_goals first | apply qA | exact ⟨⟩ | rfl | (intros; apply qB; first | kernel_rfl | omega) | omega | skip)
  (refine AskI.ret (hM _) ?_; simp only [go_sem,↓dP,↓reduceIte]; with_reducible and_intros; all_goals first | apply qA | exact ⟨⟩ | rfl | (intros; apply qB; first | kernel_rfl | omega) | omega | skip)
  (refine Ok.ret ?_; (try dsimp only [thenK,blockK,noGotoK]); simp only [toList_mk,List.toList_toArray,retK_ret,retK_normal,resOK,resV,celV,rowV,frzAll,frzT,subV,subL,go_sem,↓dP,↓reduceIte])
  ((repeat' with_reducible apply And.intro) <;> (first | exact DEq.refl _ | refine DEq.int ?_ | refine DEq.bool ?_ | skip))
def orderedL (s : Street) (l : List Pl) : List Place:=(inL l (plL s)).map Pl.p
theorem c94S {s : Street} (hs : s.ok) (l : List Pl) : Ctr Tryz.prog 77 [s.sv,.d (mpD l)] (.d (slD 2 plaD (orderedL s l))) :=
  c94 s l s.len.toNat s.wid.toNat (by have:=hs.len0; omega) (by have:=hs.wid0; omega) (by have:=hs.len1; omega) (by have:=hs.wid1; omega)
def farther (b : Board) (x y : Place) : Bool:=decide (far b.at_ x > far b.at_ y)
def farthestL (s : Street) (b : Board) : List Place:=orderedL s (fromL (sureAt s b) s)
def farthestP (s : Street) (i : Int) : Place:=if boardOk s i then bestL (farther (brd s i)) (farthestL s (brd s i)) else default
def farthestE (s : Street) (i : Int) : Int:=if boardOk s i then (if 0 < (farthestL s (brd s i)).length then 0 else 5) else 2
theorem bestN_mem {α : Type} [Inhabited α] (g : α → α → Bool) (l : List α) : ∀ j,0 < j → j ≤ l.length → bestN g l j ∈ l
  | 0,h,_ => by omega
  | 1,_,h => by
    rw [bestN]; simp
    exact getD_mem (by omega)
  | j + 2,_,h => by
    rw [bestN]
    split
    · exact getD_mem (by omega)
    · exact bestN_mem g l (j + 1) (by omega) (by omega)
theorem plL_len {s : Street} (hs : s.ok) : (plL s).length ≤ 492:=by
  rw [plL,uptoP_length]
  have:=hs.len1; have:=hs.wid1
  have h : (s.len.toNat + 1) * s.wid.toNat ≤ 41 * 12:=Nat.mul_le_mul (by omega) (by omega)
  omega
theorem orderedL_len {s : Street} (hs : s.ok) (l : List Pl) : (orderedL s l).length ≤ 492:=by
  have:=plL_len hs
  have h : (inL l (plL s)).length ≤ (plL s).length:=List.length_filter_le _ _
  rw [orderedL,List.length_map]; omega
theorem farthest_fine {s : Street} (hs : s.ok) {b : Board} (hb : isBoard b s.len = true) : ∀ p ∈ farthestL s b,(Look.mk s b p).fine:=by
  intro p hp
  obtain ⟨x,_,rfl⟩:=List.mem_map.1 hp
  exact (good_pl hs hb x).fine
theorem c43 (s : Street) (hs : s.fit) (i : Int) : Ctr Tryz.prog 45 [s.sv,iS i] (.tup [(farthestP s i).sv,iS (farthestE s i)]):=by
  have h91:=c91 s hs i
  (refine Ctr.mk (fn:=Tryz.f45) rfl rfl rfl rfl rfl Tryz.results45 ?_; dsimp only [args,List.toList_toArray])
  ((first | refine qS rfl rfl ?_ | refine qR rfl rfl ?_); simp only [go_sem,↓dP,↓reduceIte]; with_reducible and_intros; all_goals first | apply qA | exact ⟨⟩ | rfl | (intros; apply qB; first | kernel_rfl | omega) | omega | skip)
  refine Ok.seq ?_
  ((first | refine qS rfl rfl ?_ | refine qR rfl rfl ?_); simp only [go_sem,↓dP,↓reduceIte]; with_reducible and_intros; all_goals first | apply qA | exact ⟨⟩ | rfl | (intros; apply qB; first | kernel_rfl | omega) | omega | skip)
  (refine AskI.ret (h91) ?_; simp only [go_sem,↓dP,↓reduceIte]; with_reducible and_intros; all_goals first | apply qA | exact ⟨⟩ | rfl | (intros; apply qB; first | kernel_rfl | omega) | omega | skip)
  refine Ok.cond rfl ?_ ?_
  · intro hb
    have hb' : boardOk s i = false:=by
      unfold boardOk
      revert hb
      cases (isStreet s && inR i 0 (s.bs.length - 1)) <;> simp
    ((first | refine qS rfl rfl ?_ | refine qR rfl rfl ?_); simp only [go_sem,↓dP,↓reduceIte]; with_reducible and_intros; all_goals first | apply qA | exact ⟨⟩ | rfl | (intros; apply qB; first | kernel_rfl | omega) | omega | skip)
    (refine Ok.ret ?_; (try dsimp only [thenK,blockK,noGotoK]); simp only [toList_mk,List.toList_toArray,retK_ret,retK_normal,resOK,resV,celV,rowV,frzAll,frzT,subV,subL,go_sem,↓dP,↓reduceIte])
    simp only [farthestP,farthestE,hb']
    exact ⟨⟨.refl _,.refl _⟩,.refl _⟩
  intro hb
  have hb' : boardOk s i = true:=by
    unfold boardOk
    revert hb
    cases (isStreet s && inR i 0 (s.bs.length - 1)) <;> simp
  obtain ⟨hok,hi,hbd⟩:=boardOk_spec hb'
  have e1 : farthestP s i = bestL (farther (brd s i)) (farthestL s (brd s i)):=by simp [farthestP,hb']
  have e2 : farthestE s i = if 0 < (farthestL s (brd s i)).length then 0 else 5:=by simp [farthestE,hb']
  rw [e1,e2]
  have hS:=c92S hok hbd
  (refine Ok.skip ?_; (try dsimp only [thenK,blockK,noGotoK]))
  ((first | refine qS rfl rfl ?_ | refine qR rfl rfl ?_); simp only [go_sem,↓dP,↓reduceIte]; with_reducible and_intros; all_goals first | apply qA | exact ⟨⟩ | rfl | (intros; apply qB; first | kernel_rfl | omega) | omega | skip)
  refine Ok.sub (Sub.frzB (b:=0) rfl rfl) ?_
  simp only [setN]
  refine Ok.sub (Sub.frzB (b:=2) rfl rfl) ?_
  simp only [setN]
  ((first | refine qS rfl rfl ?_ | refine qR rfl rfl ?_); simp only [go_sem,↓dP,↓reduceIte]; with_reducible and_intros; all_goals first | apply qA | exact ⟨⟩ | rfl | (intros; apply qB; first | kernel_rfl | omega) | omega | skip)
  (refine AskI.ret (hS _) ?_; simp only [go_sem,↓dP,↓reduceIte]; with_reducible and_intros; all_goals first | apply qA | exact ⟨⟩ | rfl | (intros; apply qB; first | kernel_rfl | omega) | omega | skip)
  (refine AskI.ret (c94S hok _) ?_; simp only [go_sem,↓dP,↓reduceIte]; with_reducible and_intros; all_goals first | apply qA | exact ⟨⟩ | rfl | (intros; apply qB; first | kernel_rfl | omega) | omega | skip)
  have h93:=c93 (farthestL s (brd s i)) 84 2 (dget [s.ref,.ref 2 (dget [iD (brd s i).at_,slD 4 letD (brd s i).ls])]) (farther (brd s i)) (fun p => (Look.mk s (brd s i) p).fine)
    (by have:=orderedL_len hok (fromL (sureAt s (brd s i)) s); unfold farthestL; omega) (farthest_fine hok hbd) (fun x y hx hy => c95 s (brd s i) x y hx hy) (fun j h0 h1 => farthest_fine hok hbd _ (bestN_mem _ _ j h0 h1))
  (refine AskI.ret (h93) ?_; simp only [go_sem,↓dP,↓reduceIte]; with_reducible and_intros; all_goals first | apply qA | exact ⟨⟩ | rfl | (intros; apply qB; first | kernel_rfl | omega) | omega | skip)
  have hp0 : ¬ 0 < (farthestL s (brd s i)).length → bestL (farther (brd s i)) (farthestL s (brd s i)) = default:=fun h => by
    unfold bestL
    rw [show (farthestL s (brd s i)).length = 0 from by omega]; rfl
  generalize bestL (farther (brd s i)) (farthestL s (brd s i)) = p at hp0 ⊢
  refine Ok.seq ?_
  ((first | refine qS rfl rfl ?_ | refine qR rfl rfl ?_); simp only [go_sem,↓dP,↓reduceIte]; with_reducible and_intros; all_goals first | apply qA | exact ⟨⟩ | rfl | (intros; apply qB; first | kernel_rfl | omega) | omega | skip)
  refine Ok.cond rfl ?_ ?_
  · intro hh
    have e : ¬ 0 < (farthestL s (brd s i)).length:=by
      revert hh
      by_cases h : 0 < (farthestL s (brd s i)).length <;> simp [h]
    rw [if_neg e]
    ((first | refine qS rfl rfl ?_ | refine qR rfl rfl ?_); simp only [go_sem,↓dP,↓reduceIte]; with_reducible and_intros; all_goals first | apply qA | exact ⟨⟩ | rfl | (intros; apply qB; first | kernel_rfl | omega) | omega | skip)
    (refine Ok.ret ?_; (try dsimp only [thenK,blockK,noGotoK]); simp only [toList_mk,List.toList_toArray,retK_ret,retK_normal,resOK,resV,celV,rowV,frzAll,frzT,subV,subL,go_sem,↓dP,↓reduceIte])
    rw [hp0 e]
    exact ⟨⟨.refl _,.refl _⟩,.refl _⟩
  · intro hh
    have e : 0 < (farthestL s (brd s i)).length:=by
      revert hh
      by_cases h : 0 < (farthestL s (brd s i)).length <;> simp [h]
    rw [if_pos e]
    (refine Ok.skip ?_; (try dsimp only [thenK,blockK,noGotoK]))
    ((first | refine qS rfl rfl ?_ | refine qR rfl rfl ?_); simp only [go_sem,↓dP,↓reduceIte]; with_reducible and_intros; all_goals first | apply qA | exact ⟨⟩ | rfl | (intros; apply qB; first | kernel_rfl | omega) | omega | skip)
    (refine Ok.ret ?_; (try dsimp only [thenK,blockK,noGotoK]); simp only [toList_mk,List.toList_toArray,retK_ret,retK_normal,resOK,resV,celV,rowV,frzAll,frzT,subV,subL,go_sem,↓dP,↓reduceIte])
    ((repeat' with_reducible apply And.intro) <;> (first | exact DEq.refl _ | refine DEq.int ?_ | refine DEq.bool ?_ | skip))
def hungAt (s : Street) (b : Board) (j : Nat) : Hung:=⟨j,(fromL (sureAt s { b with at_:=j }) s).length⟩
def hangL (s : Street) (b : Board) : List Hung:=(List.range (s.len.toNat + 1)).map (hungAt s b)
def more (x y : Hung) : Bool:=decide (x.n > y.n)
def hangH (s : Street) (i : Int) : Hung:=if boardOk s i then bestL more (hangL s (brd s i)) else default
def hangN (s : Street) (b : Board) (j : Nat) : List Hung:=(List.range j).map (hungAt s b)
theorem hangS_snoc (s : Street) (b : Board) (j : Nat) : hangN s b (j + 1) = hangN s b j ++ [hungAt s b j]:=by rw [hangN,List.range_succ,List.map_append]; rfl
theorem hangN_len (s : Street) (b : Board) (j : Nat) : (hangN s b j).length = j:=by simp [hangN]
theorem isBoard_at {b : Board} {len : Int} (h : isBoard b len = true) {j : Int} (h0 : 0 ≤ j) (h1 : j ≤ len) : isBoard { b with at_:=j } len = true:=by
  simp only [isBoard,Bool.and_eq_true] at h ⊢
  obtain ⟨⟨⟨_,h2⟩,h3⟩,h4⟩:=h
  refine ⟨⟨⟨?_,h2⟩,h3⟩,h4⟩
  simp [inR]; omega
theorem c55 (s : Street) (hs : s.fit) (i : Int) : Ctr Tryz.prog 15 [s.sv,iS i] (.tup [iS (hangH s i).at_,iS (hangH s i).n,iS (errA (boardOk s i))]):=by
  have h91:=c91 s hs i
  (refine Ctr.mk (fn:=Tryz.f15) rfl rfl rfl rfl rfl Tryz.results15 ?_; dsimp only [args,List.toList_toArray])
  ((first | refine qS rfl rfl ?_ | refine qR rfl rfl ?_); simp only [go_sem,↓dP,↓reduceIte]; with_reducible and_intros; all_goals first | apply qA | exact ⟨⟩ | rfl | (intros; apply qB; first | kernel_rfl | omega) | omega | skip)
  refine Ok.seq ?_
  ((first | refine qS rfl rfl ?_ | refine qR rfl rfl ?_); simp only [go_sem,↓dP,↓reduceIte]; with_reducible and_intros; all_goals first | apply qA | exact ⟨⟩ | rfl | (intros; apply qB; first | kernel_rfl | omega) | omega | skip)
  (refine AskI.ret (h91) ?_; simp only [go_sem,↓dP,↓reduceIte]; with_reducible and_intros; all_goals first | apply qA | exact ⟨⟩ | rfl | (intros; apply qB; first | kernel_rfl | omega) | omega | skip)
  refine Ok.cond rfl ?_ ?_
  · intro hb
    have hb' : boardOk s i = false:=by
      unfold boardOk
      revert hb
      cases (isStreet s && inR i 0 (s.bs.length - 1)) <;> simp
    ((first | refine qS rfl rfl ?_ | refine qR rfl rfl ?_); simp only [go_sem,↓dP,↓reduceIte]; with_reducible and_intros; all_goals first | apply qA | exact ⟨⟩ | rfl | (intros; apply qB; first | kernel_rfl | omega) | omega | skip)
    (refine Ok.ret ?_; (try dsimp only [thenK,blockK,noGotoK]); simp only [toList_mk,List.toList_toArray,retK_ret,retK_normal,resOK,resV,celV,rowV,frzAll,frzT,subV,subL,go_sem,↓dP,↓reduceIte])
    simp only [hangH,errA,hb']
    exact ⟨.refl _,.refl _,.refl _⟩
  intro hb
  have hb' : boardOk s i = true:=by
    unfold boardOk
    revert hb
    cases (isStreet s && inR i 0 (s.bs.length - 1)) <;> simp
  obtain ⟨hok,hi,hbd⟩:=boardOk_spec hb'
  have e1 : hangH s i = bestL more (hangL s (brd s i)):=by simp [hangH,hb']
  have e2 : errA (boardOk s i) = 0:=by simp [errA,hb']
  rw [e1,e2]
  have hl0:=hok.len0
  have hl1:=hok.len1
  (refine Ok.skip ?_; (try dsimp only [thenK,blockK,noGotoK]))
  ((first | refine qS rfl rfl ?_ | refine qR rfl rfl ?_); simp only [go_sem,↓dP,↓reduceIte]; with_reducible and_intros; all_goals first | apply qA | exact ⟨⟩ | rfl | (intros; apply qB; first | kernel_rfl | omega) | omega | skip)
  ((first | refine qS rfl rfl ?_ | refine qR rfl rfl ?_); simp only [go_sem,↓dP,↓reduceIte]; with_reducible and_intros; all_goals first | apply qA | exact ⟨⟩ | rfl | (intros; apply qB; first | kernel_rfl | omega) | omega | skip)
  refine Ok.seq ?_
  ((first | refine qS rfl rfl ?_ | refine qR rfl rfl ?_); simp only [go_sem,↓dP,↓reduceIte]; with_reducible and_intros; all_goals first | apply qA | exact ⟨⟩ | rfl | (intros; apply qB; first | kernel_rfl | omega) | omega | skip)
  refine Ok.block ?_
  obtain ⟨n,hn⟩ : ∃ n : Nat,s.len = n:=⟨s.len.toNat,by omega⟩
  have hH : hangL s (brd s i) = hangN s (brd s i) (n + 1):=by rw [hangL,hn]; rfl
  have hH1:=fun j => hangS_snoc s (brd s i) j
  refine Ok.count (n + 1) (fun j => ⟨[(2,.p 0 0),(7,.p 1 0),(8,.tk 0),(23,iS (s.len + 1)),(24,iS j)],[{ frz:=false,xs:=[iS s.len,iS s.wid,iS s.el,iS s.eh,iS s.ll,iS s.lh,.d (slD 2 boaD s.bs),.d (slD 5 bloD s.ks)] },{ frz:=false,xs:=[.any,.d (slD 4 letD (brd s i).ls)] }],[ownD 100 2 hunD (hangN s (brd s i) j)]⟩) (fun _ => True) ⟨trivial,?_⟩ ?_ ?_
  · (refine Sub.of ([0,1]) ([none]) ?_ ?_ ?_ rfl rfl <;> simp only [subB,subB1,subT,subT1,newT,subE,subV,subL,go_sem,↓dP,↓reduceIte] <;> (try (repeat' with_reducible apply And.intro)) <;> (try first | exact DEq.refl _ | refine DEq.int ?_ | refine DEq.bool ?_ | omega))
    simp [hangN]
  · intro j hj _
    have hS:=c92S hok (isBoard_at hbd (j:=(j : Int)) (by omega) (by omega))
    ((first | refine qS rfl rfl ?_ | refine qR rfl rfl ?_); simp only [go_sem,↓dP,↓reduceIte]; with_reducible and_intros; all_goals first | apply qA | exact ⟨⟩ | rfl | (intros; apply qB; first | kernel_rfl | omega) | omega | skip)
    refine Ok.seq ?_
    refine Ok.cond rfl (fun _ => ?_) (fun hb => by simp at hb; omega)
    (refine Ok.skip ?_; (try dsimp only [thenK,blockK,noGotoK]))
    refine Ok.seq ?_
    refine Ok.block ?_
    have hlen:=hangN_len s (brd s i) j
    ((first | refine qS rfl rfl ?_ | refine qR rfl rfl ?_); simp only [go_sem,↓dP,↓reduceIte]; with_reducible and_intros; all_goals first | apply qA | exact ⟨⟩ | rfl | (intros; apply qB; first | kernel_rfl | omega) | omega | skip)
    ((first | refine qS rfl rfl ?_ | refine qR rfl rfl ?_); simp only [go_sem,↓dP,↓reduceIte]; with_reducible and_intros; all_goals first | apply qA | exact ⟨⟩ | rfl | (intros; apply qB; first | kernel_rfl | omega) | omega | skip)
    ((first | refine qS rfl rfl ?_ | refine qR rfl rfl ?_); simp only [go_sem,↓dP,↓reduceIte]; with_reducible and_intros; all_goals first | apply qA | exact ⟨⟩ | rfl | (intros; apply qB; first | kernel_rfl | omega) | omega | skip)
    (refine AskI.ret (hS _) ?_; simp only [go_sem,↓dP,↓reduceIte]; with_reducible and_intros; all_goals first | apply qA | exact ⟨⟩ | rfl | (intros; apply qB; first | kernel_rfl | omega) | omega | skip)
    (try dsimp only [thenK,blockK,noGotoK])
    ((first | refine qS rfl rfl ?_ | refine qR rfl rfl ?_); simp only [go_sem,↓dP,↓reduceIte]; with_reducible and_intros; all_goals first | apply qA | exact ⟨⟩ | rfl | (intros; apply qB; first | kernel_rfl | omega) | omega | skip)
    (try dsimp only [thenK,blockK,noGotoK])
    refine ⟨trivial,?_⟩
    (refine Sub.of ([0,1]) ([some 1]) ?_ ?_ ?_ rfl rfl <;> simp only [subB,subB1,subT,subT1,newT,subE,subV,subL,go_sem,↓dP,↓reduceIte] <;> (try (repeat' with_reducible apply And.intro)) <;> (try first | exact DEq.refl _ | refine DEq.int ?_ | refine DEq.bool ?_ | omega))
    · rw [hH1]; simp
    · rw [hH1]
      exact snoc_D (fun c hc => by
        match c,hc with
        | 0,_ => rfl
        | 1,_ => rfl)
  · intro _
    ((first | refine qS rfl rfl ?_ | refine qR rfl rfl ?_); simp only [go_sem,↓dP,↓reduceIte]; with_reducible and_intros; all_goals first | apply qA | exact ⟨⟩ | rfl | (intros; apply qB; first | kernel_rfl | omega) | omega | skip)
    refine Ok.seq ?_
    refine Ok.cond rfl (fun hb => by simp at hb; omega) (fun _ => ?_)
    (refine Ok.exit ?_; simp only [thenK_exit,blockK_exit,noGotoK_exit,thenK_normal,blockK_normal,noGotoK_normal,↓reduceIte,Nat.reduceEqDiff])
    have hlen:=hangN_len s (brd s i) (n + 1)
    ((first | refine qS rfl rfl ?_ | refine qR rfl rfl ?_); simp only [go_sem,↓dP,↓reduceIte]; with_reducible and_intros; all_goals first | apply qA | exact ⟨⟩ | rfl | (intros; apply qB; first | kernel_rfl | omega) | omega | skip)
    rw [hH]
    (refine AskI.ret (c100 (hangN s (brd s i) (n + 1)) 53 0 (fun _ => .nilI) more (fun _ => True) (by omega) (fun _ _ => trivial) (fun x y _ _ => c101 x y) (fun _ _ _ => trivial)) ?_; simp only [go_sem,↓dP,↓reduceIte]; with_reducible and_intros; all_goals first | apply qA | exact ⟨⟩ | rfl | (intros; apply qB; first | kernel_rfl | omega) | omega | skip)
    ((first | refine qS rfl rfl ?_ | refine qR rfl rfl ?_); simp only [go_sem,↓dP,↓reduceIte]; with_reducible and_intros; all_goals first | apply qA | exact ⟨⟩ | rfl | (intros; apply qB; first | kernel_rfl | omega) | omega | skip)
    (refine Ok.ret ?_; (try dsimp only [thenK,blockK,noGotoK]); simp only [toList_mk,List.toList_toArray,retK_ret,retK_normal,resOK,resV,celV,rowV,frzAll,frzT,subV,subL,go_sem,↓dP,↓reduceIte])
    ((repeat' with_reducible apply And.intro) <;> (first | exact DEq.refl _ | refine DEq.int ?_ | refine DEq.bool ?_ | skip))
end Go.Proofs.Sight
namespace Go.Proofs.Sight
open Go Go.RX Go.Proofs Go.RowKit
set_option maxRecDepth 100000
theorem st_same {W : World} {B : Nat} {cs : Array Value} {T : TypeId} (h : W.heap[B]? = some (.cells cs T)) (j : Nat) (v : Value) : (W.setCell ⟨B,j,none⟩ v).heap[B]? = some (.cells (cs.setIfInBounds j v) T):=by
  obtain ⟨hlt,hk⟩:=Array.getElem?_eq_some_iff.1 h
  show (W.heap.modify B _)[B]? = _
  rw [Array.getElem?_eq_getElem (by rw [Array.size_modify]; exact hlt),Array.getElem_modify_self,hk]
  rfl
set_option maxHeartbeats 4000000 in

theorem catch_idle (p q : Addr) (w : World) :
    CallsD Tryz.prog 94 #[.pointer (some p),.pointer (some q)] .returning w fun e u' w' => e = .returned (.tuple #[]) ∧ u' = .returning ∧ w' = w:=by
  refine callsD_of_wpS Tryz.func94 rfl fun c₀ cs hu => ?_
  have hnil : ∀ w : World,(binOp BinOp.eql 20 .nilIface .nilIface).run Tryz.prog w = .ok (.bool true) w:=fun _ => by kernel_rfl
  simp only [Tryz.ntmps94,List.size_toArray,List.length_cons,List.length_nil,Nat.reduceAdd,Nat.reduceSub,Array.replicate_succ,Array.replicate_zero,List.push_toArray,List.append_toArray,List.nil_append,List.cons_append]
  apply wpS_seq
  apply wpS_region
  simp [wpOpsS,go_sem,recoverD,hu,Exit.thenS]
  refine wpS_of_wp ?_
  go_wp2
  cases c₀
  simp_all [bodyPostS,results,Tryz.results94,go_sem]
set_option maxHeartbeats 4000000 in

theorem catch_why (B1 B2 : Nat) (hne : B1 ≠ B2) (a b x y z : Int) (w : World) (h1 : w.heap[B1]? = some (.cells #[.int .i64 x,.int .i64 y] 58)) (h2 : w.heap[B2]? = some (.cells #[.int .i64 z] 30)) :
    CallsD Tryz.prog 94 #[.pointer (some ⟨B1,0,none⟩),.pointer (some ⟨B2,0,none⟩)] (.panicking [{ v:=.iface 137 (.agg #[.int .i64 a,.int .i64 b]),recovered:=false }]) w fun e u' w' => e = .returned (.tuple #[]) ∧ settle u' = .returning ∧
      w'.heap[B1]? = some (.cells #[.int .i64 a,.int .i64 b] 58) ∧ w'.heap[B2]? = some (.cells #[.int .i64 7] 30) ∧ w'.heap.size = w.heap.size + 1 ∧ (∀ k,k < w.heap.size → k ≠ B1 → k ≠ B2 → w'.heap[k]? = w.heap[k]?) ∧ w'.os = w.os ∧ w'.tape = w.tape ∧ w'.output = w.output:=by
  refine callsD_of_wpS Tryz.func94 rfl fun c₀ cs hu => ?_
  have hnil : ∀ (v : Value) (w : World),(binOp BinOp.eql 20 (.iface 137 v) .nilIface).run Tryz.prog w = .ok (.bool false) w:=fun _ _ => by kernel_rfl
  have hta : ∀ (v : Value) (w : World),(Instr.typeAssert (.iface 137 v) 20 137 true).run Tryz.prog w = .ok (.tuple #[v,.bool true]) w:=fun _ _ => by kernel_rfl
  have hA1:=al_old (.cells #[.int .i64 a,.int .i64 b] 137) h1
  have hA2:=al_old (.cells #[.int .i64 a,.int .i64 b] 137) h2
  have g10:=cellAt hA1 0
  have g11:=cellAt hA1 1
  have g20:=cellAt hA2 0
  simp only [List.getElem?_toArray,List.getElem?_cons_zero,List.getElem?_cons_succ] at g10 g11 g20
  have f10 : (w.alloc (.cells #[.int .i64 a,.int .i64 b] 137)).frozen? ⟨B1,0,none⟩ = false:=by simp [World.frozen?,hA1]
  have f11 : (w.alloc (.cells #[.int .i64 a,.int .i64 b] 137)).frozen? ⟨B1,1,none⟩ = false:=by simp [World.frozen?,hA1]
  have f2 : (w.alloc (.cells #[.int .i64 a,.int .i64 b] 137)).frozen? ⟨B2,0,none⟩ = false:=by simp [World.frozen?,hA2]
  simp only [Tryz.ntmps94,List.size_toArray,List.length_cons,List.length_nil,Nat.reduceAdd,Nat.reduceSub,Array.replicate_succ,Array.replicate_zero,List.push_toArray,List.append_toArray,List.nil_append,List.cons_append]
  apply wpS_seq
  apply wpS_region
  simp [wpOpsS,go_sem,recoverD,hu,Exit.thenS]
  refine wpS_of_wp ?_
  go_wp2
  refine ⟨rfl,.panicking [{ v:=.iface 137 (.agg #[.int .i64 a,.int .i64 b]),recovered:=true }],rfl,.tuple #[],results_none rfl _ _ _,rfl,rfl,?_⟩
  have s1:=st_same hA1 0 (.int .i64 a)
  have s2:=st_same s1 1 (.int .i64 b)
  have s3:=(Below.heap_setCell _ ⟨B2,0,none⟩ (.int .i64 7) B1 hne).trans s2
  have t1:=(Below.heap_setCell _ ⟨B1,0,none⟩ (.int .i64 a) B2 hne.symm).trans hA2
  have t2:=(Below.heap_setCell _ ⟨B1,1,none⟩ (.int .i64 b) B2 hne.symm).trans t1
  have t3:=st_same t2 0 (.int .i64 7)
  refine ⟨s3,t3,?_,fun k hk h1 h2 => ?_,rfl,rfl,rfl⟩
  · simp [World.setCell,Array.size_modify]
  · rw [Below.heap_setCell _ _ _ k h2,Below.heap_setCell _ _ _ k h1,Below.heap_setCell _ _ _ k h1,Below.heap_alloc _ _ k hk]
theorem enters_of' {P : Program} {f : FuncId} (h : ∃ fn,P.funcs[f]? = some fn ∧ (fn.name == "runtime.NumGoroutine") = false ∧ fn.body.isNone = false) (args : Array Value) (w : World) : (callFunc f args).run P w = .ok (.enter f args) w:=by
  obtain ⟨fn,h1,h2,h3⟩:=h
  have h4 : fn.name ≠ "runtime.NumGoroutine":=by simpa using h2
  cases hb : fn.body with
  | none => rw [hb] at h3; cases h3
  | some c => simp [callFunc,h1,h4,hb,mark]
theorem bm_vals {I : Nat → Prop} {w : World} {v : Value} {f n : Nat} {c : Nat → DV} (h : Rep I w v (.bm f n c)) : ∃ us : Array Value,v = .func (.func f) #[.agg us] #[] ∧ us.size = n ∧ (∀ u ∈ us,u.oneCell' = true) ∧ ∀ (j : Nat) (u : Value),us[j]? = some u → Rep I w u (c j):=by
  cases h with
  | bm hl h1 hr => exact ⟨_,rfl,hl,h1,hr⟩
theorem take_at (c : Nat → DV) : ∀ (n j i : Nat) (x : SV),(take c j n)[i]? = some x → i < n ∧ x = .d (c (j + i))
  | 0,j,i,x,h => by simp [take] at h
  | n + 1,j,0,x,h => by simp [take] at h; exact ⟨by omega,by simpa using h.symm⟩
  | n + 1,j,i + 1,x,h => by
    simp [take] at h
    obtain ⟨h1,h2⟩:=take_at c n (j + 1) i x h
    exact ⟨by omega,by rw [h2]; congr 2; omega⟩
theorem bm_args {I : Nat → Prop} {w : World} {us : Array Value} {n : Nat} {c : Nat → DV} (hl : us.size = n) (h1 : ∀ u ∈ us,u.oneCell' = true) (hr : ∀ (j : Nat) (u : Value),us[j]? = some u → Rep I w u (c j)) : RepS I w (.agg us) (.agg (take c 0 n)):=by
  intro Y
  refine .agg ?_ (fun j u x hu hx => ?_) h1
  · rw [hl]
    have : ∀ n j,(take c j n).length = n:=fun n => by
      induction n with
      | zero => intro j; rfl
      | succ n ih => intro j; simp [take,ih]
    exact (this n 0).symm
  · obtain ⟨_,rfl⟩:=take_at c n 0 j x hx
    rw [Nat.zero_add]
    exact .d (hr j u hu)
theorem why_rep (I : Nat → Prop) (w : World) (a b e : Int) : RepS I w (.tuple #[.agg #[.int .i64 a,.int .i64 b],.int .i64 e]) (.tup [.agg [iS a,iS b],iS e]):=by
  intro Y
  refine .tup rfl (fun j u x hu hx => ?_)
  match j,hu,hx with
  | 0,hu,hx =>
    simp at hu hx; subst hu; subst hx
    exact Fits.reps (cs:=[.int .i64 a,.int .i64 b]) (xs:=[iD a,iD b]) (.cons .int (.cons .int .nil)) Y
  | 1,hu,hx => simp at hu hx; subst hu; subst hx; exact .d .int
  | j + 2,hu,hx => simp at hu
theorem ifc_vals {I : Nat → Prop} {w : World} {v : Value} {a b : Int} (h : Rep I w v (.ifc 137 2 (dget [iD a,iD b]))) : v = .iface 137 (.agg #[.int .i64 a,.int .i64 b]):=by
  cases h with
  | @ifc t n c us hl hr =>
    obtain ⟨l⟩:=us
    match l,hl with
    | [x,y],_ =>
      have h0:=hr 0 x rfl
      have h1:=hr 1 y rfl
      change Rep I w x (iD a) at h0
      change Rep I w y (iD b) at h1
      cases h0; cases h1; rfl
set_option maxHeartbeats 4000000 in
theorem c76_ok (f n : Nat) (c : Nat → DV) (hf : Ctr Tryz.prog f [.agg (take c 0 n)] (.tup [])) : Ctr Tryz.prog 61 [.d (.bm f n c)] (.tup [.agg [iS 0,iS 0],iS 0]):=by
  refine ⟨⟨Tryz.f61,Tryz.func61,rfl,rfl⟩,fun I w vs hG hI hsz hrep => ?_⟩
  obtain ⟨v0,rfl⟩ : ∃ v0,vs = #[v0]:=by
    obtain ⟨l⟩:=vs
    match l,hsz with
    | [a],_ => exact ⟨a,rfl⟩
  obtain ⟨us,rfl,hl,h1,hr⟩:=bm_vals (RepS.rep (hrep 0 v0 _ rfl rfl))
  have hmf : ∀ (fn : Fn) (first cap : Array Value) (w : World),(Instr.makeFunc fn first cap).run Tryz.prog w = .ok (.func fn first cap) w:=fun _ _ _ _ => rfl
  have he:=enters_of' hf.1
  refine calls_of_wp_defers Tryz.func61 rfl ?_
  simp only [Tryz.ntmps61,List.size_toArray,List.length_cons,List.length_nil,Nat.reduceAdd,Nat.reduceSub,Array.replicate_succ,Array.replicate_zero,List.push_toArray,List.append_toArray,List.nil_append,List.cons_append]
  go_wp2
  obtain ⟨W2,hW2⟩ : ∃ W2,(w.alloc (.cells #[.int .i64 0,.int .i64 0] 58)).alloc (.cells #[.int .i64 0] 30) = W2:=⟨_,rfl⟩
  have k0 : W2.heap[w.heap.size]? = some (.cells #[.int .i64 0,.int .i64 0] 58):=by rw [← hW2]; exact al_old _ (al_new _ rfl)
  have k1 : W2.heap[w.heap.size + 1]? = some (.cells #[.int .i64 0] 30):=by rw [← hW2]; exact al_new _ (al_sz _ rfl)
  have hB2 : Below w.heap.size w W2:=by rw [← hW2]; exact ((Below.refl _ w).alloc (Nat.le_refl _) _).alloc (by simp) _
  have hz2 : W2.heap.size = w.heap.size + 1 + 1:=by rw [← hW2]; exact al_sz _ (al_sz _ rfl)
  rw [hW2]
  have hargs:=bm_args hl h1 (fun j u hu => (hr j u hu).mono (I':=I) (fun _ h => h) (fun k hk => hB2.block k (hI k hk)))
  have hcall:=hf.2 I W2 #[.agg us] (Tabs.st _ _ hG hB2) (fun k hk => Nat.lt_of_lt_of_le (hI k hk) hB2.size) rfl (fun j u y hu hy => by
    cases j with
    | zero => simp at hu hy; subst hu; subst hy; exact hargs
    | succ j => simp at hy)
  refine hcall.mono ?_
  rintro e w1 ⟨v,rfl,hv,hB1⟩
  have g0:=cellAt ((hB1.block _ (by omega)).trans k0)
  have g00:=g0 0
  have g01:=g0 1
  have g10:=cellAt ((hB1.block _ (by omega)).trans k1) 0
  clear g0
  simp only [List.getElem?_toArray,List.getElem?_cons_zero,List.getElem?_cons_succ] at g00 g01 g10
  have f0 : ∀ o,w1.frozen? ⟨w.heap.size,o,none⟩ = false:=fun o => by simp [World.frozen?,(hB1.block _ (by omega)).trans k0]
  have f1 : ∀ o,w1.frozen? ⟨w.heap.size + 1,o,none⟩ = false:=fun o => by simp [World.frozen?,(hB1.block _ (by omega)).trans k1]
  go_wp2
  have hk0:=(hB1.block _ (by omega)).trans k0
  have hk1:=(hB1.block _ (by omega)).trans k1
  have hne : w.heap.size ≠ w.heap.size + 1:=by omega
  obtain ⟨W3,hW3⟩ : ∃ W3,((w1.setCell ⟨w.heap.size,0,none⟩ (.int .i64 0)).setCell ⟨w.heap.size,1,none⟩ (.int .i64 0)).setCell ⟨w.heap.size + 1,0,none⟩ (.int .i64 0) = W3:=⟨_,rfl⟩
  have m0 : W3.heap[w.heap.size]? = some (.cells #[.int .i64 0,.int .i64 0] 58):=by
    rw [← hW3]; exact (Below.heap_setCell _ ⟨w.heap.size + 1,0,none⟩ _ _ hne).trans (st_same (st_same hk0 0 _) 1 _)
  have m1 : W3.heap[w.heap.size + 1]? = some (.cells #[.int .i64 0] 30):=by
    rw [← hW3]; exact st_same ((Below.heap_setCell _ ⟨w.heap.size,1,none⟩ _ _ hne.symm).trans ((Below.heap_setCell _ ⟨w.heap.size,0,none⟩ _ _ hne.symm).trans hk1)) 0 _
  have hB3 : Below w.heap.size w W3:=by
    rw [← hW3]
    exact (((hB2.trans (hB1.mono (by omega))).setCell (p:=⟨w.heap.size,0,none⟩) (Nat.le_refl _) _).setCell (p:=⟨w.heap.size,1,none⟩) (Nat.le_refl _) _).setCell (p:=⟨w.heap.size + 1,0,none⟩) (by simp) _
  rw [hW3]
  refine leaves_cons (f:=94) (args:=#[.pointer (some ⟨w.heap.size,0,none⟩),.pointer (some ⟨w.heap.size + 1,0,none⟩)]) (by simp) (by simp [go_sem]) ?_
  refine (catch_idle ⟨w.heap.size,0,none⟩ ⟨w.heap.size + 1,0,none⟩ _).mono ?_
  rintro e u' w'' ⟨rfl,rfl,rfl⟩
  have q0:=cellAt m0
  have q00:=q0 0
  have q01:=q0 1
  have q10:=cellAt m1 0
  clear q0
  simp only [List.getElem?_toArray,List.getElem?_cons_zero,List.getElem?_cons_succ] at q00 q01 q10
  simp [Leaves,settle,results,Tryz.results61,go_sem,q00,q01,q10]
  exact ⟨why_rep _ _ _ _ _,hB3⟩
set_option maxHeartbeats 4000000 in
theorem c76_why (f n : Nat) (c : Nat → DV) (a b : Int) (hf : CtrP Tryz.prog f [.agg (take c 0 n)] (.ifc 137 2 (dget [iD a,iD b]))) : Ctr Tryz.prog 61 [.d (.bm f n c)] (.tup [.agg [iS a,iS b],iS 7]):=by
  refine ⟨⟨Tryz.f61,Tryz.func61,rfl,rfl⟩,fun I w vs hG hI hsz hrep => ?_⟩
  obtain ⟨v0,rfl⟩ : ∃ v0,vs = #[v0]:=by
    obtain ⟨l⟩:=vs
    match l,hsz with
    | [a],_ => exact ⟨a,rfl⟩
  obtain ⟨us,rfl,hl,h1,hr⟩:=bm_vals (RepS.rep (hrep 0 v0 _ rfl rfl))
  have hmf : ∀ (fn : Fn) (first cap : Array Value) (w : World),(Instr.makeFunc fn first cap).run Tryz.prog w = .ok (.func fn first cap) w:=fun _ _ _ _ => rfl
  have he:=enters_of' hf.1
  refine calls_of_wp_defers Tryz.func61 rfl ?_
  simp only [Tryz.ntmps61,List.size_toArray,List.length_cons,List.length_nil,Nat.reduceAdd,Nat.reduceSub,Array.replicate_succ,Array.replicate_zero,List.push_toArray,List.append_toArray,List.nil_append,List.cons_append]
  go_wp2
  obtain ⟨W2,hW2⟩ : ∃ W2,(w.alloc (.cells #[.int .i64 0,.int .i64 0] 58)).alloc (.cells #[.int .i64 0] 30) = W2:=⟨_,rfl⟩
  have k0 : W2.heap[w.heap.size]? = some (.cells #[.int .i64 0,.int .i64 0] 58):=by rw [← hW2]; exact al_old _ (al_new _ rfl)
  have k1 : W2.heap[w.heap.size + 1]? = some (.cells #[.int .i64 0] 30):=by rw [← hW2]; exact al_new _ (al_sz _ rfl)
  have hB2 : Below w.heap.size w W2:=by rw [← hW2]; exact ((Below.refl _ w).alloc (Nat.le_refl _) _).alloc (by simp) _
  have hz2 : W2.heap.size = w.heap.size + 1 + 1:=by rw [← hW2]; exact al_sz _ (al_sz _ rfl)
  rw [hW2]
  have hargs:=bm_args hl h1 (fun j u hu => (hr j u hu).mono (I':=I) (fun _ h => h) (fun k hk => hB2.block k (hI k hk)))
  have hcall:=hf.2 I W2 #[.agg us] (Tabs.st _ _ hG hB2) (fun k hk => Nat.lt_of_lt_of_le (hI k hk) hB2.size) rfl (fun j u y hu hy => by
    cases j with
    | zero => simp at hu hy; subst hu; subst hy; exact hargs
    | succ j => simp at hy)
  refine hcall.mono ?_
  rintro e w1 ⟨v,I',rfl,hI1,hI2,hv,hB1⟩
  obtain rfl : v = .iface 137 (.agg #[.int .i64 a,.int .i64 b]):=ifc_vals hv
  have hk0:=(hB1.block _ (by omega)).trans k0
  have hk1:=(hB1.block _ (by omega)).trans k1
  have hne : w.heap.size ≠ w.heap.size + 1:=by omega
  have hsz1:=hB1.size
  refine leaves_cons (f:=94) (args:=#[.pointer (some ⟨w.heap.size,0,none⟩),.pointer (some ⟨w.heap.size + 1,0,none⟩)]) (by simp) (by simp [go_sem]) ?_
  refine (catch_why w.heap.size (w.heap.size + 1) hne a b 0 0 0 _ hk0 hk1).mono ?_
  rintro e u' w'' ⟨rfl,hset,m0,m1,hz,hkk,ho,ht,hout⟩
  have q0:=cellAt m0
  have q00:=q0 0
  have q01:=q0 1
  have q10:=cellAt m1 0
  clear q0
  simp only [List.getElem?_toArray,List.getElem?_cons_zero,List.getElem?_cons_succ] at q00 q01 q10
  simp only [hset]
  simp [Leaves,results,Tryz.results61,go_sem,q00,q01,q10]
  refine ⟨why_rep _ _ _ _ _,?_⟩
  refine (hB2.trans (hB1.mono (by omega))).trans ⟨ho,ht,hout,by omega,fun k hk => hkk k (by omega) (by omega) (by omega)⟩
end Go.Proofs.Sight
namespace Go.Proofs.Sight
open Go Go.RX Go.Proofs
set_option maxRecDepth 10000
def whyL (L : Look) : Option (Int × Int):=faultL L (L.s.el * L.s.ll) (fun _ => true)
theorem c77_ok (L : Look) (hL : L.good) (h : whyL L = none) : Ctr Tryz.prog 62 [L.sv] (.tup []):=by
  obtain ⟨p0,p1⟩:=pow_least hL.fine
  have h116:=c116 L hL _ p0 p1 90 (fun _ => true) (fun k => c117 k)
  unfold whyL at h
  rw [h] at h116
  (refine Ctr.mk (fn:=Tryz.f62) rfl rfl rfl rfl rfl Tryz.results62 ?_; dsimp only [args,List.toList_toArray])
  ((first | refine qS rfl rfl ?_ | refine qR rfl rfl ?_); simp only [go_sem,↓dP,↓reduceIte]; with_reducible and_intros; all_goals first | apply qA | exact ⟨⟩ | rfl | (intros; apply qB; first | kernel_rfl | omega) | omega | skip)
  ((first | refine qS rfl rfl ?_ | refine qR rfl rfl ?_); simp only [go_sem,↓dP,↓reduceIte]; with_reducible and_intros; all_goals first | apply qA | exact ⟨⟩ | rfl | (intros; apply qB; first | kernel_rfl | omega) | omega | skip)
  (refine AskI.ret (c84 L hL.fine) ?_; simp only [go_sem,↓dP,↓reduceIte]; with_reducible and_intros; all_goals first | apply qA | exact ⟨⟩ | rfl | (intros; apply qB; first | kernel_rfl | omega) | omega | skip)
  (refine AskI.ret (h116) ?_; simp only [go_sem,↓dP,↓reduceIte]; with_reducible and_intros; all_goals first | apply qA | exact ⟨⟩ | rfl | (intros; apply qB; first | kernel_rfl | omega) | omega | skip)
  refine Ok.seq ?_
  ((first | refine qS rfl rfl ?_ | refine qR rfl rfl ?_); simp only [go_sem,↓dP,↓reduceIte]; with_reducible and_intros; all_goals first | apply qA | exact ⟨⟩ | rfl | (intros; apply qB; first | kernel_rfl | omega) | omega | skip)
  refine Ok.cond (b:=false) (by first | rfl | (simp only [go_sem,↓dP,↓reduceIte]; rfl)) (fun hb => by cases hb) (fun _ => ?_)
  (refine Ok.skip ?_; (try dsimp only [thenK,blockK,noGotoK]))
  ((try dsimp only [thenK,blockK,noGotoK]); simp only [toList_mk,List.toList_toArray,retK_ret,retK_normal,resOK,resV,celV,rowV,frzAll,frzT,subV,subL,go_sem,↓dP,↓reduceIte])
theorem c77_why (L : Look) (hL : L.good) (k i : Int) (h : whyL L = some (k,i)) : CtrP Tryz.prog 62 [L.sv] (.ifc 137 2 (dget [iD k,iD i])):=by
  obtain ⟨p0,p1⟩:=pow_least hL.fine
  have h116:=c116 L hL _ p0 p1 90 (fun _ => true) (fun k => c117 k)
  unfold whyL at h
  rw [h] at h116
  (refine CtrP.mk (fn:=Tryz.f62) rfl rfl rfl rfl rfl ?_; dsimp only [args])
  ((first | refine qS rfl rfl ?_ | refine qR rfl rfl ?_); simp only [go_sem,↓dP,↓reduceIte]; with_reducible and_intros; all_goals first | apply qA | exact ⟨⟩ | rfl | (intros; apply qB; first | kernel_rfl | omega) | omega | skip)
  ((first | refine qS rfl rfl ?_ | refine qR rfl rfl ?_); simp only [go_sem,↓dP,↓reduceIte]; with_reducible and_intros; all_goals first | apply qA | exact ⟨⟩ | rfl | (intros; apply qB; first | kernel_rfl | omega) | omega | skip)
  (refine AskI.ret (c84 L hL.fine) ?_; simp only [go_sem,↓dP,↓reduceIte]; with_reducible and_intros; all_goals first | apply qA | exact ⟨⟩ | rfl | (intros; apply qB; first | kernel_rfl | omega) | omega | skip)
  (refine AskI.ret (h116) ?_; simp only [go_sem,↓dP,↓reduceIte]; with_reducible and_intros; all_goals first | apply qA | exact ⟨⟩ | rfl | (intros; apply qB; first | kernel_rfl | omega) | omega | skip)
  refine Ok.seq ?_
  ((first | refine qS rfl rfl ?_ | refine qR rfl rfl ?_); simp only [go_sem,↓dP,↓reduceIte]; with_reducible and_intros; all_goals first | apply qA | exact ⟨⟩ | rfl | (intros; apply qB; first | kernel_rfl | omega) | omega | skip)
  refine Ok.cond (b:=true) (by first | rfl | (simp only [go_sem,↓dP,↓reduceIte]; rfl)) (fun _ => ?_) (fun hb => by cases hb)
  ((first | refine qS rfl rfl ?_ | refine qR rfl rfl ?_); simp only [go_sem,↓dP,↓reduceIte]; with_reducible and_intros; all_goals first | apply qA | exact ⟨⟩ | rfl | (intros; apply qB; first | kernel_rfl | omega) | omega | skip)
  exact .refl _
def whyK (s : Street) (i : Int) (p : Place) : Int:=if lookOk s i p then (match whyL (lookOf s i p) with | some (k,_) => k | none => 0) else 0
def whyI (s : Street) (i : Int) (p : Place) : Int:=if lookOk s i p then (match whyL (lookOf s i p) with | some (_,j) => j | none => 0) else 0
def whyE (s : Street) (i : Int) (p : Place) : Int:=if lookOk s i p then (match whyL (lookOf s i p) with | some _ => 0 | none => 5) else 2
theorem c29 (s : Street) (hs : s.fit) (i : Int) (p : Place) : Ctr Tryz.prog 27 [s.sv,iS i,p.sv] (.tup [.agg [iS (whyK s i p),iS (whyI s i p)],iS (whyE s i p)]):=by
  have h72:=c72 s hs i p
  (refine Ctr.mk (fn:=Tryz.f27) rfl rfl rfl rfl rfl Tryz.results27 ?_; dsimp only [args,List.toList_toArray])
  ((first | refine qS rfl rfl ?_ | refine qR rfl rfl ?_); simp only [go_sem,↓dP,↓reduceIte]; with_reducible and_intros; all_goals first | apply qA | exact ⟨⟩ | rfl | (intros; apply qB; first | kernel_rfl | omega) | omega | skip)
  refine Ok.seq ?_
  ((first | refine qS rfl rfl ?_ | refine qR rfl rfl ?_); simp only [go_sem,↓dP,↓reduceIte]; with_reducible and_intros; all_goals first | apply qA | exact ⟨⟩ | rfl | (intros; apply qB; first | kernel_rfl | omega) | omega | skip)
  (refine AskI.ret (h72) ?_; simp only [go_sem,↓dP,↓reduceIte]; with_reducible and_intros; all_goals first | apply qA | exact ⟨⟩ | rfl | (intros; apply qB; first | kernel_rfl | omega) | omega | skip)
  refine Ok.seq ?_
  ((first | refine qS rfl rfl ?_ | refine qR rfl rfl ?_); simp only [go_sem,↓dP,↓reduceIte]; with_reducible and_intros; all_goals first | apply qA | exact ⟨⟩ | rfl | (intros; apply qB; first | kernel_rfl | omega) | omega | skip)
  refine Ok.cond rfl ?_ ?_
  · intro hb
    simp only [Bool.not_eq_true'] at hb
    ((first | refine qS rfl rfl ?_ | refine qR rfl rfl ?_); simp only [go_sem,↓dP,↓reduceIte]; with_reducible and_intros; all_goals first | apply qA | exact ⟨⟩ | rfl | (intros; apply qB; first | kernel_rfl | omega) | omega | skip)
    (refine Ok.ret ?_; (try dsimp only [thenK,blockK,noGotoK]); simp only [toList_mk,List.toList_toArray,retK_ret,retK_normal,resOK,resV,celV,rowV,frzAll,frzT,subV,subL,go_sem,↓dP,↓reduceIte])
    simp only [whyK,whyI,whyE,hb]
    exact ⟨⟨.refl _,.refl _⟩,.refl _⟩
  intro hb
  simp only [Bool.not_eq_false'] at hb
  obtain ⟨_,_,_,_,hg⟩:=lookOk_spec hb
  simp only [whyK,whyI,whyE,hb,if_true]
  generalize lookOf s i p = L at hg ⊢
  cases hw : whyL L with
  | none =>
    have h77:=c77_ok L hg hw
    (refine Ok.skip ?_; (try dsimp only [thenK,blockK,noGotoK]))
    ((first | refine qS rfl rfl ?_ | refine qR rfl rfl ?_); simp only [go_sem,↓dP,↓reduceIte]; with_reducible and_intros; all_goals first | apply qA | exact ⟨⟩ | rfl | (intros; apply qB; first | kernel_rfl | omega) | omega | skip)
    (refine AskI.ret (c76_ok 62 12 _ h77) ?_; simp only [go_sem,↓dP,↓reduceIte]; with_reducible and_intros; all_goals first | apply qA | exact ⟨⟩ | rfl | (intros; apply qB; first | kernel_rfl | omega) | omega | skip)
    refine Ok.seq ?_
    ((first | refine qS rfl rfl ?_ | refine qR rfl rfl ?_); simp only [go_sem,↓dP,↓reduceIte]; with_reducible and_intros; all_goals first | apply qA | exact ⟨⟩ | rfl | (intros; apply qB; first | kernel_rfl | omega) | omega | skip)
    refine Ok.cond (b:=true) (by first | rfl | (simp only [go_sem,↓dP,↓reduceIte]; rfl)) (fun _ => ?_) (fun hb => by cases hb)
    ((first | refine qS rfl rfl ?_ | refine qR rfl rfl ?_); simp only [go_sem,↓dP,↓reduceIte]; with_reducible and_intros; all_goals first | apply qA | exact ⟨⟩ | rfl | (intros; apply qB; first | kernel_rfl | omega) | omega | skip)
    (refine Ok.ret ?_; (try dsimp only [thenK,blockK,noGotoK]); simp only [toList_mk,List.toList_toArray,retK_ret,retK_normal,resOK,resV,celV,rowV,frzAll,frzT,subV,subL,go_sem,↓dP,↓reduceIte])
    ((repeat' with_reducible apply And.intro) <;> (first | exact DEq.refl _ | refine DEq.int ?_ | refine DEq.bool ?_ | skip))
  | some x =>
    obtain ⟨k,j⟩:=x
    have h77:=c77_why L hg k j hw
    (refine Ok.skip ?_; (try dsimp only [thenK,blockK,noGotoK]))
    ((first | refine qS rfl rfl ?_ | refine qR rfl rfl ?_); simp only [go_sem,↓dP,↓reduceIte]; with_reducible and_intros; all_goals first | apply qA | exact ⟨⟩ | rfl | (intros; apply qB; first | kernel_rfl | omega) | omega | skip)
    (refine AskI.ret (c76_why 62 12 _ k j h77) ?_; simp only [go_sem,↓dP,↓reduceIte]; with_reducible and_intros; all_goals first | apply qA | exact ⟨⟩ | rfl | (intros; apply qB; first | kernel_rfl | omega) | omega | skip)
    refine Ok.seq ?_
    ((first | refine qS rfl rfl ?_ | refine qR rfl rfl ?_); simp only [go_sem,↓dP,↓reduceIte]; with_reducible and_intros; all_goals first | apply qA | exact ⟨⟩ | rfl | (intros; apply qB; first | kernel_rfl | omega) | omega | skip)
    refine Ok.cond (b:=false) (by first | rfl | (simp only [go_sem,↓dP,↓reduceIte]; rfl)) (fun hb => by cases hb) (fun _ => ?_)
    (refine Ok.skip ?_; (try dsimp only [thenK,blockK,noGotoK]))
    ((first | refine qS rfl rfl ?_ | refine qR rfl rfl ?_); simp only [go_sem,↓dP,↓reduceIte]; with_reducible and_intros; all_goals first | apply qA | exact ⟨⟩ | rfl | (intros; apply qB; first | kernel_rfl | omega) | omega | skip)
    (refine Ok.ret ?_; (try dsimp only [thenK,blockK,noGotoK]); simp only [toList_mk,List.toList_toArray,retK_ret,retK_normal,resOK,resV,celV,rowV,frzAll,frzT,subV,subL,go_sem,↓dP,↓reduceIte])
    ((repeat' with_reducible apply And.intro) <;> (first | exact DEq.refl _ | refine DEq.int ?_ | refine DEq.bool ?_ | skip))
end Go.Proofs.Sight
namespace Go.Proofs.Sight
open Go Go.RX Go.Proofs
theorem fx_none {α : Type} {q : α → Bool} {l : List α} : l.findIdx? q = none ↔ ∀ x ∈ l,q x = false:=List.findIdx?_eq_none_iff
def clearL (L : Look) (n : Int) : Prop:=(∀ x ∈ L.b.ls,tall L x n = true ∧ broad L x n = true ∧ thick L x n = true) ∧ ∀ x ∈ L.b.ls.take (L.b.ls.length - 1),apart L x n = true
theorem five_none (a b c d e : Option Nat) : (match a with
  | some i => some ((1 : Int),(i : Int))
  | none => match b with
    | some i => some (2,(i : Int))
    | none => match c with
      | some i => some (3,(i : Int))
      | none => match d with
        | some i => some (4,(i : Int))
        | none => match e with
          | some i => some (5,(i : Int))
          | none => none) = none ↔ a = none ∧ b = none ∧ c = none ∧ d = none ∧ e = none:=by
  cases a <;> cases b <;> cases c <;> cases d <;> cases e <;> simp
theorem faultL_none (L : Look) (n : Int) (q : Block → Bool) : faultL L n q = none ↔ (∀ k ∈ L.s.ks,(q k && hides L k) = false) ∧ clearL L n:=by
  refine (five_none _ _ _ _ _).trans ?_
  simp only [fx_none,clearL,Bool.not_eq_eq_eq_not,Bool.not_false]
  constructor
  · rintro ⟨h1,h2,h3,h4,h5⟩
    exact ⟨h1,fun x hx => ⟨h2 x hx,h3 x hx,h4 x hx⟩,h5⟩
  · rintro ⟨h1,h2,h5⟩
    exact ⟨h1,fun x hx => (h2 x hx).1,fun x hx => (h2 x hx).2.1,fun x hx => (h2 x hx).2.2,h5⟩
theorem surely_iff (L : Look) : surelyL L = true ↔ (∀ k ∈ L.s.ks,hides L k = false) ∧ clearL L (L.s.el * L.s.ll):=by
  have h:=faultL_none L (L.s.el * L.s.ll) (fun _ => true)
  simp only [Bool.true_and] at h
  rw [← h,surelyL]
  cases faultL L (L.s.el * L.s.ll) (fun _ => true) <;> simp
theorem may_iff (L : Look) : mayL L = true ↔ (∀ k ∈ L.s.ks,(k.sure && hides L k) = false) ∧ clearL L (L.s.eh * L.s.lh):=by
  have h:=faultL_none L (L.s.eh * L.s.lh) (fun k => k.sure)
  rw [← h,mayL]
  cases faultL L (L.s.eh * L.s.lh) (fun k => k.sure) <;> simp
structure Letter.leq (x y : Letter) : Prop where
  h : x.h ≤ y.h
  w : x.w ≤ y.w
  s : x.s ≤ y.s
  p : x.p ≤ y.p
theorem Letter.leq.refl (x : Letter) : x.leq x:=⟨Int.le_refl _,Int.le_refl _,Int.le_refl _,Int.le_refl _⟩
theorem mul_le2 {a b c d : Int} (h1 : a ≤ b) (h2 : c ≤ d) (h3 : 0 ≤ a) (h4 : 0 ≤ c) : a * c ≤ b * d:=Int.mul_le_mul h1 h2 h4 (by omega)
section
variable {L L' : Look} {x y : Letter} {n m : Int}
theorem tall_mono (hf : far L'.b.at_ L'.p = far L.b.at_ L.p) (hx : x.fine) (hxy : x.leq y) (hn : 0 ≤ n) (h : n ≤ m) (ht : tall L x n = true) : tall L' y m = true:=by
  simp only [tall,decide_eq_true_eq] at ht ⊢
  have e1:=mul_le2 hxy.h h hx.h0 hn
  have e0:=Int.mul_nonneg hx.h0 hn
  have e2:=mul_le2 e1 e1 e0 e0
  rw [hf]; omega
theorem broad_mono (hf : far L'.b.at_ L'.p = far L.b.at_ L.p) (hp : L'.p.ac = L.p.ac) (h0 : 0 ≤ L.p.ac) (hx : x.fine) (hxy : x.leq y) (hn : 0 ≤ n) (h : n ≤ m) (ht : broad L x n = true) : broad L' y m = true:=by
  simp only [broad,decide_eq_true_eq] at ht ⊢
  have e1:=mul_le2 hxy.w h hx.w0 hn
  have e0:=Int.mul_nonneg hx.w0 hn
  have e2:=mul_le2 e1 (Int.le_refl L.p.ac) e0 h0
  rw [hf,hp]; omega
theorem thick_mono (hf : far L'.b.at_ L'.p = far L.b.at_ L.p) (hx : x.fine) (hxy : x.leq y) (hn : 0 ≤ n) (h : n ≤ m) (ht : thick L x n = true) : thick L' y m = true:=by
  simp only [thick,decide_eq_true_eq] at ht ⊢
  have hs:=hxy.s
  have hs0:=hx.s0
  have e1:=mul_le2 (a:=5 * x.s) (b:=5 * y.s) (by omega) h (by omega) hn
  have e0:=Int.mul_nonneg (a:=5 * x.s) (by omega) hn
  have e2:=mul_le2 e1 e1 e0 e0
  rw [hf]; omega
theorem apart_mono (hf : far L'.b.at_ L'.p = far L.b.at_ L.p) (hp : L'.p.ac = L.p.ac) (h0 : 0 ≤ L.p.ac) (hx : x.fine) (hxy : x.leq y) (hn : 0 ≤ n) (h : n ≤ m) (ht : apart L x n = true) : apart L' y m = true:=by
  simp only [apart,decide_eq_true_eq] at ht ⊢
  have hs:=hxy.p
  have hs0:=hx.p0
  have e1:=mul_le2 (a:=5 * x.p) (b:=5 * y.p) (by omega) h (by omega) hn
  have e0:=Int.mul_nonneg (a:=5 * x.p) (by omega) hn
  have e2:=mul_le2 e1 (Int.le_refl L.p.ac) e0 h0
  rw [hf,hp]; omega
end
theorem take_at_lt {α : Type} [Inhabited α] {l : List α} {n : Nat} {x : α} (h : x ∈ l.take n) : ∃ i,i < n ∧ i < l.length ∧ x = l.getD i default:=by
  rw [List.mem_take_iff_getElem] at h
  obtain ⟨i,hi,rfl⟩:=h
  exact ⟨i,by omega,by omega,(getD_lt (by omega)).symm⟩
theorem mem_at {α : Type} [Inhabited α] {l : List α} {x : α} (h : x ∈ l) : ∃ i,i < l.length ∧ x = l.getD i default:=by
  obtain ⟨i,hi,rfl⟩:=List.getElem_of_mem h
  exact ⟨i,hi,(getD_lt hi).symm⟩
theorem at_take {α : Type} [Inhabited α] {l : List α} {n i : Nat} (h : i < n) (hl : i < l.length) : l.getD i default ∈ l.take n:=by
  rw [List.mem_take_iff_getElem]
  exact ⟨i,by omega,(getD_lt hl).symm⟩
theorem clear_mono {L L' : Look} {n m : Int} (hL : L.good) (hat : L'.b.at_ = L.b.at_) (hp : L'.p = L.p) (hlen : L'.b.ls.length = L.b.ls.length)
    (hxy : ∀ i,i < L.b.ls.length → (L.b.ls.getD i default).leq (L'.b.ls.getD i default)) (hn : 0 ≤ n) (h : n ≤ m) (hc : clearL L n) : clearL L' m:=by
  have hf : far L'.b.at_ L'.p = far L.b.at_ L.p:=by rw [hat,hp]
  have hpc : L'.p.ac = L.p.ac:=by rw [hp]
  have h0 : 0 ≤ L.p.ac:=by have:=hL.fine.ac0; omega
  refine ⟨fun x hx => ?_,fun x hx => ?_⟩
  · obtain ⟨i,hi,rfl⟩:=mem_at hx
    have hi' : i < L.b.ls.length:=by omega
    have hm:=getD_mem hi'
    obtain ⟨c1,c2,c3⟩:=hc.1 _ hm
    exact ⟨tall_mono hf (hL.ls _ hm) (hxy i hi') hn h c1,broad_mono hf hpc h0 (hL.ls _ hm) (hxy i hi') hn h c2,thick_mono hf (hL.ls _ hm) (hxy i hi') hn h c3⟩
  · obtain ⟨i,hi,hi2,rfl⟩:=take_at_lt hx
    have hi' : i < L.b.ls.length:=by omega
    have hm:=getD_mem hi'
    exact apart_mono hf hpc h0 (hL.ls _ hm) (hxy i hi') hn h (hc.2 _ (at_take (by omega) hi'))
theorem hides_same {L L' : Look} (hat : L'.b.at_ = L.b.at_) (hp : L'.p = L.p) (k : Block) : hides L' k = hides L k:=by
  unfold hides along
  rw [hat,hp]
theorem surely_may {L : Look} (hL : L.good) (h1 : L.s.el * L.s.ll ≤ L.s.eh * L.s.lh) (h : surelyL L = true) : mayL L = true:=by
  rw [surely_iff] at h
  rw [may_iff]
  refine ⟨fun k hk => by simp [h.1 k hk],clear_mono hL rfl rfl rfl (fun i _ => Letter.leq.refl _) (pow_least hL.fine).1 h1 h.2⟩
theorem pow_le {s : Street} (h : s.ok) : s.el * s.ll ≤ s.eh * s.lh:=by
  obtain ⟨h1,h2,h3,h4,h5,h6,h7,h8,h9,h10,h11,h12,_⟩:=h
  exact mul_le2 h7 h11 (by omega) (by omega)
theorem word_3 (a b : Bool) : (word a b == 3) = a:=by cases a <;> cases b <;> rfl
theorem word_1 (a b : Bool) : (word a b == 1) = (!a && !b):=by cases a <;> cases b <;> rfl
theorem word_in (a b : Bool) : 1 ≤ word a b ∧ word a b ≤ 3:=by cases a <;> cases b <;> decide
end Go.Proofs.Sight
namespace Go.Proofs.Sight
open Go Go.RX Go.Proofs
set_option maxRecDepth 10000
theorem c78 (n lo hi : Int) : Ctr Tryz.prog 54 [iS n,iS lo,iS hi] (bS (inR n lo hi)):=by
  (refine Ctr.mk (fn:=Tryz.f54) rfl rfl rfl rfl rfl Tryz.results54 ?_; dsimp only [args,List.toList_toArray])
  ((first | refine qS rfl rfl ?_ | refine qR rfl rfl ?_); simp only [go_sem,↓dP,↓reduceIte]; with_reducible and_intros; all_goals first | apply qA | exact ⟨⟩ | rfl | (intros; apply qB; first | kernel_rfl | omega) | omega | skip)
  ((first | refine qS rfl rfl ?_ | refine qR rfl rfl ?_); simp only [go_sem,↓dP,↓reduceIte]; with_reducible and_intros; all_goals first | apply qA | exact ⟨⟩ | rfl | (intros; apply qB; first | kernel_rfl | omega) | omega | skip)
  (refine Ok.ret ?_; (try dsimp only [thenK,blockK,noGotoK]); simp only [toList_mk,List.toList_toArray,retK_ret,retK_normal,resOK,resV,celV,rowV,frzAll,frzT,subV,subL,go_sem,↓dP,↓reduceIte])
  exact .refl _
theorem c79 (l h lo hi : Int) : Ctr Tryz.prog 55 [.agg [iS l,iS h],iS lo,iS hi] (bS (spanR l h lo hi)):=by
  (refine Ctr.mk (fn:=Tryz.f55) rfl rfl rfl rfl rfl Tryz.results55 ?_; dsimp only [args,List.toList_toArray])
  ((first | refine qS rfl rfl ?_ | refine qR rfl rfl ?_); simp only [go_sem,↓dP,↓reduceIte]; with_reducible and_intros; all_goals first | apply qA | exact ⟨⟩ | rfl | (intros; apply qB; first | kernel_rfl | omega) | omega | skip)
  ((first | refine qS rfl rfl ?_ | refine qR rfl rfl ?_); simp only [go_sem,↓dP,↓reduceIte]; with_reducible and_intros; all_goals first | apply qA | exact ⟨⟩ | rfl | (intros; apply qB; first | kernel_rfl | omega) | omega | skip)
  (refine AskI.ret (c78 _ _ _) ?_; simp only [go_sem,↓dP,↓reduceIte]; with_reducible and_intros; all_goals first | apply qA | exact ⟨⟩ | rfl | (intros; apply qB; first | kernel_rfl | omega) | omega | skip)
  (refine AskGI.ret (fun _ => c78 _ _ _) ?_; simp only [go_sem,↓dP,↓reduceIte]; with_reducible and_intros; all_goals first | apply qA | exact ⟨⟩ | rfl | (intros; apply qB; first | kernel_rfl | omega) | omega | skip)
  (refine Ok.ret ?_; (try dsimp only [thenK,blockK,noGotoK]); simp only [toList_mk,List.toList_toArray,retK_ret,retK_normal,resOK,resV,celV,rowV,frzAll,frzT,subV,subL,go_sem,↓dP,↓reduceIte])
  exact .refl _
theorem c31 (s : Street) (hs : s.bs.length < 1000000) (i : Int) : Ctr Tryz.prog 17 [s.sv,iS i] (bS (inR i 0 (s.bs.length - 1))):=by
  (refine Ctr.mk (fn:=Tryz.f17) rfl rfl rfl rfl rfl Tryz.results17 ?_; dsimp only [args,List.toList_toArray])
  ((first | refine qS rfl rfl ?_ | refine qR rfl rfl ?_); simp only [go_sem,↓dP,↓reduceIte]; with_reducible and_intros; all_goals first | apply qA | exact ⟨⟩ | rfl | (intros; apply qB; first | kernel_rfl | omega) | omega | skip)
  ((first | refine qS rfl rfl ?_ | refine qR rfl rfl ?_); simp only [go_sem,↓dP,↓reduceIte]; with_reducible and_intros; all_goals first | apply qA | exact ⟨⟩ | rfl | (intros; apply qB; first | kernel_rfl | omega) | omega | skip)
  (refine AskI.ret (c78 _ _ _) ?_; simp only [go_sem,↓dP,↓reduceIte]; with_reducible and_intros; all_goals first | apply qA | exact ⟨⟩ | rfl | (intros; apply qB; first | kernel_rfl | omega) | omega | skip)
  (refine Ok.ret ?_; (try dsimp only [thenK,blockK,noGotoK]); simp only [toList_mk,List.toList_toArray,retK_ret,retK_normal,resOK,resV,celV,rowV,frzAll,frzT,subV,subL,go_sem,↓dP,↓reduceIte])
  exact .refl _
theorem c32 (s : Street) (p : Place) : Ctr Tryz.prog 31 [s.sv,p.sv] (bS (placeIn s p)):=by
  (refine Ctr.mk (fn:=Tryz.f31) rfl rfl rfl rfl rfl Tryz.results31 ?_; dsimp only [args,List.toList_toArray])
  ((first | refine qS rfl rfl ?_ | refine qR rfl rfl ?_); simp only [go_sem,↓dP,↓reduceIte]; with_reducible and_intros; all_goals first | apply qA | exact ⟨⟩ | rfl | (intros; apply qB; first | kernel_rfl | omega) | omega | skip)
  ((first | refine qS rfl rfl ?_ | refine qR rfl rfl ?_); simp only [go_sem,↓dP,↓reduceIte]; with_reducible and_intros; all_goals first | apply qA | exact ⟨⟩ | rfl | (intros; apply qB; first | kernel_rfl | omega) | omega | skip)
  (refine AskI.ret (c78 _ _ _) ?_; simp only [go_sem,↓dP,↓reduceIte]; with_reducible and_intros; all_goals first | apply qA | exact ⟨⟩ | rfl | (intros; apply qB; first | kernel_rfl | omega) | omega | skip)
  (refine AskGI.ret (fun _ => c78 _ _ _) ?_; simp only [go_sem,↓dP,↓reduceIte]; with_reducible and_intros; all_goals first | apply qA | exact ⟨⟩ | rfl | (intros; apply qB; first | kernel_rfl | omega) | omega | skip)
  (refine Ok.ret ?_; (try dsimp only [thenK,blockK,noGotoK]); simp only [toList_mk,List.toList_toArray,retK_ret,retK_normal,resOK,resV,celV,rowV,frzAll,frzT,subV,subL,go_sem,↓dP,↓reduceIte])
  exact .refl _
theorem c80 (b : Board) (len : Int) (hn : b.ls.length < 1000000) : Ctr Tryz.prog 56 [b.sv,iS len] (bS (isBoard b len)):=by
  (refine Ctr.mk (fn:=Tryz.f56) rfl rfl rfl rfl rfl Tryz.results56 ?_; dsimp only [args,List.toList_toArray])
  ((first | refine qS rfl rfl ?_ | refine qR rfl rfl ?_); simp only [go_sem,↓dP,↓reduceIte]; with_reducible and_intros; all_goals first | apply qA | exact ⟨⟩ | rfl | (intros; apply qB; first | kernel_rfl | omega) | omega | skip)
  ((first | refine qS rfl rfl ?_ | refine qR rfl rfl ?_); simp only [go_sem,↓dP,↓reduceIte]; with_reducible and_intros; all_goals first | apply qA | exact ⟨⟩ | rfl | (intros; apply qB; first | kernel_rfl | omega) | omega | skip)
  refine Ok.seq ?_
  ((first | refine qS rfl rfl ?_ | refine qR rfl rfl ?_); simp only [go_sem,↓dP,↓reduceIte]; with_reducible and_intros; all_goals first | apply qA | exact ⟨⟩ | rfl | (intros; apply qB; first | kernel_rfl | omega) | omega | skip)
  (refine AskI.ret (c78 _ _ _) ?_; simp only [go_sem,↓dP,↓reduceIte]; with_reducible and_intros; all_goals first | apply qA | exact ⟨⟩ | rfl | (intros; apply qB; first | kernel_rfl | omega) | omega | skip)
  (refine AskGI.ret (fun _ => c78 _ _ _) ?_; simp only [go_sem,↓dP,↓reduceIte]; with_reducible and_intros; all_goals first | apply qA | exact ⟨⟩ | rfl | (intros; apply qB; first | kernel_rfl | omega) | omega | skip)
  · intro h
    simp only [inR,beq_iff_eq,Bool.or_eq_false_iff,Bool.not_eq_false',Bool.and_eq_true,decide_eq_true_eq,beq_false,Bool.not_eq_true'] at h
    exact ⟨by omega,by omega⟩
  have e : (↑b.ls.length - 1 : Int).toNat = b.ls.length - 1:=by omega
  refine Ok.cond rfl ?_ ?_
  · intro hb
    ((first | refine qS rfl rfl ?_ | refine qR rfl rfl ?_); simp only [go_sem,↓dP,↓reduceIte]; with_reducible and_intros; all_goals first | apply qA | exact ⟨⟩ | rfl | (intros; apply qB; first | kernel_rfl | omega) | omega | skip)
    (refine Ok.ret ?_; (try dsimp only [thenK,blockK,noGotoK]); simp only [toList_mk,List.toList_toArray,retK_ret,retK_normal,resOK,resV,celV,rowV,frzAll,frzT,subV,subL,go_sem,↓dP,↓reduceIte])
    refine DEq.bool ?_
    simp only [isBoard]
    rw [e] at hb
    cases h1 : inR b.at_ 0 len <;> cases h2 : inR (↑b.ls.length) 1 5 <;> simp_all
  intro hb
  have hb' : (inR b.at_ 0 len && inR b.ls.length 1 5 && ((b.ls.getD (b.ls.length - 1) default).p == 0)) = true:=by
    rw [e] at hb
    cases h1 : inR b.at_ 0 len <;> cases h2 : inR (↑b.ls.length) 1 5 <;> simp_all
  (refine Ok.skip ?_; (try dsimp only [thenK,blockK,noGotoK]))
  refine Ok.seq ?_
  ((first | refine qS rfl rfl ?_ | refine qR rfl rfl ?_); simp only [go_sem,↓dP,↓reduceIte]; with_reducible and_intros; all_goals first | apply qA | exact ⟨⟩ | rfl | (intros; apply qB; first | kernel_rfl | omega) | omega | skip)
  refine Ok.block ?_
  refine Ok.count b.ls.length (fun i => ⟨[(2,.p 0 0),(5,iS b.ls.length),(6,iS i)],[{ frz:=false,xs:=[iS b.at_,.d (slD 4 letD b.ls)] }],[]⟩) (fun i => ∀ x ∈ b.ls.take i,(!isLetter x) = false) ⟨fun x hx => by simp at hx,?_⟩ ?_ ?_
  · (refine Sub.of ([0]) ([]) ?_ ?_ ?_ rfl rfl <;> simp only [subB,subB1,subT,subT1,newT,subE,subV,subL,go_sem,↓dP,↓reduceIte] <;> (try (repeat' with_reducible apply And.intro)) <;> (try first | exact DEq.refl _ | refine DEq.int ?_ | refine DEq.bool ?_ | omega))
  · intro i hi h0
    refine Ok.seq ?_; (((first | refine qS rfl rfl ?_ | refine qR rfl rfl ?_); simp only [go_sem,↓dP,↓reduceIte]; with_reducible and_intros; all_goals first | apply qA | exact ⟨⟩ | rfl | (intros; apply qB; first | kernel_rfl | omega) | omega | skip)); refine Ok.cond rfl (fun _ => ?_) (fun hb => by simp at hb; omega); (refine Ok.skip ?_; (try dsimp only [thenK,blockK,noGotoK])); refine Ok.seq ?_; refine Ok.block ?_
    ((first | refine qS rfl rfl ?_ | refine qR rfl rfl ?_); simp only [go_sem,↓dP,↓reduceIte]; with_reducible and_intros; all_goals first | apply qA | exact ⟨⟩ | rfl | (intros; apply qB; first | kernel_rfl | omega) | omega | skip)
    ((first | refine qS rfl rfl ?_ | refine qR rfl rfl ?_); simp only [go_sem,↓dP,↓reduceIte]; with_reducible and_intros; all_goals first | apply qA | exact ⟨⟩ | rfl | (intros; apply qB; first | kernel_rfl | omega) | omega | skip)
    (refine AskI.ret (c78 _ _ _) ?_; simp only [go_sem,↓dP,↓reduceIte]; with_reducible and_intros; all_goals first | apply qA | exact ⟨⟩ | rfl | (intros; apply qB; first | kernel_rfl | omega) | omega | skip)
    (refine AskGI.ret (fun _ => c78 _ _ _) ?_; simp only [go_sem,↓dP,↓reduceIte]; with_reducible and_intros; all_goals first | apply qA | exact ⟨⟩ | rfl | (intros; apply qB; first | kernel_rfl | omega) | omega | skip)
    (refine AskGI.ret (fun _ => c78 _ _ _) ?_; simp only [go_sem,↓dP,↓reduceIte]; with_reducible and_intros; all_goals first | apply qA | exact ⟨⟩ | rfl | (intros; apply qB; first | kernel_rfl | omega) | omega | skip)
    (refine AskGI.ret (fun _ => c78 _ _ _) ?_; simp only [go_sem,↓dP,↓reduceIte]; with_reducible and_intros; all_goals first | apply qA | exact ⟨⟩ | rfl | (intros; apply qB; first | kernel_rfl | omega) | omega | skip)
    refine Ok.cond rfl ?_ ?_
    · intro hx
      have hx' : (!isLetter (b.ls.getD i default)) = true:=by
        simp only [isLetter]
        revert hx
        cases inR (b.ls.getD i default).h 1 30 <;> cases inR (b.ls.getD i default).w 1 30 <;> cases inR (b.ls.getD i default).s 1 10 <;> cases inR (b.ls.getD i default).p 0 20 <;> simp
      ((first | refine qS rfl rfl ?_ | refine qR rfl rfl ?_); simp only [go_sem,↓dP,↓reduceIte]; with_reducible and_intros; all_goals first | apply qA | exact ⟨⟩ | rfl | (intros; apply qB; first | kernel_rfl | omega) | omega | skip)
      (refine Ok.ret ?_; (try dsimp only [thenK,blockK,noGotoK]); simp only [toList_mk,List.toList_toArray,retK_ret,retK_normal,resOK,resV,celV,rowV,frzAll,frzT,subV,subL,go_sem,↓dP,↓reduceIte])
      refine DEq.bool ?_
      have : b.ls.any (!isLetter ·) = true:=List.any_eq_true.2 ⟨_,getD_mem hi,hx'⟩
      simp [isBoard,this]
    · intro hx
      have hx' : (!isLetter (b.ls.getD i default)) = false:=by
        simp only [isLetter]
        revert hx
        cases inR (b.ls.getD i default).h 1 30 <;> cases inR (b.ls.getD i default).w 1 30 <;> cases inR (b.ls.getD i default).s 1 10 <;> cases inR (b.ls.getD i default).p 0 20 <;> simp
      (refine Ok.skip ?_; (try dsimp only [thenK,blockK,noGotoK]))
      ((first | refine qS rfl rfl ?_ | refine qR rfl rfl ?_); simp only [go_sem,↓dP,↓reduceIte]; with_reducible and_intros; all_goals first | apply qA | exact ⟨⟩ | rfl | (intros; apply qB; first | kernel_rfl | omega) | omega | skip)
      (try dsimp only [thenK,blockK,noGotoK])
      refine ⟨no_step hi h0 hx',?_⟩
      (refine Sub.of ([0]) ([]) ?_ ?_ ?_ rfl rfl <;> simp only [subB,subB1,subT,subT1,newT,subE,subV,subL,go_sem,↓dP,↓reduceIte] <;> (try (repeat' with_reducible apply And.intro)) <;> (try first | exact DEq.refl _ | refine DEq.int ?_ | refine DEq.bool ?_ | omega))
  · intro h0
    refine Ok.seq ?_; (((first | refine qS rfl rfl ?_ | refine qR rfl rfl ?_); simp only [go_sem,↓dP,↓reduceIte]; with_reducible and_intros; all_goals first | apply qA | exact ⟨⟩ | rfl | (intros; apply qB; first | kernel_rfl | omega) | omega | skip)); refine Ok.cond rfl (fun hb => by simp at hb) (fun _ => ?_); (refine Ok.exit ?_; simp only [thenK_exit,blockK_exit,noGotoK_exit,thenK_normal,blockK_normal,noGotoK_normal,↓reduceIte,Nat.reduceEqDiff])
    ((first | refine qS rfl rfl ?_ | refine qR rfl rfl ?_); simp only [go_sem,↓dP,↓reduceIte]; with_reducible and_intros; all_goals first | apply qA | exact ⟨⟩ | rfl | (intros; apply qB; first | kernel_rfl | omega) | omega | skip)
    (refine Ok.ret ?_; (try dsimp only [thenK,blockK,noGotoK]); simp only [toList_mk,List.toList_toArray,retK_ret,retK_normal,resOK,resV,celV,rowV,frzAll,frzT,subV,subL,go_sem,↓dP,↓reduceIte])
    refine DEq.bool ?_
    have : b.ls.any (!isLetter ·) = false:=List.any_eq_false.2 (fun x hx => by simp [h0 x (by simpa using hx)])
    simp only [isBoard,hb',this]
    rfl
def streetB (s : Street) : BC:={ frz:=false,xs:=[iS s.len,iS s.wid,iS s.el,iS s.eh,iS s.ll,iS s.lh,.d (slD 2 boaD s.bs),.d (slD 5 bloD s.ks)] }
def boardB (b : Board) : BC:={ frz:=false,xs:=[iS b.at_,.d (slD 4 letD b.ls)] }
def placeB (p : Place) : BC:={ frz:=false,xs:=[iS p.al,iS p.ac] }
theorem streetB_def (s : Street) : streetB s = { frz:=false,xs:=[iS s.len,iS s.wid,iS s.el,iS s.eh,iS s.ll,iS s.lh,.d (slD 2 boaD s.bs),.d (slD 5 bloD s.ks)] }:=Eq.trans rfl rfl
theorem boardB_def (b : Board) : boardB b = { frz:=false,xs:=[iS b.at_,.d (slD 4 letD b.ls)] }:=Eq.trans rfl rfl
theorem placeB_def (p : Place) : placeB p = { frz:=false,xs:=[iS p.al,iS p.ac] }:=Eq.trans rfl rfl
attribute [go_sem] streetB_def boardB_def placeB_def
theorem c30 (s : Street) (hn : s.fit) : Ctr Tryz.prog 16 [s.sv] (bS (isStreet s)):=by
  have hn1:=hn.1
  have hn2:=hn.2.1
  (refine Ctr.mk (fn:=Tryz.f16) rfl rfl rfl rfl rfl Tryz.results16 ?_; dsimp only [args,List.toList_toArray])
  ((first | refine qS rfl rfl ?_ | refine qR rfl rfl ?_); simp only [go_sem,↓dP,↓reduceIte]; with_reducible and_intros; all_goals first | apply qA | exact ⟨⟩ | rfl | (intros; apply qB; first | kernel_rfl | omega) | omega | skip)
  refine Ok.seq ?_
  ((first | refine qS rfl rfl ?_ | refine qR rfl rfl ?_); simp only [go_sem,↓dP,↓reduceIte]; with_reducible and_intros; all_goals first | apply qA | exact ⟨⟩ | rfl | (intros; apply qB; first | kernel_rfl | omega) | omega | skip)
  (refine AskI.ret (c78 _ _ _) ?_; simp only [go_sem,↓dP,↓reduceIte]; with_reducible and_intros; all_goals first | apply qA | exact ⟨⟩ | rfl | (intros; apply qB; first | kernel_rfl | omega) | omega | skip)
  (refine AskGI.ret (fun _ => c78 _ _ _) ?_; simp only [go_sem,↓dP,↓reduceIte]; with_reducible and_intros; all_goals first | apply qA | exact ⟨⟩ | rfl | (intros; apply qB; first | kernel_rfl | omega) | omega | skip)
  (refine AskGI.ret (fun _ => c79 _ _ _ _) ?_; simp only [go_sem,↓dP,↓reduceIte]; with_reducible and_intros; all_goals first | apply qA | exact ⟨⟩ | rfl | (intros; apply qB; first | kernel_rfl | omega) | omega | skip)
  (refine AskGI.ret (fun _ => c79 _ _ _ _) ?_; simp only [go_sem,↓dP,↓reduceIte]; with_reducible and_intros; all_goals first | apply qA | exact ⟨⟩ | rfl | (intros; apply qB; first | kernel_rfl | omega) | omega | skip)
  (refine AskGI.ret (fun _ => c78 _ _ _) ?_; simp only [go_sem,↓dP,↓reduceIte]; with_reducible and_intros; all_goals first | apply qA | exact ⟨⟩ | rfl | (intros; apply qB; first | kernel_rfl | omega) | omega | skip)
  have hdec : decide (4 < (s.ks.length : Int)) = !decide ((s.ks.length : Int) ≤ 4):=by by_cases h : (s.ks.length : Int) ≤ 4 <;> simp [h] <;> omega
  refine Ok.cond rfl ?_ ?_
  · intro hb
    have hb' : (inR s.len 1 40 && inR s.wid 1 12 && spanR s.el s.eh 1 40 && spanR s.ll s.lh 1 100 && inR s.bs.length 1 3 && decide ((s.ks.length : Int) ≤ 4)) = false:=by
      revert hb
      rw [hdec]
      cases inR s.len 1 40 <;> cases inR s.wid 1 12 <;> cases spanR s.el s.eh 1 40 <;> cases spanR s.ll s.lh 1 100 <;> cases inR s.bs.length 1 3 <;> cases decide ((s.ks.length : Int) ≤ 4) <;> simp
    ((first | refine qS rfl rfl ?_ | refine qR rfl rfl ?_); simp only [go_sem,↓dP,↓reduceIte]; with_reducible and_intros; all_goals first | apply qA | exact ⟨⟩ | rfl | (intros; apply qB; first | kernel_rfl | omega) | omega | skip)
    (refine Ok.ret ?_; (try dsimp only [thenK,blockK,noGotoK]); simp only [toList_mk,List.toList_toArray,retK_ret,retK_normal,resOK,resV,celV,rowV,frzAll,frzT,subV,subL,go_sem,↓dP,↓reduceIte])
    refine DEq.bool ?_
    simp only [isStreet,hb']
    rfl
  intro hb
  have hb' : (inR s.len 1 40 && inR s.wid 1 12 && spanR s.el s.eh 1 40 && spanR s.ll s.lh 1 100 && inR s.bs.length 1 3 && decide ((s.ks.length : Int) ≤ 4)) = true:=by
    revert hb
    rw [hdec]
    cases inR s.len 1 40 <;> cases inR s.wid 1 12 <;> cases spanR s.el s.eh 1 40 <;> cases spanR s.ll s.lh 1 100 <;> cases inR s.bs.length 1 3 <;> cases decide ((s.ks.length : Int) ≤ 4) <;> simp
  (refine Ok.skip ?_; (try dsimp only [thenK,blockK,noGotoK]))
  refine Ok.seq ?_
  ((first | refine qS rfl rfl ?_ | refine qR rfl rfl ?_); simp only [go_sem,↓dP,↓reduceIte]; with_reducible and_intros; all_goals first | apply qA | exact ⟨⟩ | rfl | (intros; apply qB; first | kernel_rfl | omega) | omega | skip)
  refine Ok.block ?_
  refine Ok.count s.bs.length (fun i => ⟨[(1,.p 0 0),(3,iS i)],[streetB s],[]⟩) (fun i => ∀ x ∈ s.bs.take i,(!isBoard x s.len) = false) ⟨fun x hx => by simp at hx,?_⟩ ?_ ?_
  · (refine Sub.of ([0]) ([]) ?_ ?_ ?_ rfl rfl <;> simp only [subB,subB1,subT,subT1,newT,subE,subV,subL,go_sem,↓dP,↓reduceIte] <;> (try (repeat' with_reducible apply And.intro)) <;> (try first | exact DEq.refl _ | refine DEq.int ?_ | refine DEq.bool ?_ | omega))
  · intro i hi h0
    refine Ok.seq ?_; (((first | refine qS rfl rfl ?_ | refine qR rfl rfl ?_); simp only [go_sem,↓dP,↓reduceIte]; with_reducible and_intros; all_goals first | apply qA | exact ⟨⟩ | rfl | (intros; apply qB; first | kernel_rfl | omega) | omega | skip)); refine Ok.cond rfl (fun _ => ?_) (fun hb => by simp at hb; omega); (refine Ok.skip ?_; (try dsimp only [thenK,blockK,noGotoK])); refine Ok.seq ?_; refine Ok.block ?_
    ((first | refine qS rfl rfl ?_ | refine qR rfl rfl ?_); simp only [go_sem,↓dP,↓reduceIte]; with_reducible and_intros; all_goals first | apply qA | exact ⟨⟩ | rfl | (intros; apply qB; first | kernel_rfl | omega) | omega | skip)
    (refine AskI.ret (c80 _ _ (hn.2.2 _ (getD_mem hi))) ?_; simp only [go_sem,↓dP,↓reduceIte]; with_reducible and_intros; all_goals first | apply qA | exact ⟨⟩ | rfl | (intros; apply qB; first | kernel_rfl | omega) | omega | skip)
    refine Ok.cond rfl ?_ ?_
    · intro hx
      ((first | refine qS rfl rfl ?_ | refine qR rfl rfl ?_); simp only [go_sem,↓dP,↓reduceIte]; with_reducible and_intros; all_goals first | apply qA | exact ⟨⟩ | rfl | (intros; apply qB; first | kernel_rfl | omega) | omega | skip)
      (refine Ok.ret ?_; (try dsimp only [thenK,blockK,noGotoK]); simp only [toList_mk,List.toList_toArray,retK_ret,retK_normal,resOK,resV,celV,rowV,frzAll,frzT,subV,subL,go_sem,↓dP,↓reduceIte])
      refine DEq.bool ?_
      have : s.bs.any (!isBoard · s.len) = true:=List.any_eq_true.2 ⟨_,getD_mem hi,hx⟩
      simp [isStreet,this]
    · intro hx
      (refine Ok.skip ?_; (try dsimp only [thenK,blockK,noGotoK]))
      ((first | refine qS rfl rfl ?_ | refine qR rfl rfl ?_); simp only [go_sem,↓dP,↓reduceIte]; with_reducible and_intros; all_goals first | apply qA | exact ⟨⟩ | rfl | (intros; apply qB; first | kernel_rfl | omega) | omega | skip)
      (try dsimp only [thenK,blockK,noGotoK])
      refine ⟨no_step hi h0 hx,?_⟩
      (refine Sub.of ([0]) ([]) ?_ ?_ ?_ rfl rfl <;> simp only [subB,subB1,subT,subT1,newT,subE,subV,subL,go_sem,↓dP,↓reduceIte] <;> (try (repeat' with_reducible apply And.intro)) <;> (try first | exact DEq.refl _ | refine DEq.int ?_ | refine DEq.bool ?_ | omega))
  intro h0
  have hbs : s.bs.any (!isBoard · s.len) = false:=List.any_eq_false.2 (fun x hx => by simp [h0 x (by simpa using hx)])
  refine Ok.seq ?_; (((first | refine qS rfl rfl ?_ | refine qR rfl rfl ?_); simp only [go_sem,↓dP,↓reduceIte]; with_reducible and_intros; all_goals first | apply qA | exact ⟨⟩ | rfl | (intros; apply qB; first | kernel_rfl | omega) | omega | skip)); refine Ok.cond rfl (fun hb => by simp at hb) (fun _ => ?_); (refine Ok.exit ?_; simp only [thenK_exit,blockK_exit,noGotoK_exit,thenK_normal,blockK_normal,noGotoK_normal,↓reduceIte,Nat.reduceEqDiff])
  refine Ok.seq ?_
  ((first | refine qS rfl rfl ?_ | refine qR rfl rfl ?_); simp only [go_sem,↓dP,↓reduceIte]; with_reducible and_intros; all_goals first | apply qA | exact ⟨⟩ | rfl | (intros; apply qB; first | kernel_rfl | omega) | omega | skip)
  refine Ok.block ?_
  refine Ok.count s.ks.length (fun i => ⟨[(1,.p 0 0),(4,iS i)],[streetB s],[]⟩) (fun i => ∀ x ∈ s.ks.take i,(!blockIn x s) = false) ⟨fun x hx => by simp at hx,?_⟩ ?_ ?_
  · (refine Sub.of ([0]) ([]) ?_ ?_ ?_ rfl rfl <;> simp only [subB,subB1,subT,subT1,newT,subE,subV,subL,go_sem,↓dP,↓reduceIte] <;> (try (repeat' with_reducible apply And.intro)) <;> (try first | exact DEq.refl _ | refine DEq.int ?_ | refine DEq.bool ?_ | omega))
  · intro i hi h0
    refine Ok.seq ?_; (((first | refine qS rfl rfl ?_ | refine qR rfl rfl ?_); simp only [go_sem,↓dP,↓reduceIte]; with_reducible and_intros; all_goals first | apply qA | exact ⟨⟩ | rfl | (intros; apply qB; first | kernel_rfl | omega) | omega | skip)); refine Ok.cond rfl (fun _ => ?_) (fun hb => by simp at hb; omega); (refine Ok.skip ?_; (try dsimp only [thenK,blockK,noGotoK])); refine Ok.seq ?_; refine Ok.block ?_
    ((first | refine qS rfl rfl ?_ | refine qR rfl rfl ?_); simp only [go_sem,↓dP,↓reduceIte]; with_reducible and_intros; all_goals first | apply qA | exact ⟨⟩ | rfl | (intros; apply qB; first | kernel_rfl | omega) | omega | skip)
    (refine AskI.ret (c79 _ _ _ _) ?_; simp only [go_sem,↓dP,↓reduceIte]; with_reducible and_intros; all_goals first | apply qA | exact ⟨⟩ | rfl | (intros; apply qB; first | kernel_rfl | omega) | omega | skip)
    (refine AskGI.ret (fun _ => c79 _ _ _ _) ?_; simp only [go_sem,↓dP,↓reduceIte]; with_reducible and_intros; all_goals first | apply qA | exact ⟨⟩ | rfl | (intros; apply qB; first | kernel_rfl | omega) | omega | skip)
    have hcases : blockIn (s.ks.getD i default) s = (spanR (s.ks.getD i default).al (s.ks.getD i default).ah 0 s.len && spanR (s.ks.getD i default).cl (s.ks.getD i default).ch 1 s.wid):=rfl
    refine Ok.cond rfl ?_ ?_
    · intro hx
      have hx' : (!blockIn (s.ks.getD i default) s) = true:=by
        rw [hcases]
        revert hx
        cases spanR (s.ks.getD i default).al (s.ks.getD i default).ah 0 s.len <;> cases spanR (s.ks.getD i default).cl (s.ks.getD i default).ch 1 s.wid <;> simp
      ((first | refine qS rfl rfl ?_ | refine qR rfl rfl ?_); simp only [go_sem,↓dP,↓reduceIte]; with_reducible and_intros; all_goals first | apply qA | exact ⟨⟩ | rfl | (intros; apply qB; first | kernel_rfl | omega) | omega | skip)
      (refine Ok.ret ?_; (try dsimp only [thenK,blockK,noGotoK]); simp only [toList_mk,List.toList_toArray,retK_ret,retK_normal,resOK,resV,celV,rowV,frzAll,frzT,subV,subL,go_sem,↓dP,↓reduceIte])
      refine DEq.bool ?_
      have : s.ks.any (!blockIn · s) = true:=List.any_eq_true.2 ⟨_,getD_mem hi,hx'⟩
      simp [isStreet,this]
    · intro hx
      have hx' : (!blockIn (s.ks.getD i default) s) = false:=by
        rw [hcases]
        revert hx
        cases spanR (s.ks.getD i default).al (s.ks.getD i default).ah 0 s.len <;> cases spanR (s.ks.getD i default).cl (s.ks.getD i default).ch 1 s.wid <;> simp
      (refine Ok.skip ?_; (try dsimp only [thenK,blockK,noGotoK]))
      ((first | refine qS rfl rfl ?_ | refine qR rfl rfl ?_); simp only [go_sem,↓dP,↓reduceIte]; with_reducible and_intros; all_goals first | apply qA | exact ⟨⟩ | rfl | (intros; apply qB; first | kernel_rfl | omega) | omega | skip)
      (try dsimp only [thenK,blockK,noGotoK])
      refine ⟨no_step hi h0 hx',?_⟩
      (refine Sub.of ([0]) ([]) ?_ ?_ ?_ rfl rfl <;> simp only [subB,subB1,subT,subT1,newT,subE,subV,subL,go_sem,↓dP,↓reduceIte] <;> (try (repeat' with_reducible apply And.intro)) <;> (try first | exact DEq.refl _ | refine DEq.int ?_ | refine DEq.bool ?_ | omega))
  · intro h0
    have hks : s.ks.any (!blockIn · s) = false:=List.any_eq_false.2 (fun x hx => by simp [h0 x (by simpa using hx)])
    refine Ok.seq ?_; (((first | refine qS rfl rfl ?_ | refine qR rfl rfl ?_); simp only [go_sem,↓dP,↓reduceIte]; with_reducible and_intros; all_goals first | apply qA | exact ⟨⟩ | rfl | (intros; apply qB; first | kernel_rfl | omega) | omega | skip)); refine Ok.cond rfl (fun hb => by simp at hb) (fun _ => ?_); (refine Ok.exit ?_; simp only [thenK_exit,blockK_exit,noGotoK_exit,thenK_normal,blockK_normal,noGotoK_normal,↓reduceIte,Nat.reduceEqDiff])
    ((first | refine qS rfl rfl ?_ | refine qR rfl rfl ?_); simp only [go_sem,↓dP,↓reduceIte]; with_reducible and_intros; all_goals first | apply qA | exact ⟨⟩ | rfl | (intros; apply qB; first | kernel_rfl | omega) | omega | skip)
    (refine Ok.ret ?_; (try dsimp only [thenK,blockK,noGotoK]); simp only [toList_mk,List.toList_toArray,retK_ret,retK_normal,resOK,resV,celV,rowV,frzAll,frzT,subV,subL,go_sem,↓dP,↓reduceIte])
    refine DEq.bool ?_
    simp only [isStreet,hb',hbs,hks]
    rfl
def shortS (s : Street) : Bool:=!((s.bs.take 6).any (fun b => decide (7 < b.ls.length))) && decide (s.bs.length ≤ 5) && decide (s.ks.length ≤ 6)
theorem short_fit {s : Street} (h : shortS s = true) : s.fit:=by
  simp only [shortS,Bool.and_eq_true,Bool.not_eq_true',List.any_eq_false,decide_eq_true_eq] at h
  obtain ⟨⟨h1,h2⟩,h3⟩:=h
  refine ⟨by omega,by omega,fun b hb => ?_⟩
  have:=h1 b (by rw [List.take_of_length_le (by omega)]; exact hb)
  omega
def Street.held (s : Street) : Prop:=s.bs.length ≤ 9223372036854775807 ∧ s.ks.length ≤ 9223372036854775807 ∧ ∀ b ∈ s.bs,b.ls.length ≤ 9223372036854775807
theorem c28 (s : Street) (hs : s.held) : Ctr Tryz.prog 13 [s.sv] (bS (shortS s)):=by
  have h1:=hs.1
  have h2:=hs.2.1
  (refine Ctr.mk (fn:=Tryz.f13) rfl rfl rfl rfl rfl Tryz.results13 ?_; dsimp only [args,List.toList_toArray])
  ((first | refine qS rfl rfl ?_ | refine qR rfl rfl ?_); simp only [go_sem,↓dP,↓reduceIte]; with_reducible and_intros; all_goals first | apply qA | exact ⟨⟩ | rfl | (intros; apply qB; first | kernel_rfl | omega) | omega | skip)
  refine Ok.seq ?_
  ((first | refine qS rfl rfl ?_ | refine qR rfl rfl ?_); simp only [go_sem,↓dP,↓reduceIte]; with_reducible and_intros; all_goals first | apply qA | exact ⟨⟩ | rfl | (intros; apply qB; first | kernel_rfl | omega) | omega | skip)
  refine Ok.block ?_
  refine Ok.count (min s.bs.length 6) (fun i => ⟨[(1,.p 0 0),(3,iS i)],[streetB s],[]⟩) (fun i => ∀ b ∈ s.bs.take i,(decide (7 < b.ls.length)) = false) ⟨fun x hx => by simp at hx,?_⟩ ?_ ?_
  · (refine Sub.of ([0]) ([]) ?_ ?_ ?_ rfl rfl <;> simp only [subB,subB1,subT,subT1,newT,subE,subV,subL,go_sem,↓dP,↓reduceIte] <;> (try (repeat' with_reducible apply And.intro)) <;> (try first | exact DEq.refl _ | refine DEq.int ?_ | refine DEq.bool ?_ | omega))
  · intro i hi h0
    have hi1 : i < s.bs.length:=by omega
    have hi2 : i < 6:=by omega
    have hl:=hs.2.2 _ (getD_mem hi1)
    refine Ok.seq ?_; (((first | refine qS rfl rfl ?_ | refine qR rfl rfl ?_); simp only [go_sem,↓dP,↓reduceIte]; with_reducible and_intros; all_goals first | apply qA | exact ⟨⟩ | rfl | (intros; apply qB; first | kernel_rfl | omega) | omega | skip)); refine Ok.cond rfl (fun _ => ?_) (fun hb => by simp at hb; omega); (refine Ok.skip ?_; (try dsimp only [thenK,blockK,noGotoK])); refine Ok.seq ?_; refine Ok.block ?_
    ((first | refine qS rfl rfl ?_ | refine qR rfl rfl ?_); simp only [go_sem,↓dP,↓reduceIte]; with_reducible and_intros; all_goals first | apply qA | exact ⟨⟩ | rfl | (intros; apply qB; first | kernel_rfl | omega) | omega | skip)
    refine Ok.cond rfl ?_ ?_
    · intro hx
      ((first | refine qS rfl rfl ?_ | refine qR rfl rfl ?_); simp only [go_sem,↓dP,↓reduceIte]; with_reducible and_intros; all_goals first | apply qA | exact ⟨⟩ | rfl | (intros; apply qB; first | kernel_rfl | omega) | omega | skip)
      (refine Ok.ret ?_; (try dsimp only [thenK,blockK,noGotoK]); simp only [toList_mk,List.toList_toArray,retK_ret,retK_normal,resOK,resV,celV,rowV,frzAll,frzT,subV,subL,go_sem,↓dP,↓reduceIte])
      refine DEq.bool ?_
      have hx' : decide (7 < (s.bs.getD i default).ls.length) = true:=by
        simp only [decide_eq_true_eq] at hx ⊢; omega
      have : (s.bs.take 6).any (fun b => decide (7 < b.ls.length)) = true:=List.any_eq_true.2 ⟨_,at_take hi2 hi1,hx'⟩
      simp [shortS,this]
    · intro hx
      have hx' : decide (7 < (s.bs.getD i default).ls.length) = false:=by
        simp only [decide_eq_false_iff_not] at hx ⊢; omega
      (refine Ok.skip ?_; (try dsimp only [thenK,blockK,noGotoK]))
      ((first | refine qS rfl rfl ?_ | refine qR rfl rfl ?_); simp only [go_sem,↓dP,↓reduceIte]; with_reducible and_intros; all_goals first | apply qA | exact ⟨⟩ | rfl | (intros; apply qB; first | kernel_rfl | omega) | omega | skip)
      (try dsimp only [thenK,blockK,noGotoK])
      refine ⟨no_step hi1 h0 hx',?_⟩
      (refine Sub.of ([0]) ([]) ?_ ?_ ?_ rfl rfl <;> simp only [subB,subB1,subT,subT1,newT,subE,subV,subL,go_sem,↓dP,↓reduceIte] <;> (try (repeat' with_reducible apply And.intro)) <;> (try first | exact DEq.refl _ | refine DEq.int ?_ | refine DEq.bool ?_ | omega))
  · intro h0
    refine Ok.seq ?_; (((first | refine qS rfl rfl ?_ | refine qR rfl rfl ?_); simp only [go_sem,↓dP,↓reduceIte]; with_reducible and_intros; all_goals first | apply qA | exact ⟨⟩ | rfl | (intros; apply qB; first | kernel_rfl | omega) | omega | skip)); refine Ok.cond rfl (fun hb => by simp at hb; omega) (fun _ => ?_); (refine Ok.exit ?_; simp only [thenK_exit,blockK_exit,noGotoK_exit,thenK_normal,blockK_normal,noGotoK_normal,↓reduceIte,Nat.reduceEqDiff])
    ((first | refine qS rfl rfl ?_ | refine qR rfl rfl ?_); simp only [go_sem,↓dP,↓reduceIte]; with_reducible and_intros; all_goals first | apply qA | exact ⟨⟩ | rfl | (intros; apply qB; first | kernel_rfl | omega) | omega | skip)
    (refine Ok.ret ?_; (try dsimp only [thenK,blockK,noGotoK]); simp only [toList_mk,List.toList_toArray,retK_ret,retK_normal,resOK,resV,celV,rowV,frzAll,frzT,subV,subL,go_sem,↓dP,↓reduceIte])
    refine DEq.bool ?_
    have e1 : (s.bs.take 6).any (fun b => decide (7 < b.ls.length)) = false:=by
      rw [List.any_eq_false]
      intro x hx
      have : s.bs.take 6 = s.bs.take (min s.bs.length 6):=by
        rcases Nat.le_total s.bs.length 6 with h | h
        · rw [Nat.min_eq_left h,List.take_of_length_le h,List.take_length]
        · rw [Nat.min_eq_right h]
      rw [this] at hx
      simp [h0 x hx]
    simp only [shortS,e1,Bool.not_false,Bool.true_and]
    by_cases g1 : s.bs.length ≤ 5 <;> by_cases g2 : s.ks.length ≤ 6 <;> simp [g1,g2] <;> omega
def rightS (s : Street) (i : Int) (p : Place) : Bool:=shortS s && lookOk s i p
theorem c23 (s : Street) (hs : s.held) (i : Int) (p : Place) : Ctr Tryz.prog 21 [s.sv,iS i,p.sv] (bS (rightS s i p)):=by
  (refine Ctr.mk (fn:=Tryz.f21) rfl rfl rfl rfl rfl Tryz.results21 ?_; dsimp only [args,List.toList_toArray])
  ((first | refine qS rfl rfl ?_ | refine qR rfl rfl ?_); simp only [go_sem,↓dP,↓reduceIte]; with_reducible and_intros; all_goals first | apply qA | exact ⟨⟩ | rfl | (intros; apply qB; first | kernel_rfl | omega) | omega | skip)
  ((first | refine qS rfl rfl ?_ | refine qR rfl rfl ?_); simp only [go_sem,↓dP,↓reduceIte]; with_reducible and_intros; all_goals first | apply qA | exact ⟨⟩ | rfl | (intros; apply qB; first | kernel_rfl | omega) | omega | skip)
  (refine AskI.ret (c28 s hs) ?_; simp only [go_sem,↓dP,↓reduceIte]; with_reducible and_intros; all_goals first | apply qA | exact ⟨⟩ | rfl | (intros; apply qB; first | kernel_rfl | omega) | omega | skip)
  (refine AskGI.ret (fun h => c30 s (short_fit (by simpa using h))) ?_; simp only [go_sem,↓dP,↓reduceIte]; with_reducible and_intros; all_goals first | apply qA | exact ⟨⟩ | rfl | (intros; apply qB; first | kernel_rfl | omega) | omega | skip)
  (refine AskGI.ret (fun h => c31 s (short_fit (by revert h; cases shortS s <;> simp)).1 i) ?_; simp only [go_sem,↓dP,↓reduceIte]; with_reducible and_intros; all_goals first | apply qA | exact ⟨⟩ | rfl | (intros; apply qB; first | kernel_rfl | omega) | omega | skip)
  (refine AskGI.ret (fun h => c32 s p) ?_; simp only [go_sem,↓dP,↓reduceIte]; with_reducible and_intros; all_goals first | apply qA | exact ⟨⟩ | rfl | (intros; apply qB; first | kernel_rfl | omega) | omega | skip)
  (refine Ok.ret ?_; (try dsimp only [thenK,blockK,noGotoK]); simp only [toList_mk,List.toList_toArray,retK_ret,retK_normal,resOK,resV,celV,rowV,frzAll,frzT,subV,subL,go_sem,↓dP,↓reduceIte])
  refine DEq.bool ?_
  simp only [rightS,lookOk]
  cases shortS s <;> cases isStreet s <;> cases inR i 0 (s.bs.length - 1) <;> simp
end Go.Proofs.Sight
namespace Go.Proofs.Sight
open Go Go.RX Go.Proofs
set_option maxRecDepth 10000
theorem natD_0 (n : Nat) : natD n 0 = iD n:=Eq.trans rfl rfl
def boolD (b : Bool) : Nat → DV
  | 0 => .bool b | _ => .nilI
theorem boolD_0 (b : Bool) : boolD b 0 = .bool b:=Eq.trans rfl rfl
attribute [go_sem] natD_0 boolD_0
theorem dlt (a b : Int) : decide (a < b) = !decide (b ≤ a):=by by_cases h : b ≤ a <;> simp [h] <;> omega
theorem c47 (L : Look) (h : L.fine) : Ctr Tryz.prog 135 [iS L.b.at_,L.p.sv] (iS (far L.b.at_ L.p)):=by
  obtain ⟨a1,a2,a3,a4,a5,a6,_⟩:=h
  have e1:=mulB (a:=L.p.al - L.b.at_) (b:=L.p.al - L.b.at_) (A:=40) (B:=40) (by omega) (by omega) (by omega) (by omega)
  have e2:=mulB (a:=L.p.ac) (b:=L.p.ac) (A:=12) (B:=12) (by omega) (by omega) (by omega) (by omega)
  (refine Ctr.mk (fn:=Tryz.f135) rfl rfl rfl rfl rfl Tryz.results135 ?_; dsimp only [args,List.toList_toArray])
  ((first | refine qS rfl rfl ?_ | refine qR rfl rfl ?_); simp only [go_sem,↓dP,↓reduceIte]; with_reducible and_intros; all_goals first | apply qA | exact ⟨⟩ | rfl | (intros; apply qB; first | kernel_rfl | omega) | omega | skip)
  ((first | refine qS rfl rfl ?_ | refine qR rfl rfl ?_); simp only [go_sem,↓dP,↓reduceIte]; with_reducible and_intros; all_goals first | apply qA | exact ⟨⟩ | rfl | (intros; apply qB; first | kernel_rfl | omega) | omega | skip)
  (refine Ok.ret ?_; (try dsimp only [thenK,blockK,noGotoK]); simp only [toList_mk,List.toList_toArray,retK_ret,retK_normal,resOK,resV,celV,rowV,frzAll,frzT,subV,subL,go_sem,↓dP,↓reduceIte])
  exact .refl _
def kindL (L : Look) (x : Letter) (n : Int) : Int:=if tall L x n then (if broad L x n then (if thick L x n then 0 else 4) else 3) else 2
theorem kind_zero (L : Look) (x : Letter) (n : Int) : (kindL L x n == 0) = readL L x n:=by
  simp only [kindL,readL]
  cases tall L x n <;> cases broad L x n <;> cases thick L x n <;> rfl
theorem kind_nz (L : Look) (x : Letter) (n : Int) : (kindL L x n != 0) = !readL L x n:=by
  rw [← kind_zero]; rfl
theorem sq_low (L : Look) (x : Letter) (n : Int) : decide (x.h * n * x.h * n < 10000 * far L.b.at_ L.p) = !tall L x n:=by
  rw [dlt,tall,Int.mul_assoc (x.h * n) x.h n]
theorem sq_thin (L : Look) (x : Letter) (n : Int) : decide (5 * x.s * n * 5 * x.s * n < 10000 * far L.b.at_ L.p) = !thick L x n:=by
  rw [dlt,thick,Int.mul_assoc (5 * x.s * n) 5,Int.mul_assoc (5 * x.s * n) (5 * x.s) n]
theorem sq_narrow (L : Look) (x : Letter) (n : Int) : decide (x.w * n * L.p.ac < 100 * far L.b.at_ L.p) = !broad L x n:=by
  rw [dlt,broad]
theorem sq_melt (L : Look) (x : Letter) (n : Int) : decide (5 * x.p * n * L.p.ac < 100 * far L.b.at_ L.p) = !apart L x n:=by
  rw [dlt,apart]
theorem c89 (L : Look) (h : L.fine) (x : Letter) (hx : x.fine) (n : Int) (h0 : 0 ≤ n) (h1 : n ≤ 10000) : Ctr Tryz.prog 122 [x.sv,iS L.b.at_,L.p.sv,iS n] (iS (kindL L x n)):=by
  obtain ⟨f0,f1⟩:=h.far
  have hL:=h
  obtain ⟨a1,a2,a3,a4,a5,a6,_⟩:=h
  obtain ⟨x1,x2,x3,x4,x5,x6,x7,x8⟩:=hx
  have e1:=mulB (a:=x.h) (b:=n) (A:=1000) (B:=10000) (by omega) (by omega) (by omega) (by omega)
  have e2:=mulB (a:=x.h * n) (b:=x.h) (A:=10000000) (B:=1000) (by omega) (by omega) (by omega) (by omega)
  have e3:=mulB (a:=x.h * n * x.h) (b:=n) (A:=10000000000) (B:=10000) (by omega) (by omega) (by omega) (by omega)
  have w1:=mulB (a:=x.w) (b:=n) (A:=1000) (B:=10000) (by omega) (by omega) (by omega) (by omega)
  have w2:=mulB (a:=x.w * n) (b:=L.p.ac) (A:=10000000) (B:=12) (by omega) (by omega) (by omega) (by omega)
  have s1:=mulB (a:=5 * x.s) (b:=n) (A:=5000) (B:=10000) (by omega) (by omega) (by omega) (by omega)
  have s3:=mulB (a:=5 * x.s * n * 5) (b:=x.s) (A:=250000000) (B:=1000) (by omega) (by omega) (by omega) (by omega)
  have s4:=mulB (a:=5 * x.s * n * 5 * x.s) (b:=n) (A:=250000000000) (B:=10000) (by omega) (by omega) (by omega) (by omega)
  (refine Ctr.mk (fn:=Tryz.f122) rfl rfl rfl rfl rfl Tryz.results122 ?_; dsimp only [args,List.toList_toArray])
  ((first | refine qS rfl rfl ?_ | refine qR rfl rfl ?_); simp only [go_sem,↓dP,↓reduceIte]; with_reducible and_intros; all_goals first | apply qA | exact ⟨⟩ | rfl | (intros; apply qB; first | kernel_rfl | omega) | omega | skip)
  ((first | refine qS rfl rfl ?_ | refine qR rfl rfl ?_); simp only [go_sem,↓dP,↓reduceIte]; with_reducible and_intros; all_goals first | apply qA | exact ⟨⟩ | rfl | (intros; apply qB; first | kernel_rfl | omega) | omega | skip)
  (refine AskI.ret (c47 L hL) ?_; simp only [go_sem,↓dP,↓reduceIte]; with_reducible and_intros; all_goals first | apply qA | exact ⟨⟩ | rfl | (intros; apply qB; first | kernel_rfl | omega) | omega | skip)
  refine Ok.seq ?_
  ((first | refine qS rfl rfl ?_ | refine qR rfl rfl ?_); simp only [go_sem,↓dP,↓reduceIte]; with_reducible and_intros; all_goals first | apply qA | exact ⟨⟩ | rfl | (intros; apply qB; first | kernel_rfl | omega) | omega | skip)
  refine Ok.cond rfl ?_ ?_
  · intro hb
    rw [sq_low] at hb
    have ht : tall L x n = false:=by simpa using hb
    ((first | refine qS rfl rfl ?_ | refine qR rfl rfl ?_); simp only [go_sem,↓dP,↓reduceIte]; with_reducible and_intros; all_goals first | apply qA | exact ⟨⟩ | rfl | (intros; apply qB; first | kernel_rfl | omega) | omega | skip)
    (refine Ok.ret ?_; (try dsimp only [thenK,blockK,noGotoK]); simp only [toList_mk,List.toList_toArray,retK_ret,retK_normal,resOK,resV,celV,rowV,frzAll,frzT,subV,subL,go_sem,↓dP,↓reduceIte])
    simp only [kindL,ht]
    exact .refl _
  intro hb
  rw [sq_low] at hb
  have ht : tall L x n = true:=by simpa using hb
  (refine Ok.skip ?_; (try dsimp only [thenK,blockK,noGotoK]))
  refine Ok.seq ?_
  ((first | refine qS rfl rfl ?_ | refine qR rfl rfl ?_); simp only [go_sem,↓dP,↓reduceIte]; with_reducible and_intros; all_goals first | apply qA | exact ⟨⟩ | rfl | (intros; apply qB; first | kernel_rfl | omega) | omega | skip)
  refine Ok.cond rfl ?_ ?_
  · intro hb
    rw [sq_narrow] at hb
    have hw : broad L x n = false:=by simpa using hb
    ((first | refine qS rfl rfl ?_ | refine qR rfl rfl ?_); simp only [go_sem,↓dP,↓reduceIte]; with_reducible and_intros; all_goals first | apply qA | exact ⟨⟩ | rfl | (intros; apply qB; first | kernel_rfl | omega) | omega | skip)
    (refine Ok.ret ?_; (try dsimp only [thenK,blockK,noGotoK]); simp only [toList_mk,List.toList_toArray,retK_ret,retK_normal,resOK,resV,celV,rowV,frzAll,frzT,subV,subL,go_sem,↓dP,↓reduceIte])
    simp only [kindL,ht,hw]
    exact .refl _
  intro hb
  rw [sq_narrow] at hb
  have hw : broad L x n = true:=by simpa using hb
  (refine Ok.skip ?_; (try dsimp only [thenK,blockK,noGotoK]))
  refine Ok.seq ?_
  ((first | refine qS rfl rfl ?_ | refine qR rfl rfl ?_); simp only [go_sem,↓dP,↓reduceIte]; with_reducible and_intros; all_goals first | apply qA | exact ⟨⟩ | rfl | (intros; apply qB; first | kernel_rfl | omega) | omega | skip)
  refine Ok.cond rfl ?_ ?_
  · intro hb
    rw [sq_thin] at hb
    have hs : thick L x n = false:=by simpa using hb
    ((first | refine qS rfl rfl ?_ | refine qR rfl rfl ?_); simp only [go_sem,↓dP,↓reduceIte]; with_reducible and_intros; all_goals first | apply qA | exact ⟨⟩ | rfl | (intros; apply qB; first | kernel_rfl | omega) | omega | skip)
    (refine Ok.ret ?_; (try dsimp only [thenK,blockK,noGotoK]); simp only [toList_mk,List.toList_toArray,retK_ret,retK_normal,resOK,resV,celV,rowV,frzAll,frzT,subV,subL,go_sem,↓dP,↓reduceIte])
    simp only [kindL,ht,hw,hs]
    exact .refl _
  intro hb
  rw [sq_thin] at hb
  have hs : thick L x n = true:=by simpa using hb
  (refine Ok.skip ?_; (try dsimp only [thenK,blockK,noGotoK]))
  ((first | refine qS rfl rfl ?_ | refine qR rfl rfl ?_); simp only [go_sem,↓dP,↓reduceIte]; with_reducible and_intros; all_goals first | apply qA | exact ⟨⟩ | rfl | (intros; apply qB; first | kernel_rfl | omega) | omega | skip)
  (refine Ok.ret ?_; (try dsimp only [thenK,blockK,noGotoK]); simp only [toList_mk,List.toList_toArray,retK_ret,retK_normal,resOK,resV,celV,rowV,frzAll,frzT,subV,subL,go_sem,↓dP,↓reduceIte])
  simp only [kindL,ht,hw,hs]
  exact .refl _
def faultsL (L : Look) (x : Letter) (n : Int) : List Bool:=[!tall L x n,!broad L x n,!thick L x n]
theorem c82 (L : Look) (h : L.fine) (x : Letter) (hx : x.fine) (n : Int) (h0 : 0 ≤ n) (h1 : n ≤ 10000) : Ctr Tryz.prog 123 [x.sv,iS L.b.at_,L.p.sv,iS n] (bS (!apart L x n)):=by
  obtain ⟨f0,f1⟩:=h.far
  have hL:=h
  obtain ⟨a1,a2,a3,a4,a5,a6,_⟩:=h
  obtain ⟨x1,x2,x3,x4,x5,x6,x7,x8⟩:=hx
  have e1:=mulB (a:=5 * x.p) (b:=n) (A:=5000) (B:=10000) (by omega) (by omega) (by omega) (by omega)
  have e2:=mulB (a:=5 * x.p * n) (b:=L.p.ac) (A:=50000000) (B:=12) (by omega) (by omega) (by omega) (by omega)
  (refine Ctr.mk (fn:=Tryz.f123) rfl rfl rfl rfl rfl Tryz.results123 ?_; dsimp only [args,List.toList_toArray])
  ((first | refine qS rfl rfl ?_ | refine qR rfl rfl ?_); simp only [go_sem,↓dP,↓reduceIte]; with_reducible and_intros; all_goals first | apply qA | exact ⟨⟩ | rfl | (intros; apply qB; first | kernel_rfl | omega) | omega | skip)
  ((first | refine qS rfl rfl ?_ | refine qR rfl rfl ?_); simp only [go_sem,↓dP,↓reduceIte]; with_reducible and_intros; all_goals first | apply qA | exact ⟨⟩ | rfl | (intros; apply qB; first | kernel_rfl | omega) | omega | skip)
  (refine AskI.ret (c47 L hL) ?_; simp only [go_sem,↓dP,↓reduceIte]; with_reducible and_intros; all_goals first | apply qA | exact ⟨⟩ | rfl | (intros; apply qB; first | kernel_rfl | omega) | omega | skip)
  (refine Ok.ret ?_; (try dsimp only [thenK,blockK,noGotoK]); simp only [toList_mk,List.toList_toArray,retK_ret,retK_normal,resOK,resV,celV,rowV,frzAll,frzT,subV,subL,go_sem,↓dP,↓reduceIte])
  rw [sq_melt]
  exact .refl _
theorem c90 (L : Look) (h : L.fine) (k : Block) (hk : k.fine) (hc : k.cl ≤ k.ch) : Ctr Tryz.prog 124 [k.sv,iS L.b.at_,L.p.sv] (bS (hides L k)):=by
  obtain ⟨a1,a2,a3,a4,a5,a6,b1,b2,b3,b4,b5,b6,b7,b8⟩:=h
  obtain ⟨k1,k2,k3,k4,k5,k6,k7,k8⟩:=hk
  have e1:=mulB (a:=k.ah) (b:=L.p.ac) (A:=40) (B:=12) (by omega) (by omega) (by omega) (by omega)
  have e2:=mulB (a:=k.al) (b:=L.p.ac) (A:=40) (B:=12) (by omega) (by omega) (by omega) (by omega)
  have e3:=mulB (a:=L.b.at_) (b:=L.p.ac) (A:=40) (B:=12) (by omega) (by omega) (by omega) (by omega)
  have e4:=mulB (a:=L.p.al - L.b.at_) (b:=k.cl) (A:=40) (B:=40) (by omega) (by omega) (by omega) (by omega)
  have e5:=mulB (a:=L.p.al - L.b.at_) (b:=min k.ch L.p.ac) (A:=40) (B:=40) (by omega) (by omega) (by omega) (by omega)
  (refine Ctr.mk (fn:=Tryz.f124) rfl rfl rfl rfl rfl Tryz.results124 ?_; dsimp only [args,List.toList_toArray])
  ((first | refine qS rfl rfl ?_ | refine qR rfl rfl ?_); simp only [go_sem,↓dP,↓reduceIte]; with_reducible and_intros; all_goals first | apply qA | exact ⟨⟩ | rfl | (intros; apply qB; first | kernel_rfl | omega) | omega | skip)
  ((first | refine qS rfl rfl ?_ | refine qR rfl rfl ?_); simp only [go_sem,↓dP,↓reduceIte]; with_reducible and_intros; all_goals first | apply qA | exact ⟨⟩ | rfl | (intros; apply qB; first | kernel_rfl | omega) | omega | skip)
  refine Ok.seq ?_
  ((first | refine qS rfl rfl ?_ | refine qR rfl rfl ?_); simp only [go_sem,↓dP,↓reduceIte]; with_reducible and_intros; all_goals first | apply qA | exact ⟨⟩ | rfl | (intros; apply qB; first | kernel_rfl | omega) | omega | skip)
  refine Ok.cond rfl ?_ ?_
  · intro hb
    ((first | refine qS rfl rfl ?_ | refine qR rfl rfl ?_); simp only [go_sem,↓dP,↓reduceIte]; with_reducible and_intros; all_goals first | apply qA | exact ⟨⟩ | rfl | (intros; apply qB; first | kernel_rfl | omega) | omega | skip)
    (refine Ok.ret ?_; (try dsimp only [thenK,blockK,noGotoK]); simp only [toList_mk,List.toList_toArray,retK_ret,retK_normal,resOK,resV,celV,rowV,frzAll,frzT,subV,subL,go_sem,↓dP,↓reduceIte])
    refine DEq.bool ?_
    simp only [decide_eq_true_eq] at hb
    simp only [hides]
    have : ¬ k.cl ≤ L.p.ac:=by omega
    simp [this]
  · intro hb
    (refine Ok.skip ?_; (try dsimp only [thenK,blockK,noGotoK]))
    simp only [decide_eq_false_iff_not] at hb
    ((first | refine qS rfl rfl ?_ | refine qR rfl rfl ?_); simp only [go_sem,↓dP,↓reduceIte]; with_reducible and_intros; all_goals first | apply qA | exact ⟨⟩ | rfl | (intros; apply qB; first | kernel_rfl | omega) | omega | skip)
    ((first | refine qS rfl rfl ?_ | refine qR rfl rfl ?_); simp only [go_sem,↓dP,↓reduceIte]; with_reducible and_intros; all_goals first | apply qA | exact ⟨⟩ | rfl | (intros; apply qB; first | kernel_rfl | omega) | omega | skip)
    (refine Ok.ret ?_; (try dsimp only [thenK,blockK,noGotoK]); simp only [toList_mk,List.toList_toArray,retK_ret,retK_normal,resOK,resV,celV,rowV,frzAll,frzT,subV,subL,go_sem,↓dP,↓reduceIte])
    refine DEq.bool ?_
    simp only [hides,along]
    have : k.cl ≤ L.p.ac:=by omega
    simp [this]
def clearB (L : Look) (n : Int) : Bool:=L.b.ls.all (fun x => readL L x n) && (L.b.ls.take (L.b.ls.length - 1)).all (fun x => apart L x n)
theorem clearB_iff (L : Look) (n : Int) : clearB L n = true ↔ clearL L n:=by
  simp only [clearB,clearL,readL,Bool.and_eq_true,List.all_eq_true,and_assoc]
theorem c124 (L : Look) (hL : L.good) (n : Int) (h0 : 0 ≤ n) (h1 : n ≤ 10000) : Ctr Tryz.prog 102 [L.b.sv,L.p.sv,iS n] (bS (clearB L n)):=by
  have hn5:=hL.n5
  (refine Ctr.mk (fn:=Tryz.f102) rfl rfl rfl rfl rfl Tryz.results102 ?_; dsimp only [args,List.toList_toArray])
  ((first | refine qS rfl rfl ?_ | refine qR rfl rfl ?_); simp only [go_sem,↓dP,↓reduceIte]; with_reducible and_intros; all_goals first | apply qA | exact ⟨⟩ | rfl | (intros; apply qB; first | kernel_rfl | omega) | omega | skip)
  refine Ok.seq ?_
  ((first | refine qS rfl rfl ?_ | refine qR rfl rfl ?_); simp only [go_sem,↓dP,↓reduceIte]; with_reducible and_intros; all_goals first | apply qA | exact ⟨⟩ | rfl | (intros; apply qB; first | kernel_rfl | omega) | omega | skip)
  refine Ok.block ?_
  refine Ok.count L.b.ls.length (fun i => ⟨[(2,iS n),(3,.p 0 0),(4,.p 1 0),(7,iS i)],[boardB L.b,placeB L.p],[]⟩) (fun i => ∀ j,j < i → readL L (L.b.ls.getD j default) n = true ∧ (j + 1 < L.b.ls.length → apart L (L.b.ls.getD j default) n = true)) ⟨fun j hj => by omega,?_⟩ ?_ ?_
  · (refine Sub.of ([0,1]) ([]) ?_ ?_ ?_ rfl rfl <;> simp only [subB,subB1,subT,subT1,newT,subE,subV,subL,go_sem,↓dP,↓reduceIte] <;> (try (repeat' with_reducible apply And.intro)) <;> (try first | exact DEq.refl _ | refine DEq.int ?_ | refine DEq.bool ?_ | omega))
  · intro i hi hJ
    refine Ok.seq ?_; (((first | refine qS rfl rfl ?_ | refine qR rfl rfl ?_); simp only [go_sem,↓dP,↓reduceIte]; with_reducible and_intros; all_goals first | apply qA | exact ⟨⟩ | rfl | (intros; apply qB; first | kernel_rfl | omega) | omega | skip)); refine Ok.cond rfl (fun _ => ?_) (fun hb => by simp at hb; omega); (refine Ok.skip ?_; (try dsimp only [thenK,blockK,noGotoK])); refine Ok.seq ?_; refine Ok.block ?_
    ((first | refine qS rfl rfl ?_ | refine qR rfl rfl ?_); simp only [go_sem,↓dP,↓reduceIte]; with_reducible and_intros; all_goals first | apply qA | exact ⟨⟩ | rfl | (intros; apply qB; first | kernel_rfl | omega) | omega | skip)
    (refine AskI.ret (c89 L hL.fine _ (hL.ls _ (getD_mem hi)) n h0 h1) ?_; simp only [go_sem,↓dP,↓reduceIte]; with_reducible and_intros; all_goals first | apply qA | exact ⟨⟩ | rfl | (intros; apply qB; first | kernel_rfl | omega) | omega | skip)
    (refine AskGI.ret (fun _ => c82 L hL.fine _ (hL.ls _ (getD_mem hi)) n h0 h1) ?_; simp only [go_sem,↓dP,↓reduceIte]; with_reducible and_intros; all_goals first | apply qA | exact ⟨⟩ | rfl | (intros; apply qB; first | kernel_rfl | omega) | omega | skip)
    rw [kind_nz]
    refine Ok.cond rfl ?_ ?_
    · intro hb
      have hF : clearB L n = false:=by
        cases hc : clearB L n with
        | false => rfl
        | true =>
          simp only [clearB,Bool.and_eq_true,List.all_eq_true] at hc
          have r1:=hc.1 _ (getD_mem hi)
          rw [r1] at hb
          by_cases hlt : i + 1 < L.b.ls.length
          · have r2:=hc.2 _ (at_take (l:=L.b.ls) (n:=L.b.ls.length - 1) (i:=i) (by omega) hi)
            rw [r2] at hb
            simp at hb
          · have : ¬ ((i : Int) + 1 < L.b.ls.length):=by omega
            simp [this] at hb
      ((first | refine qS rfl rfl ?_ | refine qR rfl rfl ?_); simp only [go_sem,↓dP,↓reduceIte]; with_reducible and_intros; all_goals first | apply qA | exact ⟨⟩ | rfl | (intros; apply qB; first | kernel_rfl | omega) | omega | skip)
      (refine Ok.ret ?_; (try dsimp only [thenK,blockK,noGotoK]); simp only [toList_mk,List.toList_toArray,retK_ret,retK_normal,resOK,resV,celV,rowV,frzAll,frzT,subV,subL,go_sem,↓dP,↓reduceIte])
      rw [hF]
      exact .refl _
    · intro hb
      have r1 : readL L (L.b.ls.getD i default) n = true:=by
        revert hb
        cases readL L (L.b.ls.getD i default) n <;> simp
      have r2 : i + 1 < L.b.ls.length → apart L (L.b.ls.getD i default) n = true:=by
        intro hlt
        have : (i : Int) + 1 < L.b.ls.length:=by omega
        rw [r1] at hb
        simpa [this] using hb
      (refine Ok.skip ?_; (try dsimp only [thenK,blockK,noGotoK]))
      ((first | refine qS rfl rfl ?_ | refine qR rfl rfl ?_); simp only [go_sem,↓dP,↓reduceIte]; with_reducible and_intros; all_goals first | apply qA | exact ⟨⟩ | rfl | (intros; apply qB; first | kernel_rfl | omega) | omega | skip)
      (try dsimp only [thenK,blockK,noGotoK])
      refine ⟨fun j hj => ?_,?_⟩
      · by_cases e : j = i
        · subst e; exact ⟨r1,r2⟩
        · exact hJ j (by omega)
      (refine Sub.of ([0,1]) ([]) ?_ ?_ ?_ rfl rfl <;> simp only [subB,subB1,subT,subT1,newT,subE,subV,subL,go_sem,↓dP,↓reduceIte] <;> (try (repeat' with_reducible apply And.intro)) <;> (try first | exact DEq.refl _ | refine DEq.int ?_ | refine DEq.bool ?_ | omega))
  · intro hJ
    have hT : clearB L n = true:=by
      simp only [clearB,Bool.and_eq_true,List.all_eq_true]
      refine ⟨fun x hx => ?_,fun x hx => ?_⟩
      · obtain ⟨j,hj,rfl⟩:=mem_at hx
        exact (hJ j hj).1
      · obtain ⟨j,hj,hj2,rfl⟩:=take_at_lt hx
        exact (hJ j hj2).2 (by omega)
    refine Ok.seq ?_; (((first | refine qS rfl rfl ?_ | refine qR rfl rfl ?_); simp only [go_sem,↓dP,↓reduceIte]; with_reducible and_intros; all_goals first | apply qA | exact ⟨⟩ | rfl | (intros; apply qB; first | kernel_rfl | omega) | omega | skip)); refine Ok.cond rfl (fun hb => by simp at hb) (fun _ => ?_); (refine Ok.exit ?_; simp only [thenK_exit,blockK_exit,noGotoK_exit,thenK_normal,blockK_normal,noGotoK_normal,↓reduceIte,Nat.reduceEqDiff])
    ((first | refine qS rfl rfl ?_ | refine qR rfl rfl ?_); simp only [go_sem,↓dP,↓reduceIte]; with_reducible and_intros; all_goals first | apply qA | exact ⟨⟩ | rfl | (intros; apply qB; first | kernel_rfl | omega) | omega | skip)
    (refine Ok.ret ?_; (try dsimp only [thenK,blockK,noGotoK]); simp only [toList_mk,List.toList_toArray,retK_ret,retK_normal,resOK,resV,celV,rowV,frzAll,frzT,subV,subL,go_sem,↓dP,↓reduceIte])
    rw [hT]
    exact .refl _
theorem c41 (L : Look) (hL : L.good) (hc : ∀ k ∈ L.s.ks,k.cl ≤ k.ch) : Ctr Tryz.prog 103 [L.s.sv,L.b.sv,L.p.sv] (.d (slD 1 natD (hiddenL L))):=by
  have hk4:=hL.k4
  (refine Ctr.mk (fn:=Tryz.f103) rfl rfl rfl rfl rfl Tryz.results103 ?_; dsimp only [args,List.toList_toArray])
  ((first | refine qS rfl rfl ?_ | refine qR rfl rfl ?_); simp only [go_sem,↓dP,↓reduceIte]; with_reducible and_intros; all_goals first | apply qA | exact ⟨⟩ | rfl | (intros; apply qB; first | kernel_rfl | omega) | omega | skip)
  ((first | refine qS rfl rfl ?_ | refine qR rfl rfl ?_); simp only [go_sem,↓dP,↓reduceIte]; with_reducible and_intros; all_goals first | apply qA | exact ⟨⟩ | rfl | (intros; apply qB; first | kernel_rfl | omega) | omega | skip)
  refine Ok.seq ?_
  ((first | refine qS rfl rfl ?_ | refine qR rfl rfl ?_); simp only [go_sem,↓dP,↓reduceIte]; with_reducible and_intros; all_goals first | apply qA | exact ⟨⟩ | rfl | (intros; apply qB; first | kernel_rfl | omega) | omega | skip)
  refine Ok.block ?_
  generalize hq : (fun j => hides L (L.s.ks.getD j default)) = q
  have hFL : hiddenL L = (List.range L.s.ks.length).filter q:=by rw [← hq]; rfl
  rw [hFL]
  refine Ok.count L.s.ks.length (fun j => ⟨[(3,.p 0 0),(4,.p 1 0),(5,.p 2 0),(7,.tk 0),(8,iS j)],[streetB L.s,boardB L.b,placeB L.p],[ownD 3 1 natD ((List.range j).filter q)]⟩) (fun _ => True) ⟨trivial,?_⟩ ?_ ?_
  · (refine Sub.of ([0,1,2]) ([none]) ?_ ?_ ?_ rfl rfl <;> simp only [subB,subB1,subT,subT1,newT,subE,subV,subL,go_sem,↓dP,↓reduceIte] <;> (try (repeat' with_reducible apply And.intro)) <;> (try first | exact DEq.refl _ | refine DEq.int ?_ | refine DEq.bool ?_ | omega))
    simp
  · intro j hj _
    have hlen:=filter_range_len q j
    have hsn:=filter_range q j
    refine Ok.seq ?_; (((first | refine qS rfl rfl ?_ | refine qR rfl rfl ?_); simp only [go_sem,↓dP,↓reduceIte]; with_reducible and_intros; all_goals first | apply qA | exact ⟨⟩ | rfl | (intros; apply qB; first | kernel_rfl | omega) | omega | skip)); refine Ok.cond rfl (fun _ => ?_) (fun hb => by simp at hb; omega); (refine Ok.skip ?_; (try dsimp only [thenK,blockK,noGotoK])); refine Ok.seq ?_; refine Ok.block ?_
    ((first | refine qS rfl rfl ?_ | refine qR rfl rfl ?_); simp only [go_sem,↓dP,↓reduceIte]; with_reducible and_intros; all_goals first | apply qA | exact ⟨⟩ | rfl | (intros; apply qB; first | kernel_rfl | omega) | omega | skip)
    (refine AskI.ret (c90 L hL.fine _ (hL.ks _ (getD_mem hj)) (hc _ (getD_mem hj))) ?_; simp only [go_sem,↓dP,↓reduceIte]; with_reducible and_intros; all_goals first | apply qA | exact ⟨⟩ | rfl | (intros; apply qB; first | kernel_rfl | omega) | omega | skip)
    refine Ok.cond rfl ?_ ?_
    · intro hh
      have hqj : q j = true:=by rw [← hq]; exact hh
      rw [hqj,if_pos rfl] at hsn
      ((first | refine qS rfl rfl ?_ | refine qR rfl rfl ?_); simp only [go_sem,↓dP,↓reduceIte]; with_reducible and_intros; all_goals first | apply qA | exact ⟨⟩ | rfl | (intros; apply qB; first | kernel_rfl | omega) | omega | skip)
      (try dsimp only [thenK,blockK,noGotoK])
      ((first | refine qS rfl rfl ?_ | refine qR rfl rfl ?_); simp only [go_sem,↓dP,↓reduceIte]; with_reducible and_intros; all_goals first | apply qA | exact ⟨⟩ | rfl | (intros; apply qB; first | kernel_rfl | omega) | omega | skip)
      (try dsimp only [thenK,blockK,noGotoK])
      refine ⟨trivial,?_⟩
      (refine Sub.of ([0,1,2]) ([some 1]) ?_ ?_ ?_ rfl rfl <;> simp only [subB,subB1,subT,subT1,newT,subE,subV,subL,go_sem,↓dP,↓reduceIte] <;> (try (repeat' with_reducible apply And.intro)) <;> (try first | exact DEq.refl _ | refine DEq.int ?_ | refine DEq.bool ?_ | omega))
      · rw [← List.range_succ,hsn]; simp
      · rw [← List.range_succ,hsn]
        exact snoc_D (fun c hc => by have : c = 0:=by omega
                                     subst this; rfl)
    · intro hh
      have hqj : q j = false:=by rw [← hq]; exact hh
      rw [hqj,if_neg (by simp),List.append_nil] at hsn
      (refine Ok.skip ?_; (try dsimp only [thenK,blockK,noGotoK]))
      (try dsimp only [thenK,blockK,noGotoK])
      ((first | refine qS rfl rfl ?_ | refine qR rfl rfl ?_); simp only [go_sem,↓dP,↓reduceIte]; with_reducible and_intros; all_goals first | apply qA | exact ⟨⟩ | rfl | (intros; apply qB; first | kernel_rfl | omega) | omega | skip)
      (try dsimp only [thenK,blockK,noGotoK])
      refine ⟨trivial,?_⟩
      rw [hsn]
      (refine Sub.of ([0,1,2]) ([some 0]) ?_ ?_ ?_ rfl rfl <;> simp only [subB,subB1,subT,subT1,newT,subE,subV,subL,go_sem,↓dP,↓reduceIte] <;> (try (repeat' with_reducible apply And.intro)) <;> (try first | exact DEq.refl _ | refine DEq.int ?_ | refine DEq.bool ?_ | omega))
      exact fun _ _ _ _ => DEq.refl _
  · intro _
    refine Ok.seq ?_; (((first | refine qS rfl rfl ?_ | refine qR rfl rfl ?_); simp only [go_sem,↓dP,↓reduceIte]; with_reducible and_intros; all_goals first | apply qA | exact ⟨⟩ | rfl | (intros; apply qB; first | kernel_rfl | omega) | omega | skip)); refine Ok.cond rfl (fun hb => by simp at hb) (fun _ => ?_); (refine Ok.exit ?_; simp only [thenK_exit,blockK_exit,noGotoK_exit,thenK_normal,blockK_normal,noGotoK_normal,↓reduceIte,Nat.reduceEqDiff])
    ((first | refine qS rfl rfl ?_ | refine qR rfl rfl ?_); simp only [go_sem,↓dP,↓reduceIte]; with_reducible and_intros; all_goals first | apply qA | exact ⟨⟩ | rfl | (intros; apply qB; first | kernel_rfl | omega) | omega | skip)
    (refine Ok.ret ?_; (try dsimp only [thenK,blockK,noGotoK]); simp only [toList_mk,List.toList_toArray,retK_ret,retK_normal,resOK,resV,celV,rowV,frzAll,frzT,subV,subL,go_sem,↓dP,↓reduceIte])
    ((repeat' with_reducible apply And.intro) <;> (first | exact DEq.refl _ | refine DEq.int ?_ | refine DEq.bool ?_ | skip))
theorem hidden_none (L : Look) : ((hiddenL L).length == 0) = true ↔ ∀ k ∈ L.s.ks,hides L k = false:=by
  simp only [beq_iff_eq,List.length_eq_zero_iff,hiddenL,List.filter_eq_nil_iff,List.mem_range,Bool.not_eq_true]
  constructor
  · intro h k hk
    obtain ⟨i,hi,rfl⟩:=mem_at hk
    exact h i hi
  · intro h i hi
    exact h _ (getD_mem hi)
theorem surely_eq (L : Look) : surelyL L = (clearB L (L.s.el * L.s.ll) && ((hiddenL L).length == 0)):=by
  rw [Bool.eq_iff_iff,surely_iff,Bool.and_eq_true,clearB_iff,hidden_none,and_comm]
theorem hidden_lt (L : Look) {j : Nat} (h : j ∈ hiddenL L) : j < L.s.ks.length:=by
  simp only [hiddenL,List.mem_filter,List.mem_range] at h
  exact h.1
theorem may_eq (L : Look) : mayL L = (!((hiddenL L).any (fun j => (L.s.ks.getD j default).sure)) && clearB L (L.s.eh * L.s.lh)):=by
  rw [Bool.eq_iff_iff,may_iff,Bool.and_eq_true,clearB_iff]
  refine and_congr ?_ Iff.rfl
  simp only [Bool.not_eq_true',List.any_eq_false,hiddenL,List.mem_filter,List.mem_range,Bool.not_eq_true]
  constructor
  · rintro h j ⟨hj,hh⟩
    have:=h _ (getD_mem hj)
    rw [hh,Bool.and_true] at this
    exact this
  · intro h k hk
    obtain ⟨i,hi,rfl⟩:=mem_at hk
    cases hh : hides L (L.s.ks.getD i default) with
    | false => simp
    | true => rw [h i ⟨hi,hh⟩]; rfl
theorem hidden_len (L : Look) : (hiddenL L).length ≤ L.s.ks.length:=filter_range_len _ _
theorem c98 (L : Look) (hL : L.good) (hc : ∀ k ∈ L.s.ks,k.cl ≤ k.ch) : Ctr Tryz.prog 66 [L.s.sv,L.b.sv,L.p.sv] (bS (surelyL L)):=by
  obtain ⟨p0,p1⟩:=pow_least hL.fine
  have hl:=hidden_len L
  have hk4:=hL.k4
  (refine Ctr.mk (fn:=Tryz.f66) rfl rfl rfl rfl rfl Tryz.results66 ?_; dsimp only [args,List.toList_toArray])
  ((first | refine qS rfl rfl ?_ | refine qR rfl rfl ?_); simp only [go_sem,↓dP,↓reduceIte]; with_reducible and_intros; all_goals first | apply qA | exact ⟨⟩ | rfl | (intros; apply qB; first | kernel_rfl | omega) | omega | skip)
  ((first | refine qS rfl rfl ?_ | refine qR rfl rfl ?_); simp only [go_sem,↓dP,↓reduceIte]; with_reducible and_intros; all_goals first | apply qA | exact ⟨⟩ | rfl | (intros; apply qB; first | kernel_rfl | omega) | omega | skip)
  (refine AskI.ret (c124 L hL _ p0 p1) ?_; simp only [go_sem,↓dP,↓reduceIte]; with_reducible and_intros; all_goals first | apply qA | exact ⟨⟩ | rfl | (intros; apply qB; first | kernel_rfl | omega) | omega | skip)
  (refine AskGI.ret (fun _ => c41 L hL hc) ?_; simp only [go_sem,↓dP,↓reduceIte]; with_reducible and_intros; all_goals first | apply qA | exact ⟨⟩ | rfl | (intros; apply qB; first | kernel_rfl | omega) | omega | skip)
  (refine Ok.ret ?_; (try dsimp only [thenK,blockK,noGotoK]); simp only [toList_mk,List.toList_toArray,retK_ret,retK_normal,resOK,resV,celV,rowV,frzAll,frzT,subV,subL,go_sem,↓dP,↓reduceIte])
  refine DEq.bool ?_
  rw [surely_eq]
  cases clearB L (L.s.el * L.s.ll) <;> cases hiddenL L <;> simp <;> omega
theorem c103 (L : Look) (hL : L.good) (hc : ∀ k ∈ L.s.ks,k.cl ≤ k.ch) : Ctr Tryz.prog 67 [L.s.sv,L.b.sv,L.p.sv] (bS (mayL L)):=by
  obtain ⟨p0,p1⟩:=pow_most hL.fine
  have hl:=hidden_len L
  have hk4:=hL.k4
  (refine Ctr.mk (fn:=Tryz.f67) rfl rfl rfl rfl rfl Tryz.results67 ?_; dsimp only [args,List.toList_toArray])
  ((first | refine qS rfl rfl ?_ | refine qR rfl rfl ?_); simp only [go_sem,↓dP,↓reduceIte]; with_reducible and_intros; all_goals first | apply qA | exact ⟨⟩ | rfl | (intros; apply qB; first | kernel_rfl | omega) | omega | skip)
  ((first | refine qS rfl rfl ?_ | refine qR rfl rfl ?_); simp only [go_sem,↓dP,↓reduceIte]; with_reducible and_intros; all_goals first | apply qA | exact ⟨⟩ | rfl | (intros; apply qB; first | kernel_rfl | omega) | omega | skip)
  (refine AskI.ret (c41 L hL hc) ?_; simp only [go_sem,↓dP,↓reduceIte]; with_reducible and_intros; all_goals first | apply qA | exact ⟨⟩ | rfl | (intros; apply qB; first | kernel_rfl | omega) | omega | skip)
  refine Ok.seq ?_
  ((first | refine qS rfl rfl ?_ | refine qR rfl rfl ?_); simp only [go_sem,↓dP,↓reduceIte]; with_reducible and_intros; all_goals first | apply qA | exact ⟨⟩ | rfl | (intros; apply qB; first | kernel_rfl | omega) | omega | skip)
  refine Ok.block ?_
  refine Ok.count (hiddenL L).length (fun i => ⟨[(3,.p 0 0),(4,.p 1 0),(5,.p 2 0),(7,.d (slD 1 natD (hiddenL L))),(8,iS i)],[streetB L.s,boardB L.b,placeB L.p],[]⟩) (fun i => ∀ j ∈ (hiddenL L).take i,(L.s.ks.getD j default).sure = false) ⟨fun x hx => by simp at hx,?_⟩ ?_ ?_
  · (refine Sub.of ([0,1,2]) ([]) ?_ ?_ ?_ rfl rfl <;> simp only [subB,subB1,subT,subT1,newT,subE,subV,subL,go_sem,↓dP,↓reduceIte] <;> (try (repeat' with_reducible apply And.intro)) <;> (try first | exact DEq.refl _ | refine DEq.int ?_ | refine DEq.bool ?_ | omega))
  · intro i hi h0
    have hlt:=hidden_lt L (getD_mem hi)
    refine Ok.seq ?_; (((first | refine qS rfl rfl ?_ | refine qR rfl rfl ?_); simp only [go_sem,↓dP,↓reduceIte]; with_reducible and_intros; all_goals first | apply qA | exact ⟨⟩ | rfl | (intros; apply qB; first | kernel_rfl | omega) | omega | skip)); refine Ok.cond rfl (fun _ => ?_) (fun hb => by simp at hb; omega); (refine Ok.skip ?_; (try dsimp only [thenK,blockK,noGotoK])); refine Ok.seq ?_; refine Ok.block ?_
    ((first | refine qS rfl rfl ?_ | refine qR rfl rfl ?_); simp only [go_sem,↓dP,↓reduceIte]; with_reducible and_intros; all_goals first | apply qA | exact ⟨⟩ | rfl | (intros; apply qB; first | kernel_rfl | omega) | omega | skip)
    refine Ok.cond rfl ?_ ?_
    · intro hx
      ((first | refine qS rfl rfl ?_ | refine qR rfl rfl ?_); simp only [go_sem,↓dP,↓reduceIte]; with_reducible and_intros; all_goals first | apply qA | exact ⟨⟩ | rfl | (intros; apply qB; first | kernel_rfl | omega) | omega | skip)
      (refine Ok.ret ?_; (try dsimp only [thenK,blockK,noGotoK]); simp only [toList_mk,List.toList_toArray,retK_ret,retK_normal,resOK,resV,celV,rowV,frzAll,frzT,subV,subL,go_sem,↓dP,↓reduceIte])
      refine DEq.bool ?_
      have : (hiddenL L).any (fun j => (L.s.ks.getD j default).sure) = true:=List.any_eq_true.2 ⟨_,getD_mem hi,hx⟩
      rw [may_eq,this]
      rfl
    · intro hx
      (refine Ok.skip ?_; (try dsimp only [thenK,blockK,noGotoK]))
      ((first | refine qS rfl rfl ?_ | refine qR rfl rfl ?_); simp only [go_sem,↓dP,↓reduceIte]; with_reducible and_intros; all_goals first | apply qA | exact ⟨⟩ | rfl | (intros; apply qB; first | kernel_rfl | omega) | omega | skip)
      (try dsimp only [thenK,blockK,noGotoK])
      refine ⟨no_step (q:=fun j => (L.s.ks.getD j default).sure) hi h0 hx,?_⟩
      (refine Sub.of ([0,1,2]) ([]) ?_ ?_ ?_ rfl rfl <;> simp only [subB,subB1,subT,subT1,newT,subE,subV,subL,go_sem,↓dP,↓reduceIte] <;> (try (repeat' with_reducible apply And.intro)) <;> (try first | exact DEq.refl _ | refine DEq.int ?_ | refine DEq.bool ?_ | omega))
  · intro h0
    have : (hiddenL L).any (fun j => (L.s.ks.getD j default).sure) = false:=List.any_eq_false.2 (fun x hx => by
      show ¬ ((L.s.ks.getD x default).sure = true)
      rw [h0 x (by simpa using hx)]; simp)
    refine Ok.seq ?_; (((first | refine qS rfl rfl ?_ | refine qR rfl rfl ?_); simp only [go_sem,↓dP,↓reduceIte]; with_reducible and_intros; all_goals first | apply qA | exact ⟨⟩ | rfl | (intros; apply qB; first | kernel_rfl | omega) | omega | skip)); refine Ok.cond rfl (fun hb => by simp at hb) (fun _ => ?_); (refine Ok.exit ?_; simp only [thenK_exit,blockK_exit,noGotoK_exit,thenK_normal,blockK_normal,noGotoK_normal,↓reduceIte,Nat.reduceEqDiff])
    ((first | refine qS rfl rfl ?_ | refine qR rfl rfl ?_); simp only [go_sem,↓dP,↓reduceIte]; with_reducible and_intros; all_goals first | apply qA | exact ⟨⟩ | rfl | (intros; apply qB; first | kernel_rfl | omega) | omega | skip)
    (refine AskI.ret (c124 L hL _ p0 p1) ?_; simp only [go_sem,↓dP,↓reduceIte]; with_reducible and_intros; all_goals first | apply qA | exact ⟨⟩ | rfl | (intros; apply qB; first | kernel_rfl | omega) | omega | skip)
    (refine Ok.ret ?_; (try dsimp only [thenK,blockK,noGotoK]); simp only [toList_mk,List.toList_toArray,retK_ret,retK_normal,resOK,resV,celV,rowV,frzAll,frzT,subV,subL,go_sem,↓dP,↓reduceIte])
    refine DEq.bool ?_
    simp only [may_eq,this,Bool.not_false,Bool.true_and]
theorem c88 (u v : Bool) : Ctr Tryz.prog 65 [bS u,bS v] (iS (word u v)):=by
  (refine Ctr.mk (fn:=Tryz.f65) rfl rfl rfl rfl rfl Tryz.results65 ?_; dsimp only [args,List.toList_toArray])
  ((first | refine qS rfl rfl ?_ | refine qR rfl rfl ?_); simp only [go_sem,↓dP,↓reduceIte]; with_reducible and_intros; all_goals first | apply qA | exact ⟨⟩ | rfl | (intros; apply qB; first | kernel_rfl | omega) | omega | skip)
  refine Ok.seq ?_
  ((first | refine qS rfl rfl ?_ | refine qR rfl rfl ?_); simp only [go_sem,↓dP,↓reduceIte]; with_reducible and_intros; all_goals first | apply qA | exact ⟨⟩ | rfl | (intros; apply qB; first | kernel_rfl | omega) | omega | skip)
  refine Ok.cond rfl ?_ ?_
  · intro hu
    ((first | refine qS rfl rfl ?_ | refine qR rfl rfl ?_); simp only [go_sem,↓dP,↓reduceIte]; with_reducible and_intros; all_goals first | apply qA | exact ⟨⟩ | rfl | (intros; apply qB; first | kernel_rfl | omega) | omega | skip)
    (refine Ok.ret ?_; (try dsimp only [thenK,blockK,noGotoK]); simp only [toList_mk,List.toList_toArray,retK_ret,retK_normal,resOK,resV,celV,rowV,frzAll,frzT,subV,subL,go_sem,↓dP,↓reduceIte])
    simp only [word,hu,if_true]
    exact .refl _
  · intro hu
    (refine Ok.skip ?_; (try dsimp only [thenK,blockK,noGotoK]))
    refine Ok.seq ?_
    ((first | refine qS rfl rfl ?_ | refine qR rfl rfl ?_); simp only [go_sem,↓dP,↓reduceIte]; with_reducible and_intros; all_goals first | apply qA | exact ⟨⟩ | rfl | (intros; apply qB; first | kernel_rfl | omega) | omega | skip)
    refine Ok.cond rfl ?_ ?_
    · intro hv
      ((first | refine qS rfl rfl ?_ | refine qR rfl rfl ?_); simp only [go_sem,↓dP,↓reduceIte]; with_reducible and_intros; all_goals first | apply qA | exact ⟨⟩ | rfl | (intros; apply qB; first | kernel_rfl | omega) | omega | skip)
      (refine Ok.ret ?_; (try dsimp only [thenK,blockK,noGotoK]); simp only [toList_mk,List.toList_toArray,retK_ret,retK_normal,resOK,resV,celV,rowV,frzAll,frzT,subV,subL,go_sem,↓dP,↓reduceIte])
      simp only [word,hu,hv,if_true]
      exact .refl _
    · intro hv
      (refine Ok.skip ?_; (try dsimp only [thenK,blockK,noGotoK]))
      ((first | refine qS rfl rfl ?_ | refine qR rfl rfl ?_); simp only [go_sem,↓dP,↓reduceIte]; with_reducible and_intros; all_goals first | apply qA | exact ⟨⟩ | rfl | (intros; apply qB; first | kernel_rfl | omega) | omega | skip)
      (refine Ok.ret ?_; (try dsimp only [thenK,blockK,noGotoK]); simp only [toList_mk,List.toList_toArray,retK_ret,retK_normal,resOK,resV,celV,rowV,frzAll,frzT,subV,subL,go_sem,↓dP,↓reduceIte])
      simp only [word,hu,hv]
      exact .refl _
theorem c62 (L : Look) (hL : L.good) (hc : ∀ k ∈ L.s.ks,k.cl ≤ k.ch) : Ctr Tryz.prog 32 [L.s.sv,L.b.sv,L.p.sv] (iS (word (surelyL L) (mayL L))):=by
  (refine Ctr.mk (fn:=Tryz.f32) rfl rfl rfl rfl rfl Tryz.results32 ?_; dsimp only [args,List.toList_toArray])
  ((first | refine qS rfl rfl ?_ | refine qR rfl rfl ?_); simp only [go_sem,↓dP,↓reduceIte]; with_reducible and_intros; all_goals first | apply qA | exact ⟨⟩ | rfl | (intros; apply qB; first | kernel_rfl | omega) | omega | skip)
  ((first | refine qS rfl rfl ?_ | refine qR rfl rfl ?_); simp only [go_sem,↓dP,↓reduceIte]; with_reducible and_intros; all_goals first | apply qA | exact ⟨⟩ | rfl | (intros; apply qB; first | kernel_rfl | omega) | omega | skip)
  (refine AskI.ret (c98 L hL hc) ?_; simp only [go_sem,↓dP,↓reduceIte]; with_reducible and_intros; all_goals first | apply qA | exact ⟨⟩ | rfl | (intros; apply qB; first | kernel_rfl | omega) | omega | skip)
  (refine AskI.ret (c103 L hL hc) ?_; simp only [go_sem,↓dP,↓reduceIte]; with_reducible and_intros; all_goals first | apply qA | exact ⟨⟩ | rfl | (intros; apply qB; first | kernel_rfl | omega) | omega | skip)
  (refine AskI.ret (c88 _ _) ?_; simp only [go_sem,↓dP,↓reduceIte]; with_reducible and_intros; all_goals first | apply qA | exact ⟨⟩ | rfl | (intros; apply qB; first | kernel_rfl | omega) | omega | skip)
  (refine Ok.ret ?_; (try dsimp only [thenK,blockK,noGotoK]); simp only [toList_mk,List.toList_toArray,retK_ret,retK_normal,resOK,resV,celV,rowV,frzAll,frzT,subV,subL,go_sem,↓dP,↓reduceIte])
  exact .refl _
end Go.Proofs.Sight
namespace Go.Proofs.Sight
open Go Go.RX Go.Proofs
set_option maxRecDepth 10000
theorem ints_D (ys : List Int) : DEq (.sl 1 ys.length (fun i j => dget (ys.map iD) (i * 1 + j))) (slD 1 intD ys) :=
  DEq.sl rfl (fun i j hi hj => .of_eq (by
    have : j = 0:=by omega
    subst this
    show (ys.map iD).getD (i * 1 + 0) .nilI = iD (ys.getD i default)
    simp only [Nat.mul_one,Nat.add_zero,List.getD_eq_getElem?_getD,List.getElem?_map,List.getElem?_eq_getElem hi]
    rfl))
theorem nats_D (l : List Nat) : DEq (slD 1 natD l) (slD 1 intD (l.map Int.ofNat)) :=
  DEq.sl (by simp) (fun i j hi hj => .of_eq (by
    have : j = 0:=by omega
    subst this
    show iD ((l.getD i default : Nat) : Int) = iD ((l.map Int.ofNat).getD i default)
    simp only [List.getD_eq_getElem?_getD,List.getElem?_map,List.getElem?_eq_getElem hi]
    rfl))
theorem c37 (a b : List Int) (ha : a.length < 1000000) (hb' : b.length < 1000000) : Ctr Tryz.prog 48 [.d (slD 1 intD a),.d (slD 1 intD b)] (bS (a == b)):=by
  (refine Ctr.mk (fn:=Tryz.f48) rfl rfl rfl rfl rfl Tryz.results48 ?_; dsimp only [args,List.toList_toArray])
  ((first | refine qS rfl rfl ?_ | refine qR rfl rfl ?_); simp only [go_sem,↓dP,↓reduceIte]; with_reducible and_intros; all_goals first | apply qA | exact ⟨⟩ | rfl | (intros; apply qB; first | kernel_rfl | omega) | omega | skip)
  refine Ok.seq ?_
  ((first | refine qS rfl rfl ?_ | refine qR rfl rfl ?_); simp only [go_sem,↓dP,↓reduceIte]; with_reducible and_intros; all_goals first | apply qA | exact ⟨⟩ | rfl | (intros; apply qB; first | kernel_rfl | omega) | omega | skip)
  refine Ok.cond rfl ?_ ?_
  · intro hb
    have hF : (a == b) = false:=by
      rw [beq_eq_false_iff_ne]
      intro h
      rw [h] at hb
      simp at hb
    ((first | refine qS rfl rfl ?_ | refine qR rfl rfl ?_); simp only [go_sem,↓dP,↓reduceIte]; with_reducible and_intros; all_goals first | apply qA | exact ⟨⟩ | rfl | (intros; apply qB; first | kernel_rfl | omega) | omega | skip)
    (refine Ok.ret ?_; (try dsimp only [thenK,blockK,noGotoK]); simp only [toList_mk,List.toList_toArray,retK_ret,retK_normal,resOK,resV,celV,rowV,frzAll,frzT,subV,subL,go_sem,↓dP,↓reduceIte])
    rw [hF]
    exact .refl _
  intro hb
  have hlen : a.length = b.length:=by simp at hb; omega
  (refine Ok.skip ?_; (try dsimp only [thenK,blockK,noGotoK]))
  refine Ok.seq ?_
  ((first | refine qS rfl rfl ?_ | refine qR rfl rfl ?_); simp only [go_sem,↓dP,↓reduceIte]; with_reducible and_intros; all_goals first | apply qA | exact ⟨⟩ | rfl | (intros; apply qB; first | kernel_rfl | omega) | omega | skip)
  refine Ok.block ?_
  refine Ok.count a.length (fun i => ⟨[(0,.d (slD 1 intD a)),(1,.d (slD 1 intD b)),(5,iS i)],[],[]⟩) (fun i => ∀ j,j < i → a.getD j default = b.getD j default) ⟨fun j hj => by omega,?_⟩ ?_ ?_
  · (refine Sub.of ([]) ([]) ?_ ?_ ?_ rfl rfl <;> simp only [subB,subB1,subT,subT1,newT,subE,subV,subL,go_sem,↓dP,↓reduceIte] <;> (try (repeat' with_reducible apply And.intro)) <;> (try first | exact DEq.refl _ | refine DEq.int ?_ | refine DEq.bool ?_ | omega))
  · intro i hi hJ
    refine Ok.seq ?_; (((first | refine qS rfl rfl ?_ | refine qR rfl rfl ?_); simp only [go_sem,↓dP,↓reduceIte]; with_reducible and_intros; all_goals first | apply qA | exact ⟨⟩ | rfl | (intros; apply qB; first | kernel_rfl | omega) | omega | skip)); refine Ok.cond rfl (fun _ => ?_) (fun hb => by simp at hb; omega); (refine Ok.skip ?_; (try dsimp only [thenK,blockK,noGotoK])); refine Ok.seq ?_; refine Ok.block ?_
    ((first | refine qS rfl rfl ?_ | refine qR rfl rfl ?_); simp only [go_sem,↓dP,↓reduceIte]; with_reducible and_intros; all_goals first | apply qA | exact ⟨⟩ | rfl | (intros; apply qB; first | kernel_rfl | omega) | omega | skip)
    refine Ok.cond rfl ?_ ?_
    · intro hx
      have hne : a.getD i default ≠ b.getD i default:=by simpa using hx
      have hF : (a == b) = false:=by
        rw [beq_eq_false_iff_ne]
        intro h
        rw [h] at hne
        exact hne rfl
      ((first | refine qS rfl rfl ?_ | refine qR rfl rfl ?_); simp only [go_sem,↓dP,↓reduceIte]; with_reducible and_intros; all_goals first | apply qA | exact ⟨⟩ | rfl | (intros; apply qB; first | kernel_rfl | omega) | omega | skip)
      (refine Ok.ret ?_; (try dsimp only [thenK,blockK,noGotoK]); simp only [toList_mk,List.toList_toArray,retK_ret,retK_normal,resOK,resV,celV,rowV,frzAll,frzT,subV,subL,go_sem,↓dP,↓reduceIte])
      rw [hF]
      exact .refl _
    · intro hx
      have he : a.getD i default = b.getD i default:=by simpa using hx
      (refine Ok.skip ?_; (try dsimp only [thenK,blockK,noGotoK]))
      ((first | refine qS rfl rfl ?_ | refine qR rfl rfl ?_); simp only [go_sem,↓dP,↓reduceIte]; with_reducible and_intros; all_goals first | apply qA | exact ⟨⟩ | rfl | (intros; apply qB; first | kernel_rfl | omega) | omega | skip)
      (try dsimp only [thenK,blockK,noGotoK])
      refine ⟨fun j hj => ?_,?_⟩
      · by_cases e : j = i
        · subst e; exact he
        · exact hJ j (by omega)
      (refine Sub.of ([]) ([]) ?_ ?_ ?_ rfl rfl <;> simp only [subB,subB1,subT,subT1,newT,subE,subV,subL,go_sem,↓dP,↓reduceIte] <;> (try (repeat' with_reducible apply And.intro)) <;> (try first | exact DEq.refl _ | refine DEq.int ?_ | refine DEq.bool ?_ | omega))
  · intro hJ
    have hT : (a == b) = true:=by
      rw [beq_iff_eq]
      refine List.ext_getElem hlen (fun j h1 h2 => ?_)
      have:=hJ j h1
      rwa [getD_lt h1,getD_lt h2] at this
    refine Ok.seq ?_; (((first | refine qS rfl rfl ?_ | refine qR rfl rfl ?_); simp only [go_sem,↓dP,↓reduceIte]; with_reducible and_intros; all_goals first | apply qA | exact ⟨⟩ | rfl | (intros; apply qB; first | kernel_rfl | omega) | omega | skip)); refine Ok.cond rfl (fun hb => by simp at hb) (fun _ => ?_); (refine Ok.exit ?_; simp only [thenK_exit,blockK_exit,noGotoK_exit,thenK_normal,blockK_normal,noGotoK_normal,↓reduceIte,Nat.reduceEqDiff])
    ((first | refine qS rfl rfl ?_ | refine qR rfl rfl ?_); simp only [go_sem,↓dP,↓reduceIte]; with_reducible and_intros; all_goals first | apply qA | exact ⟨⟩ | rfl | (intros; apply qB; first | kernel_rfl | omega) | omega | skip)
    (refine Ok.ret ?_; (try dsimp only [thenK,blockK,noGotoK]); simp only [toList_mk,List.toList_toArray,retK_ret,retK_normal,resOK,resV,celV,rowV,frzAll,frzT,subV,subL,go_sem,↓dP,↓reduceIte])
    rw [hT]
    exact .refl _
theorem c40 (a b : List Int) (ha : a.length < 1000000) (hb' : b.length < 1000000) : Ctr Tryz.prog 29 [.d (slD 1 intD a),.d (slD 1 intD b)] (bS (a == b)):=by
  (refine Ctr.mk (fn:=Tryz.f29) rfl rfl rfl rfl rfl Tryz.results29 ?_; dsimp only [args,List.toList_toArray])
  ((first | refine qS rfl rfl ?_ | refine qR rfl rfl ?_); simp only [go_sem,↓dP,↓reduceIte]; with_reducible and_intros; all_goals first | apply qA | exact ⟨⟩ | rfl | (intros; apply qB; first | kernel_rfl | omega) | omega | skip)
  refine Ok.seq ?_
  ((first | refine qS rfl rfl ?_ | refine qR rfl rfl ?_); simp only [go_sem,↓dP,↓reduceIte]; with_reducible and_intros; all_goals first | apply qA | exact ⟨⟩ | rfl | (intros; apply qB; first | kernel_rfl | omega) | omega | skip)
  refine Ok.cond rfl ?_ ?_
  · intro hb
    have hF : (a == b) = false:=by
      rw [beq_eq_false_iff_ne]
      intro h
      rw [h] at hb
      simp at hb
    ((first | refine qS rfl rfl ?_ | refine qR rfl rfl ?_); simp only [go_sem,↓dP,↓reduceIte]; with_reducible and_intros; all_goals first | apply qA | exact ⟨⟩ | rfl | (intros; apply qB; first | kernel_rfl | omega) | omega | skip)
    (refine Ok.ret ?_; (try dsimp only [thenK,blockK,noGotoK]); simp only [toList_mk,List.toList_toArray,retK_ret,retK_normal,resOK,resV,celV,rowV,frzAll,frzT,subV,subL,go_sem,↓dP,↓reduceIte])
    rw [hF]
    exact .refl _
  intro hb
  have hlen : a.length = b.length:=by simp at hb; omega
  (refine Ok.skip ?_; (try dsimp only [thenK,blockK,noGotoK]))
  refine Ok.seq ?_
  ((first | refine qS rfl rfl ?_ | refine qR rfl rfl ?_); simp only [go_sem,↓dP,↓reduceIte]; with_reducible and_intros; all_goals first | apply qA | exact ⟨⟩ | rfl | (intros; apply qB; first | kernel_rfl | omega) | omega | skip)
  refine Ok.block ?_
  refine Ok.count a.length (fun i => ⟨[(0,.d (slD 1 intD a)),(1,.d (slD 1 intD b)),(5,iS i)],[],[]⟩) (fun i => ∀ j,j < i → a.getD j default = b.getD j default) ⟨fun j hj => by omega,?_⟩ ?_ ?_
  · (refine Sub.of ([]) ([]) ?_ ?_ ?_ rfl rfl <;> simp only [subB,subB1,subT,subT1,newT,subE,subV,subL,go_sem,↓dP,↓reduceIte] <;> (try (repeat' with_reducible apply And.intro)) <;> (try first | exact DEq.refl _ | refine DEq.int ?_ | refine DEq.bool ?_ | omega))
  · intro i hi hJ
    refine Ok.seq ?_; (((first | refine qS rfl rfl ?_ | refine qR rfl rfl ?_); simp only [go_sem,↓dP,↓reduceIte]; with_reducible and_intros; all_goals first | apply qA | exact ⟨⟩ | rfl | (intros; apply qB; first | kernel_rfl | omega) | omega | skip)); refine Ok.cond rfl (fun _ => ?_) (fun hb => by simp at hb; omega); (refine Ok.skip ?_; (try dsimp only [thenK,blockK,noGotoK])); refine Ok.seq ?_; refine Ok.block ?_
    ((first | refine qS rfl rfl ?_ | refine qR rfl rfl ?_); simp only [go_sem,↓dP,↓reduceIte]; with_reducible and_intros; all_goals first | apply qA | exact ⟨⟩ | rfl | (intros; apply qB; first | kernel_rfl | omega) | omega | skip)
    refine Ok.cond rfl ?_ ?_
    · intro hx
      have hne : a.getD i default ≠ b.getD i default:=by simpa using hx
      have hF : (a == b) = false:=by
        rw [beq_eq_false_iff_ne]
        intro h
        rw [h] at hne
        exact hne rfl
      ((first | refine qS rfl rfl ?_ | refine qR rfl rfl ?_); simp only [go_sem,↓dP,↓reduceIte]; with_reducible and_intros; all_goals first | apply qA | exact ⟨⟩ | rfl | (intros; apply qB; first | kernel_rfl | omega) | omega | skip)
      (refine Ok.ret ?_; (try dsimp only [thenK,blockK,noGotoK]); simp only [toList_mk,List.toList_toArray,retK_ret,retK_normal,resOK,resV,celV,rowV,frzAll,frzT,subV,subL,go_sem,↓dP,↓reduceIte])
      rw [hF]
      exact .refl _
    · intro hx
      have he : a.getD i default = b.getD i default:=by simpa using hx
      (refine Ok.skip ?_; (try dsimp only [thenK,blockK,noGotoK]))
      ((first | refine qS rfl rfl ?_ | refine qR rfl rfl ?_); simp only [go_sem,↓dP,↓reduceIte]; with_reducible and_intros; all_goals first | apply qA | exact ⟨⟩ | rfl | (intros; apply qB; first | kernel_rfl | omega) | omega | skip)
      (try dsimp only [thenK,blockK,noGotoK])
      refine ⟨fun j hj => ?_,?_⟩
      · by_cases e : j = i
        · subst e; exact he
        · exact hJ j (by omega)
      (refine Sub.of ([]) ([]) ?_ ?_ ?_ rfl rfl <;> simp only [subB,subB1,subT,subT1,newT,subE,subV,subL,go_sem,↓dP,↓reduceIte] <;> (try (repeat' with_reducible apply And.intro)) <;> (try first | exact DEq.refl _ | refine DEq.int ?_ | refine DEq.bool ?_ | omega))
  · intro hJ
    have hT : (a == b) = true:=by
      rw [beq_iff_eq]
      refine List.ext_getElem hlen (fun j h1 h2 => ?_)
      have:=hJ j h1
      rwa [getD_lt h1,getD_lt h2] at this
    refine Ok.seq ?_; (((first | refine qS rfl rfl ?_ | refine qR rfl rfl ?_); simp only [go_sem,↓dP,↓reduceIte]; with_reducible and_intros; all_goals first | apply qA | exact ⟨⟩ | rfl | (intros; apply qB; first | kernel_rfl | omega) | omega | skip)); refine Ok.cond rfl (fun hb => by simp at hb) (fun _ => ?_); (refine Ok.exit ?_; simp only [thenK_exit,blockK_exit,noGotoK_exit,thenK_normal,blockK_normal,noGotoK_normal,↓reduceIte,Nat.reduceEqDiff])
    ((first | refine qS rfl rfl ?_ | refine qR rfl rfl ?_); simp only [go_sem,↓dP,↓reduceIte]; with_reducible and_intros; all_goals first | apply qA | exact ⟨⟩ | rfl | (intros; apply qB; first | kernel_rfl | omega) | omega | skip)
    (refine Ok.ret ?_; (try dsimp only [thenK,blockK,noGotoK]); simp only [toList_mk,List.toList_toArray,retK_ret,retK_normal,resOK,resV,celV,rowV,frzAll,frzT,subV,subL,go_sem,↓dP,↓reduceIte])
    rw [hT]
    exact .refl _
theorem c58 (l h : Int) : Ctr Tryz.prog 22 [iS l,iS h] (.agg [iS l,iS h]):=by
  (refine Ctr.mk (fn:=Tryz.f22) rfl rfl rfl rfl rfl Tryz.results22 ?_; dsimp only [args,List.toList_toArray])
  ((first | refine qS rfl rfl ?_ | refine qR rfl rfl ?_); simp only [go_sem,↓dP,↓reduceIte]; with_reducible and_intros; all_goals first | apply qA | exact ⟨⟩ | rfl | (intros; apply qB; first | kernel_rfl | omega) | omega | skip)
  ((first | refine qS rfl rfl ?_ | refine qR rfl rfl ?_); simp only [go_sem,↓dP,↓reduceIte]; with_reducible and_intros; all_goals first | apply qA | exact ⟨⟩ | rfl | (intros; apply qB; first | kernel_rfl | omega) | omega | skip)
  (refine Ok.ret ?_; (try dsimp only [thenK,blockK,noGotoK]); simp only [toList_mk,List.toList_toArray,retK_ret,retK_normal,resOK,resV,celV,rowV,frzAll,frzT,subV,subL,go_sem,↓dP,↓reduceIte])
  ((repeat' with_reducible apply And.intro) <;> (first | exact DEq.refl _ | refine DEq.int ?_ | refine DEq.bool ?_ | skip))
theorem c60 (l h : Int) : Ctr Tryz.prog 26 [iS l,iS h] (.agg [iS l,iS h]):=by
  (refine Ctr.mk (fn:=Tryz.f26) rfl rfl rfl rfl rfl Tryz.results26 ?_; dsimp only [args,List.toList_toArray])
  ((first | refine qS rfl rfl ?_ | refine qR rfl rfl ?_); simp only [go_sem,↓dP,↓reduceIte]; with_reducible and_intros; all_goals first | apply qA | exact ⟨⟩ | rfl | (intros; apply qB; first | kernel_rfl | omega) | omega | skip)
  ((first | refine qS rfl rfl ?_ | refine qR rfl rfl ?_); simp only [go_sem,↓dP,↓reduceIte]; with_reducible and_intros; all_goals first | apply qA | exact ⟨⟩ | rfl | (intros; apply qB; first | kernel_rfl | omega) | omega | skip)
  (refine Ok.ret ?_; (try dsimp only [thenK,blockK,noGotoK]); simp only [toList_mk,List.toList_toArray,retK_ret,retK_normal,resOK,resV,celV,rowV,frzAll,frzT,subV,subL,go_sem,↓dP,↓reduceIte])
  ((repeat' with_reducible apply And.intro) <;> (first | exact DEq.refl _ | refine DEq.int ?_ | refine DEq.bool ?_ | skip))
theorem c27 (w : Int) : Ctr Tryz.prog 24 [iS w] (bS (inR w 1 3)):=by
  (refine Ctr.mk (fn:=Tryz.f24) rfl rfl rfl rfl rfl Tryz.results24 ?_; dsimp only [args,List.toList_toArray])
  ((first | refine qS rfl rfl ?_ | refine qR rfl rfl ?_); simp only [go_sem,↓dP,↓reduceIte]; with_reducible and_intros; all_goals first | apply qA | exact ⟨⟩ | rfl | (intros; apply qB; first | kernel_rfl | omega) | omega | skip)
  ((first | refine qS rfl rfl ?_ | refine qR rfl rfl ?_); simp only [go_sem,↓dP,↓reduceIte]; with_reducible and_intros; all_goals first | apply qA | exact ⟨⟩ | rfl | (intros; apply qB; first | kernel_rfl | omega) | omega | skip)
  (refine Ok.ret ?_; (try dsimp only [thenK,blockK,noGotoK]); simp only [toList_mk,List.toList_toArray,retK_ret,retK_normal,resOK,resV,celV,rowV,frzAll,frzT,subV,subL,go_sem,↓dP,↓reduceIte])
  exact .refl _
def Street.eyed (s : Street) (eye light : Int) : Street:={ s with el:=eye,eh:=eye,ll:=light,lh:=light }
def exS : Street:=⟨20,6,4,6,50,100,[⟨10,[⟨6,4,1,1⟩,⟨8,5,2,0⟩]⟩,⟨0,[⟨10,10,2,0⟩]⟩],[⟨12,13,2,3,true⟩,⟨5,6,4,5,false⟩]⟩
def exT : Street:=⟨4,2,1,1,100,100,[⟨0,[⟨3,2,1,0⟩]⟩],[]⟩
theorem c70 : Ctr Tryz.prog 41 [] exS.sv:=by
  (refine Ctr.mk (fn:=Tryz.f41) rfl rfl rfl rfl rfl Tryz.results41 ?_; dsimp only [args,List.toList_toArray])
  ((first | refine qS rfl rfl ?_ | refine qR rfl rfl ?_); simp only [go_sem,↓dP,↓reduceIte]; with_reducible and_intros; all_goals first | apply qA | exact ⟨⟩ | rfl | (intros; apply qB; first | kernel_rfl | omega) | omega | skip)
  ((first | refine qS rfl rfl ?_ | refine qR rfl rfl ?_); simp only [go_sem,↓dP,↓reduceIte]; with_reducible and_intros; all_goals first | apply qA | exact ⟨⟩ | rfl | (intros; apply qB; first | kernel_rfl | omega) | omega | skip)
  (refine AskI.ret (c58 _ _) ?_; simp only [go_sem,↓dP,↓reduceIte]; with_reducible and_intros; all_goals first | apply qA | exact ⟨⟩ | rfl | (intros; apply qB; first | kernel_rfl | omega) | omega | skip)
  (refine AskI.ret (c58 _ _) ?_; simp only [go_sem,↓dP,↓reduceIte]; with_reducible and_intros; all_goals first | apply qA | exact ⟨⟩ | rfl | (intros; apply qB; first | kernel_rfl | omega) | omega | skip)
  (refine AskI.ret (c58 _ _) ?_; simp only [go_sem,↓dP,↓reduceIte]; with_reducible and_intros; all_goals first | apply qA | exact ⟨⟩ | rfl | (intros; apply qB; first | kernel_rfl | omega) | omega | skip)
  (refine AskI.ret (c58 _ _) ?_; simp only [go_sem,↓dP,↓reduceIte]; with_reducible and_intros; all_goals first | apply qA | exact ⟨⟩ | rfl | (intros; apply qB; first | kernel_rfl | omega) | omega | skip)
  (refine AskI.ret (c58 _ _) ?_; simp only [go_sem,↓dP,↓reduceIte]; with_reducible and_intros; all_goals first | apply qA | exact ⟨⟩ | rfl | (intros; apply qB; first | kernel_rfl | omega) | omega | skip)
  (refine AskI.ret (c58 _ _) ?_; simp only [go_sem,↓dP,↓reduceIte]; with_reducible and_intros; all_goals first | apply qA | exact ⟨⟩ | rfl | (intros; apply qB; first | kernel_rfl | omega) | omega | skip)
  (refine Ok.ret ?_; (try dsimp only [thenK,blockK,noGotoK]); simp only [toList_mk,List.toList_toArray,retK_ret,retK_normal,resOK,resV,celV,rowV,frzAll,frzT,subV,subL,go_sem,↓dP,↓reduceIte])
  refine ⟨.refl _,.refl _,.refl _,.refl _,.refl _,.refl _,?_,?_⟩
  · refine DEq.sl rfl (fun i j hi hj => ?_)
    match i,j,hi,hj with
    | 0,0,_,_ => exact .refl _
    | 0,1,_,_ =>
      refine DEq.sl rfl (fun i j hi hj => ?_)
      match i,j,hi,hj with
      | 0,0,_,_ => exact .refl _
      | 0,1,_,_ => exact .refl _
      | 0,2,_,_ => exact .refl _
      | 0,3,_,_ => exact .refl _
      | 1,0,_,_ => exact .refl _
      | 1,1,_,_ => exact .refl _
      | 1,2,_,_ => exact .refl _
      | 1,3,_,_ => exact .refl _
    | 1,0,_,_ => exact .refl _
    | 1,1,_,_ =>
      refine DEq.sl rfl (fun i j hi hj => ?_)
      match i,j,hi,hj with
      | 0,0,_,_ => exact .refl _
      | 0,1,_,_ => exact .refl _
      | 0,2,_,_ => exact .refl _
      | 0,3,_,_ => exact .refl _
  · refine DEq.sl rfl (fun i j hi hj => ?_)
    match i,j,hi,hj with
    | 0,0,_,_ => exact .refl _
    | 0,1,_,_ => exact .refl _
    | 0,2,_,_ => exact .refl _
    | 0,3,_,_ => exact .refl _
    | 0,4,_,_ => exact .refl _
    | 1,0,_,_ => exact .refl _
    | 1,1,_,_ => exact .refl _
    | 1,2,_,_ => exact .refl _
    | 1,3,_,_ => exact .refl _
    | 1,4,_,_ => exact .refl _
theorem c71 : Ctr Tryz.prog 44 [] exT.sv:=by
  (refine Ctr.mk (fn:=Tryz.f44) rfl rfl rfl rfl rfl Tryz.results44 ?_; dsimp only [args,List.toList_toArray])
  ((first | refine qS rfl rfl ?_ | refine qR rfl rfl ?_); simp only [go_sem,↓dP,↓reduceIte]; with_reducible and_intros; all_goals first | apply qA | exact ⟨⟩ | rfl | (intros; apply qB; first | kernel_rfl | omega) | omega | skip)
  ((first | refine qS rfl rfl ?_ | refine qR rfl rfl ?_); simp only [go_sem,↓dP,↓reduceIte]; with_reducible and_intros; all_goals first | apply qA | exact ⟨⟩ | rfl | (intros; apply qB; first | kernel_rfl | omega) | omega | skip)
  (refine AskI.ret (c58 _ _) ?_; simp only [go_sem,↓dP,↓reduceIte]; with_reducible and_intros; all_goals first | apply qA | exact ⟨⟩ | rfl | (intros; apply qB; first | kernel_rfl | omega) | omega | skip)
  (refine AskI.ret (c58 _ _) ?_; simp only [go_sem,↓dP,↓reduceIte]; with_reducible and_intros; all_goals first | apply qA | exact ⟨⟩ | rfl | (intros; apply qB; first | kernel_rfl | omega) | omega | skip)
  (refine Ok.ret ?_; (try dsimp only [thenK,blockK,noGotoK]); simp only [toList_mk,List.toList_toArray,retK_ret,retK_normal,resOK,resV,celV,rowV,frzAll,frzT,subV,subL,go_sem,↓dP,↓reduceIte])
  refine ⟨.refl _,.refl _,.refl _,.refl _,.refl _,.refl _,?_,DEq.nils rfl⟩
  refine DEq.sl rfl (fun i j hi hj => ?_)
  match i,j,hi,hj with
  | 0,0,_,_ => exact .refl _
  | 0,1,_,_ =>
    refine DEq.sl rfl (fun i j hi hj => ?_)
    match i,j,hi,hj with
    | 0,0,_,_ => exact .refl _
    | 0,1,_,_ => exact .refl _
    | 0,2,_,_ => exact .refl _
    | 0,3,_,_ => exact .refl _
end Go.Proofs.Sight
namespace Go.Proofs
open Go.Shelf
def Tryz.lays156_ren : Go.Shelf.Ren:=⟨fun | 156 => 106 | 165 => 126 | 166 => 127 | 169 => 128 | 240 => 137 | 241 => 138 | 276 => 146 | 277 => 147 | n => n,fun | 31 => 116 | 9 => 9 | 3 => 3 | 4 => 4 | 0 => 0 | 20 => 20 | 72 => 181 | 76 => 185 | 70 => 179 | 37 => 77 | 75 => 184 | 127 => 194 | 164 => 203 | 5 => 5 | 80 => 187 | n => n,fun | n => n⟩
theorem Tryz.lays156 : Go.Proofs.Lays.n156 Tryz.prog Tryz.lays156_ren:={
  mixed:=by kernel_rfl
  f156:=Tryz.func106.trans (congrArg some (by kernel_rfl))
  f165:=Tryz.func126.trans (congrArg some (by kernel_rfl))
  f166:=Tryz.func127.trans (congrArg some (by kernel_rfl))
  f169:=Tryz.func128.trans (congrArg some (by kernel_rfl))
  f240:=Tryz.func137.trans (congrArg some (by kernel_rfl))
  f241:=Tryz.func138.trans (congrArg some (by kernel_rfl))
  f276:=Tryz.func146.trans (congrArg some (by kernel_rfl))
  f277:=Tryz.func147.trans (congrArg some (by kernel_rfl))
  t0:=Tryz.underlying0
  a0:=Tryz.isAgg0
  z0:=Tryz.sizeOf0
  v0:=Tryz.zeroValue0
  t3:=Tryz.underlying3
  a3:=Tryz.isAgg3
  z3:=Tryz.sizeOf3
  v3:=Tryz.zeroValue3
  t4:=Tryz.underlying4
  a4:=Tryz.isAgg4
  z4:=Tryz.sizeOf4
  v4:=Tryz.zeroValue4
  t9:=Tryz.underlying9
  a9:=Tryz.isAgg9
  z9:=Tryz.sizeOf9
  v9:=Tryz.zeroValue9
  t20:=Tryz.underlying20
  a20:=Tryz.isAgg20
  z20:=Tryz.sizeOf20
  v20:=Tryz.zeroValue20
  t31:=Tryz.underlying116
  a31:=Tryz.isAgg116
  z31:=Tryz.sizeOf116
  v31:=Tryz.zeroValue116
  t37:=Tryz.underlying77
  a37:=Tryz.isAgg77
  z37:=Tryz.sizeOf77
  v37:=Tryz.zeroValue77
  t70:=Tryz.underlying179
  a70:=Tryz.isAgg179
  z70:=Tryz.sizeOf179
  v70:=Tryz.zeroValue179
  t72:=Tryz.underlying181
  a72:=Tryz.isAgg181
  z72:=Tryz.sizeOf181
  v72:=Tryz.zeroValue181
  t75:=Tryz.underlying184
  a75:=Tryz.isAgg184
  z75:=Tryz.sizeOf184
  v75:=Tryz.zeroValue184
  t76:=Tryz.underlying185
  a76:=Tryz.isAgg185
  z76:=Tryz.sizeOf185
  v76:=Tryz.zeroValue185
  t127:=Tryz.underlying194
  a127:=Tryz.isAgg194
  z127:=Tryz.sizeOf194
  v127:=Tryz.zeroValue194
  t164:=Tryz.underlying203
  a164:=Tryz.isAgg203
  z164:=Tryz.sizeOf203
  v164:=Tryz.zeroValue203 }
theorem Tryz.Builder_Extra_156 : Builder.Extra Tryz.prog Tryz.lays156_ren:={
  sizeBuilder:=by kernel_rfl
  liesBuilder:=by kernel_rfl
  t5:=Tryz.underlying5
  a5:=Tryz.isAgg5
  z5:=Tryz.sizeOf5
  v5:=Tryz.zeroValue5
  infoByte:=by kernel_rfl
  cellsByte:=by kernel_rfl
  sizeByte:=by kernel_rfl
  neB5:=by decide }
open Go.RowKit in
theorem Tryz.strings_Join (bk o c : Nat) (xs : List ByteArray) (sep : ByteArray) (w : World) (hcells : ∀ (j : Nat) x,xs[j]? = some x → w.cell? ⟨bk,o + j,none⟩ = some (.string x)) (hbk : bk < w.heap.size) (hN : xs.length ≤ 140737488355328) (hcap : xs.length ≤ c) (hlen : (Lib.join (xs.map (·.data.toList)) sep.data.toList).length ≤ 140737488355328) :
    Calls Tryz.prog 106 #[.slice (some ⟨bk,o,none⟩) xs.length c,.string sep] w fun e w' => e = .returned (.string ⟨(Lib.join (xs.map (·.data.toList)) sep.data.toList).toArray⟩) ∧ Below w.heap.size w w':=Any.strings_Join Tryz.lays156 Tryz.Builder_Extra_156 bk o c xs sep w hcells hbk hN hcap hlen
def Tryz.laysM171_ren : Go.Shelf.Ren:=⟨fun | 171 => 105 | 243 => 125 | 246 => 136 | 283 => 142 | 284 => 143 | 285 => 144 | 286 => 145 | 129 => 153 | 317 => 152 | 318 => 154 | 319 => 155 | 320 => 156 | 337 => 162 | 338 => 163 | n => n,fun | 3 => 3 | 9 => 9 | 2 => 2 | 4 => 4 | 171 => 197 | 0 => 0 | 53 => 198 | 37 => 77 | 5 => 5 | 173 => 201 | 212 => 211 | 51 => 212 | 20 => 20 | 213 => 213 | 46 => 215 | 232 => 224 | 233 => 225 | n => n,fun | 17 => 0 | 18 => 4 | 19 => 5 | n => n⟩
theorem Tryz.laysM171 : Go.Proofs.LaysM.n171 Tryz.prog Tryz.laysM171_ren:={
  mixed:=by kernel_rfl
  f129:=Tryz.func153.trans (congrArg some (by kernel_rfl))
  f171:=Tryz.func105.trans (congrArg some (by kernel_rfl))
  f243:=Tryz.func125.trans (congrArg some (by kernel_rfl))
  f246:=Tryz.func136.trans (congrArg some (by kernel_rfl))
  f283:=Tryz.func142.trans (congrArg some (by kernel_rfl))
  f284:=Tryz.func143.trans (congrArg some (by kernel_rfl))
  f285:=Tryz.func144.trans (congrArg some (by kernel_rfl))
  f286:=Tryz.func145.trans (congrArg some (by kernel_rfl))
  f317:=Tryz.func152.trans (congrArg some (by kernel_rfl))
  f318:=Tryz.func154.trans (congrArg some (by kernel_rfl))
  f319:=Tryz.func155.trans (congrArg some (by kernel_rfl))
  f320:=Tryz.func156.trans (congrArg some (by kernel_rfl))
  f337:=Tryz.func162.trans (congrArg some (by kernel_rfl))
  f338:=Tryz.func163.trans (congrArg some (by kernel_rfl))
  t0:=Tryz.underlying0
  a0:=Tryz.isAgg0
  z0:=Tryz.sizeOf0
  v0:=Tryz.zeroValue0
  t2:=Tryz.underlying2
  a2:=Tryz.isAgg2
  z2:=Tryz.sizeOf2
  v2:=Tryz.zeroValue2
  t3:=Tryz.underlying3
  a3:=Tryz.isAgg3
  z3:=Tryz.sizeOf3
  v3:=Tryz.zeroValue3
  t4:=Tryz.underlying4
  a4:=Tryz.isAgg4
  z4:=Tryz.sizeOf4
  v4:=Tryz.zeroValue4
  t5:=Tryz.underlying5
  a5:=Tryz.isAgg5
  z5:=Tryz.sizeOf5
  v5:=Tryz.zeroValue5
  t9:=Tryz.underlying9
  a9:=Tryz.isAgg9
  z9:=Tryz.sizeOf9
  v9:=Tryz.zeroValue9
  t20:=Tryz.underlying20
  a20:=Tryz.isAgg20
  z20:=Tryz.sizeOf20
  v20:=Tryz.zeroValue20
  t37:=Tryz.underlying77
  a37:=Tryz.isAgg77
  z37:=Tryz.sizeOf77
  v37:=Tryz.zeroValue77
  t46:=Tryz.underlying215
  a46:=Tryz.isAgg215
  z46:=Tryz.sizeOf215
  v46:=Tryz.zeroValue215
  t51:=Tryz.underlying212
  a51:=Tryz.isAgg212
  z51:=Tryz.sizeOf212
  v51:=Tryz.zeroValue212
  t53:=Tryz.underlying198
  a53:=Tryz.isAgg198
  z53:=Tryz.sizeOf198
  v53:=Tryz.zeroValue198
  t171:=Tryz.underlying197
  a171:=Tryz.isAgg197
  z171:=Tryz.sizeOf197
  v171:=Tryz.zeroValue197
  t173:=Tryz.underlying201
  a173:=Tryz.isAgg201
  z173:=Tryz.sizeOf201
  v173:=Tryz.zeroValue201
  t212:=Tryz.underlying211
  a212:=Tryz.isAgg211
  z212:=Tryz.sizeOf211
  v212:=Tryz.zeroValue211
  t213:=Tryz.underlying213
  a213:=Tryz.isAgg213
  z213:=Tryz.sizeOf213
  t232:=Tryz.underlying224
  a232:=Tryz.isAgg224
  z232:=Tryz.sizeOf224
  v232:=Tryz.zeroValue224
  t233:=Tryz.underlying225
  a233:=Tryz.isAgg225
  z233:=Tryz.sizeOf225
  v233:=Tryz.zeroValue225
  g17:=by kernel_rfl
  g18:=by kernel_rfl
  g19:=by kernel_rfl
  i0:=by kernel_rfl
  i2:=by kernel_rfl
  i3:=by kernel_rfl
  i4:=by kernel_rfl
  i5:=by kernel_rfl
  i9:=by kernel_rfl
  i20:=by kernel_rfl
  i37:=by kernel_rfl
  i46:=by kernel_rfl
  i51:=by kernel_rfl
  i53:=by kernel_rfl
  i171:=by kernel_rfl
  i173:=by kernel_rfl
  i212:=by kernel_rfl
  i232:=by kernel_rfl
  i233:=by kernel_rfl
  m17:=by kernel_rfl
  m18:=by kernel_rfl
  m19:=by kernel_rfl }
open Go.RowKit Go.Sort Go.Lib in
theorem Tryz.strconv_Itoa (n : Int) (h0 : -9223372036854775808 ≤ n) (h1 : n ≤ 9223372036854775807) (w : World) (htab : Lib.TabIs Tryz.prog w "internal/strconv.uint64pow10" .u64 Lib.pow10Tab) :
    Calls Tryz.prog 105 #[.int .i64 n] w fun e w' => e = .returned (.string ⟨(Lib.itoa n).toArray⟩) ∧ ∃ k os,w' = grow (w.drewN k) os:=Any.strconv_Itoa Tryz.laysM171 n h0 h1 w htab
def Tryz.lays146_ren : Go.Shelf.Ren:=⟨fun | 146 => 107 | 221 => 129 | 268 => 139 | 138 => 140 | 143 => 141 | 195 => 148 | 197 => 149 | 218 => 150 | 219 => 151 | 260 => 157 | 217 => 158 | 225 => 159 | 224 => 160 | 267 => 161 | 266 => 164 | 314 => 165 | n => n,fun | 9 => 9 | 31 => 116 | 3 => 3 | 4 => 4 | 0 => 0 | 105 => 207 | 21 => 21 | 5 => 5 | 46 => 215 | 119 => 218 | 139 => 221 | 138 => 220 | 146 => 222 | 51 => 212 | n => n,fun | 1 => 1 | 3 => 2 | 4 => 3 | n => n⟩
theorem Tryz.lays146 : Go.Proofs.Lays.n146 Tryz.prog Tryz.lays146_ren:={
  mixed:=by kernel_rfl
  f138:=Tryz.func140.trans (congrArg some (by kernel_rfl))
  f143:=Tryz.func141.trans (congrArg some (by kernel_rfl))
  f146:=Tryz.func107.trans (congrArg some (by kernel_rfl))
  f195:=Tryz.func148.trans (congrArg some (by kernel_rfl))
  f197:=Tryz.func149.trans (congrArg some (by kernel_rfl))
  f217:=Tryz.func158.trans (congrArg some (by kernel_rfl))
  f218:=Tryz.func150.trans (congrArg some (by kernel_rfl))
  f219:=Tryz.func151.trans (congrArg some (by kernel_rfl))
  f221:=Tryz.func129.trans (congrArg some (by kernel_rfl))
  f224:=Tryz.func160.trans (congrArg some (by kernel_rfl))
  f225:=Tryz.func159.trans (congrArg some (by kernel_rfl))
  f260:=Tryz.func157.trans (congrArg some (by kernel_rfl))
  f266:=Tryz.func164.trans (congrArg some (by kernel_rfl))
  f267:=Tryz.func161.trans (congrArg some (by kernel_rfl))
  f268:=Tryz.func139.trans (congrArg some (by kernel_rfl))
  f314:=Tryz.func165.trans (congrArg some (by kernel_rfl))
  t0:=Tryz.underlying0
  a0:=Tryz.isAgg0
  z0:=Tryz.sizeOf0
  v0:=Tryz.zeroValue0
  t3:=Tryz.underlying3
  a3:=Tryz.isAgg3
  z3:=Tryz.sizeOf3
  v3:=Tryz.zeroValue3
  t4:=Tryz.underlying4
  a4:=Tryz.isAgg4
  z4:=Tryz.sizeOf4
  v4:=Tryz.zeroValue4
  t5:=Tryz.underlying5
  a5:=Tryz.isAgg5
  z5:=Tryz.sizeOf5
  v5:=Tryz.zeroValue5
  t9:=Tryz.underlying9
  a9:=Tryz.isAgg9
  z9:=Tryz.sizeOf9
  v9:=Tryz.zeroValue9
  t21:=Tryz.underlying21
  a21:=Tryz.isAgg21
  z21:=Tryz.sizeOf21
  v21:=Tryz.zeroValue21
  t31:=Tryz.underlying116
  a31:=Tryz.isAgg116
  z31:=Tryz.sizeOf116
  v31:=Tryz.zeroValue116
  t46:=Tryz.underlying215
  a46:=Tryz.isAgg215
  z46:=Tryz.sizeOf215
  v46:=Tryz.zeroValue215
  t51:=Tryz.underlying212
  a51:=Tryz.isAgg212
  z51:=Tryz.sizeOf212
  v51:=Tryz.zeroValue212
  t105:=Tryz.underlying207
  a105:=Tryz.isAgg207
  z105:=Tryz.sizeOf207
  v105:=Tryz.zeroValue207
  t119:=Tryz.underlying218
  a119:=Tryz.isAgg218
  z119:=Tryz.sizeOf218
  t138:=Tryz.underlying220
  a138:=Tryz.isAgg220
  z138:=Tryz.sizeOf220
  v138:=Tryz.zeroValue220
  t139:=Tryz.underlying221
  a139:=Tryz.isAgg221
  z139:=Tryz.sizeOf221
  v139:=Tryz.zeroValue221
  t146:=Tryz.underlying222
  a146:=Tryz.isAgg222
  z146:=Tryz.sizeOf222
  v146:=Tryz.zeroValue222
  g1:=by kernel_rfl
  g3:=by kernel_rfl
  g4:=by kernel_rfl }
open Go.RowKit Go.Lib in
theorem Tryz.strings_Split (s sep : ByteArray) (m : Int) (w : World) (hs : s.size < 4294967281) (hm : w.cell? ⟨1,0,none⟩ = some (.int .i64 m)) (h1 : 1 ≤ sep.size) :
    Calls Tryz.prog 107 #[.string s,.string sep] w fun e w' =>
      e = .returned (.slice (some ⟨w.heap.size,0,none⟩) (Lib.countB s sep + 1) (Lib.countB s sep + 1)) ∧ w' = w.alloc (.cells ((Lib.splitB sep 0 (Lib.countB s sep) s).map Value.string).toArray 9):=Any.strings_Split Tryz.lays146 (by kernel_rfl) s sep m w hs hm h1
end Go.Proofs
namespace Go.Proofs.Sight
open Go Go.RX Go.Proofs Go.RowKit
set_option maxRecDepth 10000
theorem str_val {I : Nat → Prop} {w : World} {v : Value} {l : List UInt8} (h : RepS I w v (.d (.str l))) : v = .string ⟨l.toArray⟩:=by
  have h:=RepS.rep h
  cases h with
  | @str s l h =>
    obtain ⟨⟨d⟩⟩:=s
    simp at h; subst h; rfl
theorem rep_str' (I : Nat → Prop) (w : World) (l : List UInt8) : Rep I w (.string ⟨l.toArray⟩) (.str l):=.str rfl
theorem c132 (n : Int) (h0 : -9223372036854775808 ≤ n) (h1 : n ≤ 9223372036854775807) : Ctr Tryz.prog 105 [iS n] (.d (.str (Lib.itoa n))):=by
  refine ⟨⟨Tryz.f105,Tryz.func105,rfl,rfl⟩,fun I w vs hG hI hsz hrep => ?_⟩
  obtain ⟨v0,rfl⟩ : ∃ v0,vs = #[v0]:=by
    obtain ⟨l⟩:=vs
    match l,hsz with
    | [a],_ => exact ⟨a,rfl⟩
  have h:=RepS.rep (hrep 0 v0 _ rfl rfl)
  obtain rfl : v0 = .int .i64 n:=by cases h; rfl
  refine (Tryz.strconv_Itoa n h0 h1 w hG.1).mono ?_
  rintro e w' ⟨rfl,k,os,rfl⟩
  exact ⟨_,rfl,RepS.of (rep_str' _ _ _),Lib.below_grow _ w (Nat.le_refl _) k os⟩
def strD (l : List UInt8) : Nat → DV
  | 0 => .str l | _ => .nilI
theorem strD_0 (l : List UInt8) : strD l 0 = .str l:=Eq.trans rfl rfl
attribute [go_sem] strD_0
abbrev strsD (l : List (List UInt8)) : DV:=slD 1 strD l
def splitL (s sep : List UInt8) : List (List UInt8):=(Lib.splitB ⟨sep.toArray⟩ 0 (Lib.countB ⟨s.toArray⟩ ⟨sep.toArray⟩) ⟨s.toArray⟩).map (·.data.toList)
theorem c134 (s sep : List UInt8) (hs : s.length < 4294967281) (h1 : 1 ≤ sep.length) : Ctr Tryz.prog 107 [.d (.str s),.d (.str sep)] (.d (strsD (splitL s sep))):=by
  refine ⟨⟨Tryz.f107,Tryz.func107,rfl,rfl⟩,fun I w vs hG hI hsz hrep => ?_⟩
  obtain ⟨v0,v1,rfl⟩ : ∃ v0 v1,vs = #[v0,v1]:=by
    obtain ⟨l⟩:=vs
    match l,hsz with
    | [a,b],_ => exact ⟨a,b,rfl⟩
  obtain rfl:=str_val (hrep 0 v0 _ rfl rfl)
  obtain rfl:=str_val (hrep 1 v1 _ rfl rfl)
  obtain ⟨_,m,hm⟩:=hG
  have hlen:=Lib.splitB_all ⟨sep.toArray⟩ h1 0 _ ⟨s.toArray⟩ rfl
  have hcnt:=Lib.countB_le ⟨sep.toArray⟩ h1 _ ⟨s.toArray⟩ (Nat.le_refl _)
  have hss : (⟨s.toArray⟩ : ByteArray).size = s.length:=rfl
  refine (Tryz.strings_Split ⟨s.toArray⟩ ⟨sep.toArray⟩ m w hs hm h1).mono ?_
  rintro e w' ⟨rfl,rfl⟩
  refine ⟨_,rfl,RepS.of ?_,(Below.refl _ w).alloc (Nat.le_refl _) _⟩
  have hl : (splitL s sep).length = Lib.countB ⟨s.toArray⟩ ⟨sep.toArray⟩ + 1:=by
    rw [splitL,List.length_map,hlen]
  show Rep _ _ _ (.sl 1 (splitL s sep).length _)
  rw [hl]
  refine .sl (fun i j => .string ⟨((splitL s sep).getD i default).toArray⟩) (.inr ⟨Nat.le_refl _,by simp⟩) (Nat.le_refl _) ?_ (fun i j hi hj => ?_) (fun i j hi hj => ?_)
  · unfold maxLen; omega
  · have : j = 0:=by omega
    subst this
    have hi' : i < (Lib.splitB ⟨sep.toArray⟩ 0 (Lib.countB ⟨s.toArray⟩ ⟨sep.toArray⟩) ⟨s.toArray⟩).length:=by rw [hlen]; exact hi
    rw [cellAt (al_new _ rfl)]
    simp only [splitL,List.getD_eq_getElem?_getD,List.getElem?_map,Nat.zero_add,Nat.mul_one,Nat.add_zero,List.getElem?_toArray,List.getElem?_eq_getElem hi',Option.map_some,Option.getD_some]
  · have : j = 0:=by omega
    subst this
    exact rep_str' _ _ _
theorem c133 (l : List (List UInt8)) (sep : List UInt8) (hN : l.length ≤ 100000) (hlen : (Lib.join l sep).length ≤ 140737488355328) (h1 : 1 ≤ l.length) : Ctr Tryz.prog 106 [.d (strsD l),.d (.str sep)] (.d (.str (Lib.join l sep))):=by
  refine ⟨⟨Tryz.f106,Tryz.func106,rfl,rfl⟩,fun I w vs hG hI hsz hrep => ?_⟩
  obtain ⟨v0,v1,rfl⟩ : ∃ v0 v1,vs = #[v0,v1]:=by
    obtain ⟨l⟩:=vs
    match l,hsz with
    | [a,b],_ => exact ⟨a,b,rfl⟩
  obtain rfl:=str_val (hrep 1 v1 _ rfl rfl)
  have h0:=RepS.rep (hrep 0 v0 _ rfl rfl)
  have hx : (l.map (fun s => (⟨s.toArray⟩ : ByteArray))).map (·.data.toList) = l:=by simp [List.map_map,Function.comp_def]
  change Rep _ _ _ (.sl 1 l.length (fun i => strD (l.getD i default))) at h0
  generalize hn : l.length = n at h0
  cases h0 with
  | sl0 => omega
  | sl1 => omega
  | @sl b o _ cap _ _ us hIb hc hcap hcell hrep' =>
    subst hn
    have h:=Tryz.strings_Join b o cap (l.map (fun s => (⟨s.toArray⟩ : ByteArray))) ⟨sep.toArray⟩ w (fun j x hj => by
      simp only [List.getElem?_map,Option.map_eq_some_iff] at hj
      obtain ⟨s,hs,rfl⟩:=hj
      obtain ⟨hj',hs'⟩:=List.getElem?_eq_some_iff.1 hs
      have c1:=hcell j 0 hj' (by omega)
      have c2:=hrep' j 0 hj' (by omega)
      have e : l.getD j default = s:=by rw [getD_lt hj',hs']
      dsimp only at c2
      rw [e] at c2
      have c3:=str_val (RepS.of c2)
      rw [c3] at c1
      simpa using c1) (hI b hIb) (by simpa using Nat.le_trans hN (by decide)) (by simpa using hc) (by rw [hx]; exact hlen)
    rw [List.length_map,hx] at h
    refine h.mono ?_
    rintro e w' ⟨rfl,hB⟩
    exact ⟨_,rfl,RepS.of (rep_str' _ _ _),hB⟩
theorem itoa_one {n : Nat} (h : n < 10) : Lib.itoa n = [UInt8.ofNat (48 + n)]:=by
  rw [Lib.itoa_nonneg,Lib.decDigits,dif_pos h]
end Go.Proofs.Sight
namespace Go.Proofs.Sight
open Go Go.RX Go.Proofs
set_option maxRecDepth 10000
theorem tdivN (n : Nat) : (n : Int).tdiv 10 = ((n / 10 : Nat) : Int):=by rw [Int.tdiv_eq_ediv_of_nonneg (by omega)]; simp
theorem tmodN (n : Nat) : (n : Int).tmod 10 = ((n % 10 : Nat) : Int):=by rw [Int.tmod_eq_emod_of_nonneg (by omega)]; simp
theorem R8 {n : Int} (h0 : 0 ≤ n) (h1 : n ≤ 255) : R .u8 n:=by
  unfold R
  show IntKind.wrap .u8 n = n
  unfold IntKind.wrap
  simp [IntKind.signed,IntKind.bits]
  omega
theorem bysT77 : bysT Tryz.prog 77 = true:=by kernel_rfl
attribute [go_sem] bysT77
theorem byt_nat (m : Nat) : byt (.int .u8 m) = UInt8.ofNat m:=rfl
theorem byt_p {x : Int} (h0 : 0 ≤ x) (h1 : x < 256) : ∀ i,i < 1 → dget [.int .u8 x] (i * 1) = .int .u8 (byt (dget [.int .u8 x] (i * 1))).toNat:=by
  intro i hi
  have : i = 0:=by omega
  subst this
  show DV.int .u8 x = .int .u8 (UInt8.ofNat x.toNat).toNat
  rw [UInt8.toNat_ofNat',Nat.mod_eq_of_lt (by omega)]
  congr 1
  omega
theorem byt_s (x : Int) (m : Nat) (h : x = m) : List.map (fun i => byt (dget [DV.int .u8 x] (i * 1))) (List.range 0 ++ [0]) = [UInt8.ofNat m]:=by
  subst h
  rfl
theorem decLen (n : Nat) (h : n < 1000000) : (Lib.decDigits n).length ≤ 21:=by
  rw [← Lib.itoa_nonneg]
  exact Lib.itoa_length_le _ (by omega) (by omega)
theorem c138 : ∀ n : Nat,n < 1000000 → Ctr Tryz.prog 111 [iS n] (.d (.str (Lib.decDigits n))):=by
  intro n
  induction n using Nat.strongRecOn with
  | _ n ih =>
  intro hn
  (refine Ctr.mk (fn:=Tryz.f111) rfl rfl rfl rfl rfl Tryz.results111 ?_; dsimp only [args,List.toList_toArray])
  ((first | refine qS rfl rfl ?_ | refine qR rfl rfl ?_); simp only [go_sem,↓dP,↓reduceIte]; with_reducible and_intros; all_goals first | apply qA | exact ⟨⟩ | rfl | (intros; apply qB; first | kernel_rfl | omega) | omega | skip)
  refine Ok.seq ?_
  ((first | refine qS rfl rfl ?_ | refine qR rfl rfl ?_); simp only [go_sem,↓dP,↓reduceIte]; with_reducible and_intros; all_goals first | apply qA | exact ⟨⟩ | rfl | (intros; apply qB; first | kernel_rfl | omega) | omega | skip)
  refine Ok.cond rfl (fun hb => by simp at hb; omega) (fun _ => ?_)
  (refine Ok.skip ?_; (try dsimp only [thenK,blockK,noGotoK]))
  refine Ok.seq ?_
  ((first | refine qS rfl rfl ?_ | refine qR rfl rfl ?_); simp only [go_sem,↓dP,↓reduceIte]; with_reducible and_intros; all_goals first | apply qA | exact ⟨⟩ | rfl | (intros; apply qB; first | kernel_rfl | omega) | omega | skip)
  refine Ok.cond rfl (fun hb => by simp at hb; omega) (fun _ => ?_)
  (refine Ok.skip ?_; (try dsimp only [thenK,blockK,noGotoK]))
  refine Ok.seq ?_
  ((first | refine qS rfl rfl ?_ | refine qR rfl rfl ?_); simp only [go_sem,↓dP,↓reduceIte]; with_reducible and_intros; all_goals first | apply qA | exact ⟨⟩ | rfl | (intros; apply qB; first | kernel_rfl | omega) | omega | skip)
  refine Ok.cond rfl ?_ ?_
  · intro hb
    have hb' : n < 10:=by simp at hb; omega
    ((first | refine qS rfl rfl ?_ | refine qR rfl rfl ?_); simp only [go_sem,↓dP,↓reduceIte]; with_reducible and_intros; all_goals first | apply qA | exact ⟨⟩ | rfl | (intros; apply qB; first | kernel_rfl | omega) | omega | skip)
    · exact R8 (by omega) (by omega)
    · exact byt_p (by omega) (by omega)
    (refine Ok.ret ?_; (try dsimp only [thenK,blockK,noGotoK]); simp only [toList_mk,List.toList_toArray,retK_ret,retK_normal,resOK,resV,celV,rowV,frzAll,frzT,subV,subL,go_sem,↓dP,↓reduceIte])
    refine DEq.str ?_
    rw [byt_s _ (48 + n) (by omega),Lib.decDigits,dif_pos hb']
  · intro hb
    have hb' : ¬ n < 10:=by simp at hb; omega
    (refine Ok.skip ?_; (try dsimp only [thenK,blockK,noGotoK]))
    ((first | refine qS rfl rfl ?_ | refine qR rfl rfl ?_); simp only [go_sem,↓dP,↓reduceIte]; with_reducible and_intros; all_goals first | apply qA | exact ⟨⟩ | rfl | (intros; apply qB; first | kernel_rfl | omega) | omega | skip)
    · rw [tdivN]; exact R64 (by omega) (by omega)
    rw [tdivN]
    (refine AskI.ret (ih (n / 10) (by omega) (by omega)) ?_; simp only [go_sem,↓dP,↓reduceIte]; with_reducible and_intros; all_goals first | apply qA | exact ⟨⟩ | rfl | (intros; apply qB; first | kernel_rfl | omega) | omega | skip)
    · rw [tmodN]; exact R64 (by omega) (by omega)
    · rw [tmodN]; exact R8 (by omega) (by omega)
    · rw [tmodN]; exact byt_p (by omega) (by omega)
    · rw [tmodN,byt_s _ (48 + n % 10) (by omega)]
      have:=decLen (n / 10) (by omega)
      simp only [strRoom,List.length_cons,List.length_nil]
      omega
    (refine Ok.ret ?_; (try dsimp only [thenK,blockK,noGotoK]); simp only [toList_mk,List.toList_toArray,retK_ret,retK_normal,resOK,resV,celV,rowV,frzAll,frzT,subV,subL,go_sem,↓dP,↓reduceIte])
    refine DEq.str ?_
    rw [tmodN,byt_s _ (48 + n % 10) (by omega)]
    conv => rhs; rw [Lib.decDigits,dif_neg hb']
def rowL (w : List UInt8) (ns : List Int) : List UInt8:=w ++ ns.flatMap (fun n => 32 :: Lib.itoa n)
theorem rowL_nil (w : List UInt8) : rowL w [] = w:=by simp [rowL]
theorem rowL_snoc (w : List UInt8) (ns : List Int) (n : Int) : rowL w (ns ++ [n]) = rowL w ns ++ [32] ++ Lib.itoa n:=by simp [rowL]
theorem itoaLen (n : Int) (h0 : 0 ≤ n) (h1 : n < 1000000) : (Lib.itoa n).length ≤ 21:=Lib.itoa_length_le _ (by omega) (by omega)
theorem rowL_len (w : List UInt8) : ∀ (ns : List Int),(∀ n ∈ ns,0 ≤ n ∧ n < 1000000) → (rowL w ns).length ≤ w.length + 22 * ns.length
  | [],_ => by simp [rowL]
  | n :: r,h => by
    have ih:=rowL_len w r (fun x hx => h x (List.mem_cons_of_mem _ hx))
    have hn:=h n (List.mem_cons_self ..)
    have:=itoaLen n hn.1 hn.2
    simp only [rowL,List.length_append,List.flatMap_cons,List.length_cons] at ih ⊢
    omega
theorem c107 (w : List UInt8) (ns : List Int) (hns : ∀ n ∈ ns,0 ≤ n ∧ n < 1000000) (hw : w.length ≤ 1000) (hl : ns.length ≤ 1000) : Ctr Tryz.prog 71 [.d (.str w),.d (slD 1 intD ns)] (.d (.str (rowL w ns))):=by
  (refine Ctr.mk (fn:=Tryz.f71) rfl rfl rfl rfl rfl Tryz.results71 ?_; dsimp only [args,List.toList_toArray])
  ((first | refine qS rfl rfl ?_ | refine qR rfl rfl ?_); simp only [go_sem,↓dP,↓reduceIte]; with_reducible and_intros; all_goals first | apply qA | exact ⟨⟩ | rfl | (intros; apply qB; first | kernel_rfl | omega) | omega | skip)
  refine Ok.seq ?_
  ((first | refine qS rfl rfl ?_ | refine qR rfl rfl ?_); simp only [go_sem,↓dP,↓reduceIte]; with_reducible and_intros; all_goals first | apply qA | exact ⟨⟩ | rfl | (intros; apply qB; first | kernel_rfl | omega) | omega | skip)
  refine Ok.block ?_
  refine Ok.count ns.length (fun i => ⟨[(0,.d (.str (rowL w (ns.take i)))),(1,.d (slD 1 intD ns)),(5,iS i)],[],[]⟩) (fun _ => True) ⟨trivial,?_⟩ ?_ ?_
  · (refine Sub.of ([]) ([]) ?_ ?_ ?_ rfl rfl <;> simp only [subB,subB1,subT,subT1,newT,subE,subV,subL,go_sem,↓dP,↓reduceIte] <;> (try (repeat' with_reducible apply And.intro)) <;> (try first | exact DEq.refl _ | refine DEq.int ?_ | refine DEq.bool ?_ | omega))
    refine DEq.str ?_
    rw [rowL_nil]
  · intro i hi _
    have hb:=hns _ (getD_mem hi)
    have hlen:=rowL_len w (ns.take i) (fun x hx => hns x (List.mem_of_mem_take hx))
    have hti : (ns.take i).length = i:=by simp; omega
    have hil:=itoaLen _ hb.1 hb.2
    have hsn : rowL w (ns.take (i + 1)) = rowL w (ns.take i) ++ [32] ++ Lib.itoa (ns.getD i default):=by rw [getD_take hi,rowL_snoc]
    obtain ⟨m,hm⟩ : ∃ m : Nat,ns.getD i default = m:=⟨(ns.getD i default).toNat,by omega⟩
    rw [hm,Lib.itoa_nonneg] at hsn
    rw [hm,Lib.itoa_nonneg] at hil
    rw [hm] at hb
    refine Ok.seq ?_; (((first | refine qS rfl rfl ?_ | refine qR rfl rfl ?_); simp only [go_sem,↓dP,↓reduceIte]; with_reducible and_intros; all_goals first | apply qA | exact ⟨⟩ | rfl | (intros; apply qB; first | kernel_rfl | omega) | omega | skip)); refine Ok.cond rfl (fun _ => ?_) (fun hb => by simp at hb; omega); (refine Ok.skip ?_; (try dsimp only [thenK,blockK,noGotoK])); refine Ok.seq ?_; refine Ok.block ?_
    ((first | refine qS rfl rfl ?_ | refine qR rfl rfl ?_); simp only [go_sem,↓dP,↓reduceIte]; with_reducible and_intros; all_goals first | apply qA | exact ⟨⟩ | rfl | (intros; apply qB; first | kernel_rfl | omega) | omega | skip)
    · simp only [strRoom,List.length_cons,List.length_nil]; omega
    rw [hm]
    (refine AskI.ret (c138 m (by omega)) ?_; simp only [go_sem,↓dP,↓reduceIte]; with_reducible and_intros; all_goals first | apply qA | exact ⟨⟩ | rfl | (intros; apply qB; first | kernel_rfl | omega) | omega | skip)
    · simp only [strRoom,List.length_append,List.length_cons,List.length_nil]; omega
    (try dsimp only [thenK,blockK,noGotoK])
    ((first | refine qS rfl rfl ?_ | refine qR rfl rfl ?_); simp only [go_sem,↓dP,↓reduceIte]; with_reducible and_intros; all_goals first | apply qA | exact ⟨⟩ | rfl | (intros; apply qB; first | kernel_rfl | omega) | omega | skip)
    (try dsimp only [thenK,blockK,noGotoK])
    refine ⟨trivial,?_⟩
    (refine Sub.of ([]) ([]) ?_ ?_ ?_ rfl rfl <;> simp only [subB,subB1,subT,subT1,newT,subE,subV,subL,go_sem,↓dP,↓reduceIte] <;> (try (repeat' with_reducible apply And.intro)) <;> (try first | exact DEq.refl _ | refine DEq.int ?_ | refine DEq.bool ?_ | omega))
    refine DEq.str ?_
    rw [hsn]
  · intro _
    refine Ok.seq ?_; (((first | refine qS rfl rfl ?_ | refine qR rfl rfl ?_); simp only [go_sem,↓dP,↓reduceIte]; with_reducible and_intros; all_goals first | apply qA | exact ⟨⟩ | rfl | (intros; apply qB; first | kernel_rfl | omega) | omega | skip)); refine Ok.cond rfl (fun hb => by simp at hb) (fun _ => ?_); (refine Ok.exit ?_; simp only [thenK_exit,blockK_exit,noGotoK_exit,thenK_normal,blockK_normal,noGotoK_normal,↓reduceIte,Nat.reduceEqDiff])
    ((first | refine qS rfl rfl ?_ | refine qR rfl rfl ?_); simp only [go_sem,↓dP,↓reduceIte]; with_reducible and_intros; all_goals first | apply qA | exact ⟨⟩ | rfl | (intros; apply qB; first | kernel_rfl | omega) | omega | skip)
    (refine Ok.ret ?_; (try dsimp only [thenK,blockK,noGotoK]); simp only [toList_mk,List.toList_toArray,retK_ret,retK_normal,resOK,resV,celV,rowV,frzAll,frzT,subV,subL,go_sem,↓dP,↓reduceIte])
    refine DEq.str ?_
    rw [List.take_length]
end Go.Proofs.Sight
namespace Go.Proofs.Sight
open Go Go.RX Go.Proofs
set_option maxRecDepth 10000
def rowSum (i : Nat) : Nat → List UInt8 → Nat
  | _,[] => 0
  | k,b :: r => b.toNat * (k + 1) * (i + 1) + rowSum i (k + 1) r
def rowsSum : Nat → List (List UInt8) → Nat
  | _,[] => 0
  | i,r :: l => rowSum i 0 r + rowsSum (i + 1) l
theorem rowSum_snoc (i : Nat) (b : UInt8) : ∀ (r : List UInt8) (k : Nat),rowSum i k (r ++ [b]) = rowSum i k r + b.toNat * (k + r.length + 1) * (i + 1)
  | [],k => by simp [rowSum]
  | c :: r,k => by
    have ih:=rowSum_snoc i b r (k + 1)
    simp only [List.cons_append,rowSum,ih,List.length_cons]
    have : k + 1 + r.length + 1 = k + (r.length + 1) + 1:=by omega
    rw [this]; omega
theorem rowsSum_snoc (r : List UInt8) : ∀ (l : List (List UInt8)) (i : Nat),rowsSum i (l ++ [r]) = rowsSum i l + rowSum (i + l.length) 0 r
  | [],i => by simp [rowsSum]
  | c :: l,i => by
    have ih:=rowsSum_snoc r l (i + 1)
    simp only [List.cons_append,rowsSum,ih,List.length_cons]
    have : i + 1 + l.length = i + (l.length + 1):=by omega
    rw [this]; omega
theorem rowSum_le (i : Nat) (hi : i < 1000) : ∀ (r : List UInt8) (k : Nat),k + r.length ≤ 1000 → rowSum i k r ≤ 255000000 * r.length
  | [],k,_ => by simp [rowSum]
  | c :: r,k,h => by
    simp only [List.length_cons] at h ⊢
    have ih:=rowSum_le i hi r (k + 1) (by omega)
    have hc : c.toNat ≤ 255:=by have:=c.toNat_lt; omega
    have h1 : c.toNat * (k + 1) ≤ 255 * 1000:=Nat.mul_le_mul hc (by omega)
    have h2 : c.toNat * (k + 1) * (i + 1) ≤ 255 * 1000 * 1000:=Nat.mul_le_mul h1 (by omega)
    simp only [rowSum]; omega
theorem rowsSum_le : ∀ (l : List (List UInt8)) (i : Nat),i + l.length ≤ 1000 → (∀ r ∈ l,r.length ≤ 1000) → rowsSum i l ≤ 255000000000 * l.length
  | [],i,_,_ => by simp [rowsSum]
  | r :: l,i,h,hr => by
    simp only [List.length_cons] at h ⊢
    have ih:=rowsSum_le l (i + 1) (by omega) (fun x hx => hr x (List.mem_cons_of_mem _ hx))
    have h1:=hr r (List.mem_cons_self ..)
    have h2:=rowSum_le i (by omega) r 0 (by omega)
    simp only [rowsSum]; omega
def flatL (l : List (List UInt8)) : List UInt8:=l.flatMap (· ++ [10])
theorem flatL_snoc (l : List (List UInt8)) (r : List UInt8) : flatL (l ++ [r]) = flatL l ++ r ++ [10]:=by simp [flatL]
theorem flatL_len : ∀ (l : List (List UInt8)),(∀ r ∈ l,r.length ≤ 1000) → (flatL l).length ≤ 1001 * l.length
  | [],_ => by simp [flatL]
  | r :: l,h => by
    have ih:=flatL_len l (fun x hx => h x (List.mem_cons_of_mem _ hx))
    have h1:=h r (List.mem_cons_self ..)
    simp only [flatL,List.flatMap_cons,List.length_append,List.length_cons,List.length_nil] at ih ⊢
    omega
def endL (c : Nat) : List UInt8:=[101,110,100,32] ++ Lib.decDigits (c / 100) ++ Lib.decDigits (c / 10 % 10) ++ Lib.decDigits (c % 10)
def sealedL (l : List (List UInt8)) : List UInt8:=flatL l ++ endL (rowsSum 0 l % 179) ++ [10]
theorem getD0 (l : List UInt8) (i : Nat) : l.getD i 0 = l.getD i default:=rfl
theorem tdivC (n : Nat) : (n : Int).tdiv 100 = ((n / 100 : Nat) : Int):=by rw [Int.tdiv_eq_ediv_of_nonneg (by omega)]; simp
theorem c108 (l : List (List UInt8)) (hl : l.length ≤ 1000) (hr : ∀ r ∈ l,r.length ≤ 1000) : Ctr Tryz.prog 72 [.d (strsD l),iS 179] (.d (.str (sealedL l))):=by
  (refine Ctr.mk (fn:=Tryz.f72) rfl rfl rfl rfl rfl Tryz.results72 ?_; dsimp only [args,List.toList_toArray])
  ((first | refine qS rfl rfl ?_ | refine qR rfl rfl ?_); simp only [go_sem,↓dP,↓reduceIte]; with_reducible and_intros; all_goals first | apply qA | exact ⟨⟩ | rfl | (intros; apply qB; first | kernel_rfl | omega) | omega | skip)
  ((first | refine qS rfl rfl ?_ | refine qR rfl rfl ?_); simp only [go_sem,↓dP,↓reduceIte]; with_reducible and_intros; all_goals first | apply qA | exact ⟨⟩ | rfl | (intros; apply qB; first | kernel_rfl | omega) | omega | skip)
  refine Ok.seq ?_
  ((first | refine qS rfl rfl ?_ | refine qR rfl rfl ?_); simp only [go_sem,↓dP,↓reduceIte]; with_reducible and_intros; all_goals first | apply qA | exact ⟨⟩ | rfl | (intros; apply qB; first | kernel_rfl | omega) | omega | skip)
  refine Ok.block ?_
  refine Ok.count l.length (fun i => ⟨[(0,.d (strsD l)),(1,iS 179),(5,.d (.str (flatL (l.take i)))),(6,iS (rowsSum 0 (l.take i) : Nat)),(7,iS i)],[],[]⟩) (fun _ => True) ⟨trivial,?_⟩ ?_ ?_
  · (refine Sub.of ([]) ([]) ?_ ?_ ?_ rfl rfl <;> simp only [subB,subB1,subT,subT1,newT,subE,subV,subL,go_sem,↓dP,↓reduceIte] <;> (try (repeat' with_reducible apply And.intro)) <;> (try first | exact DEq.refl _ | refine DEq.int ?_ | refine DEq.bool ?_ | omega))
  · intro i hi _
    have hlen:=hr _ (getD_mem hi)
    have hti : (l.take i).length = i:=by simp; omega
    have hs1:=rowsSum_le (l.take i) 0 (by omega) (fun x hx => hr x (List.mem_of_mem_take hx))
    have hfl:=flatL_len (l.take i) (fun x hx => hr x (List.mem_of_mem_take hx))
    have hsn : rowsSum 0 (l.take (i + 1)) = rowsSum 0 (l.take i) + rowSum i 0 (l.getD i default):=by
      rw [getD_take hi,rowsSum_snoc,hti,Nat.zero_add]
    have hfn : flatL (l.take (i + 1)) = flatL (l.take i) ++ l.getD i default ++ [10]:=by
      rw [getD_take hi,flatL_snoc]
    refine Ok.seq ?_; (((first | refine qS rfl rfl ?_ | refine qR rfl rfl ?_); simp only [go_sem,↓dP,↓reduceIte]; with_reducible and_intros; all_goals first | apply qA | exact ⟨⟩ | rfl | (intros; apply qB; first | kernel_rfl | omega) | omega | skip)); refine Ok.cond rfl (fun _ => ?_) (fun hb => by simp at hb; omega); (refine Ok.skip ?_; (try dsimp only [thenK,blockK,noGotoK])); refine Ok.seq ?_; refine Ok.block ?_
    refine Ok.seq ?_
    ((first | refine qS rfl rfl ?_ | refine qR rfl rfl ?_); simp only [go_sem,↓dP,↓reduceIte]; with_reducible and_intros; all_goals first | apply qA | exact ⟨⟩ | rfl | (intros; apply qB; first | kernel_rfl | omega) | omega | skip)
    refine Ok.block ?_
    refine Ok.count (l.getD i default).length (fun k => ⟨[(0,.d (strsD l)),(1,iS 179),(5,.d (.str (flatL (l.take i)))),(6,iS ((rowsSum 0 (l.take i) : Nat) + (rowSum i 0 ((l.getD i default).take k) : Nat))),(7,iS i),(8,iS k)],[],[]⟩) (fun _ => True) ⟨trivial,?_⟩ ?_ ?_
    · (refine Sub.of ([]) ([]) ?_ ?_ ?_ rfl rfl <;> simp only [subB,subB1,subT,subT1,newT,subE,subV,subL,go_sem,↓dP,↓reduceIte] <;> (try (repeat' with_reducible apply And.intro)) <;> (try first | exact DEq.refl _ | refine DEq.int ?_ | refine DEq.bool ?_ | omega))
    · intro k hk _
      have htk : ((l.getD i default).take k).length = k:=by rw [List.length_take]; omega
      have hs2:=rowSum_le i (by omega) ((l.getD i default).take k) 0 (by omega)
      have hrn : rowSum i 0 ((l.getD i default).take (k + 1)) = rowSum i 0 ((l.getD i default).take k) + ((l.getD i default).getD k 0).toNat * (k + 1) * (i + 1):=by
        rw [getD_take hk,rowSum_snoc,htk,Nat.zero_add,getD0]
      have hb : ((l.getD i default).getD k 0).toNat ≤ 255:=by have:=((l.getD i default).getD k 0).toNat_lt; omega
      have hk2 : (l[i]?.getD default).length = (l.getD i default).length:=by rw [List.getD_eq_getElem?_getD]
      generalize hbb : ((l.getD i default).getD k 0).toNat = b at hrn hb
      have e1:=mulB (a:=(b : Int)) (b:=(k : Int) + 1) (A:=255) (B:=1000) (by omega) (by omega) (by omega) (by omega)
      have e2:=mulB (a:=(b : Int) * ((k : Int) + 1)) (b:=(i : Int) + 1) (A:=255000) (B:=1000) (by omega) (by omega) (by omega) (by omega)
      refine Ok.seq ?_; (((first | refine qS rfl rfl ?_ | refine qR rfl rfl ?_); simp only [go_sem,↓dP,↓reduceIte]; with_reducible and_intros; all_goals first | apply qA | exact ⟨⟩ | rfl | (intros; apply qB; first | kernel_rfl | omega) | omega | skip)); refine Ok.cond rfl (fun _ => ?_) (fun hb => by simp at hb; omega); (refine Ok.skip ?_; (try dsimp only [thenK,blockK,noGotoK])); refine Ok.seq ?_; refine Ok.block ?_
      ((first | refine qS rfl rfl ?_ | refine qR rfl rfl ?_); simp only [go_sem,↓dP,↓reduceIte]; with_reducible and_intros; all_goals first | apply qA | exact ⟨⟩ | rfl | (intros; apply qB; first | kernel_rfl | omega) | omega | skip)
      · rw [hbb]; exact R64 (by omega) (by omega)
      · rw [hbb]; exact R64 (by omega) (by omega)
      · rw [hbb]; exact R64 (by omega) (by omega)
      (try dsimp only [thenK,blockK,noGotoK])
      ((first | refine qS rfl rfl ?_ | refine qR rfl rfl ?_); simp only [go_sem,↓dP,↓reduceIte]; with_reducible and_intros; all_goals first | apply qA | exact ⟨⟩ | rfl | (intros; apply qB; first | kernel_rfl | omega) | omega | skip)
      (try dsimp only [thenK,blockK,noGotoK])
      refine ⟨trivial,?_⟩
      (refine Sub.of ([]) ([]) ?_ ?_ ?_ rfl rfl <;> simp only [subB,subB1,subT,subT1,newT,subE,subV,subL,go_sem,↓dP,↓reduceIte] <;> (try (repeat' with_reducible apply And.intro)) <;> (try first | exact DEq.refl _ | refine DEq.int ?_ | refine DEq.bool ?_ | omega))
      rw [hrn,hbb]
      push_cast
      omega
    · intro _
      refine Ok.seq ?_; (((first | refine qS rfl rfl ?_ | refine qR rfl rfl ?_); simp only [go_sem,↓dP,↓reduceIte]; with_reducible and_intros; all_goals first | apply qA | exact ⟨⟩ | rfl | (intros; apply qB; first | kernel_rfl | omega) | omega | skip)); refine Ok.cond rfl (fun hb => by simp at hb) (fun _ => ?_); (refine Ok.exit ?_; simp only [thenK_exit,blockK_exit,noGotoK_exit,thenK_normal,blockK_normal,noGotoK_normal,↓reduceIte,Nat.reduceEqDiff])
      ((first | refine qS rfl rfl ?_ | refine qR rfl rfl ?_); simp only [go_sem,↓dP,↓reduceIte]; with_reducible and_intros; all_goals first | apply qA | exact ⟨⟩ | rfl | (intros; apply qB; first | kernel_rfl | omega) | omega | skip)
      · simp only [strRoom]; omega
      · simp only [strRoom,List.length_append,List.length_cons,List.length_nil]; omega
      (try dsimp only [thenK,blockK,noGotoK])
      ((first | refine qS rfl rfl ?_ | refine qR rfl rfl ?_); simp only [go_sem,↓dP,↓reduceIte]; with_reducible and_intros; all_goals first | apply qA | exact ⟨⟩ | rfl | (intros; apply qB; first | kernel_rfl | omega) | omega | skip)
      (try dsimp only [thenK,blockK,noGotoK])
      refine ⟨trivial,?_⟩
      (refine Sub.of ([]) ([]) ?_ ?_ ?_ rfl rfl <;> simp only [subB,subB1,subT,subT1,newT,subE,subV,subL,go_sem,↓dP,↓reduceIte] <;> (try (repeat' with_reducible apply And.intro)) <;> (try first | exact DEq.refl _ | refine DEq.int ?_ | refine DEq.bool ?_ | omega))
      · exact DEq.str (by rw [hfn])
      · rw [hsn,List.take_length]
        push_cast
        omega
  · intro _
    have hs1:=rowsSum_le l 0 (by omega) hr
    have hfl:=flatL_len l hr
    rw [List.take_length]
    refine Ok.seq ?_; (((first | refine qS rfl rfl ?_ | refine qR rfl rfl ?_); simp only [go_sem,↓dP,↓reduceIte]; with_reducible and_intros; all_goals first | apply qA | exact ⟨⟩ | rfl | (intros; apply qB; first | kernel_rfl | omega) | omega | skip)); refine Ok.cond rfl (fun hb => by simp at hb) (fun _ => ?_); (refine Ok.exit ?_; simp only [thenK_exit,blockK_exit,noGotoK_exit,thenK_normal,blockK_normal,noGotoK_normal,↓reduceIte,Nat.reduceEqDiff])
    ((first | refine qS rfl rfl ?_ | refine qR rfl rfl ?_); simp only [go_sem,↓dP,↓reduceIte]; with_reducible and_intros; all_goals first | apply qA | exact ⟨⟩ | rfl | (intros; apply qB; first | kernel_rfl | omega) | omega | skip)
    rw [show ((rowsSum 0 l : Nat) : Int).tmod 179 = ((rowsSum 0 l % 179 : Nat) : Int) from by rw [Int.tmod_eq_emod_of_nonneg (by omega)]; simp]
    unfold sealedL
    have hc : rowsSum 0 l % 179 < 179:=Nat.mod_lt _ (by decide)
    generalize rowsSum 0 l % 179 = c at hc
    ((first | refine qS rfl rfl ?_ | refine qR rfl rfl ?_); simp only [go_sem,↓dP,↓reduceIte]; with_reducible and_intros; all_goals first | apply qA | exact ⟨⟩ | rfl | (intros; apply qB; first | kernel_rfl | omega) | omega | skip)
    · simp only [strRoom,List.length_cons,List.length_nil]; omega
    · rw [tdivC]; exact R64 (by omega) (by omega)
    rw [tdivC]
    have l1:=decLen (c / 100) (by omega)
    have l2:=decLen (c / 10 % 10) (by omega)
    have l3:=decLen (c % 10) (by omega)
    (refine AskI.ret (c138 (c / 100) (by omega)) ?_; simp only [go_sem,↓dP,↓reduceIte]; with_reducible and_intros; all_goals first | apply qA | exact ⟨⟩ | rfl | (intros; apply qB; first | kernel_rfl | omega) | omega | skip)
    · simp only [strRoom,List.length_append,List.length_cons,List.length_nil]; omega
    · rw [tdivN]; exact R64 (by omega) (by omega)
    rw [tdivN,tmodN]
    (refine AskI.ret (c138 (c / 10 % 10) (by omega)) ?_; simp only [go_sem,↓dP,↓reduceIte]; with_reducible and_intros; all_goals first | apply qA | exact ⟨⟩ | rfl | (intros; apply qB; first | kernel_rfl | omega) | omega | skip)
    · simp only [strRoom,List.length_append,List.length_cons,List.length_nil]; omega
    rw [tmodN]
    (refine AskI.ret (c138 (c % 10) (by omega)) ?_; simp only [go_sem,↓dP,↓reduceIte]; with_reducible and_intros; all_goals first | apply qA | exact ⟨⟩ | rfl | (intros; apply qB; first | kernel_rfl | omega) | omega | skip)
    · simp only [strRoom,List.length_append,List.length_cons,List.length_nil]; omega
    · simp only [strRoom,List.length_append,List.length_cons,List.length_nil]; omega
    (refine Ok.ret ?_; (try dsimp only [thenK,blockK,noGotoK]); simp only [toList_mk,List.toList_toArray,retK_ret,retK_normal,resOK,resV,celV,rowV,frzAll,frzT,subV,subL,go_sem,↓dP,↓reduceIte])
    refine DEq.str ?_
    simp [endL]
end Go.Proofs.Sight
namespace Go.Proofs.Sight
open Go Go.RX Go.Proofs
set_option maxRecDepth 10000
def sightW : List UInt8:=[115,105,103,104,116]
def boardW : List UInt8:=[98,111,97,114,100]
def letterW : List UInt8:=[108,101,116,116,101,114]
def blockW (sure : Bool) : List UInt8:=[98,108,111,99,107] ++ (if sure then [32,115,117,114,101] else [32,112,101,114,104,97,112,115])
def Street.nums (s : Street) : List Int:=[s.len,s.wid,s.el,s.eh,s.ll,s.lh]
def Letter.nums (x : Letter) : List Int:=[x.h,x.w,x.s,x.p]
def Block.nums (k : Block) : List Int:=[k.al,k.ah,k.cl,k.ch]
def letterRow (x : Letter) : List UInt8:=rowL letterW x.nums
def boardRow (b : Board) : List UInt8:=rowL boardW [b.at_]
def blockRow (k : Block) : List UInt8:=rowL (blockW k.sure) k.nums
def boardRows (b : Board) : List (List UInt8):=boardRow b :: b.ls.map letterRow
def rowsOf (s : Street) : List (List UInt8):=rowL sightW s.nums :: (s.bs.flatMap boardRows ++ s.ks.map blockRow)
structure Street.small (s : Street) : Prop where
  n : ∀ n ∈ s.nums,0 ≤ n ∧ n < 1000000
  b : ∀ b ∈ s.bs,0 ≤ b.at_ ∧ b.at_ < 1000000
  l : ∀ b ∈ s.bs,∀ x ∈ b.ls,∀ n ∈ x.nums,0 ≤ n ∧ n < 1000000
  k : ∀ k ∈ s.ks,∀ n ∈ k.nums,0 ≤ n ∧ n < 1000000
  nr : (s.bs.flatMap boardRows).length + s.ks.length ≤ 600
theorem flat_rows : ∀ bs : List Board,bs.length ≤ (bs.flatMap boardRows).length
  | [] => by simp
  | b :: bs => by
    have:=flat_rows bs
    simp only [List.flatMap_cons,List.length_append,List.length_cons,boardRows]
    omega
theorem Street.small.nb {s : Street} (h : s.small) : s.bs.length ≤ 600:=by
  have:=flat_rows s.bs
  have:=h.nr
  omega
theorem Street.small.nl {s : Street} (h : s.small) : (s.bs.flatMap boardRows).length ≤ 600:=by
  have:=h.nr
  omega
theorem Street.small.nk {s : Street} (h : s.small) : s.ks.length ≤ 600:=by
  have:=h.nr
  omega
theorem take_len_le {α : Type} (l : List α) (i : Nat) : (l.take i).length ≤ l.length:=by rw [List.length_take]; omega
theorem flat_take {α β : Type} [Inhabited α] (f : α → List β) {l : List α} {i : Nat} (h : i < l.length) : (l.take (i + 1)).flatMap f = (l.take i).flatMap f ++ f (l.getD i default):=by
  rw [getD_take h,List.flatMap_append]; simp
theorem flat_take_le {α β : Type} (f : α → List β) (l : List α) (i : Nat) : ((l.take i).flatMap f).length ≤ (l.flatMap f).length:=by
  have h : l.flatMap f = (l.take i).flatMap f ++ (l.drop i).flatMap f:=by rw [← List.flatMap_append,List.take_append_drop]
  rw [h,List.length_append]; omega
theorem c107_6 (w : List UInt8) (hw : w.length ≤ 1000) (a b c d e f : Int) (h : ∀ n ∈ [a,b,c,d,e,f],0 ≤ n ∧ n < 1000000) :
    Ctr Tryz.prog 71 [.d (.str w),.d (.sl 1 6 (fun i j => dget [iD a,iD b,iD c,iD d,iD e,iD f] (i * 1 + j)))] (.d (.str (rowL w [a,b,c,d,e,f]))) :=
  (c107 w [a,b,c,d,e,f] h hw (by simp)).args ⟨.refl _,ints_D [a,b,c,d,e,f],trivial⟩
theorem c107_4 (w : List UInt8) (hw : w.length ≤ 1000) (a b c d : Int) (h : ∀ n ∈ [a,b,c,d],0 ≤ n ∧ n < 1000000) :
    Ctr Tryz.prog 71 [.d (.str w),.d (.sl 1 4 (fun i j => dget [iD a,iD b,iD c,iD d] (i * 1 + j)))] (.d (.str (rowL w [a,b,c,d]))) :=
  (c107 w [a,b,c,d] h hw (by simp)).args ⟨.refl _,ints_D [a,b,c,d],trivial⟩
theorem c107_1 (w : List UInt8) (hw : w.length ≤ 1000) (a : Int) (h : ∀ n ∈ [a],0 ≤ n ∧ n < 1000000) :
    Ctr Tryz.prog 71 [.d (.str w),.d (.sl 1 1 (fun i j => dget [iD a] (i * 1 + j)))] (.d (.str (rowL w [a]))) :=
  (c107 w [a] h hw (by simp)).args ⟨.refl _,ints_D [a],trivial⟩
def rowsB (s : Street) (i : Nat) : List (List UInt8):=rowL sightW s.nums :: (s.bs.take i).flatMap boardRows
theorem rowsB_len (s : Street) (i : Nat) (h : s.small) : (rowsB s i).length ≤ 601:=by
  have:=flat_take_le boardRows s.bs i
  have:=h.nl
  simp only [rowsB,List.length_cons]; omega
theorem rowsB_succ (s : Street) {i : Nat} (h : i < s.bs.length) : rowsB s (i + 1) = rowsB s i ++ boardRows (s.bs.getD i default):=by
  simp only [rowsB,flat_take boardRows h,List.cons_append]
def rowsL (s : Street) (i j : Nat) : List (List UInt8):=rowsB s i ++ boardRow (s.bs.getD i default) :: ((s.bs.getD i default).ls.take j).map letterRow
theorem rowsL_zero (s : Street) (i : Nat) : rowsL s i 0 = rowsB s i ++ [boardRow (s.bs.getD i default)]:=by simp [rowsL]
theorem rowsL_succ (s : Street) (i : Nat) {j : Nat} (h : j < (s.bs.getD i default).ls.length) : rowsL s i (j + 1) = rowsL s i j ++ [letterRow ((s.bs.getD i default).ls.getD j default)]:=by
  simp only [rowsL,map_snoc letterRow h,List.append_assoc,List.cons_append]
theorem rowsL_all (s : Street) {i : Nat} (h : i < s.bs.length) : rowsL s i (s.bs.getD i default).ls.length = rowsB s (i + 1):=by
  rw [rowsB_succ s h,rowsL,List.take_length]; rfl
theorem rowsL_len (s : Street) {i j : Nat} (h : i < s.bs.length) (hs : s.small) : (rowsL s i j).length ≤ 601:=by
  have h1:=rowsB_len s (i + 1) hs
  rw [rowsB_succ s h] at h1
  have:=take_len_le (s.bs.getD i default).ls j
  simp only [rowsL,boardRows,List.length_append,List.length_cons,List.length_map] at h1 ⊢
  omega
def rowsK (s : Street) (i : Nat) : List (List UInt8):=rowsB s s.bs.length ++ (s.ks.take i).map blockRow
theorem rowsK_len (s : Street) (i : Nat) (hs : s.small) : (rowsK s i).length ≤ 601:=by
  have h1:=hs.nr
  have h2:=flat_take_le boardRows s.bs s.bs.length
  have:=take_len_le s.ks i
  simp only [rowsK,rowsB,List.length_append,List.length_map,List.length_cons]; omega
theorem rowsK_zero (s : Street) : rowsK s 0 = rowsB s s.bs.length:=by simp [rowsK]
theorem rowsK_succ (s : Street) {i : Nat} (h : i < s.ks.length) : rowsK s (i + 1) = rowsK s i ++ [blockRow (s.ks.getD i default)]:=by
  simp only [rowsK,map_snoc blockRow h,List.append_assoc]
theorem rowsK_all (s : Street) : rowsK s s.ks.length = rowsOf s:=by simp [rowsK,rowsB,rowsOf]
theorem nums_len (ns : List Int) (h : ∀ n ∈ ns,0 ≤ n ∧ n < 1000000) (w : List UInt8) (hw : w.length ≤ 20) (hn : ns.length ≤ 6) : (rowL w ns).length ≤ 1000:=by
  have:=rowL_len w ns h
  omega
theorem rows_short (s : Street) (hs : s.small) : ∀ r ∈ rowsOf s,r.length ≤ 1000:=by
  intro r hr
  simp only [rowsOf,List.mem_cons,List.mem_append,List.mem_flatMap,List.mem_map,boardRows] at hr
  rcases hr with rfl | ⟨b,hb,rfl | ⟨x,hx,rfl⟩⟩ | ⟨k,hk,rfl⟩
  · exact nums_len _ hs.n _ (by decide) (Nat.le_refl 6)
  · exact nums_len _ (fun n hn => by simp at hn; subst hn; exact hs.b b hb) _ (by decide) (by simp)
  · exact nums_len _ (hs.l b hb x hx) _ (by decide) (Nat.le_succ_of_le (Nat.le_succ_of_le (Nat.le_refl 4)))
  · exact nums_len _ (hs.k k hk) _ (by unfold blockW; cases k.sure <;> decide) (Nat.le_succ_of_le (Nat.le_succ_of_le (Nat.le_refl 4)))
theorem str_snoc (x : List UInt8) : ∀ c,c < 1 → dget [DV.str x] c = strD x c:=fun c hc => by
  have : c = 0:=by omega
  subst this; rfl
theorem c65 (s : Street) (hs : s.small) : Ctr Tryz.prog 35 [s.sv] (.d (.str (sealedL (rowsOf s)))):=by
  have hnb:=hs.nb
  have hnk:=hs.nk
  (refine Ctr.mk (fn:=Tryz.f35) rfl rfl rfl rfl rfl Tryz.results35 ?_; dsimp only [args,List.toList_toArray])
  ((first | refine qS rfl rfl ?_ | refine qR rfl rfl ?_); simp only [go_sem,↓dP,↓reduceIte]; with_reducible and_intros; all_goals first | apply qA | exact ⟨⟩ | rfl | (intros; apply qB; first | kernel_rfl | omega) | omega | skip)
  ((first | refine qS rfl rfl ?_ | refine qR rfl rfl ?_); simp only [go_sem,↓dP,↓reduceIte]; with_reducible and_intros; all_goals first | apply qA | exact ⟨⟩ | rfl | (intros; apply qB; first | kernel_rfl | omega) | omega | skip)
  (refine AskI.ret (c107_6 sightW (by decide) _ _ _ _ _ _ hs.n) ?_; simp only [go_sem,↓dP,↓reduceIte]; with_reducible and_intros; all_goals first | apply qA | exact ⟨⟩ | rfl | (intros; apply qB; first | kernel_rfl | omega) | omega | skip)
  refine Ok.seq ?_
  ((first | refine qS rfl rfl ?_ | refine qR rfl rfl ?_); simp only [go_sem,↓dP,↓reduceIte]; with_reducible and_intros; all_goals first | apply qA | exact ⟨⟩ | rfl | (intros; apply qB; first | kernel_rfl | omega) | omega | skip)
  refine Ok.block ?_
  refine Ok.count s.bs.length (fun i => ⟨[(1,.p 0 0),(3,.tk 0),(4,iS i)],[streetB s],[ownD 9 1 strD (rowsB s i)]⟩) (fun _ => True) ⟨trivial,?_⟩ ?_ ?_
  · (refine Sub.of ([0]) ([some 0]) ?_ ?_ ?_ rfl rfl <;> simp only [subB,subB1,subT,subT1,newT,subE,subV,subL,go_sem,↓dP,↓reduceIte] <;> (try (repeat' with_reducible apply And.intro)) <;> (try first | exact DEq.refl _ | refine DEq.int ?_ | refine DEq.bool ?_ | omega))
    · rfl
    · intro i j hi hj
      have h1 : i = 0:=by omega
      have h2 : j = 0:=by omega
      subst h1; subst h2
      exact .refl _
  · intro i hi _
    have hl:=rowsB_len s i hs
    have hb:=hs.b _ (getD_mem hi)
    have hnl : (s.bs.getD i default).ls.length ≤ 601:=by
      have:=rowsL_len s (j:=(s.bs.getD i default).ls.length) hi hs
      simp only [rowsL,List.length_append,List.length_cons,List.length_map,List.take_length] at this
      omega
    refine Ok.seq ?_; (((first | refine qS rfl rfl ?_ | refine qR rfl rfl ?_); simp only [go_sem,↓dP,↓reduceIte]; with_reducible and_intros; all_goals first | apply qA | exact ⟨⟩ | rfl | (intros; apply qB; first | kernel_rfl | omega) | omega | skip)); refine Ok.cond rfl (fun _ => ?_) (fun hb => by simp at hb; omega); (refine Ok.skip ?_; (try dsimp only [thenK,blockK,noGotoK])); refine Ok.seq ?_; refine Ok.block ?_
    ((first | refine qS rfl rfl ?_ | refine qR rfl rfl ?_); simp only [go_sem,↓dP,↓reduceIte]; with_reducible and_intros; all_goals first | apply qA | exact ⟨⟩ | rfl | (intros; apply qB; first | kernel_rfl | omega) | omega | skip)
    ((first | refine qS rfl rfl ?_ | refine qR rfl rfl ?_); simp only [go_sem,↓dP,↓reduceIte]; with_reducible and_intros; all_goals first | apply qA | exact ⟨⟩ | rfl | (intros; apply qB; first | kernel_rfl | omega) | omega | skip)
    (refine AskI.ret (c107_1 boardW (by decide) _ (fun n hn => by simp at hn; subst hn; exact hb)) ?_; simp only [go_sem,↓dP,↓reduceIte]; with_reducible and_intros; all_goals first | apply qA | exact ⟨⟩ | rfl | (intros; apply qB; first | kernel_rfl | omega) | omega | skip)
    refine Ok.seq ?_
    ((first | refine qS rfl rfl ?_ | refine qR rfl rfl ?_); simp only [go_sem,↓dP,↓reduceIte]; with_reducible and_intros; all_goals first | apply qA | exact ⟨⟩ | rfl | (intros; apply qB; first | kernel_rfl | omega) | omega | skip)
    refine Ok.block ?_
    refine Ok.count (s.bs.getD i default).ls.length (fun j => ⟨[(1,.p 0 0),(3,.tk 0),(4,iS i),(5,.p 1 0),(6,iS j)],[streetB s,boardB (s.bs.getD i default)],[ownD 9 1 strD (rowsL s i j)]⟩) (fun _ => True) ⟨trivial,?_⟩ ?_ ?_
    · (refine Sub.of ([0,1]) ([some 2]) ?_ ?_ ?_ rfl rfl <;> simp only [subB,subB1,subT,subT1,newT,subE,subV,subL,go_sem,↓dP,↓reduceIte] <;> (try (repeat' with_reducible apply And.intro)) <;> (try first | exact DEq.refl _ | refine DEq.int ?_ | refine DEq.bool ?_ | omega))
      · rw [rowsL_zero]; simp
      · rw [rowsL_zero]
        exact snoc_D (str_snoc _)
    · intro j hj _
      have hl2:=rowsL_len s (j:=j) hi hs
      have hx:=hs.l _ (getD_mem hi) _ (getD_mem hj)
      have hk2 : (s.bs[i]?.getD default).ls.length = (s.bs.getD i default).ls.length:=by rw [List.getD_eq_getElem?_getD]
      refine Ok.seq ?_; (((first | refine qS rfl rfl ?_ | refine qR rfl rfl ?_); simp only [go_sem,↓dP,↓reduceIte]; with_reducible and_intros; all_goals first | apply qA | exact ⟨⟩ | rfl | (intros; apply qB; first | kernel_rfl | omega) | omega | skip)); refine Ok.cond rfl (fun _ => ?_) (fun hb => by simp at hb; omega); (refine Ok.skip ?_; (try dsimp only [thenK,blockK,noGotoK])); refine Ok.seq ?_; refine Ok.block ?_
      ((first | refine qS rfl rfl ?_ | refine qR rfl rfl ?_); simp only [go_sem,↓dP,↓reduceIte]; with_reducible and_intros; all_goals first | apply qA | exact ⟨⟩ | rfl | (intros; apply qB; first | kernel_rfl | omega) | omega | skip)
      ((first | refine qS rfl rfl ?_ | refine qR rfl rfl ?_); simp only [go_sem,↓dP,↓reduceIte]; with_reducible and_intros; all_goals first | apply qA | exact ⟨⟩ | rfl | (intros; apply qB; first | kernel_rfl | omega) | omega | skip)
      (refine AskI.ret (c107_4 letterW (by decide) _ _ _ _ hx) ?_; simp only [go_sem,↓dP,↓reduceIte]; with_reducible and_intros; all_goals first | apply qA | exact ⟨⟩ | rfl | (intros; apply qB; first | kernel_rfl | omega) | omega | skip)
      (try dsimp only [thenK,blockK,noGotoK])
      ((first | refine qS rfl rfl ?_ | refine qR rfl rfl ?_); simp only [go_sem,↓dP,↓reduceIte]; with_reducible and_intros; all_goals first | apply qA | exact ⟨⟩ | rfl | (intros; apply qB; first | kernel_rfl | omega) | omega | skip)
      (try dsimp only [thenK,blockK,noGotoK])
      refine ⟨trivial,?_⟩
      (refine Sub.of ([0,1]) ([some 2]) ?_ ?_ ?_ rfl rfl <;> simp only [subB,subB1,subT,subT1,newT,subE,subV,subL,go_sem,↓dP,↓reduceIte] <;> (try (repeat' with_reducible apply And.intro)) <;> (try first | exact DEq.refl _ | refine DEq.int ?_ | refine DEq.bool ?_ | omega))
      · rw [rowsL_succ s i hj]; simp
      · rw [rowsL_succ s i hj]
        exact snoc_D (str_snoc _)
    · intro _
      refine Ok.seq ?_; (((first | refine qS rfl rfl ?_ | refine qR rfl rfl ?_); simp only [go_sem,↓dP,↓reduceIte]; with_reducible and_intros; all_goals first | apply qA | exact ⟨⟩ | rfl | (intros; apply qB; first | kernel_rfl | omega) | omega | skip)); refine Ok.cond rfl (fun hb => by simp at hb) (fun _ => ?_); (refine Ok.exit ?_; simp only [thenK_exit,blockK_exit,noGotoK_exit,thenK_normal,blockK_normal,noGotoK_normal,↓reduceIte,Nat.reduceEqDiff])
      (try dsimp only [thenK,blockK,noGotoK])
      ((first | refine qS rfl rfl ?_ | refine qR rfl rfl ?_); simp only [go_sem,↓dP,↓reduceIte]; with_reducible and_intros; all_goals first | apply qA | exact ⟨⟩ | rfl | (intros; apply qB; first | kernel_rfl | omega) | omega | skip)
      (try dsimp only [thenK,blockK,noGotoK])
      refine ⟨trivial,?_⟩
      rw [rowsL_all s hi]
      (refine Sub.of ([0]) ([some 0]) ?_ ?_ ?_ rfl rfl <;> simp only [subB,subB1,subT,subT1,newT,subE,subV,subL,go_sem,↓dP,↓reduceIte] <;> (try (repeat' with_reducible apply And.intro)) <;> (try first | exact DEq.refl _ | refine DEq.int ?_ | refine DEq.bool ?_ | omega))
      exact fun _ _ _ _ => DEq.refl _
  · intro _
    refine Ok.seq ?_; (((first | refine qS rfl rfl ?_ | refine qR rfl rfl ?_); simp only [go_sem,↓dP,↓reduceIte]; with_reducible and_intros; all_goals first | apply qA | exact ⟨⟩ | rfl | (intros; apply qB; first | kernel_rfl | omega) | omega | skip)); refine Ok.cond rfl (fun hb => by simp at hb) (fun _ => ?_); (refine Ok.exit ?_; simp only [thenK_exit,blockK_exit,noGotoK_exit,thenK_normal,blockK_normal,noGotoK_normal,↓reduceIte,Nat.reduceEqDiff])
    refine Ok.seq ?_
    ((first | refine qS rfl rfl ?_ | refine qR rfl rfl ?_); simp only [go_sem,↓dP,↓reduceIte]; with_reducible and_intros; all_goals first | apply qA | exact ⟨⟩ | rfl | (intros; apply qB; first | kernel_rfl | omega) | omega | skip)
    refine Ok.block ?_
    refine Ok.count s.ks.length (fun i => ⟨[(1,.p 0 0),(3,.tk 0),(8,iS i)],[streetB s],[ownD 9 1 strD (rowsK s i)]⟩) (fun _ => True) ⟨trivial,?_⟩ ?_ ?_
    · rw [rowsK_zero]
      (refine Sub.of ([0]) ([some 0]) ?_ ?_ ?_ rfl rfl <;> simp only [subB,subB1,subT,subT1,newT,subE,subV,subL,go_sem,↓dP,↓reduceIte] <;> (try (repeat' with_reducible apply And.intro)) <;> (try first | exact DEq.refl _ | refine DEq.int ?_ | refine DEq.bool ?_ | omega))
      exact fun _ _ _ _ => DEq.refl _
    · intro i hi _
      have hl:=rowsK_len s i hs
      have hx:=hs.k _ (getD_mem hi)
      refine Ok.seq ?_; (((first | refine qS rfl rfl ?_ | refine qR rfl rfl ?_); simp only [go_sem,↓dP,↓reduceIte]; with_reducible and_intros; all_goals first | apply qA | exact ⟨⟩ | rfl | (intros; apply qB; first | kernel_rfl | omega) | omega | skip)); refine Ok.cond rfl (fun _ => ?_) (fun hb => by simp at hb; omega); (refine Ok.skip ?_; (try dsimp only [thenK,blockK,noGotoK])); refine Ok.seq ?_; refine Ok.block ?_
      ((first | refine qS rfl rfl ?_ | refine qR rfl rfl ?_); simp only [go_sem,↓dP,↓reduceIte]; with_reducible and_intros; all_goals first | apply qA | exact ⟨⟩ | rfl | (intros; apply qB; first | kernel_rfl | omega) | omega | skip)
      ((first | refine qS rfl rfl ?_ | refine qR rfl rfl ?_); simp only [go_sem,↓dP,↓reduceIte]; with_reducible and_intros; all_goals first | apply qA | exact ⟨⟩ | rfl | (intros; apply qB; first | kernel_rfl | omega) | omega | skip)
      refine Ok.seq ?_
      ((first | refine qS rfl rfl ?_ | refine qR rfl rfl ?_); simp only [go_sem,↓dP,↓reduceIte]; with_reducible and_intros; all_goals first | apply qA | exact ⟨⟩ | rfl | (intros; apply qB; first | kernel_rfl | omega) | omega | skip)
      refine Ok.cond rfl ?_ ?_
      · intro hb
        have hr : blockRow (s.ks.getD i default) = rowL [98,108,111,99,107,32,115,117,114,101] (s.ks.getD i default).nums:=by
          simp only [blockRow,hb,blockW,if_true]; rfl
        ((first | refine qS rfl rfl ?_ | refine qR rfl rfl ?_); simp only [go_sem,↓dP,↓reduceIte]; with_reducible and_intros; all_goals first | apply qA | exact ⟨⟩ | rfl | (intros; apply qB; first | kernel_rfl | omega) | omega | skip)
        ((first | refine qS rfl rfl ?_ | refine qR rfl rfl ?_); simp only [go_sem,↓dP,↓reduceIte]; with_reducible and_intros; all_goals first | apply qA | exact ⟨⟩ | rfl | (intros; apply qB; first | kernel_rfl | omega) | omega | skip)
        (refine AskI.ret (c107_4 _ (by decide) _ _ _ _ hx) ?_; simp only [go_sem,↓dP,↓reduceIte]; with_reducible and_intros; all_goals first | apply qA | exact ⟨⟩ | rfl | (intros; apply qB; first | kernel_rfl | omega) | omega | skip)
        (try dsimp only [thenK,blockK,noGotoK])
        ((first | refine qS rfl rfl ?_ | refine qR rfl rfl ?_); simp only [go_sem,↓dP,↓reduceIte]; with_reducible and_intros; all_goals first | apply qA | exact ⟨⟩ | rfl | (intros; apply qB; first | kernel_rfl | omega) | omega | skip)
        (try dsimp only [thenK,blockK,noGotoK])
        refine ⟨trivial,?_⟩
        (refine Sub.of ([0]) ([some 2]) ?_ ?_ ?_ rfl rfl <;> simp only [subB,subB1,subT,subT1,newT,subE,subV,subL,go_sem,↓dP,↓reduceIte] <;> (try (repeat' with_reducible apply And.intro)) <;> (try first | exact DEq.refl _ | refine DEq.int ?_ | refine DEq.bool ?_ | omega))
        · rw [rowsK_succ s hi]; simp
        · rw [rowsK_succ s hi,hr]
          exact snoc_D (str_snoc _)
      · intro hb
        have hr : blockRow (s.ks.getD i default) = rowL [98,108,111,99,107,32,112,101,114,104,97,112,115] (s.ks.getD i default).nums:=by
          simp only [blockRow,hb,blockW]; rfl
        (refine Ok.skip ?_; (try dsimp only [thenK,blockK,noGotoK]))
        ((first | refine qS rfl rfl ?_ | refine qR rfl rfl ?_); simp only [go_sem,↓dP,↓reduceIte]; with_reducible and_intros; all_goals first | apply qA | exact ⟨⟩ | rfl | (intros; apply qB; first | kernel_rfl | omega) | omega | skip)
        (refine AskI.ret (c107_4 _ (by decide) _ _ _ _ hx) ?_; simp only [go_sem,↓dP,↓reduceIte]; with_reducible and_intros; all_goals first | apply qA | exact ⟨⟩ | rfl | (intros; apply qB; first | kernel_rfl | omega) | omega | skip)
        (try dsimp only [thenK,blockK,noGotoK])
        ((first | refine qS rfl rfl ?_ | refine qR rfl rfl ?_); simp only [go_sem,↓dP,↓reduceIte]; with_reducible and_intros; all_goals first | apply qA | exact ⟨⟩ | rfl | (intros; apply qB; first | kernel_rfl | omega) | omega | skip)
        (try dsimp only [thenK,blockK,noGotoK])
        refine ⟨trivial,?_⟩
        (refine Sub.of ([0]) ([some 2]) ?_ ?_ ?_ rfl rfl <;> simp only [subB,subB1,subT,subT1,newT,subE,subV,subL,go_sem,↓dP,↓reduceIte] <;> (try (repeat' with_reducible apply And.intro)) <;> (try first | exact DEq.refl _ | refine DEq.int ?_ | refine DEq.bool ?_ | omega))
        · rw [rowsK_succ s hi]; simp
        · rw [rowsK_succ s hi,hr]
          exact snoc_D (str_snoc _)
    · intro _
      rw [rowsK_all]
      refine Ok.seq ?_; (((first | refine qS rfl rfl ?_ | refine qR rfl rfl ?_); simp only [go_sem,↓dP,↓reduceIte]; with_reducible and_intros; all_goals first | apply qA | exact ⟨⟩ | rfl | (intros; apply qB; first | kernel_rfl | omega) | omega | skip)); refine Ok.cond rfl (fun hb => by simp at hb) (fun _ => ?_); (refine Ok.exit ?_; simp only [thenK_exit,blockK_exit,noGotoK_exit,thenK_normal,blockK_normal,noGotoK_normal,↓reduceIte,Nat.reduceEqDiff])
      ((first | refine qS rfl rfl ?_ | refine qR rfl rfl ?_); simp only [go_sem,↓dP,↓reduceIte]; with_reducible and_intros; all_goals first | apply qA | exact ⟨⟩ | rfl | (intros; apply qB; first | kernel_rfl | omega) | omega | skip)
      (refine AskI.ret (c108 _ (by have:=rowsK_len s s.ks.length hs; rw [rowsK_all] at this; omega) (rows_short s hs)) ?_; simp only [go_sem,↓dP,↓reduceIte]; with_reducible and_intros; all_goals first | apply qA | exact ⟨⟩ | rfl | (intros; apply qB; first | kernel_rfl | omega) | omega | skip)
      (refine Ok.ret ?_; (try dsimp only [thenK,blockK,noGotoK]); simp only [toList_mk,List.toList_toArray,retK_ret,retK_normal,resOK,resV,celV,rowV,frzAll,frzT,subV,subL,go_sem,↓dP,↓reduceIte])
      ((repeat' with_reducible apply And.intro) <;> (first | exact DEq.refl _ | refine DEq.int ?_ | refine DEq.bool ?_ | skip))
end Go.Proofs.Sight
namespace Go.Proofs.Sight
open Go Go.RX Go.Proofs
set_option maxRecDepth 10000
theorem c137 : Ctr Tryz.prog 110 [] (.agg [.d (.str sightW),.d (.str boardW),.d (.str letterW),.d (.str [98,108,111,99,107])]):=by
  (refine Ctr.mk (fn:=Tryz.f110) rfl rfl rfl rfl rfl Tryz.results110 ?_; dsimp only [args,List.toList_toArray])
  ((first | refine qS rfl rfl ?_ | refine qR rfl rfl ?_); simp only [go_sem,↓dP,↓reduceIte]; with_reducible and_intros; all_goals first | apply qA | exact ⟨⟩ | rfl | (intros; apply qB; first | kernel_rfl | omega) | omega | skip)
  ((first | refine qS rfl rfl ?_ | refine qR rfl rfl ?_); simp only [go_sem,↓dP,↓reduceIte]; with_reducible and_intros; all_goals first | apply qA | exact ⟨⟩ | rfl | (intros; apply qB; first | kernel_rfl | omega) | omega | skip)
  (refine Ok.ret ?_; (try dsimp only [thenK,blockK,noGotoK]); simp only [toList_mk,List.toList_toArray,retK_ret,retK_normal,resOK,resV,celV,rowV,frzAll,frzT,subV,subL,go_sem,↓dP,↓reduceIte])
  exact ⟨.refl _,.refl _,.refl _,.refl _⟩
theorem c202 (s : Street) : Ctr Tryz.prog 181 [s.sv] (.d (slD 1 intD s.nums)):=by
  (refine Ctr.mk (fn:=Tryz.f181) rfl rfl rfl rfl rfl Tryz.results181 ?_; dsimp only [args,List.toList_toArray])
  ((first | refine qS rfl rfl ?_ | refine qR rfl rfl ?_); simp only [go_sem,↓dP,↓reduceIte]; with_reducible and_intros; all_goals first | apply qA | exact ⟨⟩ | rfl | (intros; apply qB; first | kernel_rfl | omega) | omega | skip)
  ((first | refine qS rfl rfl ?_ | refine qR rfl rfl ?_); simp only [go_sem,↓dP,↓reduceIte]; with_reducible and_intros; all_goals first | apply qA | exact ⟨⟩ | rfl | (intros; apply qB; first | kernel_rfl | omega) | omega | skip)
  (refine Ok.ret ?_; (try dsimp only [thenK,blockK,noGotoK]); simp only [toList_mk,List.toList_toArray,retK_ret,retK_normal,resOK,resV,celV,rowV,frzAll,frzT,subV,subL,go_sem,↓dP,↓reduceIte])
  exact ints_D s.nums
theorem c203 (b : Board) : Ctr Tryz.prog 182 [b.sv] (.d (slD 1 intD [b.at_])):=by
  (refine Ctr.mk (fn:=Tryz.f182) rfl rfl rfl rfl rfl Tryz.results182 ?_; dsimp only [args,List.toList_toArray])
  ((first | refine qS rfl rfl ?_ | refine qR rfl rfl ?_); simp only [go_sem,↓dP,↓reduceIte]; with_reducible and_intros; all_goals first | apply qA | exact ⟨⟩ | rfl | (intros; apply qB; first | kernel_rfl | omega) | omega | skip)
  ((first | refine qS rfl rfl ?_ | refine qR rfl rfl ?_); simp only [go_sem,↓dP,↓reduceIte]; with_reducible and_intros; all_goals first | apply qA | exact ⟨⟩ | rfl | (intros; apply qB; first | kernel_rfl | omega) | omega | skip)
  (refine Ok.ret ?_; (try dsimp only [thenK,blockK,noGotoK]); simp only [toList_mk,List.toList_toArray,retK_ret,retK_normal,resOK,resV,celV,rowV,frzAll,frzT,subV,subL,go_sem,↓dP,↓reduceIte])
  exact ints_D [b.at_]
theorem c204 (x : Letter) : Ctr Tryz.prog 183 [x.sv] (.d (slD 1 intD x.nums)):=by
  (refine Ctr.mk (fn:=Tryz.f183) rfl rfl rfl rfl rfl Tryz.results183 ?_; dsimp only [args,List.toList_toArray])
  ((first | refine qS rfl rfl ?_ | refine qR rfl rfl ?_); simp only [go_sem,↓dP,↓reduceIte]; with_reducible and_intros; all_goals first | apply qA | exact ⟨⟩ | rfl | (intros; apply qB; first | kernel_rfl | omega) | omega | skip)
  ((first | refine qS rfl rfl ?_ | refine qR rfl rfl ?_); simp only [go_sem,↓dP,↓reduceIte]; with_reducible and_intros; all_goals first | apply qA | exact ⟨⟩ | rfl | (intros; apply qB; first | kernel_rfl | omega) | omega | skip)
  (refine Ok.ret ?_; (try dsimp only [thenK,blockK,noGotoK]); simp only [toList_mk,List.toList_toArray,retK_ret,retK_normal,resOK,resV,celV,rowV,frzAll,frzT,subV,subL,go_sem,↓dP,↓reduceIte])
  exact ints_D x.nums
theorem c205 (k : Block) : Ctr Tryz.prog 184 [k.sv] (.d (slD 1 intD k.nums)):=by
  (refine Ctr.mk (fn:=Tryz.f184) rfl rfl rfl rfl rfl Tryz.results184 ?_; dsimp only [args,List.toList_toArray])
  ((first | refine qS rfl rfl ?_ | refine qR rfl rfl ?_); simp only [go_sem,↓dP,↓reduceIte]; with_reducible and_intros; all_goals first | apply qA | exact ⟨⟩ | rfl | (intros; apply qB; first | kernel_rfl | omega) | omega | skip)
  ((first | refine qS rfl rfl ?_ | refine qR rfl rfl ?_); simp only [go_sem,↓dP,↓reduceIte]; with_reducible and_intros; all_goals first | apply qA | exact ⟨⟩ | rfl | (intros; apply qB; first | kernel_rfl | omega) | omega | skip)
  (refine Ok.ret ?_; (try dsimp only [thenK,blockK,noGotoK]); simp only [toList_mk,List.toList_toArray,retK_ret,retK_normal,resOK,resV,celV,rowV,frzAll,frzT,subV,subL,go_sem,↓dP,↓reduceIte])
  exact ints_D k.nums
def Letter.cells (x : Letter) : List DV:=[iD x.h,iD x.w,iD x.s,iD x.p]
def Board.cells (b : Board) : List DV:=[iD b.at_,slD 4 letD b.ls]
def Block.cells (k : Block) : List DV:=[iD k.al,iD k.ah,iD k.cl,iD k.ch,.bool k.sure]
theorem c131h (s : Street) (hns : ∀ n ∈ s.nums,0 ≤ n ∧ n < 1000000) : Ctr Tryz.prog 104 [.d (.ifc 148 8 (dget s.cells))] (.d (.str (rowL sightW s.nums))):=by
  have hlen : (s.nums).length ≤ 6:=by simp [Street.nums,Letter.nums,Block.nums]
  unfold Street.cells
  (refine Ctr.mk (fn:=Tryz.f104) rfl rfl rfl rfl rfl Tryz.results104 ?_; dsimp only [args,List.toList_toArray])
  ((first | refine qS rfl rfl ?_ | refine qR rfl rfl ?_); simp only [go_sem,↓dP,↓reduceIte]; with_reducible and_intros; all_goals first | apply qA | exact ⟨⟩ | rfl | (intros; apply qB; first | kernel_rfl | omega) | omega | skip)
  ((first | refine qS rfl rfl ?_ | refine qR rfl rfl ?_); simp only [go_sem,↓dP,↓reduceIte]; with_reducible and_intros; all_goals first | apply qA | exact ⟨⟩ | rfl | (intros; apply qB; first | kernel_rfl | omega) | omega | skip)
  refine Ok.seq ?_
  ((first | refine qS rfl rfl ?_ | refine qR rfl rfl ?_); simp only [go_sem,↓dP,↓reduceIte]; with_reducible and_intros; all_goals first | apply qA | exact ⟨⟩ | rfl | (intros; apply qB; first | kernel_rfl | omega) | omega | skip)
  refine Ok.block ?_
  ((first | refine qS rfl rfl ?_ | refine qR rfl rfl ?_); simp only [go_sem,↓dP,↓reduceIte]; with_reducible and_intros; all_goals first | apply qA | exact ⟨⟩ | rfl | (intros; apply qB; first | kernel_rfl | omega) | omega | skip)
  refine Ok.cond (b:=true) (by first | rfl | (simp only [go_sem,↓dP,↓reduceIte]; rfl)) (fun _ => ?_) (fun hb => by cases hb)
  ((first | refine qS rfl rfl ?_ | refine qR rfl rfl ?_); simp only [go_sem,↓dP,↓reduceIte]; with_reducible and_intros; all_goals first | apply qA | exact ⟨⟩ | rfl | (intros; apply qB; first | kernel_rfl | omega) | omega | skip)
  ((first | refine qS rfl rfl ?_ | refine qR rfl rfl ?_); simp only [go_sem,↓dP,↓reduceIte]; with_reducible and_intros; all_goals first | apply qA | exact ⟨⟩ | rfl | (intros; apply qB; first | kernel_rfl | omega) | omega | skip)
  (refine AskI.ret (c137) ?_; simp only [go_sem,↓dP,↓reduceIte]; with_reducible and_intros; all_goals first | apply qA | exact ⟨⟩ | rfl | (intros; apply qB; first | kernel_rfl | omega) | omega | skip)

  (try dsimp only [thenK,blockK,noGotoK])
  refine Ok.seq ?_
  ((first | refine qS rfl rfl ?_ | refine qR rfl rfl ?_); simp only [go_sem,↓dP,↓reduceIte]; with_reducible and_intros; all_goals first | apply qA | exact ⟨⟩ | rfl | (intros; apply qB; first | kernel_rfl | omega) | omega | skip)
  (refine AskI.ret (c202 s) ?_; simp only [go_sem,↓dP,↓reduceIte]; with_reducible and_intros; all_goals first | apply qA | exact ⟨⟩ | rfl | (intros; apply qB; first | kernel_rfl | omega) | omega | skip)
  have hw : (sightW : List UInt8).length ≤ 20:=by decide
  refine Ok.block ?_
  generalize hNS : s.nums = ns at hns hlen ⊢
  generalize hW : sightW = wd at hw ⊢
  refine Ok.count ns.length (fun i => ⟨[(3,.d (.str (rowL wd (ns.take i)))),(39,.d (slD 1 intD ns)),(40,iS ns.length),(41,iS i)],[],[]⟩) (fun _ => True) ⟨trivial,?_⟩ ?_ ?_
  · (refine Sub.of ([]) ([]) ?_ ?_ ?_ rfl rfl <;> simp only [subB,subB1,subT,subT1,newT,subE,subV,subL,go_sem,↓dP,↓reduceIte] <;> (try (repeat' with_reducible apply And.intro)) <;> (try first | exact DEq.refl _ | refine DEq.int ?_ | refine DEq.bool ?_ | omega))
    all_goals first | (rw [← hNS]; rfl) | (refine DEq.str ?_; rw [rowL_nil,← hW,hk]; rfl) | (refine DEq.str ?_; rw [rowL_nil])
  · intro i hi _
    have hb:=hns _ (getD_mem hi)
    have hl:=rowL_len wd (ns.take i) (fun x hx => hns x (List.mem_of_mem_take hx))
    have hti : (ns.take i).length = i:=by simp; omega
    have hil:=itoaLen _ hb.1 hb.2
    have hsn : rowL wd (ns.take (i + 1)) = rowL wd (ns.take i) ++ [32] ++ Lib.itoa (ns.getD i default):=by rw [getD_take hi,rowL_snoc]
    (((first | refine qS rfl rfl ?_ | refine qR rfl rfl ?_); simp only [go_sem,↓dP,↓reduceIte]; with_reducible and_intros; all_goals first | apply qA | exact ⟨⟩ | rfl | (intros; apply qB; first | kernel_rfl | omega) | omega | skip)); refine Ok.seq ?_; refine Ok.cond rfl (fun _ => ?_) (fun hb => by simp at hb; omega); (refine Ok.skip ?_; (try dsimp only [thenK,blockK,noGotoK])); refine Ok.seq ?_; refine Ok.block ?_
    ((first | refine qS rfl rfl ?_ | refine qR rfl rfl ?_); simp only [go_sem,↓dP,↓reduceIte]; with_reducible and_intros; all_goals first | apply qA | exact ⟨⟩ | rfl | (intros; apply qB; first | kernel_rfl | omega) | omega | skip)
    ((first | refine qS rfl rfl ?_ | refine qR rfl rfl ?_); simp only [go_sem,↓dP,↓reduceIte]; with_reducible and_intros; all_goals first | apply qA | exact ⟨⟩ | rfl | (intros; apply qB; first | kernel_rfl | omega) | omega | skip)
    (refine AskI.ret (c132 _ (by omega) (by omega)) ?_; simp only [go_sem,↓dP,↓reduceIte]; with_reducible and_intros; all_goals first | apply qA | exact ⟨⟩ | rfl | (intros; apply qB; first | kernel_rfl | omega) | omega | skip)
    · simp only [strRoom,List.length_cons,List.length_nil]; omega
    · simp only [strRoom,List.length_append,List.length_cons,List.length_nil]; omega
    (try dsimp only [thenK,blockK,noGotoK])
    ((first | refine qS rfl rfl ?_ | refine qR rfl rfl ?_); simp only [go_sem,↓dP,↓reduceIte]; with_reducible and_intros; all_goals first | apply qA | exact ⟨⟩ | rfl | (intros; apply qB; first | kernel_rfl | omega) | omega | skip)
    (try dsimp only [thenK,blockK,noGotoK])
    refine ⟨trivial,?_⟩
    (refine Sub.of ([]) ([]) ?_ ?_ ?_ rfl rfl <;> simp only [subB,subB1,subT,subT1,newT,subE,subV,subL,go_sem,↓dP,↓reduceIte] <;> (try (repeat' with_reducible apply And.intro)) <;> (try first | exact DEq.refl _ | refine DEq.int ?_ | refine DEq.bool ?_ | omega))
    refine DEq.str ?_
    rw [hsn]; simp
  · intro _
    (((first | refine qS rfl rfl ?_ | refine qR rfl rfl ?_); simp only [go_sem,↓dP,↓reduceIte]; with_reducible and_intros; all_goals first | apply qA | exact ⟨⟩ | rfl | (intros; apply qB; first | kernel_rfl | omega) | omega | skip)); refine Ok.seq ?_; refine Ok.cond rfl (fun hb => by simp at hb) (fun _ => ?_); (refine Ok.exit ?_; simp only [thenK_exit,blockK_exit,noGotoK_exit,thenK_normal,blockK_normal,noGotoK_normal,↓reduceIte,Nat.reduceEqDiff])
    ((first | refine qS rfl rfl ?_ | refine qR rfl rfl ?_); simp only [go_sem,↓dP,↓reduceIte]; with_reducible and_intros; all_goals first | apply qA | exact ⟨⟩ | rfl | (intros; apply qB; first | kernel_rfl | omega) | omega | skip)
    (refine Ok.ret ?_; (try dsimp only [thenK,blockK,noGotoK]); simp only [toList_mk,List.toList_toArray,retK_ret,retK_normal,resOK,resV,celV,rowV,frzAll,frzT,subV,subL,go_sem,↓dP,↓reduceIte])
    refine DEq.str ?_
    rw [List.take_length]
theorem c131s (b : Board) (hns : ∀ n ∈ [b.at_],0 ≤ n ∧ n < 1000000) : Ctr Tryz.prog 104 [.d (.ifc 150 2 (dget b.cells))] (.d (.str (rowL boardW [b.at_]))):=by
  have hlen : ([b.at_]).length ≤ 6:=by simp [Street.nums,Letter.nums,Block.nums]
  unfold Board.cells
  (refine Ctr.mk (fn:=Tryz.f104) rfl rfl rfl rfl rfl Tryz.results104 ?_; dsimp only [args,List.toList_toArray])
  ((first | refine qS rfl rfl ?_ | refine qR rfl rfl ?_); simp only [go_sem,↓dP,↓reduceIte]; with_reducible and_intros; all_goals first | apply qA | exact ⟨⟩ | rfl | (intros; apply qB; first | kernel_rfl | omega) | omega | skip)
  ((first | refine qS rfl rfl ?_ | refine qR rfl rfl ?_); simp only [go_sem,↓dP,↓reduceIte]; with_reducible and_intros; all_goals first | apply qA | exact ⟨⟩ | rfl | (intros; apply qB; first | kernel_rfl | omega) | omega | skip)
  refine Ok.seq ?_
  ((first | refine qS rfl rfl ?_ | refine qR rfl rfl ?_); simp only [go_sem,↓dP,↓reduceIte]; with_reducible and_intros; all_goals first | apply qA | exact ⟨⟩ | rfl | (intros; apply qB; first | kernel_rfl | omega) | omega | skip)
  refine Ok.block ?_
  ((first | refine qS rfl rfl ?_ | refine qR rfl rfl ?_); simp only [go_sem,↓dP,↓reduceIte]; with_reducible and_intros; all_goals first | apply qA | exact ⟨⟩ | rfl | (intros; apply qB; first | kernel_rfl | omega) | omega | skip)
  refine Ok.cond (b:=false) (by first | rfl | (simp only [go_sem,↓dP,↓reduceIte]; rfl)) (fun hb => by cases hb) (fun _ => ?_)
  ((first | refine qS rfl rfl ?_ | refine qR rfl rfl ?_); simp only [go_sem,↓dP,↓reduceIte]; with_reducible and_intros; all_goals first | apply qA | exact ⟨⟩ | rfl | (intros; apply qB; first | kernel_rfl | omega) | omega | skip)
  refine Ok.cond (b:=true) (by first | rfl | (simp only [go_sem,↓dP,↓reduceIte]; rfl)) (fun _ => ?_) (fun hb => by cases hb)
  ((first | refine qS rfl rfl ?_ | refine qR rfl rfl ?_); simp only [go_sem,↓dP,↓reduceIte]; with_reducible and_intros; all_goals first | apply qA | exact ⟨⟩ | rfl | (intros; apply qB; first | kernel_rfl | omega) | omega | skip)
  ((first | refine qS rfl rfl ?_ | refine qR rfl rfl ?_); simp only [go_sem,↓dP,↓reduceIte]; with_reducible and_intros; all_goals first | apply qA | exact ⟨⟩ | rfl | (intros; apply qB; first | kernel_rfl | omega) | omega | skip)
  (refine AskI.ret (c137) ?_; simp only [go_sem,↓dP,↓reduceIte]; with_reducible and_intros; all_goals first | apply qA | exact ⟨⟩ | rfl | (intros; apply qB; first | kernel_rfl | omega) | omega | skip)

  (try dsimp only [thenK,blockK,noGotoK])
  refine Ok.seq ?_
  ((first | refine qS rfl rfl ?_ | refine qR rfl rfl ?_); simp only [go_sem,↓dP,↓reduceIte]; with_reducible and_intros; all_goals first | apply qA | exact ⟨⟩ | rfl | (intros; apply qB; first | kernel_rfl | omega) | omega | skip)
  (refine AskI.ret (c203 b) ?_; simp only [go_sem,↓dP,↓reduceIte]; with_reducible and_intros; all_goals first | apply qA | exact ⟨⟩ | rfl | (intros; apply qB; first | kernel_rfl | omega) | omega | skip)
  have hw : (boardW : List UInt8).length ≤ 20:=by decide
  refine Ok.block ?_
  generalize hNS : [b.at_] = ns at hns hlen ⊢
  generalize hW : boardW = wd at hw ⊢
  refine Ok.count ns.length (fun i => ⟨[(3,.d (.str (rowL wd (ns.take i)))),(39,.d (slD 1 intD ns)),(40,iS ns.length),(41,iS i)],[],[]⟩) (fun _ => True) ⟨trivial,?_⟩ ?_ ?_
  · (refine Sub.of ([]) ([]) ?_ ?_ ?_ rfl rfl <;> simp only [subB,subB1,subT,subT1,newT,subE,subV,subL,go_sem,↓dP,↓reduceIte] <;> (try (repeat' with_reducible apply And.intro)) <;> (try first | exact DEq.refl _ | refine DEq.int ?_ | refine DEq.bool ?_ | omega))
    all_goals first | (rw [← hNS]; rfl) | (refine DEq.str ?_; rw [rowL_nil,← hW,hk]; rfl) | (refine DEq.str ?_; rw [rowL_nil])
  · intro i hi _
    have hb:=hns _ (getD_mem hi)
    have hl:=rowL_len wd (ns.take i) (fun x hx => hns x (List.mem_of_mem_take hx))
    have hti : (ns.take i).length = i:=by simp; omega
    have hil:=itoaLen _ hb.1 hb.2
    have hsn : rowL wd (ns.take (i + 1)) = rowL wd (ns.take i) ++ [32] ++ Lib.itoa (ns.getD i default):=by rw [getD_take hi,rowL_snoc]
    (((first | refine qS rfl rfl ?_ | refine qR rfl rfl ?_); simp only [go_sem,↓dP,↓reduceIte]; with_reducible and_intros; all_goals first | apply qA | exact ⟨⟩ | rfl | (intros; apply qB; first | kernel_rfl | omega) | omega | skip)); refine Ok.seq ?_; refine Ok.cond rfl (fun _ => ?_) (fun hb => by simp at hb; omega); (refine Ok.skip ?_; (try dsimp only [thenK,blockK,noGotoK])); refine Ok.seq ?_; refine Ok.block ?_
    ((first | refine qS rfl rfl ?_ | refine qR rfl rfl ?_); simp only [go_sem,↓dP,↓reduceIte]; with_reducible and_intros; all_goals first | apply qA | exact ⟨⟩ | rfl | (intros; apply qB; first | kernel_rfl | omega) | omega | skip)
    ((first | refine qS rfl rfl ?_ | refine qR rfl rfl ?_); simp only [go_sem,↓dP,↓reduceIte]; with_reducible and_intros; all_goals first | apply qA | exact ⟨⟩ | rfl | (intros; apply qB; first | kernel_rfl | omega) | omega | skip)
    (refine AskI.ret (c132 _ (by omega) (by omega)) ?_; simp only [go_sem,↓dP,↓reduceIte]; with_reducible and_intros; all_goals first | apply qA | exact ⟨⟩ | rfl | (intros; apply qB; first | kernel_rfl | omega) | omega | skip)
    · simp only [strRoom,List.length_cons,List.length_nil]; omega
    · simp only [strRoom,List.length_append,List.length_cons,List.length_nil]; omega
    (try dsimp only [thenK,blockK,noGotoK])
    ((first | refine qS rfl rfl ?_ | refine qR rfl rfl ?_); simp only [go_sem,↓dP,↓reduceIte]; with_reducible and_intros; all_goals first | apply qA | exact ⟨⟩ | rfl | (intros; apply qB; first | kernel_rfl | omega) | omega | skip)
    (try dsimp only [thenK,blockK,noGotoK])
    refine ⟨trivial,?_⟩
    (refine Sub.of ([]) ([]) ?_ ?_ ?_ rfl rfl <;> simp only [subB,subB1,subT,subT1,newT,subE,subV,subL,go_sem,↓dP,↓reduceIte] <;> (try (repeat' with_reducible apply And.intro)) <;> (try first | exact DEq.refl _ | refine DEq.int ?_ | refine DEq.bool ?_ | omega))
    refine DEq.str ?_
    rw [hsn]; simp
  · intro _
    (((first | refine qS rfl rfl ?_ | refine qR rfl rfl ?_); simp only [go_sem,↓dP,↓reduceIte]; with_reducible and_intros; all_goals first | apply qA | exact ⟨⟩ | rfl | (intros; apply qB; first | kernel_rfl | omega) | omega | skip)); refine Ok.seq ?_; refine Ok.cond rfl (fun hb => by simp at hb) (fun _ => ?_); (refine Ok.exit ?_; simp only [thenK_exit,blockK_exit,noGotoK_exit,thenK_normal,blockK_normal,noGotoK_normal,↓reduceIte,Nat.reduceEqDiff])
    ((first | refine qS rfl rfl ?_ | refine qR rfl rfl ?_); simp only [go_sem,↓dP,↓reduceIte]; with_reducible and_intros; all_goals first | apply qA | exact ⟨⟩ | rfl | (intros; apply qB; first | kernel_rfl | omega) | omega | skip)
    (refine Ok.ret ?_; (try dsimp only [thenK,blockK,noGotoK]); simp only [toList_mk,List.toList_toArray,retK_ret,retK_normal,resOK,resV,celV,rowV,frzAll,frzT,subV,subL,go_sem,↓dP,↓reduceIte])
    refine DEq.str ?_
    rw [List.take_length]
theorem c131m (x : Letter) (hns : ∀ n ∈ x.nums,0 ≤ n ∧ n < 1000000) : Ctr Tryz.prog 104 [.d (.ifc 152 4 (dget x.cells))] (.d (.str (rowL letterW x.nums))):=by
  have hlen : (x.nums).length ≤ 6:=by simp [Street.nums,Letter.nums,Block.nums]
  unfold Letter.cells
  (refine Ctr.mk (fn:=Tryz.f104) rfl rfl rfl rfl rfl Tryz.results104 ?_; dsimp only [args,List.toList_toArray])
  ((first | refine qS rfl rfl ?_ | refine qR rfl rfl ?_); simp only [go_sem,↓dP,↓reduceIte]; with_reducible and_intros; all_goals first | apply qA | exact ⟨⟩ | rfl | (intros; apply qB; first | kernel_rfl | omega) | omega | skip)
  ((first | refine qS rfl rfl ?_ | refine qR rfl rfl ?_); simp only [go_sem,↓dP,↓reduceIte]; with_reducible and_intros; all_goals first | apply qA | exact ⟨⟩ | rfl | (intros; apply qB; first | kernel_rfl | omega) | omega | skip)
  refine Ok.seq ?_
  ((first | refine qS rfl rfl ?_ | refine qR rfl rfl ?_); simp only [go_sem,↓dP,↓reduceIte]; with_reducible and_intros; all_goals first | apply qA | exact ⟨⟩ | rfl | (intros; apply qB; first | kernel_rfl | omega) | omega | skip)
  refine Ok.block ?_
  ((first | refine qS rfl rfl ?_ | refine qR rfl rfl ?_); simp only [go_sem,↓dP,↓reduceIte]; with_reducible and_intros; all_goals first | apply qA | exact ⟨⟩ | rfl | (intros; apply qB; first | kernel_rfl | omega) | omega | skip)
  refine Ok.cond (b:=false) (by first | rfl | (simp only [go_sem,↓dP,↓reduceIte]; rfl)) (fun hb => by cases hb) (fun _ => ?_)
  ((first | refine qS rfl rfl ?_ | refine qR rfl rfl ?_); simp only [go_sem,↓dP,↓reduceIte]; with_reducible and_intros; all_goals first | apply qA | exact ⟨⟩ | rfl | (intros; apply qB; first | kernel_rfl | omega) | omega | skip)
  refine Ok.cond (b:=false) (by first | rfl | (simp only [go_sem,↓dP,↓reduceIte]; rfl)) (fun hb => by cases hb) (fun _ => ?_)
  ((first | refine qS rfl rfl ?_ | refine qR rfl rfl ?_); simp only [go_sem,↓dP,↓reduceIte]; with_reducible and_intros; all_goals first | apply qA | exact ⟨⟩ | rfl | (intros; apply qB; first | kernel_rfl | omega) | omega | skip)
  refine Ok.cond (b:=true) (by first | rfl | (simp only [go_sem,↓dP,↓reduceIte]; rfl)) (fun _ => ?_) (fun hb => by cases hb)
  ((first | refine qS rfl rfl ?_ | refine qR rfl rfl ?_); simp only [go_sem,↓dP,↓reduceIte]; with_reducible and_intros; all_goals first | apply qA | exact ⟨⟩ | rfl | (intros; apply qB; first | kernel_rfl | omega) | omega | skip)
  ((first | refine qS rfl rfl ?_ | refine qR rfl rfl ?_); simp only [go_sem,↓dP,↓reduceIte]; with_reducible and_intros; all_goals first | apply qA | exact ⟨⟩ | rfl | (intros; apply qB; first | kernel_rfl | omega) | omega | skip)
  (refine AskI.ret (c137) ?_; simp only [go_sem,↓dP,↓reduceIte]; with_reducible and_intros; all_goals first | apply qA | exact ⟨⟩ | rfl | (intros; apply qB; first | kernel_rfl | omega) | omega | skip)

  (try dsimp only [thenK,blockK,noGotoK])
  refine Ok.seq ?_
  ((first | refine qS rfl rfl ?_ | refine qR rfl rfl ?_); simp only [go_sem,↓dP,↓reduceIte]; with_reducible and_intros; all_goals first | apply qA | exact ⟨⟩ | rfl | (intros; apply qB; first | kernel_rfl | omega) | omega | skip)
  (refine AskI.ret (c204 x) ?_; simp only [go_sem,↓dP,↓reduceIte]; with_reducible and_intros; all_goals first | apply qA | exact ⟨⟩ | rfl | (intros; apply qB; first | kernel_rfl | omega) | omega | skip)
  have hw : (letterW : List UInt8).length ≤ 20:=by decide
  refine Ok.block ?_
  generalize hNS : x.nums = ns at hns hlen ⊢
  generalize hW : letterW = wd at hw ⊢
  refine Ok.count ns.length (fun i => ⟨[(3,.d (.str (rowL wd (ns.take i)))),(39,.d (slD 1 intD ns)),(40,iS ns.length),(41,iS i)],[],[]⟩) (fun _ => True) ⟨trivial,?_⟩ ?_ ?_
  · (refine Sub.of ([]) ([]) ?_ ?_ ?_ rfl rfl <;> simp only [subB,subB1,subT,subT1,newT,subE,subV,subL,go_sem,↓dP,↓reduceIte] <;> (try (repeat' with_reducible apply And.intro)) <;> (try first | exact DEq.refl _ | refine DEq.int ?_ | refine DEq.bool ?_ | omega))
    all_goals first | (rw [← hNS]; rfl) | (refine DEq.str ?_; rw [rowL_nil,← hW,hk]; rfl) | (refine DEq.str ?_; rw [rowL_nil])
  · intro i hi _
    have hb:=hns _ (getD_mem hi)
    have hl:=rowL_len wd (ns.take i) (fun x hx => hns x (List.mem_of_mem_take hx))
    have hti : (ns.take i).length = i:=by simp; omega
    have hil:=itoaLen _ hb.1 hb.2
    have hsn : rowL wd (ns.take (i + 1)) = rowL wd (ns.take i) ++ [32] ++ Lib.itoa (ns.getD i default):=by rw [getD_take hi,rowL_snoc]
    (((first | refine qS rfl rfl ?_ | refine qR rfl rfl ?_); simp only [go_sem,↓dP,↓reduceIte]; with_reducible and_intros; all_goals first | apply qA | exact ⟨⟩ | rfl | (intros; apply qB; first | kernel_rfl | omega) | omega | skip)); refine Ok.seq ?_; refine Ok.cond rfl (fun _ => ?_) (fun hb => by simp at hb; omega); (refine Ok.skip ?_; (try dsimp only [thenK,blockK,noGotoK])); refine Ok.seq ?_; refine Ok.block ?_
    ((first | refine qS rfl rfl ?_ | refine qR rfl rfl ?_); simp only [go_sem,↓dP,↓reduceIte]; with_reducible and_intros; all_goals first | apply qA | exact ⟨⟩ | rfl | (intros; apply qB; first | kernel_rfl | omega) | omega | skip)
    ((first | refine qS rfl rfl ?_ | refine qR rfl rfl ?_); simp only [go_sem,↓dP,↓reduceIte]; with_reducible and_intros; all_goals first | apply qA | exact ⟨⟩ | rfl | (intros; apply qB; first | kernel_rfl | omega) | omega | skip)
    (refine AskI.ret (c132 _ (by omega) (by omega)) ?_; simp only [go_sem,↓dP,↓reduceIte]; with_reducible and_intros; all_goals first | apply qA | exact ⟨⟩ | rfl | (intros; apply qB; first | kernel_rfl | omega) | omega | skip)
    · simp only [strRoom,List.length_cons,List.length_nil]; omega
    · simp only [strRoom,List.length_append,List.length_cons,List.length_nil]; omega
    (try dsimp only [thenK,blockK,noGotoK])
    ((first | refine qS rfl rfl ?_ | refine qR rfl rfl ?_); simp only [go_sem,↓dP,↓reduceIte]; with_reducible and_intros; all_goals first | apply qA | exact ⟨⟩ | rfl | (intros; apply qB; first | kernel_rfl | omega) | omega | skip)
    (try dsimp only [thenK,blockK,noGotoK])
    refine ⟨trivial,?_⟩
    (refine Sub.of ([]) ([]) ?_ ?_ ?_ rfl rfl <;> simp only [subB,subB1,subT,subT1,newT,subE,subV,subL,go_sem,↓dP,↓reduceIte] <;> (try (repeat' with_reducible apply And.intro)) <;> (try first | exact DEq.refl _ | refine DEq.int ?_ | refine DEq.bool ?_ | omega))
    refine DEq.str ?_
    rw [hsn]; simp
  · intro _
    (((first | refine qS rfl rfl ?_ | refine qR rfl rfl ?_); simp only [go_sem,↓dP,↓reduceIte]; with_reducible and_intros; all_goals first | apply qA | exact ⟨⟩ | rfl | (intros; apply qB; first | kernel_rfl | omega) | omega | skip)); refine Ok.seq ?_; refine Ok.cond rfl (fun hb => by simp at hb) (fun _ => ?_); (refine Ok.exit ?_; simp only [thenK_exit,blockK_exit,noGotoK_exit,thenK_normal,blockK_normal,noGotoK_normal,↓reduceIte,Nat.reduceEqDiff])
    ((first | refine qS rfl rfl ?_ | refine qR rfl rfl ?_); simp only [go_sem,↓dP,↓reduceIte]; with_reducible and_intros; all_goals first | apply qA | exact ⟨⟩ | rfl | (intros; apply qB; first | kernel_rfl | omega) | omega | skip)
    (refine Ok.ret ?_; (try dsimp only [thenK,blockK,noGotoK]); simp only [toList_mk,List.toList_toArray,retK_ret,retK_normal,resOK,resV,celV,rowV,frzAll,frzT,subV,subL,go_sem,↓dP,↓reduceIte])
    refine DEq.str ?_
    rw [List.take_length]
theorem c131b1 (k : Block) (hk : k.sure = true) (hns : ∀ n ∈ k.nums,0 ≤ n ∧ n < 1000000) : Ctr Tryz.prog 104 [.d (.ifc 154 5 (dget k.cells))] (.d (.str (rowL (blockW k.sure) k.nums))):=by
  have hlen : (k.nums).length ≤ 6:=by simp [Street.nums,Letter.nums,Block.nums]
  unfold Block.cells
  (refine Ctr.mk (fn:=Tryz.f104) rfl rfl rfl rfl rfl Tryz.results104 ?_; dsimp only [args,List.toList_toArray])
  ((first | refine qS rfl rfl ?_ | refine qR rfl rfl ?_); simp only [go_sem,↓dP,↓reduceIte]; with_reducible and_intros; all_goals first | apply qA | exact ⟨⟩ | rfl | (intros; apply qB; first | kernel_rfl | omega) | omega | skip)
  ((first | refine qS rfl rfl ?_ | refine qR rfl rfl ?_); simp only [go_sem,↓dP,↓reduceIte]; with_reducible and_intros; all_goals first | apply qA | exact ⟨⟩ | rfl | (intros; apply qB; first | kernel_rfl | omega) | omega | skip)
  refine Ok.seq ?_
  ((first | refine qS rfl rfl ?_ | refine qR rfl rfl ?_); simp only [go_sem,↓dP,↓reduceIte]; with_reducible and_intros; all_goals first | apply qA | exact ⟨⟩ | rfl | (intros; apply qB; first | kernel_rfl | omega) | omega | skip)
  refine Ok.block ?_
  ((first | refine qS rfl rfl ?_ | refine qR rfl rfl ?_); simp only [go_sem,↓dP,↓reduceIte]; with_reducible and_intros; all_goals first | apply qA | exact ⟨⟩ | rfl | (intros; apply qB; first | kernel_rfl | omega) | omega | skip)
  refine Ok.cond (b:=false) (by first | rfl | (simp only [go_sem,↓dP,↓reduceIte]; rfl)) (fun hb => by cases hb) (fun _ => ?_)
  ((first | refine qS rfl rfl ?_ | refine qR rfl rfl ?_); simp only [go_sem,↓dP,↓reduceIte]; with_reducible and_intros; all_goals first | apply qA | exact ⟨⟩ | rfl | (intros; apply qB; first | kernel_rfl | omega) | omega | skip)
  refine Ok.cond (b:=false) (by first | rfl | (simp only [go_sem,↓dP,↓reduceIte]; rfl)) (fun hb => by cases hb) (fun _ => ?_)
  ((first | refine qS rfl rfl ?_ | refine qR rfl rfl ?_); simp only [go_sem,↓dP,↓reduceIte]; with_reducible and_intros; all_goals first | apply qA | exact ⟨⟩ | rfl | (intros; apply qB; first | kernel_rfl | omega) | omega | skip)
  refine Ok.cond (b:=false) (by first | rfl | (simp only [go_sem,↓dP,↓reduceIte]; rfl)) (fun hb => by cases hb) (fun _ => ?_)
  ((first | refine qS rfl rfl ?_ | refine qR rfl rfl ?_); simp only [go_sem,↓dP,↓reduceIte]; with_reducible and_intros; all_goals first | apply qA | exact ⟨⟩ | rfl | (intros; apply qB; first | kernel_rfl | omega) | omega | skip)
  refine Ok.cond (b:=true) (by first | rfl | (simp only [go_sem,↓dP,↓reduceIte]; rfl)) (fun _ => ?_) (fun hb => by cases hb)
  ((first | refine qS rfl rfl ?_ | refine qR rfl rfl ?_); simp only [go_sem,↓dP,↓reduceIte]; with_reducible and_intros; all_goals first | apply qA | exact ⟨⟩ | rfl | (intros; apply qB; first | kernel_rfl | omega) | omega | skip)
  ((first | refine qS rfl rfl ?_ | refine qR rfl rfl ?_); simp only [go_sem,↓dP,↓reduceIte]; with_reducible and_intros; all_goals first | apply qA | exact ⟨⟩ | rfl | (intros; apply qB; first | kernel_rfl | omega) | omega | skip)
  (refine AskI.ret (c137) ?_; simp only [go_sem,↓dP,↓reduceIte]; with_reducible and_intros; all_goals first | apply qA | exact ⟨⟩ | rfl | (intros; apply qB; first | kernel_rfl | omega) | omega | skip)
  · unfold strRoom; decide
  ((first | refine qS rfl rfl ?_ | refine qR rfl rfl ?_); simp only [go_sem,↓dP,↓reduceIte]; with_reducible and_intros; all_goals first | apply qA | exact ⟨⟩ | rfl | (intros; apply qB; first | kernel_rfl | omega) | omega | skip)
  refine Ok.cond rfl (fun _ => ?_) (fun hb => by rw [hk] at hb; cases hb)
  ((first | refine qS rfl rfl ?_ | refine qR rfl rfl ?_); simp only [go_sem,↓dP,↓reduceIte]; with_reducible and_intros; all_goals first | apply qA | exact ⟨⟩ | rfl | (intros; apply qB; first | kernel_rfl | omega) | omega | skip)
  (refine AskI.ret (c137) ?_; simp only [go_sem,↓dP,↓reduceIte]; with_reducible and_intros; all_goals first | apply qA | exact ⟨⟩ | rfl | (intros; apply qB; first | kernel_rfl | omega) | omega | skip)
  · unfold strRoom; decide

  (try dsimp only [thenK,blockK,noGotoK])
  refine Ok.seq ?_
  ((first | refine qS rfl rfl ?_ | refine qR rfl rfl ?_); simp only [go_sem,↓dP,↓reduceIte]; with_reducible and_intros; all_goals first | apply qA | exact ⟨⟩ | rfl | (intros; apply qB; first | kernel_rfl | omega) | omega | skip)
  (refine AskI.ret (c205 k) ?_; simp only [go_sem,↓dP,↓reduceIte]; with_reducible and_intros; all_goals first | apply qA | exact ⟨⟩ | rfl | (intros; apply qB; first | kernel_rfl | omega) | omega | skip)
  have hw : ((blockW k.sure) : List UInt8).length ≤ 20:=by cases k.sure <;> decide
  refine Ok.block ?_
  generalize hNS : k.nums = ns at hns hlen ⊢
  generalize hW : (blockW k.sure) = wd at hw ⊢
  refine Ok.count ns.length (fun i => ⟨[(3,.d (.str (rowL wd (ns.take i)))),(39,.d (slD 1 intD ns)),(40,iS ns.length),(41,iS i)],[],[]⟩) (fun _ => True) ⟨trivial,?_⟩ ?_ ?_
  · (refine Sub.of ([]) ([]) ?_ ?_ ?_ rfl rfl <;> simp only [subB,subB1,subT,subT1,newT,subE,subV,subL,go_sem,↓dP,↓reduceIte] <;> (try (repeat' with_reducible apply And.intro)) <;> (try first | exact DEq.refl _ | refine DEq.int ?_ | refine DEq.bool ?_ | omega))
    all_goals first | (rw [← hNS]; rfl) | (refine DEq.str ?_; rw [rowL_nil,← hW,hk]; rfl) | (refine DEq.str ?_; rw [rowL_nil])
  · intro i hi _
    have hb:=hns _ (getD_mem hi)
    have hl:=rowL_len wd (ns.take i) (fun x hx => hns x (List.mem_of_mem_take hx))
    have hti : (ns.take i).length = i:=by simp; omega
    have hil:=itoaLen _ hb.1 hb.2
    have hsn : rowL wd (ns.take (i + 1)) = rowL wd (ns.take i) ++ [32] ++ Lib.itoa (ns.getD i default):=by rw [getD_take hi,rowL_snoc]
    (((first | refine qS rfl rfl ?_ | refine qR rfl rfl ?_); simp only [go_sem,↓dP,↓reduceIte]; with_reducible and_intros; all_goals first | apply qA | exact ⟨⟩ | rfl | (intros; apply qB; first | kernel_rfl | omega) | omega | skip)); refine Ok.seq ?_; refine Ok.cond rfl (fun _ => ?_) (fun hb => by simp at hb; omega); (refine Ok.skip ?_; (try dsimp only [thenK,blockK,noGotoK])); refine Ok.seq ?_; refine Ok.block ?_
    ((first | refine qS rfl rfl ?_ | refine qR rfl rfl ?_); simp only [go_sem,↓dP,↓reduceIte]; with_reducible and_intros; all_goals first | apply qA | exact ⟨⟩ | rfl | (intros; apply qB; first | kernel_rfl | omega) | omega | skip)
    ((first | refine qS rfl rfl ?_ | refine qR rfl rfl ?_); simp only [go_sem,↓dP,↓reduceIte]; with_reducible and_intros; all_goals first | apply qA | exact ⟨⟩ | rfl | (intros; apply qB; first | kernel_rfl | omega) | omega | skip)
    (refine AskI.ret (c132 _ (by omega) (by omega)) ?_; simp only [go_sem,↓dP,↓reduceIte]; with_reducible and_intros; all_goals first | apply qA | exact ⟨⟩ | rfl | (intros; apply qB; first | kernel_rfl | omega) | omega | skip)
    · simp only [strRoom,List.length_cons,List.length_nil]; omega
    · simp only [strRoom,List.length_append,List.length_cons,List.length_nil]; omega
    (try dsimp only [thenK,blockK,noGotoK])
    ((first | refine qS rfl rfl ?_ | refine qR rfl rfl ?_); simp only [go_sem,↓dP,↓reduceIte]; with_reducible and_intros; all_goals first | apply qA | exact ⟨⟩ | rfl | (intros; apply qB; first | kernel_rfl | omega) | omega | skip)
    (try dsimp only [thenK,blockK,noGotoK])
    refine ⟨trivial,?_⟩
    (refine Sub.of ([]) ([]) ?_ ?_ ?_ rfl rfl <;> simp only [subB,subB1,subT,subT1,newT,subE,subV,subL,go_sem,↓dP,↓reduceIte] <;> (try (repeat' with_reducible apply And.intro)) <;> (try first | exact DEq.refl _ | refine DEq.int ?_ | refine DEq.bool ?_ | omega))
    refine DEq.str ?_
    rw [hsn]; simp
  · intro _
    (((first | refine qS rfl rfl ?_ | refine qR rfl rfl ?_); simp only [go_sem,↓dP,↓reduceIte]; with_reducible and_intros; all_goals first | apply qA | exact ⟨⟩ | rfl | (intros; apply qB; first | kernel_rfl | omega) | omega | skip)); refine Ok.seq ?_; refine Ok.cond rfl (fun hb => by simp at hb) (fun _ => ?_); (refine Ok.exit ?_; simp only [thenK_exit,blockK_exit,noGotoK_exit,thenK_normal,blockK_normal,noGotoK_normal,↓reduceIte,Nat.reduceEqDiff])
    ((first | refine qS rfl rfl ?_ | refine qR rfl rfl ?_); simp only [go_sem,↓dP,↓reduceIte]; with_reducible and_intros; all_goals first | apply qA | exact ⟨⟩ | rfl | (intros; apply qB; first | kernel_rfl | omega) | omega | skip)
    (refine Ok.ret ?_; (try dsimp only [thenK,blockK,noGotoK]); simp only [toList_mk,List.toList_toArray,retK_ret,retK_normal,resOK,resV,celV,rowV,frzAll,frzT,subV,subL,go_sem,↓dP,↓reduceIte])
    refine DEq.str ?_
    rw [List.take_length]
theorem c131b0 (k : Block) (hk : k.sure = false) (hns : ∀ n ∈ k.nums,0 ≤ n ∧ n < 1000000) : Ctr Tryz.prog 104 [.d (.ifc 154 5 (dget k.cells))] (.d (.str (rowL (blockW k.sure) k.nums))):=by
  have hlen : (k.nums).length ≤ 6:=by simp [Street.nums,Letter.nums,Block.nums]
  unfold Block.cells
  (refine Ctr.mk (fn:=Tryz.f104) rfl rfl rfl rfl rfl Tryz.results104 ?_; dsimp only [args,List.toList_toArray])
  ((first | refine qS rfl rfl ?_ | refine qR rfl rfl ?_); simp only [go_sem,↓dP,↓reduceIte]; with_reducible and_intros; all_goals first | apply qA | exact ⟨⟩ | rfl | (intros; apply qB; first | kernel_rfl | omega) | omega | skip)
  ((first | refine qS rfl rfl ?_ | refine qR rfl rfl ?_); simp only [go_sem,↓dP,↓reduceIte]; with_reducible and_intros; all_goals first | apply qA | exact ⟨⟩ | rfl | (intros; apply qB; first | kernel_rfl | omega) | omega | skip)
  refine Ok.seq ?_
  ((first | refine qS rfl rfl ?_ | refine qR rfl rfl ?_); simp only [go_sem,↓dP,↓reduceIte]; with_reducible and_intros; all_goals first | apply qA | exact ⟨⟩ | rfl | (intros; apply qB; first | kernel_rfl | omega) | omega | skip)
  refine Ok.block ?_
  ((first | refine qS rfl rfl ?_ | refine qR rfl rfl ?_); simp only [go_sem,↓dP,↓reduceIte]; with_reducible and_intros; all_goals first | apply qA | exact ⟨⟩ | rfl | (intros; apply qB; first | kernel_rfl | omega) | omega | skip)
  refine Ok.cond (b:=false) (by first | rfl | (simp only [go_sem,↓dP,↓reduceIte]; rfl)) (fun hb => by cases hb) (fun _ => ?_)
  ((first | refine qS rfl rfl ?_ | refine qR rfl rfl ?_); simp only [go_sem,↓dP,↓reduceIte]; with_reducible and_intros; all_goals first | apply qA | exact ⟨⟩ | rfl | (intros; apply qB; first | kernel_rfl | omega) | omega | skip)
  refine Ok.cond (b:=false) (by first | rfl | (simp only [go_sem,↓dP,↓reduceIte]; rfl)) (fun hb => by cases hb) (fun _ => ?_)
  ((first | refine qS rfl rfl ?_ | refine qR rfl rfl ?_); simp only [go_sem,↓dP,↓reduceIte]; with_reducible and_intros; all_goals first | apply qA | exact ⟨⟩ | rfl | (intros; apply qB; first | kernel_rfl | omega) | omega | skip)
  refine Ok.cond (b:=false) (by first | rfl | (simp only [go_sem,↓dP,↓reduceIte]; rfl)) (fun hb => by cases hb) (fun _ => ?_)
  ((first | refine qS rfl rfl ?_ | refine qR rfl rfl ?_); simp only [go_sem,↓dP,↓reduceIte]; with_reducible and_intros; all_goals first | apply qA | exact ⟨⟩ | rfl | (intros; apply qB; first | kernel_rfl | omega) | omega | skip)
  refine Ok.cond (b:=true) (by first | rfl | (simp only [go_sem,↓dP,↓reduceIte]; rfl)) (fun _ => ?_) (fun hb => by cases hb)
  ((first | refine qS rfl rfl ?_ | refine qR rfl rfl ?_); simp only [go_sem,↓dP,↓reduceIte]; with_reducible and_intros; all_goals first | apply qA | exact ⟨⟩ | rfl | (intros; apply qB; first | kernel_rfl | omega) | omega | skip)
  ((first | refine qS rfl rfl ?_ | refine qR rfl rfl ?_); simp only [go_sem,↓dP,↓reduceIte]; with_reducible and_intros; all_goals first | apply qA | exact ⟨⟩ | rfl | (intros; apply qB; first | kernel_rfl | omega) | omega | skip)
  (refine AskI.ret (c137) ?_; simp only [go_sem,↓dP,↓reduceIte]; with_reducible and_intros; all_goals first | apply qA | exact ⟨⟩ | rfl | (intros; apply qB; first | kernel_rfl | omega) | omega | skip)
  · unfold strRoom; decide
  ((first | refine qS rfl rfl ?_ | refine qR rfl rfl ?_); simp only [go_sem,↓dP,↓reduceIte]; with_reducible and_intros; all_goals first | apply qA | exact ⟨⟩ | rfl | (intros; apply qB; first | kernel_rfl | omega) | omega | skip)
  refine Ok.cond rfl (fun hb => by rw [hk] at hb; cases hb) (fun _ => ?_)
  (refine Ok.skip ?_; (try dsimp only [thenK,blockK,noGotoK]))

  (try dsimp only [thenK,blockK,noGotoK])
  refine Ok.seq ?_
  ((first | refine qS rfl rfl ?_ | refine qR rfl rfl ?_); simp only [go_sem,↓dP,↓reduceIte]; with_reducible and_intros; all_goals first | apply qA | exact ⟨⟩ | rfl | (intros; apply qB; first | kernel_rfl | omega) | omega | skip)
  (refine AskI.ret (c205 k) ?_; simp only [go_sem,↓dP,↓reduceIte]; with_reducible and_intros; all_goals first | apply qA | exact ⟨⟩ | rfl | (intros; apply qB; first | kernel_rfl | omega) | omega | skip)
  have hw : ((blockW k.sure) : List UInt8).length ≤ 20:=by cases k.sure <;> decide
  refine Ok.block ?_
  generalize hNS : k.nums = ns at hns hlen ⊢
  generalize hW : (blockW k.sure) = wd at hw ⊢
  refine Ok.count ns.length (fun i => ⟨[(3,.d (.str (rowL wd (ns.take i)))),(39,.d (slD 1 intD ns)),(40,iS ns.length),(41,iS i)],[],[]⟩) (fun _ => True) ⟨trivial,?_⟩ ?_ ?_
  · (refine Sub.of ([]) ([]) ?_ ?_ ?_ rfl rfl <;> simp only [subB,subB1,subT,subT1,newT,subE,subV,subL,go_sem,↓dP,↓reduceIte] <;> (try (repeat' with_reducible apply And.intro)) <;> (try first | exact DEq.refl _ | refine DEq.int ?_ | refine DEq.bool ?_ | omega))
    all_goals first | (rw [← hNS]; rfl) | (refine DEq.str ?_; rw [rowL_nil,← hW,hk]; rfl) | (refine DEq.str ?_; rw [rowL_nil])
  · intro i hi _
    have hb:=hns _ (getD_mem hi)
    have hl:=rowL_len wd (ns.take i) (fun x hx => hns x (List.mem_of_mem_take hx))
    have hti : (ns.take i).length = i:=by simp; omega
    have hil:=itoaLen _ hb.1 hb.2
    have hsn : rowL wd (ns.take (i + 1)) = rowL wd (ns.take i) ++ [32] ++ Lib.itoa (ns.getD i default):=by rw [getD_take hi,rowL_snoc]
    (((first | refine qS rfl rfl ?_ | refine qR rfl rfl ?_); simp only [go_sem,↓dP,↓reduceIte]; with_reducible and_intros; all_goals first | apply qA | exact ⟨⟩ | rfl | (intros; apply qB; first | kernel_rfl | omega) | omega | skip)); refine Ok.seq ?_; refine Ok.cond rfl (fun _ => ?_) (fun hb => by simp at hb; omega); (refine Ok.skip ?_; (try dsimp only [thenK,blockK,noGotoK])); refine Ok.seq ?_; refine Ok.block ?_
    ((first | refine qS rfl rfl ?_ | refine qR rfl rfl ?_); simp only [go_sem,↓dP,↓reduceIte]; with_reducible and_intros; all_goals first | apply qA | exact ⟨⟩ | rfl | (intros; apply qB; first | kernel_rfl | omega) | omega | skip)
    ((first | refine qS rfl rfl ?_ | refine qR rfl rfl ?_); simp only [go_sem,↓dP,↓reduceIte]; with_reducible and_intros; all_goals first | apply qA | exact ⟨⟩ | rfl | (intros; apply qB; first | kernel_rfl | omega) | omega | skip)
    (refine AskI.ret (c132 _ (by omega) (by omega)) ?_; simp only [go_sem,↓dP,↓reduceIte]; with_reducible and_intros; all_goals first | apply qA | exact ⟨⟩ | rfl | (intros; apply qB; first | kernel_rfl | omega) | omega | skip)
    · simp only [strRoom,List.length_cons,List.length_nil]; omega
    · simp only [strRoom,List.length_append,List.length_cons,List.length_nil]; omega
    (try dsimp only [thenK,blockK,noGotoK])
    ((first | refine qS rfl rfl ?_ | refine qR rfl rfl ?_); simp only [go_sem,↓dP,↓reduceIte]; with_reducible and_intros; all_goals first | apply qA | exact ⟨⟩ | rfl | (intros; apply qB; first | kernel_rfl | omega) | omega | skip)
    (try dsimp only [thenK,blockK,noGotoK])
    refine ⟨trivial,?_⟩
    (refine Sub.of ([]) ([]) ?_ ?_ ?_ rfl rfl <;> simp only [subB,subB1,subT,subT1,newT,subE,subV,subL,go_sem,↓dP,↓reduceIte] <;> (try (repeat' with_reducible apply And.intro)) <;> (try first | exact DEq.refl _ | refine DEq.int ?_ | refine DEq.bool ?_ | omega))
    refine DEq.str ?_
    rw [hsn]; simp
  · intro _
    (((first | refine qS rfl rfl ?_ | refine qR rfl rfl ?_); simp only [go_sem,↓dP,↓reduceIte]; with_reducible and_intros; all_goals first | apply qA | exact ⟨⟩ | rfl | (intros; apply qB; first | kernel_rfl | omega) | omega | skip)); refine Ok.seq ?_; refine Ok.cond rfl (fun hb => by simp at hb) (fun _ => ?_); (refine Ok.exit ?_; simp only [thenK_exit,blockK_exit,noGotoK_exit,thenK_normal,blockK_normal,noGotoK_normal,↓reduceIte,Nat.reduceEqDiff])
    ((first | refine qS rfl rfl ?_ | refine qR rfl rfl ?_); simp only [go_sem,↓dP,↓reduceIte]; with_reducible and_intros; all_goals first | apply qA | exact ⟨⟩ | rfl | (intros; apply qB; first | kernel_rfl | omega) | omega | skip)
    (refine Ok.ret ?_; (try dsimp only [thenK,blockK,noGotoK]); simp only [toList_mk,List.toList_toArray,retK_ret,retK_normal,resOK,resV,celV,rowV,frzAll,frzT,subV,subL,go_sem,↓dP,↓reduceIte])
    refine DEq.str ?_
    rw [List.take_length]
end Go.Proofs.Sight
namespace Go.Proofs.Sight
open Go Go.RX Go.Proofs
set_option maxRecDepth 10000
theorem join_tail (l : List (List UInt8)) (h : l ≠ []) : Lib.joinTail [10] l = [10] ++ Lib.join l [10]:=by
  cases l with
  | nil => exact (h rfl).elim
  | cons y t => rw [Lib.join_cons]; simp [Lib.joinTail]
theorem join_flat (e : List UInt8) : ∀ l : List (List UInt8),Lib.join (l ++ [e]) [10] = flatL l ++ e
  | [] => by simp [Lib.join_one,flatL]
  | x :: l => by
    rw [List.cons_append,Lib.join_cons,join_tail _ (by simp),join_flat e l]
    simp [flatL]
theorem endL_len {c : Nat} (h : c < 179) : (endL c).length ≤ 67:=by
  have l1:=decLen (c / 100) (by omega)
  have l2:=decLen (c / 10 % 10) (by omega)
  have l3:=decLen (c % 10) (by omega)
  simp only [endL,List.length_append,List.length_cons,List.length_nil]; omega
theorem c104 (s : Street) (hs : s.small) : Ctr Tryz.prog 68 [s.sv] (.d (.str (sealedL (rowsOf s)))):=by
  have hnb:=hs.nb
  have hnk:=hs.nk
  (refine Ctr.mk (fn:=Tryz.f68) rfl rfl rfl rfl rfl Tryz.results68 ?_; dsimp only [args,List.toList_toArray])
  ((first | refine qS rfl rfl ?_ | refine qR rfl rfl ?_); simp only [go_sem,↓dP,↓reduceIte]; with_reducible and_intros; all_goals first | apply qA | exact ⟨⟩ | rfl | (intros; apply qB; first | kernel_rfl | omega) | omega | skip)
  ((first | refine qS rfl rfl ?_ | refine qR rfl rfl ?_); simp only [go_sem,↓dP,↓reduceIte]; with_reducible and_intros; all_goals first | apply qA | exact ⟨⟩ | rfl | (intros; apply qB; first | kernel_rfl | omega) | omega | skip)
  (refine AskI.ret (c131h s hs.n) ?_; simp only [go_sem,↓dP,↓reduceIte]; with_reducible and_intros; all_goals first | apply qA | exact ⟨⟩ | rfl | (intros; apply qB; first | kernel_rfl | omega) | omega | skip)
  refine Ok.seq ?_
  ((first | refine qS rfl rfl ?_ | refine qR rfl rfl ?_); simp only [go_sem,↓dP,↓reduceIte]; with_reducible and_intros; all_goals first | apply qA | exact ⟨⟩ | rfl | (intros; apply qB; first | kernel_rfl | omega) | omega | skip)
  refine Ok.block ?_
  refine Ok.count s.bs.length (fun i => ⟨[(1,.p 0 0),(3,.tk 0),(20,.d (slD 2 boaD s.bs)),(21,iS s.bs.length),(22,iS i)],[streetB s],[ownD 9 1 strD (rowsB s i)]⟩) (fun _ => True) ⟨trivial,?_⟩ ?_ ?_
  · (refine Sub.of ([0]) ([some 0]) ?_ ?_ ?_ rfl rfl <;> simp only [subB,subB1,subT,subT1,newT,subE,subV,subL,go_sem,↓dP,↓reduceIte] <;> (try (repeat' with_reducible apply And.intro)) <;> (try first | exact DEq.refl _ | refine DEq.int ?_ | refine DEq.bool ?_ | omega))
    · rfl
    · intro i j hi hj
      have h1 : i = 0:=by omega
      have h2 : j = 0:=by omega
      subst h1; subst h2
      exact .refl _
  · intro i hi _
    have hl:=rowsB_len s i hs
    have hb:=hs.b _ (getD_mem hi)
    have hnl : (s.bs.getD i default).ls.length ≤ 601:=by
      have:=rowsL_len s (j:=(s.bs.getD i default).ls.length) hi hs
      simp only [rowsL,List.length_append,List.length_cons,List.length_map,List.take_length] at this
      omega
    (((first | refine qS rfl rfl ?_ | refine qR rfl rfl ?_); simp only [go_sem,↓dP,↓reduceIte]; with_reducible and_intros; all_goals first | apply qA | exact ⟨⟩ | rfl | (intros; apply qB; first | kernel_rfl | omega) | omega | skip)); refine Ok.seq ?_; refine Ok.cond rfl (fun _ => ?_) (fun hb => by simp at hb; omega); (refine Ok.skip ?_; (try dsimp only [thenK,blockK,noGotoK])); refine Ok.seq ?_; refine Ok.block ?_
    ((first | refine qS rfl rfl ?_ | refine qR rfl rfl ?_); simp only [go_sem,↓dP,↓reduceIte]; with_reducible and_intros; all_goals first | apply qA | exact ⟨⟩ | rfl | (intros; apply qB; first | kernel_rfl | omega) | omega | skip)
    ((first | refine qS rfl rfl ?_ | refine qR rfl rfl ?_); simp only [go_sem,↓dP,↓reduceIte]; with_reducible and_intros; all_goals first | apply qA | exact ⟨⟩ | rfl | (intros; apply qB; first | kernel_rfl | omega) | omega | skip)
    (refine AskI.ret (c131s (s.bs.getD i default) (fun n hn => by simp at hn; subst hn; simpa using hb)) ?_; simp only [go_sem,↓dP,↓reduceIte]; with_reducible and_intros; all_goals first | apply qA | exact ⟨⟩ | rfl | (intros; apply qB; first | kernel_rfl | omega) | omega | skip)
    ((first | refine qS rfl rfl ?_ | refine qR rfl rfl ?_); simp only [go_sem,↓dP,↓reduceIte]; with_reducible and_intros; all_goals first | apply qA | exact ⟨⟩ | rfl | (intros; apply qB; first | kernel_rfl | omega) | omega | skip)
    refine Ok.block ?_
    refine Ok.count (s.bs.getD i default).ls.length (fun j => ⟨[(1,.p 0 0),(3,.tk 0),(5,.p 1 0),(20,.d (slD 2 boaD s.bs)),(21,iS s.bs.length),(22,iS i),(34,.d (slD 4 letD (s.bs.getD i default).ls)),(35,iS (s.bs.getD i default).ls.length),(36,iS j)],[streetB s,boardB (s.bs.getD i default)],[ownD 9 1 strD (rowsL s i j)]⟩) (fun _ => True) ⟨trivial,?_⟩ ?_ ?_
    · (refine Sub.of ([0,1]) ([some 2]) ?_ ?_ ?_ rfl rfl <;> simp only [subB,subB1,subT,subT1,newT,subE,subV,subL,go_sem,↓dP,↓reduceIte] <;> (try (repeat' with_reducible apply And.intro)) <;> (try first | exact DEq.refl _ | refine DEq.int ?_ | refine DEq.bool ?_ | omega))
      · rw [rowsL_zero]; simp
      · rw [rowsL_zero]
        exact snoc_D (str_snoc _)
    · intro j hj _
      have hl2:=rowsL_len s (j:=j) hi hs
      have hx:=hs.l _ (getD_mem hi) _ (getD_mem hj)
      have hk2 : (s.bs[i]?.getD default).ls.length = (s.bs.getD i default).ls.length:=by rw [List.getD_eq_getElem?_getD]
      (((first | refine qS rfl rfl ?_ | refine qR rfl rfl ?_); simp only [go_sem,↓dP,↓reduceIte]; with_reducible and_intros; all_goals first | apply qA | exact ⟨⟩ | rfl | (intros; apply qB; first | kernel_rfl | omega) | omega | skip)); refine Ok.seq ?_; refine Ok.cond rfl (fun _ => ?_) (fun hb => by simp at hb; omega); (refine Ok.skip ?_; (try dsimp only [thenK,blockK,noGotoK])); refine Ok.seq ?_; refine Ok.block ?_
      ((first | refine qS rfl rfl ?_ | refine qR rfl rfl ?_); simp only [go_sem,↓dP,↓reduceIte]; with_reducible and_intros; all_goals first | apply qA | exact ⟨⟩ | rfl | (intros; apply qB; first | kernel_rfl | omega) | omega | skip)
      ((first | refine qS rfl rfl ?_ | refine qR rfl rfl ?_); simp only [go_sem,↓dP,↓reduceIte]; with_reducible and_intros; all_goals first | apply qA | exact ⟨⟩ | rfl | (intros; apply qB; first | kernel_rfl | omega) | omega | skip)
      (refine AskI.ret (c131m ((s.bs.getD i default).ls.getD j default) hx) ?_; simp only [go_sem,↓dP,↓reduceIte]; with_reducible and_intros; all_goals first | apply qA | exact ⟨⟩ | rfl | (intros; apply qB; first | kernel_rfl | omega) | omega | skip)
      (try dsimp only [thenK,blockK,noGotoK])
      ((first | refine qS rfl rfl ?_ | refine qR rfl rfl ?_); simp only [go_sem,↓dP,↓reduceIte]; with_reducible and_intros; all_goals first | apply qA | exact ⟨⟩ | rfl | (intros; apply qB; first | kernel_rfl | omega) | omega | skip)
      (try dsimp only [thenK,blockK,noGotoK])
      refine ⟨trivial,?_⟩
      (refine Sub.of ([0,1]) ([some 2]) ?_ ?_ ?_ rfl rfl <;> simp only [subB,subB1,subT,subT1,newT,subE,subV,subL,go_sem,↓dP,↓reduceIte] <;> (try (repeat' with_reducible apply And.intro)) <;> (try first | exact DEq.refl _ | refine DEq.int ?_ | refine DEq.bool ?_ | omega))
      · rw [rowsL_succ s i hj]; simp
      · rw [rowsL_succ s i hj]
        exact snoc_D (str_snoc _)
    · intro _
      (((first | refine qS rfl rfl ?_ | refine qR rfl rfl ?_); simp only [go_sem,↓dP,↓reduceIte]; with_reducible and_intros; all_goals first | apply qA | exact ⟨⟩ | rfl | (intros; apply qB; first | kernel_rfl | omega) | omega | skip)); refine Ok.seq ?_; refine Ok.cond rfl (fun hb => by simp at hb) (fun _ => ?_); (refine Ok.exit ?_; simp only [thenK_exit,blockK_exit,noGotoK_exit,thenK_normal,blockK_normal,noGotoK_normal,↓reduceIte,Nat.reduceEqDiff])
      (try dsimp only [thenK,blockK,noGotoK])
      ((first | refine qS rfl rfl ?_ | refine qR rfl rfl ?_); simp only [go_sem,↓dP,↓reduceIte]; with_reducible and_intros; all_goals first | apply qA | exact ⟨⟩ | rfl | (intros; apply qB; first | kernel_rfl | omega) | omega | skip)
      (try dsimp only [thenK,blockK,noGotoK])
      refine ⟨trivial,?_⟩
      rw [rowsL_all s hi]
      (refine Sub.of ([0]) ([some 0]) ?_ ?_ ?_ rfl rfl <;> simp only [subB,subB1,subT,subT1,newT,subE,subV,subL,go_sem,↓dP,↓reduceIte] <;> (try (repeat' with_reducible apply And.intro)) <;> (try first | exact DEq.refl _ | refine DEq.int ?_ | refine DEq.bool ?_ | omega))
      exact fun _ _ _ _ => DEq.refl _
  intro _
  (((first | refine qS rfl rfl ?_ | refine qR rfl rfl ?_); simp only [go_sem,↓dP,↓reduceIte]; with_reducible and_intros; all_goals first | apply qA | exact ⟨⟩ | rfl | (intros; apply qB; first | kernel_rfl | omega) | omega | skip)); refine Ok.seq ?_; refine Ok.cond rfl (fun hb => by simp at hb) (fun _ => ?_); (refine Ok.exit ?_; simp only [thenK_exit,blockK_exit,noGotoK_exit,thenK_normal,blockK_normal,noGotoK_normal,↓reduceIte,Nat.reduceEqDiff])
  refine Ok.seq ?_
  ((first | refine qS rfl rfl ?_ | refine qR rfl rfl ?_); simp only [go_sem,↓dP,↓reduceIte]; with_reducible and_intros; all_goals first | apply qA | exact ⟨⟩ | rfl | (intros; apply qB; first | kernel_rfl | omega) | omega | skip)
  refine Ok.block ?_
  refine Ok.count s.ks.length (fun i => ⟨[(1,.p 0 0),(3,.tk 0),(50,.d (slD 5 bloD s.ks)),(51,iS s.ks.length),(52,iS i)],[streetB s],[ownD 9 1 strD (rowsK s i)]⟩) (fun _ => True) ⟨trivial,?_⟩ ?_ ?_
  · rw [rowsK_zero]
    (refine Sub.of ([0]) ([some 0]) ?_ ?_ ?_ rfl rfl <;> simp only [subB,subB1,subT,subT1,newT,subE,subV,subL,go_sem,↓dP,↓reduceIte] <;> (try (repeat' with_reducible apply And.intro)) <;> (try first | exact DEq.refl _ | refine DEq.int ?_ | refine DEq.bool ?_ | omega))
    exact fun _ _ _ _ => DEq.refl _
  · intro i hi _
    have hl:=rowsK_len s i hs
    have hx:=hs.k _ (getD_mem hi)
    have h131 : Ctr Tryz.prog 104 [.d (.ifc 154 5 (dget (s.ks.getD i default).cells))] (.d (.str (blockRow (s.ks.getD i default)))):=by
      cases hk : (s.ks.getD i default).sure with
      | true => exact c131b1 _ hk hx
      | false => exact c131b0 _ hk hx
    (((first | refine qS rfl rfl ?_ | refine qR rfl rfl ?_); simp only [go_sem,↓dP,↓reduceIte]; with_reducible and_intros; all_goals first | apply qA | exact ⟨⟩ | rfl | (intros; apply qB; first | kernel_rfl | omega) | omega | skip)); refine Ok.seq ?_; refine Ok.cond rfl (fun _ => ?_) (fun hb => by simp at hb; omega); (refine Ok.skip ?_; (try dsimp only [thenK,blockK,noGotoK])); refine Ok.seq ?_; refine Ok.block ?_
    ((first | refine qS rfl rfl ?_ | refine qR rfl rfl ?_); simp only [go_sem,↓dP,↓reduceIte]; with_reducible and_intros; all_goals first | apply qA | exact ⟨⟩ | rfl | (intros; apply qB; first | kernel_rfl | omega) | omega | skip)
    ((first | refine qS rfl rfl ?_ | refine qR rfl rfl ?_); simp only [go_sem,↓dP,↓reduceIte]; with_reducible and_intros; all_goals first | apply qA | exact ⟨⟩ | rfl | (intros; apply qB; first | kernel_rfl | omega) | omega | skip)
    (refine AskI.ret (h131) ?_; simp only [go_sem,↓dP,↓reduceIte]; with_reducible and_intros; all_goals first | apply qA | exact ⟨⟩ | rfl | (intros; apply qB; first | kernel_rfl | omega) | omega | skip)
    (try dsimp only [thenK,blockK,noGotoK])
    ((first | refine qS rfl rfl ?_ | refine qR rfl rfl ?_); simp only [go_sem,↓dP,↓reduceIte]; with_reducible and_intros; all_goals first | apply qA | exact ⟨⟩ | rfl | (intros; apply qB; first | kernel_rfl | omega) | omega | skip)
    (try dsimp only [thenK,blockK,noGotoK])
    refine ⟨trivial,?_⟩
    (refine Sub.of ([0]) ([some 2]) ?_ ?_ ?_ rfl rfl <;> simp only [subB,subB1,subT,subT1,newT,subE,subV,subL,go_sem,↓dP,↓reduceIte] <;> (try (repeat' with_reducible apply And.intro)) <;> (try first | exact DEq.refl _ | refine DEq.int ?_ | refine DEq.bool ?_ | omega))
    · rw [rowsK_succ s hi]; simp
    · rw [rowsK_succ s hi]
      exact snoc_D (str_snoc _)
  intro _
  rw [rowsK_all]
  have hrl : (rowsOf s).length ≤ 601:=by have:=rowsK_len s s.ks.length hs; rwa [rowsK_all] at this
  have hr:=rows_short s hs
  generalize rowsOf s = l at hrl hr ⊢
  (((first | refine qS rfl rfl ?_ | refine qR rfl rfl ?_); simp only [go_sem,↓dP,↓reduceIte]; with_reducible and_intros; all_goals first | apply qA | exact ⟨⟩ | rfl | (intros; apply qB; first | kernel_rfl | omega) | omega | skip)); refine Ok.seq ?_; refine Ok.cond rfl (fun hb => by simp at hb) (fun _ => ?_); (refine Ok.exit ?_; simp only [thenK_exit,blockK_exit,noGotoK_exit,thenK_normal,blockK_normal,noGotoK_normal,↓reduceIte,Nat.reduceEqDiff])
  ((first | refine qS rfl rfl ?_ | refine qR rfl rfl ?_); simp only [go_sem,↓dP,↓reduceIte]; with_reducible and_intros; all_goals first | apply qA | exact ⟨⟩ | rfl | (intros; apply qB; first | kernel_rfl | omega) | omega | skip)
  refine Ok.seq ?_
  ((first | refine qS rfl rfl ?_ | refine qR rfl rfl ?_); simp only [go_sem,↓dP,↓reduceIte]; with_reducible and_intros; all_goals first | apply qA | exact ⟨⟩ | rfl | (intros; apply qB; first | kernel_rfl | omega) | omega | skip)
  refine Ok.block ?_
  refine Ok.count l.length (fun i => ⟨[(3,.tk 0),(10,iS (rowsSum 0 (l.take i) : Nat)),(64,.tk 0),(65,iS l.length),(66,iS i)],[],[ownD 9 1 strD l]⟩) (fun _ => True) ⟨trivial,?_⟩ ?_ ?_
  · (refine Sub.of ([]) ([some 0]) ?_ ?_ ?_ rfl rfl <;> simp only [subB,subB1,subT,subT1,newT,subE,subV,subL,go_sem,↓dP,↓reduceIte] <;> (try (repeat' with_reducible apply And.intro)) <;> (try first | exact DEq.refl _ | refine DEq.int ?_ | refine DEq.bool ?_ | omega))
    exact fun _ _ _ _ => DEq.refl _
  · intro i hi _
    have hlen:=hr _ (getD_mem hi)
    have hti : (l.take i).length = i:=by simp; omega
    have hs1:=rowsSum_le (l.take i) 0 (by omega) (fun x hx => hr x (List.mem_of_mem_take hx))
    have hsn : rowsSum 0 (l.take (i + 1)) = rowsSum 0 (l.take i) + rowSum i 0 (l.getD i default):=by
      rw [getD_take hi,rowsSum_snoc,hti,Nat.zero_add]
    (((first | refine qS rfl rfl ?_ | refine qR rfl rfl ?_); simp only [go_sem,↓dP,↓reduceIte]; with_reducible and_intros; all_goals first | apply qA | exact ⟨⟩ | rfl | (intros; apply qB; first | kernel_rfl | omega) | omega | skip)); refine Ok.seq ?_; refine Ok.cond rfl (fun _ => ?_) (fun hb => by simp at hb; omega); (refine Ok.skip ?_; (try dsimp only [thenK,blockK,noGotoK])); refine Ok.seq ?_; refine Ok.block ?_
    ((first | refine qS rfl rfl ?_ | refine qR rfl rfl ?_); simp only [go_sem,↓dP,↓reduceIte]; with_reducible and_intros; all_goals first | apply qA | exact ⟨⟩ | rfl | (intros; apply qB; first | kernel_rfl | omega) | omega | skip)
    ((first | refine qS rfl rfl ?_ | refine qR rfl rfl ?_); simp only [go_sem,↓dP,↓reduceIte]; with_reducible and_intros; all_goals first | apply qA | exact ⟨⟩ | rfl | (intros; apply qB; first | kernel_rfl | omega) | omega | skip)
    refine Ok.block ?_
    refine Ok.count (l.getD i default).length (fun k => ⟨[(3,.tk 0),(10,iS ((rowsSum 0 (l.take i) : Nat) + (rowSum i 0 ((l.getD i default).take k) : Nat))),(11,iS i),(12,.d (.str (l.getD i default))),(64,.tk 0),(65,iS l.length),(66,iS i),(72,iS (l.getD i default).length),(73,iS k)],[],[ownD 9 1 strD l]⟩) (fun _ => True) ⟨trivial,?_⟩ ?_ ?_
    · (refine Sub.of ([]) ([some 0]) ?_ ?_ ?_ rfl rfl <;> simp only [subB,subB1,subT,subT1,newT,subE,subV,subL,go_sem,↓dP,↓reduceIte] <;> (try (repeat' with_reducible apply And.intro)) <;> (try first | exact DEq.refl _ | refine DEq.int ?_ | refine DEq.bool ?_ | omega))
      all_goals first | (exact fun _ _ _ _ => DEq.refl _) | simp [rowSum]
    · intro k hk _
      have htk : ((l.getD i default).take k).length = k:=by rw [List.length_take]; omega
      have hs2:=rowSum_le i (by omega) ((l.getD i default).take k) 0 (by omega)
      have hrn : rowSum i 0 ((l.getD i default).take (k + 1)) = rowSum i 0 ((l.getD i default).take k) + ((l.getD i default).getD k 0).toNat * (k + 1) * (i + 1):=by
        rw [getD_take hk,rowSum_snoc,htk,Nat.zero_add,getD0]
      have hb : ((l.getD i default).getD k 0).toNat ≤ 255:=by have:=((l.getD i default).getD k 0).toNat_lt; omega
      have hk2 : (l[i]?.getD default).length = (l.getD i default).length:=by rw [List.getD_eq_getElem?_getD]
      generalize hbb : ((l.getD i default).getD k 0).toNat = b at hrn hb
      have e1:=mulB (a:=(b : Int)) (b:=(k : Int) + 1) (A:=255) (B:=1000) (by omega) (by omega) (by omega) (by omega)
      have e2:=mulB (a:=(b : Int) * ((k : Int) + 1)) (b:=(i : Int) + 1) (A:=255000) (B:=1000) (by omega) (by omega) (by omega) (by omega)
      (((first | refine qS rfl rfl ?_ | refine qR rfl rfl ?_); simp only [go_sem,↓dP,↓reduceIte]; with_reducible and_intros; all_goals first | apply qA | exact ⟨⟩ | rfl | (intros; apply qB; first | kernel_rfl | omega) | omega | skip)); refine Ok.seq ?_; refine Ok.cond rfl (fun _ => ?_) (fun hb => by simp at hb; omega); (refine Ok.skip ?_; (try dsimp only [thenK,blockK,noGotoK])); refine Ok.seq ?_; refine Ok.block ?_
      ((first | refine qS rfl rfl ?_ | refine qR rfl rfl ?_); simp only [go_sem,↓dP,↓reduceIte]; with_reducible and_intros; all_goals first | apply qA | exact ⟨⟩ | rfl | (intros; apply qB; first | kernel_rfl | omega) | omega | skip)
      ((first | refine qS rfl rfl ?_ | refine qR rfl rfl ?_); simp only [go_sem,↓dP,↓reduceIte]; with_reducible and_intros; all_goals first | apply qA | exact ⟨⟩ | rfl | (intros; apply qB; first | kernel_rfl | omega) | omega | skip)
      · rw [hbb]; exact R64 (by omega) (by omega)
      · rw [hbb]; exact R64 (by omega) (by omega)
      · rw [hbb]; exact R64 (by omega) (by omega)
      (try dsimp only [thenK,blockK,noGotoK])
      ((first | refine qS rfl rfl ?_ | refine qR rfl rfl ?_); simp only [go_sem,↓dP,↓reduceIte]; with_reducible and_intros; all_goals first | apply qA | exact ⟨⟩ | rfl | (intros; apply qB; first | kernel_rfl | omega) | omega | skip)
      (try dsimp only [thenK,blockK,noGotoK])
      refine ⟨trivial,?_⟩
      (refine Sub.of ([]) ([some 0]) ?_ ?_ ?_ rfl rfl <;> simp only [subB,subB1,subT,subT1,newT,subE,subV,subL,go_sem,↓dP,↓reduceIte] <;> (try (repeat' with_reducible apply And.intro)) <;> (try first | exact DEq.refl _ | refine DEq.int ?_ | refine DEq.bool ?_ | omega))
      all_goals first | (exact fun _ _ _ _ => DEq.refl _) | (rw [hrn,hbb]; push_cast; omega)
    · intro _
      (((first | refine qS rfl rfl ?_ | refine qR rfl rfl ?_); simp only [go_sem,↓dP,↓reduceIte]; with_reducible and_intros; all_goals first | apply qA | exact ⟨⟩ | rfl | (intros; apply qB; first | kernel_rfl | omega) | omega | skip)); refine Ok.seq ?_; refine Ok.cond rfl (fun hb => by simp at hb) (fun _ => ?_); (refine Ok.exit ?_; simp only [thenK_exit,blockK_exit,noGotoK_exit,thenK_normal,blockK_normal,noGotoK_normal,↓reduceIte,Nat.reduceEqDiff])
      (try dsimp only [thenK,blockK,noGotoK])
      ((first | refine qS rfl rfl ?_ | refine qR rfl rfl ?_); simp only [go_sem,↓dP,↓reduceIte]; with_reducible and_intros; all_goals first | apply qA | exact ⟨⟩ | rfl | (intros; apply qB; first | kernel_rfl | omega) | omega | skip)
      (try dsimp only [thenK,blockK,noGotoK])
      refine ⟨trivial,?_⟩
      (refine Sub.of ([]) ([some 0]) ?_ ?_ ?_ rfl rfl <;> simp only [subB,subB1,subT,subT1,newT,subE,subV,subL,go_sem,↓dP,↓reduceIte] <;> (try (repeat' with_reducible apply And.intro)) <;> (try first | exact DEq.refl _ | refine DEq.int ?_ | refine DEq.bool ?_ | omega))
      all_goals first | (exact fun _ _ _ _ => DEq.refl _) | (rw [hsn,List.take_length]; push_cast; omega)
  intro _
  have hs1:=rowsSum_le l 0 (by omega) hr
  have hfl:=flatL_len l hr
  rw [List.take_length]
  (((first | refine qS rfl rfl ?_ | refine qR rfl rfl ?_); simp only [go_sem,↓dP,↓reduceIte]; with_reducible and_intros; all_goals first | apply qA | exact ⟨⟩ | rfl | (intros; apply qB; first | kernel_rfl | omega) | omega | skip)); refine Ok.seq ?_; refine Ok.cond rfl (fun hb => by simp at hb) (fun _ => ?_); (refine Ok.exit ?_; simp only [thenK_exit,blockK_exit,noGotoK_exit,thenK_normal,blockK_normal,noGotoK_normal,↓reduceIte,Nat.reduceEqDiff])
  ((first | refine qS rfl rfl ?_ | refine qR rfl rfl ?_); simp only [go_sem,↓dP,↓reduceIte]; with_reducible and_intros; all_goals first | apply qA | exact ⟨⟩ | rfl | (intros; apply qB; first | kernel_rfl | omega) | omega | skip)
  rw [show ((rowsSum 0 l : Nat) : Int).tmod 179 = ((rowsSum 0 l % 179 : Nat) : Int) from by rw [Int.tmod_eq_emod_of_nonneg (by omega)]; simp]
  unfold sealedL
  have hc : rowsSum 0 l % 179 < 179:=Nat.mod_lt _ (by decide)
  generalize rowsSum 0 l % 179 = c at hc
  have l1:=decLen (c / 100) (by omega)
  have l2:=decLen (c / 10 % 10) (by omega)
  have l3:=decLen (c % 10) (by omega)
  ((first | refine qS rfl rfl ?_ | refine qR rfl rfl ?_); simp only [go_sem,↓dP,↓reduceIte]; with_reducible and_intros; all_goals first | apply qA | exact ⟨⟩ | rfl | (intros; apply qB; first | kernel_rfl | omega) | omega | skip)
  · rw [tdivC]; exact R64 (by omega) (by omega)
  rw [tdivC]
  have i1 : Lib.itoa ((c / 100 : Nat) : Int) = Lib.decDigits (c / 100):=Lib.itoa_nonneg _
  have i2 : Lib.itoa ((c / 10 % 10 : Nat) : Int) = Lib.decDigits (c / 10 % 10):=Lib.itoa_nonneg _
  have i3 : Lib.itoa ((c % 10 : Nat) : Int) = Lib.decDigits (c % 10):=Lib.itoa_nonneg _
  have h1:=c132 ((c / 100 : Nat) : Int) (by omega) (by omega)
  rw [i1] at h1
  have h2:=c132 ((c / 10 % 10 : Nat) : Int) (by omega) (by omega)
  rw [i2] at h2
  have h3:=c132 ((c % 10 : Nat) : Int) (by omega) (by omega)
  rw [i3] at h3
  have hel:=endL_len hc
  (refine AskI.ret (h1) ?_; simp only [go_sem,↓dP,↓reduceIte]; with_reducible and_intros; all_goals first | apply qA | exact ⟨⟩ | rfl | (intros; apply qB; first | kernel_rfl | omega) | omega | skip)
  · simp only [strRoom,List.length_append,List.length_cons,List.length_nil]; omega
  · rw [tdivN]; exact R64 (by omega) (by omega)
  rw [tdivN,tmodN]
  (refine AskI.ret (h2) ?_; simp only [go_sem,↓dP,↓reduceIte]; with_reducible and_intros; all_goals first | apply qA | exact ⟨⟩ | rfl | (intros; apply qB; first | kernel_rfl | omega) | omega | skip)
  · simp only [strRoom,List.length_append,List.length_cons,List.length_nil]; omega
  rw [tmodN]
  (refine AskI.ret (h3) ?_; simp only [go_sem,↓dP,↓reduceIte]; with_reducible and_intros; all_goals first | apply qA | exact ⟨⟩ | rfl | (intros; apply qB; first | kernel_rfl | omega) | omega | skip)
  · simp only [strRoom,List.length_append,List.length_cons,List.length_nil]; omega
  have hjl : (Lib.join (l ++ [endL c]) [10]).length ≤ 1000000:=by
    rw [join_flat,List.length_append]; omega
  have h133:=c133 (l ++ [endL c]) [10] (by simp; omega) (by omega) (by simp)
  refine Ok.sub (σ':=⟨[(3,.tk 0)],[],[ownD 9 1 strD (l ++ [endL c])]⟩) ?_ ?_
  · (refine Sub.of ([]) ([some 2]) ?_ ?_ ?_ rfl rfl <;> simp only [subB,subB1,subT,subT1,newT,subE,subV,subL,go_sem,↓dP,↓reduceIte] <;> (try (repeat' with_reducible apply And.intro)) <;> (try first | exact DEq.refl _ | refine DEq.int ?_ | refine DEq.bool ?_ | omega))
    · simp
    · have e : endL c = [101,110,100,32] ++ Lib.decDigits (c / 100) ++ Lib.decDigits (c / 10 % 10) ++ Lib.decDigits (c % 10):=rfl
      rw [e]
      exact snoc_D (str_snoc _)
  ((first | refine qS rfl rfl ?_ | refine qR rfl rfl ?_); simp only [go_sem,↓dP,↓reduceIte]; with_reducible and_intros; all_goals first | apply qA | exact ⟨⟩ | rfl | (intros; apply qB; first | kernel_rfl | omega) | omega | skip)
  (refine AskI.ret (h133) ?_; simp only [go_sem,↓dP,↓reduceIte]; with_reducible and_intros; all_goals first | apply qA | exact ⟨⟩ | rfl | (intros; apply qB; first | kernel_rfl | omega) | omega | skip)
  · rw [join_flat]; simp only [strRoom,List.length_append,List.length_cons,List.length_nil]; omega
  (refine Ok.ret ?_; (try dsimp only [thenK,blockK,noGotoK]); simp only [toList_mk,List.toList_toArray,retK_ret,retK_normal,resOK,resV,celV,rowV,frzAll,frzT,subV,subL,go_sem,↓dP,↓reduceIte])
  refine DEq.str ?_
  rw [join_flat]
end Go.Proofs.Sight
