/-
  The theorem of a street that is turned round: SightTurned returns true at every input,and leaves it as it was.
  No condition beside those that the statement itself names.
-/
import Derived.Test.YtchnganlpgfdjaaGreatDoorB00
import Derived.Test.YtchnganlpgfdjaaGreatDoorB01
import Derived.Test.YtchnganlpgfdjaaGreatDoorB02
import Derived.Test.YtchnganlpgfdjaaGreatDoorB03
import Derived.Test.YtchnganlpgfdjaaGreatDoorB04
import Derived.Test.YtchnganlpgfdjaaGreatDoorB05
import Derived.Test.YtchnganlpgfdjaaGreatDoorB06
import Derived.Test.YtchnganlpgfdjaaGreatDoorB07
import Derived.Test.YtchnganlpgfdjaaGreatDoorB08
import Derived.Test.YtchnganlpgfdjaaGreatDoorB09
import Derived.Test.YtchnganlpgfdjaaGreatDoorB10
import Derived.Test.YtchnganlpgfdjaaGreatDoorB11
import Derived.Test.YtchnganlpgfdjaaGreatDoorB12
import Derived.Test.YtchnganlpgfdjaaGreatDoorB13
import Derived.Test.YtchnganlpgfdjaaGreatDoorB14
import Derived.Test.YtchnganlpgfdjaaGreatDoorB15
import Derived.Test.YtchnganlpgfdjaaGreatDoorB16
import Derived.Test.YtchnganlpgfdjaaGreatDoorB17
import Derived.Test.YtchnganlpgfdjaaGreatDoorB18
import Derived.Test.YtchnganlpgfdjaaGreatDoorB19
import Derived.Test.YtchnganlpgfdjaaGreatDoorB20
import Derived.Test.YtchnganlpgfdjaaGreatDoorB21
import Derived.Test.YtchnganlpgfdjaaGreatDoorB22
import Derived.Test.YtchnganlpgfdjaaGreatDoorB23
import Derived.Test.YtchnganlpgfdjaaGreatDoorB24
import Derived.Test.YtchnganlpgfdjaaGreatDoorB25
import Derived.Test.YtchnganlpgfdjaaGreatDoorB26
import Derived.OpenShut
import Derived.Deep.Slices
import Derived.Deep.Strs
import Derived.Lib.SmallJoins
import Derived.Test.YtchnganlpgfdjaaGreatDoorRows
import Derived.Test.YtchnganlpgfdjaaGreatDoorTie
import Derived.Test.YtchnganlpgfdjaaGreatDoorCards
import Derived.ProofKit
import Derived.LaidMore
import Derived.Lay
import Derived.LaidOnce
import Derived.SevenTiedAt
import Derived.Shelf.Vars
import Derived.Carry
import Derived.HandedShaped
import Derived.Stop.LaidErr
import Derived.ChangeCalls
import Derived.ChangeMaps5
set_option linter.all false
set_option linter.unusedVariables false
set_option linter.unusedSectionVars false
set_option linter.unusedSimpArgs false
set_option linter.unnecessarySimpa false
namespace Go.Proofs.Sight
open Go Go.RX Go.Proofs
set_option maxRecDepth 10000
theorem rightS_spec {s : Street} {i : Int} {p : Place} (h : rightS s i p = true) : s.fit ∧ lookOk s i p = true:=by
  simp only [rightS,Bool.and_eq_true] at h
  exact ⟨short_fit h.1,h.2⟩
theorem lookOk_of {s : Street} {i : Int} {p : Place} (hs : s.ok) (hi : 0 ≤ i ∧ i < s.bs.length) (hp : placeIn s p = true) : lookOk s i p = true:=by
  simp only [lookOk,Bool.and_eq_true,isStreet_ok.2 hs,hp,inR,decide_eq_true_eq,and_true,true_and]
  omega
theorem seen_of {s : Street} {i : Int} {p : Place} (h : lookOk s i p = true) : seenW s i p = word (surelyL ⟨s,brd s i,p⟩) (mayL ⟨s,brd s i,p⟩):=by
  obtain ⟨_,_,_,hl,_⟩:=lookOk_spec h
  rw [seenW,if_pos h,hl]; rfl
theorem c25r {s : Street} {i : Int} {p : Place} (h : lookOk s i p = true) : Ctr Tryz.prog 23 [s.sv,iS i,p.sv] (.tup [iS (word (surelyL ⟨s,brd s i,p⟩) (mayL ⟨s,brd s i,p⟩)),iS 0]):=by
  have h':=c25 s (lookOk_spec h).1.fit i p
  rwa [seen_of h,h,show errA true = 0 from rfl] at h'
end Go.Proofs.Sight
namespace Go.Proofs.Sight
open Go Go.RX Go.Proofs
abbrev Look.lo (L : Look) : Int:=L.s.el * L.s.ll
abbrev Look.hi (L : Look) : Int:=L.s.eh * L.s.lh
abbrev Look.at_ (L : Look) (k : Nat) : Letter:=L.b.ls.getD k default
section
variable {L : Look} (hg : L.good) (hp : L.lo ≤ L.hi)
include hg hp
end
end Go.Proofs.Sight
namespace Go.Proofs.Sight
open Go Go.RX Go.Proofs
set_option maxRecDepth 10000
abbrev Street.lit (s : Street) (n : Int) : Street:={ s with ll:=n,lh:=n }
end Go.Proofs.Sight
namespace Go.Proofs.Sight
open Go Go.RX Go.Proofs
set_option maxRecDepth 10000
theorem nat_int (l : List Nat) : (slD 1 natD l : DV) = slD 1 intD (l.map Int.ofNat):=by
  unfold slD
  rw [List.length_map]
  refine congrArg _ (funext fun i => funext fun j => ?_)
  have : (l.map Int.ofNat).getD i default = Int.ofNat (l.getD i default):=by
    rw [List.getD_eq_getElem?_getD,List.getD_eq_getElem?_getD,List.getElem?_map]
    cases l[i]? <;> rfl
  rw [this]; rfl
end Go.Proofs.Sight
namespace Go.Proofs.Sight
open Go Go.RX Go.Proofs
theorem plAt_inj {wd i j : Nat} (h0 : 1 ≤ wd) (h1 : wd ≤ 12) (hi : i < 41 * wd) (hj : j < 41 * wd) (h : plAt wd i = plAt wd j) : i = j:=by
  have hd : ∀ k,k < 41 * wd → k / wd < 41:=fun k hk => Nat.div_lt_of_lt_mul (by rwa [Nat.mul_comm])
  have hm : ∀ k,k % wd < 12:=fun k => Nat.lt_of_lt_of_le (Nat.mod_lt _ (by omega)) h1
  simp only [plAt,Prod.mk.injEq] at h
  have e1:=congrArg Fin.val h.1
  have e2:=congrArg Fin.val h.2
  simp only [Fin.ofNat] at e1 e2
  rw [Nat.mod_eq_of_lt (hd i hi),Nat.mod_eq_of_lt (hd j hj)] at e1
  rw [Nat.mod_eq_of_lt (hm i),Nat.mod_eq_of_lt (hm j)] at e2
  rw [← Nat.div_add_mod i wd,← Nat.div_add_mod j wd,e1,e2]
theorem plL_nodup {s : Street} (hs : s.ok) : (plL s).Nodup:=by
  have h1:=hs.len1; have h2:=hs.wid1; have h3:=hs.wid0; have h4:=hs.len0
  have hb : (s.len.toNat + 1) * s.wid.toNat ≤ 41 * s.wid.toNat:=Nat.mul_le_mul_right _ (by omega)
  unfold plL uptoP
  refine List.pairwise_map.2 (List.Pairwise.imp_of_mem ?_ List.pairwise_lt_range)
  intro a b ha hb' hab h
  have ha:=List.mem_range.1 ha
  have hb':=List.mem_range.1 hb'
  have:=plAt_inj (by omega) (by omega) (by omega) (by omega) h
  omega
theorem foldl_ins (m : List Pl) : ∀ acc : List Pl,m.Nodup → (∀ x ∈ m,x ∉ acc) → m.foldl ins acc = acc ++ m:=by
  induction m with
  | nil => intro acc _ _; simp
  | cons x m ih =>
    intro acc hn hd
    obtain ⟨h1,h2⟩:=List.nodup_cons.1 hn
    rw [List.foldl_cons,ins,if_neg (hd x (List.mem_cons.2 (.inl rfl))),ih _ h2 (fun y hy => ?_),List.append_assoc]
    · rfl
    · intro hm
      rcases List.mem_append.1 hm with h | h
      · exact hd y (List.mem_cons.2 (.inr hy)) h
      · rw [List.mem_singleton.1 h] at hy; exact h1 hy
theorem fromL_eq {s : Street} (hs : s.ok) (q : Pl → Bool) : fromL q s = (plL s).filter q:=by
  unfold fromL seenF
  rw [foldl_ins _ [] (List.Pairwise.sublist List.filter_sublist (plL_nodup hs)) (fun x _ h => by cases h)]
  rfl
theorem ordered_from {s : Street} (hs : s.ok) (q : Pl → Bool) : orderedL s (fromL q s) = ((plL s).filter q).map Pl.p:=by
  rw [orderedL,fromL_eq hs,inL]
  refine congrArg _ (List.filter_congr fun x hx => ?_)
  rw [Bool.eq_iff_iff]
  simp [hx]
def placesL (s : Street) : List Place:=(plL s).map Pl.p
def sureL (s : Street) (b : Board) : List Place:=(placesL s).filter (fun x => surelyL ⟨s,b,x⟩)
def maybeL (s : Street) (b : Board) : List Place:=(placesL s).filter (fun x => mayL ⟨s,b,x⟩)
theorem far_sure {s : Street} (hs : s.ok) (b : Board) : farthestL s b = sureL s b:=by
  rw [farthestL,ordered_from hs,sureL,placesL,List.filter_map]
  rfl
theorem many_sure {s : Street} (hs : s.ok) (b : Board) : (fromL (sureAt s b) s).length = (sureL s b).length:=by
  rw [← far_sure hs,farthestL,ordered_from hs,List.length_map,fromL_eq hs]
theorem many_may {s : Street} (hs : s.ok) (b : Board) : (fromL (mayAt s b) s).length = (maybeL s b).length:=by
  rw [fromL_eq hs,maybeL,placesL,List.filter_map,List.length_map]
  rfl
theorem place_mem {s : Street} (hs : s.ok) {p : Place} : p ∈ placesL s ↔ placeIn s p = true:=by
  have h1:=hs.len1; have h2:=hs.wid1; have h3:=hs.wid0; have h4:=hs.len0
  simp only [placesL,plL,uptoP,List.map_map,List.mem_map,List.mem_range,placeIn,inR,Bool.and_eq_true,decide_eq_true_eq,Function.comp]
  constructor
  · rintro ⟨i,hi,rfl⟩
    have h5 : i / s.wid.toNat < s.len.toNat + 1:=Nat.div_lt_of_lt_mul (by rwa [Nat.mul_comm])
    have h6 : i % s.wid.toNat < s.wid.toNat:=Nat.mod_lt _ (by omega)
    simp only [Pl.p,plAt,Fin.ofNat]
    rw [Nat.mod_eq_of_lt (show i / s.wid.toNat < 41 by omega),Nat.mod_eq_of_lt (show i % s.wid.toNat < 12 by omega)]
    generalize i / s.wid.toNat = u at h5
    generalize i % s.wid.toNat = v at h6
    omega
  · rintro ⟨⟨a,b⟩,c,d⟩
    obtain ⟨x,y⟩:=p
    dsimp only at a b c d
    refine ⟨x.toNat * s.wid.toNat + (y - 1).toNat,?_,?_⟩
    · have h5 : (x.toNat + 1) * s.wid.toNat = x.toNat * s.wid.toNat + s.wid.toNat:=Nat.succ_mul _ _
      have h6 : (x.toNat + 1) * s.wid.toNat ≤ (s.len.toNat + 1) * s.wid.toNat:=Nat.mul_le_mul_right _ (by omega)
      omega
    · rw [plAt_mul (by omega) (by omega) (by omega)]
      simp only [Pl.p]
      rw [show ((x.toNat : Nat) : Int) = x by omega,show (((y - 1).toNat : Nat) : Int) + 1 = y by omega]
end Go.Proofs.Sight
namespace Go.Proofs.Sight
open Go Go.RX Go.Proofs
def beforeB (p q : Place) : Bool:=decide (p.al < q.al) || (decide (p.al = q.al) && decide (p.ac < q.ac))
theorem before_iff {p q : Place} : beforeB p q = true ↔ p.al < q.al ∨ p.al = q.al ∧ p.ac < q.ac:=by simp [beforeB]
theorem before_irr (p : Place) : beforeB p p = false:=by simp [beforeB]
theorem places_sorted {s : Street} (hs : s.ok) : (placesL s).Pairwise (fun x y => beforeB x y = true):=by
  have h1:=hs.len1; have h2:=hs.wid1; have h3:=hs.wid0; have h4:=hs.len0
  have hb : (s.len.toNat + 1) * s.wid.toNat ≤ 41 * s.wid.toNat:=Nat.mul_le_mul_right _ (by omega)
  unfold placesL plL uptoP
  rw [List.map_map]
  refine List.pairwise_map.2 (List.Pairwise.imp_of_mem ?_ List.pairwise_lt_range)
  intro a b ha hb' hab
  have ha:=List.mem_range.1 ha
  have hb':=List.mem_range.1 hb'
  have h5 : 0 < s.wid.toNat:=by omega
  have h6 : s.wid.toNat ≤ 12:=by omega
  generalize s.wid.toNat = wd at *
  have hd : ∀ k,k < 41 * wd → k / wd < 41:=fun k hk => Nat.div_lt_of_lt_mul (by rwa [Nat.mul_comm])
  have hm : ∀ k,k % wd < wd:=fun k => Nat.mod_lt _ h5
  have hw : wd ≤ 41 * wd:=by omega
  rw [before_iff]
  simp only [Function.comp,Pl.p,plAt,Fin.ofNat]
  have ea:=Nat.div_add_mod a wd
  have eb:=Nat.div_add_mod b wd
  have hda:=hd a (by omega)
  have hdb:=hd b (by omega)
  have hle : a / wd ≤ b / wd:=Nat.div_le_div_right (Nat.le_of_lt hab)
  rw [Nat.mod_eq_of_lt hda,Nat.mod_eq_of_lt hdb]
  by_cases e : a / wd = b / wd
  · right
    rw [e] at ea
    refine ⟨by rw [e],?_⟩
    have hma:=hm a
    have hmb:=hm b
    rw [Nat.mod_eq_of_lt (show a % wd < 12 by omega),Nat.mod_eq_of_lt (show b % wd < 12 by omega)]
    generalize wd * (b / wd) = X at ea eb
    omega
  · left
    omega
end Go.Proofs.Sight
namespace Go.Proofs.Sight
open Go Go.RX Go.Proofs
set_option maxRecDepth 10000
theorem look_board {s : Street} {i : Int} {p : Place} (h : lookOk s i p = true) : boardOk s i = true:=by
  simp only [lookOk,Bool.and_eq_true] at h
  simp only [boardOk,h.1.1,h.1.2,Bool.and_self]
theorem c42r {s : Street} {i : Int} (h : boardOk s i = true) : Ctr Tryz.prog 20 [s.sv,iS i] (.tup [iS (sureL s (brd s i)).length,iS (maybeL s (brd s i)).length,iS 0]):=by
  obtain ⟨hok,_,_⟩:=boardOk_spec h
  have h':=c42 s hok.fit i
  rwa [show manyS s i = (sureL s (brd s i)).length by simp [manyS,h,many_sure hok],show manyM s i = (maybeL s (brd s i)).length by simp [manyM,h,many_may hok],h,show errA true = 0 from rfl] at h'
end Go.Proofs.Sight
namespace Go.Proofs.Sight
open Go Go.RX Go.Proofs
theorem map_getD {α β : Type} [Inhabited α] [Inhabited β] (f : α → β) {l : List α} {i : Nat} (h : i < l.length) : (l.map f).getD i default = f (l.getD i default):=by
  rw [List.getD_eq_getElem?_getD,List.getD_eq_getElem?_getD,List.getElem?_map,List.getElem?_eq_getElem h]; rfl
def streetX (s : Street) (n : Nat) : BC:={ frz:=false,xs:=[iS s.len,iS s.wid,iS s.el,iS s.eh,iS s.ll,iS s.lh,.tk n,.d (slD 5 bloD s.ks)] }
theorem streetX_def (s : Street) (n : Nat) : streetX s n = { frz:=false,xs:=[iS s.len,iS s.wid,iS s.el,iS s.eh,iS s.ll,iS s.lh,.tk n,.d (slD 5 bloD s.ks)] }:=Eq.trans rfl rfl
attribute [go_sem] streetX_def
abbrev Board.atP (b : Board) (n : Int) : Board:={ b with at_:=n }
end Go.Proofs.Sight
namespace Go.Proofs.Sight
open Go Go.RX Go.Proofs
set_option maxRecDepth 10000
theorem c57 (b : Board) (n : Int) : Ctr Tryz.prog 19 [b.sv,iS n] (b.atP n).sv:=by
  (refine Ctr.mk (fn:=Tryz.f19) rfl rfl rfl rfl rfl Tryz.results19 ?_; dsimp only [args,List.toList_toArray])
  ((first | refine qS rfl rfl ?_ | refine qR rfl rfl ?_); simp only [go_sem,↓dP,↓reduceIte]; with_reducible and_intros; all_goals first | apply qA | exact ⟨⟩ | rfl | (intros; apply qB; first | kernel_rfl | omega) | omega | skip)
  ((first | refine qS rfl rfl ?_ | refine qR rfl rfl ?_); simp only [go_sem,↓dP,↓reduceIte]; with_reducible and_intros; all_goals first | apply qA | exact ⟨⟩ | rfl | (intros; apply qB; first | kernel_rfl | omega) | omega | skip)
  ((first | refine qS rfl rfl ?_ | refine qR rfl rfl ?_); simp only [go_sem,↓dP,↓reduceIte]; with_reducible and_intros; all_goals first | apply qA | exact ⟨⟩ | rfl | (intros; apply qB; first | kernel_rfl | omega) | omega | skip)
  (refine Ok.ret ?_; (try dsimp only [thenK,blockK,noGotoK]); simp only [toList_mk,List.toList_toArray,retK_ret,retK_normal,resOK,resV,celV,rowV,frzAll,frzT,subV,subL,go_sem,↓dP,↓reduceIte])
  ((repeat' with_reducible apply And.intro) <;> (first | exact DEq.refl _ | refine DEq.int ?_ | refine DEq.bool ?_ | skip))
end Go.Proofs.Sight
namespace Go.Proofs.Sight
open Go Go.RX Go.Proofs
def turnK (n : Int) (k : Block) : Block:={ k with al:=n - k.ah,ah:=n - k.al }
def turnB (n : Int) (b : Board) : Board:=b.atP (n - b.at_)
def Street.turn (s : Street) : Street:={ s with bs:=s.bs.map (turnB s.len),ks:=s.ks.map (turnK s.len) }
def turnP (s : Street) (p : Place) : Place:=⟨s.len - p.al,p.ac⟩
def Look.turn (L : Look) : Look:=⟨L.s.turn,turnB L.s.len L.b,turnP L.s L.p⟩
theorem far_turn (L : Look) : far L.turn.b.at_ L.turn.p = far L.b.at_ L.p:=by
  simp only [far,Look.turn,turnB,turnP]
  rw [show L.s.len - L.p.al - (L.s.len - L.b.at_) = -(L.p.al - L.b.at_) by omega,Int.neg_mul_neg]
theorem ac_turn (L : Look) : L.turn.p.ac = L.p.ac:=rfl
theorem along_turn (L : Look) (c : Int) : along L.turn c = L.s.len * L.p.ac - along L c:=by
  simp only [along,Look.turn,turnB,turnP]
  rw [show L.s.len - L.p.al - (L.s.len - L.b.at_) = -(L.p.al - L.b.at_) by omega,Int.neg_mul,Int.sub_mul]
  omega
theorem hides_turn (L : Look) (k : Block) : hides L.turn (turnK L.s.len k) = hides L k:=by
  unfold hides
  rw [Bool.eq_iff_iff]
  simp only [Bool.and_eq_true,decide_eq_true_eq]
  rw [along_turn,along_turn,ac_turn]
  dsimp only [turnK]
  rw [Int.sub_mul,Int.sub_mul]
  generalize along L k.cl = x
  generalize along L (min k.ch L.p.ac) = y
  generalize L.s.len * L.p.ac = N
  generalize k.al * L.p.ac = u
  generalize k.ah * L.p.ac = v
  omega
theorem tall_turn (L : Look) (x : Letter) (n : Int) : tall L.turn x n = tall L x n:=by rw [tall,tall,far_turn]
theorem broad_turn (L : Look) (x : Letter) (n : Int) : broad L.turn x n = broad L x n:=by rw [broad,broad,far_turn,ac_turn]
theorem thick_turn (L : Look) (x : Letter) (n : Int) : thick L.turn x n = thick L x n:=by rw [thick,thick,far_turn]
theorem apart_turn (L : Look) (x : Letter) (n : Int) : apart L.turn x n = apart L x n:=by rw [apart,apart,far_turn,ac_turn]
theorem fault_turn (L : Look) (n : Int) (q : Block → Bool) (hq : ∀ k,q (turnK L.s.len k) = q k) : faultL L.turn n q = faultL L n q:=by
  have e0 : L.turn.s.ks.findIdx? (fun k => q k && hides L.turn k) = L.s.ks.findIdx? (fun k => q k && hides L k):=by
    show (L.s.ks.map (turnK L.s.len)).findIdx? _ = _
    rw [List.findIdx?_map]
    congr 1
    funext k
    simp only [Function.comp,hq,hides_turn]
  simp only [faultL,e0,tall_turn,broad_turn,thick_turn,apart_turn]
  rfl
theorem surely_turn (L : Look) : surelyL L.turn = surelyL L:=by
  rw [surelyL,fault_turn L _ _ (fun _ => rfl)]; rfl
theorem may_turn (L : Look) : mayL L.turn = mayL L:=by
  rw [mayL,fault_turn L _ _ (fun _ => rfl)]; rfl
theorem why_turn (L : Look) : whyL L.turn = whyL L:=by
  rw [whyL,fault_turn L _ _ (fun _ => rfl)]; rfl
theorem hidden_turn (L : Look) : hiddenL L.turn = hiddenL L:=by
  unfold hiddenL
  rw [show L.turn.s.ks = L.s.ks.map (turnK L.s.len) from rfl,List.length_map]
  refine List.filter_congr (fun j hj => ?_)
  rw [map_getD _ (List.mem_range.1 hj),hides_turn]
theorem turn_ok {s : Street} (hs : s.ok) : s.turn.ok:=by
  obtain ⟨a1,a2,a3,a4,a5,a6,a7,a8,a9,a10,a11,a12,a13,a14,a15,a16,a17⟩:=hs
  refine ⟨a1,a2,a3,a4,a5,a6,a7,a8,a9,a10,a11,a12,by simpa [Street.turn] using a13,by simpa [Street.turn] using a14,by simpa [Street.turn] using a15,fun x hx => ?_,fun x hx => ?_⟩
  · obtain ⟨b,hb,rfl⟩:=List.mem_map.1 hx
    have h:=(isBoard_spec (a16 _ hb)).1
    exact isBoard_at (a16 _ hb) (by omega) (by omega)
  · obtain ⟨k,hk,rfl⟩:=List.mem_map.1 hx
    have h:=a17 _ hk
    simp only [blockIn,spanR,inR,Bool.and_eq_true,decide_eq_true_eq] at h ⊢
    dsimp only [Street.turn,turnK]
    omega
theorem turn_brd {s : Street} {i : Int} (hi : 0 ≤ i ∧ i < s.bs.length) : brd s.turn i = turnB s.len (brd s i):=by
  rw [brd,Street.turn]
  dsimp only
  rw [map_getD _ (by omega)]; rfl
theorem turn_look {s : Street} {i : Int} {p : Place} (h : lookOk s i p = true) : lookOk s.turn i (turnP s p) = true:=by
  obtain ⟨hs,hi,hp,_,_⟩:=lookOk_spec h
  refine lookOk_of (turn_ok hs) (by simpa [Street.turn] using hi) ?_
  simp only [placeIn,inR,Bool.and_eq_true,decide_eq_true_eq] at hp ⊢
  dsimp only [Street.turn,turnP]
  omega
theorem turn_board {s : Street} {i : Int} (h : boardOk s i = true) : boardOk s.turn i = true:=by
  obtain ⟨hs,hi,_⟩:=boardOk_spec h
  simp only [boardOk,isStreet_ok.2 (turn_ok hs),inR,Bool.true_and,Bool.and_eq_true,decide_eq_true_eq]
  rw [show s.turn.bs.length = s.bs.length by simp [Street.turn]]
  omega
theorem turn_turn (s : Street) (p : Place) : turnP s (turnP s p) = p:=by
  obtain ⟨a,c⟩:=p
  simp only [turnP]
  rw [show s.len - (s.len - a) = a by omega]
theorem places_turn {s : Street} (hs : s.ok) : ((placesL s).map (turnP s)).Perm (placesL s):=by
  have h1 : (placesL s).Nodup:=List.Pairwise.imp (fun h e => by subst e; rw [before_irr] at h; cases h) (places_sorted hs)
  have h2 : ((placesL s).map (turnP s)).Nodup:=List.pairwise_map.2 (List.Pairwise.imp (fun h e => h (by have:=congrArg (turnP s) e; rwa [turn_turn,turn_turn] at this)) h1)
  refine (List.perm_ext_iff_of_nodup h2 h1).2 (fun x => ?_)
  have hm : ∀ x,x ∈ placesL s → turnP s x ∈ placesL s:=fun x hx => by
    rw [place_mem hs] at hx ⊢
    simp only [placeIn,inR,Bool.and_eq_true,decide_eq_true_eq] at hx ⊢
    dsimp only [turnP]
    omega
  constructor
  · intro h
    obtain ⟨y,hy,rfl⟩:=List.mem_map.1 h
    exact hm y hy
  · intro h
    exact List.mem_map.2 ⟨turnP s x,hm x h,turn_turn s x⟩
theorem count_turn {s : Street} (hs : s.ok) {q q' : Place → Bool} (h : ∀ x,q' (turnP s x) = q x) : ((placesL s).filter q').length = ((placesL s).filter q).length:=by
  rw [← ((places_turn hs).filter q').length_eq,List.filter_map,List.length_map]
  congr 1
  exact List.filter_congr (fun x _ => h x)
theorem sure_turn {s : Street} (hs : s.ok) (b : Board) : (sureL s.turn (turnB s.len b)).length = (sureL s b).length :=
  count_turn hs (fun x => surely_turn ⟨s,b,x⟩)
theorem maybe_turn {s : Street} (hs : s.ok) (b : Board) : (maybeL s.turn (turnB s.len b)).length = (maybeL s b).length :=
  count_turn hs (fun x => may_turn ⟨s,b,x⟩)
theorem seen_turn {s : Street} {i : Int} {p : Place} (h : lookOk s i p = true) : Ctr Tryz.prog 23 [s.turn.sv,iS i,(turnP s p).sv] (.tup [iS (word (surelyL ⟨s,brd s i,p⟩) (mayL ⟨s,brd s i,p⟩)),iS 0]):=by
  have h':=c25r (turn_look h)
  rw [turn_brd (lookOk_spec h).2.1] at h'
  rwa [show surelyL ⟨s.turn,turnB s.len (brd s i),turnP s p⟩ = surelyL ⟨s,brd s i,p⟩ from surely_turn ⟨s,brd s i,p⟩,show mayL ⟨s.turn,turnB s.len (brd s i),turnP s p⟩ = mayL ⟨s,brd s i,p⟩ from may_turn ⟨s,brd s i,p⟩] at h'
theorem lookOf_turn {s : Street} {i : Int} {p : Place} (h : lookOk s i p = true) : lookOf s.turn i (turnP s p) = (lookOf s i p).turn:=by
  rw [lookOf,if_pos (turn_look h),lookOf,if_pos h,Look.turn]
  exact congrArg (fun b => Look.mk s.turn b (turnP s p)) (turn_brd (lookOk_spec h).2.1)
theorem whys_turn {s : Street} {i : Int} {p : Place} (h : lookOk s i p = true) : Ctr Tryz.prog 27 [s.turn.sv,iS i,(turnP s p).sv] (.tup [.agg [iS (whyK s i p),iS (whyI s i p)],iS (whyE s i p)]):=by
  have h':=c29 s.turn (turn_ok (lookOk_spec h).1).fit i (turnP s p)
  rwa [whyK,whyI,whyE,if_pos (turn_look h),if_pos (turn_look h),if_pos (turn_look h),lookOf_turn h,why_turn,← show whyK s i p = _ from if_pos h,← show whyI s i p = _ from if_pos h,← show whyE s i p = _ from if_pos h] at h'
theorem hiddens_turn {s : Street} {i : Int} {p : Place} (h : lookOk s i p = true) : Ctr Tryz.prog 28 [s.turn.sv,iS i,(turnP s p).sv] (.tup [.d (slD 1 natD (hiddenW s i p)),iS 0]):=by
  have h':=c36 s.turn (turn_ok (lookOk_spec h).1).fit i (turnP s p)
  rwa [hiddenW,if_pos (turn_look h),lookOf_turn h,hidden_turn,← show hiddenW s i p = _ from if_pos h,turn_look h,show errA true = 0 from rfl] at h'
theorem many_turn {s : Street} {i : Int} (h : boardOk s i = true) : Ctr Tryz.prog 20 [s.turn.sv,iS i] (.tup [iS (sureL s (brd s i)).length,iS (maybeL s (brd s i)).length,iS 0]):=by
  have h':=c42r (turn_board h)
  rwa [turn_brd (boardOk_spec h).2.1,sure_turn (boardOk_spec h).1,maybe_turn (boardOk_spec h).1] at h'
theorem hiddenW_len {s : Street} {i : Int} {p : Place} (h : lookOk s i p = true) : (hiddenW s i p).length ≤ 4:=by
  obtain ⟨hs,_,_,hl,_⟩:=lookOk_spec h
  rw [hiddenW,if_pos h,hl,hiddenL]
  refine Nat.le_trans (List.length_filter_le _ _) ?_
  rw [List.length_range]; exact hs.k4
end Go.Proofs.Sight
namespace Go.Proofs.Sight
open Go Go.RX Go.Proofs
set_option maxRecDepth 10000
theorem c59 {s : Street} (hs : s.ok) : Ctr Tryz.prog 25 [s.sv] s.turn.sv:=by
  have hb3:=hs.b3
  have hk4:=hs.k4
  have h1:=hs.len1
  have h2:=hs.len0
  (refine Ctr.mk (fn:=Tryz.f25) rfl rfl rfl rfl rfl Tryz.results25 ?_; dsimp only [args,List.toList_toArray])
  ((first | refine qS rfl rfl ?_ | refine qR rfl rfl ?_); simp only [go_sem,↓dP,↓reduceIte]; with_reducible and_intros; all_goals first | apply qA | exact ⟨⟩ | rfl | (intros; apply qB; first | kernel_rfl | omega) | omega | skip)
  ((first | refine qS rfl rfl ?_ | refine qR rfl rfl ?_); simp only [go_sem,↓dP,↓reduceIte]; with_reducible and_intros; all_goals first | apply qA | exact ⟨⟩ | rfl | (intros; apply qB; first | kernel_rfl | omega) | omega | skip)
  ((first | refine qS rfl rfl ?_ | refine qR rfl rfl ?_); simp only [go_sem,↓dP,↓reduceIte]; with_reducible and_intros; all_goals first | apply qA | exact ⟨⟩ | rfl | (intros; apply qB; first | kernel_rfl | omega) | omega | skip)
  refine Ok.seq ?_
  ((first | refine qS rfl rfl ?_ | refine qR rfl rfl ?_); simp only [go_sem,↓dP,↓reduceIte]; with_reducible and_intros; all_goals first | apply qA | exact ⟨⟩ | rfl | (intros; apply qB; first | kernel_rfl | omega) | omega | skip)
  refine Ok.block ?_
  refine Ok.count s.bs.length (fun j => ⟨[(1,.p 0 0),(2,.p 1 0),(3,.p 2 0),(4,iS j)],[streetB s,{ frz:=false,xs:=[iS 0,iS 0,iS 0,iS 0,iS 0,iS 0,.d .nils,.d .nils] },{ frz:=false,xs:=[iS s.len,iS s.wid,iS s.el,iS s.eh,iS s.ll,iS s.lh,.tk 0,.d .nils] }],[ownD 38 2 boaD ((s.bs.take j).map (turnB s.len))]⟩) (fun _ => True) ⟨trivial,?_⟩ ?_ ?_
  · (refine Sub.of ([0,1,2]) ([none]) ?_ ?_ ?_ rfl rfl <;> simp only [subB,subB1,subT,subT1,newT,subE,subV,subL,go_sem,↓dP,↓reduceIte] <;> (try (repeat' with_reducible apply And.intro)) <;> (try first | exact DEq.refl _ | refine DEq.int ?_ | refine DEq.bool ?_ | omega))
  · intro j hj _
    have hlen:=map_len (turnB s.len) (l:=s.bs) (i:=j) (by omega)
    have hsn:=map_snoc (turnB s.len) hj
    have hbd:=(isBoard_spec (hs.bs _ (getD_mem hj))).1
    refine Ok.seq ?_; (((first | refine qS rfl rfl ?_ | refine qR rfl rfl ?_); simp only [go_sem,↓dP,↓reduceIte]; with_reducible and_intros; all_goals first | apply qA | exact ⟨⟩ | rfl | (intros; apply qB; first | kernel_rfl | omega) | omega | skip)); refine Ok.cond rfl (fun _ => ?_) (fun hb => by simp at hb; omega); (refine Ok.skip ?_; (try dsimp only [thenK,blockK,noGotoK])); refine Ok.seq ?_; refine Ok.block ?_
    ((first | refine qS rfl rfl ?_ | refine qR rfl rfl ?_); simp only [go_sem,↓dP,↓reduceIte]; with_reducible and_intros; all_goals first | apply qA | exact ⟨⟩ | rfl | (intros; apply qB; first | kernel_rfl | omega) | omega | skip)
    (refine AskI.ret (c57 (s.bs.getD j default) _) ?_; simp only [go_sem,↓dP,↓reduceIte]; with_reducible and_intros; all_goals first | apply qA | exact ⟨⟩ | rfl | (intros; apply qB; first | kernel_rfl | omega) | omega | skip)
    (try dsimp only [thenK,blockK,noGotoK])
    ((first | refine qS rfl rfl ?_ | refine qR rfl rfl ?_); simp only [go_sem,↓dP,↓reduceIte]; with_reducible and_intros; all_goals first | apply qA | exact ⟨⟩ | rfl | (intros; apply qB; first | kernel_rfl | omega) | omega | skip)
    (try dsimp only [thenK,blockK,noGotoK])
    refine ⟨trivial,?_⟩
    (refine Sub.of ([0,1,2]) ([some 1]) ?_ ?_ ?_ rfl rfl <;> simp only [subB,subB1,subT,subT1,newT,subE,subV,subL,go_sem,↓dP,↓reduceIte] <;> (try (repeat' with_reducible apply And.intro)) <;> (try first | exact DEq.refl _ | refine DEq.int ?_ | refine DEq.bool ?_ | omega))
    · rw [hsn]; simp
    · rw [hsn]
      exact snoc_D (fun c hc => by
        match c,hc with
        | 0,_ => rfl
        | 1,_ => rfl)
  · intro _
    rw [List.take_length]
    refine Ok.seq ?_; (((first | refine qS rfl rfl ?_ | refine qR rfl rfl ?_); simp only [go_sem,↓dP,↓reduceIte]; with_reducible and_intros; all_goals first | apply qA | exact ⟨⟩ | rfl | (intros; apply qB; first | kernel_rfl | omega) | omega | skip)); refine Ok.cond rfl (fun hb => by simp at hb) (fun _ => ?_); (refine Ok.exit ?_; simp only [thenK_exit,blockK_exit,noGotoK_exit,thenK_normal,blockK_normal,noGotoK_normal,↓reduceIte,Nat.reduceEqDiff])
    refine Ok.seq ?_
    ((first | refine qS rfl rfl ?_ | refine qR rfl rfl ?_); simp only [go_sem,↓dP,↓reduceIte]; with_reducible and_intros; all_goals first | apply qA | exact ⟨⟩ | rfl | (intros; apply qB; first | kernel_rfl | omega) | omega | skip)
    refine Ok.block ?_
    refine Ok.count s.ks.length (fun j => ⟨[(1,.p 0 0),(2,.p 1 0),(3,.p 2 0),(5,iS j)],[streetB s,{ frz:=false,xs:=[iS 0,iS 0,iS 0,iS 0,iS 0,iS 0,.d .nils,.d .nils] },{ frz:=false,xs:=[iS s.len,iS s.wid,iS s.el,iS s.eh,iS s.ll,iS s.lh,.tk 0,.tk 1] }],[ownD 38 2 boaD (s.bs.map (turnB s.len)),ownD 48 5 bloD ((s.ks.take j).map (turnK s.len))]⟩) (fun _ => True) ⟨trivial,?_⟩ ?_ ?_
    · (refine Sub.of ([0,1,2]) ([some 0,none]) ?_ ?_ ?_ rfl rfl <;> simp only [subB,subB1,subT,subT1,newT,subE,subV,subL,go_sem,↓dP,↓reduceIte] <;> (try (repeat' with_reducible apply And.intro)) <;> (try first | exact DEq.refl _ | refine DEq.int ?_ | refine DEq.bool ?_ | omega))
      exact fun _ _ _ _ => .refl _
    · intro j hj _
      have hlen:=map_len (turnK s.len) (l:=s.ks) (i:=j) (by omega)
      have hsn:=map_snoc (turnK s.len) hj
      obtain ⟨b1,b2,b3,b4⟩ : 0 ≤ (s.ks.getD j default).al ∧ (s.ks.getD j default).al ≤ 40 ∧ 0 ≤ (s.ks.getD j default).ah ∧ (s.ks.getD j default).ah ≤ 40:=by
        have h:=hs.ks _ (getD_mem hj)
        simp only [blockIn,spanR,inR,Bool.and_eq_true,decide_eq_true_eq] at h
        omega
      refine Ok.seq ?_; (((first | refine qS rfl rfl ?_ | refine qR rfl rfl ?_); simp only [go_sem,↓dP,↓reduceIte]; with_reducible and_intros; all_goals first | apply qA | exact ⟨⟩ | rfl | (intros; apply qB; first | kernel_rfl | omega) | omega | skip)); refine Ok.cond rfl (fun _ => ?_) (fun hb => by simp at hb; omega); (refine Ok.skip ?_; (try dsimp only [thenK,blockK,noGotoK])); refine Ok.seq ?_; refine Ok.block ?_
      ((first | refine qS rfl rfl ?_ | refine qR rfl rfl ?_); simp only [go_sem,↓dP,↓reduceIte]; with_reducible and_intros; all_goals first | apply qA | exact ⟨⟩ | rfl | (intros; apply qB; first | kernel_rfl | omega) | omega | skip)
      ((first | refine qS rfl rfl ?_ | refine qR rfl rfl ?_); simp only [go_sem,↓dP,↓reduceIte]; with_reducible and_intros; all_goals first | apply qA | exact ⟨⟩ | rfl | (intros; apply qB; first | kernel_rfl | omega) | omega | skip)
      (refine AskI.ret (c58 _ _) ?_; simp only [go_sem,↓dP,↓reduceIte]; with_reducible and_intros; all_goals first | apply qA | exact ⟨⟩ | rfl | (intros; apply qB; first | kernel_rfl | omega) | omega | skip)
      ((first | refine qS rfl rfl ?_ | refine qR rfl rfl ?_); simp only [go_sem,↓dP,↓reduceIte]; with_reducible and_intros; all_goals first | apply qA | exact ⟨⟩ | rfl | (intros; apply qB; first | kernel_rfl | omega) | omega | skip)
      (try dsimp only [thenK,blockK,noGotoK])
      ((first | refine qS rfl rfl ?_ | refine qR rfl rfl ?_); simp only [go_sem,↓dP,↓reduceIte]; with_reducible and_intros; all_goals first | apply qA | exact ⟨⟩ | rfl | (intros; apply qB; first | kernel_rfl | omega) | omega | skip)
      (try dsimp only [thenK,blockK,noGotoK])
      refine ⟨trivial,?_⟩
      (refine Sub.of ([0,1,2]) ([some 0,some 2]) ?_ ?_ ?_ rfl rfl <;> simp only [subB,subB1,subT,subT1,newT,subE,subV,subL,go_sem,↓dP,↓reduceIte] <;> (try (repeat' with_reducible apply And.intro)) <;> (try first | exact DEq.refl _ | refine DEq.int ?_ | refine DEq.bool ?_ | omega))
      · exact fun _ _ _ _ => .refl _
      · rw [hsn]; simp
      · rw [hsn]
        exact snoc_D (fun c hc => by
          match c,hc with
          | 0,_ => rfl
          | 1,_ => rfl
          | 2,_ => rfl
          | 3,_ => rfl
          | 4,_ => rfl)
    · intro _
      rw [List.take_length]
      refine Ok.seq ?_; (((first | refine qS rfl rfl ?_ | refine qR rfl rfl ?_); simp only [go_sem,↓dP,↓reduceIte]; with_reducible and_intros; all_goals first | apply qA | exact ⟨⟩ | rfl | (intros; apply qB; first | kernel_rfl | omega) | omega | skip)); refine Ok.cond rfl (fun hb => by simp at hb) (fun _ => ?_); (refine Ok.exit ?_; simp only [thenK_exit,blockK_exit,noGotoK_exit,thenK_normal,blockK_normal,noGotoK_normal,↓reduceIte,Nat.reduceEqDiff])
      ((first | refine qS rfl rfl ?_ | refine qR rfl rfl ?_); simp only [go_sem,↓dP,↓reduceIte]; with_reducible and_intros; all_goals first | apply qA | exact ⟨⟩ | rfl | (intros; apply qB; first | kernel_rfl | omega) | omega | skip)
      (refine Ok.ret ?_; (try dsimp only [thenK,blockK,noGotoK]); simp only [toList_mk,List.toList_toArray,retK_ret,retK_normal,resOK,resV,celV,rowV,frzAll,frzT,subV,subL,go_sem,↓dP,↓reduceIte])
      ((repeat' with_reducible apply And.intro) <;> (first | exact DEq.refl _ | refine DEq.int ?_ | refine DEq.bool ?_ | skip))
theorem c16 (s : Street) (hh : s.held) (i : Int) (p : Place) : Ctr Tryz.prog 6 [s.sv,iS i,p.sv] (bS true):=by
  (refine Ctr.mk (fn:=Tryz.f6) rfl rfl rfl rfl rfl Tryz.results6 ?_; dsimp only [args,List.toList_toArray])
  ((first | refine qS rfl rfl ?_ | refine qR rfl rfl ?_); simp only [go_sem,↓dP,↓reduceIte]; with_reducible and_intros; all_goals first | apply qA | exact ⟨⟩ | rfl | (intros; apply qB; first | kernel_rfl | omega) | omega | skip)
  refine Ok.seq ?_
  ((first | refine qS rfl rfl ?_ | refine qR rfl rfl ?_); simp only [go_sem,↓dP,↓reduceIte]; with_reducible and_intros; all_goals first | apply qA | exact ⟨⟩ | rfl | (intros; apply qB; first | kernel_rfl | omega) | omega | skip)
  (refine AskI.ret (c23 s hh i p) ?_; simp only [go_sem,↓dP,↓reduceIte]; with_reducible and_intros; all_goals first | apply qA | exact ⟨⟩ | rfl | (intros; apply qB; first | kernel_rfl | omega) | omega | skip)
  refine Ok.cond rfl ?_ ?_
  · intro _
    ((first | refine qS rfl rfl ?_ | refine qR rfl rfl ?_); simp only [go_sem,↓dP,↓reduceIte]; with_reducible and_intros; all_goals first | apply qA | exact ⟨⟩ | rfl | (intros; apply qB; first | kernel_rfl | omega) | omega | skip)
    (refine AskI.ret (c24) ?_; simp only [go_sem,↓dP,↓reduceIte]; with_reducible and_intros; all_goals first | apply qA | exact ⟨⟩ | rfl | (intros; apply qB; first | kernel_rfl | omega) | omega | skip)
    (refine Ok.ret ?_; (try dsimp only [thenK,blockK,noGotoK]); simp only [toList_mk,List.toList_toArray,retK_ret,retK_normal,resOK,resV,celV,rowV,frzAll,frzT,subV,subL,go_sem,↓dP,↓reduceIte])
    exact .refl _
  intro hb
  have hr : rightS s i p = true:=by simpa using hb
  obtain ⟨hfit,hlk⟩:=rightS_spec hr
  obtain ⟨hok,hi,hp,hl,hg⟩:=lookOk_spec hlk
  have hbk:=look_board hlk
  have k0:=c25r hlk
  have k1:=seen_turn hlk
  have k2:=c29 s hfit i p
  have k3:=whys_turn hlk
  have k4:=c36 s hfit i p
  rw [hlk,show errA true = 0 from rfl] at k4
  have k5:=hiddens_turn hlk
  have k6:=c42r hbk
  have k7:=many_turn hbk
  have m3 : ((hiddenW s i p).map Int.ofNat).length < 1000000:=by
    rw [List.length_map]
    have:=hiddenW_len hlk
    omega
  have h1:=hok.len1
  have h2:=hok.len0
  have h3 : 0 ≤ p.al ∧ p.al ≤ s.len:=by
    simp only [placeIn,inR,Bool.and_eq_true,decide_eq_true_eq] at hp
    omega
  generalize surelyL ⟨s,brd s i,p⟩ = a at *
  generalize mayL ⟨s,brd s i,p⟩ = b at *
  generalize (sureL s (brd s i)).length = n at *
  generalize (maybeL s (brd s i)).length = m at *
  (refine Ok.skip ?_; (try dsimp only [thenK,blockK,noGotoK]))
  ((first | refine qS rfl rfl ?_ | refine qR rfl rfl ?_); simp only [go_sem,↓dP,↓reduceIte]; with_reducible and_intros; all_goals first | apply qA | exact ⟨⟩ | rfl | (intros; apply qB; first | kernel_rfl | omega) | omega | skip)
  (refine AskI.ret (c59 hok) ?_; simp only [go_sem,↓dP,↓reduceIte]; with_reducible and_intros; all_goals first | apply qA | exact ⟨⟩ | rfl | (intros; apply qB; first | kernel_rfl | omega) | omega | skip)
  (refine AskI.ret (c60 _ _) ?_; simp only [go_sem,↓dP,↓reduceIte]; with_reducible and_intros; all_goals first | apply qA | exact ⟨⟩ | rfl | (intros; apply qB; first | kernel_rfl | omega) | omega | skip)
  ((first | refine qS rfl rfl ?_ | refine qR rfl rfl ?_); simp only [go_sem,↓dP,↓reduceIte]; with_reducible and_intros; all_goals first | apply qA | exact ⟨⟩ | rfl | (intros; apply qB; first | kernel_rfl | omega) | omega | skip)
  (refine AskI.ret (k0) ?_; simp only [go_sem,↓dP,↓reduceIte]; with_reducible and_intros; all_goals first | apply qA | exact ⟨⟩ | rfl | (intros; apply qB; first | kernel_rfl | omega) | omega | skip)
  ((first | refine qS rfl rfl ?_ | refine qR rfl rfl ?_); simp only [go_sem,↓dP,↓reduceIte]; with_reducible and_intros; all_goals first | apply qA | exact ⟨⟩ | rfl | (intros; apply qB; first | kernel_rfl | omega) | omega | skip)
  (refine AskI.ret (k1) ?_; simp only [go_sem,↓dP,↓reduceIte]; with_reducible and_intros; all_goals first | apply qA | exact ⟨⟩ | rfl | (intros; apply qB; first | kernel_rfl | omega) | omega | skip)
  ((first | refine qS rfl rfl ?_ | refine qR rfl rfl ?_); simp only [go_sem,↓dP,↓reduceIte]; with_reducible and_intros; all_goals first | apply qA | exact ⟨⟩ | rfl | (intros; apply qB; first | kernel_rfl | omega) | omega | skip)
  (refine AskI.ret (k2) ?_; simp only [go_sem,↓dP,↓reduceIte]; with_reducible and_intros; all_goals first | apply qA | exact ⟨⟩ | rfl | (intros; apply qB; first | kernel_rfl | omega) | omega | skip)
  ((first | refine qS rfl rfl ?_ | refine qR rfl rfl ?_); simp only [go_sem,↓dP,↓reduceIte]; with_reducible and_intros; all_goals first | apply qA | exact ⟨⟩ | rfl | (intros; apply qB; first | kernel_rfl | omega) | omega | skip)
  (refine AskI.ret (k3) ?_; simp only [go_sem,↓dP,↓reduceIte]; with_reducible and_intros; all_goals first | apply qA | exact ⟨⟩ | rfl | (intros; apply qB; first | kernel_rfl | omega) | omega | skip)
  ((first | refine qS rfl rfl ?_ | refine qR rfl rfl ?_); simp only [go_sem,↓dP,↓reduceIte]; with_reducible and_intros; all_goals first | apply qA | exact ⟨⟩ | rfl | (intros; apply qB; first | kernel_rfl | omega) | omega | skip)
  (refine AskI.ret (k4) ?_; simp only [go_sem,↓dP,↓reduceIte]; with_reducible and_intros; all_goals first | apply qA | exact ⟨⟩ | rfl | (intros; apply qB; first | kernel_rfl | omega) | omega | skip)
  ((first | refine qS rfl rfl ?_ | refine qR rfl rfl ?_); simp only [go_sem,↓dP,↓reduceIte]; with_reducible and_intros; all_goals first | apply qA | exact ⟨⟩ | rfl | (intros; apply qB; first | kernel_rfl | omega) | omega | skip)
  (refine AskI.ret (k5) ?_; simp only [go_sem,↓dP,↓reduceIte]; with_reducible and_intros; all_goals first | apply qA | exact ⟨⟩ | rfl | (intros; apply qB; first | kernel_rfl | omega) | omega | skip)
  ((first | refine qS rfl rfl ?_ | refine qR rfl rfl ?_); simp only [go_sem,↓dP,↓reduceIte]; with_reducible and_intros; all_goals first | apply qA | exact ⟨⟩ | rfl | (intros; apply qB; first | kernel_rfl | omega) | omega | skip)
  (refine AskI.ret (k6) ?_; simp only [go_sem,↓dP,↓reduceIte]; with_reducible and_intros; all_goals first | apply qA | exact ⟨⟩ | rfl | (intros; apply qB; first | kernel_rfl | omega) | omega | skip)
  ((first | refine qS rfl rfl ?_ | refine qR rfl rfl ?_); simp only [go_sem,↓dP,↓reduceIte]; with_reducible and_intros; all_goals first | apply qA | exact ⟨⟩ | rfl | (intros; apply qB; first | kernel_rfl | omega) | omega | skip)
  (refine AskI.ret (k7) ?_; simp only [go_sem,↓dP,↓reduceIte]; with_reducible and_intros; all_goals first | apply qA | exact ⟨⟩ | rfl | (intros; apply qB; first | kernel_rfl | omega) | omega | skip)
  ((first | refine qS rfl rfl ?_ | refine qR rfl rfl ?_); simp only [go_sem,↓dP,↓reduceIte]; with_reducible and_intros; all_goals first | apply qA | exact ⟨⟩ | rfl | (intros; apply qB; first | kernel_rfl | omega) | omega | skip)
  · first | exact stEq42 | exact fun _ => stEq42
  (refine AskGI.ret (fun _ => by rw [nat_int]; exact c40 _ _ m3 m3) ?_; simp only [go_sem,↓dP,↓reduceIte]; with_reducible and_intros; all_goals first | apply qA | exact ⟨⟩ | rfl | (intros; apply qB; first | kernel_rfl | omega) | omega | skip)
  (refine AskGI.ret (fun _ => c24) ?_; simp only [go_sem,↓dP,↓reduceIte]; with_reducible and_intros; all_goals first | apply qA | exact ⟨⟩ | rfl | (intros; apply qB; first | kernel_rfl | omega) | omega | skip)
  (refine Ok.ret ?_; (try dsimp only [thenK,blockK,noGotoK]); simp only [toList_mk,List.toList_toArray,retK_ret,retK_normal,resOK,resV,celV,rowV,frzAll,frzT,subV,subL,go_sem,↓dP,↓reduceIte])
  refine DEq.bool ?_
  simp
end Go.Proofs.Sight
namespace Go.Proofs.Sight
open Go Go.RX Go.Proofs Go.RowKit Go.ChangeShapes Go.WideShapes Go.Deep Go.ChangeAt
set_option maxRecDepth 100000
section
variable {H : Type} {enc : TypeId × Value → H} {W : World}
theorem cell3 : Tryz.prog.cellsOf 3 = 1:=by kernel_rfl
theorem cell4 : Tryz.prog.cellsOf 4 = 1:=by kernel_rfl
theorem cell23 : Tryz.prog.cellsOf 23 = 2:=by kernel_rfl
theorem cell24 : Tryz.prog.cellsOf 24 = 1:=by kernel_rfl
theorem cell25 : Tryz.prog.cellsOf 25 = 1:=by kernel_rfl
theorem cell27 : Tryz.prog.cellsOf 27 = 8:=by kernel_rfl
theorem cell29 : Tryz.prog.cellsOf 42 = 2:=by kernel_rfl
theorem cell49 : Tryz.prog.cellsOf 36 = 1:=by kernel_rfl
theorem cell51 : Tryz.prog.cellsOf 38 = 2:=by kernel_rfl
theorem cell59 : Tryz.prog.cellsOf 45 = 4:=by kernel_rfl
theorem cell66 : Tryz.prog.cellsOf 48 = 5:=by kernel_rfl
abbrev There (W : World) : Nat → Prop:=fun b => b < W.heap.size
theorem cell_there {a : Addr} {v : Value} (h : W.cell? a = some v) : a.spot = none ∧ a.block < W.heap.size:=by
  unfold World.cell? at h
  cases ho : W.heap[a.block]? with
  | none => rw [ho] at h; cases h
  | some o =>
    have hlt:=(Array.getElem?_eq_some_iff.1 ho).1
    rw [ho] at h
    cases o <;> simp only at h <;> try (cases h; done)
    cases hsp : a.spot with
    | none => exact ⟨rfl,hlt⟩
    | some x => rw [hsp] at h; simp at h
theorem open_rows {α : Type} [Inhabited α] {t e k : Nat} (ht : Tryz.prog.underlying t = some (.slice e)) (hc : Tryz.prog.cellsOf e = k) (hk : 0 < k) (f : α → Nat → DV) (Q : α → Prop)
    (hel : ∀ n cs x,DataW.trod enc Tryz.prog W 0 (fun _ => true) true n e cs = some x → ∃ y : α,Q y ∧ cs.length = k ∧ ∀ j u,cs[j]? = some u → Rep (There W) W u (f y j))
    {n : Nat} {cs : List Value} {x : DataW H × List MemPlace} (h : DataW.trod enc Tryz.prog W 0 (fun _ => true) true n t cs = some x) :
    ∃ (v : Value) (l : List α),cs = [v] ∧ l.length ≤ maxLen ∧ Rep (There W) W v (slD k f l) ∧ ∀ y ∈ l,Q y:=by
  rcases open_slice ht h with ⟨rfl,_⟩ | ⟨a,len,cap,m,n',D,Pl,rfl,hb,hl,hm,hmm,rfl,hx⟩
  · exact ⟨_,[],rfl,Nat.zero_le _,.sl0,fun y hy => by simp at hy⟩
  simp only [if_true] at hmm
  subst hmm
  have hx' : ∀ i,i < len → ∃ y : α,Q y ∧ ∀ j,j < k → ∃ u,W.cell? ((a.add (i * k)).add j) = some u ∧ Rep (There W) W u (f y j):=by
    intro i hi
    obtain ⟨cs',h1,h2⟩:=hx i (by omega)
    rw [hc] at h1
    obtain ⟨y,hq,hlen,hr⟩:=hel _ _ _ h2
    obtain ⟨_,_,h3⟩:=World.cells?_some h1
    refine ⟨y,hq,fun j hj => ?_⟩
    have hj' : j < cs'.length:=by omega
    exact ⟨cs'[j],by rw [h3 j hj,List.getElem?_eq_getElem hj'],hr j _ (List.getElem?_eq_getElem hj')⟩
  obtain ⟨L,hL⟩:=choose_lt hx'
  by_cases h0 : len = 0
  · subst h0
    exact ⟨_,[],rfl,Nat.zero_le _,.sl1 hm,fun y hy => by simp at hy⟩
  · obtain ⟨u0,hu0,_⟩:=(hL 0 (by omega)).2 0 hk
    rw [Go.Deep.add_add,show 0 * k + 0 = 0 by omega,show a.add 0 = a from rfl] at hu0
    obtain ⟨hs,hlt⟩:=cell_there hu0
    obtain ⟨b,o,sp⟩:=a
    simp only at hs hlt
    subst hs
    refine ⟨_,(List.range len).map L,rfl,by simp; omega,?_,fun y hy => ?_⟩
    · have hll : ((List.range len).map L).length = len:=by simp
      show Rep _ _ _ (.sl k ((List.range len).map L).length _)
      rw [hll]
      refine .sl (fun i j => (W.cell? ⟨b,o + (i * k + j),none⟩).getD undef) hlt hl hm (fun i j hi hj => ?_) (fun i j hi hj => ?_)
      · obtain ⟨u,hu,_⟩:=(hL i hi).2 j hj
        rw [Go.Deep.add_add,Addr.add_mid] at hu
        rw [hu]; rfl
      · obtain ⟨u,hu,hr⟩:=(hL i hi).2 j hj
        rw [Go.Deep.add_add,Addr.add_mid] at hu
        rw [hu]
        have : ((List.range len).map L).getD i default = L i:=by simp [List.getD_eq_getElem?_getD,hi]
        rw [this]; exact hr
    · obtain ⟨i,hi,rfl⟩:=List.mem_map.1 hy
      exact (hL i (List.mem_range.1 hi)).1
theorem open_letter (n : Nat) (cs : List Value) (x : DataW H × List MemPlace) (h : DataW.trod enc Tryz.prog W 0 (fun _ => true) true n 45 cs = some x) : ∃ y : Letter,True ∧ cs.length = 4 ∧ ∀ j u,cs[j]? = some u → Rep (There W) W u (letD y j):=by
  obtain ⟨y0,y1,y2,y3,m,_,hl,h0,h1,h2,h3⟩:=Joins.trod_struct4 Tryz.underlying45 h
  rw [cell59] at hl
  match cs,hl with
  | [c0,c1,c2,c3],_ =>
    obtain ⟨n0,e0,_⟩:=DataW.trod_int Tryz.underlying3 h0
    obtain ⟨n1,e1,_⟩:=DataW.trod_int Tryz.underlying3 h1
    obtain ⟨n2,e2,_⟩:=DataW.trod_int Tryz.underlying3 h2
    obtain ⟨n3,e3,_⟩:=DataW.trod_int Tryz.underlying3 h3
    simp [cell3] at e0 e1 e2 e3
    subst e0; subst e1; subst e2; subst e3
    refine ⟨⟨n0,n1,n2,n3⟩,trivial,rfl,fun j u hu => ?_⟩
    match j,hu with
    | 0,hu => simp at hu; subst hu; exact .int
    | 1,hu => simp at hu; subst hu; exact .int
    | 2,hu => simp at hu; subst hu; exact .int
    | 3,hu => simp at hu; subst hu; exact .int
    | j + 4,hu => simp at hu
theorem open_span {n : Nat} {cs : List Value} {x : DataW H × List MemPlace} (h : DataW.trod enc Tryz.prog W 0 (fun _ => true) true n 23 cs = some x) : ∃ a b : Int,cs = [.int .i64 a,.int .i64 b]:=by
  obtain ⟨y0,y1,m,_,hl,h0,h1⟩:=trod_struct2 Tryz.underlying23 h
  rw [cell23] at hl
  match cs,hl with
  | [c0,c1],_ =>
    obtain ⟨n0,e0,_⟩:=DataW.trod_int Tryz.underlying3 h0
    obtain ⟨n1,e1,_⟩:=DataW.trod_int Tryz.underlying3 h1
    simp [cell3] at e0 e1
    subst e0; subst e1
    exact ⟨n0,n1,rfl⟩
theorem open_block (n : Nat) (cs : List Value) (x : DataW H × List MemPlace) (h : DataW.trod enc Tryz.prog W 0 (fun _ => true) true n 48 cs = some x) : ∃ y : Block,True ∧ cs.length = 5 ∧ ∀ j u,cs[j]? = some u → Rep (There W) W u (bloD y j):=by
  obtain ⟨y0,y1,y2,m,_,hl,h0,h1,h2⟩:=trod_struct3 Tryz.underlying48 h
  rw [cell66] at hl
  match cs,hl with
  | [c0,c1,c2,c3,c4],_ =>
    obtain ⟨a0,b0,e0⟩:=open_span h0
    obtain ⟨a1,b1,e1⟩:=open_span h1
    obtain ⟨s,e2,_⟩:=DataW.trod_bool Tryz.underlying4 h2
    simp [cell23,cell4] at e0 e1 e2
    obtain ⟨rfl,rfl⟩:=e0
    obtain ⟨rfl,rfl⟩:=e1
    subst e2
    refine ⟨⟨a0,b0,a1,b1,s⟩,trivial,rfl,fun j u hu => ?_⟩
    match j,hu with
    | 0,hu => simp at hu; subst hu; exact .int
    | 1,hu => simp at hu; subst hu; exact .int
    | 2,hu => simp at hu; subst hu; exact .int
    | 3,hu => simp at hu; subst hu; exact .int
    | 4,hu => simp at hu; subst hu; exact .bool
    | j + 5,hu => simp at hu
theorem open_board (n : Nat) (cs : List Value) (x : DataW H × List MemPlace) (h : DataW.trod enc Tryz.prog W 0 (fun _ => true) true n 38 cs = some x) : ∃ y : Board,y.ls.length ≤ maxLen ∧ cs.length = 2 ∧ ∀ j u,cs[j]? = some u → Rep (There W) W u (boaD y j):=by
  obtain ⟨y0,y1,m,_,hl,h0,h1⟩:=trod_struct2 Tryz.underlying38 h
  rw [cell51] at hl
  match cs,hl with
  | [c0,c1],_ =>
    obtain ⟨n0,e0,_⟩:=DataW.trod_int Tryz.underlying3 h0
    obtain ⟨v,l,e1,hlen,hrep,_⟩:=open_rows Tryz.underlying36 cell59 (by decide) letD (fun _ => True) open_letter h1
    simp [cell3,cell49] at e0 e1
    subst e0; subst e1
    refine ⟨⟨n0,l⟩,hlen,rfl,fun j u hu => ?_⟩
    match j,hu with
    | 0,hu => simp at hu; subst hu; exact .int
    | 1,hu => simp at hu; subst hu; exact hrep
    | j + 2,hu => simp at hu
theorem open_street {v : Value} {d : DataW H} {ps : List MemPlace} {b0 : Nat} (hok : Value.okWide Tryz.prog W .any b0 27 v) (h : DataW.Trod enc Tryz.prog W 0 (fun _ => true) true 27 v d ps) : ∃ s : Street,RepS (There W) W v s.sv ∧ s.held:=by
  unfold Value.okWide at hok
  rw [Tryz.underlying27] at hok
  obtain ⟨cs,rfl,_,_⟩:=hok
  obtain ⟨n,h⟩:=h
  obtain ⟨xs,m,_,_,hl,hlen,hf⟩:=DataW.trod_struct Tryz.underlying27 h
  simp only [Value.cells] at hl hf
  rw [cell27] at hl
  match xs,hlen with
  | [y0,y1,y2,y3,y4,y5],_ =>
    have h0:=hf 0 _ rfl
    have h1:=hf 1 _ rfl
    have h2:=hf 2 _ rfl
    have h3:=hf 3 _ rfl
    have h4:=hf 4 _ rfl
    have h5:=hf 5 _ rfl
    obtain ⟨cs⟩:=cs
    simp only at hl h0 h1 h2 h3 h4 h5
    match cs,hl with
    | [c0,c1,c2,c3,c4,c5,c6,c7],_ =>
      obtain ⟨n0,e0,_⟩:=DataW.trod_int Tryz.underlying3 h0
      obtain ⟨n1,e1,_⟩:=DataW.trod_int Tryz.underlying3 h1
      obtain ⟨a2,b2,e2⟩:=open_span h2
      obtain ⟨a3,b3,e3⟩:=open_span h3
      obtain ⟨v4,bs,e4,hbl,hbr,hbq⟩:=open_rows Tryz.underlying24 cell51 (by decide) boaD (fun b => b.ls.length ≤ maxLen) open_board h4
      obtain ⟨v5,ks,e5,hkl,hkr,_⟩:=open_rows Tryz.underlying25 cell66 (by decide) bloD (fun _ => True) open_block h5
      simp [cell3,cell23,cell24,cell25] at e0 e1 e2 e3 e4 e5
      subst e0; subst e1
      obtain ⟨rfl,rfl⟩:=e2
      obtain ⟨rfl,rfl⟩:=e3
      subst e4; subst e5
      refine ⟨⟨n0,n1,a2,b2,a3,b3,bs,ks⟩,Fits.reps (xs:=[iD n0,iD n1,iD a2,iD b2,iD a3,iD b3,slD 2 boaD bs,slD 5 bloD ks]) (.cons .int (.cons .int (.cons .int (.cons .int (.cons .int (.cons .int (.cons hbr (.cons hkr .nil)))))))),?_,?_,fun b hb => ?_⟩
      · have : maxLen ≤ 9223372036854775807:=by decide
        exact Nat.le_trans hbl this
      · have : maxLen ≤ 9223372036854775807:=by decide
        exact Nat.le_trans hkl this
      · have : maxLen ≤ 9223372036854775807:=by decide
        exact Nat.le_trans (hbq b hb) this
theorem open_place {v : Value} {d : DataW H} {ps : List MemPlace} {b0 : Nat} (hok : Value.okWide Tryz.prog W .any b0 42 v) (h : DataW.Trod enc Tryz.prog W 0 (fun _ => true) true 42 v d ps) : ∃ p : Place,RepS (There W) W v p.sv:=by
  unfold Value.okWide at hok
  rw [Tryz.underlying42] at hok
  obtain ⟨cs,rfl,_,_⟩:=hok
  obtain ⟨n,h⟩:=h
  obtain ⟨y0,y1,m,_,hl,h0,h1⟩:=trod_struct2 Tryz.underlying42 h
  simp only [Value.cells] at hl h0 h1
  rw [cell29] at hl
  obtain ⟨cs⟩:=cs
  simp only at hl h0 h1
  match cs,hl with
  | [c0,c1],_ =>
    obtain ⟨n0,e0,_⟩:=DataW.trod_int Tryz.underlying3 h0
    obtain ⟨n1,e1,_⟩:=DataW.trod_int Tryz.underlying3 h1
    simp [cell3] at e0 e1
    subst e0; subst e1
    exact ⟨⟨n0,n1⟩,Fits.reps (xs:=[iD n0,iD n1]) (.cons .int (.cons .int .nil))⟩
end
end Go.Proofs.Sight
namespace Go.Proofs.YtchnganlpgfdjaaGreatDoor
open Go Go.RX Go.Proofs.Sight Go.RowKit Go.ChangeShapes Go.WideShapes Go.ChangeAt
set_option maxRecDepth 100000
theorem own : ownKnob Tryz.prog.godebug = none:=by kernel_rfl
abbrev laid5 : List (String × DataW Unit):=Rows.sightHangsRow.laid
theorem tabs_of {W : World} (hL : laidMetH Tryz.prog laid5 W) (hS : W.ShapedOpen Tryz.prog) : Tabs W:=by
  rw [MakeChecks.laidMetH_plain _ _ _ (by kernel_rfl)] at hL
  refine ⟨?_,?_⟩
  · exact Lib.tabIs_of_head (zs:=Lib.pow10Tab) (g:=0) (t:=211) (e:=198) (n:=20) (by kernel_rfl) (by kernel_rfl) Tryz.underlying211 Tryz.underlying198 (by kernel_rfl) (by kernel_rfl) hL.tail.tail
  · exact Go.Proofs.cell_of_shapedOpen_int (t:=3) (zero:=#[.int .i64 0]) hS (of_decide_eq_true (by kernel_rfl)) (by kernel_rfl) rfl (by kernel_rfl) (by kernel_rfl) Tryz.underlying3
variable {H : Type} {enc : TypeId × Value → H}
theorem trodAll_below {W W' : World} (hb : Below W.heap.size W W') : ∀ {ts : List TypeId} {vs : List Value} {ds : List (DataW H)} {ps : List MemPlace},(∀ t ∈ ts,Tryz.prog.readableRec t = true ∧ t < Tryz.prog.types.size) →
    DataW.TrodAll enc Tryz.prog W 0 (fun _ => true) true ts vs ds ps → (∀ x ∈ ps,x.block < W.heap.size) → DataW.TrodAll enc Tryz.prog W' 0 (fun b => decide (b < W.heap.size)) true ts vs ds ps
  | [],[],[],_,_,h,_ => h
  | _ :: _,_ :: _,_ :: _,_,hT,⟨p,q,h1,h2,e⟩,hs => ⟨p,q,Below.trod laidOut (hT _ (List.mem_cons.2 (Or.inl rfl))).1 (hT _ (List.mem_cons.2 (Or.inl rfl))).2 h1 hb (fun x hx => hs x (by rw [e]; exact List.mem_append_left _ hx)),
      trodAll_below hb (fun t ht => hT t (List.mem_cons.2 (Or.inr ht))) h2 (fun x hx => hs x (by rw [e]; exact List.mem_append_right _ hx)),e⟩
theorem law_ret {os : Os} {f : FuncId} {fn : Func} (s : ChangeSpec) (hv : s.vars = []) (started : os.Started) (noInit : Tryz.prog.inits.idxOf? f = none) (hfn : Tryz.prog.funcs[f]? = some fn) (hres : fn.resultTypes = #[4])
    (hts : ∀ t ∈ fn.params.toList,Tryz.prog.readableRec t = true ∧ t < Tryz.prog.types.size)
    (hs : ∀ ds : List (DataW H),ds.length = fn.params.toList.length → s.fn H (ds ++ []) = { results:=[.lit (.bool true)],args:=ds })
    (witness : ∃ (w : World) (tape : Tape) (i : Input),w.os = os ∧ (w.forCall tape i).Shaped Tryz.prog ∧ i.vars = [] ∧ Input.okWide Tryz.prog (w.forCall tape i) .any w.heap.size f i ∧
      ((s.pre enc Tryz.prog fn [] false (w.forCall tape i).memory i.args ∧ laidMetH Tryz.prog laid5 (w.forCall tape i).memory) ∧ sizedMet enc Tryz.prog fn (OpenSpec.ofChange s) false (w.forCall tape i).memory i.args) ∧ ({} : Assume).holds Tryz.prog (lone (Frame.enter Tryz.prog f i.args .normal) [] (w.forCall tape i)))
    (contract : ∀ (W : World) (base : Nat) (args : Array Value) (ds : List (DataW H)) (ps : List MemPlace),
      (∀ (j : Nat) t v,fn.params[j]? = some t → args[j]? = some v → Value.okWide Tryz.prog W .any base t v) →
      DataW.TrodAll enc Tryz.prog W 0 (fun _ => true) true fn.params.toList args.toList ds ps → Tabs W →
      Calls Tryz.prog f args W fun e W' => e = .returned (.bool true) ∧ Below W.heap.size W W') :
    ReturnsInHanded {} Tryz.checked os f .any (fun w args => (s.pre enc Tryz.prog fn [] false w args ∧ laidMetH Tryz.prog laid5 w) ∧ sizedMet enc Tryz.prog fn (OpenSpec.ofChange s) false w args) (s.post enc Tryz.prog fn false true false false):=by
  refine returnsInHanded_of_calls (C:=Tryz.checked) own started noInit witness ?_
  intro w tape i _ hsh _ hok hpre hholds
  obtain ⟨_,_,_,fn',hfn',_,_,_,_,hval⟩:=hok
  have e : fn' = fn:=Option.some.inj (hfn'.symm.trans hfn)
  subst e
  obtain ⟨⟨⟨ds,gs,before,hw,hc⟩,hx⟩,hz⟩:=hpre
  have hW':=DataW.Whole.of_heap (w':=w.forCall tape i) (by rfl) hw
  have hW:=hW'
  obtain ⟨p,q,hA,hV,rfl,_,_⟩:=hW
  rw [hv] at hV
  obtain ⟨rfl,rfl⟩:=trodVars_none hV
  have hL : laidMetH Tryz.prog laid5 (w.forCall tape i):=hx.of_heap (by rfl)
  refine (contract (w.forCall tape i) w.heap.size i.args ds p hval hA (tabs_of hL hsh)).mono fun e W' ⟨he,hb⟩ => ?_
  subst he
  refine ChangeSpec.post_blind ?_
  have hlen:=(Go.trodAll_length hA).2
  have hsf:=hs ds hlen
  refine ⟨ds,[],_,[],p,[],hW',?_,?_,?_,hb.frame _,fun h => by cases h⟩
  · rw [hsf,hres]
    exact trodAll_mk1 (shut_bool Tryz.underlying4 _)
  · rw [hsf]
    exact trodAll_below hb hts hA (fun x hx => by
      have:=hW'.lt x (by simpa using hx)
      exact this)
  · rw [hsf,hv]
    rfl
end Go.Proofs.YtchnganlpgfdjaaGreatDoor
namespace Go.Proofs.YtchnganlpgfdjaaGreatDoor
open Go Go.RX Go.Proofs.Sight Go.RowKit Go.ChangeShapes Go.WideShapes Go.ChangeAt
set_option maxRecDepth 100000
abbrev zS : Value:=.agg #[.int .i64 0,.int .i64 0,.int .i64 0,.int .i64 0,.int .i64 0,.int .i64 0,.slice none 0 0,.slice none 0 0]
abbrev zP : Value:=.agg #[.int .i64 0,.int .i64 0]
abbrev zI : Value:=.int .i64 0
def opens (t : TypeId) (A : SV) : Prop :=
  (t = 27 ∧ ∃ s : Street,A = s.sv ∧ s.held) ∨ (t = 42 ∧ ∃ p : Go.Proofs.Sight.Place,A = p.sv) ∨ (t = 3 ∧ ∃ i : Int,A = iS i ∧ -9223372036854775808 ≤ i ∧ i ≤ 9223372036854775807) ∨ (t = 9 ∧ ∃ x : List UInt8,A = .d (.str x) ∧ x.length ≤ maxLen)
def opensAll : List TypeId → List SV → Prop
  | [],[] => True
  | t :: ts,A :: As => opens t A ∧ opensAll ts As
  | _,_ => False
section
variable {H : Type} {enc : TypeId × Value → H} {W : World}
theorem open_one {t : TypeId} {v : Value} {d : DataW H} {ps : List MemPlace} {b0 : Nat} (ht : t = 27 ∨ t = 42 ∨ t = 3 ∨ t = 9) (hok : Value.okWide Tryz.prog W .any b0 t v)
    (h : DataW.Trod enc Tryz.prog W 0 (fun _ => true) true t v d ps) : ∃ A,opens t A ∧ RepS (There W) W v A:=by
  rcases ht with rfl | rfl | rfl | rfl
  · obtain ⟨s,hr,hh⟩:=open_street hok h
    exact ⟨_,.inl ⟨rfl,s,rfl,hh⟩,hr⟩
  · obtain ⟨p,hr⟩:=open_place hok h
    exact ⟨_,.inr (.inl ⟨rfl,p,rfl⟩),hr⟩
  · obtain ⟨m,rfl,_,_,hm⟩:=open_int Tryz.underlying3 hok h
    simp [Lit.wf,IntKind.min,IntKind.max,IntKind.signed,IntKind.bits] at hm
    exact ⟨iS m,.inr (.inr (.inl ⟨rfl,m,rfl,by omega,by omega⟩)),RepS.of .int⟩
  · obtain ⟨x,rfl,_,_,hm⟩:=Go.ChangeMaps.open_string Tryz.underlying9 hok h
    refine ⟨.d (.str x.data.toList),.inr (.inr (.inr ⟨rfl,_,rfl,?_⟩)),RepS.of (.str rfl)⟩
    have : x.data.toList.length = x.size:=rfl
    omega
theorem open_all {b0 : Nat} : ∀ {ts : List TypeId} {vs : List Value} {ds : List (DataW H)} {ps : List MemPlace},(∀ t ∈ ts,t = 27 ∨ t = 42 ∨ t = 3 ∨ t = 9) →
    (∀ (j : Nat) t v,ts[j]? = some t → vs[j]? = some v → Value.okWide Tryz.prog W .any b0 t v) → DataW.TrodAll enc Tryz.prog W 0 (fun _ => true) true ts vs ds ps →
    ∃ As,opensAll ts As ∧ vs.length = As.length ∧ ∀ (j : Nat) u s,vs[j]? = some u → As[j]? = some s → RepS (There W) W u s
  | [],vs,ds,ps,_,_,h => by
    obtain ⟨rfl,rfl,rfl⟩:=trodAll_nil h
    exact ⟨[],trivial,rfl,fun j u s h1 _ => by simp at h1⟩
  | t :: ts,vs,ds,ps,hT,hv,h => by
    obtain ⟨v,vs',d,ds',p,q,rfl,rfl,rfl,h1,h2⟩:=trodAll_cons h
    obtain ⟨A,ha,hr⟩:=open_one (hT t (List.mem_cons.2 (.inl rfl))) (hv 0 t v rfl rfl) h1
    obtain ⟨As,hA,hl,hR⟩:=open_all (fun t ht => hT t (List.mem_cons.2 (.inr ht))) (fun j t v a b => hv (j + 1) t v (by simpa using a) (by simpa using b)) h2
    refine ⟨A :: As,⟨ha,hA⟩,by simp [hl],fun j u s a b => ?_⟩
    cases j with
    | zero =>
      simp at a b
      subst a; subst b
      exact hr
    | succ j => exact hR j u s (by simpa using a) (by simpa using b)
theorem read_of {t : TypeId} (ht : t = 27 ∨ t = 42 ∨ t = 3 ∨ t = 9) : Tryz.prog.readableRec t = true ∧ t < Tryz.prog.types.size:=by
  rcases ht with rfl | rfl | rfl | rfl <;> exact ⟨by kernel_rfl,of_decide_eq_true (by kernel_rfl)⟩
end
theorem opensAll_cons {t : TypeId} {ts : List TypeId} {As : List SV} (h : opensAll (t :: ts) As) : ∃ A Bs,As = A :: Bs ∧ opens t A ∧ opensAll ts Bs:=by
  cases As with
  | nil => exact h.elim
  | cons A Bs => exact ⟨A,Bs,rfl,h.1,h.2⟩
theorem opensAll_nil {As : List SV} (h : opensAll [] As) : As = []:=by
  cases As with
  | nil => rfl
  | cons A Bs => exact h.elim
theorem opens_street {A : SV} (h : opens 27 A) : ∃ s : Street,A = s.sv ∧ s.held:=by
  rcases h with h | h | h | h
  · exact h.2
  · exact absurd h.1 (by decide)
  · exact absurd h.1 (by decide)
  · exact absurd h.1 (by decide)
theorem opens_place {A : SV} (h : opens 42 A) : ∃ p : Go.Proofs.Sight.Place,A = p.sv:=by
  rcases h with h | h | h | h
  · exact absurd h.1 (by decide)
  · exact h.2
  · exact absurd h.1 (by decide)
  · exact absurd h.1 (by decide)
theorem opens_int {A : SV} (h : opens 3 A) : ∃ i : Int,A = iS i ∧ -9223372036854775808 ≤ i ∧ i ≤ 9223372036854775807:=by
  rcases h with h | h | h | h
  · exact absurd h.1 (by decide)
  · exact absurd h.1 (by decide)
  · exact h.2
  · exact absurd h.1 (by decide)
theorem law_stand {t : TypeId} {ts : List TypeId} (hts : ∀ t ∈ ts,t = 27 ∨ t = 42 ∨ t = 3 ∨ t = 9) (ht : t ∈ ts) : Tryz.prog.wantsStandIn t = false:=by
  rcases hts t ht with rfl | rfl | rfl | rfl <;> kernel_rfl
theorem law_ctr {H : Type} {enc : TypeId × Value → H} {os : Os} {f : FuncId} {fn : Func} {ts : List TypeId} (s : ChangeSpec) (hv : s.vars = []) (started : os.Started) (noInit : Tryz.prog.inits.idxOf? f = none) (hfn : Tryz.prog.funcs[f]? = some fn) (hres : fn.resultTypes = #[4])
    (hp : fn.params.toList = ts) (hts : ∀ t ∈ ts,t = 27 ∨ t = 42 ∨ t = 3 ∨ t = 9)
    (hs : ∀ ds : List (DataW H),ds.length = ts.length → s.fn H (ds ++ []) = { results:=[.lit (.bool true)],args:=ds })
    (witness : ∃ (w : World) (tape : Tape) (i : Input),w.os = os ∧ (w.forCall tape i).Shaped Tryz.prog ∧ i.vars = [] ∧ Input.okWide Tryz.prog (w.forCall tape i) .any w.heap.size f i ∧
      ((s.pre enc Tryz.prog fn [] false (w.forCall tape i).memory i.args ∧ laidMetH Tryz.prog laid5 (w.forCall tape i).memory) ∧ sizedMet enc Tryz.prog fn (OpenSpec.ofChange s) false (w.forCall tape i).memory i.args) ∧ ({} : Assume).holds Tryz.prog (lone (Frame.enter Tryz.prog f i.args .normal) [] (w.forCall tape i)))
    (contract : ∀ As,opensAll ts As → Ctr Tryz.prog f As (bS true)) :
    ReturnsInHanded {} Tryz.checked os f .any (fun w args => (s.pre enc Tryz.prog fn [] false w args ∧ laidMetH Tryz.prog laid5 w) ∧ sizedMet enc Tryz.prog fn (OpenSpec.ofChange s) false w args) (s.post enc Tryz.prog fn false true false false):=by
  subst hp
  refine law_ret s hv started noInit hfn hres (fun t ht => read_of (hts t ht)) hs witness ?_
  intro W base args ds ps hval hA hT
  obtain ⟨As,ho,hl,hR⟩:=open_all (b0:=base) hts (fun j t v a b => hval j t v (by simpa using a) (by simpa using b)) hA
  refine ((contract As ho).2 (There W) W args hT (fun b h => h) (by simpa using hl) (fun j u s a b => hR j u s (by simpa using a) b)).mono fun e W' ⟨v,he,hr,hb⟩ => ?_
  subst he
  have h0:=hr (fun _ => none)
  cases h0 with
  | d h0 =>
    cases h0
    exact ⟨rfl,hb⟩
end Go.Proofs.YtchnganlpgfdjaaGreatDoor
namespace Go.Proofs.YtchnganlpgfdjaaGreatDoor
open Go Go.RX Go.Proofs.Sight Go.RowKit Go.ChangeShapes Go.WideShapes Go.ChangeAt
set_option maxRecDepth 100000
theorem init_is : Tryz.prog.initOrder = String.ofList ("harness".toList ++ Char.ofNat 32 :: ("4e11b3a9e1b7f322c0875aff538975e56966d1b41feccace7074b138c2bd9333".toList ++ Char.ofNat 32 :: ("cut".toList ++ Char.ofNat 32 :: [.ofNat 97,.ofNat 116,.ofNat 32,.ofNat 109,.ofNat 97,.ofNat 104,.ofNat 108,.ofNat 115,.ofNat 116,.ofNat 105,.ofNat 99,.ofNat 107,.ofNat 47,.ofNat 109,.ofNat 97,.ofNat 104,.ofNat 108,.ofNat 115,.ofNat 116,.ofNat 105,.ofNat 99,.ofNat 107,.ofNat 108,.ofNat 97,
  .ofNat 119,.ofNat 48,.ofNat 50,.ofNat 46,.ofNat 83,.ofNat 105,.ofNat 103,.ofNat 104,.ofNat 116,.ofNat 72,.ofNat 97,.ofNat 110,.ofNat 103,.ofNat 115,.ofNat 32,.ofNat 109,.ofNat 97,.ofNat 104,.ofNat 108,.ofNat 115,.ofNat 116,.ofNat 105,.ofNat 99,.ofNat 107,
  .ofNat 47,.ofNat 109,.ofNat 97,.ofNat 104,.ofNat 108,.ofNat 115,.ofNat 116,.ofNat 105,.ofNat 99,.ofNat 107,.ofNat 108,.ofNat 97,.ofNat 119,.ofNat 48,.ofNat 50,.ofNat 46,.ofNat 83,.ofNat 105,.ofNat 103,.ofNat 104,.ofNat 116,.ofNat 69,.ofNat 108,.ofNat 115,
  .ofNat 101,.ofNat 119,.ofNat 104,.ofNat 101,.ofNat 114,.ofNat 101,.ofNat 32,.ofNat 109,.ofNat 97,.ofNat 104,.ofNat 108,.ofNat 115,.ofNat 116,.ofNat 105,.ofNat 99,.ofNat 107,.ofNat 47,.ofNat 109,.ofNat 97,.ofNat 104,.ofNat 108,.ofNat 115,.ofNat 116,.ofNat 105,
  .ofNat 99,.ofNat 107,.ofNat 108,.ofNat 97,.ofNat 119,.ofNat 48,.ofNat 50,.ofNat 46,.ofNat 83,.ofNat 105,.ofNat 103,.ofNat 104,.ofNat 116,.ofNat 77,.ofNat 111,.ofNat 114,.ofNat 101,.ofNat 32,.ofNat 109,.ofNat 97,.ofNat 104,.ofNat 108,.ofNat 115,.ofNat 116,
  .ofNat 105,.ofNat 99,.ofNat 107,.ofNat 47,.ofNat 109,.ofNat 97,.ofNat 104,.ofNat 108,.ofNat 115,.ofNat 116,.ofNat 105,.ofNat 99,.ofNat 107,.ofNat 108,.ofNat 97,.ofNat 119,.ofNat 48,.ofNat 50,.ofNat 46,.ofNat 83,.ofNat 105,.ofNat 103,.ofNat 104,.ofNat 116,
  .ofNat 84,.ofNat 117,.ofNat 114,.ofNat 110,.ofNat 101,.ofNat 100,.ofNat 32,.ofNat 109,.ofNat 97,.ofNat 104,.ofNat 108,.ofNat 115,.ofNat 116,.ofNat 105,.ofNat 99,.ofNat 107,.ofNat 47,.ofNat 109,.ofNat 97,.ofNat 104,.ofNat 108,.ofNat 115,.ofNat 116,.ofNat 105,
  .ofNat 99,.ofNat 107,.ofNat 108,.ofNat 97,.ofNat 119,.ofNat 48,.ofNat 50,.ofNat 46,.ofNat 83,.ofNat 105,.ofNat 103,.ofNat 104,.ofNat 116,.ofNat 83,.ofNat 101,.ofNat 101,.ofNat 110,.ofNat 115,.ofNat 32,.ofNat 109,.ofNat 97,.ofNat 104,.ofNat 108,.ofNat 115,
  .ofNat 116,.ofNat 105,.ofNat 99,.ofNat 107,.ofNat 47,.ofNat 109,.ofNat 97,.ofNat 104,.ofNat 108,.ofNat 115,.ofNat 116,.ofNat 105,.ofNat 99,.ofNat 107,.ofNat 108,.ofNat 97,.ofNat 119,.ofNat 48,.ofNat 50,.ofNat 46,.ofNat 83,.ofNat 105,.ofNat 103,.ofNat 104,
  .ofNat 116,.ofNat 80,.ofNat 114,.ofNat 105,.ofNat 110,.ofNat 116,.ofNat 115,.ofNat 32,.ofNat 109,.ofNat 97,.ofNat 104,.ofNat 108,.ofNat 115,.ofNat 116,.ofNat 105,.ofNat 99,.ofNat 107,.ofNat 47,.ofNat 109,.ofNat 97,.ofNat 104,.ofNat 108,.ofNat 115,.ofNat 116,
  .ofNat 105,.ofNat 99,.ofNat 107,.ofNat 108,.ofNat 97,.ofNat 119,.ofNat 48,.ofNat 50,.ofNat 46,.ofNat 83,.ofNat 105,.ofNat 103,.ofNat 104,.ofNat 116,.ofNat 82,.ofNat 101,.ofNat 97,.ofNat 100,.ofNat 115,.ofNat 32,.ofNat 109,.ofNat 97,.ofNat 104,.ofNat 108,
  .ofNat 115,.ofNat 116,.ofNat 105,.ofNat 99,.ofNat 107,.ofNat 47,.ofNat 109,.ofNat 97,.ofNat 104,.ofNat 108,.ofNat 115,.ofNat 116,.ofNat 105,.ofNat 99,.ofNat 107,.ofNat 108,.ofNat 97,.ofNat 119,.ofNat 48,.ofNat 50,.ofNat 46,.ofNat 83,.ofNat 105,.ofNat 103,
  .ofNat 104,.ofNat 116,.ofNat 83,.ofNat 112,.ofNat 111,.ofNat 105,.ofNat 108,.ofNat 116,.ofNat 32,.ofNat 109,.ofNat 97,.ofNat 104,.ofNat 108,.ofNat 115,.ofNat 116,.ofNat 105,.ofNat 99,.ofNat 107,.ofNat 47,.ofNat 109,.ofNat 97,.ofNat 104,.ofNat 108,.ofNat 115,
  .ofNat 116,.ofNat 105,.ofNat 99,.ofNat 107,.ofNat 108,.ofNat 97,.ofNat 119,.ofNat 48,.ofNat 50,.ofNat 46,.ofNat 83,.ofNat 105,.ofNat 103,.ofNat 104,.ofNat 116,.ofNat 66,.ofNat 111,.ofNat 116,.ofNat 104,.ofNat 115,.ofNat 32,.ofNat 109,.ofNat 97,.ofNat 104,
  .ofNat 108,.ofNat 115,.ofNat 116,.ofNat 105,.ofNat 99,.ofNat 107,.ofNat 47,.ofNat 109,.ofNat 97,.ofNat 104,.ofNat 108,.ofNat 115,.ofNat 116,.ofNat 105,.ofNat 99,.ofNat 107,.ofNat 108,.ofNat 97,.ofNat 119,.ofNat 48,.ofNat 50,.ofNat 46,.ofNat 83,.ofNat 105,
  .ofNat 103,.ofNat 104,.ofNat 116,.ofNat 83,.ofNat 104,.ofNat 97,.ofNat 114,.ofNat 101,.ofNat 100]))):=by kernel_rfl
theorem words_cons (c : Char) (r : List Char) (h : c ≠ Char.ofNat 32) : wordsSigns (c :: r) = match wordsSigns r with | w :: ws => (c :: w) :: ws | [] => [[c]]:=by
  rw [wordsSigns.eq_3 _ _ (by intro e; exact h e)]
  cases wordsSigns r <;> rfl
theorem words_of : ∀ (w r : List Char),(∀ c ∈ w,c ≠ Char.ofNat 32) → wordsSigns (w ++ Char.ofNat 32 :: r) = w :: wordsSigns r
  | [],r,_ => rfl
  | c :: w,r,h => by
    rw [List.cons_append,words_cons _ _ (h c (List.mem_cons.2 (.inl rfl))),words_of w r (fun c hc => h c (List.mem_cons.2 (.inr hc)))]
theorem words_is : ∃ ws,wordsSigns Tryz.prog.initOrder.toList = "harness".toList :: "4e11b3a9e1b7f322c0875aff538975e56966d1b41feccace7074b138c2bd9333".toList :: "cut".toList :: ws:=by
  rw [init_is,String.toList_ofList]
  exact ⟨_,by rw [words_of _ _ (by decide +kernel),words_of _ _ (by decide +kernel),words_of _ _ (by decide +kernel)]⟩
theorem behind_of (s : List Char) (ws : List (List Char)) (h : isSumSigns s = true) : behindMainWord ("harness".toList :: s :: ws) = ws:=by
  unfold behindMainWord
  simp only [h,beq_self_eq_true,Bool.true_or,Bool.and_self,if_true]
theorem sum_is : isSumSigns "4e11b3a9e1b7f322c0875aff538975e56966d1b41feccace7074b138c2bd9333".toList = true:=by decide +kernel
theorem behind_is : ∃ ws,behindMainWord (wordsSigns Tryz.prog.initOrder.toList) = "cut".toList :: ws:=by
  obtain ⟨ws,h⟩:=words_is
  exact ⟨ws,(congrArg behindMainWord h).trans (behind_of _ _ sum_is)⟩
theorem mainIs_of (P : Program) (s : List Char) (ws : List (List Char)) (h : wordsSigns P.initOrder.toList = "harness".toList :: s :: ws) (hs : isSumSigns s = true) : P.mainIs = some (true,s):=by
  unfold Program.mainIs
  rw [h]
  simp only [hs,beq_self_eq_true,if_true,Bool.not_true,if_false,Bool.false_eq_true]
theorem main_is : Tryz.prog.mainIs = some (true,"4e11b3a9e1b7f322c0875aff538975e56966d1b41feccace7074b138c2bd9333".toList):=by
  obtain ⟨ws,h⟩:=words_is
  exact mainIs_of _ _ _ h sum_is
theorem strip_cut (ws : List (List Char)) : stripLifts liftWords ("cut".toList :: ws) = ([],"cut".toList :: ws):=by
  have e : ∀ (l : List String),l.all (fun o => !("cut".toList == o.toList)) = true → stripLifts l ("cut".toList :: ws) = ([],"cut".toList :: ws)
    := fun l => by
      induction l with
      | nil => intro _; rfl
      | cons o os ih =>
        intro h
        rw [List.all_cons,Bool.and_eq_true] at h
        rw [stripLifts,if_neg (by simpa using h.1)]
        exact ih h.2
  exact e _ (by decide +kernel)
theorem lifts_of (P : Program) (ws : List (List Char)) (h : behindMainWord (wordsSigns P.initOrder.toList) = "cut".toList :: ws) : P.headLifts = []:=by
  unfold Program.headLifts
  rw [h,strip_cut]
  simp
theorem later_is : Tryz.prog.laysLater = false:=by kernel_rfl
theorem reflect_is : Tryz.prog.bearsReflect = false:=by kernel_rfl
theorem door_is : Tryz.prog.doorFits [] = true:=by kernel_rfl
theorem ne_gc : ("cut".toList == "gc".toList) = false:=by decide +kernel
theorem ne_spec : ("cut".toList == "spec".toList) = false:=by decide +kernel
theorem ne_carried : ("cut".toList == "carried".toList) = false:=by decide +kernel
theorem enter_of (P : Program) (ws : List (List Char)) (h : behindMainWord (wordsSigns P.initOrder.toList) = "cut".toList :: ws) (h1 : P.laysLater = false) (h2 : P.bearsReflect = false) (h3 : P.doorFits [] = true) : P.mayEnter = true:=by
  unfold Program.mayEnter
  rw [h]
  simp only [strip_cut,h1,h2,h3,ne_gc,ne_spec,ne_carried,List.head?_cons,beq_self_eq_true,Bool.not_false,Bool.or_true,Bool.and_self,List.contains_nil,Bool.or_self,Bool.false_and,Bool.false_or]
theorem final_of (P : Program) (ws : List (List Char)) (h : behindMainWord (wordsSigns P.initOrder.toList) = "cut".toList :: ws) : P.liftsFinal = false:=by
  unfold Program.liftsFinal
  have e : ((some "cut".toList : Option (List Char)) == some "carried".toList) = false:=by decide +kernel
  simp only [h,lifts_of P ws h,List.head?_cons,e,Bool.false_and,Bool.false_or,List.contains_nil]
theorem make_of (P : Program) (ws : List (List Char)) (h : behindMainWord (wordsSigns P.initOrder.toList) = "cut".toList :: ws) : P.make = some .cut:=by
  unfold Program.make
  rw [h]
  simp only [ne_gc,ne_spec,beq_self_eq_true,Bool.or_self,Bool.true_or,Bool.false_eq_true,if_false,if_true]
theorem enter_is : Tryz.prog.mayEnter = true:=by
  obtain ⟨ws,h⟩:=behind_is
  exact enter_of _ ws h later_is reflect_is door_is
theorem final_is : Tryz.prog.liftsFinal = false:=by
  obtain ⟨ws,h⟩:=behind_is
  exact final_of _ ws h
theorem make_is : Tryz.prog.make = some .cut:=by
  obtain ⟨ws,h⟩:=behind_is
  exact make_of _ ws h
end Go.Proofs.YtchnganlpgfdjaaGreatDoor
namespace Go.Proofs.YtchnganlpgfdjaaGreatDoor
open Go Go.RX Go.Proofs.Sight Go.RowKit Go.ChangeShapes Go.WideShapes Go.ChangeAt
set_option maxRecDepth 100000
theorem turned_ctr (As : List SV) (h : opensAll [27,3,42] As) : Ctr Tryz.prog 6 As (bS true):=by
  obtain ⟨_,A1,rfl,h0,h⟩:=opensAll_cons h
  obtain ⟨_,A2,rfl,h1,h⟩:=opensAll_cons h
  obtain ⟨_,A3,rfl,h2,h⟩:=opensAll_cons h
  obtain rfl:=opensAll_nil h
  obtain ⟨x0,rfl,y0⟩:=opens_street h0
  obtain ⟨x1,rfl,y1,z1⟩:=opens_int h1
  obtain ⟨x2,rfl⟩:=opens_place h2
  exact c16 x0 y0 x1 x2
theorem turned_facts : joinedFacts Tryz.prog 6 Tryz.f6 Rows.sightTurnedSpec Rows.sightTurnedRow = true:=by unfold joinedFacts; rw [enter_is,final_is,make_is]; kernel_rfl
theorem turned_lifted (os : Os) (started : os.Started) (H : Type) (enc : TypeId × Value → H) :
    ReturnsInHanded {} Tryz.checked os 6 .any (fun w args => (Rows.sightTurnedSpec.pre enc Tryz.prog Tryz.f6 [] false w args ∧ laidMetH Tryz.prog laid5 w) ∧ sizedMet enc Tryz.prog Tryz.f6 (OpenSpec.ofChange Rows.sightTurnedSpec) false w args)
      (Rows.sightTurnedSpec.post enc Tryz.prog Tryz.f6 false true false false):=by
  refine law_ctr (ts:=[27,3,42]) Rows.sightTurnedSpec rfl started (by kernel_rfl) Tryz.func6 (by kernel_rfl) (by rw [Tryz.params6]) (by decide)
    (fun ds hd => ?_)
    (ChangeSpec.witness_shaped (enc:=enc) (C:=Tryz.checked) (os:=os) (X:=fun w _ => laidMetH Tryz.prog laid5 w) false (World.laidAll Tryz.prog os laid5) #[zS,zI,zP] 8 (World.laidAll_os _ _ _)
      (World.shaped_of_ZipB (by kernel_rfl) (by kernel_rfl)) (by kernel_rfl) (by kernel_rfl) (by kernel_rfl)
      (by rw [MakeChecks.laidMetH_plain _ _ _ (by kernel_rfl)]; exact laidMet_laidAll _ (by kernel_rfl) (by kernel_rfl))) turned_ctr
  match ds,hd with
  | [d0,d1,d2],_ => rfl
theorem turned_row : Rows.SightTurnedSaid :=
  OpenClaim.holds_of_wide 6 Tryz.f6 rfl rfl rfl rfl rfl rfl rfl ⟨rfl,rfl,rfl,rfl,rfl⟩ rfl rfl rfl rfl rfl (by kernel_rfl) Tryz.func6 turned_facts (of_decide_eq_true (by kernel_rfl))
    (by unfold Func.isWrapper; first | (rw [if_pos (by decide +kernel)]; kernel_rfl) | (rw [if_neg (by decide +kernel)]; exact ⟨rfl,rfl⟩)) (fun os started H enc _ => turned_lifted os started H enc)
theorem turned_card : Rows.SightTurnedCardSaid :=
  Claim7.holds_tied_plain_at .later [] [.data,.data,.data,.data,.pinned] true (true,"4e11b3a9e1b7f322c0875aff538975e56966d1b41feccace7074b138c2bd9333") true turned_row
    (fun _ h => by cases h) (by kernel_rfl) (fun _ h => by cases h) sightTurned_row_tie rfl ⟨rfl,rfl⟩ main_is rfl
    (fun f fn hf hfn => by
      obtain rfl : f = 6:=Option.some.inj ((show Tryz.prog.funcNamed "mahlstick/mahlsticklaw02.SightTurned" = some 6 by kernel_rfl).symm.trans hf) |>.symm
      obtain rfl : fn = Tryz.f6:=(Option.some.inj (Tryz.func6.symm.trans hfn)).symm
      exact ⟨by kernel_rfl,fun j t ht => by
        rw [Tryz.params6] at ht
        exact law_stand (ts:=[27,3,42]) (by decide) (by simpa using Array.mem_of_getElem? ht)⟩) (by kernel_rfl)
#print axioms turned_card
end Go.Proofs.YtchnganlpgfdjaaGreatDoor
