/-
  Which streets are as defined,and whether any board is read from any place: SightSeens returns true at every input,and leaves it as it was.
  No condition beside those that the statement itself names.
-/
import Derived.Test.YtchnganlpgfdjaaGreatDoorB00
import Derived.Test.YtchnganlpgfdjaaGreatDoorB01
import Derived.Test.YtchnganlpgfdjaaGreatDoorB02
import Derived.Test.YtchnganlpgfdjaaGreatDoorB03
import Derived.Test.YtchnganlpgfdjaaGreatDoorB04
import Derived.Test.YtchnganlpgfdjaaGreatDoorB05
import Derived.Test.YtchnganlpgfdjaaGreatDoorB06
import Derived.Test.YtchnganlpgfdjaaGreatDoorB07
import Derived.Test.YtchnganlpgfdjaaGreatDoorB08
import Derived.Test.YtchnganlpgfdjaaGreatDoorB09
import Derived.Test.YtchnganlpgfdjaaGreatDoorB10
import Derived.Test.YtchnganlpgfdjaaGreatDoorB11
import Derived.Test.YtchnganlpgfdjaaGreatDoorB12
import Derived.Test.YtchnganlpgfdjaaGreatDoorB13
import Derived.Test.YtchnganlpgfdjaaGreatDoorB14
import Derived.Test.YtchnganlpgfdjaaGreatDoorB15
import Derived.Test.YtchnganlpgfdjaaGreatDoorB16
import Derived.Test.YtchnganlpgfdjaaGreatDoorB17
import Derived.Test.YtchnganlpgfdjaaGreatDoorB18
import Derived.Test.YtchnganlpgfdjaaGreatDoorB19
import Derived.Test.YtchnganlpgfdjaaGreatDoorB20
import Derived.Test.YtchnganlpgfdjaaGreatDoorB21
import Derived.Test.YtchnganlpgfdjaaGreatDoorB22
import Derived.Test.YtchnganlpgfdjaaGreatDoorB23
import Derived.Test.YtchnganlpgfdjaaGreatDoorB24
import Derived.Test.YtchnganlpgfdjaaGreatDoorB25
import Derived.Test.YtchnganlpgfdjaaGreatDoorB26
import Derived.OpenShut
import Derived.Deep.Slices
import Derived.Deep.Strs
import Derived.Lib.SmallJoins
import Derived.Test.YtchnganlpgfdjaaGreatDoorRows
import Derived.Test.YtchnganlpgfdjaaGreatDoorTie
import Derived.Test.YtchnganlpgfdjaaGreatDoorCards
import Derived.ProofKit
import Derived.LaidMore
import Derived.Lay
import Derived.LaidOnce
import Derived.SevenTiedAt
import Derived.Shelf.Vars
import Derived.Carry
import Derived.HandedShaped
import Derived.Stop.LaidErr
import Derived.ChangeCalls
import Derived.ChangeMaps5
set_option linter.all false
set_option linter.unusedVariables false
set_option linter.unusedSectionVars false
set_option linter.unusedSimpArgs false
set_option linter.unnecessarySimpa false
namespace Go.Proofs.Sight
open Go Go.RX Go.Proofs
set_option maxRecDepth 10000
theorem seen_of {s : Street} {i : Int} {p : Place} (h : lookOk s i p = true) : seenW s i p = word (surelyL ⟨s,brd s i,p⟩) (mayL ⟨s,brd s i,p⟩):=by
  obtain ⟨_,_,_,hl,_⟩:=lookOk_spec h
  rw [seenW,if_pos h,hl]; rfl
end Go.Proofs.Sight
namespace Go.Proofs.Sight
open Go Go.RX Go.Proofs
set_option maxRecDepth 10000
theorem cross_ok {s : Street} (hs : s.ok) : ∀ k ∈ s.ks,k.cl ≤ k.ch:=by
  intro k hk
  have h:=hs.ks k hk
  simp only [blockIn,spanR,inR,Bool.and_eq_true,decide_eq_true_eq] at h
  omega
theorem c17 (s : Street) (hh : s.held) (i : Int) (p : Place) : Ctr Tryz.prog 7 [s.sv,iS i,p.sv] (bS true):=by
  (refine Ctr.mk (fn:=Tryz.f7) rfl rfl rfl rfl rfl Tryz.results7 ?_; dsimp only [args,List.toList_toArray])
  ((first | refine qS rfl rfl ?_ | refine qR rfl rfl ?_); simp only [go_sem,↓dP,↓reduceIte]; with_reducible and_intros; all_goals first | apply qA | exact ⟨⟩ | rfl | (intros; apply qB; first | kernel_rfl | omega) | omega | skip)
  refine Ok.seq ?_
  ((first | refine qS rfl rfl ?_ | refine qR rfl rfl ?_); simp only [go_sem,↓dP,↓reduceIte]; with_reducible and_intros; all_goals first | apply qA | exact ⟨⟩ | rfl | (intros; apply qB; first | kernel_rfl | omega) | omega | skip)
  (refine AskI.ret (c28 s hh) ?_; simp only [go_sem,↓dP,↓reduceIte]; with_reducible and_intros; all_goals first | apply qA | exact ⟨⟩ | rfl | (intros; apply qB; first | kernel_rfl | omega) | omega | skip)
  refine Ok.cond rfl ?_ ?_
  · intro _
    ((first | refine qS rfl rfl ?_ | refine qR rfl rfl ?_); simp only [go_sem,↓dP,↓reduceIte]; with_reducible and_intros; all_goals first | apply qA | exact ⟨⟩ | rfl | (intros; apply qB; first | kernel_rfl | omega) | omega | skip)
    (refine AskI.ret (c24) ?_; simp only [go_sem,↓dP,↓reduceIte]; with_reducible and_intros; all_goals first | apply qA | exact ⟨⟩ | rfl | (intros; apply qB; first | kernel_rfl | omega) | omega | skip)
    (refine Ok.ret ?_; (try dsimp only [thenK,blockK,noGotoK]); simp only [toList_mk,List.toList_toArray,retK_ret,retK_normal,resOK,resV,celV,rowV,frzAll,frzT,subV,subL,go_sem,↓dP,↓reduceIte])
    exact .refl _
  intro hb
  have hfit : s.fit:=short_fit (by simpa using hb)
  (refine Ok.skip ?_; (try dsimp only [thenK,blockK,noGotoK]))
  ((first | refine qS rfl rfl ?_ | refine qR rfl rfl ?_); simp only [go_sem,↓dP,↓reduceIte]; with_reducible and_intros; all_goals first | apply qA | exact ⟨⟩ | rfl | (intros; apply qB; first | kernel_rfl | omega) | omega | skip)
  (refine AskI.ret (c61 s hfit) ?_; simp only [go_sem,↓dP,↓reduceIte]; with_reducible and_intros; all_goals first | apply qA | exact ⟨⟩ | rfl | (intros; apply qB; first | kernel_rfl | omega) | omega | skip)
  ((first | refine qS rfl rfl ?_ | refine qR rfl rfl ?_); simp only [go_sem,↓dP,↓reduceIte]; with_reducible and_intros; all_goals first | apply qA | exact ⟨⟩ | rfl | (intros; apply qB; first | kernel_rfl | omega) | omega | skip)
  (refine AskI.ret (c25 s hfit i p) ?_; simp only [go_sem,↓dP,↓reduceIte]; with_reducible and_intros; all_goals first | apply qA | exact ⟨⟩ | rfl | (intros; apply qB; first | kernel_rfl | omega) | omega | skip)
  refine Ok.seq ?_
  ((first | refine qS rfl rfl ?_ | refine qR rfl rfl ?_); simp only [go_sem,↓dP,↓reduceIte]; with_reducible and_intros; all_goals first | apply qA | exact ⟨⟩ | rfl | (intros; apply qB; first | kernel_rfl | omega) | omega | skip)
  (refine AskI.ret (c30 s hfit) ?_; simp only [go_sem,↓dP,↓reduceIte]; with_reducible and_intros; all_goals first | apply qA | exact ⟨⟩ | rfl | (intros; apply qB; first | kernel_rfl | omega) | omega | skip)
  refine Ok.cond rfl ?_ ?_
  · intro hb
    have hn : isStreet s = false:=by simpa using hb
    have hk : lookOk s i p = false:=by simp [lookOk,hn]
    ((first | refine qS rfl rfl ?_ | refine qR rfl rfl ?_); simp only [go_sem,↓dP,↓reduceIte]; with_reducible and_intros; all_goals first | apply qA | exact ⟨⟩ | rfl | (intros; apply qB; first | kernel_rfl | omega) | omega | skip)
    (refine AskGI.ret (fun _ => c24) ?_; simp only [go_sem,↓dP,↓reduceIte]; with_reducible and_intros; all_goals first | apply qA | exact ⟨⟩ | rfl | (intros; apply qB; first | kernel_rfl | omega) | omega | skip)
    (refine Ok.ret ?_; (try dsimp only [thenK,blockK,noGotoK]); simp only [toList_mk,List.toList_toArray,retK_ret,retK_normal,resOK,resV,celV,rowV,frzAll,frzT,subV,subL,go_sem,↓dP,↓reduceIte])
    simp [hn,hk,seenW,errA]
    exact .refl _
  intro hb
  have hn : isStreet s = true:=by simpa using hb
  (refine Ok.skip ?_; (try dsimp only [thenK,blockK,noGotoK]))
  refine Ok.seq ?_
  ((first | refine qS rfl rfl ?_ | refine qR rfl rfl ?_); simp only [go_sem,↓dP,↓reduceIte]; with_reducible and_intros; all_goals first | apply qA | exact ⟨⟩ | rfl | (intros; apply qB; first | kernel_rfl | omega) | omega | skip)
  (refine AskI.ret (c31 s hfit.1 i) ?_; simp only [go_sem,↓dP,↓reduceIte]; with_reducible and_intros; all_goals first | apply qA | exact ⟨⟩ | rfl | (intros; apply qB; first | kernel_rfl | omega) | omega | skip)
  (refine AskGI.ret (fun _ => c32 s p) ?_; simp only [go_sem,↓dP,↓reduceIte]; with_reducible and_intros; all_goals first | apply qA | exact ⟨⟩ | rfl | (intros; apply qB; first | kernel_rfl | omega) | omega | skip)
  refine Ok.cond rfl ?_ ?_
  · intro hb
    have hk : lookOk s i p = false:=by
      simp only [lookOk,hn,Bool.true_and]
      revert hb
      cases inR i 0 (s.bs.length - 1) <;> cases placeIn s p <;> simp
    ((first | refine qS rfl rfl ?_ | refine qR rfl rfl ?_); simp only [go_sem,↓dP,↓reduceIte]; with_reducible and_intros; all_goals first | apply qA | exact ⟨⟩ | rfl | (intros; apply qB; first | kernel_rfl | omega) | omega | skip)
    (refine AskGI.ret (fun _ => c24) ?_; simp only [go_sem,↓dP,↓reduceIte]; with_reducible and_intros; all_goals first | apply qA | exact ⟨⟩ | rfl | (intros; apply qB; first | kernel_rfl | omega) | omega | skip)
    (refine Ok.ret ?_; (try dsimp only [thenK,blockK,noGotoK]); simp only [toList_mk,List.toList_toArray,retK_ret,retK_normal,resOK,resV,celV,rowV,frzAll,frzT,subV,subL,go_sem,↓dP,↓reduceIte])
    simp [hn,hk,seenW,errA]
    exact .refl _
  intro hb
  have hk : lookOk s i p = true:=by
    simp only [lookOk,hn,Bool.true_and]
    revert hb
    cases inR i 0 (s.bs.length - 1) <;> cases placeIn s p <;> simp
  obtain ⟨hok,hi,hp,hl,hg⟩:=lookOk_spec hk
  rw [hl] at hg
  change (Look.mk s (brd s i) p).good at hg
  have hw : seenW s i p = word (surelyL ⟨s,brd s i,p⟩) (mayL ⟨s,brd s i,p⟩):=seen_of hk
  (refine Ok.skip ?_; (try dsimp only [thenK,blockK,noGotoK]))
  ((first | refine qS rfl rfl ?_ | refine qR rfl rfl ?_); simp only [go_sem,↓dP,↓reduceIte]; with_reducible and_intros; all_goals first | apply qA | exact ⟨⟩ | rfl | (intros; apply qB; first | kernel_rfl | omega) | omega | skip)
  (refine AskGI.ret (fun _ => c62 ⟨s,brd s i,p⟩ hg (cross_ok hok)) ?_; simp only [go_sem,↓dP,↓reduceIte]; with_reducible and_intros; all_goals first | apply qA | exact ⟨⟩ | rfl | (intros; apply qB; first | kernel_rfl | omega) | omega | skip)
  (refine AskGI.ret (fun _ => c24) ?_; simp only [go_sem,↓dP,↓reduceIte]; with_reducible and_intros; all_goals first | apply qA | exact ⟨⟩ | rfl | (intros; apply qB; first | kernel_rfl | omega) | omega | skip)
  (refine Ok.ret ?_; (try dsimp only [thenK,blockK,noGotoK]); simp only [toList_mk,List.toList_toArray,retK_ret,retK_normal,resOK,resV,celV,rowV,frzAll,frzT,subV,subL,go_sem,↓dP,↓reduceIte])
  simp [hn,hk,hw,errA]
  exact .refl _
end Go.Proofs.Sight
namespace Go.Proofs.Sight
open Go Go.RX Go.Proofs Go.RowKit Go.ChangeShapes Go.WideShapes Go.Deep Go.ChangeAt
set_option maxRecDepth 100000
section
variable {H : Type} {enc : TypeId × Value → H} {W : World}
theorem cell3 : Tryz.prog.cellsOf 3 = 1:=by kernel_rfl
theorem cell4 : Tryz.prog.cellsOf 4 = 1:=by kernel_rfl
theorem cell23 : Tryz.prog.cellsOf 23 = 2:=by kernel_rfl
theorem cell24 : Tryz.prog.cellsOf 24 = 1:=by kernel_rfl
theorem cell25 : Tryz.prog.cellsOf 25 = 1:=by kernel_rfl
theorem cell27 : Tryz.prog.cellsOf 27 = 8:=by kernel_rfl
theorem cell29 : Tryz.prog.cellsOf 42 = 2:=by kernel_rfl
theorem cell49 : Tryz.prog.cellsOf 36 = 1:=by kernel_rfl
theorem cell51 : Tryz.prog.cellsOf 38 = 2:=by kernel_rfl
theorem cell59 : Tryz.prog.cellsOf 45 = 4:=by kernel_rfl
theorem cell66 : Tryz.prog.cellsOf 48 = 5:=by kernel_rfl
abbrev There (W : World) : Nat → Prop:=fun b => b < W.heap.size
theorem cell_there {a : Addr} {v : Value} (h : W.cell? a = some v) : a.spot = none ∧ a.block < W.heap.size:=by
  unfold World.cell? at h
  cases ho : W.heap[a.block]? with
  | none => rw [ho] at h; cases h
  | some o =>
    have hlt:=(Array.getElem?_eq_some_iff.1 ho).1
    rw [ho] at h
    cases o <;> simp only at h <;> try (cases h; done)
    cases hsp : a.spot with
    | none => exact ⟨rfl,hlt⟩
    | some x => rw [hsp] at h; simp at h
theorem open_rows {α : Type} [Inhabited α] {t e k : Nat} (ht : Tryz.prog.underlying t = some (.slice e)) (hc : Tryz.prog.cellsOf e = k) (hk : 0 < k) (f : α → Nat → DV) (Q : α → Prop)
    (hel : ∀ n cs x,DataW.trod enc Tryz.prog W 0 (fun _ => true) true n e cs = some x → ∃ y : α,Q y ∧ cs.length = k ∧ ∀ j u,cs[j]? = some u → Rep (There W) W u (f y j))
    {n : Nat} {cs : List Value} {x : DataW H × List MemPlace} (h : DataW.trod enc Tryz.prog W 0 (fun _ => true) true n t cs = some x) :
    ∃ (v : Value) (l : List α),cs = [v] ∧ l.length ≤ maxLen ∧ Rep (There W) W v (slD k f l) ∧ ∀ y ∈ l,Q y:=by
  rcases open_slice ht h with ⟨rfl,_⟩ | ⟨a,len,cap,m,n',D,Pl,rfl,hb,hl,hm,hmm,rfl,hx⟩
  · exact ⟨_,[],rfl,Nat.zero_le _,.sl0,fun y hy => by simp at hy⟩
  simp only [if_true] at hmm
  subst hmm
  have hx' : ∀ i,i < len → ∃ y : α,Q y ∧ ∀ j,j < k → ∃ u,W.cell? ((a.add (i * k)).add j) = some u ∧ Rep (There W) W u (f y j):=by
    intro i hi
    obtain ⟨cs',h1,h2⟩:=hx i (by omega)
    rw [hc] at h1
    obtain ⟨y,hq,hlen,hr⟩:=hel _ _ _ h2
    obtain ⟨_,_,h3⟩:=World.cells?_some h1
    refine ⟨y,hq,fun j hj => ?_⟩
    have hj' : j < cs'.length:=by omega
    exact ⟨cs'[j],by rw [h3 j hj,List.getElem?_eq_getElem hj'],hr j _ (List.getElem?_eq_getElem hj')⟩
  obtain ⟨L,hL⟩:=choose_lt hx'
  by_cases h0 : len = 0
  · subst h0
    exact ⟨_,[],rfl,Nat.zero_le _,.sl1 hm,fun y hy => by simp at hy⟩
  · obtain ⟨u0,hu0,_⟩:=(hL 0 (by omega)).2 0 hk
    rw [Go.Deep.add_add,show 0 * k + 0 = 0 by omega,show a.add 0 = a from rfl] at hu0
    obtain ⟨hs,hlt⟩:=cell_there hu0
    obtain ⟨b,o,sp⟩:=a
    simp only at hs hlt
    subst hs
    refine ⟨_,(List.range len).map L,rfl,by simp; omega,?_,fun y hy => ?_⟩
    · have hll : ((List.range len).map L).length = len:=by simp
      show Rep _ _ _ (.sl k ((List.range len).map L).length _)
      rw [hll]
      refine .sl (fun i j => (W.cell? ⟨b,o + (i * k + j),none⟩).getD undef) hlt hl hm (fun i j hi hj => ?_) (fun i j hi hj => ?_)
      · obtain ⟨u,hu,_⟩:=(hL i hi).2 j hj
        rw [Go.Deep.add_add,Addr.add_mid] at hu
        rw [hu]; rfl
      · obtain ⟨u,hu,hr⟩:=(hL i hi).2 j hj
        rw [Go.Deep.add_add,Addr.add_mid] at hu
        rw [hu]
        have : ((List.range len).map L).getD i default = L i:=by simp [List.getD_eq_getElem?_getD,hi]
        rw [this]; exact hr
    · obtain ⟨i,hi,rfl⟩:=List.mem_map.1 hy
      exact (hL i (List.mem_range.1 hi)).1
theorem open_letter (n : Nat) (cs : List Value) (x : DataW H × List MemPlace) (h : DataW.trod enc Tryz.prog W 0 (fun _ => true) true n 45 cs = some x) : ∃ y : Letter,True ∧ cs.length = 4 ∧ ∀ j u,cs[j]? = some u → Rep (There W) W u (letD y j):=by
  obtain ⟨y0,y1,y2,y3,m,_,hl,h0,h1,h2,h3⟩:=Joins.trod_struct4 Tryz.underlying45 h
  rw [cell59] at hl
  match cs,hl with
  | [c0,c1,c2,c3],_ =>
    obtain ⟨n0,e0,_⟩:=DataW.trod_int Tryz.underlying3 h0
    obtain ⟨n1,e1,_⟩:=DataW.trod_int Tryz.underlying3 h1
    obtain ⟨n2,e2,_⟩:=DataW.trod_int Tryz.underlying3 h2
    obtain ⟨n3,e3,_⟩:=DataW.trod_int Tryz.underlying3 h3
    simp [cell3] at e0 e1 e2 e3
    subst e0; subst e1; subst e2; subst e3
    refine ⟨⟨n0,n1,n2,n3⟩,trivial,rfl,fun j u hu => ?_⟩
    match j,hu with
    | 0,hu => simp at hu; subst hu; exact .int
    | 1,hu => simp at hu; subst hu; exact .int
    | 2,hu => simp at hu; subst hu; exact .int
    | 3,hu => simp at hu; subst hu; exact .int
    | j + 4,hu => simp at hu
theorem open_span {n : Nat} {cs : List Value} {x : DataW H × List MemPlace} (h : DataW.trod enc Tryz.prog W 0 (fun _ => true) true n 23 cs = some x) : ∃ a b : Int,cs = [.int .i64 a,.int .i64 b]:=by
  obtain ⟨y0,y1,m,_,hl,h0,h1⟩:=trod_struct2 Tryz.underlying23 h
  rw [cell23] at hl
  match cs,hl with
  | [c0,c1],_ =>
    obtain ⟨n0,e0,_⟩:=DataW.trod_int Tryz.underlying3 h0
    obtain ⟨n1,e1,_⟩:=DataW.trod_int Tryz.underlying3 h1
    simp [cell3] at e0 e1
    subst e0; subst e1
    exact ⟨n0,n1,rfl⟩
theorem open_block (n : Nat) (cs : List Value) (x : DataW H × List MemPlace) (h : DataW.trod enc Tryz.prog W 0 (fun _ => true) true n 48 cs = some x) : ∃ y : Block,True ∧ cs.length = 5 ∧ ∀ j u,cs[j]? = some u → Rep (There W) W u (bloD y j):=by
  obtain ⟨y0,y1,y2,m,_,hl,h0,h1,h2⟩:=trod_struct3 Tryz.underlying48 h
  rw [cell66] at hl
  match cs,hl with
  | [c0,c1,c2,c3,c4],_ =>
    obtain ⟨a0,b0,e0⟩:=open_span h0
    obtain ⟨a1,b1,e1⟩:=open_span h1
    obtain ⟨s,e2,_⟩:=DataW.trod_bool Tryz.underlying4 h2
    simp [cell23,cell4] at e0 e1 e2
    obtain ⟨rfl,rfl⟩:=e0
    obtain ⟨rfl,rfl⟩:=e1
    subst e2
    refine ⟨⟨a0,b0,a1,b1,s⟩,trivial,rfl,fun j u hu => ?_⟩
    match j,hu with
    | 0,hu => simp at hu; subst hu; exact .int
    | 1,hu => simp at hu; subst hu; exact .int
    | 2,hu => simp at hu; subst hu; exact .int
    | 3,hu => simp at hu; subst hu; exact .int
    | 4,hu => simp at hu; subst hu; exact .bool
    | j + 5,hu => simp at hu
theorem open_board (n : Nat) (cs : List Value) (x : DataW H × List MemPlace) (h : DataW.trod enc Tryz.prog W 0 (fun _ => true) true n 38 cs = some x) : ∃ y : Board,y.ls.length ≤ maxLen ∧ cs.length = 2 ∧ ∀ j u,cs[j]? = some u → Rep (There W) W u (boaD y j):=by
  obtain ⟨y0,y1,m,_,hl,h0,h1⟩:=trod_struct2 Tryz.underlying38 h
  rw [cell51] at hl
  match cs,hl with
  | [c0,c1],_ =>
    obtain ⟨n0,e0,_⟩:=DataW.trod_int Tryz.underlying3 h0
    obtain ⟨v,l,e1,hlen,hrep,_⟩:=open_rows Tryz.underlying36 cell59 (by decide) letD (fun _ => True) open_letter h1
    simp [cell3,cell49] at e0 e1
    subst e0; subst e1
    refine ⟨⟨n0,l⟩,hlen,rfl,fun j u hu => ?_⟩
    match j,hu with
    | 0,hu => simp at hu; subst hu; exact .int
    | 1,hu => simp at hu; subst hu; exact hrep
    | j + 2,hu => simp at hu
theorem open_street {v : Value} {d : DataW H} {ps : List MemPlace} {b0 : Nat} (hok : Value.okWide Tryz.prog W .any b0 27 v) (h : DataW.Trod enc Tryz.prog W 0 (fun _ => true) true 27 v d ps) : ∃ s : Street,RepS (There W) W v s.sv ∧ s.held:=by
  unfold Value.okWide at hok
  rw [Tryz.underlying27] at hok
  obtain ⟨cs,rfl,_,_⟩:=hok
  obtain ⟨n,h⟩:=h
  obtain ⟨xs,m,_,_,hl,hlen,hf⟩:=DataW.trod_struct Tryz.underlying27 h
  simp only [Value.cells] at hl hf
  rw [cell27] at hl
  match xs,hlen with
  | [y0,y1,y2,y3,y4,y5],_ =>
    have h0:=hf 0 _ rfl
    have h1:=hf 1 _ rfl
    have h2:=hf 2 _ rfl
    have h3:=hf 3 _ rfl
    have h4:=hf 4 _ rfl
    have h5:=hf 5 _ rfl
    obtain ⟨cs⟩:=cs
    simp only at hl h0 h1 h2 h3 h4 h5
    match cs,hl with
    | [c0,c1,c2,c3,c4,c5,c6,c7],_ =>
      obtain ⟨n0,e0,_⟩:=DataW.trod_int Tryz.underlying3 h0
      obtain ⟨n1,e1,_⟩:=DataW.trod_int Tryz.underlying3 h1
      obtain ⟨a2,b2,e2⟩:=open_span h2
      obtain ⟨a3,b3,e3⟩:=open_span h3
      obtain ⟨v4,bs,e4,hbl,hbr,hbq⟩:=open_rows Tryz.underlying24 cell51 (by decide) boaD (fun b => b.ls.length ≤ maxLen) open_board h4
      obtain ⟨v5,ks,e5,hkl,hkr,_⟩:=open_rows Tryz.underlying25 cell66 (by decide) bloD (fun _ => True) open_block h5
      simp [cell3,cell23,cell24,cell25] at e0 e1 e2 e3 e4 e5
      subst e0; subst e1
      obtain ⟨rfl,rfl⟩:=e2
      obtain ⟨rfl,rfl⟩:=e3
      subst e4; subst e5
      refine ⟨⟨n0,n1,a2,b2,a3,b3,bs,ks⟩,Fits.reps (xs:=[iD n0,iD n1,iD a2,iD b2,iD a3,iD b3,slD 2 boaD bs,slD 5 bloD ks]) (.cons .int (.cons .int (.cons .int (.cons .int (.cons .int (.cons .int (.cons hbr (.cons hkr .nil)))))))),?_,?_,fun b hb => ?_⟩
      · have : maxLen ≤ 9223372036854775807:=by decide
        exact Nat.le_trans hbl this
      · have : maxLen ≤ 9223372036854775807:=by decide
        exact Nat.le_trans hkl this
      · have : maxLen ≤ 9223372036854775807:=by decide
        exact Nat.le_trans (hbq b hb) this
theorem open_place {v : Value} {d : DataW H} {ps : List MemPlace} {b0 : Nat} (hok : Value.okWide Tryz.prog W .any b0 42 v) (h : DataW.Trod enc Tryz.prog W 0 (fun _ => true) true 42 v d ps) : ∃ p : Place,RepS (There W) W v p.sv:=by
  unfold Value.okWide at hok
  rw [Tryz.underlying42] at hok
  obtain ⟨cs,rfl,_,_⟩:=hok
  obtain ⟨n,h⟩:=h
  obtain ⟨y0,y1,m,_,hl,h0,h1⟩:=trod_struct2 Tryz.underlying42 h
  simp only [Value.cells] at hl h0 h1
  rw [cell29] at hl
  obtain ⟨cs⟩:=cs
  simp only at hl h0 h1
  match cs,hl with
  | [c0,c1],_ =>
    obtain ⟨n0,e0,_⟩:=DataW.trod_int Tryz.underlying3 h0
    obtain ⟨n1,e1,_⟩:=DataW.trod_int Tryz.underlying3 h1
    simp [cell3] at e0 e1
    subst e0; subst e1
    exact ⟨⟨n0,n1⟩,Fits.reps (xs:=[iD n0,iD n1]) (.cons .int (.cons .int .nil))⟩
end
end Go.Proofs.Sight
namespace Go.Proofs.YtchnganlpgfdjaaGreatDoor
open Go Go.RX Go.Proofs.Sight Go.RowKit Go.ChangeShapes Go.WideShapes Go.ChangeAt
set_option maxRecDepth 100000
theorem own : ownKnob Tryz.prog.godebug = none:=by kernel_rfl
abbrev laid5 : List (String × DataW Unit):=Rows.sightHangsRow.laid
theorem tabs_of {W : World} (hL : laidMetH Tryz.prog laid5 W) (hS : W.ShapedOpen Tryz.prog) : Tabs W:=by
  rw [MakeChecks.laidMetH_plain _ _ _ (by kernel_rfl)] at hL
  refine ⟨?_,?_⟩
  · exact Lib.tabIs_of_head (zs:=Lib.pow10Tab) (g:=0) (t:=211) (e:=198) (n:=20) (by kernel_rfl) (by kernel_rfl) Tryz.underlying211 Tryz.underlying198 (by kernel_rfl) (by kernel_rfl) hL.tail.tail
  · exact Go.Proofs.cell_of_shapedOpen_int (t:=3) (zero:=#[.int .i64 0]) hS (of_decide_eq_true (by kernel_rfl)) (by kernel_rfl) rfl (by kernel_rfl) (by kernel_rfl) Tryz.underlying3
variable {H : Type} {enc : TypeId × Value → H}
theorem trodAll_below {W W' : World} (hb : Below W.heap.size W W') : ∀ {ts : List TypeId} {vs : List Value} {ds : List (DataW H)} {ps : List MemPlace},(∀ t ∈ ts,Tryz.prog.readableRec t = true ∧ t < Tryz.prog.types.size) →
    DataW.TrodAll enc Tryz.prog W 0 (fun _ => true) true ts vs ds ps → (∀ x ∈ ps,x.block < W.heap.size) → DataW.TrodAll enc Tryz.prog W' 0 (fun b => decide (b < W.heap.size)) true ts vs ds ps
  | [],[],[],_,_,h,_ => h
  | _ :: _,_ :: _,_ :: _,_,hT,⟨p,q,h1,h2,e⟩,hs => ⟨p,q,Below.trod laidOut (hT _ (List.mem_cons.2 (Or.inl rfl))).1 (hT _ (List.mem_cons.2 (Or.inl rfl))).2 h1 hb (fun x hx => hs x (by rw [e]; exact List.mem_append_left _ hx)),
      trodAll_below hb (fun t ht => hT t (List.mem_cons.2 (Or.inr ht))) h2 (fun x hx => hs x (by rw [e]; exact List.mem_append_right _ hx)),e⟩
theorem law_ret {os : Os} {f : FuncId} {fn : Func} (s : ChangeSpec) (hv : s.vars = []) (started : os.Started) (noInit : Tryz.prog.inits.idxOf? f = none) (hfn : Tryz.prog.funcs[f]? = some fn) (hres : fn.resultTypes = #[4])
    (hts : ∀ t ∈ fn.params.toList,Tryz.prog.readableRec t = true ∧ t < Tryz.prog.types.size)
    (hs : ∀ ds : List (DataW H),ds.length = fn.params.toList.length → s.fn H (ds ++ []) = { results:=[.lit (.bool true)],args:=ds })
    (witness : ∃ (w : World) (tape : Tape) (i : Input),w.os = os ∧ (w.forCall tape i).Shaped Tryz.prog ∧ i.vars = [] ∧ Input.okWide Tryz.prog (w.forCall tape i) .any w.heap.size f i ∧
      ((s.pre enc Tryz.prog fn [] false (w.forCall tape i).memory i.args ∧ laidMetH Tryz.prog laid5 (w.forCall tape i).memory) ∧ sizedMet enc Tryz.prog fn (OpenSpec.ofChange s) false (w.forCall tape i).memory i.args) ∧ ({} : Assume).holds Tryz.prog (lone (Frame.enter Tryz.prog f i.args .normal) [] (w.forCall tape i)))
    (contract : ∀ (W : World) (base : Nat) (args : Array Value) (ds : List (DataW H)) (ps : List MemPlace),
      (∀ (j : Nat) t v,fn.params[j]? = some t → args[j]? = some v → Value.okWide Tryz.prog W .any base t v) →
      DataW.TrodAll enc Tryz.prog W 0 (fun _ => true) true fn.params.toList args.toList ds ps → Tabs W →
      Calls Tryz.prog f args W fun e W' => e = .returned (.bool true) ∧ Below W.heap.size W W') :
    ReturnsInHanded {} Tryz.checked os f .any (fun w args => (s.pre enc Tryz.prog fn [] false w args ∧ laidMetH Tryz.prog laid5 w) ∧ sizedMet enc Tryz.prog fn (OpenSpec.ofChange s) false w args) (s.post enc Tryz.prog fn false true false false):=by
  refine returnsInHanded_of_calls (C:=Tryz.checked) own started noInit witness ?_
  intro w tape i _ hsh _ hok hpre hholds
  obtain ⟨_,_,_,fn',hfn',_,_,_,_,hval⟩:=hok
  have e : fn' = fn:=Option.some.inj (hfn'.symm.trans hfn)
  subst e
  obtain ⟨⟨⟨ds,gs,before,hw,hc⟩,hx⟩,hz⟩:=hpre
  have hW':=DataW.Whole.of_heap (w':=w.forCall tape i) (by rfl) hw
  have hW:=hW'
  obtain ⟨p,q,hA,hV,rfl,_,_⟩:=hW
  rw [hv] at hV
  obtain ⟨rfl,rfl⟩:=trodVars_none hV
  have hL : laidMetH Tryz.prog laid5 (w.forCall tape i):=hx.of_heap (by rfl)
  refine (contract (w.forCall tape i) w.heap.size i.args ds p hval hA (tabs_of hL hsh)).mono fun e W' ⟨he,hb⟩ => ?_
  subst he
  refine ChangeSpec.post_blind ?_
  have hlen:=(Go.trodAll_length hA).2
  have hsf:=hs ds hlen
  refine ⟨ds,[],_,[],p,[],hW',?_,?_,?_,hb.frame _,fun h => by cases h⟩
  · rw [hsf,hres]
    exact trodAll_mk1 (shut_bool Tryz.underlying4 _)
  · rw [hsf]
    exact trodAll_below hb hts hA (fun x hx => by
      have:=hW'.lt x (by simpa using hx)
      exact this)
  · rw [hsf,hv]
    rfl
end Go.Proofs.YtchnganlpgfdjaaGreatDoor
namespace Go.Proofs.YtchnganlpgfdjaaGreatDoor
open Go Go.RX Go.Proofs.Sight Go.RowKit Go.ChangeShapes Go.WideShapes Go.ChangeAt
set_option maxRecDepth 100000
abbrev zS : Value:=.agg #[.int .i64 0,.int .i64 0,.int .i64 0,.int .i64 0,.int .i64 0,.int .i64 0,.slice none 0 0,.slice none 0 0]
abbrev zP : Value:=.agg #[.int .i64 0,.int .i64 0]
abbrev zI : Value:=.int .i64 0
def opens (t : TypeId) (A : SV) : Prop :=
  (t = 27 ∧ ∃ s : Street,A = s.sv ∧ s.held) ∨ (t = 42 ∧ ∃ p : Go.Proofs.Sight.Place,A = p.sv) ∨ (t = 3 ∧ ∃ i : Int,A = iS i ∧ -9223372036854775808 ≤ i ∧ i ≤ 9223372036854775807) ∨ (t = 9 ∧ ∃ x : List UInt8,A = .d (.str x) ∧ x.length ≤ maxLen)
def opensAll : List TypeId → List SV → Prop
  | [],[] => True
  | t :: ts,A :: As => opens t A ∧ opensAll ts As
  | _,_ => False
section
variable {H : Type} {enc : TypeId × Value → H} {W : World}
theorem open_one {t : TypeId} {v : Value} {d : DataW H} {ps : List MemPlace} {b0 : Nat} (ht : t = 27 ∨ t = 42 ∨ t = 3 ∨ t = 9) (hok : Value.okWide Tryz.prog W .any b0 t v)
    (h : DataW.Trod enc Tryz.prog W 0 (fun _ => true) true t v d ps) : ∃ A,opens t A ∧ RepS (There W) W v A:=by
  rcases ht with rfl | rfl | rfl | rfl
  · obtain ⟨s,hr,hh⟩:=open_street hok h
    exact ⟨_,.inl ⟨rfl,s,rfl,hh⟩,hr⟩
  · obtain ⟨p,hr⟩:=open_place hok h
    exact ⟨_,.inr (.inl ⟨rfl,p,rfl⟩),hr⟩
  · obtain ⟨m,rfl,_,_,hm⟩:=open_int Tryz.underlying3 hok h
    simp [Lit.wf,IntKind.min,IntKind.max,IntKind.signed,IntKind.bits] at hm
    exact ⟨iS m,.inr (.inr (.inl ⟨rfl,m,rfl,by omega,by omega⟩)),RepS.of .int⟩
  · obtain ⟨x,rfl,_,_,hm⟩:=Go.ChangeMaps.open_string Tryz.underlying9 hok h
    refine ⟨.d (.str x.data.toList),.inr (.inr (.inr ⟨rfl,_,rfl,?_⟩)),RepS.of (.str rfl)⟩
    have : x.data.toList.length = x.size:=rfl
    omega
theorem open_all {b0 : Nat} : ∀ {ts : List TypeId} {vs : List Value} {ds : List (DataW H)} {ps : List MemPlace},(∀ t ∈ ts,t = 27 ∨ t = 42 ∨ t = 3 ∨ t = 9) →
    (∀ (j : Nat) t v,ts[j]? = some t → vs[j]? = some v → Value.okWide Tryz.prog W .any b0 t v) → DataW.TrodAll enc Tryz.prog W 0 (fun _ => true) true ts vs ds ps →
    ∃ As,opensAll ts As ∧ vs.length = As.length ∧ ∀ (j : Nat) u s,vs[j]? = some u → As[j]? = some s → RepS (There W) W u s
  | [],vs,ds,ps,_,_,h => by
    obtain ⟨rfl,rfl,rfl⟩:=trodAll_nil h
    exact ⟨[],trivial,rfl,fun j u s h1 _ => by simp at h1⟩
  | t :: ts,vs,ds,ps,hT,hv,h => by
    obtain ⟨v,vs',d,ds',p,q,rfl,rfl,rfl,h1,h2⟩:=trodAll_cons h
    obtain ⟨A,ha,hr⟩:=open_one (hT t (List.mem_cons.2 (.inl rfl))) (hv 0 t v rfl rfl) h1
    obtain ⟨As,hA,hl,hR⟩:=open_all (fun t ht => hT t (List.mem_cons.2 (.inr ht))) (fun j t v a b => hv (j + 1) t v (by simpa using a) (by simpa using b)) h2
    refine ⟨A :: As,⟨ha,hA⟩,by simp [hl],fun j u s a b => ?_⟩
    cases j with
    | zero =>
      simp at a b
      subst a; subst b
      exact hr
    | succ j => exact hR j u s (by simpa using a) (by simpa using b)
theorem read_of {t : TypeId} (ht : t = 27 ∨ t = 42 ∨ t = 3 ∨ t = 9) : Tryz.prog.readableRec t = true ∧ t < Tryz.prog.types.size:=by
  rcases ht with rfl | rfl | rfl | rfl <;> exact ⟨by kernel_rfl,of_decide_eq_true (by kernel_rfl)⟩
end
theorem opensAll_cons {t : TypeId} {ts : List TypeId} {As : List SV} (h : opensAll (t :: ts) As) : ∃ A Bs,As = A :: Bs ∧ opens t A ∧ opensAll ts Bs:=by
  cases As with
  | nil => exact h.elim
  | cons A Bs => exact ⟨A,Bs,rfl,h.1,h.2⟩
theorem opensAll_nil {As : List SV} (h : opensAll [] As) : As = []:=by
  cases As with
  | nil => rfl
  | cons A Bs => exact h.elim
theorem opens_street {A : SV} (h : opens 27 A) : ∃ s : Street,A = s.sv ∧ s.held:=by
  rcases h with h | h | h | h
  · exact h.2
  · exact absurd h.1 (by decide)
  · exact absurd h.1 (by decide)
  · exact absurd h.1 (by decide)
theorem opens_place {A : SV} (h : opens 42 A) : ∃ p : Go.Proofs.Sight.Place,A = p.sv:=by
  rcases h with h | h | h | h
  · exact absurd h.1 (by decide)
  · exact h.2
  · exact absurd h.1 (by decide)
  · exact absurd h.1 (by decide)
theorem opens_int {A : SV} (h : opens 3 A) : ∃ i : Int,A = iS i ∧ -9223372036854775808 ≤ i ∧ i ≤ 9223372036854775807:=by
  rcases h with h | h | h | h
  · exact absurd h.1 (by decide)
  · exact absurd h.1 (by decide)
  · exact h.2
  · exact absurd h.1 (by decide)
theorem law_stand {t : TypeId} {ts : List TypeId} (hts : ∀ t ∈ ts,t = 27 ∨ t = 42 ∨ t = 3 ∨ t = 9) (ht : t ∈ ts) : Tryz.prog.wantsStandIn t = false:=by
  rcases hts t ht with rfl | rfl | rfl | rfl <;> kernel_rfl
theorem law_ctr {H : Type} {enc : TypeId × Value → H} {os : Os} {f : FuncId} {fn : Func} {ts : List TypeId} (s : ChangeSpec) (hv : s.vars = []) (started : os.Started) (noInit : Tryz.prog.inits.idxOf? f = none) (hfn : Tryz.prog.funcs[f]? = some fn) (hres : fn.resultTypes = #[4])
    (hp : fn.params.toList = ts) (hts : ∀ t ∈ ts,t = 27 ∨ t = 42 ∨ t = 3 ∨ t = 9)
    (hs : ∀ ds : List (DataW H),ds.length = ts.length → s.fn H (ds ++ []) = { results:=[.lit (.bool true)],args:=ds })
    (witness : ∃ (w : World) (tape : Tape) (i : Input),w.os = os ∧ (w.forCall tape i).Shaped Tryz.prog ∧ i.vars = [] ∧ Input.okWide Tryz.prog (w.forCall tape i) .any w.heap.size f i ∧
      ((s.pre enc Tryz.prog fn [] false (w.forCall tape i).memory i.args ∧ laidMetH Tryz.prog laid5 (w.forCall tape i).memory) ∧ sizedMet enc Tryz.prog fn (OpenSpec.ofChange s) false (w.forCall tape i).memory i.args) ∧ ({} : Assume).holds Tryz.prog (lone (Frame.enter Tryz.prog f i.args .normal) [] (w.forCall tape i)))
    (contract : ∀ As,opensAll ts As → Ctr Tryz.prog f As (bS true)) :
    ReturnsInHanded {} Tryz.checked os f .any (fun w args => (s.pre enc Tryz.prog fn [] false w args ∧ laidMetH Tryz.prog laid5 w) ∧ sizedMet enc Tryz.prog fn (OpenSpec.ofChange s) false w args) (s.post enc Tryz.prog fn false true false false):=by
  subst hp
  refine law_ret s hv started noInit hfn hres (fun t ht => read_of (hts t ht)) hs witness ?_
  intro W base args ds ps hval hA hT
  obtain ⟨As,ho,hl,hR⟩:=open_all (b0:=base) hts (fun j t v a b => hval j t v (by simpa using a) (by simpa using b)) hA
  refine ((contract As ho).2 (There W) W args hT (fun b h => h) (by simpa using hl) (fun j u s a b => hR j u s (by simpa using a) b)).mono fun e W' ⟨v,he,hr,hb⟩ => ?_
  subst he
  have h0:=hr (fun _ => none)
  cases h0 with
  | d h0 =>
    cases h0
    exact ⟨rfl,hb⟩
end Go.Proofs.YtchnganlpgfdjaaGreatDoor
namespace Go.Proofs.YtchnganlpgfdjaaGreatDoor
open Go Go.RX Go.Proofs.Sight Go.RowKit Go.ChangeShapes Go.WideShapes Go.ChangeAt
set_option maxRecDepth 100000
theorem init_is : Tryz.prog.initOrder = String.ofList ("harness".toList ++ Char.ofNat 32 :: ("4e11b3a9e1b7f322c0875aff538975e56966d1b41feccace7074b138c2bd9333".toList ++ Char.ofNat 32 :: ("cut".toList ++ Char.ofNat 32 :: [.ofNat 97,.ofNat 116,.ofNat 32,.ofNat 109,.ofNat 97,.ofNat 104,.ofNat 108,.ofNat 115,.ofNat 116,.ofNat 105,.ofNat 99,.ofNat 107,.ofNat 47,.ofNat 109,.ofNat 97,.ofNat 104,.ofNat 108,.ofNat 115,.ofNat 116,.ofNat 105,.ofNat 99,.ofNat 107,.ofNat 108,.ofNat 97,
  .ofNat 119,.ofNat 48,.ofNat 50,.ofNat 46,.ofNat 83,.ofNat 105,.ofNat 103,.ofNat 104,.ofNat 116,.ofNat 72,.ofNat 97,.ofNat 110,.ofNat 103,.ofNat 115,.ofNat 32,.ofNat 109,.ofNat 97,.ofNat 104,.ofNat 108,.ofNat 115,.ofNat 116,.ofNat 105,.ofNat 99,.ofNat 107,
  .ofNat 47,.ofNat 109,.ofNat 97,.ofNat 104,.ofNat 108,.ofNat 115,.ofNat 116,.ofNat 105,.ofNat 99,.ofNat 107,.ofNat 108,.ofNat 97,.ofNat 119,.ofNat 48,.ofNat 50,.ofNat 46,.ofNat 83,.ofNat 105,.ofNat 103,.ofNat 104,.ofNat 116,.ofNat 69,.ofNat 108,.ofNat 115,
  .ofNat 101,.ofNat 119,.ofNat 104,.ofNat 101,.ofNat 114,.ofNat 101,.ofNat 32,.ofNat 109,.ofNat 97,.ofNat 104,.ofNat 108,.ofNat 115,.ofNat 116,.ofNat 105,.ofNat 99,.ofNat 107,.ofNat 47,.ofNat 109,.ofNat 97,.ofNat 104,.ofNat 108,.ofNat 115,.ofNat 116,.ofNat 105,
  .ofNat 99,.ofNat 107,.ofNat 108,.ofNat 97,.ofNat 119,.ofNat 48,.ofNat 50,.ofNat 46,.ofNat 83,.ofNat 105,.ofNat 103,.ofNat 104,.ofNat 116,.ofNat 77,.ofNat 111,.ofNat 114,.ofNat 101,.ofNat 32,.ofNat 109,.ofNat 97,.ofNat 104,.ofNat 108,.ofNat 115,.ofNat 116,
  .ofNat 105,.ofNat 99,.ofNat 107,.ofNat 47,.ofNat 109,.ofNat 97,.ofNat 104,.ofNat 108,.ofNat 115,.ofNat 116,.ofNat 105,.ofNat 99,.ofNat 107,.ofNat 108,.ofNat 97,.ofNat 119,.ofNat 48,.ofNat 50,.ofNat 46,.ofNat 83,.ofNat 105,.ofNat 103,.ofNat 104,.ofNat 116,
  .ofNat 84,.ofNat 117,.ofNat 114,.ofNat 110,.ofNat 101,.ofNat 100,.ofNat 32,.ofNat 109,.ofNat 97,.ofNat 104,.ofNat 108,.ofNat 115,.ofNat 116,.ofNat 105,.ofNat 99,.ofNat 107,.ofNat 47,.ofNat 109,.ofNat 97,.ofNat 104,.ofNat 108,.ofNat 115,.ofNat 116,.ofNat 105,
  .ofNat 99,.ofNat 107,.ofNat 108,.ofNat 97,.ofNat 119,.ofNat 48,.ofNat 50,.ofNat 46,.ofNat 83,.ofNat 105,.ofNat 103,.ofNat 104,.ofNat 116,.ofNat 83,.ofNat 101,.ofNat 101,.ofNat 110,.ofNat 115,.ofNat 32,.ofNat 109,.ofNat 97,.ofNat 104,.ofNat 108,.ofNat 115,
  .ofNat 116,.ofNat 105,.ofNat 99,.ofNat 107,.ofNat 47,.ofNat 109,.ofNat 97,.ofNat 104,.ofNat 108,.ofNat 115,.ofNat 116,.ofNat 105,.ofNat 99,.ofNat 107,.ofNat 108,.ofNat 97,.ofNat 119,.ofNat 48,.ofNat 50,.ofNat 46,.ofNat 83,.ofNat 105,.ofNat 103,.ofNat 104,
  .ofNat 116,.ofNat 80,.ofNat 114,.ofNat 105,.ofNat 110,.ofNat 116,.ofNat 115,.ofNat 32,.ofNat 109,.ofNat 97,.ofNat 104,.ofNat 108,.ofNat 115,.ofNat 116,.ofNat 105,.ofNat 99,.ofNat 107,.ofNat 47,.ofNat 109,.ofNat 97,.ofNat 104,.ofNat 108,.ofNat 115,.ofNat 116,
  .ofNat 105,.ofNat 99,.ofNat 107,.ofNat 108,.ofNat 97,.ofNat 119,.ofNat 48,.ofNat 50,.ofNat 46,.ofNat 83,.ofNat 105,.ofNat 103,.ofNat 104,.ofNat 116,.ofNat 82,.ofNat 101,.ofNat 97,.ofNat 100,.ofNat 115,.ofNat 32,.ofNat 109,.ofNat 97,.ofNat 104,.ofNat 108,
  .ofNat 115,.ofNat 116,.ofNat 105,.ofNat 99,.ofNat 107,.ofNat 47,.ofNat 109,.ofNat 97,.ofNat 104,.ofNat 108,.ofNat 115,.ofNat 116,.ofNat 105,.ofNat 99,.ofNat 107,.ofNat 108,.ofNat 97,.ofNat 119,.ofNat 48,.ofNat 50,.ofNat 46,.ofNat 83,.ofNat 105,.ofNat 103,
  .ofNat 104,.ofNat 116,.ofNat 83,.ofNat 112,.ofNat 111,.ofNat 105,.ofNat 108,.ofNat 116,.ofNat 32,.ofNat 109,.ofNat 97,.ofNat 104,.ofNat 108,.ofNat 115,.ofNat 116,.ofNat 105,.ofNat 99,.ofNat 107,.ofNat 47,.ofNat 109,.ofNat 97,.ofNat 104,.ofNat 108,.ofNat 115,
  .ofNat 116,.ofNat 105,.ofNat 99,.ofNat 107,.ofNat 108,.ofNat 97,.ofNat 119,.ofNat 48,.ofNat 50,.ofNat 46,.ofNat 83,.ofNat 105,.ofNat 103,.ofNat 104,.ofNat 116,.ofNat 66,.ofNat 111,.ofNat 116,.ofNat 104,.ofNat 115,.ofNat 32,.ofNat 109,.ofNat 97,.ofNat 104,
  .ofNat 108,.ofNat 115,.ofNat 116,.ofNat 105,.ofNat 99,.ofNat 107,.ofNat 47,.ofNat 109,.ofNat 97,.ofNat 104,.ofNat 108,.ofNat 115,.ofNat 116,.ofNat 105,.ofNat 99,.ofNat 107,.ofNat 108,.ofNat 97,.ofNat 119,.ofNat 48,.ofNat 50,.ofNat 46,.ofNat 83,.ofNat 105,
  .ofNat 103,.ofNat 104,.ofNat 116,.ofNat 83,.ofNat 104,.ofNat 97,.ofNat 114,.ofNat 101,.ofNat 100]))):=by kernel_rfl
theorem words_cons (c : Char) (r : List Char) (h : c ≠ Char.ofNat 32) : wordsSigns (c :: r) = match wordsSigns r with | w :: ws => (c :: w) :: ws | [] => [[c]]:=by
  rw [wordsSigns.eq_3 _ _ (by intro e; exact h e)]
  cases wordsSigns r <;> rfl
theorem words_of : ∀ (w r : List Char),(∀ c ∈ w,c ≠ Char.ofNat 32) → wordsSigns (w ++ Char.ofNat 32 :: r) = w :: wordsSigns r
  | [],r,_ => rfl
  | c :: w,r,h => by
    rw [List.cons_append,words_cons _ _ (h c (List.mem_cons.2 (.inl rfl))),words_of w r (fun c hc => h c (List.mem_cons.2 (.inr hc)))]
theorem words_is : ∃ ws,wordsSigns Tryz.prog.initOrder.toList = "harness".toList :: "4e11b3a9e1b7f322c0875aff538975e56966d1b41feccace7074b138c2bd9333".toList :: "cut".toList :: ws:=by
  rw [init_is,String.toList_ofList]
  exact ⟨_,by rw [words_of _ _ (by decide +kernel),words_of _ _ (by decide +kernel),words_of _ _ (by decide +kernel)]⟩
theorem behind_of (s : List Char) (ws : List (List Char)) (h : isSumSigns s = true) : behindMainWord ("harness".toList :: s :: ws) = ws:=by
  unfold behindMainWord
  simp only [h,beq_self_eq_true,Bool.true_or,Bool.and_self,if_true]
theorem sum_is : isSumSigns "4e11b3a9e1b7f322c0875aff538975e56966d1b41feccace7074b138c2bd9333".toList = true:=by decide +kernel
theorem behind_is : ∃ ws,behindMainWord (wordsSigns Tryz.prog.initOrder.toList) = "cut".toList :: ws:=by
  obtain ⟨ws,h⟩:=words_is
  exact ⟨ws,(congrArg behindMainWord h).trans (behind_of _ _ sum_is)⟩
theorem mainIs_of (P : Program) (s : List Char) (ws : List (List Char)) (h : wordsSigns P.initOrder.toList = "harness".toList :: s :: ws) (hs : isSumSigns s = true) : P.mainIs = some (true,s):=by
  unfold Program.mainIs
  rw [h]
  simp only [hs,beq_self_eq_true,if_true,Bool.not_true,if_false,Bool.false_eq_true]
theorem main_is : Tryz.prog.mainIs = some (true,"4e11b3a9e1b7f322c0875aff538975e56966d1b41feccace7074b138c2bd9333".toList):=by
  obtain ⟨ws,h⟩:=words_is
  exact mainIs_of _ _ _ h sum_is
theorem strip_cut (ws : List (List Char)) : stripLifts liftWords ("cut".toList :: ws) = ([],"cut".toList :: ws):=by
  have e : ∀ (l : List String),l.all (fun o => !("cut".toList == o.toList)) = true → stripLifts l ("cut".toList :: ws) = ([],"cut".toList :: ws)
    := fun l => by
      induction l with
      | nil => intro _; rfl
      | cons o os ih =>
        intro h
        rw [List.all_cons,Bool.and_eq_true] at h
        rw [stripLifts,if_neg (by simpa using h.1)]
        exact ih h.2
  exact e _ (by decide +kernel)
theorem lifts_of (P : Program) (ws : List (List Char)) (h : behindMainWord (wordsSigns P.initOrder.toList) = "cut".toList :: ws) : P.headLifts = []:=by
  unfold Program.headLifts
  rw [h,strip_cut]
  simp
theorem later_is : Tryz.prog.laysLater = false:=by kernel_rfl
theorem reflect_is : Tryz.prog.bearsReflect = false:=by kernel_rfl
theorem door_is : Tryz.prog.doorFits [] = true:=by kernel_rfl
theorem ne_gc : ("cut".toList == "gc".toList) = false:=by decide +kernel
theorem ne_spec : ("cut".toList == "spec".toList) = false:=by decide +kernel
theorem ne_carried : ("cut".toList == "carried".toList) = false:=by decide +kernel
theorem enter_of (P : Program) (ws : List (List Char)) (h : behindMainWord (wordsSigns P.initOrder.toList) = "cut".toList :: ws) (h1 : P.laysLater = false) (h2 : P.bearsReflect = false) (h3 : P.doorFits [] = true) : P.mayEnter = true:=by
  unfold Program.mayEnter
  rw [h]
  simp only [strip_cut,h1,h2,h3,ne_gc,ne_spec,ne_carried,List.head?_cons,beq_self_eq_true,Bool.not_false,Bool.or_true,Bool.and_self,List.contains_nil,Bool.or_self,Bool.false_and,Bool.false_or]
theorem final_of (P : Program) (ws : List (List Char)) (h : behindMainWord (wordsSigns P.initOrder.toList) = "cut".toList :: ws) : P.liftsFinal = false:=by
  unfold Program.liftsFinal
  have e : ((some "cut".toList : Option (List Char)) == some "carried".toList) = false:=by decide +kernel
  simp only [h,lifts_of P ws h,List.head?_cons,e,Bool.false_and,Bool.false_or,List.contains_nil]
theorem make_of (P : Program) (ws : List (List Char)) (h : behindMainWord (wordsSigns P.initOrder.toList) = "cut".toList :: ws) : P.make = some .cut:=by
  unfold Program.make
  rw [h]
  simp only [ne_gc,ne_spec,beq_self_eq_true,Bool.or_self,Bool.true_or,Bool.false_eq_true,if_false,if_true]
theorem enter_is : Tryz.prog.mayEnter = true:=by
  obtain ⟨ws,h⟩:=behind_is
  exact enter_of _ ws h later_is reflect_is door_is
theorem final_is : Tryz.prog.liftsFinal = false:=by
  obtain ⟨ws,h⟩:=behind_is
  exact final_of _ ws h
theorem make_is : Tryz.prog.make = some .cut:=by
  obtain ⟨ws,h⟩:=behind_is
  exact make_of _ ws h
end Go.Proofs.YtchnganlpgfdjaaGreatDoor
namespace Go.Proofs.YtchnganlpgfdjaaGreatDoor
open Go Go.RX Go.Proofs.Sight Go.RowKit Go.ChangeShapes Go.WideShapes Go.ChangeAt
set_option maxRecDepth 100000
theorem seens_ctr (As : List SV) (h : opensAll [27,3,42] As) : Ctr Tryz.prog 7 As (bS true):=by
  obtain ⟨_,A1,rfl,h0,h⟩:=opensAll_cons h
  obtain ⟨_,A2,rfl,h1,h⟩:=opensAll_cons h
  obtain ⟨_,A3,rfl,h2,h⟩:=opensAll_cons h
  obtain rfl:=opensAll_nil h
  obtain ⟨x0,rfl,y0⟩:=opens_street h0
  obtain ⟨x1,rfl,y1,z1⟩:=opens_int h1
  obtain ⟨x2,rfl⟩:=opens_place h2
  exact c17 x0 y0 x1 x2
theorem seens_facts : joinedFacts Tryz.prog 7 Tryz.f7 Rows.sightSeensSpec Rows.sightSeensRow = true:=by unfold joinedFacts; rw [enter_is,final_is,make_is]; kernel_rfl
theorem seens_lifted (os : Os) (started : os.Started) (H : Type) (enc : TypeId × Value → H) :
    ReturnsInHanded {} Tryz.checked os 7 .any (fun w args => (Rows.sightSeensSpec.pre enc Tryz.prog Tryz.f7 [] false w args ∧ laidMetH Tryz.prog laid5 w) ∧ sizedMet enc Tryz.prog Tryz.f7 (OpenSpec.ofChange Rows.sightSeensSpec) false w args)
      (Rows.sightSeensSpec.post enc Tryz.prog Tryz.f7 false true false false):=by
  refine law_ctr (ts:=[27,3,42]) Rows.sightSeensSpec rfl started (by kernel_rfl) Tryz.func7 (by kernel_rfl) (by rw [Tryz.params7]) (by decide)
    (fun ds hd => ?_)
    (ChangeSpec.witness_shaped (enc:=enc) (C:=Tryz.checked) (os:=os) (X:=fun w _ => laidMetH Tryz.prog laid5 w) false (World.laidAll Tryz.prog os laid5) #[zS,zI,zP] 8 (World.laidAll_os _ _ _)
      (World.shaped_of_ZipB (by kernel_rfl) (by kernel_rfl)) (by kernel_rfl) (by kernel_rfl) (by kernel_rfl)
      (by rw [MakeChecks.laidMetH_plain _ _ _ (by kernel_rfl)]; exact laidMet_laidAll _ (by kernel_rfl) (by kernel_rfl))) seens_ctr
  match ds,hd with
  | [d0,d1,d2],_ => rfl
theorem seens_row : Rows.SightSeensSaid :=
  OpenClaim.holds_of_wide 7 Tryz.f7 rfl rfl rfl rfl rfl rfl rfl ⟨rfl,rfl,rfl,rfl,rfl⟩ rfl rfl rfl rfl rfl (by kernel_rfl) Tryz.func7 seens_facts (of_decide_eq_true (by kernel_rfl))
    (by unfold Func.isWrapper; first | (rw [if_pos (by decide +kernel)]; kernel_rfl) | (rw [if_neg (by decide +kernel)]; exact ⟨rfl,rfl⟩)) (fun os started H enc _ => seens_lifted os started H enc)
theorem seens_card : Rows.SightSeensCardSaid :=
  Claim7.holds_tied_plain_at .later [] [.data,.data,.data,.data,.pinned] true (true,"4e11b3a9e1b7f322c0875aff538975e56966d1b41feccace7074b138c2bd9333") true seens_row
    (fun _ h => by cases h) (by kernel_rfl) (fun _ h => by cases h) sightSeens_row_tie rfl ⟨rfl,rfl⟩ main_is rfl
    (fun f fn hf hfn => by
      obtain rfl : f = 7:=Option.some.inj ((show Tryz.prog.funcNamed "mahlstick/mahlsticklaw02.SightSeens" = some 7 by kernel_rfl).symm.trans hf) |>.symm
      obtain rfl : fn = Tryz.f7:=(Option.some.inj (Tryz.func7.symm.trans hfn)).symm
      exact ⟨by kernel_rfl,fun j t ht => by
        rw [Tryz.params7] at ht
        exact law_stand (ts:=[27,3,42]) (by decide) (by simpa using Array.mem_of_getElem? ht)⟩) (by kernel_rfl)
#print axioms seens_card
end Go.Proofs.YtchnganlpgfdjaaGreatDoor
