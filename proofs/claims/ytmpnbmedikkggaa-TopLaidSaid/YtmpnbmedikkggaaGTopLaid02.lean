/-
  The theorem of one gilder: TopLaid returns true at every input, and leaves it as it was.
  No condition beside those that the statement itself names.
-/
import Derived.Test.YtmpnbmedikkggaaGTopLaid01
import Derived.ChangeMaps5
import Derived.Laws.StructEq
import Derived.WalkKit
set_option linter.all false
namespace Go.Proofs.Ytmpnbmedikkggaa
open Go Go.RX Go.Proofs.Leaf Go.RowKit Go.ChangeShapes Go.WideShapes Go.ChangeAt
set_option maxRecDepth 100000
section
variable {H : Type} {enc : TypeId × Value → H} {W : World}
end
theorem opensAll_cons {t:TypeId} {ts:List TypeId} {As:List SV} (h:opensAll (t :: ts) As):∃ A Bs,As = A :: Bs/\opens t A/\opensAll ts Bs:=by
 cases As with
 | nil => exact h.elim
 | cons A Bs => exact ⟨A,Bs,rfl,h.1,h.2⟩
theorem opensAll_nil {As:List SV} (h:opensAll [] As):As = []:=by
 cases As with
 | nil => rfl
 | cons A Bs => exact h.elim
end Go.Proofs.Ytmpnbmedikkggaa
namespace Go.Proofs.Leaf
open Go Go.RX Go.Proofs
set_option maxRecDepth 10000
variable [Glob]
theorem rises_mem:∀ {n fr:Nat} {L:List Nat},rises n fr L->∀ x∈L,fr<=x/\x < n
 | _,_,[],_,x,hx => by cases hx
 | n,fr,y :: L,⟨h1,h2,h3⟩,x,hx => by
  rcases List.mem_cons.1 hx with rfl | hx
  ·exact ⟨h1,h2⟩
  ·have:=rises_mem h3 x hx;omega
theorem rises_pw:∀ {n fr:Nat} {L:List Nat},rises n fr L->L.Pairwise (· < ·)
 | _,_,[],_ => List.Pairwise.nil
 | n,fr,y :: L,⟨_,_,h3⟩ => List.pairwise_cons.2 ⟨fun x hx => by have:=rises_mem h3 x hx;omega,rises_pw h3⟩
theorem rises_of:∀ {n fr:Nat} {L:List Nat},L.Pairwise (· < ·)->(∀ x∈L,fr<=x/\x < n)->rises n fr L
 | _,_,[],_,_ => trivial
 | n,fr,y :: L,hp,hm => by
  obtain ⟨h1,h2⟩:=List.pairwise_cons.1 hp
  have hy:=hm y (List.mem_cons_self ..)
  exact ⟨hy.1,hy.2,rises_of h2 (fun x hx => ⟨by have:=h1 x hx;omega,(hm x (List.mem_cons_of_mem _ hx)).2⟩)⟩
end Go.Proofs.Leaf
namespace Go.Proofs.Leaf
open Go Go.RX Go.Proofs
set_option maxRecDepth 10000
variable [Glob]
abbrev optR (o:Option (List Int)):SV:=.tup [ilS (o.getD []),bS o.isSome]
theorem findSome_at {α β:Type} [Inhabited α] {f:α->Option β} {l:List α} {i:Nat} {y:β} (hi:i < l.length) (h0:∀ j,j < i->f (l.getD j default) = none) (h1:f (l.getD i default) = some y):l.findSome? f = some y:=by
 induction l generalizing i with
 | nil => simp at hi
 | cons a l ih =>
  rw [List.findSome?_cons]
  cases i with
  | zero => simp only [List.getD_cons_zero] at h1;rw [h1]
  | succ i =>
   have:=h0 0 (by omega)
   simp only [List.getD_cons_zero] at this
   rw [this]
   exact ih (by simpa using hi) (fun j hj => by simpa using h0 (j + 1) (by omega)) (by simpa using h1)
end Go.Proofs.Leaf
namespace Go.Proofs.Leaf
open Go Go.RX Go.Proofs
set_option maxRecDepth 10000
variable [Glob]
def Job.timed (J:Job):Prop:=∀ p∈J.ps,∀ may,0<=(spanOf J.gs may p).1/\(spanOf J.gs may p).2<=12
theorem Job.ok.timed {J:Job} (h:J.ok):J.timed:=fun p hp may => by
 have:=h.span may (spanOf J.gs may p) (List.mem_map.2 ⟨p,hp,rfl⟩)
 omega
end Go.Proofs.Leaf
namespace Go.Proofs.Leaf
open Go Go.RX Go.Proofs
set_option maxRecDepth 10000
variable [Glob]
def laysW (J:Job):Int:=if (planOf J false).isSome = true then 3 else if (planOf J true).isSome = true then 2 else 1
theorem span_at (J:Job) (may:Bool) {i:Nat} (h:i < J.ps.length):(spans J may).getD i default = J.span may i:=by
 rw [spans_at J may h];rfl
def fewB (sp:List (Int×Int)) (x:Int×Int):Bool:=decide (x.2 - x.1 + 1 < (boundL sp x.1 x.2).length)
theorem find_at {α:Type} [Inhabited α] {f:α->Bool} {l:List α} {i:Nat} (hi:i < l.length) (h0:∀ j,j < i->f (l.getD j default) = false) (h1:f (l.getD i default) = true):l.find? f = some (l.getD i default):=by
 induction l generalizing i with
 | nil => simp at hi
 | cons a l ih =>
  rw [List.find?_cons]
  cases i with
  | zero => simp only [List.getD_cons_zero] at h1 ⊢;rw [h1]
  | succ i =>
   have:=h0 0 (by omega)
   simp only [List.getD_cons_zero] at this
   rw [this]
   simp only [List.getD_cons_succ] at h1 ⊢
   exact ih (by simpa using hi) (fun j hj => by simpa using h0 (j + 1) (by omega)) h1
theorem find_no {α:Type} [Inhabited α] {f:α->Bool} {l:List α} (h0:∀ j,j < l.length->f (l.getD j default) = false):l.find? f = none:=by
 rw [List.find?_eq_none]
 intro x hx
 obtain ⟨i,hi,rfl⟩:=List.mem_iff_getElem.1 hx
 have:=h0 i hi
 rw [getD_lt hi] at this
 rw [this];simp
theorem proofL_yes {sp:List (Int×Int)} {m l:Nat} (hm:m < 13) (hl:l < 13 - m) (h0:∀ m' l':Nat,m' < m->l' < 13 - m'->fewB sp (l',(l':Int) + m') = false) (h1:∀ l':Nat,l' < l->fewB sp (l',(l':Int) + m) = false) (h2:fewB sp (l,(l:Int) + m) = true):proofL sp = some ((l:Int),(l:Int) + m):=by
 unfold proofL spansL
 rw [List.find?_flatMap]
 have hin:∀ m':Nat,((List.range (13 - m')).map (fun (l:Nat) => ((l:Int),(l:Int) + m'))).find? (fun (x:Int×Int) => decide (x.2 - x.1 + 1 < (boundL sp x.1 x.2).length)) = ((List.range (13 - m')).find? (fun l:Nat => fewB sp (l,(l:Int) + m'))).map (fun (l:Nat) => ((l:Int),(l:Int) + m')):=fun m' => by
  rw [List.find?_map];rfl
 refine findSome_at (i:=m) (by simpa using hm) (fun j hj => ?_) ?_
 ·have hjr:(List.range 13).getD j default = j:=by simp [List.getD_eq_getElem?_getD,show j < 13 by omega]
  rw [hjr,hin,Option.map_eq_none_iff]
  refine find_no (fun i hi => ?_)
  rw [List.length_range] at hi
  have:(List.range (13 - j)).getD i default = i:=by simp [List.getD_eq_getElem?_getD,hi]
  rw [this]
  exact h0 j i hj hi
 ·have hmr:(List.range 13).getD m default = m:=by simp [List.getD_eq_getElem?_getD,hm]
  rw [hmr,hin]
  have hr:∀ i,i < 13 - m->(List.range (13 - m)).getD i default = i:=fun i hi => by simp [List.getD_eq_getElem?_getD,hi]
  rw [find_at (i:=l) (by simpa using hl) (fun j hj => by rw [hr j (by omega)];exact h1 j hj) (by rw [hr l hl];exact h2),hr l hl]
  rfl
theorem proofL_no {sp:List (Int×Int)} (h0:∀ m l:Nat,m < 13->l < 13 - m->fewB sp (l,(l:Int) + m) = false):proofL sp = none:=by
 unfold proofL
 rw [List.find?_eq_none]
 intro x hx
 have:=mem_spansL.1 hx
 have h:=h0 (x.2 - x.1).toNat x.1.toNat (by omega) (by omega)
 have e:(((x.1.toNat:Nat):Int),((x.1.toNat:Nat):Int) + ((x.2 - x.1).toNat:Nat)) = x:=by
  apply Prod.ext<;>dsimp only<;>omega
 rw [e] at h
 unfold fewB at h
 rw [h];simp
end Go.Proofs.Leaf
namespace Go.Proofs.Leaf
open Go Go.RX Go.Proofs Go.RowKit
attribute [local go_sem] Oper.semAt_some
set_option maxRecDepth 100000
theorem eqVs_cons {u v:Value} {us vs:List Value} {b:Bool} (h:eqVs (u :: us) (v :: vs) = some b):(∃ k x y c,u = .int k x/\v = .int k y/\eqVs us vs = some c/\b = ((x == y) && c))∨(∃ x y c,u = .bool x/\v = .bool y/\eqVs us vs = some c/\b = ((x == y) && c)):=by
 unfold eqVs at h
 split at h
 ·rename_i e1 e2;cases e1
 ·rename_i e1 e2;cases e1;cases e2
  split at h
  ·rename_i hk
   subst hk
   split at h
   ·rename_i c hc
    simp only [Option.some.injEq] at h
    exact .inl ⟨_,_,_,_,rfl,rfl,hc,h.symm⟩
   ·cases h
  ·cases h
 ·rename_i e1 e2;cases e1;cases e2
  split at h
  ·rename_i c hc
   simp only [Option.some.injEq] at h
   exact .inr ⟨_,_,_,rfl,rfl,hc,h.symm⟩
  ·cases h
 ·cases h
theorem eqVs_nil {vs:List Value} {b:Bool} (h:eqVs [] vs = some b):vs = []/\b = true:=by
 cases vs with
 | nil => simp [eqVs] at h;exact ⟨rfl,by simp [h]⟩
 | cons v vs => simp [eqVs] at h
theorem eqVs_c {u:Value} {us vs:List Value} {b:Bool} (h:eqVs (u :: us) vs = some b):∃ v vs',vs = v :: vs':=by
 cases vs with
 | nil => cases u<;>simp [eqVs] at h
 | cons v vs => exact ⟨_,_,rfl⟩
theorem eqVs_int {u:Value} {us vs:List Value} {ks:List Bool} {b:Bool} (h:(u :: us).map isB = false :: ks) (he:eqVs (u :: us) vs = some b):∃ k x y vs' c,u = .int k x/\vs = .int k y :: vs'/\us.map isB = ks/\eqVs us vs' = some c/\b = ((x == y) && c):=by
 obtain ⟨v,vs',rfl⟩:=eqVs_c he
 simp only [List.map_cons,List.cons.injEq] at h
 rcases eqVs_cons he with ⟨k,x,y,c,rfl,rfl,h3,h4⟩ | ⟨x,y,c,rfl,rfl,h3,h4⟩
 ·exact ⟨k,x,y,vs',c,rfl,rfl,h.2,h3,h4⟩
 ·simp [isB] at h
theorem two_ints {us vs:Array Value} {b:Bool} (h:us.toList.map isB = [false,false]) (he:eqVs us.toList vs.toList = some b) :
  ∃ k l x y x' y',us = #[.int k x,.int l y]/\vs = #[.int k x',.int l y']/\b = ((x == x') && (y == y')):=by
 obtain ⟨us⟩:=us
 obtain ⟨vs⟩:=vs
 simp only at h he
 have hl:us.length = 2:=by simpa using congrArg List.length h
 match us,hl,h,he with
 | [u0,u1],_,h,he =>
  obtain ⟨k,x,x',vs1,c1,rfl,rfl,h1,he1,rfl⟩:=eqVs_int h he
  obtain ⟨l,y,y',vs2,c2,rfl,rfl,h2,he2,rfl⟩:=eqVs_int h1 he1
  obtain ⟨rfl,rfl⟩:=eqVs_nil he2
  exact ⟨k,l,x,y,x',y',rfl,rfl,by simp⟩
theorem stEqSpan:StEq Try.prog 24 [false,false]:=by
 intro us vs w b x y h he
 obtain ⟨k,l,a,c,a',c',rfl,rfl,rfl⟩:=two_ints h he
 have u3:=Try.underlying3
 have a3:=Try.isAgg3
 have z3:=Try.sizeOf3
 have hS:Try.prog.underlying 24 = some (.struct (Try.prog.fieldsOf 24)):=by kernel_rfl
 have hp:Try.prog.stoodInHeld 24 = false:=by kernel_rfl
 have hg:Try.prog.eqGuardType Try.prog.depth 24 = false:=by kernel_rfl
 have heq:(Op.equalIn 10000 24 (.agg #[.int k a,.int l c]) (.agg #[.int k a',.int l c'])).run Try.prog w = .ok ((a == a') && (c == c')) w:=by
  rw [show (10000:Nat) = 9999 + 1 from rfl,run_equalIn_agg w 9999 24 _ _ hS hp]
  simp only [Program.fieldsOf,Try.underlying24]
  go_simp
  by_cases h1:a = a'<;>by_cases h2:c = c'<;>simp [h1,h2]
 refine ⟨?_,?_⟩
 ·simp only [Sem.run_bind,run_eqGuard_agg w _ _ _ _ _ _ hg,Result.andThen_ok,run_eql_struct,heq]
 ·simp only [Sem.run_bind,run_eqGuard_agg w _ _ _ _ _ _ hg,Result.andThen_ok,run_neq_struct,heq]
end Go.Proofs.Leaf
