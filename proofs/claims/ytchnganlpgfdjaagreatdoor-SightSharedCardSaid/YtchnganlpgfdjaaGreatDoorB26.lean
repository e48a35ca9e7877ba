/-
  The program's functions,contracts: what each one returns,whatever the world: part 27. No condition.
-/
import Derived.Test.YtchnganlpgfdjaaGreatDoorB00
import Derived.Test.YtchnganlpgfdjaaGreatDoorB01
import Derived.Test.YtchnganlpgfdjaaGreatDoorB02
import Derived.Test.YtchnganlpgfdjaaGreatDoorB03
import Derived.Test.YtchnganlpgfdjaaGreatDoorB04
import Derived.Test.YtchnganlpgfdjaaGreatDoorB05
import Derived.Test.YtchnganlpgfdjaaGreatDoorB06
import Derived.Test.YtchnganlpgfdjaaGreatDoorB07
import Derived.Test.YtchnganlpgfdjaaGreatDoorB08
import Derived.Test.YtchnganlpgfdjaaGreatDoorB09
import Derived.Test.YtchnganlpgfdjaaGreatDoorB10
import Derived.Test.YtchnganlpgfdjaaGreatDoorB11
import Derived.Test.YtchnganlpgfdjaaGreatDoorB12
import Derived.Test.YtchnganlpgfdjaaGreatDoorB13
import Derived.Test.YtchnganlpgfdjaaGreatDoorB14
import Derived.Test.YtchnganlpgfdjaaGreatDoorB15
import Derived.Test.YtchnganlpgfdjaaGreatDoorB16
import Derived.Test.YtchnganlpgfdjaaGreatDoorB17
import Derived.Test.YtchnganlpgfdjaaGreatDoorB18
import Derived.Test.YtchnganlpgfdjaaGreatDoorB19
import Derived.Test.YtchnganlpgfdjaaGreatDoorB20
import Derived.Test.YtchnganlpgfdjaaGreatDoorB21
import Derived.Test.YtchnganlpgfdjaaGreatDoorB22
import Derived.Test.YtchnganlpgfdjaaGreatDoorB23
import Derived.Test.YtchnganlpgfdjaaGreatDoorB24
import Derived.Test.YtchnganlpgfdjaaGreatDoorB25
import Derived.Laws.StructEq
set_option linter.all false
set_option linter.unusedVariables false
set_option linter.unusedSectionVars false
set_option linter.unusedSimpArgs false
set_option linter.unnecessarySimpa false
namespace Go.Proofs.Sight
open Go Go.RX Go.Proofs Go.RowKit
attribute [local go_sem] Oper.semAt_some
set_option maxRecDepth 100000
theorem eqVs_cons {u v : Value} {us vs : List Value} {b : Bool} (h : eqVs (u :: us) (v :: vs) = some b) : (∃ k x y c,u = .int k x ∧ v = .int k y ∧ eqVs us vs = some c ∧ b = ((x == y) && c)) ∨ (∃ x y c,u = .bool x ∧ v = .bool y ∧ eqVs us vs = some c ∧ b = ((x == y) && c)):=by
  unfold eqVs at h
  split at h
  · rename_i e1 e2; cases e1
  · rename_i e1 e2; cases e1; cases e2
    split at h
    · rename_i hk
      subst hk
      split at h
      · rename_i c hc
        simp only [Option.some.injEq] at h
        exact .inl ⟨_,_,_,_,rfl,rfl,hc,h.symm⟩
      · cases h
    · cases h
  · rename_i e1 e2; cases e1; cases e2
    split at h
    · rename_i c hc
      simp only [Option.some.injEq] at h
      exact .inr ⟨_,_,_,rfl,rfl,hc,h.symm⟩
    · cases h
  · cases h
theorem eqVs_nil {vs : List Value} {b : Bool} (h : eqVs [] vs = some b) : vs = [] ∧ b = true:=by
  cases vs with
  | nil => simp [eqVs] at h; exact ⟨rfl,by simp [h]⟩
  | cons v vs => simp [eqVs] at h
theorem eqVs_c {u : Value} {us vs : List Value} {b : Bool} (h : eqVs (u :: us) vs = some b) : ∃ v vs',vs = v :: vs':=by
  cases vs with
  | nil => cases u <;> simp [eqVs] at h
  | cons v vs => exact ⟨_,_,rfl⟩
theorem eqVs_int {u : Value} {us vs : List Value} {ks : List Bool} {b : Bool} (h : (u :: us).map isB = false :: ks) (he : eqVs (u :: us) vs = some b) : ∃ k x y vs' c,u = .int k x ∧ vs = .int k y :: vs' ∧ us.map isB = ks ∧ eqVs us vs' = some c ∧ b = ((x == y) && c):=by
  obtain ⟨v,vs',rfl⟩:=eqVs_c he
  simp only [List.map_cons,List.cons.injEq] at h
  rcases eqVs_cons he with ⟨k,x,y,c,rfl,rfl,h3,h4⟩ | ⟨x,y,c,rfl,rfl,h3,h4⟩
  · exact ⟨k,x,y,vs',c,rfl,rfl,h.2,h3,h4⟩
  · simp [isB] at h
theorem eqVs_bool {u : Value} {us vs : List Value} {ks : List Bool} {b : Bool} (h : (u :: us).map isB = true :: ks) (he : eqVs (u :: us) vs = some b) : ∃ x y vs' c,u = .bool x ∧ vs = .bool y :: vs' ∧ us.map isB = ks ∧ eqVs us vs' = some c ∧ b = ((x == y) && c):=by
  obtain ⟨v,vs',rfl⟩:=eqVs_c he
  simp only [List.map_cons,List.cons.injEq] at h
  rcases eqVs_cons he with ⟨k,x,y,c,rfl,rfl,h3,h4⟩ | ⟨x,y,c,rfl,rfl,h3,h4⟩
  · simp [isB] at h
  · exact ⟨x,y,vs',c,rfl,rfl,h.2,h3,h4⟩
theorem two_ints {us vs : Array Value} {b : Bool} (h : us.toList.map isB = [false,false]) (he : eqVs us.toList vs.toList = some b) :
    ∃ k l x y x' y',us = #[.int k x,.int l y] ∧ vs = #[.int k x',.int l y'] ∧ b = ((x == x') && (y == y')):=by
  obtain ⟨us⟩:=us
  obtain ⟨vs⟩:=vs
  simp only at h he
  have hl : us.length = 2:=by simpa using congrArg List.length h
  match us,hl,h,he with
  | [u0,u1],_,h,he =>
    obtain ⟨k,x,x',vs1,c1,rfl,rfl,h1,he1,rfl⟩:=eqVs_int h he
    obtain ⟨l,y,y',vs2,c2,rfl,rfl,h2,he2,rfl⟩:=eqVs_int h1 he1
    obtain ⟨rfl,rfl⟩:=eqVs_nil he2
    exact ⟨k,l,x,y,x',y',rfl,rfl,by simp⟩
theorem stEq42 : StEq Tryz.prog 58 [false,false]:=by
  intro us vs w b x y h he
  obtain ⟨k,l,a,c,a',c',rfl,rfl,rfl⟩:=two_ints h he
  have u3:=Tryz.underlying3
  have a3:=Tryz.isAgg3
  have z3:=Tryz.sizeOf3
  have hS : Tryz.prog.underlying 58 = some (.struct (Tryz.prog.fieldsOf 58)):=by kernel_rfl
  have hp : Tryz.prog.stoodInHeld 58 = false:=by kernel_rfl
  have hg : Tryz.prog.eqGuardType Tryz.prog.depth 58 = false:=by kernel_rfl
  have heq : (Op.equalIn 10000 58 (.agg #[.int k a,.int l c]) (.agg #[.int k a',.int l c'])).run Tryz.prog w = .ok ((a == a') && (c == c')) w:=by
    rw [show (10000 : Nat) = 9999 + 1 from rfl,run_equalIn_agg w 9999 58 _ _ hS hp]
    simp only [Program.fieldsOf,Tryz.underlying58]
    go_simp
    by_cases h1 : a = a' <;> by_cases h2 : c = c' <;> simp [h1,h2]
  refine ⟨?_,?_⟩
  · simp only [Sem.run_bind,run_eqGuard_agg w _ _ _ _ _ _ hg,Result.andThen_ok,run_eql_struct,heq]
  · simp only [Sem.run_bind,run_eqGuard_agg w _ _ _ _ _ _ hg,Result.andThen_ok,run_neq_struct,heq]
theorem stEq29 : StEq Tryz.prog 42 [false,false]:=by
  intro us vs w b x y h he
  obtain ⟨k,l,a,c,a',c',rfl,rfl,rfl⟩:=two_ints h he
  have u3:=Tryz.underlying3
  have a3:=Tryz.isAgg3
  have z3:=Tryz.sizeOf3
  have hS : Tryz.prog.underlying 42 = some (.struct (Tryz.prog.fieldsOf 42)):=by kernel_rfl
  have hp : Tryz.prog.stoodInHeld 42 = false:=by kernel_rfl
  have hg : Tryz.prog.eqGuardType Tryz.prog.depth 42 = false:=by kernel_rfl
  have heq : (Op.equalIn 10000 42 (.agg #[.int k a,.int l c]) (.agg #[.int k a',.int l c'])).run Tryz.prog w = .ok ((a == a') && (c == c')) w:=by
    rw [show (10000 : Nat) = 9999 + 1 from rfl,run_equalIn_agg w 9999 42 _ _ hS hp]
    simp only [Program.fieldsOf,Tryz.underlying42]
    go_simp
    by_cases h1 : a = a' <;> by_cases h2 : c = c' <;> simp [h1,h2]
  refine ⟨?_,?_⟩
  · simp only [Sem.run_bind,run_eqGuard_agg w _ _ _ _ _ _ hg,Result.andThen_ok,run_eql_struct,heq]
  · simp only [Sem.run_bind,run_eqGuard_agg w _ _ _ _ _ _ hg,Result.andThen_ok,run_neq_struct,heq]
end Go.Proofs.Sight
namespace Go.Proofs.Sight
open Go Go.RX Go.Proofs
set_option maxRecDepth 10000
theorem fit_S : exS.fit:=⟨by decide,by decide,by decide⟩
theorem fit_T : exT.fit:=⟨by decide,by decide,by decide⟩
theorem k25 : Ctr Tryz.prog 23 [exS.sv,iS 0,(Place.mk 4 6).sv] (.tup [iS 2,iS 0]):=by
  have h:=c25 exS fit_S 0 ⟨4,6⟩
  rwa [show seenW exS 0 ⟨4,6⟩ = 2 by decide +kernel,show errA (lookOk exS 0 ⟨4,6⟩) = 0 by decide +kernel] at h
theorem k29 : Ctr Tryz.prog 27 [exS.sv,iS 0,(Place.mk 4 1).sv] (.tup [.agg [iS 3,iS 0],iS 0]):=by
  have h:=c29 exS fit_S 0 ⟨4,1⟩
  rwa [show whyK exS 0 ⟨4,1⟩ = 3 by decide +kernel,show whyI exS 0 ⟨4,1⟩ = 0 by decide +kernel,show whyE exS 0 ⟨4,1⟩ = 0 by decide +kernel] at h
theorem k34 : Ctr Tryz.prog 42 [exS.sv,iS 0,(Place.mk 4 6).sv] (.tup [.d (slD 1 intD [2,2]),iS 0]):=by
  have h:=c34 exS fit_S 0 ⟨4,6⟩
  rwa [show lettersW exS 0 ⟨4,6⟩ = [2,2] by decide +kernel,show errA (lookOk exS 0 ⟨4,6⟩) = 0 by decide +kernel] at h
theorem k35 : Ctr Tryz.prog 43 [exS.sv,iS 0,(Place.mk 20 1).sv] (.tup [.d (slD 1 intD [3]),iS 0]):=by
  have h:=c35 exS fit_S 0 ⟨20,1⟩
  rwa [show meltsW exS 0 ⟨20,1⟩ = [3] by decide +kernel,show errA (lookOk exS 0 ⟨20,1⟩) = 0 by decide +kernel] at h
theorem k36 : Ctr Tryz.prog 28 [exS.sv,iS 0,(Place.mk 16 6).sv] (.tup [.d (slD 1 natD [0]),iS 0]):=by
  have h:=c36 exS fit_S 0 ⟨16,6⟩
  rwa [show hiddenW exS 0 ⟨16,6⟩ = [0] by decide +kernel,show errA (lookOk exS 0 ⟨16,6⟩) = 0 by decide +kernel] at h
theorem k42 : Ctr Tryz.prog 20 [exT.sv,iS 0] (.tup [iS 3,iS 3,iS 0]):=by
  have h:=c42 exT fit_T 0
  rwa [show manyS exT 0 = 3 by decide +kernel,show manyM exT 0 = 3 by decide +kernel,show errA (boardOk exT 0) = 0 by decide +kernel] at h
theorem k43 : Ctr Tryz.prog 45 [exT.sv,iS 0] (.tup [.agg [iS 0,iS 2],iS 0]):=by
  have h:=c43 exT fit_T 0
  rwa [show farthestP exT 0 = ⟨0,2⟩ by decide +kernel,show farthestE exT 0 = 0 by decide +kernel] at h
theorem k49 : Ctr Tryz.prog 46 [exS.sv,iS 0,(Place.mk 4 1).sv] (.tup [iS 5,iS 0]):=by
  have h:=c49 exS fit_S 0 ⟨4,1⟩
  rwa [show leastW exS 0 ⟨4,1⟩ = 5 by decide +kernel,show leastE exS 0 ⟨4,1⟩ = 0 by decide +kernel] at h
theorem k50 : Ctr Tryz.prog 47 [exS.sv,iS 0,(Place.mk 10 6).sv] (.tup [iS 38,iS 0]):=by
  have h:=c50 exS fit_S 0 ⟨10,6⟩
  rwa [show lightW exS 0 ⟨10,6⟩ = 38 by decide +kernel,show lightE exS 0 ⟨10,6⟩ = 0 by decide +kernel] at h
theorem k55 : Ctr Tryz.prog 15 [exT.sv,iS 0] (.tup [iS 1,iS 4,iS 0]):=by
  have h:=c55 exT fit_T 0
  rwa [show (hangH exT 0).at_ = 1 by decide +kernel,show (hangH exT 0).n = 4 by decide +kernel,show errA (boardOk exT 0) = 0 by decide +kernel] at h
theorem k65 : Ctr Tryz.prog 35 [exX.sv] (.d (.str exText)):=by
  have h:=c65 exX small_X
  rwa [ex_text] at h
theorem k37a : Ctr Tryz.prog 48 [.d (slD 1 intD [2,2]),.d (.sl 1 2 (fun i j => dget [iD 2,iD 2] (i * 1 + j)))] (bS true) :=
  (c37 [2,2] [2,2] (by decide) (by decide)).args ⟨.refl _,ints_D [2,2],trivial⟩
theorem k37b : Ctr Tryz.prog 48 [.d (slD 1 intD [3]),.d (.sl 1 1 (fun i j => dget [iD 3] (i * 1 + j)))] (bS true) :=
  (c37 [3] [3] (by decide) (by decide)).args ⟨.refl _,ints_D [3],trivial⟩
theorem k40 : Ctr Tryz.prog 29 [.d (slD 1 natD [0]),.d (.sl 1 1 (fun i j => dget [iD 0] (i * 1 + j)))] (bS true) :=
  (c40 [0] [0] (by decide) (by decide)).args ⟨nats_D [0],ints_D [0],trivial⟩
theorem c24 : Ctr Tryz.prog 14 [] (bS true):=by
  (refine Ctr.mk (fn:=Tryz.f14) rfl rfl rfl rfl rfl Tryz.results14 ?_; dsimp only [args,List.toList_toArray])
  ((first | refine qS rfl rfl ?_ | refine qR rfl rfl ?_); simp only [go_sem,↓dP,↓reduceIte]; with_reducible and_intros; all_goals first | apply qA | exact ⟨⟩ | rfl | (intros; apply qB; first | kernel_rfl | omega) | omega | skip)
  ((first | refine qS rfl rfl ?_ | refine qR rfl rfl ?_); simp only [go_sem,↓dP,↓reduceIte]; with_reducible and_intros; all_goals first | apply qA | exact ⟨⟩ | rfl | (intros; apply qB; first | kernel_rfl | omega) | omega | skip)
  (refine AskI.ret (c70) ?_; simp only [go_sem,↓dP,↓reduceIte]; with_reducible and_intros; all_goals first | apply qA | exact ⟨⟩ | rfl | (intros; apply qB; first | kernel_rfl | omega) | omega | skip)
  (refine AskI.ret (c60 4 6) ?_; simp only [go_sem,↓dP,↓reduceIte]; with_reducible and_intros; all_goals first | apply qA | exact ⟨⟩ | rfl | (intros; apply qB; first | kernel_rfl | omega) | omega | skip)
  (refine AskI.ret (k25) ?_; simp only [go_sem,↓dP,↓reduceIte]; with_reducible and_intros; all_goals first | apply qA | exact ⟨⟩ | rfl | (intros; apply qB; first | kernel_rfl | omega) | omega | skip)
  ((first | refine qS rfl rfl ?_ | refine qR rfl rfl ?_); simp only [go_sem,↓dP,↓reduceIte]; with_reducible and_intros; all_goals first | apply qA | exact ⟨⟩ | rfl | (intros; apply qB; first | kernel_rfl | omega) | omega | skip)
  (refine AskI.ret (c70) ?_; simp only [go_sem,↓dP,↓reduceIte]; with_reducible and_intros; all_goals first | apply qA | exact ⟨⟩ | rfl | (intros; apply qB; first | kernel_rfl | omega) | omega | skip)
  (refine AskI.ret (c60 4 1) ?_; simp only [go_sem,↓dP,↓reduceIte]; with_reducible and_intros; all_goals first | apply qA | exact ⟨⟩ | rfl | (intros; apply qB; first | kernel_rfl | omega) | omega | skip)
  (refine AskI.ret (k29) ?_; simp only [go_sem,↓dP,↓reduceIte]; with_reducible and_intros; all_goals first | apply qA | exact ⟨⟩ | rfl | (intros; apply qB; first | kernel_rfl | omega) | omega | skip)
  ((first | refine qS rfl rfl ?_ | refine qR rfl rfl ?_); simp only [go_sem,↓dP,↓reduceIte]; with_reducible and_intros; all_goals first | apply qA | exact ⟨⟩ | rfl | (intros; apply qB; first | kernel_rfl | omega) | omega | skip)
  (refine AskI.ret (c70) ?_; simp only [go_sem,↓dP,↓reduceIte]; with_reducible and_intros; all_goals first | apply qA | exact ⟨⟩ | rfl | (intros; apply qB; first | kernel_rfl | omega) | omega | skip)
  (refine AskI.ret (c60 4 6) ?_; simp only [go_sem,↓dP,↓reduceIte]; with_reducible and_intros; all_goals first | apply qA | exact ⟨⟩ | rfl | (intros; apply qB; first | kernel_rfl | omega) | omega | skip)
  (refine AskI.ret (k34) ?_; simp only [go_sem,↓dP,↓reduceIte]; with_reducible and_intros; all_goals first | apply qA | exact ⟨⟩ | rfl | (intros; apply qB; first | kernel_rfl | omega) | omega | skip)
  ((first | refine qS rfl rfl ?_ | refine qR rfl rfl ?_); simp only [go_sem,↓dP,↓reduceIte]; with_reducible and_intros; all_goals first | apply qA | exact ⟨⟩ | rfl | (intros; apply qB; first | kernel_rfl | omega) | omega | skip)
  (refine AskI.ret (c70) ?_; simp only [go_sem,↓dP,↓reduceIte]; with_reducible and_intros; all_goals first | apply qA | exact ⟨⟩ | rfl | (intros; apply qB; first | kernel_rfl | omega) | omega | skip)
  (refine AskI.ret (c60 20 1) ?_; simp only [go_sem,↓dP,↓reduceIte]; with_reducible and_intros; all_goals first | apply qA | exact ⟨⟩ | rfl | (intros; apply qB; first | kernel_rfl | omega) | omega | skip)
  (refine AskI.ret (k35) ?_; simp only [go_sem,↓dP,↓reduceIte]; with_reducible and_intros; all_goals first | apply qA | exact ⟨⟩ | rfl | (intros; apply qB; first | kernel_rfl | omega) | omega | skip)
  ((first | refine qS rfl rfl ?_ | refine qR rfl rfl ?_); simp only [go_sem,↓dP,↓reduceIte]; with_reducible and_intros; all_goals first | apply qA | exact ⟨⟩ | rfl | (intros; apply qB; first | kernel_rfl | omega) | omega | skip)
  (refine AskI.ret (c70) ?_; simp only [go_sem,↓dP,↓reduceIte]; with_reducible and_intros; all_goals first | apply qA | exact ⟨⟩ | rfl | (intros; apply qB; first | kernel_rfl | omega) | omega | skip)
  (refine AskI.ret (c60 16 6) ?_; simp only [go_sem,↓dP,↓reduceIte]; with_reducible and_intros; all_goals first | apply qA | exact ⟨⟩ | rfl | (intros; apply qB; first | kernel_rfl | omega) | omega | skip)
  (refine AskI.ret (k36) ?_; simp only [go_sem,↓dP,↓reduceIte]; with_reducible and_intros; all_goals first | apply qA | exact ⟨⟩ | rfl | (intros; apply qB; first | kernel_rfl | omega) | omega | skip)
  ((first | refine qS rfl rfl ?_ | refine qR rfl rfl ?_); simp only [go_sem,↓dP,↓reduceIte]; with_reducible and_intros; all_goals first | apply qA | exact ⟨⟩ | rfl | (intros; apply qB; first | kernel_rfl | omega) | omega | skip)
  (refine AskI.ret (c71) ?_; simp only [go_sem,↓dP,↓reduceIte]; with_reducible and_intros; all_goals first | apply qA | exact ⟨⟩ | rfl | (intros; apply qB; first | kernel_rfl | omega) | omega | skip)
  (refine AskI.ret (k42) ?_; simp only [go_sem,↓dP,↓reduceIte]; with_reducible and_intros; all_goals first | apply qA | exact ⟨⟩ | rfl | (intros; apply qB; first | kernel_rfl | omega) | omega | skip)
  ((first | refine qS rfl rfl ?_ | refine qR rfl rfl ?_); simp only [go_sem,↓dP,↓reduceIte]; with_reducible and_intros; all_goals first | apply qA | exact ⟨⟩ | rfl | (intros; apply qB; first | kernel_rfl | omega) | omega | skip)
  (refine AskI.ret (c71) ?_; simp only [go_sem,↓dP,↓reduceIte]; with_reducible and_intros; all_goals first | apply qA | exact ⟨⟩ | rfl | (intros; apply qB; first | kernel_rfl | omega) | omega | skip)
  (refine AskI.ret (k43) ?_; simp only [go_sem,↓dP,↓reduceIte]; with_reducible and_intros; all_goals first | apply qA | exact ⟨⟩ | rfl | (intros; apply qB; first | kernel_rfl | omega) | omega | skip)
  ((first | refine qS rfl rfl ?_ | refine qR rfl rfl ?_); simp only [go_sem,↓dP,↓reduceIte]; with_reducible and_intros; all_goals first | apply qA | exact ⟨⟩ | rfl | (intros; apply qB; first | kernel_rfl | omega) | omega | skip)
  (refine AskI.ret (c70) ?_; simp only [go_sem,↓dP,↓reduceIte]; with_reducible and_intros; all_goals first | apply qA | exact ⟨⟩ | rfl | (intros; apply qB; first | kernel_rfl | omega) | omega | skip)
  (refine AskI.ret (c60 4 1) ?_; simp only [go_sem,↓dP,↓reduceIte]; with_reducible and_intros; all_goals first | apply qA | exact ⟨⟩ | rfl | (intros; apply qB; first | kernel_rfl | omega) | omega | skip)
  (refine AskI.ret (k49) ?_; simp only [go_sem,↓dP,↓reduceIte]; with_reducible and_intros; all_goals first | apply qA | exact ⟨⟩ | rfl | (intros; apply qB; first | kernel_rfl | omega) | omega | skip)
  ((first | refine qS rfl rfl ?_ | refine qR rfl rfl ?_); simp only [go_sem,↓dP,↓reduceIte]; with_reducible and_intros; all_goals first | apply qA | exact ⟨⟩ | rfl | (intros; apply qB; first | kernel_rfl | omega) | omega | skip)
  (refine AskI.ret (c70) ?_; simp only [go_sem,↓dP,↓reduceIte]; with_reducible and_intros; all_goals first | apply qA | exact ⟨⟩ | rfl | (intros; apply qB; first | kernel_rfl | omega) | omega | skip)
  (refine AskI.ret (c60 10 6) ?_; simp only [go_sem,↓dP,↓reduceIte]; with_reducible and_intros; all_goals first | apply qA | exact ⟨⟩ | rfl | (intros; apply qB; first | kernel_rfl | omega) | omega | skip)
  (refine AskI.ret (k50) ?_; simp only [go_sem,↓dP,↓reduceIte]; with_reducible and_intros; all_goals first | apply qA | exact ⟨⟩ | rfl | (intros; apply qB; first | kernel_rfl | omega) | omega | skip)
  ((first | refine qS rfl rfl ?_ | refine qR rfl rfl ?_); simp only [go_sem,↓dP,↓reduceIte]; with_reducible and_intros; all_goals first | apply qA | exact ⟨⟩ | rfl | (intros; apply qB; first | kernel_rfl | omega) | omega | skip)
  (refine AskI.ret (c71) ?_; simp only [go_sem,↓dP,↓reduceIte]; with_reducible and_intros; all_goals first | apply qA | exact ⟨⟩ | rfl | (intros; apply qB; first | kernel_rfl | omega) | omega | skip)
  (refine AskI.ret (k55) ?_; simp only [go_sem,↓dP,↓reduceIte]; with_reducible and_intros; all_goals first | apply qA | exact ⟨⟩ | rfl | (intros; apply qB; first | kernel_rfl | omega) | omega | skip)
  ((first | refine qS rfl rfl ?_ | refine qR rfl rfl ?_); simp only [go_sem,↓dP,↓reduceIte]; with_reducible and_intros; all_goals first | apply qA | exact ⟨⟩ | rfl | (intros; apply qB; first | kernel_rfl | omega) | omega | skip)
  (refine AskI.ret (c64_ex) ?_; simp only [go_sem,↓dP,↓reduceIte]; with_reducible and_intros; all_goals first | apply qA | exact ⟨⟩ | rfl | (intros; apply qB; first | kernel_rfl | omega) | omega | skip)
  refine Ok.seq ?_
  ((first | refine qS rfl rfl ?_ | refine qR rfl rfl ?_); simp only [go_sem,↓dP,↓reduceIte]; with_reducible and_intros; all_goals first | apply qA | exact ⟨⟩ | rfl | (intros; apply qB; first | kernel_rfl | omega) | omega | skip)
  refine Ok.cond (b:=false) (by first | rfl | (simp only [go_sem,↓dP,↓reduceIte]; rfl)) (fun hb => by cases hb) (fun _ => ?_)
  (refine Ok.skip ?_; (try dsimp only [thenK,blockK,noGotoK]))
  refine Ok.seq ?_
  ((first | refine qS rfl rfl ?_ | refine qR rfl rfl ?_); simp only [go_sem,↓dP,↓reduceIte]; with_reducible and_intros; all_goals first | apply qA | exact ⟨⟩ | rfl | (intros; apply qB; first | kernel_rfl | omega) | omega | skip)
  · exact stEq42
  (refine AskGI.ret (fun _ => k37a) ?_; simp only [go_sem,↓dP,↓reduceIte]; with_reducible and_intros; all_goals first | apply qA | exact ⟨⟩ | rfl | (intros; apply qB; first | kernel_rfl | omega) | omega | skip)
  (refine AskGI.ret (fun _ => k37b) ?_; simp only [go_sem,↓dP,↓reduceIte]; with_reducible and_intros; all_goals first | apply qA | exact ⟨⟩ | rfl | (intros; apply qB; first | kernel_rfl | omega) | omega | skip)
  (refine AskGI.ret (fun _ => k40) ?_; simp only [go_sem,↓dP,↓reduceIte]; with_reducible and_intros; all_goals first | apply qA | exact ⟨⟩ | rfl | (intros; apply qB; first | kernel_rfl | omega) | omega | skip)
  (refine AskGI.ret (fun _ => c60 0 2) ?_; simp only [go_sem,↓dP,↓reduceIte]; with_reducible and_intros; all_goals first | apply qA | exact ⟨⟩ | rfl | (intros; apply qB; first | kernel_rfl | omega) | omega | skip)
  · exact stEq29
  refine Ok.cond (b:=false) (by first | rfl | (simp only [go_sem,↓dP,↓reduceIte]; rfl)) (fun hb => by cases hb) (fun _ => ?_)
  (refine Ok.skip ?_; (try dsimp only [thenK,blockK,noGotoK]))
  ((first | refine qS rfl rfl ?_ | refine qR rfl rfl ?_); simp only [go_sem,↓dP,↓reduceIte]; with_reducible and_intros; all_goals first | apply qA | exact ⟨⟩ | rfl | (intros; apply qB; first | kernel_rfl | omega) | omega | skip)
  (refine AskGI.ret (fun _ => k65) ?_; simp only [go_sem,↓dP,↓reduceIte]; with_reducible and_intros; all_goals first | apply qA | exact ⟨⟩ | rfl | (intros; apply qB; first | kernel_rfl | omega) | omega | skip)
  (refine Ok.ret ?_; (try dsimp only [thenK,blockK,noGotoK]); simp only [toList_mk,List.toList_toArray,retK_ret,retK_normal,resOK,resV,celV,rowV,frzAll,frzT,subV,subL,go_sem,↓dP,↓reduceIte])
  refine DEq.bool ?_
  decide +kernel
end Go.Proofs.Sight
