/-
  Which street any string is the text of,or the errors: SightReads returns true at every input,and leaves it as it was.
  No condition beside those that the statement itself names.
-/
import Derived.Test.YtchnganlpgfdjaaGreatDoorB00
import Derived.Test.YtchnganlpgfdjaaGreatDoorB01
import Derived.Test.YtchnganlpgfdjaaGreatDoorB02
import Derived.Test.YtchnganlpgfdjaaGreatDoorB03
import Derived.Test.YtchnganlpgfdjaaGreatDoorB04
import Derived.Test.YtchnganlpgfdjaaGreatDoorB05
import Derived.Test.YtchnganlpgfdjaaGreatDoorB06
import Derived.Test.YtchnganlpgfdjaaGreatDoorB07
import Derived.Test.YtchnganlpgfdjaaGreatDoorB08
import Derived.Test.YtchnganlpgfdjaaGreatDoorB09
import Derived.Test.YtchnganlpgfdjaaGreatDoorB10
import Derived.Test.YtchnganlpgfdjaaGreatDoorB11
import Derived.Test.YtchnganlpgfdjaaGreatDoorB12
import Derived.Test.YtchnganlpgfdjaaGreatDoorB13
import Derived.Test.YtchnganlpgfdjaaGreatDoorB14
import Derived.Test.YtchnganlpgfdjaaGreatDoorB15
import Derived.Test.YtchnganlpgfdjaaGreatDoorB16
import Derived.Test.YtchnganlpgfdjaaGreatDoorB17
import Derived.Test.YtchnganlpgfdjaaGreatDoorB18
import Derived.Test.YtchnganlpgfdjaaGreatDoorB19
import Derived.Test.YtchnganlpgfdjaaGreatDoorB20
import Derived.Test.YtchnganlpgfdjaaGreatDoorB21
import Derived.Test.YtchnganlpgfdjaaGreatDoorB22
import Derived.Test.YtchnganlpgfdjaaGreatDoorB23
import Derived.Test.YtchnganlpgfdjaaGreatDoorB24
import Derived.Test.YtchnganlpgfdjaaGreatDoorB25
import Derived.Test.YtchnganlpgfdjaaGreatDoorB26
import Derived.Test.YtchnganlpgfdjaaGreatDoorG27LXReads
set_option linter.all false
set_option linter.unusedVariables false
set_option linter.unusedSectionVars false
set_option linter.unusedSimpArgs false
set_option linter.unnecessarySimpa false
namespace Go.Proofs.YtchnganlpgfdjaaGreatDoor
open Go Go.RX Go.Proofs.Sight Go.RowKit Go.ChangeShapes Go.WideShapes Go.ChangeAt
set_option maxRecDepth 100000
theorem init_is : Tryz.prog.initOrder = String.ofList ("harness".toList ++ Char.ofNat 32 :: ("4e11b3a9e1b7f322c0875aff538975e56966d1b41feccace7074b138c2bd9333".toList ++ Char.ofNat 32 :: ("cut".toList ++ Char.ofNat 32 :: [.ofNat 97,.ofNat 116,.ofNat 32,.ofNat 109,.ofNat 97,.ofNat 104,.ofNat 108,.ofNat 115,.ofNat 116,.ofNat 105,.ofNat 99,.ofNat 107,.ofNat 47,.ofNat 109,.ofNat 97,.ofNat 104,.ofNat 108,.ofNat 115,.ofNat 116,.ofNat 105,.ofNat 99,.ofNat 107,.ofNat 108,.ofNat 97,
  .ofNat 119,.ofNat 48,.ofNat 50,.ofNat 46,.ofNat 83,.ofNat 105,.ofNat 103,.ofNat 104,.ofNat 116,.ofNat 72,.ofNat 97,.ofNat 110,.ofNat 103,.ofNat 115,.ofNat 32,.ofNat 109,.ofNat 97,.ofNat 104,.ofNat 108,.ofNat 115,.ofNat 116,.ofNat 105,.ofNat 99,.ofNat 107,
  .ofNat 47,.ofNat 109,.ofNat 97,.ofNat 104,.ofNat 108,.ofNat 115,.ofNat 116,.ofNat 105,.ofNat 99,.ofNat 107,.ofNat 108,.ofNat 97,.ofNat 119,.ofNat 48,.ofNat 50,.ofNat 46,.ofNat 83,.ofNat 105,.ofNat 103,.ofNat 104,.ofNat 116,.ofNat 69,.ofNat 108,.ofNat 115,
  .ofNat 101,.ofNat 119,.ofNat 104,.ofNat 101,.ofNat 114,.ofNat 101,.ofNat 32,.ofNat 109,.ofNat 97,.ofNat 104,.ofNat 108,.ofNat 115,.ofNat 116,.ofNat 105,.ofNat 99,.ofNat 107,.ofNat 47,.ofNat 109,.ofNat 97,.ofNat 104,.ofNat 108,.ofNat 115,.ofNat 116,.ofNat 105,
  .ofNat 99,.ofNat 107,.ofNat 108,.ofNat 97,.ofNat 119,.ofNat 48,.ofNat 50,.ofNat 46,.ofNat 83,.ofNat 105,.ofNat 103,.ofNat 104,.ofNat 116,.ofNat 77,.ofNat 111,.ofNat 114,.ofNat 101,.ofNat 32,.ofNat 109,.ofNat 97,.ofNat 104,.ofNat 108,.ofNat 115,.ofNat 116,
  .ofNat 105,.ofNat 99,.ofNat 107,.ofNat 47,.ofNat 109,.ofNat 97,.ofNat 104,.ofNat 108,.ofNat 115,.ofNat 116,.ofNat 105,.ofNat 99,.ofNat 107,.ofNat 108,.ofNat 97,.ofNat 119,.ofNat 48,.ofNat 50,.ofNat 46,.ofNat 83,.ofNat 105,.ofNat 103,.ofNat 104,.ofNat 116,
  .ofNat 84,.ofNat 117,.ofNat 114,.ofNat 110,.ofNat 101,.ofNat 100,.ofNat 32,.ofNat 109,.ofNat 97,.ofNat 104,.ofNat 108,.ofNat 115,.ofNat 116,.ofNat 105,.ofNat 99,.ofNat 107,.ofNat 47,.ofNat 109,.ofNat 97,.ofNat 104,.ofNat 108,.ofNat 115,.ofNat 116,.ofNat 105,
  .ofNat 99,.ofNat 107,.ofNat 108,.ofNat 97,.ofNat 119,.ofNat 48,.ofNat 50,.ofNat 46,.ofNat 83,.ofNat 105,.ofNat 103,.ofNat 104,.ofNat 116,.ofNat 83,.ofNat 101,.ofNat 101,.ofNat 110,.ofNat 115,.ofNat 32,.ofNat 109,.ofNat 97,.ofNat 104,.ofNat 108,.ofNat 115,
  .ofNat 116,.ofNat 105,.ofNat 99,.ofNat 107,.ofNat 47,.ofNat 109,.ofNat 97,.ofNat 104,.ofNat 108,.ofNat 115,.ofNat 116,.ofNat 105,.ofNat 99,.ofNat 107,.ofNat 108,.ofNat 97,.ofNat 119,.ofNat 48,.ofNat 50,.ofNat 46,.ofNat 83,.ofNat 105,.ofNat 103,.ofNat 104,
  .ofNat 116,.ofNat 80,.ofNat 114,.ofNat 105,.ofNat 110,.ofNat 116,.ofNat 115,.ofNat 32,.ofNat 109,.ofNat 97,.ofNat 104,.ofNat 108,.ofNat 115,.ofNat 116,.ofNat 105,.ofNat 99,.ofNat 107,.ofNat 47,.ofNat 109,.ofNat 97,.ofNat 104,.ofNat 108,.ofNat 115,.ofNat 116,
  .ofNat 105,.ofNat 99,.ofNat 107,.ofNat 108,.ofNat 97,.ofNat 119,.ofNat 48,.ofNat 50,.ofNat 46,.ofNat 83,.ofNat 105,.ofNat 103,.ofNat 104,.ofNat 116,.ofNat 82,.ofNat 101,.ofNat 97,.ofNat 100,.ofNat 115,.ofNat 32,.ofNat 109,.ofNat 97,.ofNat 104,.ofNat 108,
  .ofNat 115,.ofNat 116,.ofNat 105,.ofNat 99,.ofNat 107,.ofNat 47,.ofNat 109,.ofNat 97,.ofNat 104,.ofNat 108,.ofNat 115,.ofNat 116,.ofNat 105,.ofNat 99,.ofNat 107,.ofNat 108,.ofNat 97,.ofNat 119,.ofNat 48,.ofNat 50,.ofNat 46,.ofNat 83,.ofNat 105,.ofNat 103,
  .ofNat 104,.ofNat 116,.ofNat 83,.ofNat 112,.ofNat 111,.ofNat 105,.ofNat 108,.ofNat 116,.ofNat 32,.ofNat 109,.ofNat 97,.ofNat 104,.ofNat 108,.ofNat 115,.ofNat 116,.ofNat 105,.ofNat 99,.ofNat 107,.ofNat 47,.ofNat 109,.ofNat 97,.ofNat 104,.ofNat 108,.ofNat 115,
  .ofNat 116,.ofNat 105,.ofNat 99,.ofNat 107,.ofNat 108,.ofNat 97,.ofNat 119,.ofNat 48,.ofNat 50,.ofNat 46,.ofNat 83,.ofNat 105,.ofNat 103,.ofNat 104,.ofNat 116,.ofNat 66,.ofNat 111,.ofNat 116,.ofNat 104,.ofNat 115,.ofNat 32,.ofNat 109,.ofNat 97,.ofNat 104,
  .ofNat 108,.ofNat 115,.ofNat 116,.ofNat 105,.ofNat 99,.ofNat 107,.ofNat 47,.ofNat 109,.ofNat 97,.ofNat 104,.ofNat 108,.ofNat 115,.ofNat 116,.ofNat 105,.ofNat 99,.ofNat 107,.ofNat 108,.ofNat 97,.ofNat 119,.ofNat 48,.ofNat 50,.ofNat 46,.ofNat 83,.ofNat 105,
  .ofNat 103,.ofNat 104,.ofNat 116,.ofNat 83,.ofNat 104,.ofNat 97,.ofNat 114,.ofNat 101,.ofNat 100]))):=by kernel_rfl
theorem words_cons (c : Char) (r : List Char) (h : c ≠ Char.ofNat 32) : wordsSigns (c :: r) = match wordsSigns r with | w :: ws => (c :: w) :: ws | [] => [[c]]:=by
  rw [wordsSigns.eq_3 _ _ (by intro e; exact h e)]
  cases wordsSigns r <;> rfl
theorem words_of : ∀ (w r : List Char),(∀ c ∈ w,c ≠ Char.ofNat 32) → wordsSigns (w ++ Char.ofNat 32 :: r) = w :: wordsSigns r
  | [],r,_ => rfl
  | c :: w,r,h => by
    rw [List.cons_append,words_cons _ _ (h c (List.mem_cons.2 (.inl rfl))),words_of w r (fun c hc => h c (List.mem_cons.2 (.inr hc)))]
theorem words_is : ∃ ws,wordsSigns Tryz.prog.initOrder.toList = "harness".toList :: "4e11b3a9e1b7f322c0875aff538975e56966d1b41feccace7074b138c2bd9333".toList :: "cut".toList :: ws:=by
  rw [init_is,String.toList_ofList]
  exact ⟨_,by rw [words_of _ _ (by decide +kernel),words_of _ _ (by decide +kernel),words_of _ _ (by decide +kernel)]⟩
theorem behind_of (s : List Char) (ws : List (List Char)) (h : isSumSigns s = true) : behindMainWord ("harness".toList :: s :: ws) = ws:=by
  unfold behindMainWord
  simp only [h,beq_self_eq_true,Bool.true_or,Bool.and_self,if_true]
theorem sum_is : isSumSigns "4e11b3a9e1b7f322c0875aff538975e56966d1b41feccace7074b138c2bd9333".toList = true:=by decide +kernel
theorem behind_is : ∃ ws,behindMainWord (wordsSigns Tryz.prog.initOrder.toList) = "cut".toList :: ws:=by
  obtain ⟨ws,h⟩:=words_is
  exact ⟨ws,(congrArg behindMainWord h).trans (behind_of _ _ sum_is)⟩
theorem mainIs_of (P : Program) (s : List Char) (ws : List (List Char)) (h : wordsSigns P.initOrder.toList = "harness".toList :: s :: ws) (hs : isSumSigns s = true) : P.mainIs = some (true,s):=by
  unfold Program.mainIs
  rw [h]
  simp only [hs,beq_self_eq_true,if_true,Bool.not_true,if_false,Bool.false_eq_true]
theorem main_is : Tryz.prog.mainIs = some (true,"4e11b3a9e1b7f322c0875aff538975e56966d1b41feccace7074b138c2bd9333".toList):=by
  obtain ⟨ws,h⟩:=words_is
  exact mainIs_of _ _ _ h sum_is
theorem strip_cut (ws : List (List Char)) : stripLifts liftWords ("cut".toList :: ws) = ([],"cut".toList :: ws):=by
  have e : ∀ (l : List String),l.all (fun o => !("cut".toList == o.toList)) = true → stripLifts l ("cut".toList :: ws) = ([],"cut".toList :: ws)
    := fun l => by
      induction l with
      | nil => intro _; rfl
      | cons o os ih =>
        intro h
        rw [List.all_cons,Bool.and_eq_true] at h
        rw [stripLifts,if_neg (by simpa using h.1)]
        exact ih h.2
  exact e _ (by decide +kernel)
theorem lifts_of (P : Program) (ws : List (List Char)) (h : behindMainWord (wordsSigns P.initOrder.toList) = "cut".toList :: ws) : P.headLifts = []:=by
  unfold Program.headLifts
  rw [h,strip_cut]
  simp
theorem later_is : Tryz.prog.laysLater = false:=by kernel_rfl
theorem reflect_is : Tryz.prog.bearsReflect = false:=by kernel_rfl
theorem door_is : Tryz.prog.doorFits [] = true:=by kernel_rfl
theorem ne_gc : ("cut".toList == "gc".toList) = false:=by decide +kernel
theorem ne_spec : ("cut".toList == "spec".toList) = false:=by decide +kernel
theorem ne_carried : ("cut".toList == "carried".toList) = false:=by decide +kernel
theorem enter_of (P : Program) (ws : List (List Char)) (h : behindMainWord (wordsSigns P.initOrder.toList) = "cut".toList :: ws) (h1 : P.laysLater = false) (h2 : P.bearsReflect = false) (h3 : P.doorFits [] = true) : P.mayEnter = true:=by
  unfold Program.mayEnter
  rw [h]
  simp only [strip_cut,h1,h2,h3,ne_gc,ne_spec,ne_carried,List.head?_cons,beq_self_eq_true,Bool.not_false,Bool.or_true,Bool.and_self,List.contains_nil,Bool.or_self,Bool.false_and,Bool.false_or]
theorem final_of (P : Program) (ws : List (List Char)) (h : behindMainWord (wordsSigns P.initOrder.toList) = "cut".toList :: ws) : P.liftsFinal = false:=by
  unfold Program.liftsFinal
  have e : ((some "cut".toList : Option (List Char)) == some "carried".toList) = false:=by decide +kernel
  simp only [h,lifts_of P ws h,List.head?_cons,e,Bool.false_and,Bool.false_or,List.contains_nil]
theorem make_of (P : Program) (ws : List (List Char)) (h : behindMainWord (wordsSigns P.initOrder.toList) = "cut".toList :: ws) : P.make = some .cut:=by
  unfold Program.make
  rw [h]
  simp only [ne_gc,ne_spec,beq_self_eq_true,Bool.or_self,Bool.true_or,Bool.false_eq_true,if_false,if_true]
theorem enter_is : Tryz.prog.mayEnter = true:=by
  obtain ⟨ws,h⟩:=behind_is
  exact enter_of _ ws h later_is reflect_is door_is
theorem final_is : Tryz.prog.liftsFinal = false:=by
  obtain ⟨ws,h⟩:=behind_is
  exact final_of _ ws h
theorem make_is : Tryz.prog.make = some .cut:=by
  obtain ⟨ws,h⟩:=behind_is
  exact make_of _ ws h
end Go.Proofs.YtchnganlpgfdjaaGreatDoor
namespace Go.Proofs.YtchnganlpgfdjaaGreatDoor
open Go Go.RX Go.Proofs.Sight Go.RowKit Go.ChangeShapes Go.WideShapes Go.ChangeAt
set_option maxRecDepth 100000
theorem reads_ctr (As : List SV) (h : opensAll [9] As) : Ctr Tryz.prog 9 As (bS true):=by
  obtain ⟨_,A1,rfl,h0,h⟩:=opensAll_cons h
  obtain rfl:=opensAll_nil h
  obtain ⟨x0,rfl,y0⟩:=opens_text h0
  exact c19 x0 y0
theorem reads_facts : joinedFacts Tryz.prog 9 Tryz.f9 Rows.sightReadsSpec Rows.sightReadsRow = true:=by unfold joinedFacts; rw [enter_is,final_is,make_is]; kernel_rfl
theorem reads_lifted (os : Os) (started : os.Started) (H : Type) (enc : TypeId × Value → H) :
    ReturnsInHanded {} Tryz.checked os 9 .any (fun w args => (Rows.sightReadsSpec.pre enc Tryz.prog Tryz.f9 [] false w args ∧ laidMetH Tryz.prog laid5 w) ∧ sizedMet enc Tryz.prog Tryz.f9 (OpenSpec.ofChange Rows.sightReadsSpec) false w args)
      (Rows.sightReadsSpec.post enc Tryz.prog Tryz.f9 false true false false):=by
  refine law_ctr (ts:=[9]) Rows.sightReadsSpec rfl started (by kernel_rfl) Tryz.func9 (by kernel_rfl) (by rw [Tryz.params9]) (by decide)
    (fun ds hd => ?_)
    (ChangeSpec.witness_shaped (enc:=enc) (C:=Tryz.checked) (os:=os) (X:=fun w _ => laidMetH Tryz.prog laid5 w) false (World.laidAll Tryz.prog os laid5) #[(.string ByteArray.empty)] 8 (World.laidAll_os _ _ _)
      (World.shaped_of_ZipB (by kernel_rfl) (by kernel_rfl)) (by kernel_rfl) (by kernel_rfl) (by kernel_rfl)
      (by rw [MakeChecks.laidMetH_plain _ _ _ (by kernel_rfl)]; exact laidMet_laidAll _ (by kernel_rfl) (by kernel_rfl))) reads_ctr
  match ds,hd with
  | [d0],_ => rfl
theorem reads_row : Rows.SightReadsSaid :=
  OpenClaim.holds_of_wide 9 Tryz.f9 rfl rfl rfl rfl rfl rfl rfl ⟨rfl,rfl,rfl,rfl,rfl⟩ rfl rfl rfl rfl rfl (by kernel_rfl) Tryz.func9 reads_facts (of_decide_eq_true (by kernel_rfl))
    (by unfold Func.isWrapper; first | (rw [if_pos (by decide +kernel)]; kernel_rfl) | (rw [if_neg (by decide +kernel)]; exact ⟨rfl,rfl⟩)) (fun os started H enc _ => reads_lifted os started H enc)
theorem reads_card : Rows.SightReadsCardSaid :=
  Claim7.holds_tied_plain_at .later [] [.data,.data,.data,.data,.pinned] true (true,"4e11b3a9e1b7f322c0875aff538975e56966d1b41feccace7074b138c2bd9333") true reads_row
    (fun _ h => by cases h) (by kernel_rfl) (fun _ h => by cases h) sightReads_row_tie rfl ⟨rfl,rfl⟩ main_is rfl
    (fun f fn hf hfn => by
      obtain rfl : f = 9:=Option.some.inj ((show Tryz.prog.funcNamed "mahlstick/mahlsticklaw02.SightReads" = some 9 by kernel_rfl).symm.trans hf) |>.symm
      obtain rfl : fn = Tryz.f9:=(Option.some.inj (Tryz.func9.symm.trans hfn)).symm
      exact ⟨by kernel_rfl,fun j t ht => by
        rw [Tryz.params9] at ht
        exact law_stand (ts:=[9]) (by decide) (by simpa using Array.mem_of_getElem? ht)⟩) (by kernel_rfl)
#print axioms reads_card
end Go.Proofs.YtchnganlpgfdjaaGreatDoor
