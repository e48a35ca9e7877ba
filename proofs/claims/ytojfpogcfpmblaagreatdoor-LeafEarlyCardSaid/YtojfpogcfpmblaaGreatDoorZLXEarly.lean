/-
  Plans that are early: LeafEarly returns true at every input, and leaves it as it was.
  No condition beside those that the statement itself names.
-/
import Derived.Test.YtojfpogcfpmblaaGreatDoorB30
import Derived.ChangeMaps5
set_option linter.all false
set_option linter.unusedVariables false
set_option linter.unusedSectionVars false
set_option linter.unusedSimpArgs false
set_option linter.unnecessarySimpa false
namespace Go.Proofs.Leaf
def beforeL : List Int → List Int → Bool
 | [], [] => false
 | [], _ :: _ => true
 | _ :: _, [] => false
 | x :: l, y :: m => if x = y then beforeL l m else decide (x < y)
theorem before_pre : ∀ (now : List Int) (l m : List Int), beforeL (now ++ l) (now ++ m) = beforeL l m
 | [], _, _ => rfl
 | x :: now, l, m => by simp [beforeL, before_pre now l m]
theorem before_irr : ∀ l : List Int, beforeL l l = false
 | [] => rfl
 | x :: l => by simp [beforeL, before_irr l]
theorem hours_sorted (a b : Int) : (hoursL a b).Pairwise (· < ·) := by
 rw [hoursL, List.pairwise_map]
 exact List.pairwise_lt_range.imp (fun h => by omega)
theorem plan_sorted : ∀ (sp : List (Int × Int)) (now : List Int), (planL sp now).Pairwise (fun l m => beforeL l m = true)
 | [], now => by simp [planL]
 | (a, b) :: sp, now => by
  rw [planL, List.pairwise_flatMap]
  refine ⟨fun h _ => ?_, (hours_sorted a b).imp (fun {h k} hlt x hx y hy => ?_)⟩
  ·by_cases hm : h ∈ now
   ·rw [if_pos hm]; exact List.Pairwise.nil
   ·rw [if_neg hm]; exact plan_sorted sp _
  ·have key : ∀ (h : Int) (x : List Int), x ∈ (if h ∈ now then [] else planL sp (now ++ [h])) → ∃ t, x = now ++ h :: t := by
    intro h x hx
    by_cases hm : h ∈ now
    ·rw [if_pos hm] at hx; cases hx
    ·rw [if_neg hm] at hx
     have : ∀ (sp : List (Int × Int)) (now x : List Int), x ∈ planL sp now → ∃ t, x = now ++ t := by
      intro sp
      induction sp with
      | nil => intro now x hx; exact ⟨[], by simpa [planL] using hx⟩
      | cons p sp ih =>
       intro now x hx
       obtain ⟨a, b⟩ := p
       simp only [planL, List.mem_flatMap] at hx
       obtain ⟨h, _, hx⟩ := hx
       by_cases hm : h ∈ now
       ·rw [if_pos hm] at hx; cases hx
       ·rw [if_neg hm] at hx
        obtain ⟨t, rfl⟩ := ih _ _ hx
        exact ⟨h :: t, by simp⟩
     obtain ⟨t, rfl⟩ := this _ _ _ hx
     exact ⟨t, by simp⟩
   obtain ⟨t, rfl⟩ := key _ _ hx
   obtain ⟨u, rfl⟩ := key _ _ hy
   rw [before_pre, beforeL, if_neg (by omega)]
   exact decide_eq_true hlt
theorem before_asymm : ∀ (l m : List Int), beforeL l m = true → beforeL m l = false
 | [], [], h => by cases h
 | [], _ :: _, _ => rfl
 | _ :: _, [], h => by cases h
 | x :: l, y :: m, h => by
  unfold beforeL at h ⊢
  by_cases e : x = y
  ·rw [if_pos e] at h; rw [if_pos e.symm]; exact before_asymm l m h
  ·rw [if_neg e, decide_eq_true_eq] at h
   rw [if_neg (fun q => e q.symm), decide_eq_false_iff_not]; omega
theorem head_least {L : List (List Int)} (hp : L.Pairwise (fun l m => beforeL l m = true)) {x y : List Int} (hx : L.head? = some x) (hy : y ∈ L) : beforeL y x = false := by
 cases L with
 | nil => cases hy
 | cons z L =>
  simp at hx; subst hx
  rcases List.mem_cons.1 hy with rfl | hy
  ·exact before_irr _
  ·exact before_asymm _ _ ((List.pairwise_cons.1 hp).1 y hy)
theorem within_mono : ∀ {l : List Int} {s t : List (Int × Int)}, within l s → s.length = t.length → (∀ i, i < s.length → (t.getD i default).1 ≤ (s.getD i default).1 ∧ (s.getD i default).2 ≤ (t.getD i default).2) → within l t
 | [], [], [], _, _, _ => trivial
 | x :: l, (a, b) :: s, (c, d) :: t, h, hl, hs => by
  have h0 := hs 0 (by simp)
  simp only [List.getD_cons_zero] at h0
  have h1 := h.1
  have h2 := h.2.1
  refine ⟨by omega, by omega, within_mono h.2.2 (by simpa using hl) (fun i hi => ?_)⟩
  simpa using hs (i + 1) (by simpa using hi)
 | [], _ :: _, _, h, _, _ => h.elim
 | _ :: _, [], _, h, _, _ => h.elim
 | [], [], _ :: _, _, hl, _ => by simp at hl
 | _ :: _, _ :: _, [], _, hl, _ => by simp at hl
end Go.Proofs.Leaf
namespace Go.Proofs.Leaf
theorem head_some {α : Type} {L : List α} : L.head?.isSome = true ↔ ∃ x, x ∈ L := by
 cases L with
 | nil => simp
 | cons a L => simp only [List.head?_cons, Option.isSome_some, true_iff]; exact ⟨a, List.mem_cons_self ..⟩
theorem within_iff : ∀ {l : List Int} {sp : List (Int × Int)}, within l sp ↔ l.length = sp.length ∧ ∀ i, i < sp.length → (sp.getD i default).1 ≤ l.getD i 0 ∧ l.getD i 0 ≤ (sp.getD i default).2
 | [], [] => by simp [within]
 | x :: l, (a, b) :: sp => by
  have ih := within_iff (l := l) (sp := sp)
  simp only [within, ih, List.length_cons]
  constructor
  ·rintro ⟨h1, h2, h3, h4⟩
   refine ⟨by omega, fun i hi => ?_⟩
   cases i with
   | zero => exact ⟨h1, h2⟩
   | succ i => simpa using h4 i (by omega)
  ·rintro ⟨h1, h2⟩
   have h0 := h2 0 (by omega)
   refine ⟨h0.1, h0.2, by omega, fun i hi => ?_⟩
   simpa using h2 (i + 1) (by omega)
 | [], _ :: _ => by simp [within]
 | _ :: _, [] => by simp [within]
theorem plan_wider {s t : List (Int × Int)} (hl : s.length = t.length) (h : ∀ i, i < s.length → (t.getD i default).1 ≤ (s.getD i default).1 ∧ (s.getD i default).2 ≤ (t.getD i default).2) : (planL s []).head?.isSome = true → (planL t []).head?.isSome = true := by
 rw [head_some, head_some]
 rintro ⟨l, hl2⟩
 obtain ⟨h1, h2⟩ := plan_iff.1 hl2
 exact ⟨l, plan_iff.2 ⟨within_mono h1 hl h, h2⟩⟩
end Go.Proofs.Leaf
namespace Go.Proofs.Leaf
open Go Go.RX Go.Proofs
set_option maxRecDepth 10000
variable [Glob]
theorem c_rin (n lo hi : Int) : Ctr Tryz.prog 60 [iS n, iS lo, iS hi] (bS (inB n lo hi)) := by
 (refine Ctr.mk (fn := Tryz.f60) rfl rfl rfl rfl rfl Tryz.results60 ?_; intro _; dsimp only [args, List.toList_toArray])
 (first|refine qE ?_|refine qD ?_);(simp only [go_sem,↓dP,↓reduceIte];with_reducible and_intros;all_goals first|apply qA|exact qC|skip)
 (first|refine qE ?_|refine qD ?_);(simp only [go_sem,↓dP,↓reduceIte];with_reducible and_intros;all_goals first|apply qA|exact qC|skip)
 (refine Ok.ret ?_; (try dsimp only [thenK, blockK, noGotoK]); simp only [toList_mk, List.toList_toArray, retK_ret, retK_normal, resOK, resV, celV, rowV, frzAll, frzT, subV, subL, go_sem,↓dP,↓reduceIte])
 exact .refl _
end Go.Proofs.Leaf
namespace Go.Proofs.Leaf
open Go Go.RX Go.Proofs
set_option maxRecDepth 10000
variable [Glob]
theorem c_rHours (J : Job) (hJ : J.based) (n : Int) (h0 : 0 ≤ n) (h1 : n < J.ps.length) (may : Bool) : Ctr Tryz.prog 90 [J.sv, iS n, bS may] (spS (J.span may n)) := by
 have hm := hJ.at_ _ (getD_mem (l := J.ps) (i := n.toNat) (by omega))
 have g1 := hJ.gl
 have p1 := hJ.pl
 (refine Ctr.mk (fn := Tryz.f90) rfl rfl rfl rfl rfl Tryz.results90 ?_; intro _; dsimp only [args, List.toList_toArray])
 (first|refine qE ?_|refine qD ?_);(simp only [go_sem,↓dP,↓reduceIte];with_reducible and_intros;all_goals first|apply qA|exact qC|skip)
 (first|refine qE ?_|refine qD ?_);(simp only [go_sem,↓dP,↓reduceIte];with_reducible and_intros;all_goals first|apply qA|exact qC|skip)
 refine Ok.seq ?_
 (first|refine qE ?_|refine qD ?_);(simp only [go_sem,↓dP,↓reduceIte];with_reducible and_intros;all_goals first|apply qA|exact qC|skip)
 refine Ok.cond rfl ?_ ?_
 ·intro hb
  subst hb
  (first|refine qE ?_|refine qD ?_);(simp only [go_sem,↓dP,↓reduceIte];with_reducible and_intros;all_goals first|apply qA|exact qC|skip)
  (refine Ok.ret ?_; (try dsimp only [thenK, blockK, noGotoK]); simp only [toList_mk, List.toList_toArray, retK_ret, retK_normal, resOK, resV, celV, rowV, frzAll, frzT, subV, subL, go_sem,↓dP,↓reduceIte])
  ((repeat' with_reducible apply And.intro) <;> (first | exact DEq.refl _ | refine DEq.int ?_ | refine DEq.bool ?_ | skip))
 ·intro hb
  subst hb
  (refine Ok.skip ?_; (try dsimp only [thenK, blockK, noGotoK]))
  (first|refine qE ?_|refine qD ?_);(simp only [go_sem,↓dP,↓reduceIte];with_reducible and_intros;all_goals first|apply qA|exact qC|skip)
  (refine Ok.ret ?_; (try dsimp only [thenK, blockK, noGotoK]); simp only [toList_mk, List.toList_toArray, retK_ret, retK_normal, resOK, resV, celV, rowV, frzAll, frzT, subV, subL, go_sem,↓dP,↓reduceIte])
  ((repeat' with_reducible apply And.intro) <;> (first | exact DEq.refl _ | refine DEq.int ?_ | refine DEq.bool ?_ | skip))
theorem c_tListed (l : List Int) (v : Int) (hl : l.length < 1000000) : Ctr Tryz.prog 19 [ilS l, iS v] (bS (decide (v ∈ l))) := by
 rw [← any_mem]
 (refine Ctr.mk (fn := Tryz.f19) rfl rfl rfl rfl rfl Tryz.results19 ?_; intro _; dsimp only [args, List.toList_toArray])
 (first|refine qE ?_|refine qD ?_);(simp only [go_sem,↓dP,↓reduceIte];with_reducible and_intros;all_goals first|apply qA|exact qC|skip)
 refine Ok.seq ?_
 (first|refine qE ?_|refine qD ?_);(simp only [go_sem,↓dP,↓reduceIte];with_reducible and_intros;all_goals first|apply qA|exact qC|skip)
 refine Ok.block ?_
 refine Ok.count l.length (fun i => ⟨[(0, ilS l), (1, iS v), (5, iS i)], [], []⟩) (fun i => ∀ x ∈ l.take i, (v == x) = false) ⟨fun x hx => by simp at hx, ?_⟩ ?_ ?_
 ·(refine Sub.of ([]) ([]) ?_ ?_ ?_ rfl rfl <;> simp only [subB, subB1, subT, subT1, newT, subE, subV, subL, go_sem,↓dP,↓reduceIte] <;> (try (repeat' with_reducible apply And.intro)) <;> (try first | exact DEq.refl _ | refine DEq.int ?_ | refine DEq.bool ?_ | omega))
 ·intro i hi h0
  have hsw : ((l.getD i default == v) : Bool) = (v == l.getD i default) := by rw [Bool.eq_iff_iff]; simp only [beq_iff_eq]; exact ⟨Eq.symm, Eq.symm⟩
  refine Ok.seq ?_; ((first|refine qE ?_|refine qD ?_);(simp only [go_sem,↓dP,↓reduceIte];with_reducible and_intros;all_goals first|apply qA|exact qC|skip)); refine Ok.cond rfl (fun _ => ?_) (fun hb => by simp at hb; omega); (refine Ok.skip ?_; (try dsimp only [thenK, blockK, noGotoK])); refine Ok.seq ?_; refine Ok.block ?_
  (first|refine qE ?_|refine qD ?_);(simp only [go_sem,↓dP,↓reduceIte];with_reducible and_intros;all_goals first|apply qA|exact qC|skip)
  refine Ok.cond rfl ?_ ?_
  ·intro hp
   rw [hsw] at hp
   (first|refine qE ?_|refine qD ?_);(simp only [go_sem,↓dP,↓reduceIte];with_reducible and_intros;all_goals first|apply qA|exact qC|skip)
   (refine Ok.ret ?_; (try dsimp only [thenK, blockK, noGotoK]); simp only [toList_mk, List.toList_toArray, retK_ret, retK_normal, resOK, resV, celV, rowV, frzAll, frzT, subV, subL, go_sem,↓dP,↓reduceIte])
   refine DEq.bool ?_
   rw [List.any_eq_true.2 ⟨_, getD_mem hi, hp⟩]
  ·intro hp
   rw [hsw] at hp
   (refine Ok.skip ?_; (try dsimp only [thenK, blockK, noGotoK]))
   (first|refine qE ?_|refine qD ?_);(simp only [go_sem,↓dP,↓reduceIte];with_reducible and_intros;all_goals first|apply qA|exact qC|skip)
   (try dsimp only [thenK, blockK, noGotoK])
   refine ⟨no_step hi h0 hp, ?_⟩
   (refine Sub.of ([]) ([]) ?_ ?_ ?_ rfl rfl <;> simp only [subB, subB1, subT, subT1, newT, subE, subV, subL, go_sem,↓dP,↓reduceIte] <;> (try (repeat' with_reducible apply And.intro)) <;> (try first | exact DEq.refl _ | refine DEq.int ?_ | refine DEq.bool ?_ | omega))
 ·intro h0
  refine Ok.seq ?_; ((first|refine qE ?_|refine qD ?_);(simp only [go_sem,↓dP,↓reduceIte];with_reducible and_intros;all_goals first|apply qA|exact qC|skip)); refine Ok.cond rfl (fun hb => by simp at hb) (fun _ => ?_); (refine Ok.exit ?_; simp only [thenK_exit, blockK_exit, noGotoK_exit, thenK_normal, blockK_normal, noGotoK_normal, ↓reduceIte, Nat.reduceEqDiff])
  (first|refine qE ?_|refine qD ?_);(simp only [go_sem,↓dP,↓reduceIte];with_reducible and_intros;all_goals first|apply qA|exact qC|skip)
  (refine Ok.ret ?_; (try dsimp only [thenK, blockK, noGotoK]); simp only [toList_mk, List.toList_toArray, retK_ret, retK_normal, resOK, resV, celV, rowV, frzAll, frzT, subV, subL, go_sem,↓dP,↓reduceIte])
  refine DEq.bool ?_
  rw [List.any_eq_false.2 (fun x hx => by simp [h0 x (by simpa using hx)])]
end Go.Proofs.Leaf
namespace Go.Proofs.Leaf
open Go Go.RX Go.Proofs
set_option maxRecDepth 10000
variable [Glob]
theorem c_rJob (J : Job) (hh : J.held) : Ctr Tryz.prog 24 [J.sv] (bS (jobB J)) := by
 have hh1 := hh.1
 have hh2 := hh.2
 (refine Ctr.mk (fn := Tryz.f24) rfl rfl rfl rfl rfl Tryz.results24 ?_; intro _; dsimp only [args, List.toList_toArray])
 (first|refine qE ?_|refine qD ?_);(simp only [go_sem,↓dP,↓reduceIte];with_reducible and_intros;all_goals first|apply qA|exact qC|skip)
 refine Ok.seq ?_
 (first|refine qE ?_|refine qD ?_);(simp only [go_sem,↓dP,↓reduceIte];with_reducible and_intros;all_goals first|apply qA|exact qC|skip)
 (refine AskI.ret (c_rin _ _ _) ?_; simp only [go_sem,↓dP,↓reduceIte];with_reducible and_intros;all_goals first|apply qA|exact qC|skip)
 (refine AskGI.ret (fun _ => c_rin _ _ _) ?_; simp only [go_sem,↓dP,↓reduceIte];with_reducible and_intros;all_goals first|apply qA|exact qC|skip)
 (refine AskGI.ret (fun _ => c_rin _ _ _) ?_; simp only [go_sem,↓dP,↓reduceIte];with_reducible and_intros;all_goals first|apply qA|exact qC|skip)
 ·intro h
  have : inB J.book 1 25 = true := by revert h; cases inB J.book 1 25 <;> simp
  rw [inB_iff] at this
  exact R64 (by omega) (by omega)
 (refine AskGI.ret (fun _ => c_rin _ _ _) ?_; simp only [go_sem,↓dP,↓reduceIte];with_reducible and_intros;all_goals first|apply qA|exact qC|skip)
 (refine AskGI.ret (fun _ => c_rin _ _ _) ?_; simp only [go_sem,↓dP,↓reduceIte];with_reducible and_intros;all_goals first|apply qA|exact qC|skip)
 (refine AskGI.ret (fun _ => c_rin _ _ _) ?_; simp only [go_sem,↓dP,↓reduceIte];with_reducible and_intros;all_goals first|apply qA|exact qC|skip)
 refine Ok.cond rfl ?_ ?_
 ·intro hb
  (first|refine qE ?_|refine qD ?_);(simp only [go_sem,↓dP,↓reduceIte];with_reducible and_intros;all_goals first|apply qA|exact qC|skip)
  (refine Ok.ret ?_; (try dsimp only [thenK, blockK, noGotoK]); simp only [toList_mk, List.toList_toArray, retK_ret, retK_normal, resOK, resV, celV, rowV, frzAll, frzT, subV, subL, go_sem,↓dP,↓reduceIte])
  refine DEq.bool ?_
  have : headB J = false := by
   revert hb
   unfold headB
   cases inB J.wide 1 6 <;> cases inB J.high 1 6 <;> cases inB J.book 1 25 <;> cases inB J.spoilt 0 (J.book - 1) <;> cases inB J.gs.length 1 3 <;> cases inB J.ps.length 1 5 <;> simp
  simp [jobB, this]
 intro hb
 have hhead : headB J = true := by
  revert hb
  unfold headB
  cases inB J.wide 1 6 <;> cases inB J.high 1 6 <;> cases inB J.book 1 25 <;> cases inB J.spoilt 0 (J.book - 1) <;> cases inB J.gs.length 1 3 <;> cases inB J.ps.length 1 5 <;> simp
 (refine Ok.skip ?_; (try dsimp only [thenK, blockK, noGotoK]))
 refine Ok.seq ?_
 (first|refine qE ?_|refine qD ?_);(simp only [go_sem,↓dP,↓reduceIte];with_reducible and_intros;all_goals first|apply qA|exact qC|skip)
 refine Ok.block ?_
 refine Ok.count J.gs.length (fun i => ⟨[(1, .p 0 0), (3, iS i)], [jobC J], []⟩) (fun i => ∀ x ∈ J.gs.take i, (!groundB x) = false) ⟨fun x hx => by simp at hx, ?_⟩ ?_ ?_
 ·(refine Sub.of ([0]) ([]) ?_ ?_ ?_ rfl rfl <;> simp only [subB, subB1, subT, subT1, newT, subE, subV, subL, go_sem,↓dP,↓reduceIte] <;> (try (repeat' with_reducible apply And.intro)) <;> (try first | exact DEq.refl _ | refine DEq.int ?_ | refine DEq.bool ?_ | omega))
 ·intro i hi h0
  refine Ok.seq ?_; ((first|refine qE ?_|refine qD ?_);(simp only [go_sem,↓dP,↓reduceIte];with_reducible and_intros;all_goals first|apply qA|exact qC|skip)); refine Ok.cond rfl (fun _ => ?_) (fun hb => by simp at hb; omega); (refine Ok.skip ?_; (try dsimp only [thenK, blockK, noGotoK])); refine Ok.seq ?_; refine Ok.block ?_
  (first|refine qE ?_|refine qD ?_);(simp only [go_sem,↓dP,↓reduceIte];with_reducible and_intros;all_goals first|apply qA|exact qC|skip)
  (first|refine qE ?_|refine qD ?_);(simp only [go_sem,↓dP,↓reduceIte];with_reducible and_intros;all_goals first|apply qA|exact qC|skip)
  (refine AskI.ret (c_rin _ _ _) ?_; simp only [go_sem,↓dP,↓reduceIte];with_reducible and_intros;all_goals first|apply qA|exact qC|skip)
  (refine AskGI.ret (fun _ => c_rin _ _ _) ?_; simp only [go_sem,↓dP,↓reduceIte];with_reducible and_intros;all_goals first|apply qA|exact qC|skip)
  (refine AskGI.ret (fun _ => c_rin _ _ _) ?_; simp only [go_sem,↓dP,↓reduceIte];with_reducible and_intros;all_goals first|apply qA|exact qC|skip)
  (refine AskGI.ret (fun _ => c_rin _ _ _) ?_; simp only [go_sem,↓dP,↓reduceIte];with_reducible and_intros;all_goals first|apply qA|exact qC|skip)
  have hg : groundB (J.gs.getD i default) = (inB (J.gs.getD i default).rl 0 12 && inB (J.gs.getD i default).rh (J.gs.getD i default).rl 12 && inB (J.gs.getD i default).ll (J.gs.getD i default).rh 12 && inB (J.gs.getD i default).lh (J.gs.getD i default).ll 12) := rfl
  refine Ok.cond rfl ?_ ?_
  ·intro hx
   have hx' : (!groundB (J.gs.getD i default)) = true := by
    rw [hg]
    revert hx
    cases inB (J.gs.getD i default).rl 0 12 <;> cases inB (J.gs.getD i default).rh (J.gs.getD i default).rl 12 <;> cases inB (J.gs.getD i default).ll (J.gs.getD i default).rh 12 <;> cases inB (J.gs.getD i default).lh (J.gs.getD i default).ll 12 <;> simp
   (first|refine qE ?_|refine qD ?_);(simp only [go_sem,↓dP,↓reduceIte];with_reducible and_intros;all_goals first|apply qA|exact qC|skip)
   (refine Ok.ret ?_; (try dsimp only [thenK, blockK, noGotoK]); simp only [toList_mk, List.toList_toArray, retK_ret, retK_normal, resOK, resV, celV, rowV, frzAll, frzT, subV, subL, go_sem,↓dP,↓reduceIte])
   refine DEq.bool ?_
   have : J.gs.any (fun g => !groundB g) = true := List.any_eq_true.2 ⟨_, getD_mem hi, hx'⟩
   rw [jobB, all_any, this]; simp
  ·intro hx
   have hx' : (!groundB (J.gs.getD i default)) = false := by
    rw [hg]
    revert hx
    cases inB (J.gs.getD i default).rl 0 12 <;> cases inB (J.gs.getD i default).rh (J.gs.getD i default).rl 12 <;> cases inB (J.gs.getD i default).ll (J.gs.getD i default).rh 12 <;> cases inB (J.gs.getD i default).lh (J.gs.getD i default).ll 12 <;> simp
   (refine Ok.skip ?_; (try dsimp only [thenK, blockK, noGotoK]))
   (first|refine qE ?_|refine qD ?_);(simp only [go_sem,↓dP,↓reduceIte];with_reducible and_intros;all_goals first|apply qA|exact qC|skip)
   (try dsimp only [thenK, blockK, noGotoK])
   refine ⟨no_step (q := fun g => !groundB g) hi h0 hx', ?_⟩
   (refine Sub.of ([0]) ([]) ?_ ?_ ?_ rfl rfl <;> simp only [subB, subB1, subT, subT1, newT, subE, subV, subL, go_sem,↓dP,↓reduceIte] <;> (try (repeat' with_reducible apply And.intro)) <;> (try first | exact DEq.refl _ | refine DEq.int ?_ | refine DEq.bool ?_ | omega))
 intro h0
 have hgs : J.gs.any (fun g => !groundB g) = false := List.any_eq_false.2 (fun x hx => by simp [h0 x (by simpa using hx)])
 refine Ok.seq ?_; ((first|refine qE ?_|refine qD ?_);(simp only [go_sem,↓dP,↓reduceIte];with_reducible and_intros;all_goals first|apply qA|exact qC|skip)); refine Ok.cond rfl (fun hb => by simp at hb) (fun _ => ?_); (refine Ok.exit ?_; simp only [thenK_exit, blockK_exit, noGotoK_exit, thenK_normal, blockK_normal, noGotoK_normal, ↓reduceIte, Nat.reduceEqDiff])
 refine Ok.seq ?_
 (first|refine qE ?_|refine qD ?_);(simp only [go_sem,↓dP,↓reduceIte];with_reducible and_intros;all_goals first|apply qA|exact qC|skip)
 refine Ok.block ?_
 refine Ok.count J.ps.length (fun i => ⟨[(1, .p 0 0), (5, iS i)], [jobC J], []⟩) (fun i => ∀ x ∈ J.ps.take i, (!pieceB J.gs.length x) = false) ⟨fun x hx => by simp at hx, ?_⟩ ?_ ?_
 ·(refine Sub.of ([0]) ([]) ?_ ?_ ?_ rfl rfl <;> simp only [subB, subB1, subT, subT1, newT, subE, subV, subL, go_sem,↓dP,↓reduceIte] <;> (try (repeat' with_reducible apply And.intro)) <;> (try first | exact DEq.refl _ | refine DEq.int ?_ | refine DEq.bool ?_ | omega))
 ·intro i hi h0
  refine Ok.seq ?_; ((first|refine qE ?_|refine qD ?_);(simp only [go_sem,↓dP,↓reduceIte];with_reducible and_intros;all_goals first|apply qA|exact qC|skip)); refine Ok.cond rfl (fun _ => ?_) (fun hb => by simp at hb; omega); (refine Ok.skip ?_; (try dsimp only [thenK, blockK, noGotoK])); refine Ok.seq ?_; refine Ok.block ?_
  (first|refine qE ?_|refine qD ?_);(simp only [go_sem,↓dP,↓reduceIte];with_reducible and_intros;all_goals first|apply qA|exact qC|skip)
  (first|refine qE ?_|refine qD ?_);(simp only [go_sem,↓dP,↓reduceIte];with_reducible and_intros;all_goals first|apply qA|exact qC|skip)
  (refine AskI.ret (c_rin _ _ _) ?_; simp only [go_sem,↓dP,↓reduceIte];with_reducible and_intros;all_goals first|apply qA|exact qC|skip)
  (refine AskGI.ret (fun _ => c_rin _ _ _) ?_; simp only [go_sem,↓dP,↓reduceIte];with_reducible and_intros;all_goals first|apply qA|exact qC|skip)
  (refine AskGI.ret (fun _ => c_rin _ _ _) ?_; simp only [go_sem,↓dP,↓reduceIte];with_reducible and_intros;all_goals first|apply qA|exact qC|skip)
  have hg : pieceB J.gs.length (J.ps.getD i default) = (inB (J.ps.getD i default).w 1 6 && inB (J.ps.getD i default).h 1 6 && inB (J.ps.getD i default).g 0 (J.gs.length - 1)) := rfl
  refine Ok.cond rfl ?_ ?_
  ·intro hx
   have hx' : (!pieceB J.gs.length (J.ps.getD i default)) = true := by
    rw [hg]
    revert hx
    cases inB (J.ps.getD i default).w 1 6 <;> cases inB (J.ps.getD i default).h 1 6 <;> cases inB (J.ps.getD i default).g 0 (J.gs.length - 1) <;> simp
   (first|refine qE ?_|refine qD ?_);(simp only [go_sem,↓dP,↓reduceIte];with_reducible and_intros;all_goals first|apply qA|exact qC|skip)
   (refine Ok.ret ?_; (try dsimp only [thenK, blockK, noGotoK]); simp only [toList_mk, List.toList_toArray, retK_ret, retK_normal, resOK, resV, celV, rowV, frzAll, frzT, subV, subL, go_sem,↓dP,↓reduceIte])
   refine DEq.bool ?_
   have : J.ps.any (fun p => !pieceB J.gs.length p) = true := List.any_eq_true.2 ⟨_, getD_mem hi, hx'⟩
   rw [jobB, all_any J.ps, this]; simp
  ·intro hx
   have hx' : (!pieceB J.gs.length (J.ps.getD i default)) = false := by
    rw [hg]
    revert hx
    cases inB (J.ps.getD i default).w 1 6 <;> cases inB (J.ps.getD i default).h 1 6 <;> cases inB (J.ps.getD i default).g 0 (J.gs.length - 1) <;> simp
   (refine Ok.skip ?_; (try dsimp only [thenK, blockK, noGotoK]))
   (first|refine qE ?_|refine qD ?_);(simp only [go_sem,↓dP,↓reduceIte];with_reducible and_intros;all_goals first|apply qA|exact qC|skip)
   (try dsimp only [thenK, blockK, noGotoK])
   refine ⟨no_step (q := fun p => !pieceB J.gs.length p) hi h0 hx', ?_⟩
   (refine Sub.of ([0]) ([]) ?_ ?_ ?_ rfl rfl <;> simp only [subB, subB1, subT, subT1, newT, subE, subV, subL, go_sem,↓dP,↓reduceIte] <;> (try (repeat' with_reducible apply And.intro)) <;> (try first | exact DEq.refl _ | refine DEq.int ?_ | refine DEq.bool ?_ | omega))
 ·intro h0
  have hps : J.ps.any (fun p => !pieceB J.gs.length p) = false := List.any_eq_false.2 (fun x hx => by simp [h0 x (by simpa using hx)])
  refine Ok.seq ?_; ((first|refine qE ?_|refine qD ?_);(simp only [go_sem,↓dP,↓reduceIte];with_reducible and_intros;all_goals first|apply qA|exact qC|skip)); refine Ok.cond rfl (fun hb => by simp at hb) (fun _ => ?_); (refine Ok.exit ?_; simp only [thenK_exit, blockK_exit, noGotoK_exit, thenK_normal, blockK_normal, noGotoK_normal, ↓reduceIte, Nat.reduceEqDiff])
  (first|refine qE ?_|refine qD ?_);(simp only [go_sem,↓dP,↓reduceIte];with_reducible and_intros;all_goals first|apply qA|exact qC|skip)
  (refine Ok.ret ?_; (try dsimp only [thenK, blockK, noGotoK]); simp only [toList_mk, List.toList_toArray, retK_ret, retK_normal, resOK, resV, celV, rowV, frzAll, frzT, subV, subL, go_sem,↓dP,↓reduceIte])
  refine DEq.bool ?_
  rw [jobB, hhead, all_any, all_any, hgs, hps]
  rfl
end Go.Proofs.Leaf
namespace Go.Proofs.Leaf
open Go Go.RX Go.Proofs
set_option maxRecDepth 10000
variable [Glob]
theorem before_at : ∀ (a b : List Int) (i : Nat), i < a.length → i < b.length → (∀ j, j < i → a.getD j default = b.getD j default) → a.getD i default ≠ b.getD i default → beforeL a b = decide (a.getD i default < b.getD i default)
 | x :: a, y :: b, 0, _, _, _, hne => by
  simp only [List.getD_cons_zero] at hne ⊢
  rw [beforeL, if_neg hne]
 | x :: a, y :: b, i + 1, h1, h2, he, hne => by
  have h0 := he 0 (by omega)
  simp only [List.getD_cons_zero] at h0
  simp only [List.getD_cons_succ] at hne ⊢
  rw [beforeL, if_pos h0]
  exact before_at a b i (by simpa using h1) (by simpa using h2) (fun j hj => by simpa using he (j + 1) (by omega)) hne
 | [], _, _, h, _, _, _ => by simp at h
 | _ :: _, [], _, _, h, _, _ => by simp at h
theorem before_end : ∀ (a b : List Int), (∀ j, j < min a.length b.length → a.getD j default = b.getD j default) → beforeL a b = decide (a.length < b.length)
 | [], [], _ => rfl
 | [], _ :: _, _ => by simp [beforeL]
 | _ :: _, [], _ => by simp [beforeL]
 | x :: a, y :: b, he => by
  have h0 := he 0 (by simp)
  simp only [List.getD_cons_zero] at h0
  rw [beforeL, if_pos h0, before_end a b (fun j hj => by simpa using he (j + 1) (by simp; omega))]
  simp
theorem c_tBefore (a b : List Int) (ha : a.length < 1000000) (hb' : b.length < 1000000) : Ctr Tryz.prog 29 [ilS a, ilS b] (bS (beforeL a b)) := by
 (refine Ctr.mk (fn := Tryz.f29) rfl rfl rfl rfl rfl Tryz.results29 ?_; intro _; dsimp only [args, List.toList_toArray])
 (first|refine qE ?_|refine qD ?_);(simp only [go_sem,↓dP,↓reduceIte];with_reducible and_intros;all_goals first|apply qA|exact qC|skip)
 refine Ok.seq ?_
 (first|refine qE ?_|refine qD ?_);(simp only [go_sem,↓dP,↓reduceIte];with_reducible and_intros;all_goals first|apply qA|exact qC|skip)
 refine Ok.block ?_
 refine Ok.count (min a.length b.length) (fun i => ⟨[(0, ilS a), (1, ilS b), (5, iS i)], [], []⟩) (fun i => ∀ j, j < i → a.getD j default = b.getD j default) ⟨fun j hj => by omega, ?_⟩ ?_ ?_
 ·(refine Sub.of ([]) ([]) ?_ ?_ ?_ rfl rfl <;> simp only [subB, subB1, subT, subT1, newT, subE, subV, subL, go_sem,↓dP,↓reduceIte] <;> (try (repeat' with_reducible apply And.intro)) <;> (try first | exact DEq.refl _ | refine DEq.int ?_ | refine DEq.bool ?_ | omega))
 ·intro i hi hJ
  have e1 : (decide ((i : Int) < a.length) && decide ((i : Int) < b.length)) = true := by simp; omega
  refine Ok.seq ?_
  (first|refine qE ?_|refine qD ?_);(simp only [go_sem,↓dP,↓reduceIte];with_reducible and_intros;all_goals first|apply qA|exact qC|skip)
  rw [e1]
  refine Ok.cond (b := true) (by first | rfl | (simp only [go_sem,↓dP,↓reduceIte]; rfl)) (fun _ => ?_) (fun hb => by cases hb)
  (refine Ok.skip ?_; (try dsimp only [thenK, blockK, noGotoK]))
  refine Ok.seq ?_
  refine Ok.block ?_
  (first|refine qE ?_|refine qD ?_);(simp only [go_sem,↓dP,↓reduceIte];with_reducible and_intros;all_goals first|apply qA|exact qC|skip)
  refine Ok.cond rfl ?_ ?_
  ·intro hx
   have hne : a.getD i default ≠ b.getD i default := by simpa using hx
   (first|refine qE ?_|refine qD ?_);(simp only [go_sem,↓dP,↓reduceIte];with_reducible and_intros;all_goals first|apply qA|exact qC|skip)
   (refine Ok.ret ?_; (try dsimp only [thenK, blockK, noGotoK]); simp only [toList_mk, List.toList_toArray, retK_ret, retK_normal, resOK, resV, celV, rowV, frzAll, frzT, subV, subL, go_sem,↓dP,↓reduceIte])
   rw [before_at a b i (by omega) (by omega) hJ hne]
   exact .refl _
  ·intro hx
   have he : a.getD i default = b.getD i default := by simpa using hx
   (refine Ok.skip ?_; (try dsimp only [thenK, blockK, noGotoK]))
   (first|refine qE ?_|refine qD ?_);(simp only [go_sem,↓dP,↓reduceIte];with_reducible and_intros;all_goals first|apply qA|exact qC|skip)
   (try dsimp only [thenK, blockK, noGotoK])
   refine ⟨fun j hj => ?_, ?_⟩
   ·by_cases e : j = i
    ·subst e; exact he
    ·exact hJ j (by omega)
   (refine Sub.of ([]) ([]) ?_ ?_ ?_ rfl rfl <;> simp only [subB, subB1, subT, subT1, newT, subE, subV, subL, go_sem,↓dP,↓reduceIte] <;> (try (repeat' with_reducible apply And.intro)) <;> (try first | exact DEq.refl _ | refine DEq.int ?_ | refine DEq.bool ?_ | omega))
 ·intro hJ
  have e1 : (decide (((min a.length b.length : Nat) : Int) < a.length) && decide (((min a.length b.length : Nat) : Int) < b.length)) = false := by simp; omega
  refine Ok.seq ?_
  (first|refine qE ?_|refine qD ?_);(simp only [go_sem,↓dP,↓reduceIte];with_reducible and_intros;all_goals first|apply qA|exact qC|skip)
  rw [e1]
  refine Ok.cond (b := false) (by first | rfl | (simp only [go_sem,↓dP,↓reduceIte]; rfl)) (fun hb => by cases hb) (fun _ => ?_)
  (refine Ok.exit ?_; simp only [thenK_exit, blockK_exit, noGotoK_exit, thenK_normal, blockK_normal, noGotoK_normal, ↓reduceIte, Nat.reduceEqDiff])
  (first|refine qE ?_|refine qD ?_);(simp only [go_sem,↓dP,↓reduceIte];with_reducible and_intros;all_goals first|apply qA|exact qC|skip)
  (refine Ok.ret ?_; (try dsimp only [thenK, blockK, noGotoK]); simp only [toList_mk, List.toList_toArray, retK_ret, retK_normal, resOK, resV, celV, rowV, frzAll, frzT, subV, subL, go_sem,↓dP,↓reduceIte])
  rw [before_end a b hJ]
  refine DEq.bool ?_
  simp
end Go.Proofs.Leaf
namespace Go.Proofs.Leaf
open Go Go.RX Go.Proofs
set_option maxRecDepth 10000
variable [Glob]
def wordB (w : Int) : Bool := decide (1 ≤ w) && decide (w ≤ 3)
theorem c_lword (w : Int) : Ctr Tryz.prog 35 [iS w] (bS (wordB w)) := by
 (refine Ctr.mk (fn := Tryz.f35) rfl rfl rfl rfl rfl Tryz.results35 ?_; intro _; dsimp only [args, List.toList_toArray])
 (first|refine qE ?_|refine qD ?_);(simp only [go_sem,↓dP,↓reduceIte];with_reducible and_intros;all_goals first|apply qA|exact qC|skip)
 (first|refine qE ?_|refine qD ?_);(simp only [go_sem,↓dP,↓reduceIte];with_reducible and_intros;all_goals first|apply qA|exact qC|skip)
 (refine Ok.ret ?_; (try dsimp only [thenK, blockK, noGotoK]); simp only [toList_mk, List.toList_toArray, retK_ret, retK_normal, resOK, resV, celV, rowV, frzAll, frzT, subV, subL, go_sem,↓dP,↓reduceIte])
 exact .refl _
def shortB (J : Job) : Bool := decide (J.gs.length ≤ 5) && decide (J.ps.length ≤ 7)
theorem c_lshort (J : Job) (h : J.far) : Ctr Tryz.prog 21 [J.sv] (bS (shortB J)) := by
 have h1 := h.1
 have h2 := h.2
 (refine Ctr.mk (fn := Tryz.f21) rfl rfl rfl rfl rfl Tryz.results21 ?_; intro _; dsimp only [args, List.toList_toArray])
 (first|refine qE ?_|refine qD ?_);(simp only [go_sem,↓dP,↓reduceIte];with_reducible and_intros;all_goals first|apply qA|exact qC|skip)
 (first|refine qE ?_|refine qD ?_);(simp only [go_sem,↓dP,↓reduceIte];with_reducible and_intros;all_goals first|apply qA|exact qC|skip)
 (refine Ok.ret ?_; (try dsimp only [thenK, blockK, noGotoK]); simp only [toList_mk, List.toList_toArray, retK_ret, retK_normal, resOK, resV, celV, rowV, frzAll, frzT, subV, subL, go_sem,↓dP,↓reduceIte])
 refine DEq.bool ?_
 unfold shortB
 by_cases g1 : J.gs.length ≤ 5 <;> by_cases g2 : J.ps.length ≤ 7 <;> simp [g1, g2] <;> omega
theorem short_held {J : Job} (h : shortB J = true) : J.held := by
 simp only [shortB, Bool.and_eq_true, decide_eq_true_eq] at h
 exact ⟨by omega, by omega⟩
def slimB (l : List Int) : Bool := decide (l.length ≤ 8)
theorem c_lslim (l : List Int) (h : l.length ≤ 9223372036854775807) : Ctr Tryz.prog 15 [ilS l] (bS (slimB l)) := by
 (refine Ctr.mk (fn := Tryz.f15) rfl rfl rfl rfl rfl Tryz.results15 ?_; intro _; dsimp only [args, List.toList_toArray])
 (first|refine qE ?_|refine qD ?_);(simp only [go_sem,↓dP,↓reduceIte];with_reducible and_intros;all_goals first|apply qA|exact qC|skip)
 (first|refine qE ?_|refine qD ?_);(simp only [go_sem,↓dP,↓reduceIte];with_reducible and_intros;all_goals first|apply qA|exact qC|skip)
 (refine Ok.ret ?_; (try dsimp only [thenK, blockK, noGotoK]); simp only [toList_mk, List.toList_toArray, retK_ret, retK_normal, resOK, resV, celV, rowV, frzAll, frzT, subV, subL, go_sem,↓dP,↓reduceIte])
 refine DEq.bool ?_
 unfold slimB
 by_cases g : l.length ≤ 8 <;> simp [g] <;> omega
def rightB (J : Job) : Bool := shortB J && jobB J
theorem c_lright (J : Job) (h : J.far) : Ctr Tryz.prog 14 [J.sv] (bS (rightB J)) := by
 (refine Ctr.mk (fn := Tryz.f14) rfl rfl rfl rfl rfl Tryz.results14 ?_; intro _; dsimp only [args, List.toList_toArray])
 (first|refine qE ?_|refine qD ?_);(simp only [go_sem,↓dP,↓reduceIte];with_reducible and_intros;all_goals first|apply qA|exact qC|skip)
 (first|refine qE ?_|refine qD ?_);(simp only [go_sem,↓dP,↓reduceIte];with_reducible and_intros;all_goals first|apply qA|exact qC|skip)
 (refine AskI.ret (c_lshort J h) ?_; simp only [go_sem,↓dP,↓reduceIte];with_reducible and_intros;all_goals first|apply qA|exact qC|skip)
 (refine AskGI.ret (fun h => c_rJob J (short_held (by simpa using h))) ?_; simp only [go_sem,↓dP,↓reduceIte];with_reducible and_intros;all_goals first|apply qA|exact qC|skip)
 (refine Ok.ret ?_; (try dsimp only [thenK, blockK, noGotoK]); simp only [toList_mk, List.toList_toArray, retK_ret, retK_normal, resOK, resV, celV, rowV, frzAll, frzT, subV, subL, go_sem,↓dP,↓reduceIte])
 refine DEq.bool ?_
 unfold rightB
 cases shortB J <;> simp
def hourAt (J : Job) (l : List Int) (may : Bool) (i : Nat) : Bool := (l.getD i default == -1) || (inB (l.getD i default) (J.span may i).1 (J.span may i).2 && !decide (l.getD i default ∈ l.take i))
def hourlyB (J : Job) (l : List Int) (may : Bool) : Bool := decide (l.length = J.ps.length) && (List.range l.length).all (hourAt J l may)
theorem c_rHourly (J : Job) (hJ : J.based) (hn : J.ps.length ≤ 100) (l : List Int) (hl : l.length < 1000000) (may : Bool) : Ctr Tryz.prog 88 [J.sv, ilS l, bS may] (bS (hourlyB J l may)) := by
 (refine Ctr.mk (fn := Tryz.f88) rfl rfl rfl rfl rfl Tryz.results88 ?_; intro _; dsimp only [args, List.toList_toArray])
 (first|refine qE ?_|refine qD ?_);(simp only [go_sem,↓dP,↓reduceIte];with_reducible and_intros;all_goals first|apply qA|exact qC|skip)
 refine Ok.seq ?_
 (first|refine qE ?_|refine qD ?_);(simp only [go_sem,↓dP,↓reduceIte];with_reducible and_intros;all_goals first|apply qA|exact qC|skip)
 refine Ok.cond rfl ?_ ?_
 ·intro hb
  have hne : ¬ l.length = J.ps.length := by simp at hb; omega
  (first|refine qE ?_|refine qD ?_);(simp only [go_sem,↓dP,↓reduceIte];with_reducible and_intros;all_goals first|apply qA|exact qC|skip)
  (refine Ok.ret ?_; (try dsimp only [thenK, blockK, noGotoK]); simp only [toList_mk, List.toList_toArray, retK_ret, retK_normal, resOK, resV, celV, rowV, frzAll, frzT, subV, subL, go_sem,↓dP,↓reduceIte])
  rw [hourlyB, decide_eq_false hne]
  exact .refl _
 intro hb
 have hlen : l.length = J.ps.length := by simp at hb; omega
 (refine Ok.skip ?_; (try dsimp only [thenK, blockK, noGotoK]))
 refine Ok.seq ?_
 (first|refine qE ?_|refine qD ?_);(simp only [go_sem,↓dP,↓reduceIte];with_reducible and_intros;all_goals first|apply qA|exact qC|skip)
 refine Ok.block ?_
 refine Ok.count l.length (fun i => ⟨[(1, ilS l), (2, bS may), (3, .p 0 0), (7, iS i)], [jobC J], []⟩) (fun i => ∀ j, j < i → hourAt J l may j = true) ⟨fun j hj => by omega, ?_⟩ ?_ ?_
 ·(refine Sub.of ([0]) ([]) ?_ ?_ ?_ rfl rfl <;> simp only [subB, subB1, subT, subT1, newT, subE, subV, subL, go_sem,↓dP,↓reduceIte] <;> (try (repeat' with_reducible apply And.intro)) <;> (try first | exact DEq.refl _ | refine DEq.int ?_ | refine DEq.bool ?_ | omega))
 ·intro i hi hJ2
  have a1 : Ctr Tryz.prog 19 [.d (.sl 1 ((i : Int) - 0).toNat (fun a c => intD (l.getD a default) c)), iS (l.getD i default)] (bS (decide (l.getD i default ∈ l.take i))) := by
   have a := c_tListed (l.take i) (l.getD i default) (by simp; omega)
   refine a.args ⟨?_, .refl _, trivial⟩
   refine DEq.sl (by simp; omega) (fun a c ha hc => .of_eq ?_)
   have hai : a < i := by omega
   simp [List.getD_eq_getElem?_getD, List.getElem?_take, hai]
  have hst : hourAt J l may i = ((l.getD i default == -1) || (inB (l.getD i default) (J.span may i).1 (J.span may i).2 && !decide (l.getD i default ∈ l.take i))) := rfl
  refine Ok.seq ?_; ((first|refine qE ?_|refine qD ?_);(simp only [go_sem,↓dP,↓reduceIte];with_reducible and_intros;all_goals first|apply qA|exact qC|skip)); refine Ok.cond rfl (fun _ => ?_) (fun hb => by simp at hb; omega); (refine Ok.skip ?_; (try dsimp only [thenK, blockK, noGotoK])); refine Ok.seq ?_; refine Ok.block ?_
  refine Ok.seq ?_
  (first|refine qE ?_|refine qD ?_);(simp only [go_sem,↓dP,↓reduceIte];with_reducible and_intros;all_goals first|apply qA|exact qC|skip)
  (refine AskI.ret (c_rHours J hJ i (by omega) (by omega) may) ?_; simp only [go_sem,↓dP,↓reduceIte];with_reducible and_intros;all_goals first|apply qA|exact qC|skip)
  (first|refine qE ?_|refine qD ?_);(simp only [go_sem,↓dP,↓reduceIte];with_reducible and_intros;all_goals first|apply qA|exact qC|skip)
  (refine AskGI.ret (fun _ => c_rin _ _ _) ?_; simp only [go_sem,↓dP,↓reduceIte];with_reducible and_intros;all_goals first|apply qA|exact qC|skip)
  (refine AskGI.ret (fun _ => a1) ?_; simp only [go_sem,↓dP,↓reduceIte];with_reducible and_intros;all_goals first|apply qA|exact qC|skip)
  refine Ok.cond rfl ?_ ?_
  ·intro hx
   have hF : hourAt J l may i = false := by
    rw [hst]
    revert hx
    rw [bne]
    cases l.getD i default == -1 <;> cases inB (l.getD i default) (J.span may i).1 (J.span may i).2 <;> simp
   (first|refine qE ?_|refine qD ?_);(simp only [go_sem,↓dP,↓reduceIte];with_reducible and_intros;all_goals first|apply qA|exact qC|skip)
   (refine Ok.ret ?_; (try dsimp only [thenK, blockK, noGotoK]); simp only [toList_mk, List.toList_toArray, retK_ret, retK_normal, resOK, resV, celV, rowV, frzAll, frzT, subV, subL, go_sem,↓dP,↓reduceIte])
   rw [hourlyB, List.all_eq_false.2 ⟨i, List.mem_range.2 hi, by rw [hF]; simp⟩, Bool.and_false]
   exact .refl _
  ·intro hx
   have hT : hourAt J l may i = true := by
    rw [hst]
    revert hx
    rw [bne]
    cases l.getD i default == -1 <;> cases inB (l.getD i default) (J.span may i).1 (J.span may i).2 <;> simp
   (refine Ok.skip ?_; (try dsimp only [thenK, blockK, noGotoK]))
   (first|refine qE ?_|refine qD ?_);(simp only [go_sem,↓dP,↓reduceIte];with_reducible and_intros;all_goals first|apply qA|exact qC|skip)
   (try dsimp only [thenK, blockK, noGotoK])
   refine ⟨fun j hj => ?_, ?_⟩
   ·by_cases e : j = i
    ·subst e; exact hT
    ·exact hJ2 j (by omega)
   (refine Sub.of ([0]) ([]) ?_ ?_ ?_ rfl rfl <;> simp only [subB, subB1, subT, subT1, newT, subE, subV, subL, go_sem,↓dP,↓reduceIte] <;> (try (repeat' with_reducible apply And.intro)) <;> (try first | exact DEq.refl _ | refine DEq.int ?_ | refine DEq.bool ?_ | omega))
 ·intro hJ2
  refine Ok.seq ?_; ((first|refine qE ?_|refine qD ?_);(simp only [go_sem,↓dP,↓reduceIte];with_reducible and_intros;all_goals first|apply qA|exact qC|skip)); refine Ok.cond rfl (fun hb => by simp at hb) (fun _ => ?_); (refine Ok.exit ?_; simp only [thenK_exit, blockK_exit, noGotoK_exit, thenK_normal, blockK_normal, noGotoK_normal, ↓reduceIte, Nat.reduceEqDiff])
  (first|refine qE ?_|refine qD ?_);(simp only [go_sem,↓dP,↓reduceIte];with_reducible and_intros;all_goals first|apply qA|exact qC|skip)
  (refine Ok.ret ?_; (try dsimp only [thenK, blockK, noGotoK]); simp only [toList_mk, List.toList_toArray, retK_ret, retK_normal, resOK, resV, celV, rowV, frzAll, frzT, subV, subL, go_sem,↓dP,↓reduceIte])
  rw [hourlyB, decide_eq_true hlen, List.all_eq_true.2 (fun j hj => hJ2 j (List.mem_range.1 hj))]
  exact .refl _
theorem c_lhourly (J : Job) (hJ : J.based) (hn : J.ps.length ≤ 100) (l : List Int) (hl : l.length < 1000000) (may : Bool) : Ctr Tryz.prog 47 [J.sv, ilS l, bS may] (bS (hourlyB J l may && !decide ((-1 : Int) ∈ l))) := by
 (refine Ctr.mk (fn := Tryz.f47) rfl rfl rfl rfl rfl Tryz.results47 ?_; intro _; dsimp only [args, List.toList_toArray])
 (first|refine qE ?_|refine qD ?_);(simp only [go_sem,↓dP,↓reduceIte];with_reducible and_intros;all_goals first|apply qA|exact qC|skip)
 (first|refine qE ?_|refine qD ?_);(simp only [go_sem,↓dP,↓reduceIte];with_reducible and_intros;all_goals first|apply qA|exact qC|skip)
 (refine AskI.ret (c_rHourly J hJ hn l hl may) ?_; simp only [go_sem,↓dP,↓reduceIte];with_reducible and_intros;all_goals first|apply qA|exact qC|skip)
 (refine AskGI.ret (fun _ => c_tListed l (-1) hl) ?_; simp only [go_sem,↓dP,↓reduceIte];with_reducible and_intros;all_goals first|apply qA|exact qC|skip)
 (refine Ok.ret ?_; (try dsimp only [thenK, blockK, noGotoK]); simp only [toList_mk, List.toList_toArray, retK_ret, retK_normal, resOK, resV, celV, rowV, frzAll, frzT, subV, subL, go_sem,↓dP,↓reduceIte])
 refine DEq.bool ?_
 cases hourlyB J l may <;> simp
theorem hourly_plan (J : Job) (l : List Int) (may : Bool) (h0 : ∀ i, i < J.ps.length → 0 ≤ (J.span may i).1) : (hourlyB J l may && !decide ((-1 : Int) ∈ l)) = true ↔ l ∈ planL (spans J may) [] := by
 rw [plan_iff, within_iff, spans_len, Bool.and_eq_true, hourlyB, Bool.and_eq_true, decide_eq_true_iff, List.all_eq_true, Bool.not_eq_true', decide_eq_false_iff_not]
 have hsp : ∀ i, i < J.ps.length → (spans J may).getD i default = J.span may i := fun i hi => span_at J may hi
 have key : ∀ i, hourAt J l may i = true ↔ (l.getD i default = -1 ∨ ((J.span may i).1 ≤ l.getD i default ∧ l.getD i default ≤ (J.span may i).2) ∧ l.getD i default ∉ l.take i) := fun i => by
  unfold hourAt
  rw [Bool.or_eq_true, Bool.and_eq_true, beq_iff_eq, inB_iff, Bool.not_eq_true', decide_eq_false_iff_not]
 constructor
 ·rintro ⟨⟨h1, h2⟩, h3⟩
  have h4 : ∀ i, i < l.length → ((J.span may i).1 ≤ l.getD i default ∧ l.getD i default ≤ (J.span may i).2) ∧ l.getD i default ∉ l.take i := fun i hi => by
   rcases (key i).1 (h2 i (List.mem_range.2 hi)) with q | q
   ·exact absurd (q ▸ getD_mem hi) h3
   ·exact q
  refine ⟨⟨h1, fun i hi => by rw [hsp i hi]; exact (h4 i (by omega)).1⟩, ?_⟩
  rw [List.nodup_iff_pairwise_ne, List.pairwise_iff_getElem]
  intro i j hi hj hij e
  have := (h4 j hj).2
  apply this
  rw [getD_lt hj, ← e, List.mem_take_iff_getElem]
  exact ⟨i, by omega, rfl⟩
 ·rintro ⟨⟨h1, h2⟩, h3⟩
  rw [List.nodup_iff_pairwise_ne, List.pairwise_iff_getElem] at h3
  refine ⟨⟨h1, fun i hi => (key i).2 (.inr ?_)⟩, fun hm => ?_⟩
  ·have hi := List.mem_range.1 hi
   have := h2 i (by omega)
   rw [hsp i (by omega)] at this
   refine ⟨this, fun hm => ?_⟩
   rw [List.mem_take_iff_getElem] at hm
   obtain ⟨j, hj, e⟩ := hm
   rw [getD_lt hi] at e
   exact h3 j i (by omega) hi (by omega) e
  ·obtain ⟨i, hi, e⟩ := List.mem_iff_getElem.1 hm
   have h4 := h2 i (by omega)
   rw [hsp i (by omega)] at h4
   have h5 := h0 i (by omega)
   have : l.getD i 0 = -1 := by
    have := getD_lt (l := l) hi
    rw [e] at this; exact this
   omega
end Go.Proofs.Leaf
namespace Go.Proofs.YtojfpogcfpmblaaGreatDoor
open Go Go.RX Go.Proofs.Leaf Go.RowKit Go.ChangeShapes Go.WideShapes Go.ChangeAt
set_option maxRecDepth 100000
section
variable {H : Type} {enc : TypeId × Value → H} {W : World}
end
theorem opensAll_cons {t : TypeId} {ts : List TypeId} {As : List SV} (h : opensAll (t :: ts) As) : ∃ A Bs, As = A :: Bs ∧ opens t A ∧ opensAll ts Bs := by
 cases As with
 | nil => exact h.elim
 | cons A Bs => exact ⟨A, Bs, rfl, h.1, h.2⟩
theorem opensAll_nil {As : List SV} (h : opensAll [] As) : As = [] := by
 cases As with
 | nil => rfl
 | cons A Bs => exact h.elim
end Go.Proofs.YtojfpogcfpmblaaGreatDoor
namespace Go.Proofs.Leaf
open Go Go.RX Go.Proofs Go.RowKit
set_option maxRecDepth 100000
section
theorem Job.ok.span0 {J : Job} (h : J.ok) (may : Bool) : ∀ i, i < J.ps.length → 0 ≤ (J.span may i).1 := fun i hi => by
 have h1 := h.span may _ (getD_mem (l := spans J may) (i := i) (by rw [spans_len]; exact hi))
 rw [span_at J may hi] at h1
 exact h1.1
theorem plan_may {J : Job} (h : J.ok) (hp : (planOf J false).isSome = true) : (planOf J true).isSome = true := by
 refine plan_wider (by rw [spans_len, spans_len]) (fun i hi => ?_) hp
 rw [spans_len] at hi
 rw [spans_at J true hi, spans_at J false hi]
 have hg := h.gs _ (h.ground (getD_mem hi))
 unfold spanOf
 simp only [if_true, if_false, Bool.false_eq_true]
 omega
theorem law_Early (J : Job) (hf : J.far) (l : List Int) (hl : l.length ≤ maxLen) : Ctr Tryz.prog 12 [J.sv, ilS l] (bS true) := by
 have hl' : l.length ≤ 9223372036854775807 := Nat.le_trans hl (by decide)
 (refine Ctr.mk (fn := Tryz.f12) rfl rfl rfl rfl rfl Tryz.results12 ?_; intro _; dsimp only [args, List.toList_toArray])
 (first|refine qE ?_|refine qD ?_);(simp only [go_sem,↓dP,↓reduceIte];with_reducible and_intros;all_goals first|apply qA|exact qC|skip)
 refine Ok.seq ?_
 (first|refine qE ?_|refine qD ?_);(simp only [go_sem,↓dP,↓reduceIte];with_reducible and_intros;all_goals first|apply qA|exact qC|skip)
 (refine AskI.ret (c_lright J hf) ?_; simp only [go_sem,↓dP,↓reduceIte];with_reducible and_intros;all_goals first|apply qA|exact qC|skip)
 (refine AskGI.ret (fun _ => c_lslim l hl') ?_; simp only [go_sem,↓dP,↓reduceIte];with_reducible and_intros;all_goals first|apply qA|exact qC|skip)
 refine Ok.cond rfl ?_ ?_
 ·intro hs
  (first|refine qE ?_|refine qD ?_);(simp only [go_sem,↓dP,↓reduceIte];with_reducible and_intros;all_goals first|apply qA|exact qC|skip)
  (refine AskI.ret (c_known) ?_; simp only [go_sem,↓dP,↓reduceIte];with_reducible and_intros;all_goals first|apply qA|exact qC|skip)
  (refine Ok.ret ?_; (try dsimp only [thenK, blockK, noGotoK]); simp only [toList_mk, List.toList_toArray, retK_ret, retK_normal, resOK, resV, celV, rowV, frzAll, frzT, subV, subL, go_sem,↓dP,↓reduceIte])
  ((repeat' with_reducible apply And.intro) <;> (first | exact DEq.refl _ | refine DEq.int ?_ | refine DEq.bool ?_ | skip))
 intro hs
 (refine Ok.skip ?_; (try dsimp only [thenK, blockK, noGotoK]))
 have hs' : rightB J = true ∧ slimB l = true := by
  revert hs; cases rightB J <;> cases slimB l <;> simp
 obtain ⟨hr, hsl⟩ := hs'
 simp only [rightB, Bool.and_eq_true] at hr
 obtain ⟨hsh, hj⟩ := hr
 have hh := short_held hsh
 have h := jobB_iff.1 hj
 have hp := h.p1
 have hsl' : l.length ≤ 8 := by simpa [slimB] using hsl
 have hy := fun may => hourly_plan J l may (h.span0 may)
 have hw1 : planOf J true = none → ∀ m, m ∉ planL (spans J true) [] := fun e => by
  rw [planOf, List.head?_eq_none_iff] at e; rw [e]; simp
 have hw2 : planOf J false = none → ∀ m, m ∉ planL (spans J false) [] := fun e => by
  rw [planOf, List.head?_eq_none_iff] at e; rw [e]; simp
 have hw3 := plan_may h
 (first|refine qE ?_|refine qD ?_);(simp only [go_sem,↓dP,↓reduceIte];with_reducible and_intros;all_goals first|apply qA|exact qC|skip)
 (refine AskI.ret (c_Plan J h.based hh h.timed (by omega) hj) ?_; simp only [go_sem,↓dP,↓reduceIte];with_reducible and_intros;all_goals first|apply qA|exact qC|skip)
 (first|refine qE ?_|refine qD ?_);(simp only [go_sem,↓dP,↓reduceIte];with_reducible and_intros;all_goals first|apply qA|exact qC|skip)
 (refine AskI.ret (c_Lays J h.based hh h.timed (by omega) hj) ?_; simp only [go_sem,↓dP,↓reduceIte];with_reducible and_intros;all_goals first|apply qA|exact qC|skip)
 refine Ok.seq ?_
 (first|refine qE ?_|refine qD ?_);(simp only [go_sem,↓dP,↓reduceIte];with_reducible and_intros;all_goals first|apply qA|exact qC|skip)
 (refine AskGI.ret (fun _ => c_lword (laysW J)) ?_; simp only [go_sem,↓dP,↓reduceIte];with_reducible and_intros;all_goals first|apply qA|exact qC|skip)
 cases hpf : planOf J false with
 | none =>
  have hsure : (hourlyB J l false && !decide ((-1 : Int) ∈ l)) = false := by
   rw [Bool.eq_false_iff]; exact fun q => hw2 hpf _ ((hy false).1 q)
  have hmay : ((hourlyB J l true && !decide ((-1 : Int) ∈ l)) && (laysW J == 1)) = false := by
   cases hpm : planOf J true with
   | none =>
    have : (hourlyB J l true && !decide ((-1 : Int) ∈ l)) = false := by
     rw [Bool.eq_false_iff]; exact fun q => hw1 hpm _ ((hy true).1 q)
    rw [this]; rfl
   | some m =>
    have : laysW J = 2 := by simp [laysW, hpf, hpm]
    rw [this]; simp
  have hlw : laysW J = 1 ∨ laysW J = 2 := by
   unfold laysW; rw [hpf]; cases planOf J true <;> simp
  refine Ok.cond rfl (fun hb => by rcases hlw with q | q <;> rw [q] at hb <;> simp [wordB] at hb) (fun _ => ?_)
  (refine Ok.skip ?_; (try dsimp only [thenK, blockK, noGotoK]))
  refine Ok.seq ?_
  (first|refine qE ?_|refine qD ?_);(simp only [go_sem,↓dP,↓reduceIte];with_reducible and_intros;all_goals first|apply qA|exact qC|skip)
  (refine AskI.ret (c_lhourly J h.based (by omega) l (by omega) false) ?_; simp only [go_sem,↓dP,↓reduceIte];with_reducible and_intros;all_goals first|apply qA|exact qC|skip)
  refine Ok.seq ?_
  (first|refine qE ?_|refine qD ?_);(simp only [go_sem,↓dP,↓reduceIte];with_reducible and_intros;all_goals first|apply qA|exact qC|skip)
  (refine AskI.ret (c_lhourly J h.based (by omega) l (by omega) true) ?_; simp only [go_sem,↓dP,↓reduceIte];with_reducible and_intros;all_goals first|apply qA|exact qC|skip)
  refine Ok.cond rfl (fun hb => by rw [hmay] at hb; cases hb) (fun _ => ?_)
  (refine Ok.skip ?_; (try dsimp only [thenK, blockK, noGotoK]))
  refine Ok.seq ?_
  (first|refine qE ?_|refine qD ?_);(simp only [go_sem,↓dP,↓reduceIte];with_reducible and_intros;all_goals first|apply qA|exact qC|skip)
  refine Ok.cond (b := true) (by first | rfl | (simp only [go_sem,↓dP,↓reduceIte]; rfl)) (fun _ => ?_) (fun hb => by cases hb)
  (first|refine qE ?_|refine qD ?_);(simp only [go_sem,↓dP,↓reduceIte];with_reducible and_intros;all_goals first|apply qA|exact qC|skip)
  (refine AskGI.ret (fun _ => c_known) ?_; simp only [go_sem,↓dP,↓reduceIte];with_reducible and_intros;all_goals first|apply qA|exact qC|skip)
  (refine Ok.ret ?_; (try dsimp only [thenK, blockK, noGotoK]); simp only [toList_mk, List.toList_toArray, retK_ret, retK_normal, resOK, resV, celV, rowV, frzAll, frzT, subV, subL, go_sem,↓dP,↓reduceIte])
  rw [hsure]
  ((repeat' with_reducible apply And.intro) <;> (first | exact DEq.refl _ | refine DEq.int ?_ | refine DEq.bool ?_ | skip))
 | some m =>
  have hlw : laysW J = 3 := by unfold laysW; rw [hpf]; rfl
  have hml := plan_len hpf
  have hm := (hourly_plan J m false (h.span0 false)).2 (plan_mem hpf)
  refine Ok.cond rfl (fun hb => by rw [hlw] at hb; simp [wordB] at hb) (fun _ => ?_)
  (refine Ok.skip ?_; (try dsimp only [thenK, blockK, noGotoK]))
  refine Ok.seq ?_
  (first|refine qE ?_|refine qD ?_);(simp only [go_sem,↓dP,↓reduceIte];with_reducible and_intros;all_goals first|apply qA|exact qC|skip)
  (refine AskI.ret (c_lhourly J h.based (by omega) l (by omega) false) ?_; simp only [go_sem,↓dP,↓reduceIte];with_reducible and_intros;all_goals first|apply qA|exact qC|skip)
  refine Ok.seq ?_
  (first|refine qE ?_|refine qD ?_);(simp only [go_sem,↓dP,↓reduceIte];with_reducible and_intros;all_goals first|apply qA|exact qC|skip)
  (refine AskI.ret (c_lhourly J h.based (by omega) l (by omega) true) ?_; simp only [go_sem,↓dP,↓reduceIte];with_reducible and_intros;all_goals first|apply qA|exact qC|skip)
  refine Ok.cond rfl (fun hb => by rw [hlw] at hb; simp at hb) (fun _ => ?_)
  (refine Ok.skip ?_; (try dsimp only [thenK, blockK, noGotoK]))
  refine Ok.seq ?_
  (first|refine qE ?_|refine qD ?_);(simp only [go_sem,↓dP,↓reduceIte];with_reducible and_intros;all_goals first|apply qA|exact qC|skip)
  refine Ok.cond (b := false) (by first | rfl | (simp only [go_sem,↓dP,↓reduceIte]; rfl)) (fun hb => by cases hb) (fun _ => ?_)
  (refine Ok.skip ?_; (try dsimp only [thenK, blockK, noGotoK]))
  (first|refine qE ?_|refine qD ?_);(simp only [go_sem,↓dP,↓reduceIte];with_reducible and_intros;all_goals first|apply qA|exact qC|skip)
  (refine AskI.ret (c_lhourly J h.based (by omega) m (by omega) false) ?_; simp only [go_sem,↓dP,↓reduceIte];with_reducible and_intros;all_goals first|apply qA|exact qC|skip)
  (refine AskGI.ret (fun _ => c_tBefore l m (by omega) (by omega)) ?_; simp only [go_sem,↓dP,↓reduceIte];with_reducible and_intros;all_goals first|apply qA|exact qC|skip)
  (refine AskGI.ret (fun _ => c_known) ?_; simp only [go_sem,↓dP,↓reduceIte];with_reducible and_intros;all_goals first|apply qA|exact qC|skip)
  (refine Ok.ret ?_; (try dsimp only [thenK, blockK, noGotoK]); simp only [toList_mk, List.toList_toArray, retK_ret, retK_normal, resOK, resV, celV, rowV, frzAll, frzT, subV, subL, go_sem,↓dP,↓reduceIte])
  refine DEq.bool ?_
  rw [hm]
  cases hq : (hourlyB J l false && !decide ((-1 : Int) ∈ l)) with
  | false => rfl
  | true =>
   have := head_least (plan_sorted _ _) hpf ((hy false).1 hq)
   rw [this]; rfl
end
end Go.Proofs.Leaf
namespace Go.Proofs.YtojfpogcfpmblaaGreatDoor
open Go Go.RX Go.Proofs.Leaf Go.RowKit Go.ChangeShapes Go.WideShapes Go.ChangeAt
set_option maxRecDepth 100000
theorem leafEarly_ctr (As : List SV) (h : opensAll [25, 26] As) : Ctr Tryz.prog 12 As (bS true) := by
 obtain ⟨_, A1, rfl, h0, h⟩ := opensAll_cons h
 obtain ⟨_, A2, rfl, h1, h⟩ := opensAll_cons h
 obtain rfl := opensAll_nil h
 obtain ⟨x0, rfl, y0⟩ := opens_job h0
 obtain ⟨x1, rfl, y1⟩ := opens_ints h1
 exact law_Early x0 y0 x1 y1
theorem leafEarly_facts : joinedFacts Tryz.prog 12 Tryz.f12 Rows.leafEarlySpec Rows.leafEarlyRow = true := by unfold joinedFacts; rw [enter_is, final_is, make_is]; kernel_rfl
theorem leafEarly_lifted (os : Os) (started : os.Started) (H : Type) (enc : TypeId × Value → H) :
  ReturnsInHanded {} Tryz.checked os 12 .any (fun w args => (Rows.leafEarlySpec.pre enc Tryz.prog Tryz.f12 [] false w args ∧ laidMetH Tryz.prog laid5 w) ∧ sizedMet enc Tryz.prog Tryz.f12 (OpenSpec.ofChange Rows.leafEarlySpec) false w args)
   (Rows.leafEarlySpec.post enc Tryz.prog Tryz.f12 false true false false) := by
 refine law_ctr (ts := [25, 26]) Rows.leafEarlySpec rfl started (by kernel_rfl) Tryz.func12 (by kernel_rfl) (by rw [Tryz.params12]) (by unfold argT; decide)
  (fun ds hd => ?_)
  (ChangeSpec.witness_shaped (enc := enc) (C := Tryz.checked) (os := os) (X := fun w _ => laidMetH Tryz.prog laid5 w) false (World.laidAll Tryz.prog os laid5) #[zJ, zL] 8 (World.laidAll_os _ _ _)
   (World.shaped_of_ZipB (by kernel_rfl) (by kernel_rfl)) (by kernel_rfl) (by kernel_rfl) (by kernel_rfl)
   (by rw [MakeChecks.laidMetH_plain _ _ _ (by kernel_rfl)]; exact laidMet_laidAll _ (by kernel_rfl) (by kernel_rfl))) leafEarly_ctr
 match ds, hd with
 | [d0, d1], _ => rfl
theorem leafEarly_row : Rows.LeafEarlySaid :=
 OpenClaim.holds_of_wide 12 Tryz.f12 rfl rfl rfl rfl rfl rfl rfl ⟨rfl, rfl, rfl, rfl, rfl⟩ rfl rfl rfl rfl rfl (by kernel_rfl) Tryz.func12 leafEarly_facts (of_decide_eq_true (by kernel_rfl))
  (by unfold Func.isWrapper; first | (rw [if_pos (by decide +kernel)]; kernel_rfl) | (rw [if_neg (by decide +kernel)]; exact ⟨rfl, rfl⟩)) (fun os started H enc _ => leafEarly_lifted os started H enc)
theorem leafEarly_card : Rows.LeafEarlyCardSaid :=
 Claim7.holds_tied_plain_at .later [] [.data, .data, .data, .data, .pinned] true (true, "b9e665a4b67ae011e5ed22b8eb226cc6d74f55357845231d1045bbc61717fa8c") true leafEarly_row
  (fun _ h => by cases h) (by kernel_rfl) (fun _ h => by cases h) leafEarly_row_tie rfl ⟨rfl, rfl⟩ main_is rfl
  (fun f fn hf hfn => by
   obtain rfl : f = 12 := Option.some.inj ((show Tryz.prog.funcNamed "mahlstick/mahlsticklaw04.LeafEarly" = some 12 by kernel_rfl).symm.trans hf) |>.symm
   obtain rfl : fn = Tryz.f12 := (Option.some.inj (Tryz.func12.symm.trans hfn)).symm
   exact ⟨by kernel_rfl, fun j t ht => by
    rw [Tryz.params12] at ht
    exact law_stand (ts := [25, 26]) (by unfold argT; decide) (by simpa using Array.mem_of_getElem? ht)⟩) (by kernel_rfl)
end Go.Proofs.YtojfpogcfpmblaaGreatDoor
