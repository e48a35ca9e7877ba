/-
  Fewer pieces: LeafFewer returns true at every input, and leaves it as it was.
  No condition beside those that the statement itself names.
-/
import Derived.Test.YtojfpogcfpmblaaGreatDoorB30
import Derived.ChangeMaps5
set_option linter.all false
set_option linter.unusedVariables false
set_option linter.unusedSectionVars false
set_option linter.unusedSimpArgs false
set_option linter.unnecessarySimpa false
namespace Go.Proofs.Leaf
theorem single_pow (n : Nat) : single (2 ^ n) = true := by
 unfold single
 rw [decide_eq_true_eq]
 induction n with
 | zero => rfl
 | succ n ih =>
  have h0 : 0 < 2 ^ n := Nat.pow_pos (by decide)
  have e1 : 2 ^ (n + 1) / 2 = 2 ^ n := by rw [Nat.pow_succ]; omega
  have e2 : (2 ^ (n + 1) - 1) / 2 = 2 ^ n - 1 := by rw [Nat.pow_succ]; omega
  have hd := and_div (2 ^ (n + 1)) (2 ^ (n + 1) - 1)
  rw [e1, e2, ih] at hd
  have hb : ((2 ^ (n + 1)) &&& (2 ^ (n + 1) - 1)).testBit 0 = false := by
   rw [Nat.testBit_and, Nat.testBit_zero]
   have : 2 ^ (n + 1) % 2 = 0 := by rw [Nat.pow_succ]; omega
   rw [this]; rfl
  rw [Nat.testBit_zero] at hb
  simp only [decide_eq_false_iff_not] at hb
  omega
end Go.Proofs.Leaf
namespace Go.Proofs.Leaf
def img : List Nat → Nat → Nat
 | [], _ => 0
 | x :: l, t => (if t % 2 = 1 then 2 ^ x else 0) ||| img l (t / 2)
theorem img_bit : ∀ (l : List Nat) (t m : Nat), (img l t).testBit m = true ↔ ∃ i, i < l.length ∧ l.getD i 0 = m ∧ t.testBit i = true
 | [], t, m => by simp [img]
 | x :: l, t, m => by
  rw [img, Nat.testBit_or, Bool.or_eq_true, img_bit l (t / 2) m]
  have h0 : ((if t % 2 = 1 then 2 ^ x else 0).testBit m = true) ↔ (x = m ∧ t.testBit 0 = true) := by
   rw [Nat.testBit_zero]
   by_cases h : t % 2 = 1
   ·rw [if_pos h, Nat.testBit_two_pow]; simp [h]
   ·rw [if_neg h]; simp [h]
  rw [h0]
  constructor
  ·rintro (⟨h1, h2⟩ | ⟨i, h1, h2, h3⟩)
   ·exact ⟨0, by simp, by simpa using h1, h2⟩
   ·refine ⟨i + 1, by simpa using h1, by simpa using h2, ?_⟩
    rw [Nat.testBit_succ]; exact h3
  ·rintro ⟨i, h1, h2, h3⟩
   cases i with
   | zero => exact .inl ⟨by simpa using h2, h3⟩
   | succ i =>
    rw [Nat.testBit_succ] at h3
    exact .inr ⟨i, by simpa using h1, by simpa using h2, h3⟩
def apartL (l : List Nat) : Prop := ∀ i j, i < l.length → j < l.length → l.getD i 0 = l.getD j 0 → i = j
theorem area_zero (ps : List Piece) : area ps 0 = 0 := by
 induction ps with
 | nil => rfl
 | cons p ps ih => simp [area, ih]
theorem area_disj {ps : List Piece} {a b : Nat} (h : a &&& b = 0) : area ps (a ||| b) = area ps a + area ps b := by
 have hs : a &&& (a ||| b) = a := sub_of (fun n hn => by rw [Nat.testBit_or, hn]; rfl)
 have e : (a ||| b) ^^^ a = b := by
  apply Nat.eq_of_testBit_eq
  intro n
  rw [xor_bit, Nat.testBit_or]
  have := congrArg (fun x => x.testBit n) h
  simp only [Nat.testBit_and, Nat.zero_testBit] at this
  revert this
  cases a.testBit n <;> cases b.testBit n <;> simp
 rw [area_split ps hs, e]
theorem area_img {ps : List Piece} : ∀ (l : List Nat) (t : Nat), apartL l → (∀ i, i < l.length → l.getD i 0 < ps.length) → t < 2 ^ l.length → area (l.map (fun n => ps.getD n default)) t = area ps (img l t)
 | [], t, _, _, _ => by rw [img, area_zero]; rfl
 | x :: l, t, hl, hb, ht => by
  have hl' : apartL l := fun i j hi hj e => by
   have := hl (i + 1) (j + 1) (by simpa using hi) (by simpa using hj) (by simpa using e)
   omega
  have ih := area_img l (t / 2) hl' (fun i hi => by simpa using hb (i + 1) (by simpa using hi)) (by rw [List.length_cons, Nat.pow_succ] at ht; omega)
  rw [List.map_cons, area, ih, img]
  by_cases h : t % 2 = 1
  ·rw [if_pos h, if_pos h, area_disj, area_pow ps x (by simpa using hb 0 (by simp))]
   apply Nat.eq_of_testBit_eq
   intro m
   rw [Nat.testBit_and, Nat.zero_testBit, Nat.testBit_two_pow]
   by_cases e : x = m
   ·cases h2 : (img l (t / 2)).testBit m with
    | false => simp
    | true =>
     obtain ⟨i, h3, h4, _⟩ := (img_bit l _ m).1 h2
     have := hl 0 (i + 1) (by simp) (by simpa using h3) (by simp only [List.getD_cons_zero, List.getD_cons_succ]; rw [h4, e])
     omega
   ·rw [decide_eq_false e]; rfl
  ·rw [if_neg h, if_neg h, Nat.zero_or, Int.zero_add]
end Go.Proofs.Leaf
namespace Go.Proofs.Leaf
open Go Go.RX Go.Proofs
set_option maxRecDepth 10000
variable [Glob]
theorem c_rin (n lo hi : Int) : Ctr Tryz.prog 60 [iS n, iS lo, iS hi] (bS (inB n lo hi)) := by
 (refine Ctr.mk (fn := Tryz.f60) rfl rfl rfl rfl rfl Tryz.results60 ?_; intro _; dsimp only [args, List.toList_toArray])
 (first|refine qE ?_|refine qD ?_);(simp only [go_sem,↓dP,↓reduceIte];with_reducible and_intros;all_goals first|apply qA|exact qC|skip)
 (first|refine qE ?_|refine qD ?_);(simp only [go_sem,↓dP,↓reduceIte];with_reducible and_intros;all_goals first|apply qA|exact qC|skip)
 (refine Ok.ret ?_; (try dsimp only [thenK, blockK, noGotoK]); simp only [toList_mk, List.toList_toArray, retK_ret, retK_normal, resOK, resV, celV, rowV, frzAll, frzT, subV, subL, go_sem,↓dP,↓reduceIte])
 exact .refl _
end Go.Proofs.Leaf
namespace Go.Proofs.Leaf
open Go Go.RX Go.Proofs
set_option maxRecDepth 10000
variable [Glob]
theorem c_rPiece (J : Job) (hh : J.ps.length < 1000000) (n : Int) : Ctr Tryz.prog 33 [J.sv, iS n] (bS (inB n 0 (J.ps.length - 1))) := by
 (refine Ctr.mk (fn := Tryz.f33) rfl rfl rfl rfl rfl Tryz.results33 ?_; intro _; dsimp only [args, List.toList_toArray])
 (first|refine qE ?_|refine qD ?_);(simp only [go_sem,↓dP,↓reduceIte];with_reducible and_intros;all_goals first|apply qA|exact qC|skip)
 (first|refine qE ?_|refine qD ?_);(simp only [go_sem,↓dP,↓reduceIte];with_reducible and_intros;all_goals first|apply qA|exact qC|skip)
 (refine AskI.ret (c_rin _ _ _) ?_; simp only [go_sem,↓dP,↓reduceIte];with_reducible and_intros;all_goals first|apply qA|exact qC|skip)
 (refine Ok.ret ?_; (try dsimp only [thenK, blockK, noGotoK]); simp only [toList_mk, List.toList_toArray, retK_ret, retK_normal, resOK, resV, celV, rowV, frzAll, frzT, subV, subL, go_sem,↓dP,↓reduceIte])
 exact .refl _
theorem c_rSome (J : Job) (hh : J.ps.length < 1000000) (l : List Int) (hl : l.length < 1000000) : Ctr Tryz.prog 16 [J.sv, ilS l] (bS (someB J.ps.length l)) := by
 (refine Ctr.mk (fn := Tryz.f16) rfl rfl rfl rfl rfl Tryz.results16 ?_; intro _; dsimp only [args, List.toList_toArray])
 (first|refine qE ?_|refine qD ?_);(simp only [go_sem,↓dP,↓reduceIte];with_reducible and_intros;all_goals first|apply qA|exact qC|skip)
 refine Ok.seq ?_
 (first|refine qE ?_|refine qD ?_);(simp only [go_sem,↓dP,↓reduceIte];with_reducible and_intros;all_goals first|apply qA|exact qC|skip)
 refine Ok.block ?_
 refine Ok.count l.length (fun i => ⟨[(1, ilS l), (2, .p 0 0), (5, iS i)], [jobC J], []⟩) (fun i => ∀ j, j < i → pieceAt J.ps.length l j = true) ⟨fun j hj => by omega, ?_⟩ ?_ ?_
 ·(refine Sub.of ([0]) ([]) ?_ ?_ ?_ rfl rfl <;> simp only [subB, subB1, subT, subT1, newT, subE, subV, subL, go_sem,↓dP,↓reduceIte] <;> (try (repeat' with_reducible apply And.intro)) <;> (try first | exact DEq.refl _ | refine DEq.int ?_ | refine DEq.bool ?_ | omega))
 ·intro i hi hJ
  have e1 : ((i : Int) - 1).toNat = i - 1 := by omega
  refine Ok.seq ?_; ((first|refine qE ?_|refine qD ?_);(simp only [go_sem,↓dP,↓reduceIte];with_reducible and_intros;all_goals first|apply qA|exact qC|skip)); refine Ok.cond rfl (fun _ => ?_) (fun hb => by simp at hb; omega); (refine Ok.skip ?_; (try dsimp only [thenK, blockK, noGotoK])); refine Ok.seq ?_; refine Ok.block ?_
  (first|refine qE ?_|refine qD ?_);(simp only [go_sem,↓dP,↓reduceIte];with_reducible and_intros;all_goals first|apply qA|exact qC|skip)
  (refine AskI.ret (c_rPiece J hh _) ?_; simp only [go_sem,↓dP,↓reduceIte];with_reducible and_intros;all_goals first|apply qA|exact qC|skip)
  ·intro h
   simp only [Bool.and_eq_true, beq_iff_eq, decide_eq_true_eq] at h
   omega
  have hst : pieceAt J.ps.length l i = (inB (l.getD i default) 0 (J.ps.length - 1) && (decide (i = 0) || decide (l.getD (i - 1) default < l.getD i default))) := rfl
  refine Ok.cond rfl ?_ ?_
  ·intro hx
   have hF : pieceAt J.ps.length l i = false := by
    rw [hst]
    revert hx
    rw [e1]
    cases inB (l.getD i default) 0 (J.ps.length - 1) <;> simp <;> omega
   (first|refine qE ?_|refine qD ?_);(simp only [go_sem,↓dP,↓reduceIte];with_reducible and_intros;all_goals first|apply qA|exact qC|skip)
   (refine Ok.ret ?_; (try dsimp only [thenK, blockK, noGotoK]); simp only [toList_mk, List.toList_toArray, retK_ret, retK_normal, resOK, resV, celV, rowV, frzAll, frzT, subV, subL, go_sem,↓dP,↓reduceIte])
   rw [someB_no hi hF]
   exact .refl _
  ·intro hx
   have hT : pieceAt J.ps.length l i = true := by
    rw [hst]
    revert hx
    rw [e1]
    cases inB (l.getD i default) 0 (J.ps.length - 1) <;> simp <;> omega
   (refine Ok.skip ?_; (try dsimp only [thenK, blockK, noGotoK]))
   (first|refine qE ?_|refine qD ?_);(simp only [go_sem,↓dP,↓reduceIte];with_reducible and_intros;all_goals first|apply qA|exact qC|skip)
   (try dsimp only [thenK, blockK, noGotoK])
   refine ⟨fun j hj => ?_, ?_⟩
   ·by_cases e : j = i
    ·subst e; exact hT
    ·exact hJ j (by omega)
   (refine Sub.of ([0]) ([]) ?_ ?_ ?_ rfl rfl <;> simp only [subB, subB1, subT, subT1, newT, subE, subV, subL, go_sem,↓dP,↓reduceIte] <;> (try (repeat' with_reducible apply And.intro)) <;> (try first | exact DEq.refl _ | refine DEq.int ?_ | refine DEq.bool ?_ | omega))
 ·intro hJ
  refine Ok.seq ?_; ((first|refine qE ?_|refine qD ?_);(simp only [go_sem,↓dP,↓reduceIte];with_reducible and_intros;all_goals first|apply qA|exact qC|skip)); refine Ok.cond rfl (fun hb => by simp at hb) (fun _ => ?_); (refine Ok.exit ?_; simp only [thenK_exit, blockK_exit, noGotoK_exit, thenK_normal, blockK_normal, noGotoK_normal, ↓reduceIte, Nat.reduceEqDiff])
  (first|refine qE ?_|refine qD ?_);(simp only [go_sem,↓dP,↓reduceIte];with_reducible and_intros;all_goals first|apply qA|exact qC|skip)
  (refine Ok.ret ?_; (try dsimp only [thenK, blockK, noGotoK]); simp only [toList_mk, List.toList_toArray, retK_ret, retK_normal, resOK, resV, celV, rowV, frzAll, frzT, subV, subL, go_sem,↓dP,↓reduceIte])
  rw [someB_yes hJ]
  exact .refl _
end Go.Proofs.Leaf
namespace Go.Proofs.Leaf
open Go Go.RX Go.Proofs
set_option maxRecDepth 10000
variable [Glob]
theorem c_tListed (l : List Int) (v : Int) (hl : l.length < 1000000) : Ctr Tryz.prog 19 [ilS l, iS v] (bS (decide (v ∈ l))) := by
 rw [← any_mem]
 (refine Ctr.mk (fn := Tryz.f19) rfl rfl rfl rfl rfl Tryz.results19 ?_; intro _; dsimp only [args, List.toList_toArray])
 (first|refine qE ?_|refine qD ?_);(simp only [go_sem,↓dP,↓reduceIte];with_reducible and_intros;all_goals first|apply qA|exact qC|skip)
 refine Ok.seq ?_
 (first|refine qE ?_|refine qD ?_);(simp only [go_sem,↓dP,↓reduceIte];with_reducible and_intros;all_goals first|apply qA|exact qC|skip)
 refine Ok.block ?_
 refine Ok.count l.length (fun i => ⟨[(0, ilS l), (1, iS v), (5, iS i)], [], []⟩) (fun i => ∀ x ∈ l.take i, (v == x) = false) ⟨fun x hx => by simp at hx, ?_⟩ ?_ ?_
 ·(refine Sub.of ([]) ([]) ?_ ?_ ?_ rfl rfl <;> simp only [subB, subB1, subT, subT1, newT, subE, subV, subL, go_sem,↓dP,↓reduceIte] <;> (try (repeat' with_reducible apply And.intro)) <;> (try first | exact DEq.refl _ | refine DEq.int ?_ | refine DEq.bool ?_ | omega))
 ·intro i hi h0
  have hsw : ((l.getD i default == v) : Bool) = (v == l.getD i default) := by rw [Bool.eq_iff_iff]; simp only [beq_iff_eq]; exact ⟨Eq.symm, Eq.symm⟩
  refine Ok.seq ?_; ((first|refine qE ?_|refine qD ?_);(simp only [go_sem,↓dP,↓reduceIte];with_reducible and_intros;all_goals first|apply qA|exact qC|skip)); refine Ok.cond rfl (fun _ => ?_) (fun hb => by simp at hb; omega); (refine Ok.skip ?_; (try dsimp only [thenK, blockK, noGotoK])); refine Ok.seq ?_; refine Ok.block ?_
  (first|refine qE ?_|refine qD ?_);(simp only [go_sem,↓dP,↓reduceIte];with_reducible and_intros;all_goals first|apply qA|exact qC|skip)
  refine Ok.cond rfl ?_ ?_
  ·intro hp
   rw [hsw] at hp
   (first|refine qE ?_|refine qD ?_);(simp only [go_sem,↓dP,↓reduceIte];with_reducible and_intros;all_goals first|apply qA|exact qC|skip)
   (refine Ok.ret ?_; (try dsimp only [thenK, blockK, noGotoK]); simp only [toList_mk, List.toList_toArray, retK_ret, retK_normal, resOK, resV, celV, rowV, frzAll, frzT, subV, subL, go_sem,↓dP,↓reduceIte])
   refine DEq.bool ?_
   rw [List.any_eq_true.2 ⟨_, getD_mem hi, hp⟩]
  ·intro hp
   rw [hsw] at hp
   (refine Ok.skip ?_; (try dsimp only [thenK, blockK, noGotoK]))
   (first|refine qE ?_|refine qD ?_);(simp only [go_sem,↓dP,↓reduceIte];with_reducible and_intros;all_goals first|apply qA|exact qC|skip)
   (try dsimp only [thenK, blockK, noGotoK])
   refine ⟨no_step hi h0 hp, ?_⟩
   (refine Sub.of ([]) ([]) ?_ ?_ ?_ rfl rfl <;> simp only [subB, subB1, subT, subT1, newT, subE, subV, subL, go_sem,↓dP,↓reduceIte] <;> (try (repeat' with_reducible apply And.intro)) <;> (try first | exact DEq.refl _ | refine DEq.int ?_ | refine DEq.bool ?_ | omega))
 ·intro h0
  refine Ok.seq ?_; ((first|refine qE ?_|refine qD ?_);(simp only [go_sem,↓dP,↓reduceIte];with_reducible and_intros;all_goals first|apply qA|exact qC|skip)); refine Ok.cond rfl (fun hb => by simp at hb) (fun _ => ?_); (refine Ok.exit ?_; simp only [thenK_exit, blockK_exit, noGotoK_exit, thenK_normal, blockK_normal, noGotoK_normal, ↓reduceIte, Nat.reduceEqDiff])
  (first|refine qE ?_|refine qD ?_);(simp only [go_sem,↓dP,↓reduceIte];with_reducible and_intros;all_goals first|apply qA|exact qC|skip)
  (refine Ok.ret ?_; (try dsimp only [thenK, blockK, noGotoK]); simp only [toList_mk, List.toList_toArray, retK_ret, retK_normal, resOK, resV, celV, rowV, frzAll, frzT, subV, subL, go_sem,↓dP,↓reduceIte])
  refine DEq.bool ?_
  rw [List.any_eq_false.2 (fun x hx => by simp [h0 x (by simpa using hx)])]
end Go.Proofs.Leaf
namespace Go.Proofs.Leaf
open Go Go.RX Go.Proofs
set_option maxRecDepth 10000
variable [Glob]
theorem c_rJob (J : Job) (hh : J.held) : Ctr Tryz.prog 24 [J.sv] (bS (jobB J)) := by
 have hh1 := hh.1
 have hh2 := hh.2
 (refine Ctr.mk (fn := Tryz.f24) rfl rfl rfl rfl rfl Tryz.results24 ?_; intro _; dsimp only [args, List.toList_toArray])
 (first|refine qE ?_|refine qD ?_);(simp only [go_sem,↓dP,↓reduceIte];with_reducible and_intros;all_goals first|apply qA|exact qC|skip)
 refine Ok.seq ?_
 (first|refine qE ?_|refine qD ?_);(simp only [go_sem,↓dP,↓reduceIte];with_reducible and_intros;all_goals first|apply qA|exact qC|skip)
 (refine AskI.ret (c_rin _ _ _) ?_; simp only [go_sem,↓dP,↓reduceIte];with_reducible and_intros;all_goals first|apply qA|exact qC|skip)
 (refine AskGI.ret (fun _ => c_rin _ _ _) ?_; simp only [go_sem,↓dP,↓reduceIte];with_reducible and_intros;all_goals first|apply qA|exact qC|skip)
 (refine AskGI.ret (fun _ => c_rin _ _ _) ?_; simp only [go_sem,↓dP,↓reduceIte];with_reducible and_intros;all_goals first|apply qA|exact qC|skip)
 ·intro h
  have : inB J.book 1 25 = true := by revert h; cases inB J.book 1 25 <;> simp
  rw [inB_iff] at this
  exact R64 (by omega) (by omega)
 (refine AskGI.ret (fun _ => c_rin _ _ _) ?_; simp only [go_sem,↓dP,↓reduceIte];with_reducible and_intros;all_goals first|apply qA|exact qC|skip)
 (refine AskGI.ret (fun _ => c_rin _ _ _) ?_; simp only [go_sem,↓dP,↓reduceIte];with_reducible and_intros;all_goals first|apply qA|exact qC|skip)
 (refine AskGI.ret (fun _ => c_rin _ _ _) ?_; simp only [go_sem,↓dP,↓reduceIte];with_reducible and_intros;all_goals first|apply qA|exact qC|skip)
 refine Ok.cond rfl ?_ ?_
 ·intro hb
  (first|refine qE ?_|refine qD ?_);(simp only [go_sem,↓dP,↓reduceIte];with_reducible and_intros;all_goals first|apply qA|exact qC|skip)
  (refine Ok.ret ?_; (try dsimp only [thenK, blockK, noGotoK]); simp only [toList_mk, List.toList_toArray, retK_ret, retK_normal, resOK, resV, celV, rowV, frzAll, frzT, subV, subL, go_sem,↓dP,↓reduceIte])
  refine DEq.bool ?_
  have : headB J = false := by
   revert hb
   unfold headB
   cases inB J.wide 1 6 <;> cases inB J.high 1 6 <;> cases inB J.book 1 25 <;> cases inB J.spoilt 0 (J.book - 1) <;> cases inB J.gs.length 1 3 <;> cases inB J.ps.length 1 5 <;> simp
  simp [jobB, this]
 intro hb
 have hhead : headB J = true := by
  revert hb
  unfold headB
  cases inB J.wide 1 6 <;> cases inB J.high 1 6 <;> cases inB J.book 1 25 <;> cases inB J.spoilt 0 (J.book - 1) <;> cases inB J.gs.length 1 3 <;> cases inB J.ps.length 1 5 <;> simp
 (refine Ok.skip ?_; (try dsimp only [thenK, blockK, noGotoK]))
 refine Ok.seq ?_
 (first|refine qE ?_|refine qD ?_);(simp only [go_sem,↓dP,↓reduceIte];with_reducible and_intros;all_goals first|apply qA|exact qC|skip)
 refine Ok.block ?_
 refine Ok.count J.gs.length (fun i => ⟨[(1, .p 0 0), (3, iS i)], [jobC J], []⟩) (fun i => ∀ x ∈ J.gs.take i, (!groundB x) = false) ⟨fun x hx => by simp at hx, ?_⟩ ?_ ?_
 ·(refine Sub.of ([0]) ([]) ?_ ?_ ?_ rfl rfl <;> simp only [subB, subB1, subT, subT1, newT, subE, subV, subL, go_sem,↓dP,↓reduceIte] <;> (try (repeat' with_reducible apply And.intro)) <;> (try first | exact DEq.refl _ | refine DEq.int ?_ | refine DEq.bool ?_ | omega))
 ·intro i hi h0
  refine Ok.seq ?_; ((first|refine qE ?_|refine qD ?_);(simp only [go_sem,↓dP,↓reduceIte];with_reducible and_intros;all_goals first|apply qA|exact qC|skip)); refine Ok.cond rfl (fun _ => ?_) (fun hb => by simp at hb; omega); (refine Ok.skip ?_; (try dsimp only [thenK, blockK, noGotoK])); refine Ok.seq ?_; refine Ok.block ?_
  (first|refine qE ?_|refine qD ?_);(simp only [go_sem,↓dP,↓reduceIte];with_reducible and_intros;all_goals first|apply qA|exact qC|skip)
  (first|refine qE ?_|refine qD ?_);(simp only [go_sem,↓dP,↓reduceIte];with_reducible and_intros;all_goals first|apply qA|exact qC|skip)
  (refine AskI.ret (c_rin _ _ _) ?_; simp only [go_sem,↓dP,↓reduceIte];with_reducible and_intros;all_goals first|apply qA|exact qC|skip)
  (refine AskGI.ret (fun _ => c_rin _ _ _) ?_; simp only [go_sem,↓dP,↓reduceIte];with_reducible and_intros;all_goals first|apply qA|exact qC|skip)
  (refine AskGI.ret (fun _ => c_rin _ _ _) ?_; simp only [go_sem,↓dP,↓reduceIte];with_reducible and_intros;all_goals first|apply qA|exact qC|skip)
  (refine AskGI.ret (fun _ => c_rin _ _ _) ?_; simp only [go_sem,↓dP,↓reduceIte];with_reducible and_intros;all_goals first|apply qA|exact qC|skip)
  have hg : groundB (J.gs.getD i default) = (inB (J.gs.getD i default).rl 0 12 && inB (J.gs.getD i default).rh (J.gs.getD i default).rl 12 && inB (J.gs.getD i default).ll (J.gs.getD i default).rh 12 && inB (J.gs.getD i default).lh (J.gs.getD i default).ll 12) := rfl
  refine Ok.cond rfl ?_ ?_
  ·intro hx
   have hx' : (!groundB (J.gs.getD i default)) = true := by
    rw [hg]
    revert hx
    cases inB (J.gs.getD i default).rl 0 12 <;> cases inB (J.gs.getD i default).rh (J.gs.getD i default).rl 12 <;> cases inB (J.gs.getD i default).ll (J.gs.getD i default).rh 12 <;> cases inB (J.gs.getD i default).lh (J.gs.getD i default).ll 12 <;> simp
   (first|refine qE ?_|refine qD ?_);(simp only [go_sem,↓dP,↓reduceIte];with_reducible and_intros;all_goals first|apply qA|exact qC|skip)
   (refine Ok.ret ?_; (try dsimp only [thenK, blockK, noGotoK]); simp only [toList_mk, List.toList_toArray, retK_ret, retK_normal, resOK, resV, celV, rowV, frzAll, frzT, subV, subL, go_sem,↓dP,↓reduceIte])
   refine DEq.bool ?_
   have : J.gs.any (fun g => !groundB g) = true := List.any_eq_true.2 ⟨_, getD_mem hi, hx'⟩
   rw [jobB, all_any, this]; simp
  ·intro hx
   have hx' : (!groundB (J.gs.getD i default)) = false := by
    rw [hg]
    revert hx
    cases inB (J.gs.getD i default).rl 0 12 <;> cases inB (J.gs.getD i default).rh (J.gs.getD i default).rl 12 <;> cases inB (J.gs.getD i default).ll (J.gs.getD i default).rh 12 <;> cases inB (J.gs.getD i default).lh (J.gs.getD i default).ll 12 <;> simp
   (refine Ok.skip ?_; (try dsimp only [thenK, blockK, noGotoK]))
   (first|refine qE ?_|refine qD ?_);(simp only [go_sem,↓dP,↓reduceIte];with_reducible and_intros;all_goals first|apply qA|exact qC|skip)
   (try dsimp only [thenK, blockK, noGotoK])
   refine ⟨no_step (q := fun g => !groundB g) hi h0 hx', ?_⟩
   (refine Sub.of ([0]) ([]) ?_ ?_ ?_ rfl rfl <;> simp only [subB, subB1, subT, subT1, newT, subE, subV, subL, go_sem,↓dP,↓reduceIte] <;> (try (repeat' with_reducible apply And.intro)) <;> (try first | exact DEq.refl _ | refine DEq.int ?_ | refine DEq.bool ?_ | omega))
 intro h0
 have hgs : J.gs.any (fun g => !groundB g) = false := List.any_eq_false.2 (fun x hx => by simp [h0 x (by simpa using hx)])
 refine Ok.seq ?_; ((first|refine qE ?_|refine qD ?_);(simp only [go_sem,↓dP,↓reduceIte];with_reducible and_intros;all_goals first|apply qA|exact qC|skip)); refine Ok.cond rfl (fun hb => by simp at hb) (fun _ => ?_); (refine Ok.exit ?_; simp only [thenK_exit, blockK_exit, noGotoK_exit, thenK_normal, blockK_normal, noGotoK_normal, ↓reduceIte, Nat.reduceEqDiff])
 refine Ok.seq ?_
 (first|refine qE ?_|refine qD ?_);(simp only [go_sem,↓dP,↓reduceIte];with_reducible and_intros;all_goals first|apply qA|exact qC|skip)
 refine Ok.block ?_
 refine Ok.count J.ps.length (fun i => ⟨[(1, .p 0 0), (5, iS i)], [jobC J], []⟩) (fun i => ∀ x ∈ J.ps.take i, (!pieceB J.gs.length x) = false) ⟨fun x hx => by simp at hx, ?_⟩ ?_ ?_
 ·(refine Sub.of ([0]) ([]) ?_ ?_ ?_ rfl rfl <;> simp only [subB, subB1, subT, subT1, newT, subE, subV, subL, go_sem,↓dP,↓reduceIte] <;> (try (repeat' with_reducible apply And.intro)) <;> (try first | exact DEq.refl _ | refine DEq.int ?_ | refine DEq.bool ?_ | omega))
 ·intro i hi h0
  refine Ok.seq ?_; ((first|refine qE ?_|refine qD ?_);(simp only [go_sem,↓dP,↓reduceIte];with_reducible and_intros;all_goals first|apply qA|exact qC|skip)); refine Ok.cond rfl (fun _ => ?_) (fun hb => by simp at hb; omega); (refine Ok.skip ?_; (try dsimp only [thenK, blockK, noGotoK])); refine Ok.seq ?_; refine Ok.block ?_
  (first|refine qE ?_|refine qD ?_);(simp only [go_sem,↓dP,↓reduceIte];with_reducible and_intros;all_goals first|apply qA|exact qC|skip)
  (first|refine qE ?_|refine qD ?_);(simp only [go_sem,↓dP,↓reduceIte];with_reducible and_intros;all_goals first|apply qA|exact qC|skip)
  (refine AskI.ret (c_rin _ _ _) ?_; simp only [go_sem,↓dP,↓reduceIte];with_reducible and_intros;all_goals first|apply qA|exact qC|skip)
  (refine AskGI.ret (fun _ => c_rin _ _ _) ?_; simp only [go_sem,↓dP,↓reduceIte];with_reducible and_intros;all_goals first|apply qA|exact qC|skip)
  (refine AskGI.ret (fun _ => c_rin _ _ _) ?_; simp only [go_sem,↓dP,↓reduceIte];with_reducible and_intros;all_goals first|apply qA|exact qC|skip)
  have hg : pieceB J.gs.length (J.ps.getD i default) = (inB (J.ps.getD i default).w 1 6 && inB (J.ps.getD i default).h 1 6 && inB (J.ps.getD i default).g 0 (J.gs.length - 1)) := rfl
  refine Ok.cond rfl ?_ ?_
  ·intro hx
   have hx' : (!pieceB J.gs.length (J.ps.getD i default)) = true := by
    rw [hg]
    revert hx
    cases inB (J.ps.getD i default).w 1 6 <;> cases inB (J.ps.getD i default).h 1 6 <;> cases inB (J.ps.getD i default).g 0 (J.gs.length - 1) <;> simp
   (first|refine qE ?_|refine qD ?_);(simp only [go_sem,↓dP,↓reduceIte];with_reducible and_intros;all_goals first|apply qA|exact qC|skip)
   (refine Ok.ret ?_; (try dsimp only [thenK, blockK, noGotoK]); simp only [toList_mk, List.toList_toArray, retK_ret, retK_normal, resOK, resV, celV, rowV, frzAll, frzT, subV, subL, go_sem,↓dP,↓reduceIte])
   refine DEq.bool ?_
   have : J.ps.any (fun p => !pieceB J.gs.length p) = true := List.any_eq_true.2 ⟨_, getD_mem hi, hx'⟩
   rw [jobB, all_any J.ps, this]; simp
  ·intro hx
   have hx' : (!pieceB J.gs.length (J.ps.getD i default)) = false := by
    rw [hg]
    revert hx
    cases inB (J.ps.getD i default).w 1 6 <;> cases inB (J.ps.getD i default).h 1 6 <;> cases inB (J.ps.getD i default).g 0 (J.gs.length - 1) <;> simp
   (refine Ok.skip ?_; (try dsimp only [thenK, blockK, noGotoK]))
   (first|refine qE ?_|refine qD ?_);(simp only [go_sem,↓dP,↓reduceIte];with_reducible and_intros;all_goals first|apply qA|exact qC|skip)
   (try dsimp only [thenK, blockK, noGotoK])
   refine ⟨no_step (q := fun p => !pieceB J.gs.length p) hi h0 hx', ?_⟩
   (refine Sub.of ([0]) ([]) ?_ ?_ ?_ rfl rfl <;> simp only [subB, subB1, subT, subT1, newT, subE, subV, subL, go_sem,↓dP,↓reduceIte] <;> (try (repeat' with_reducible apply And.intro)) <;> (try first | exact DEq.refl _ | refine DEq.int ?_ | refine DEq.bool ?_ | omega))
 ·intro h0
  have hps : J.ps.any (fun p => !pieceB J.gs.length p) = false := List.any_eq_false.2 (fun x hx => by simp [h0 x (by simpa using hx)])
  refine Ok.seq ?_; ((first|refine qE ?_|refine qD ?_);(simp only [go_sem,↓dP,↓reduceIte];with_reducible and_intros;all_goals first|apply qA|exact qC|skip)); refine Ok.cond rfl (fun hb => by simp at hb) (fun _ => ?_); (refine Ok.exit ?_; simp only [thenK_exit, blockK_exit, noGotoK_exit, thenK_normal, blockK_normal, noGotoK_normal, ↓reduceIte, Nat.reduceEqDiff])
  (first|refine qE ?_|refine qD ?_);(simp only [go_sem,↓dP,↓reduceIte];with_reducible and_intros;all_goals first|apply qA|exact qC|skip)
  (refine Ok.ret ?_; (try dsimp only [thenK, blockK, noGotoK]); simp only [toList_mk, List.toList_toArray, retK_ret, retK_normal, resOK, resV, celV, rowV, frzAll, frzT, subV, subL, go_sem,↓dP,↓reduceIte])
  refine DEq.bool ?_
  rw [jobB, hhead, all_any, all_any, hgs, hps]
  rfl
end Go.Proofs.Leaf
namespace Go.Proofs.Leaf
open Go Go.RX Go.Proofs
set_option maxRecDepth 10000
variable [Glob]
theorem asI_append (L M : List Nat) : asI (L ++ M) = asI L ++ asI M := by simp
theorem setL_bit (L : List Nat) (i : Nat) : (setL (asI L)).testBit i = decide (i ∈ L) := by
 induction L using revRec with
 | nil => simp [setL]
 | append_singleton L x ih =>
  rw [asI_append, show asI [x] = [(x : Int)] from rfl, setL_snoc, Nat.testBit_or, ih, Nat.testBit_two_pow]
  simp only [Int.toNat_natCast, List.mem_append, List.mem_singleton]
  by_cases h1 : i ∈ L <;> by_cases h2 : x = i <;> simp [h1, h2] <;> omega
end Go.Proofs.Leaf
namespace Go.Proofs.Leaf
open Go Go.RX Go.Proofs
set_option maxRecDepth 10000
variable [Glob]
def shortB (J : Job) : Bool := decide (J.gs.length ≤ 5) && decide (J.ps.length ≤ 7)
theorem c_lshort (J : Job) (h : J.far) : Ctr Tryz.prog 21 [J.sv] (bS (shortB J)) := by
 have h1 := h.1
 have h2 := h.2
 (refine Ctr.mk (fn := Tryz.f21) rfl rfl rfl rfl rfl Tryz.results21 ?_; intro _; dsimp only [args, List.toList_toArray])
 (first|refine qE ?_|refine qD ?_);(simp only [go_sem,↓dP,↓reduceIte];with_reducible and_intros;all_goals first|apply qA|exact qC|skip)
 (first|refine qE ?_|refine qD ?_);(simp only [go_sem,↓dP,↓reduceIte];with_reducible and_intros;all_goals first|apply qA|exact qC|skip)
 (refine Ok.ret ?_; (try dsimp only [thenK, blockK, noGotoK]); simp only [toList_mk, List.toList_toArray, retK_ret, retK_normal, resOK, resV, celV, rowV, frzAll, frzT, subV, subL, go_sem,↓dP,↓reduceIte])
 refine DEq.bool ?_
 unfold shortB
 by_cases g1 : J.gs.length ≤ 5 <;> by_cases g2 : J.ps.length ≤ 7 <;> simp [g1, g2] <;> omega
theorem short_held {J : Job} (h : shortB J = true) : J.held := by
 simp only [shortB, Bool.and_eq_true, decide_eq_true_eq] at h
 exact ⟨by omega, by omega⟩
def slimB (l : List Int) : Bool := decide (l.length ≤ 8)
theorem c_lslim (l : List Int) (h : l.length ≤ 9223372036854775807) : Ctr Tryz.prog 15 [ilS l] (bS (slimB l)) := by
 (refine Ctr.mk (fn := Tryz.f15) rfl rfl rfl rfl rfl Tryz.results15 ?_; intro _; dsimp only [args, List.toList_toArray])
 (first|refine qE ?_|refine qD ?_);(simp only [go_sem,↓dP,↓reduceIte];with_reducible and_intros;all_goals first|apply qA|exact qC|skip)
 (first|refine qE ?_|refine qD ?_);(simp only [go_sem,↓dP,↓reduceIte];with_reducible and_intros;all_goals first|apply qA|exact qC|skip)
 (refine Ok.ret ?_; (try dsimp only [thenK, blockK, noGotoK]); simp only [toList_mk, List.toList_toArray, retK_ret, retK_normal, resOK, resV, celV, rowV, frzAll, frzT, subV, subL, go_sem,↓dP,↓reduceIte])
 refine DEq.bool ?_
 unfold slimB
 by_cases g : l.length ≤ 8 <;> simp [g] <;> omega
def rightB (J : Job) : Bool := shortB J && jobB J
theorem c_lright (J : Job) (h : J.far) : Ctr Tryz.prog 14 [J.sv] (bS (rightB J)) := by
 (refine Ctr.mk (fn := Tryz.f14) rfl rfl rfl rfl rfl Tryz.results14 ?_; intro _; dsimp only [args, List.toList_toArray])
 (first|refine qE ?_|refine qD ?_);(simp only [go_sem,↓dP,↓reduceIte];with_reducible and_intros;all_goals first|apply qA|exact qC|skip)
 (first|refine qE ?_|refine qD ?_);(simp only [go_sem,↓dP,↓reduceIte];with_reducible and_intros;all_goals first|apply qA|exact qC|skip)
 (refine AskI.ret (c_lshort J h) ?_; simp only [go_sem,↓dP,↓reduceIte];with_reducible and_intros;all_goals first|apply qA|exact qC|skip)
 (refine AskGI.ret (fun h => c_rJob J (short_held (by simpa using h))) ?_; simp only [go_sem,↓dP,↓reduceIte];with_reducible and_intros;all_goals first|apply qA|exact qC|skip)
 (refine Ok.ret ?_; (try dsimp only [thenK, blockK, noGotoK]); simp only [toList_mk, List.toList_toArray, retK_ret, retK_normal, resOK, resV, celV, rowV, frzAll, frzT, subV, subL, go_sem,↓dP,↓reduceIte])
 refine DEq.bool ?_
 unfold rightB
 cases shortB J <;> simp
end Go.Proofs.Leaf
namespace Go.Proofs.YtojfpogcfpmblaaGreatDoor
open Go Go.RX Go.Proofs.Leaf Go.RowKit Go.ChangeShapes Go.WideShapes Go.ChangeAt
set_option maxRecDepth 100000
section
variable {H : Type} {enc : TypeId × Value → H} {W : World}
end
theorem opensAll_cons {t : TypeId} {ts : List TypeId} {As : List SV} (h : opensAll (t :: ts) As) : ∃ A Bs, As = A :: Bs ∧ opens t A ∧ opensAll ts Bs := by
 cases As with
 | nil => exact h.elim
 | cons A Bs => exact ⟨A, Bs, rfl, h.1, h.2⟩
theorem opensAll_nil {As : List SV} (h : opensAll [] As) : As = [] := by
 cases As with
 | nil => rfl
 | cons A Bs => exact h.elim
end Go.Proofs.YtojfpogcfpmblaaGreatDoor
namespace Go.Proofs.Leaf
open Go Go.RX Go.Proofs Go.RowKit
set_option maxRecDepth 10000
section
instance inst_g0_5:Glob:=g0
theorem rises_apart {n : Nat} {L : List Nat} (h : rises n 0 L) : apartL L := by
 intro i j hi hj e
 have hp := rises_pw h
 rw [List.pairwise_iff_getElem] at hp
 rw [List.getD_eq_getElem?_getD, List.getD_eq_getElem?_getD, List.getElem?_eq_getElem hi, List.getElem?_eq_getElem hj] at e
 simp only [Option.getD_some] at e
 rcases Nat.lt_trichotomy i j with q | q | q
 ·have := hp i j hi hj q; omega
 ·exact q
 ·have := hp j i hj hi q; omega
theorem testBit_ones (k i : Nat) : (2 ^ k - 1).testBit i = decide (i < k) := Nat.testBit_two_pow_sub_one k i
theorem img_all (L : List Nat) : img L (2 ^ L.length - 1) = setL (asI L) := by
 apply Nat.eq_of_testBit_eq
 intro m
 rw [setL_bit, Bool.eq_iff_iff, img_bit, decide_eq_true_iff]
 constructor
 ·rintro ⟨i, hi, rfl, _⟩
  rw [List.getD_eq_getElem?_getD, List.getElem?_eq_getElem hi]
  exact List.getElem_mem hi
 ·intro hm
  obtain ⟨i, hi, rfl⟩ := List.getElem_of_mem hm
  exact ⟨i, hi, by rw [List.getD_eq_getElem?_getD, List.getElem?_eq_getElem hi]; rfl, by rw [testBit_ones]; simpa using hi⟩
theorem area_all : ∀ (qs : List Piece), area qs (2 ^ qs.length - 1) = (qs.map (fun p => p.w * p.h)).sum
 | [] => rfl
 | p :: qs => by
  have h0 : 0 < 2 ^ qs.length := Nat.pow_pos (by decide)
  have h1 : (2 ^ (qs.length + 1) - 1) % 2 = 1 := by rw [Nat.pow_succ]; omega
  have h2 : (2 ^ (qs.length + 1) - 1) / 2 = 2 ^ qs.length - 1 := by rw [Nat.pow_succ]; omega
  rw [List.length_cons, area, h1, h2, area_all qs, List.map_cons, List.sum_cons]; simp
theorem ok_good {J : Job} (h : J.ok) : good J.ps := fun p hp => by have := h.ps p hp; omega
theorem area_set {J : Job} {L : List Nat} (hL : rises J.ps.length 0 L) : area J.ps (setL (asI L)) = (L.map (fun n => (J.ps.getD n default).w * (J.ps.getD n default).h)).sum := by
 have hb : ∀ i, i < L.length → L.getD i 0 < J.ps.length := fun i hi => by
  rw [List.getD_eq_getElem?_getD, List.getElem?_eq_getElem hi]; exact (rises_mem hL _ (List.getElem_mem hi)).2
 have h1 := area_img (ps := J.ps) L (2 ^ L.length - 1) (rises_apart hL) hb (by have : 0 < 2 ^ L.length := Nat.pow_pos (by decide); omega)
 rw [img_all] at h1
 rw [← h1]
 have h2 := area_all (L.map (fun n => J.ps.getD n default))
 rw [List.length_map, List.map_map] at h2
 exact h2
end
end Go.Proofs.Leaf
namespace Go.Proofs.Leaf
open Go Go.RX Go.Proofs Go.RowKit
set_option maxRecDepth 100000
section
instance inst_gT_6:Glob:=gT
theorem c_lfits (J : Job) (h : J.ok) (L : List Nat) (hL : rises J.ps.length 0 L) : Ctr Tryz.prog 18 [J.sv, ilS (asI L)] (.tup [bS (J.fit (setL (asI L))), bS true]) := by
 (refine Ctr.mk (fn := Tryz.f18) rfl rfl rfl rfl rfl Tryz.results18 ?_; intro _; dsimp only [args, List.toList_toArray])
 (first|refine qE ?_|refine qD ?_);(simp only [go_sem,↓dP,↓reduceIte];with_reducible and_intros;all_goals first|apply qA|exact qC|skip)
 (first|refine qE ?_|refine qD ?_);(simp only [go_sem,↓dP,↓reduceIte];with_reducible and_intros;all_goals first|apply qA|exact qC|skip)
 (refine AskI.ret (toT (c_Fits J h L hL)) ?_; simp only [go_sem,↓dP,↓reduceIte];with_reducible and_intros;all_goals first|apply qA|exact qC|skip)
 (first|refine qE ?_|refine qD ?_);(simp only [go_sem,↓dP,↓reduceIte];with_reducible and_intros;all_goals first|apply qA|exact qC|skip)
 (refine Ok.ret ?_; (try dsimp only [thenK, blockK, noGotoK]); simp only [toList_mk, List.toList_toArray, retK_ret, retK_normal, resOK, resV, celV, rowV, frzAll, frzT, subV, subL, go_sem,↓dP,↓reduceIte])
 ((repeat' with_reducible apply And.intro) <;> (first | exact DEq.refl _ | refine DEq.int ?_ | refine DEq.bool ?_ | skip))
theorem c_lfits_nil (J : Job) (h : J.ok) : Ctr Tryz.prog 18 [J.sv, .d .nils] (.tup [bS true, bS true]) := by
 have := c_lfits J h [] trivial
 rw [show J.fit (setL (asI [])) = true from can_zero _ _ _] at this
 exact this.args ⟨⟨.refl _, .refl _, .refl _, .refl _, .refl _, .refl _, trivial⟩, DEq.nils rfl, trivial⟩
end
section
instance inst_g0_7:Glob:=g0
end
section
instance inst_gT_8:Glob:=gT
end
end Go.Proofs.Leaf
namespace Go.Proofs.Leaf
open Go Go.RX Go.Proofs Go.RowKit
set_option maxRecDepth 100000
section
instance inst_g0_9:Glob:=g0
def sumA (J : Job) (L : List Nat) : Int := (L.map (fun n => (J.ps.getD n default).w * (J.ps.getD n default).h)).sum
theorem sumA_snoc (J : Job) (L : List Nat) (n : Nat) : sumA J (L ++ [n]) = sumA J L + (J.ps.getD n default).w * (J.ps.getD n default).h := by simp [sumA]
theorem sumA_in {J : Job} (h : J.ok) : ∀ (L : List Nat), (∀ n ∈ L, n < J.ps.length) → 0 ≤ sumA J L ∧ sumA J L ≤ 36 * (L.length : Int) := by
 intro L
 induction L using revRec with
 | nil => intro _; simp [sumA]
 | append_singleton L n ih =>
  intro hL
  have h1 := ih (fun m hm => hL m (by simp [hm]))
  have h2 := h.ps _ (getD_mem (hL n (by simp)))
  have h3 := mul36 (show 0 ≤ (J.ps.getD n default).w by omega) h2.2.1 (show 0 ≤ (J.ps.getD n default).h by omega) h2.2.2.2.1
  rw [sumA_snoc, List.length_append]
  simp only [List.length_cons, List.length_nil]
  omega
theorem fit_area {J : Job} (h : J.ok) {L : List Nat} (hL : rises J.ps.length 0 L) (hf : J.fit (setL (asI L)) = true) : sumA J L ≤ J.wide * J.high := by
 have ha := can_area (ok_good h) (show can J.ps J.wide.toNat J.high.toNat _ = true from hf)
 rw [area_set hL] at ha
 have hw : (J.wide.toNat : Int) * J.high.toNat = J.wide * J.high := by
  have := h.w0; have := h.h0
  rw [Int.toNat_of_nonneg (by omega), Int.toNat_of_nonneg (by omega)]
 rw [hw] at ha
 exact ha
theorem fit_fewer {J : Job} (h : J.ok) {A B : List Nat} (hs : ∀ x ∈ B, x ∈ A) (hf : J.fit (setL (asI A)) = true) : J.fit (setL (asI B)) = true := by
 refine can_fewer (ok_good h) (J.wide.toNat + J.high.toNat) _ _ (setL (asI A)) _ (Nat.le_refl _) ?_ hf
 apply Nat.eq_of_testBit_eq
 intro i
 rw [Nat.testBit_and, setL_bit, setL_bit]
 by_cases q : i ∈ B
 ·simp [q, hs i q]
 ·simp [q]
theorem fit_one {J : Job} (h : J.ok) {n : Nat} (hn : n < J.ps.length) : J.fit (setL (asI [n])) = alone (J.ps.getD n default) J.wide.toNat J.high.toNat := by
 have e : setL (asI [n]) = 2 ^ n := by simp [setL]
 have h0 : (2 ^ n : Nat) ≠ 0 := Nat.pos_iff_ne_zero.1 (Nat.pow_pos (by decide))
 unfold Job.fit
 rw [e, Bool.eq_iff_iff, can_one h0 (single_pow n)]
 constructor
 ·rintro ⟨m, _, hm, ha⟩
  rwa [(Nat.pow_right_inj (by decide)).1 hm]
 ·exact fun ha => ⟨n, hn, rfl, ha⟩
end
section
instance inst_gT_10:Glob:=gT
theorem law_Fewer (J : Job) (hf : J.far) (l : List Int) (hl : l.length ≤ maxLen) (m : List Int) (hm : m.length ≤ maxLen) : Ctr Tryz.prog 3 [J.sv, ilS l, ilS m] (bS true) := by
 have hl' : l.length ≤ 9223372036854775807 := Nat.le_trans hl (by decide)
 have hm' : m.length ≤ 9223372036854775807 := Nat.le_trans hm (by decide)
 (refine Ctr.mk (fn := Tryz.f3) rfl rfl rfl rfl rfl Tryz.results3 ?_; intro _; dsimp only [args, List.toList_toArray])
 (first|refine qE ?_|refine qD ?_);(simp only [go_sem,↓dP,↓reduceIte];with_reducible and_intros;all_goals first|apply qA|exact qC|skip)
 refine Ok.seq ?_
 (first|refine qE ?_|refine qD ?_);(simp only [go_sem,↓dP,↓reduceIte];with_reducible and_intros;all_goals first|apply qA|exact qC|skip)
 (refine AskI.ret (c_lright J hf) ?_; simp only [go_sem,↓dP,↓reduceIte];with_reducible and_intros;all_goals first|apply qA|exact qC|skip)
 (refine AskGI.ret (fun _ => c_lslim l hl') ?_; simp only [go_sem,↓dP,↓reduceIte];with_reducible and_intros;all_goals first|apply qA|exact qC|skip)
 (refine AskGI.ret (fun _ => c_lslim m hm') ?_; simp only [go_sem,↓dP,↓reduceIte];with_reducible and_intros;all_goals first|apply qA|exact qC|skip)
 (refine AskGI.ret (fun q => c_rSome J (short_held (by simp [rightB] at q; simp [q])).2 l (by simp [slimB] at q; omega)) ?_; simp only [go_sem,↓dP,↓reduceIte];with_reducible and_intros;all_goals first|apply qA|exact qC|skip)
 (refine AskGI.ret (fun q => c_rSome J (short_held (by simp [rightB] at q; simp [q])).2 m (by simp [slimB] at q; omega)) ?_; simp only [go_sem,↓dP,↓reduceIte];with_reducible and_intros;all_goals first|apply qA|exact qC|skip)
 refine Ok.cond rfl ?_ ?_
 ·intro hs
  (first|refine qE ?_|refine qD ?_);(simp only [go_sem,↓dP,↓reduceIte];with_reducible and_intros;all_goals first|apply qA|exact qC|skip)
  (refine AskI.ret (c_known) ?_; simp only [go_sem,↓dP,↓reduceIte];with_reducible and_intros;all_goals first|apply qA|exact qC|skip)
  (refine Ok.ret ?_; (try dsimp only [thenK, blockK, noGotoK]); simp only [toList_mk, List.toList_toArray, retK_ret, retK_normal, resOK, resV, celV, rowV, frzAll, frzT, subV, subL, go_sem,↓dP,↓reduceIte])
  ((repeat' with_reducible apply And.intro) <;> (first | exact DEq.refl _ | refine DEq.int ?_ | refine DEq.bool ?_ | skip))
 intro hs
 (refine Ok.skip ?_; (try dsimp only [thenK, blockK, noGotoK]))
 obtain ⟨hr, hsl, hsm, hA, hB⟩ : rightB J = true ∧ slimB l = true ∧ slimB m = true ∧ someB J.ps.length l = true ∧ someB J.ps.length m = true := by
  revert hs
  cases rightB J <;> cases slimB l <;> cases slimB m <;> cases someB J.ps.length l <;> cases someB J.ps.length m <;> simp
 simp only [rightB, Bool.and_eq_true] at hr
 obtain ⟨hsh, hj⟩ := hr
 have h := jobB_iff.1 hj
 have hp := h.p1
 obtain ⟨A, rA, rfl⟩ := someB_iff.1 hA
 obtain ⟨B, rB, rfl⟩ := someB_iff.1 hB
 have hAl : (asI A).length ≤ 8 := by simpa [slimB] using hsl
 have hBl : (asI B).length ≤ 8 := by simpa [slimB] using hsm
 have hAn : (asI A).length = A.length := asI_len A
 have hBn : (asI B).length = B.length := asI_len B
 have hA5 : A.length ≤ 5 := by
  rcases rises_len rA with q | q
  ·omega
  ·rw [q]; simp
 have hnf := c_lfits_nil J h
 (first|refine qE ?_|refine qD ?_);(simp only [go_sem,↓dP,↓reduceIte];with_reducible and_intros;all_goals first|apply qA|exact qC|skip)
 (refine AskI.ret (c_lfits J h A rA) ?_; simp only [go_sem,↓dP,↓reduceIte];with_reducible and_intros;all_goals first|apply qA|exact qC|skip)
 (first|refine qE ?_|refine qD ?_);(simp only [go_sem,↓dP,↓reduceIte];with_reducible and_intros;all_goals first|apply qA|exact qC|skip)
 (refine AskI.ret (c_lfits J h B rB) ?_; simp only [go_sem,↓dP,↓reduceIte];with_reducible and_intros;all_goals first|apply qA|exact qC|skip)
 (first|refine qE ?_|refine qD ?_);(simp only [go_sem,↓dP,↓reduceIte];with_reducible and_intros;all_goals first|apply qA|exact qC|skip)
 (refine AskI.ret (hnf) ?_; simp only [go_sem,↓dP,↓reduceIte];with_reducible and_intros;all_goals first|apply qA|exact qC|skip)
 refine Ok.seq ?_
 (first|refine qE ?_|refine qD ?_);(simp only [go_sem,↓dP,↓reduceIte];with_reducible and_intros;all_goals first|apply qA|exact qC|skip)
 refine Ok.cond (b := false) (by first | rfl | (simp only [go_sem,↓dP,↓reduceIte]; rfl)) (fun hb => by cases hb) (fun _ => ?_)
 (refine Ok.skip ?_; (try dsimp only [thenK, blockK, noGotoK]))
 (first|refine qE ?_|refine qD ?_);(simp only [go_sem,↓dP,↓reduceIte];with_reducible and_intros;all_goals first|apply qA|exact qC|skip)
 refine Ok.seq ?_
 (first|refine qE ?_|refine qD ?_);(simp only [go_sem,↓dP,↓reduceIte];with_reducible and_intros;all_goals first|apply qA|exact qC|skip)
 refine Ok.block ?_
 refine Ok.count A.length (fun i => ⟨[(1, ilS (asI A)), (2, ilS (asI B)), (3, .p 0 0), (7, bS (J.fit (setL (asI A)))), (9, bS (J.fit (setL (asI B)))), (13, iS (sumA J (A.take i))), (14, bS true), (15, iS i)], [jobC J], []⟩) (fun _ => True) ⟨trivial, ?_⟩ ?_ ?_
 ·(refine Sub.of ([0]) ([]) ?_ ?_ ?_ rfl rfl <;> simp only [subB, subB1, subT, subT1, newT, subE, subV, subL, go_sem,↓dP,↓reduceIte] <;> (try (repeat' with_reducible apply And.intro)) <;> (try first | exact DEq.refl _ | refine DEq.int ?_ | refine DEq.bool ?_ | omega))
 ·intro i hi _
  have hx : (asI A).getD i default = ((A.getD i default : Nat) : Int) := asI_at hi
  have hmm := rises_mem rA _ (getD_mem hi)
  have hpp := h.ps _ (getD_mem hmm.2)
  have hp3 := mul36 (show 0 ≤ (J.ps.getD (A.getD i default) default).w by omega) hpp.2.1 (show 0 ≤ (J.ps.getD (A.getD i default) default).h by omega) hpp.2.2.2.1
  have hsn : sumA J (A.take (i + 1)) = sumA J (A.take i) + (J.ps.getD (A.getD i default) default).w * (J.ps.getD (A.getD i default) default).h := by rw [getD_take hi, sumA_snoc]
  have hin := sumA_in h (A.take i) (fun n hn => (rises_mem rA n (List.mem_of_mem_take hn)).2)
  have hlt : (A.take i).length = i := by simp; omega
  have hxn : ((asI A).getD i default).toNat = A.getD i default := by rw [hx]; rfl
  refine Ok.seq ?_; ((first|refine qE ?_|refine qD ?_);(simp only [go_sem,↓dP,↓reduceIte];with_reducible and_intros;all_goals first|apply qA|exact qC|skip)); refine Ok.cond rfl (fun _ => ?_) (fun hb => by simp at hb; omega); (refine Ok.skip ?_; (try dsimp only [thenK, blockK, noGotoK])); refine Ok.seq ?_; refine Ok.block ?_
  (first|refine qE ?_|refine qD ?_);(simp only [go_sem,↓dP,↓reduceIte];with_reducible and_intros;all_goals first|apply qA|exact qC|skip)
  ·rw [hxn]; exact R64 (by omega) (by omega)
  ·rw [hxn]; exact R64 (by omega) (by omega)
  (try dsimp only [thenK, blockK, noGotoK])
  (first|refine qE ?_|refine qD ?_);(simp only [go_sem,↓dP,↓reduceIte];with_reducible and_intros;all_goals first|apply qA|exact qC|skip)
  (try dsimp only [thenK, blockK, noGotoK])
  refine ⟨trivial, ?_⟩
  (refine Sub.of ([0]) ([]) ?_ ?_ ?_ rfl rfl <;> simp only [subB, subB1, subT, subT1, newT, subE, subV, subL, go_sem,↓dP,↓reduceIte] <;> (try (repeat' with_reducible apply And.intro)) <;> (try first | exact DEq.refl _ | refine DEq.int ?_ | refine DEq.bool ?_ | omega))
  rw [hxn, hsn]
 intro _
 rw [List.take_length]
 have hin := sumA_in h A (fun n hn => (rises_mem rA n hn).2)
 refine Ok.seq ?_; ((first|refine qE ?_|refine qD ?_);(simp only [go_sem,↓dP,↓reduceIte];with_reducible and_intros;all_goals first|apply qA|exact qC|skip)); refine Ok.cond rfl (fun hb => by simp at hb) (fun _ => ?_); (refine Ok.exit ?_; simp only [thenK_exit, blockK_exit, noGotoK_exit, thenK_normal, blockK_normal, noGotoK_normal, ↓reduceIte, Nat.reduceEqDiff])
 refine Ok.seq ?_
 (first|refine qE ?_|refine qD ?_);(simp only [go_sem,↓dP,↓reduceIte];with_reducible and_intros;all_goals first|apply qA|exact qC|skip)
 refine Ok.block ?_
 have hme : ∀ y : Nat, ((y : Int) ∈ asI A) ↔ y ∈ A := fun y => by
  rw [List.mem_map]
  exact ⟨fun ⟨a, ha, q⟩ => by rwa [show y = a by omega], fun q => ⟨y, q, rfl⟩⟩
 refine Ok.count B.length (fun i => ⟨[(1, ilS (asI A)), (2, ilS (asI B)), (3, .p 0 0), (7, bS (J.fit (setL (asI A)))), (9, bS (J.fit (setL (asI B)))), (13, iS (sumA J A)), (14, bS ((B.take i).all (fun x => decide (x ∈ A)))), (16, iS i)], [jobC J], []⟩) (fun _ => True) ⟨trivial, ?_⟩ ?_ ?_
 ·(refine Sub.of ([0]) ([]) ?_ ?_ ?_ rfl rfl <;> simp only [subB, subB1, subT, subT1, newT, subE, subV, subL, go_sem,↓dP,↓reduceIte] <;> (try (repeat' with_reducible apply And.intro)) <;> (try first | exact DEq.refl _ | refine DEq.int ?_ | refine DEq.bool ?_ | omega))
 ·intro i hi _
  have hx : (asI B).getD i default = ((B.getD i default : Nat) : Int) := asI_at hi
  have hsn : (B.take (i + 1)).all (fun x => decide (x ∈ A)) = ((B.take i).all (fun x => decide (x ∈ A)) && decide ((B.getD i default : Int) ∈ asI A)) := by
   rw [getD_take hi, List.all_append]
   congr 1
   simp only [List.all_cons, List.all_nil, Bool.and_true]
   exact decide_eq_decide.2 (hme _).symm
  refine Ok.seq ?_; ((first|refine qE ?_|refine qD ?_);(simp only [go_sem,↓dP,↓reduceIte];with_reducible and_intros;all_goals first|apply qA|exact qC|skip)); refine Ok.cond rfl (fun _ => ?_) (fun hb => by simp at hb; omega); (refine Ok.skip ?_; (try dsimp only [thenK, blockK, noGotoK])); refine Ok.seq ?_; refine Ok.block ?_
  (first|refine qE ?_|refine qD ?_);(simp only [go_sem,↓dP,↓reduceIte];with_reducible and_intros;all_goals first|apply qA|exact qC|skip)
  rw [hx]
  (refine AskGI.ret (fun _ => c_tListed (asI A) (B.getD i default) (by omega)) ?_; simp only [go_sem,↓dP,↓reduceIte];with_reducible and_intros;all_goals first|apply qA|exact qC|skip)
  (try dsimp only [thenK, blockK, noGotoK])
  (first|refine qE ?_|refine qD ?_);(simp only [go_sem,↓dP,↓reduceIte];with_reducible and_intros;all_goals first|apply qA|exact qC|skip)
  (try dsimp only [thenK, blockK, noGotoK])
  refine ⟨trivial, ?_⟩
  (refine Sub.of ([0]) ([]) ?_ ?_ ?_ rfl rfl <;> simp only [subB, subB1, subT, subT1, newT, subE, subV, subL, go_sem,↓dP,↓reduceIte] <;> (try (repeat' with_reducible apply And.intro)) <;> (try first | exact DEq.refl _ | refine DEq.int ?_ | refine DEq.bool ?_ | omega))
  rw [hsn]
 intro _
 rw [List.take_length]
 refine Ok.seq ?_; ((first|refine qE ?_|refine qD ?_);(simp only [go_sem,↓dP,↓reduceIte];with_reducible and_intros;all_goals first|apply qA|exact qC|skip)); refine Ok.cond rfl (fun hb => by simp at hb) (fun _ => ?_); (refine Ok.exit ?_; simp only [thenK_exit, blockK_exit, noGotoK_exit, thenK_normal, blockK_normal, noGotoK_normal, ↓reduceIte, Nat.reduceEqDiff])
 have g1 := h.w0
 have g2 := h.w1
 have g3 := h.h0
 have g4 := h.h1
 have hw36 := mul36 (a := J.wide) (b := J.high) (by omega) g2 (by omega) g4
 have hfin : (!J.fit (setL (asI A)) || (decide (sumA J A ≤ J.wide * J.high) && (!(B.all (fun x => decide (x ∈ A))) || J.fit (setL (asI B))))) = true := by
  cases hfa : J.fit (setL (asI A)) with
  | false => rfl
  | true =>
   rw [decide_eq_true (fit_area h rA hfa)]
   cases hb : B.all (fun x => decide (x ∈ A)) with
   | false => rfl
   | true =>
    rw [fit_fewer h (fun x hx => by simpa using List.all_eq_true.1 hb x hx) hfa]; rfl
 by_cases h1 : A.length = 1
 ·obtain ⟨a, rfl⟩ : ∃ a, A = [a] := List.length_eq_one_iff.1 h1
  have ha := (rises_mem rA a (by simp)).2
  have hfo := fit_one h ha
  have han : ((asI [a]).getD 0 default).toNat = a := rfl
  have han' : (asI [a]).getD 0 default = (a : Int) := rfl
  have hal : alone (J.ps.getD a default) J.wide.toNat J.high.toNat = (decide ((J.ps.getD a default).w ≤ J.wide) && decide ((J.ps.getD a default).h ≤ J.high) || (J.ps.getD a default).turn && decide ((J.ps.getD a default).h ≤ J.wide) && decide ((J.ps.getD a default).w ≤ J.high)) := by
   unfold alone
   rw [Int.toNat_of_nonneg (by omega), Int.toNat_of_nonneg (by omega)]
  rw [hal] at hfo
  refine Ok.seq ?_
  (first|refine qE ?_|refine qD ?_);(simp only [go_sem,↓dP,↓reduceIte];with_reducible and_intros;all_goals first|apply qA|exact qC|skip)
  refine Ok.cond (b := true) (by first | rfl | (simp only [go_sem,↓dP,↓reduceIte]; rfl)) (fun _ => ?_) (fun hb => by cases hb)
  refine Ok.seq ?_
  (first|refine qE ?_|refine qD ?_);(simp only [go_sem,↓dP,↓reduceIte];with_reducible and_intros;all_goals first|apply qA|exact qC|skip)
  (try dsimp only [thenK, blockK, noGotoK])
  refine Ok.seq ?_
  (first|refine qE ?_|refine qD ?_);(simp only [go_sem,↓dP,↓reduceIte];with_reducible and_intros;all_goals first|apply qA|exact qC|skip)
  refine Ok.cond rfl (fun hb => ?_) (fun _ => ?_)
  ·exfalso
   have hfo2 := hfo
   change J.fit (setL [(a : Int)]) = _ at hfo2
   revert hb
   rw [hfo2]
   cases decide ((J.ps.getD a default).w ≤ J.wide) <;> cases decide ((J.ps.getD a default).h ≤ J.high) <;> cases (J.ps.getD a default).turn <;> cases decide ((J.ps.getD a default).h ≤ J.wide) <;> cases decide ((J.ps.getD a default).w ≤ J.high) <;> simp
  (refine Ok.skip ?_; (try dsimp only [thenK, blockK, noGotoK]))
  (try dsimp only [thenK, blockK, noGotoK])
  (first|refine qE ?_|refine qD ?_);(simp only [go_sem,↓dP,↓reduceIte];with_reducible and_intros;all_goals first|apply qA|exact qC|skip)
  (refine AskGI.ret (fun _ => c_known) ?_; simp only [go_sem,↓dP,↓reduceIte];with_reducible and_intros;all_goals first|apply qA|exact qC|skip)
  (refine Ok.ret ?_; (try dsimp only [thenK, blockK, noGotoK]); simp only [toList_mk, List.toList_toArray, retK_ret, retK_normal, resOK, resV, celV, rowV, frzAll, frzT, subV, subL, go_sem,↓dP,↓reduceIte])
  refine DEq.bool ?_
  simpa using hfin
 ·refine Ok.seq ?_
  (first|refine qE ?_|refine qD ?_);(simp only [go_sem,↓dP,↓reduceIte];with_reducible and_intros;all_goals first|apply qA|exact qC|skip)
  refine Ok.cond rfl (fun hb => by simp at hb; omega) (fun _ => ?_)
  (refine Ok.skip ?_; (try dsimp only [thenK, blockK, noGotoK]))
  (first|refine qE ?_|refine qD ?_);(simp only [go_sem,↓dP,↓reduceIte];with_reducible and_intros;all_goals first|apply qA|exact qC|skip)
  (refine AskGI.ret (fun _ => c_known) ?_; simp only [go_sem,↓dP,↓reduceIte];with_reducible and_intros;all_goals first|apply qA|exact qC|skip)
  (refine Ok.ret ?_; (try dsimp only [thenK, blockK, noGotoK]); simp only [toList_mk, List.toList_toArray, retK_ret, retK_normal, resOK, resV, celV, rowV, frzAll, frzT, subV, subL, go_sem,↓dP,↓reduceIte])
  refine DEq.bool ?_
  revert hfin
  cases J.fit (setL (asI A)) <;> simp
end
end Go.Proofs.Leaf
namespace Go.Proofs.YtojfpogcfpmblaaGreatDoor
open Go Go.RX Go.Proofs.Leaf Go.RowKit Go.ChangeShapes Go.WideShapes Go.ChangeAt
set_option maxRecDepth 100000
theorem leafFewer_ctr (As : List SV) (h : opensAll [25, 26, 26] As) : Ctr Tryz.prog 3 As (bS true) := by
 obtain ⟨_, A1, rfl, h0, h⟩ := opensAll_cons h
 obtain ⟨_, A2, rfl, h1, h⟩ := opensAll_cons h
 obtain ⟨_, A3, rfl, h2, h⟩ := opensAll_cons h
 obtain rfl := opensAll_nil h
 obtain ⟨x0, rfl, y0⟩ := opens_job h0
 obtain ⟨x1, rfl, y1⟩ := opens_ints h1
 obtain ⟨x2, rfl, y2⟩ := opens_ints h2
 exact law_Fewer x0 y0 x1 y1 x2 y2
theorem leafFewer_facts : joinedFacts Tryz.prog 3 Tryz.f3 Rows.leafFewerSpec Rows.leafFewerRow = true := by unfold joinedFacts; rw [enter_is, final_is, make_is]; kernel_rfl
theorem leafFewer_lifted (os : Os) (started : os.Started) (H : Type) (enc : TypeId × Value → H) :
  ReturnsInHanded {} Tryz.checked os 3 .any (fun w args => (Rows.leafFewerSpec.pre enc Tryz.prog Tryz.f3 [] false w args ∧ laidMetH Tryz.prog laid5 w) ∧ sizedMet enc Tryz.prog Tryz.f3 (OpenSpec.ofChange Rows.leafFewerSpec) false w args)
   (Rows.leafFewerSpec.post enc Tryz.prog Tryz.f3 false true false false) := by
 refine law_ctr (ts := [25, 26, 26]) Rows.leafFewerSpec rfl started (by kernel_rfl) Tryz.func3 (by kernel_rfl) (by rw [Tryz.params3]) (by unfold argT; decide)
  (fun ds hd => ?_)
  (ChangeSpec.witness_shaped (enc := enc) (C := Tryz.checked) (os := os) (X := fun w _ => laidMetH Tryz.prog laid5 w) false (World.laidAll Tryz.prog os laid5) #[zJ, zL, zL] 8 (World.laidAll_os _ _ _)
   (World.shaped_of_ZipB (by kernel_rfl) (by kernel_rfl)) (by kernel_rfl) (by kernel_rfl) (by kernel_rfl)
   (by rw [MakeChecks.laidMetH_plain _ _ _ (by kernel_rfl)]; exact laidMet_laidAll _ (by kernel_rfl) (by kernel_rfl))) leafFewer_ctr
 match ds, hd with
 | [d0, d1, d2], _ => rfl
theorem leafFewer_row : Rows.LeafFewerSaid :=
 OpenClaim.holds_of_wide 3 Tryz.f3 rfl rfl rfl rfl rfl rfl rfl ⟨rfl, rfl, rfl, rfl, rfl⟩ rfl rfl rfl rfl rfl (by kernel_rfl) Tryz.func3 leafFewer_facts (of_decide_eq_true (by kernel_rfl))
  (by unfold Func.isWrapper; first | (rw [if_pos (by decide +kernel)]; kernel_rfl) | (rw [if_neg (by decide +kernel)]; exact ⟨rfl, rfl⟩)) (fun os started H enc _ => leafFewer_lifted os started H enc)
theorem leafFewer_card : Rows.LeafFewerCardSaid :=
 Claim7.holds_tied_plain_at .later [] [.data, .data, .data, .data, .pinned] true (true, "b9e665a4b67ae011e5ed22b8eb226cc6d74f55357845231d1045bbc61717fa8c") true leafFewer_row
  (fun _ h => by cases h) (by kernel_rfl) (fun _ h => by cases h) leafFewer_row_tie rfl ⟨rfl, rfl⟩ main_is rfl
  (fun f fn hf hfn => by
   obtain rfl : f = 3 := Option.some.inj ((show Tryz.prog.funcNamed "mahlstick/mahlsticklaw04.LeafFewer" = some 3 by kernel_rfl).symm.trans hf) |>.symm
   obtain rfl : fn = Tryz.f3 := (Option.some.inj (Tryz.func3.symm.trans hfn)).symm
   exact ⟨by kernel_rfl, fun j t ht => by
    rw [Tryz.params3] at ht
    exact law_stand (ts := [25, 26, 26]) (by unfold argT; decide) (by simpa using Array.mem_of_getElem? ht)⟩) (by kernel_rfl)
end Go.Proofs.YtojfpogcfpmblaaGreatDoor
