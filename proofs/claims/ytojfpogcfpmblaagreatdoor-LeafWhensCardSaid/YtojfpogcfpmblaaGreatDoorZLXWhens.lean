/-
  When gold is surely dry enough: LeafWhens returns true at every input, and leaves it as it was.
  No condition beside those that the statement itself names.
-/
import Derived.Test.YtojfpogcfpmblaaGreatDoorB30
import Derived.ChangeMaps5
set_option linter.all false
set_option linter.unusedVariables false
set_option linter.unusedSectionVars false
set_option linter.unusedSimpArgs false
set_option linter.unnecessarySimpa false
namespace Go.Proofs.Leaf
def firstR : List (Option (Int × Int)) → List Int → Option (List Int)
 | [], now => some now
 | none :: r, now => firstR r (now ++ [-1])
 | some (a, b) :: r, now => (hoursL a b).findSome? (fun h => if h ∈ now then none else firstR r (now ++ [h]))
theorem head_flatMap {α β : Type} (f : α → List β) : ∀ l : List α, (l.flatMap f).head? = l.findSome? (fun x => (f x).head?)
 | [] => rfl
 | a :: l => by
  rw [List.flatMap_cons, List.head?_append, List.findSome?_cons, head_flatMap f l]
  cases (f a).head? <;> rfl
theorem findSome_congr {α β : Type} {f g : α → Option β} : ∀ {l : List α}, (∀ x ∈ l, f x = g x) → l.findSome? f = l.findSome? g
 | [], _ => rfl
 | a :: l, h => by
  rw [List.findSome?_cons, List.findSome?_cons, h a (List.mem_cons_self ..), findSome_congr (fun x hx => h x (List.mem_cons_of_mem _ hx))]
theorem firstR_eq : ∀ (sp : List (Int × Int)) (now : List Int), firstR (sp.map some) now = (planL sp now).head?
 | [], now => rfl
 | (a, b) :: r, now => by
  rw [List.map_cons, firstR, planL, head_flatMap]
  refine findSome_congr (fun h _ => ?_)
  by_cases hm : h ∈ now
  ·rw [if_pos hm, if_pos hm]; rfl
  ·rw [if_neg hm, if_neg hm, firstR_eq r]
theorem hours_sorted (a b : Int) : (hoursL a b).Pairwise (· < ·) := by
 rw [hoursL, List.pairwise_map]
 exact List.pairwise_lt_range.imp (fun h => by omega)
end Go.Proofs.Leaf
namespace Go.Proofs.Leaf
theorem head_some {α : Type} {L : List α} : L.head?.isSome = true ↔ ∃ x, x ∈ L := by
 cases L with
 | nil => simp
 | cons a L => simp only [List.head?_cons, Option.isSome_some, true_iff]; exact ⟨a, List.mem_cons_self ..⟩
theorem within_iff : ∀ {l : List Int} {sp : List (Int × Int)}, within l sp ↔ l.length = sp.length ∧ ∀ i, i < sp.length → (sp.getD i default).1 ≤ l.getD i 0 ∧ l.getD i 0 ≤ (sp.getD i default).2
 | [], [] => by simp [within]
 | x :: l, (a, b) :: sp => by
  have ih := within_iff (l := l) (sp := sp)
  simp only [within, ih, List.length_cons]
  constructor
  ·rintro ⟨h1, h2, h3, h4⟩
   refine ⟨by omega, fun i hi => ?_⟩
   cases i with
   | zero => exact ⟨h1, h2⟩
   | succ i => simpa using h4 i (by omega)
  ·rintro ⟨h1, h2⟩
   have h0 := h2 0 (by omega)
   refine ⟨h0.1, h0.2, by omega, fun i hi => ?_⟩
   simpa using h2 (i + 1) (by omega)
 | [], _ :: _ => by simp [within]
 | _ :: _, [] => by simp [within]
theorem within_set {l : List Int} {sp : List (Int × Int)} {i : Nat} (hi : i < sp.length) {a b : Int} : within l (sp.set i (a, b)) ↔ l.length = sp.length ∧ a ≤ l.getD i 0 ∧ l.getD i 0 ≤ b ∧ ∀ j, j < sp.length → j ≠ i → (sp.getD j default).1 ≤ l.getD j 0 ∧ l.getD j 0 ≤ (sp.getD j default).2 := by
 rw [within_iff, List.length_set]
 constructor
 ·rintro ⟨h1, h2⟩
  have h3 := h2 i hi
  rw [List.getD_eq_getElem?_getD, List.getElem?_set_self hi] at h3
  refine ⟨h1, h3.1, h3.2, fun j hj hne => ?_⟩
  have h4 := h2 j hj
  rw [List.getD_eq_getElem?_getD, List.getElem?_set_ne (fun e => hne e.symm), ← List.getD_eq_getElem?_getD] at h4
  exact h4
 ·rintro ⟨h1, h2, h3, h4⟩
  refine ⟨h1, fun j hj => ?_⟩
  by_cases e : j = i
  ·subst e
   rw [List.getD_eq_getElem?_getD, List.getElem?_set_self hi]
   exact ⟨h2, h3⟩
  ·rw [List.getD_eq_getElem?_getD (l := sp.set i (a, b)), List.getElem?_set_ne (fun q => e q.symm), ← List.getD_eq_getElem?_getD]
   exact h4 j hj e
theorem fixS_iff {sp : List (Int × Int)} {i : Nat} (hi : i < sp.length) {a b : Int} (ha : (sp.getD i default).1 ≤ a) (hb : b ≤ (sp.getD i default).2) :
  fixS sp i a b = true ↔ ∃ l ∈ planL sp [], a ≤ l.getD i 0 ∧ l.getD i 0 ≤ b := by
 rw [fixS, head_some]
 constructor
 ·rintro ⟨l, hl⟩
  obtain ⟨h1, h2⟩ := plan_iff.1 hl
  obtain ⟨g1, g2, g3, g4⟩ := (within_set hi).1 h1
  refine ⟨l, plan_iff.2 ⟨within_iff.2 ⟨g1, fun j hj => ?_⟩, h2⟩, g2, g3⟩
  by_cases e : j = i
  ·subst e; omega
  ·exact g4 j hj e
 ·rintro ⟨l, hl, h3, h4⟩
  obtain ⟨h1, h2⟩ := plan_iff.1 hl
  obtain ⟨g1, g2⟩ := within_iff.1 h1
  exact ⟨l, plan_iff.2 ⟨(within_set hi).2 ⟨g1, h3, h4, fun j hj _ => g2 j hj⟩, h2⟩⟩
theorem planL_empty : ∀ (s t : List (Int × Int)) (a b : Int) (now : List Int), b < a → planL (s ++ (a, b) :: t) now = []
 | [], t, a, b, now, h => by
  have : hoursL a b = [] := by
   rw [List.eq_nil_iff_forall_not_mem]
   intro x hx
   have := mem_hoursL.1 hx
   omega
  rw [List.nil_append, planL, this]; rfl
 | (c, d) :: s, t, a, b, now, h => by
  rw [List.cons_append, planL, List.flatMap_eq_nil_iff]
  intro x _
  split
  ·rfl
  ·exact planL_empty s t a b _ h
theorem fixS_empty {sp : List (Int × Int)} {i : Nat} (hi : i < sp.length) {a b : Int} (h : b < a) : fixS sp i a b = false := by
 have : sp.set i (a, b) = sp.take i ++ (a, b) :: sp.drop (i + 1) := by rw [List.set_eq_take_append_cons_drop, if_pos hi]
 rw [fixS, this, planL_empty _ _ _ _ _ h]; rfl
theorem hours_filter {lo hi : Int} (h0 : 0 ≤ lo) (h1 : hi ≤ 12) (p : Int → Bool) (hp : ∀ x, p x = true → lo ≤ x ∧ x ≤ hi) : (hoursL 0 12).filter p = (hoursL lo hi).filter p := by
 have hs1 := (hours_sorted 0 12).sublist (List.filter_sublist (p := p))
 have hs2 := (hours_sorted lo hi).sublist (List.filter_sublist (p := p))
 refine List.Perm.eq_of_pairwise (le := (· < ·)) (fun a b _ _ h1 h2 => by omega) hs1 hs2 ?_
 refine (List.perm_ext_iff_of_nodup (hs1.imp (fun h => by omega)) (hs2.imp (fun h => by omega))).2 (fun x => ?_)
 simp only [List.mem_filter, mem_hoursL]
 constructor
 ·rintro ⟨_, h⟩; exact ⟨hp x h, h⟩
 ·rintro ⟨_, h⟩; have := hp x h; exact ⟨by omega, h⟩
theorem whenL_eq {sp : List (Int × Int)} {i : Nat} (hi : i < sp.length) (h0 : 0 ≤ (sp.getD i default).1) (h1 : (sp.getD i default).2 ≤ 12) :
  whenL sp i = (hoursL (sp.getD i default).1 (sp.getD i default).2).filter (fun h => fixS sp i h h) := by
 rw [whenL, hours_filter h0 h1]
 ·refine List.filter_congr (fun x hx => ?_)
  have := mem_hoursL.1 hx
  have e1 : max x (sp.getD i default).1 = x := by omega
  have e2 : min x (sp.getD i default).2 = x := by omega
  rw [e1, e2]
 ·intro x hx
  refine Classical.byContradiction (fun hn => ?_)
  rw [fixS_empty hi (by omega)] at hx; cases hx
theorem mem_whenL {sp : List (Int × Int)} {i : Nat} (hi : i < sp.length) (h0 : 0 ≤ (sp.getD i default).1) (h1 : (sp.getD i default).2 ≤ 12) {x : Int} : x ∈ whenL sp i ↔ ∃ l ∈ planL sp [], l.getD i 0 = x := by
 rw [whenL_eq hi h0 h1, List.mem_filter, mem_hoursL]
 constructor
 ·rintro ⟨h2, h3⟩
  obtain ⟨l, hl, h4, h5⟩ := (fixS_iff hi h2.1 h2.2).1 h3
  exact ⟨l, hl, by omega⟩
 ·rintro ⟨l, hl, rfl⟩
  have h2 := (within_iff.1 (plan_iff.1 hl).1).2 i hi
  exact ⟨h2, (fixS_iff hi h2.1 h2.2).2 ⟨l, hl, by omega, by omega⟩⟩
theorem whenL_nil {sp : List (Int × Int)} {i : Nat} (hi : i < sp.length) (h0 : 0 ≤ (sp.getD i default).1) (h1 : (sp.getD i default).2 ≤ 12) : whenL sp i = [] ↔ (planL sp []).head? = none := by
 rw [List.eq_nil_iff_forall_not_mem, List.head?_eq_none_iff, List.eq_nil_iff_forall_not_mem]
 constructor
 ·intro h l hl
  exact h _ ((mem_whenL hi h0 h1).2 ⟨l, hl, rfl⟩)
 ·intro h x hx
  obtain ⟨l, hl, _⟩ := (mem_whenL hi h0 h1).1 hx
  exact h l hl
end Go.Proofs.Leaf
namespace Go.Proofs.Leaf
open Go Go.RX Go.Proofs
set_option maxRecDepth 10000
variable [Glob]
theorem c_rin (n lo hi : Int) : Ctr Tryz.prog 60 [iS n, iS lo, iS hi] (bS (inB n lo hi)) := by
 (refine Ctr.mk (fn := Tryz.f60) rfl rfl rfl rfl rfl Tryz.results60 ?_; intro _; dsimp only [args, List.toList_toArray])
 (first|refine qE ?_|refine qD ?_);(simp only [go_sem,↓dP,↓reduceIte];with_reducible and_intros;all_goals first|apply qA|exact qC|skip)
 (first|refine qE ?_|refine qD ?_);(simp only [go_sem,↓dP,↓reduceIte];with_reducible and_intros;all_goals first|apply qA|exact qC|skip)
 (refine Ok.ret ?_; (try dsimp only [thenK, blockK, noGotoK]); simp only [toList_mk, List.toList_toArray, retK_ret, retK_normal, resOK, resV, celV, rowV, frzAll, frzT, subV, subL, go_sem,↓dP,↓reduceIte])
 exact .refl _
end Go.Proofs.Leaf
namespace Go.Proofs.Leaf
open Go Go.RX Go.Proofs
set_option maxRecDepth 10000
variable [Glob]
theorem c_rPiece (J : Job) (hh : J.ps.length < 1000000) (n : Int) : Ctr Tryz.prog 33 [J.sv, iS n] (bS (inB n 0 (J.ps.length - 1))) := by
 (refine Ctr.mk (fn := Tryz.f33) rfl rfl rfl rfl rfl Tryz.results33 ?_; intro _; dsimp only [args, List.toList_toArray])
 (first|refine qE ?_|refine qD ?_);(simp only [go_sem,↓dP,↓reduceIte];with_reducible and_intros;all_goals first|apply qA|exact qC|skip)
 (first|refine qE ?_|refine qD ?_);(simp only [go_sem,↓dP,↓reduceIte];with_reducible and_intros;all_goals first|apply qA|exact qC|skip)
 (refine AskI.ret (c_rin _ _ _) ?_; simp only [go_sem,↓dP,↓reduceIte];with_reducible and_intros;all_goals first|apply qA|exact qC|skip)
 (refine Ok.ret ?_; (try dsimp only [thenK, blockK, noGotoK]); simp only [toList_mk, List.toList_toArray, retK_ret, retK_normal, resOK, resV, celV, rowV, frzAll, frzT, subV, subL, go_sem,↓dP,↓reduceIte])
 exact .refl _
end Go.Proofs.Leaf
namespace Go.Proofs.Leaf
open Go Go.RX Go.Proofs
set_option maxRecDepth 10000
variable [Glob]
theorem c_rHours (J : Job) (hJ : J.based) (n : Int) (h0 : 0 ≤ n) (h1 : n < J.ps.length) (may : Bool) : Ctr Tryz.prog 90 [J.sv, iS n, bS may] (spS (J.span may n)) := by
 have hm := hJ.at_ _ (getD_mem (l := J.ps) (i := n.toNat) (by omega))
 have g1 := hJ.gl
 have p1 := hJ.pl
 (refine Ctr.mk (fn := Tryz.f90) rfl rfl rfl rfl rfl Tryz.results90 ?_; intro _; dsimp only [args, List.toList_toArray])
 (first|refine qE ?_|refine qD ?_);(simp only [go_sem,↓dP,↓reduceIte];with_reducible and_intros;all_goals first|apply qA|exact qC|skip)
 (first|refine qE ?_|refine qD ?_);(simp only [go_sem,↓dP,↓reduceIte];with_reducible and_intros;all_goals first|apply qA|exact qC|skip)
 refine Ok.seq ?_
 (first|refine qE ?_|refine qD ?_);(simp only [go_sem,↓dP,↓reduceIte];with_reducible and_intros;all_goals first|apply qA|exact qC|skip)
 refine Ok.cond rfl ?_ ?_
 ·intro hb
  subst hb
  (first|refine qE ?_|refine qD ?_);(simp only [go_sem,↓dP,↓reduceIte];with_reducible and_intros;all_goals first|apply qA|exact qC|skip)
  (refine Ok.ret ?_; (try dsimp only [thenK, blockK, noGotoK]); simp only [toList_mk, List.toList_toArray, retK_ret, retK_normal, resOK, resV, celV, rowV, frzAll, frzT, subV, subL, go_sem,↓dP,↓reduceIte])
  ((repeat' with_reducible apply And.intro) <;> (first | exact DEq.refl _ | refine DEq.int ?_ | refine DEq.bool ?_ | skip))
 ·intro hb
  subst hb
  (refine Ok.skip ?_; (try dsimp only [thenK, blockK, noGotoK]))
  (first|refine qE ?_|refine qD ?_);(simp only [go_sem,↓dP,↓reduceIte];with_reducible and_intros;all_goals first|apply qA|exact qC|skip)
  (refine Ok.ret ?_; (try dsimp only [thenK, blockK, noGotoK]); simp only [toList_mk, List.toList_toArray, retK_ret, retK_normal, resOK, resV, celV, rowV, frzAll, frzT, subV, subL, go_sem,↓dP,↓reduceIte])
  ((repeat' with_reducible apply And.intro) <;> (first | exact DEq.refl _ | refine DEq.int ?_ | refine DEq.bool ?_ | skip))
theorem c_tListed (l : List Int) (v : Int) (hl : l.length < 1000000) : Ctr Tryz.prog 19 [ilS l, iS v] (bS (decide (v ∈ l))) := by
 rw [← any_mem]
 (refine Ctr.mk (fn := Tryz.f19) rfl rfl rfl rfl rfl Tryz.results19 ?_; intro _; dsimp only [args, List.toList_toArray])
 (first|refine qE ?_|refine qD ?_);(simp only [go_sem,↓dP,↓reduceIte];with_reducible and_intros;all_goals first|apply qA|exact qC|skip)
 refine Ok.seq ?_
 (first|refine qE ?_|refine qD ?_);(simp only [go_sem,↓dP,↓reduceIte];with_reducible and_intros;all_goals first|apply qA|exact qC|skip)
 refine Ok.block ?_
 refine Ok.count l.length (fun i => ⟨[(0, ilS l), (1, iS v), (5, iS i)], [], []⟩) (fun i => ∀ x ∈ l.take i, (v == x) = false) ⟨fun x hx => by simp at hx, ?_⟩ ?_ ?_
 ·(refine Sub.of ([]) ([]) ?_ ?_ ?_ rfl rfl <;> simp only [subB, subB1, subT, subT1, newT, subE, subV, subL, go_sem,↓dP,↓reduceIte] <;> (try (repeat' with_reducible apply And.intro)) <;> (try first | exact DEq.refl _ | refine DEq.int ?_ | refine DEq.bool ?_ | omega))
 ·intro i hi h0
  have hsw : ((l.getD i default == v) : Bool) = (v == l.getD i default) := by rw [Bool.eq_iff_iff]; simp only [beq_iff_eq]; exact ⟨Eq.symm, Eq.symm⟩
  refine Ok.seq ?_; ((first|refine qE ?_|refine qD ?_);(simp only [go_sem,↓dP,↓reduceIte];with_reducible and_intros;all_goals first|apply qA|exact qC|skip)); refine Ok.cond rfl (fun _ => ?_) (fun hb => by simp at hb; omega); (refine Ok.skip ?_; (try dsimp only [thenK, blockK, noGotoK])); refine Ok.seq ?_; refine Ok.block ?_
  (first|refine qE ?_|refine qD ?_);(simp only [go_sem,↓dP,↓reduceIte];with_reducible and_intros;all_goals first|apply qA|exact qC|skip)
  refine Ok.cond rfl ?_ ?_
  ·intro hp
   rw [hsw] at hp
   (first|refine qE ?_|refine qD ?_);(simp only [go_sem,↓dP,↓reduceIte];with_reducible and_intros;all_goals first|apply qA|exact qC|skip)
   (refine Ok.ret ?_; (try dsimp only [thenK, blockK, noGotoK]); simp only [toList_mk, List.toList_toArray, retK_ret, retK_normal, resOK, resV, celV, rowV, frzAll, frzT, subV, subL, go_sem,↓dP,↓reduceIte])
   refine DEq.bool ?_
   rw [List.any_eq_true.2 ⟨_, getD_mem hi, hp⟩]
  ·intro hp
   rw [hsw] at hp
   (refine Ok.skip ?_; (try dsimp only [thenK, blockK, noGotoK]))
   (first|refine qE ?_|refine qD ?_);(simp only [go_sem,↓dP,↓reduceIte];with_reducible and_intros;all_goals first|apply qA|exact qC|skip)
   (try dsimp only [thenK, blockK, noGotoK])
   refine ⟨no_step hi h0 hp, ?_⟩
   (refine Sub.of ([]) ([]) ?_ ?_ ?_ rfl rfl <;> simp only [subB, subB1, subT, subT1, newT, subE, subV, subL, go_sem,↓dP,↓reduceIte] <;> (try (repeat' with_reducible apply And.intro)) <;> (try first | exact DEq.refl _ | refine DEq.int ?_ | refine DEq.bool ?_ | omega))
 ·intro h0
  refine Ok.seq ?_; ((first|refine qE ?_|refine qD ?_);(simp only [go_sem,↓dP,↓reduceIte];with_reducible and_intros;all_goals first|apply qA|exact qC|skip)); refine Ok.cond rfl (fun hb => by simp at hb) (fun _ => ?_); (refine Ok.exit ?_; simp only [thenK_exit, blockK_exit, noGotoK_exit, thenK_normal, blockK_normal, noGotoK_normal, ↓reduceIte, Nat.reduceEqDiff])
  (first|refine qE ?_|refine qD ?_);(simp only [go_sem,↓dP,↓reduceIte];with_reducible and_intros;all_goals first|apply qA|exact qC|skip)
  (refine Ok.ret ?_; (try dsimp only [thenK, blockK, noGotoK]); simp only [toList_mk, List.toList_toArray, retK_ret, retK_normal, resOK, resV, celV, rowV, frzAll, frzT, subV, subL, go_sem,↓dP,↓reduceIte])
  refine DEq.bool ?_
  rw [List.any_eq_false.2 (fun x hx => by simp [h0 x (by simpa using hx)])]
end Go.Proofs.Leaf
namespace Go.Proofs.Leaf
open Go Go.RX Go.Proofs
set_option maxRecDepth 10000
variable [Glob]
theorem c_rJob (J : Job) (hh : J.held) : Ctr Tryz.prog 24 [J.sv] (bS (jobB J)) := by
 have hh1 := hh.1
 have hh2 := hh.2
 (refine Ctr.mk (fn := Tryz.f24) rfl rfl rfl rfl rfl Tryz.results24 ?_; intro _; dsimp only [args, List.toList_toArray])
 (first|refine qE ?_|refine qD ?_);(simp only [go_sem,↓dP,↓reduceIte];with_reducible and_intros;all_goals first|apply qA|exact qC|skip)
 refine Ok.seq ?_
 (first|refine qE ?_|refine qD ?_);(simp only [go_sem,↓dP,↓reduceIte];with_reducible and_intros;all_goals first|apply qA|exact qC|skip)
 (refine AskI.ret (c_rin _ _ _) ?_; simp only [go_sem,↓dP,↓reduceIte];with_reducible and_intros;all_goals first|apply qA|exact qC|skip)
 (refine AskGI.ret (fun _ => c_rin _ _ _) ?_; simp only [go_sem,↓dP,↓reduceIte];with_reducible and_intros;all_goals first|apply qA|exact qC|skip)
 (refine AskGI.ret (fun _ => c_rin _ _ _) ?_; simp only [go_sem,↓dP,↓reduceIte];with_reducible and_intros;all_goals first|apply qA|exact qC|skip)
 ·intro h
  have : inB J.book 1 25 = true := by revert h; cases inB J.book 1 25 <;> simp
  rw [inB_iff] at this
  exact R64 (by omega) (by omega)
 (refine AskGI.ret (fun _ => c_rin _ _ _) ?_; simp only [go_sem,↓dP,↓reduceIte];with_reducible and_intros;all_goals first|apply qA|exact qC|skip)
 (refine AskGI.ret (fun _ => c_rin _ _ _) ?_; simp only [go_sem,↓dP,↓reduceIte];with_reducible and_intros;all_goals first|apply qA|exact qC|skip)
 (refine AskGI.ret (fun _ => c_rin _ _ _) ?_; simp only [go_sem,↓dP,↓reduceIte];with_reducible and_intros;all_goals first|apply qA|exact qC|skip)
 refine Ok.cond rfl ?_ ?_
 ·intro hb
  (first|refine qE ?_|refine qD ?_);(simp only [go_sem,↓dP,↓reduceIte];with_reducible and_intros;all_goals first|apply qA|exact qC|skip)
  (refine Ok.ret ?_; (try dsimp only [thenK, blockK, noGotoK]); simp only [toList_mk, List.toList_toArray, retK_ret, retK_normal, resOK, resV, celV, rowV, frzAll, frzT, subV, subL, go_sem,↓dP,↓reduceIte])
  refine DEq.bool ?_
  have : headB J = false := by
   revert hb
   unfold headB
   cases inB J.wide 1 6 <;> cases inB J.high 1 6 <;> cases inB J.book 1 25 <;> cases inB J.spoilt 0 (J.book - 1) <;> cases inB J.gs.length 1 3 <;> cases inB J.ps.length 1 5 <;> simp
  simp [jobB, this]
 intro hb
 have hhead : headB J = true := by
  revert hb
  unfold headB
  cases inB J.wide 1 6 <;> cases inB J.high 1 6 <;> cases inB J.book 1 25 <;> cases inB J.spoilt 0 (J.book - 1) <;> cases inB J.gs.length 1 3 <;> cases inB J.ps.length 1 5 <;> simp
 (refine Ok.skip ?_; (try dsimp only [thenK, blockK, noGotoK]))
 refine Ok.seq ?_
 (first|refine qE ?_|refine qD ?_);(simp only [go_sem,↓dP,↓reduceIte];with_reducible and_intros;all_goals first|apply qA|exact qC|skip)
 refine Ok.block ?_
 refine Ok.count J.gs.length (fun i => ⟨[(1, .p 0 0), (3, iS i)], [jobC J], []⟩) (fun i => ∀ x ∈ J.gs.take i, (!groundB x) = false) ⟨fun x hx => by simp at hx, ?_⟩ ?_ ?_
 ·(refine Sub.of ([0]) ([]) ?_ ?_ ?_ rfl rfl <;> simp only [subB, subB1, subT, subT1, newT, subE, subV, subL, go_sem,↓dP,↓reduceIte] <;> (try (repeat' with_reducible apply And.intro)) <;> (try first | exact DEq.refl _ | refine DEq.int ?_ | refine DEq.bool ?_ | omega))
 ·intro i hi h0
  refine Ok.seq ?_; ((first|refine qE ?_|refine qD ?_);(simp only [go_sem,↓dP,↓reduceIte];with_reducible and_intros;all_goals first|apply qA|exact qC|skip)); refine Ok.cond rfl (fun _ => ?_) (fun hb => by simp at hb; omega); (refine Ok.skip ?_; (try dsimp only [thenK, blockK, noGotoK])); refine Ok.seq ?_; refine Ok.block ?_
  (first|refine qE ?_|refine qD ?_);(simp only [go_sem,↓dP,↓reduceIte];with_reducible and_intros;all_goals first|apply qA|exact qC|skip)
  (first|refine qE ?_|refine qD ?_);(simp only [go_sem,↓dP,↓reduceIte];with_reducible and_intros;all_goals first|apply qA|exact qC|skip)
  (refine AskI.ret (c_rin _ _ _) ?_; simp only [go_sem,↓dP,↓reduceIte];with_reducible and_intros;all_goals first|apply qA|exact qC|skip)
  (refine AskGI.ret (fun _ => c_rin _ _ _) ?_; simp only [go_sem,↓dP,↓reduceIte];with_reducible and_intros;all_goals first|apply qA|exact qC|skip)
  (refine AskGI.ret (fun _ => c_rin _ _ _) ?_; simp only [go_sem,↓dP,↓reduceIte];with_reducible and_intros;all_goals first|apply qA|exact qC|skip)
  (refine AskGI.ret (fun _ => c_rin _ _ _) ?_; simp only [go_sem,↓dP,↓reduceIte];with_reducible and_intros;all_goals first|apply qA|exact qC|skip)
  have hg : groundB (J.gs.getD i default) = (inB (J.gs.getD i default).rl 0 12 && inB (J.gs.getD i default).rh (J.gs.getD i default).rl 12 && inB (J.gs.getD i default).ll (J.gs.getD i default).rh 12 && inB (J.gs.getD i default).lh (J.gs.getD i default).ll 12) := rfl
  refine Ok.cond rfl ?_ ?_
  ·intro hx
   have hx' : (!groundB (J.gs.getD i default)) = true := by
    rw [hg]
    revert hx
    cases inB (J.gs.getD i default).rl 0 12 <;> cases inB (J.gs.getD i default).rh (J.gs.getD i default).rl 12 <;> cases inB (J.gs.getD i default).ll (J.gs.getD i default).rh 12 <;> cases inB (J.gs.getD i default).lh (J.gs.getD i default).ll 12 <;> simp
   (first|refine qE ?_|refine qD ?_);(simp only [go_sem,↓dP,↓reduceIte];with_reducible and_intros;all_goals first|apply qA|exact qC|skip)
   (refine Ok.ret ?_; (try dsimp only [thenK, blockK, noGotoK]); simp only [toList_mk, List.toList_toArray, retK_ret, retK_normal, resOK, resV, celV, rowV, frzAll, frzT, subV, subL, go_sem,↓dP,↓reduceIte])
   refine DEq.bool ?_
   have : J.gs.any (fun g => !groundB g) = true := List.any_eq_true.2 ⟨_, getD_mem hi, hx'⟩
   rw [jobB, all_any, this]; simp
  ·intro hx
   have hx' : (!groundB (J.gs.getD i default)) = false := by
    rw [hg]
    revert hx
    cases inB (J.gs.getD i default).rl 0 12 <;> cases inB (J.gs.getD i default).rh (J.gs.getD i default).rl 12 <;> cases inB (J.gs.getD i default).ll (J.gs.getD i default).rh 12 <;> cases inB (J.gs.getD i default).lh (J.gs.getD i default).ll 12 <;> simp
   (refine Ok.skip ?_; (try dsimp only [thenK, blockK, noGotoK]))
   (first|refine qE ?_|refine qD ?_);(simp only [go_sem,↓dP,↓reduceIte];with_reducible and_intros;all_goals first|apply qA|exact qC|skip)
   (try dsimp only [thenK, blockK, noGotoK])
   refine ⟨no_step (q := fun g => !groundB g) hi h0 hx', ?_⟩
   (refine Sub.of ([0]) ([]) ?_ ?_ ?_ rfl rfl <;> simp only [subB, subB1, subT, subT1, newT, subE, subV, subL, go_sem,↓dP,↓reduceIte] <;> (try (repeat' with_reducible apply And.intro)) <;> (try first | exact DEq.refl _ | refine DEq.int ?_ | refine DEq.bool ?_ | omega))
 intro h0
 have hgs : J.gs.any (fun g => !groundB g) = false := List.any_eq_false.2 (fun x hx => by simp [h0 x (by simpa using hx)])
 refine Ok.seq ?_; ((first|refine qE ?_|refine qD ?_);(simp only [go_sem,↓dP,↓reduceIte];with_reducible and_intros;all_goals first|apply qA|exact qC|skip)); refine Ok.cond rfl (fun hb => by simp at hb) (fun _ => ?_); (refine Ok.exit ?_; simp only [thenK_exit, blockK_exit, noGotoK_exit, thenK_normal, blockK_normal, noGotoK_normal, ↓reduceIte, Nat.reduceEqDiff])
 refine Ok.seq ?_
 (first|refine qE ?_|refine qD ?_);(simp only [go_sem,↓dP,↓reduceIte];with_reducible and_intros;all_goals first|apply qA|exact qC|skip)
 refine Ok.block ?_
 refine Ok.count J.ps.length (fun i => ⟨[(1, .p 0 0), (5, iS i)], [jobC J], []⟩) (fun i => ∀ x ∈ J.ps.take i, (!pieceB J.gs.length x) = false) ⟨fun x hx => by simp at hx, ?_⟩ ?_ ?_
 ·(refine Sub.of ([0]) ([]) ?_ ?_ ?_ rfl rfl <;> simp only [subB, subB1, subT, subT1, newT, subE, subV, subL, go_sem,↓dP,↓reduceIte] <;> (try (repeat' with_reducible apply And.intro)) <;> (try first | exact DEq.refl _ | refine DEq.int ?_ | refine DEq.bool ?_ | omega))
 ·intro i hi h0
  refine Ok.seq ?_; ((first|refine qE ?_|refine qD ?_);(simp only [go_sem,↓dP,↓reduceIte];with_reducible and_intros;all_goals first|apply qA|exact qC|skip)); refine Ok.cond rfl (fun _ => ?_) (fun hb => by simp at hb; omega); (refine Ok.skip ?_; (try dsimp only [thenK, blockK, noGotoK])); refine Ok.seq ?_; refine Ok.block ?_
  (first|refine qE ?_|refine qD ?_);(simp only [go_sem,↓dP,↓reduceIte];with_reducible and_intros;all_goals first|apply qA|exact qC|skip)
  (first|refine qE ?_|refine qD ?_);(simp only [go_sem,↓dP,↓reduceIte];with_reducible and_intros;all_goals first|apply qA|exact qC|skip)
  (refine AskI.ret (c_rin _ _ _) ?_; simp only [go_sem,↓dP,↓reduceIte];with_reducible and_intros;all_goals first|apply qA|exact qC|skip)
  (refine AskGI.ret (fun _ => c_rin _ _ _) ?_; simp only [go_sem,↓dP,↓reduceIte];with_reducible and_intros;all_goals first|apply qA|exact qC|skip)
  (refine AskGI.ret (fun _ => c_rin _ _ _) ?_; simp only [go_sem,↓dP,↓reduceIte];with_reducible and_intros;all_goals first|apply qA|exact qC|skip)
  have hg : pieceB J.gs.length (J.ps.getD i default) = (inB (J.ps.getD i default).w 1 6 && inB (J.ps.getD i default).h 1 6 && inB (J.ps.getD i default).g 0 (J.gs.length - 1)) := rfl
  refine Ok.cond rfl ?_ ?_
  ·intro hx
   have hx' : (!pieceB J.gs.length (J.ps.getD i default)) = true := by
    rw [hg]
    revert hx
    cases inB (J.ps.getD i default).w 1 6 <;> cases inB (J.ps.getD i default).h 1 6 <;> cases inB (J.ps.getD i default).g 0 (J.gs.length - 1) <;> simp
   (first|refine qE ?_|refine qD ?_);(simp only [go_sem,↓dP,↓reduceIte];with_reducible and_intros;all_goals first|apply qA|exact qC|skip)
   (refine Ok.ret ?_; (try dsimp only [thenK, blockK, noGotoK]); simp only [toList_mk, List.toList_toArray, retK_ret, retK_normal, resOK, resV, celV, rowV, frzAll, frzT, subV, subL, go_sem,↓dP,↓reduceIte])
   refine DEq.bool ?_
   have : J.ps.any (fun p => !pieceB J.gs.length p) = true := List.any_eq_true.2 ⟨_, getD_mem hi, hx'⟩
   rw [jobB, all_any J.ps, this]; simp
  ·intro hx
   have hx' : (!pieceB J.gs.length (J.ps.getD i default)) = false := by
    rw [hg]
    revert hx
    cases inB (J.ps.getD i default).w 1 6 <;> cases inB (J.ps.getD i default).h 1 6 <;> cases inB (J.ps.getD i default).g 0 (J.gs.length - 1) <;> simp
   (refine Ok.skip ?_; (try dsimp only [thenK, blockK, noGotoK]))
   (first|refine qE ?_|refine qD ?_);(simp only [go_sem,↓dP,↓reduceIte];with_reducible and_intros;all_goals first|apply qA|exact qC|skip)
   (try dsimp only [thenK, blockK, noGotoK])
   refine ⟨no_step (q := fun p => !pieceB J.gs.length p) hi h0 hx', ?_⟩
   (refine Sub.of ([0]) ([]) ?_ ?_ ?_ rfl rfl <;> simp only [subB, subB1, subT, subT1, newT, subE, subV, subL, go_sem,↓dP,↓reduceIte] <;> (try (repeat' with_reducible apply And.intro)) <;> (try first | exact DEq.refl _ | refine DEq.int ?_ | refine DEq.bool ?_ | omega))
 ·intro h0
  have hps : J.ps.any (fun p => !pieceB J.gs.length p) = false := List.any_eq_false.2 (fun x hx => by simp [h0 x (by simpa using hx)])
  refine Ok.seq ?_; ((first|refine qE ?_|refine qD ?_);(simp only [go_sem,↓dP,↓reduceIte];with_reducible and_intros;all_goals first|apply qA|exact qC|skip)); refine Ok.cond rfl (fun hb => by simp at hb) (fun _ => ?_); (refine Ok.exit ?_; simp only [thenK_exit, blockK_exit, noGotoK_exit, thenK_normal, blockK_normal, noGotoK_normal, ↓reduceIte, Nat.reduceEqDiff])
  (first|refine qE ?_|refine qD ?_);(simp only [go_sem,↓dP,↓reduceIte];with_reducible and_intros;all_goals first|apply qA|exact qC|skip)
  (refine Ok.ret ?_; (try dsimp only [thenK, blockK, noGotoK]); simp only [toList_mk, List.toList_toArray, retK_ret, retK_normal, resOK, resV, celV, rowV, frzAll, frzT, subV, subL, go_sem,↓dP,↓reduceIte])
  refine DEq.bool ?_
  rw [jobB, hhead, all_any, all_any, hgs, hps]
  rfl
end Go.Proofs.Leaf
namespace Go.Proofs.Leaf
open Go Go.RX Go.Proofs
set_option maxRecDepth 10000
variable [Glob]
def optS (J : Job) (left : List Int) (may : Bool) (i : Nat) : Option (Int × Int) := if (i : Int) ∈ left then none else some (J.span may i)
def restS (J : Job) (left : List Int) (may : Bool) (i k : Nat) : List (Option (Int × Int)) := (List.range' i k).map (optS J left may)
theorem findSome_no {α β : Type} [Inhabited α] {f : α → Option β} {l : List α} (h0 : ∀ j, j < l.length → f (l.getD j default) = none) : l.findSome? f = none := by
 induction l with
 | nil => rfl
 | cons a l ih =>
  rw [List.findSome?_cons]
  have := h0 0 (by simp)
  simp only [List.getD_cons_zero] at this
  rw [this]
  exact ih (fun j hj => by simpa using h0 (j + 1) (by simpa using hj))
theorem hoursL_len (a b : Int) : (hoursL a b).length = (b + 1 - a).toNat := by simp [hoursL]
theorem hoursL_at {a b : Int} {j : Nat} (h : j < (b + 1 - a).toNat) : (hoursL a b).getD j default = a + j := by
 simp [hoursL, List.getD_eq_getElem?_getD, h]
end Go.Proofs.Leaf
namespace Go.Proofs.Leaf
open Go Go.RX Go.Proofs
set_option maxRecDepth 10000
variable [Glob]
theorem snocI {now : List Int} {n : Int} : DEq (.sl 1 (now.length + 1) (fun i c => if i < now.length then intD (now.getD i default) c else dget [.int .i64 n] ((i - now.length) * 1 + c))) (slD 1 intD (now ++ [n])) :=
  DEq.sl (by simp) (fun i j hi hj => snoc_D (fun c hc => by have : c = 0 := by omega
                                                            subst this; rfl) i j hi hj)
theorem restS_succ (J : Job) (left : List Int) (may : Bool) (i k : Nat) : restS J left may i (k + 1) = optS J left may i :: restS J left may (i + 1) k := by
 unfold restS
 rw [List.range'_succ]; rfl
set_option maxHeartbeats 1000000 in
theorem c_rfirst (J : Job) (hJ : J.based) (ht : J.timed) (hn : J.ps.length ≤ 100) (left : List Int) (hl : left.length < 1000) (may : Bool) : ∀ (k : Nat) (now : List Int), now.length + k = J.ps.length →
  Ctr Tryz.prog 87 [J.sv, ilS now, ilS left, bS may] (optR (firstR (restS J left may now.length k) now))
 | 0, now, hk => by
  have hc : ((now.length : Int) == J.ps.length) = true := by simp; omega
  (refine Ctr.mk (fn := Tryz.f87) rfl rfl rfl rfl rfl Tryz.results87 ?_; intro _; dsimp only [args, List.toList_toArray])
  (first|refine qE ?_|refine qD ?_);(simp only [go_sem,↓dP,↓reduceIte];with_reducible and_intros;all_goals first|apply qA|exact qC|skip)
  (first|refine qE ?_|refine qD ?_);(simp only [go_sem,↓dP,↓reduceIte];with_reducible and_intros;all_goals first|apply qA|exact qC|skip)
  refine Ok.seq ?_
  (first|refine qE ?_|refine qD ?_);(simp only [go_sem,↓dP,↓reduceIte];with_reducible and_intros;all_goals first|apply qA|exact qC|skip)
  rw [hc]
  refine Ok.cond (b := true) (by first | rfl | (simp only [go_sem,↓dP,↓reduceIte]; rfl)) (fun _ => ?_) (fun hb => by cases hb)
  (first|refine qE ?_|refine qD ?_);(simp only [go_sem,↓dP,↓reduceIte];with_reducible and_intros;all_goals first|apply qA|exact qC|skip)
  (refine Ok.ret ?_; (try dsimp only [thenK, blockK, noGotoK]); simp only [toList_mk, List.toList_toArray, retK_ret, retK_normal, resOK, resV, celV, rowV, frzAll, frzT, subV, subL, go_sem,↓dP,↓reduceIte])
  exact ⟨.refl _, .refl _⟩
 | k + 1, now, hk => by
  have hc : ((now.length : Int) == J.ps.length) = false := by simp; omega
  have hlt : now.length < J.ps.length := by omega
  have hpg := J.ps.getD now.length default
  have htm := ht _ (getD_mem hlt) may
  have a1 := c_tListed left (now.length : Int) (by omega)
  have a2 := c_rHours J hJ now.length (by omega) (by omega) may
  have hsp : J.span may (now.length : Int) = spanOf J.gs may (J.ps.getD now.length default) := rfl
  rw [← hsp] at htm
  have a3 : ∀ n : Int, Ctr Tryz.prog 87 [J.sv, .d (.sl 1 (now.length + 1) (fun i c => if i < now.length then intD (now.getD i default) c else dget [.int .i64 n] ((i - now.length) * 1 + c))), ilS left, bS may] (optR (firstR (restS J left may (now.length + 1) k) (now ++ [n]))) := fun n => by
   have ih := c_rfirst J hJ ht hn left hl may k (now ++ [n]) (by simp; omega)
   rw [show (now ++ [n]).length = now.length + 1 by simp] at ih
   exact ih.args ⟨⟨.refl _, .refl _, .refl _, .refl _, .refl _, .refl _, trivial⟩, snocI, .refl _, .refl _, trivial⟩
  rw [restS_succ]
  (refine Ctr.mk (fn := Tryz.f87) rfl rfl rfl rfl rfl Tryz.results87 ?_; intro _; dsimp only [args, List.toList_toArray])
  (first|refine qE ?_|refine qD ?_);(simp only [go_sem,↓dP,↓reduceIte];with_reducible and_intros;all_goals first|apply qA|exact qC|skip)
  (first|refine qE ?_|refine qD ?_);(simp only [go_sem,↓dP,↓reduceIte];with_reducible and_intros;all_goals first|apply qA|exact qC|skip)
  refine Ok.seq ?_
  (first|refine qE ?_|refine qD ?_);(simp only [go_sem,↓dP,↓reduceIte];with_reducible and_intros;all_goals first|apply qA|exact qC|skip)
  rw [hc]
  refine Ok.cond (b := false) (by first | rfl | (simp only [go_sem,↓dP,↓reduceIte]; rfl)) (fun hb => by cases hb) (fun _ => ?_)
  (refine Ok.skip ?_; (try dsimp only [thenK, blockK, noGotoK]))
  refine Ok.seq ?_
  (first|refine qE ?_|refine qD ?_);(simp only [go_sem,↓dP,↓reduceIte];with_reducible and_intros;all_goals first|apply qA|exact qC|skip)
  (refine AskI.ret (a1) ?_; simp only [go_sem,↓dP,↓reduceIte];with_reducible and_intros;all_goals first|apply qA|exact qC|skip)
  refine Ok.cond rfl ?_ ?_
  ·intro hm
   have hm' : (now.length : Int) ∈ left := by simpa using hm
   have ho : optS J left may now.length = none := if_pos hm'
   rw [ho, firstR]
   (first|refine qE ?_|refine qD ?_);(simp only [go_sem,↓dP,↓reduceIte];with_reducible and_intros;all_goals first|apply qA|exact qC|skip)
   (refine AskI.ret (a3 (-1)) ?_; simp only [go_sem,↓dP,↓reduceIte];with_reducible and_intros;all_goals first|apply qA|exact qC|skip)
   (refine Ok.ret ?_; (try dsimp only [thenK, blockK, noGotoK]); simp only [toList_mk, List.toList_toArray, retK_ret, retK_normal, resOK, resV, celV, rowV, frzAll, frzT, subV, subL, go_sem,↓dP,↓reduceIte])
   exact ⟨.refl _, .refl _⟩
  ·intro hm
   have hm' : ¬ (now.length : Int) ∈ left := by simpa using hm
   have ho : optS J left may now.length = some (J.span may (now.length : Int)) := if_neg hm'
   rw [ho]
   generalize J.span may (now.length : Int) = sp at a2 htm
   obtain ⟨lo, hi⟩ := sp
   dsimp only at htm
   rw [firstR]
   generalize hR : restS J left may (now.length + 1) k = R at a3
   have hlh := hoursL_len lo hi
   (refine Ok.skip ?_; (try dsimp only [thenK, blockK, noGotoK]))
   (first|refine qE ?_|refine qD ?_);(simp only [go_sem,↓dP,↓reduceIte];with_reducible and_intros;all_goals first|apply qA|exact qC|skip)
   (refine AskI.ret (a2) ?_; simp only [go_sem,↓dP,↓reduceIte];with_reducible and_intros;all_goals first|apply qA|exact qC|skip)
   refine Ok.seq ?_
   (first|refine qE ?_|refine qD ?_);(simp only [go_sem,↓dP,↓reduceIte];with_reducible and_intros;all_goals first|apply qA|exact qC|skip)
   refine Ok.block ?_
   refine Ok.count (hi + 1 - lo).toNat (fun j => ⟨[(1, ilS now), (2, ilS left), (3, bS may), (4, .p 0 0), (10, iS now.length), (11, .p 1 0), (12, iS (lo + j))], [jobC J, { frz := false, xs := [iS lo, iS hi] }], []⟩) (fun j => ∀ i, i < j → (if (hoursL lo hi).getD i default ∈ now then none else firstR R (now ++ [(hoursL lo hi).getD i default])) = none) ⟨fun i hi => by omega, ?_⟩ ?_ ?_
   ·(refine Sub.of ([0, 1]) ([]) ?_ ?_ ?_ rfl rfl <;> simp only [subB, subB1, subT, subT1, newT, subE, subV, subL, go_sem,↓dP,↓reduceIte] <;> (try (repeat' with_reducible apply And.intro)) <;> (try first | exact DEq.refl _ | refine DEq.int ?_ | refine DEq.bool ?_ | omega))
    simp
   ·intro j hj hJ2
    have hh := hoursL_at hj
    have a4 := c_tListed now (lo + j) (by omega)
    refine Ok.seq ?_; ((first|refine qE ?_|refine qD ?_);(simp only [go_sem,↓dP,↓reduceIte];with_reducible and_intros;all_goals first|apply qA|exact qC|skip)); refine Ok.cond rfl (fun _ => ?_) (fun hb => by simp at hb; omega); (refine Ok.skip ?_; (try dsimp only [thenK, blockK, noGotoK])); refine Ok.seq ?_; refine Ok.block ?_
    refine Ok.seq ?_
    (first|refine qE ?_|refine qD ?_);(simp only [go_sem,↓dP,↓reduceIte];with_reducible and_intros;all_goals first|apply qA|exact qC|skip)
    (refine AskI.ret (a4) ?_; simp only [go_sem,↓dP,↓reduceIte];with_reducible and_intros;all_goals first|apply qA|exact qC|skip)
    refine Ok.cond rfl ?_ ?_
    ·intro hc2
     have hc3 : (lo + (j : Int)) ∈ now := by simpa using hc2
     (refine Ok.exit ?_; simp only [thenK_exit, blockK_exit, noGotoK_exit, thenK_normal, blockK_normal, noGotoK_normal, ↓reduceIte, Nat.reduceEqDiff])
     (first|refine qE ?_|refine qD ?_);(simp only [go_sem,↓dP,↓reduceIte];with_reducible and_intros;all_goals first|apply qA|exact qC|skip)
     (try dsimp only [thenK, blockK, noGotoK])
     refine ⟨fun i hi2 => ?_, ?_⟩
     ·by_cases e : i = j
      ·subst e; rw [hh, if_pos hc3]
      ·exact hJ2 i (by omega)
     (refine Sub.of ([0, 1]) ([]) ?_ ?_ ?_ rfl rfl <;> simp only [subB, subB1, subT, subT1, newT, subE, subV, subL, go_sem,↓dP,↓reduceIte] <;> (try (repeat' with_reducible apply And.intro)) <;> (try first | exact DEq.refl _ | refine DEq.int ?_ | refine DEq.bool ?_ | omega))
     omega
    ·intro hc2
     have hc3 : ¬ (lo + (j : Int)) ∈ now := by simpa using hc2
     (refine Ok.skip ?_; (try dsimp only [thenK, blockK, noGotoK]))
     (first|refine qE ?_|refine qD ?_);(simp only [go_sem,↓dP,↓reduceIte];with_reducible and_intros;all_goals first|apply qA|exact qC|skip)
     (refine AskI.ret (a3 (lo + j)) ?_; simp only [go_sem,↓dP,↓reduceIte];with_reducible and_intros;all_goals first|apply qA|exact qC|skip)
     (first|refine qE ?_|refine qD ?_);(simp only [go_sem,↓dP,↓reduceIte];with_reducible and_intros;all_goals first|apply qA|exact qC|skip)
     refine Ok.cond rfl ?_ ?_
     ·intro hs
      obtain ⟨y, hy⟩ : ∃ y, firstR R (now ++ [lo + (j : Int)]) = some y := Option.isSome_iff_exists.1 (by simpa using hs)
      have hso : (hoursL lo hi).findSome? (fun h => if h ∈ now then none else firstR R (now ++ [h])) = some y := findSome_at (by rw [hlh]; exact hj) hJ2 (by rw [hh, if_neg hc3, hy])
      rw [hso, hy]
      (first|refine qE ?_|refine qD ?_);(simp only [go_sem,↓dP,↓reduceIte];with_reducible and_intros;all_goals first|apply qA|exact qC|skip)
      (refine Ok.ret ?_; (try dsimp only [thenK, blockK, noGotoK]); simp only [toList_mk, List.toList_toArray, retK_ret, retK_normal, resOK, resV, celV, rowV, frzAll, frzT, subV, subL, go_sem,↓dP,↓reduceIte])
      exact ⟨.refl _, .refl _⟩
     ·intro hs
      have hy : firstR R (now ++ [lo + (j : Int)]) = none := by simpa using hs
      (refine Ok.skip ?_; (try dsimp only [thenK, blockK, noGotoK]))
      (first|refine qE ?_|refine qD ?_);(simp only [go_sem,↓dP,↓reduceIte];with_reducible and_intros;all_goals first|apply qA|exact qC|skip)
      (try dsimp only [thenK, blockK, noGotoK])
      refine ⟨fun i hi2 => ?_, ?_⟩
      ·by_cases e : i = j
       ·subst e; rw [hh, if_neg hc3, hy]
       ·exact hJ2 i (by omega)
      (refine Sub.of ([0, 1]) ([]) ?_ ?_ ?_ rfl rfl <;> simp only [subB, subB1, subT, subT1, newT, subE, subV, subL, go_sem,↓dP,↓reduceIte] <;> (try (repeat' with_reducible apply And.intro)) <;> (try first | exact DEq.refl _ | refine DEq.int ?_ | refine DEq.bool ?_ | omega))
      omega
   ·intro hJ2
    have hno : (hoursL lo hi).findSome? (fun h => if h ∈ now then none else firstR R (now ++ [h])) = none := findSome_no (fun j hj => hJ2 j (by omega))
    rw [hno]
    refine Ok.seq ?_; ((first|refine qE ?_|refine qD ?_);(simp only [go_sem,↓dP,↓reduceIte];with_reducible and_intros;all_goals first|apply qA|exact qC|skip)); refine Ok.cond rfl (fun hb => by simp at hb; omega) (fun _ => ?_); (refine Ok.exit ?_; simp only [thenK_exit, blockK_exit, noGotoK_exit, thenK_normal, blockK_normal, noGotoK_normal, ↓reduceIte, Nat.reduceEqDiff])
    (first|refine qE ?_|refine qD ?_);(simp only [go_sem,↓dP,↓reduceIte];with_reducible and_intros;all_goals first|apply qA|exact qC|skip)
    (refine Ok.ret ?_; (try dsimp only [thenK, blockK, noGotoK]); simp only [toList_mk, List.toList_toArray, retK_ret, retK_normal, resOK, resV, celV, rowV, frzAll, frzT, subV, subL, go_sem,↓dP,↓reduceIte])
    exact ⟨DEq.nils rfl, .refl _⟩
end Go.Proofs.Leaf
namespace Go.Proofs.Leaf
open Go Go.RX Go.Proofs
set_option maxRecDepth 10000
variable [Glob]
theorem restS_all (J : Job) (may : Bool) : restS J [] may 0 J.ps.length = (spans J may).map some := by
 unfold restS spans
 apply List.ext_getElem
 ·simp
 ·intro i h1 h2
  simp at h1
  simp [optS, h1]
  show spanOf J.gs may (J.ps.getD (i : Int).toNat default) = _
  rw [Int.toNat_natCast, getD_lt h1]
theorem first_plan (J : Job) (may : Bool) : firstR (restS J [] may 0 J.ps.length) [] = planOf J may := by
 rw [restS_all, firstR_eq]; rfl
theorem c_first0 (J : Job) (hJ : J.based) (ht : J.timed) (hn : J.ps.length ≤ 100) (may : Bool) : Ctr Tryz.prog 87 [J.sv, .d .nils, .d .nils, bS may] (optR (planOf J may)) := by
 have a := c_rfirst J hJ ht hn [] (by simp) may J.ps.length [] (by simp)
 simp only [List.length_nil] at a
 rw [first_plan] at a
 exact a.args ⟨⟨.refl _, .refl _, .refl _, .refl _, .refl _, .refl _, trivial⟩, DEq.nils rfl, DEq.nils rfl, .refl _, trivial⟩
theorem c_rPlan (J : Job) (hJ : J.based) (ht : J.timed) (hn : J.ps.length ≤ 100) : Ctr Tryz.prog 46 [J.sv] (optR (planOf J false)) := by
 (refine Ctr.mk (fn := Tryz.f46) rfl rfl rfl rfl rfl Tryz.results46 ?_; intro _; dsimp only [args, List.toList_toArray])
 (first|refine qE ?_|refine qD ?_);(simp only [go_sem,↓dP,↓reduceIte];with_reducible and_intros;all_goals first|apply qA|exact qC|skip)
 (first|refine qE ?_|refine qD ?_);(simp only [go_sem,↓dP,↓reduceIte];with_reducible and_intros;all_goals first|apply qA|exact qC|skip)
 (refine AskI.ret (c_first0 J hJ ht hn false) ?_; simp only [go_sem,↓dP,↓reduceIte];with_reducible and_intros;all_goals first|apply qA|exact qC|skip)
 (refine Ok.ret ?_; (try dsimp only [thenK, blockK, noGotoK]); simp only [toList_mk, List.toList_toArray, retK_ret, retK_normal, resOK, resV, celV, rowV, frzAll, frzT, subV, subL, go_sem,↓dP,↓reduceIte])
 exact ⟨.refl _, .refl _⟩
end Go.Proofs.Leaf
namespace Go.Proofs.Leaf
open Go Go.RX Go.Proofs
set_option maxRecDepth 10000
variable [Glob]
def shortB (J : Job) : Bool := decide (J.gs.length ≤ 5) && decide (J.ps.length ≤ 7)
theorem c_lshort (J : Job) (h : J.far) : Ctr Tryz.prog 21 [J.sv] (bS (shortB J)) := by
 have h1 := h.1
 have h2 := h.2
 (refine Ctr.mk (fn := Tryz.f21) rfl rfl rfl rfl rfl Tryz.results21 ?_; intro _; dsimp only [args, List.toList_toArray])
 (first|refine qE ?_|refine qD ?_);(simp only [go_sem,↓dP,↓reduceIte];with_reducible and_intros;all_goals first|apply qA|exact qC|skip)
 (first|refine qE ?_|refine qD ?_);(simp only [go_sem,↓dP,↓reduceIte];with_reducible and_intros;all_goals first|apply qA|exact qC|skip)
 (refine Ok.ret ?_; (try dsimp only [thenK, blockK, noGotoK]); simp only [toList_mk, List.toList_toArray, retK_ret, retK_normal, resOK, resV, celV, rowV, frzAll, frzT, subV, subL, go_sem,↓dP,↓reduceIte])
 refine DEq.bool ?_
 unfold shortB
 by_cases g1 : J.gs.length ≤ 5 <;> by_cases g2 : J.ps.length ≤ 7 <;> simp [g1, g2] <;> omega
theorem short_held {J : Job} (h : shortB J = true) : J.held := by
 simp only [shortB, Bool.and_eq_true, decide_eq_true_eq] at h
 exact ⟨by omega, by omega⟩
end Go.Proofs.Leaf
namespace Go.Proofs.Leaf
open Go Go.RX Go.Proofs
set_option maxRecDepth 10000
variable [Glob]
abbrev fixJ (J : Job) (n : Nat) (h : Int) : Job := { J with gs := J.gs ++ [⟨h, h, h, h⟩], ps := J.ps.set n { J.ps.getD n default with g := J.gs.length } }
theorem groD_cells (g : Ground) : ∀ c, c < 4 → dget [iD g.rl, iD g.rh, iD g.ll, iD g.lh] c = groD g c := fun c hc => by
 match c, hc with
 | 0, _ => rfl
 | 1, _ => rfl
 | 2, _ => rfl
 | 3, _ => rfl
theorem set_pieD (ps : List Piece) (n : Nat) (hn : n < ps.length) (g : Int) : ∀ i j, i < ps.length → j < 4 →
  DEq (if i = n ∧ 3 ≤ j ∧ j < 4 then dget [iD g] (j - 3) else pieD (ps.getD i default) j) (pieD ((ps.set n { ps.getD n default with g := g }).getD i default) j) := by
 intro i j hi hj
 have e : (ps.set n { ps.getD n default with g := g }).getD i default = if i = n then { ps.getD n default with g := g } else ps.getD i default := by
  rw [List.getD_eq_getElem?_getD, List.getElem?_set]
  by_cases h : i = n
  ·subst h; simp [hi]
  ·rw [if_neg (fun q => h q.symm), if_neg h, ← List.getD_eq_getElem?_getD]
 rw [e]
 by_cases h : i = n
 ·subst h
  rw [if_pos rfl]
  match j, hj with
  | 0, _ => rw [if_neg (by omega)]; exact .refl _
  | 1, _ => rw [if_neg (by omega)]; exact .refl _
  | 2, _ => rw [if_neg (by omega)]; exact .refl _
  | 3, _ => rw [if_pos (by omega)]; exact .refl _
 ·rw [if_neg h, if_neg (fun q => h q.1)]; exact .refl _
theorem spans_fix {J : Job} (n : Nat) (hn : n < J.ps.length) (hg : ∀ p ∈ J.ps, 0 ≤ p.g ∧ p.g < J.gs.length) (h : Int) (may : Bool) : spans (fixJ J n h) may = (spans J may).set n (h, h) := by
 unfold spans
 rw [List.map_set]
 have e1 : spanOf (J.gs ++ [⟨h, h, h, h⟩]) may { J.ps.getD n default with g := J.gs.length } = (h, h) := by
  unfold spanOf
  dsimp only
  rw [Int.toNat_natCast, List.getD_eq_getElem?_getD, List.getElem?_append_right (Nat.le_refl _)]
  cases may <;> simp
 rw [e1]
 congr 1
 refine List.map_congr_left (fun p hp => ?_)
 have hpg := hg p hp
 unfold spanOf
 dsimp only
 rw [List.getD_eq_getElem?_getD, List.getElem?_append_left (by omega), ← List.getD_eq_getElem?_getD]
theorem fixJ_based {J : Job} (hJ : J.based) (n : Nat) (hn : n < J.ps.length) (hs : J.gs.length < 999) (h : Int) : (fixJ J n h).based := by
 refine ⟨by show (J.gs ++ [_]).length < 1000; simp; omega, by show (J.ps.set _ _).length < 1000; rw [List.length_set]; exact hJ.pl, fun p hp => ?_⟩
 show 0 ≤ p.g ∧ p.g < (J.gs ++ [_]).length
 rw [List.length_append]
 simp only [List.length_cons, List.length_nil]
 rcases List.mem_or_eq_of_mem_set hp with hp | rfl
 ·have := hJ.at_ p hp; omega
 ·dsimp only; omega
theorem fixJ_timed {J : Job} (hJ : J.based) (ht : J.timed) (n : Nat) (hn : n < J.ps.length) (h : Int) (h0 : 0 ≤ h) (h1 : h ≤ 12) : (fixJ J n h).timed := by
 intro p hp may
 have hm : spanOf (fixJ J n h).gs may p ∈ spans (fixJ J n h) may := List.mem_map.2 ⟨p, hp, rfl⟩
 rw [spans_fix n hn hJ.at_ h may] at hm
 rcases List.mem_or_eq_of_mem_set hm with hm | hm
 ·obtain ⟨q, hq, e⟩ := List.mem_map.1 hm
  rw [← e]; exact ht q hq may
 ·rw [hm]; exact ⟨h0, h1⟩
theorem c_rfixed (J : Job) (hJ : J.based) (ht : J.timed) (h1 : J.gs.length ≤ 100) (h2 : J.ps.length ≤ 100) (n : Nat) (hn : n < J.ps.length) (h : Int) (hh0 : 0 ≤ h) (hh1 : h ≤ 12) : Ctr Tryz.prog 91 [J.sv, iS n, iS h] (bS (fixS (spans J false) n h h)) := by
 have a1 := c_rPlan (fixJ J n h) (fixJ_based hJ n hn (by omega) h) (fixJ_timed hJ ht n hn h hh0 hh1) (by show (J.ps.set _ _).length ≤ 100; rw [List.length_set]; exact h2)
 have e1 : (planOf (fixJ J n h) false).isSome = fixS (spans J false) n h h := by rw [planOf, spans_fix n hn hJ.at_]; rfl
 (refine Ctr.mk (fn := Tryz.f91) rfl rfl rfl rfl rfl Tryz.results91 ?_; intro _; dsimp only [args, List.toList_toArray])
 have a2 := a1.args (A' := [.agg [iS J.wide, iS J.high, iS J.book, iS J.spoilt, .d (.sl 4 (J.gs.length + 1) (fun i c => if i < J.gs.length then groD (J.gs.getD i default) c else dget [iD h, iD h, iD h, iD h] ((i - J.gs.length) * 4 + c))), .d (.sl 4 J.ps.length (fun x' j => if x' = n ∧ 3 ≤ j ∧ j < 4 then dget [iD J.gs.length] (j - 3) else pieD (J.ps.getD x' default) j))]])
  ⟨⟨.refl _, .refl _, .refl _, .refl _, DEq.sl (by simp) (fun i j hi hj => snoc_D (groD_cells ⟨h, h, h, h⟩) i j hi hj), DEq.sl (by simp) (set_pieD J.ps n hn J.gs.length), trivial⟩, trivial⟩
 (first|refine qE ?_|refine qD ?_);(simp only [go_sem,↓dP,↓reduceIte];with_reducible and_intros;all_goals first|apply qA|exact qC|skip)
 (first|refine qE ?_|refine qD ?_);(simp only [go_sem,↓dP,↓reduceIte];with_reducible and_intros;all_goals first|apply qA|exact qC|skip)
 (first|refine qE ?_|refine qD ?_);(simp only [go_sem,↓dP,↓reduceIte];with_reducible and_intros;all_goals first|apply qA|exact qC|skip)
 (first|refine qE ?_|refine qD ?_);(simp only [go_sem,↓dP,↓reduceIte];with_reducible and_intros;all_goals first|apply qA|exact qC|skip)
 (first|refine qE ?_|refine qD ?_);(simp only [go_sem,↓dP,↓reduceIte];with_reducible and_intros;all_goals first|apply qA|exact qC|skip)
 (first|refine qE ?_|refine qD ?_);(simp only [go_sem,↓dP,↓reduceIte];with_reducible and_intros;all_goals first|apply qA|exact qC|skip)
 (refine AskI.ret (a2) ?_; simp only [go_sem,↓dP,↓reduceIte];with_reducible and_intros;all_goals first|apply qA|exact qC|skip)
 (first|refine qE ?_|refine qD ?_);(simp only [go_sem,↓dP,↓reduceIte];with_reducible and_intros;all_goals first|apply qA|exact qC|skip)
 (refine Ok.ret ?_; (try dsimp only [thenK, blockK, noGotoK]); simp only [toList_mk, List.toList_toArray, retK_ret, retK_normal, resOK, resV, celV, rowV, frzAll, frzT, subV, subL, go_sem,↓dP,↓reduceIte])
 rw [e1]
 exact .refl _
def whenF (sp : List (Int × Int)) (n : Nat) (k : Nat) : List Int := ((hoursL (sp.getD n default).1 (sp.getD n default).2).take k).filter (fun h => fixS sp n h h)
theorem c_rWhen (J : Job) (hJ : J.based) (ht : J.timed) (h1 : J.gs.length ≤ 100) (h2 : J.ps.length ≤ 100) (n : Nat) (hn : n < J.ps.length) : Ctr Tryz.prog 49 [J.sv, iS n] (ilS (whenL (spans J false) n)) := by
  have htm := ht _ (getD_mem hn) false
  have hsp := span_at J false hn
  have hsl := spans_len J false
  have hw : whenL (spans J false) n = whenF (spans J false) n (((spans J false).getD n default).2 + 1 - ((spans J false).getD n default).1).toNat := by
    have h0 : 0 ≤ ((spans J false).getD n default).1 ∧ ((spans J false).getD n default).2 ≤ 12 := by rw [hsp]; exact htm
    rw [whenL_eq (by omega) h0.1 h0.2, whenF, ← hoursL_len, List.take_length]
  have a2 := c_rHours J hJ n (by omega) (by omega) false
  have htm' : 0 ≤ (J.span false n).1 ∧ (J.span false n).2 ≤ 12 := htm
  rw [hw]
  have a3 := fun h hh0 hh1 => c_rfixed J hJ ht h1 h2 n hn h hh0 hh1
  unfold whenF
  rw [hsp]
  generalize J.span false (n : Int) = sp at a2 htm'
  generalize spans J false = SP at a3
  obtain ⟨lo, hi⟩ := sp
  dsimp only at htm'
  dsimp only
  have hlh := hoursL_len lo hi
  (refine Ctr.mk (fn := Tryz.f49) rfl rfl rfl rfl rfl Tryz.results49 ?_; intro _; dsimp only [args, List.toList_toArray])
  (first|refine qE ?_|refine qD ?_);(simp only [go_sem,↓dP,↓reduceIte];with_reducible and_intros;all_goals first|apply qA|exact qC|skip)
  (first|refine qE ?_|refine qD ?_);(simp only [go_sem,↓dP,↓reduceIte];with_reducible and_intros;all_goals first|apply qA|exact qC|skip)
  (first|refine qE ?_|refine qD ?_);(simp only [go_sem,↓dP,↓reduceIte];with_reducible and_intros;all_goals first|apply qA|exact qC|skip)
  (refine AskI.ret (a2) ?_; simp only [go_sem,↓dP,↓reduceIte];with_reducible and_intros;all_goals first|apply qA|exact qC|skip)
  refine Ok.seq ?_
  (first|refine qE ?_|refine qD ?_);(simp only [go_sem,↓dP,↓reduceIte];with_reducible and_intros;all_goals first|apply qA|exact qC|skip)
  refine Ok.block ?_
  refine Ok.count (hi + 1 - lo).toNat (fun j => ⟨[(1, iS n), (2, .p 0 0), (5, .tk 0), (6, .p 1 0), (7, iS (lo + j))], [jobC J, { frz := false, xs := [iS lo, iS hi] }], [ownD 3 1 intD (((hoursL lo hi).take j).filter (fun h => fixS SP n h h))]⟩) (fun _ => True) ⟨trivial, ?_⟩ ?_ ?_
  · (refine Sub.of ([0, 1]) ([none]) ?_ ?_ ?_ rfl rfl <;> simp only [subB, subB1, subT, subT1, newT, subE, subV, subL, go_sem,↓dP,↓reduceIte] <;> (try (repeat' with_reducible apply And.intro)) <;> (try first | exact DEq.refl _ | refine DEq.int ?_ | refine DEq.bool ?_ | omega))
    · rfl
    · simp
  · intro j hj _
    have hh := hoursL_at hj
    have hlen : (((hoursL lo hi).take j).filter (fun h => fixS SP n h h)).length ≤ j := by
      refine Nat.le_trans (List.length_filter_le _ _) ?_
      rw [List.length_take]; omega
    have hsn : ((hoursL lo hi).take (j + 1)).filter (fun h => fixS SP n h h) = ((hoursL lo hi).take j).filter (fun h => fixS SP n h h) ++ (if fixS SP n (lo + j) (lo + j) = true then [lo + (j : Int)] else []) := by
      rw [getD_take (by omega), List.filter_append, hh]
      by_cases h : fixS SP n (lo + j) (lo + j) = true
      · rw [if_pos h, List.filter_cons, if_pos h, List.filter_nil]
      · rw [if_neg h, List.filter_cons, if_neg h, List.filter_nil]
    refine Ok.seq ?_; ((first|refine qE ?_|refine qD ?_);(simp only [go_sem,↓dP,↓reduceIte];with_reducible and_intros;all_goals first|apply qA|exact qC|skip)); refine Ok.cond rfl (fun _ => ?_) (fun hb => by simp at hb; omega); (refine Ok.skip ?_; (try dsimp only [thenK, blockK, noGotoK])); refine Ok.seq ?_; refine Ok.block ?_
    (first|refine qE ?_|refine qD ?_);(simp only [go_sem,↓dP,↓reduceIte];with_reducible and_intros;all_goals first|apply qA|exact qC|skip)
    (refine AskI.ret (a3 (lo + j) (by omega) (by omega)) ?_; simp only [go_sem,↓dP,↓reduceIte];with_reducible and_intros;all_goals first|apply qA|exact qC|skip)
    refine Ok.cond rfl ?_ ?_
    · intro hb
      rw [if_pos hb] at hsn
      (first|refine qE ?_|refine qD ?_);(simp only [go_sem,↓dP,↓reduceIte];with_reducible and_intros;all_goals first|apply qA|exact qC|skip)
      (try dsimp only [thenK, blockK, noGotoK])
      (first|refine qE ?_|refine qD ?_);(simp only [go_sem,↓dP,↓reduceIte];with_reducible and_intros;all_goals first|apply qA|exact qC|skip)
      (try dsimp only [thenK, blockK, noGotoK])
      refine ⟨trivial, ?_⟩
      rw [hsn]
      (refine Sub.of ([0, 1]) ([some 1]) ?_ ?_ ?_ rfl rfl <;> simp only [subB, subB1, subT, subT1, newT, subE, subV, subL, go_sem,↓dP,↓reduceIte] <;> (try (repeat' with_reducible apply And.intro)) <;> (try first | exact DEq.refl _ | refine DEq.int ?_ | refine DEq.bool ?_ | omega))
      · simp
      · exact snoc_D (fun c hc => by have : c = 0 := by omega
                                     subst this; rfl)
      · omega
    · intro hb
      rw [if_neg (by rw [hb]; simp), List.append_nil] at hsn
      (refine Ok.skip ?_; (try dsimp only [thenK, blockK, noGotoK]))
      (try dsimp only [thenK, blockK, noGotoK])
      (first|refine qE ?_|refine qD ?_);(simp only [go_sem,↓dP,↓reduceIte];with_reducible and_intros;all_goals first|apply qA|exact qC|skip)
      (try dsimp only [thenK, blockK, noGotoK])
      refine ⟨trivial, ?_⟩
      rw [hsn]
      (refine Sub.of ([0, 1]) ([some 0]) ?_ ?_ ?_ rfl rfl <;> simp only [subB, subB1, subT, subT1, newT, subE, subV, subL, go_sem,↓dP,↓reduceIte] <;> (try (repeat' with_reducible apply And.intro)) <;> (try first | exact DEq.refl _ | refine DEq.int ?_ | refine DEq.bool ?_ | omega))
      · exact fun _ _ _ _ => DEq.refl _
      · omega
  · intro _
    refine Ok.seq ?_; ((first|refine qE ?_|refine qD ?_);(simp only [go_sem,↓dP,↓reduceIte];with_reducible and_intros;all_goals first|apply qA|exact qC|skip)); refine Ok.cond rfl (fun hb => by simp at hb; omega) (fun _ => ?_); (refine Ok.exit ?_; simp only [thenK_exit, blockK_exit, noGotoK_exit, thenK_normal, blockK_normal, noGotoK_normal, ↓reduceIte, Nat.reduceEqDiff])
    (first|refine qE ?_|refine qD ?_);(simp only [go_sem,↓dP,↓reduceIte];with_reducible and_intros;all_goals first|apply qA|exact qC|skip)
    (refine Ok.ret ?_; (try dsimp only [thenK, blockK, noGotoK]); simp only [toList_mk, List.toList_toArray, retK_ret, retK_normal, resOK, resV, celV, rowV, frzAll, frzT, subV, subL, go_sem,↓dP,↓reduceIte])
    exact .refl _
end Go.Proofs.Leaf
namespace Go.Proofs.Leaf
open Go Go.RX Go.Proofs
set_option maxRecDepth 10000
variable [Glob]
theorem c_When0 (J : Job) (hh : J.held) (n : Int) (hj : jobB J = false ∨ inB n 0 (J.ps.length - 1) = false) : Ctr Tryz.prog 48 [J.sv, iS n] (.tup [.d .nils, iS 2]) := by
 (refine Ctr.mk (fn := Tryz.f48) rfl rfl rfl rfl rfl Tryz.results48 ?_; intro _; dsimp only [args, List.toList_toArray])
 (first|refine qE ?_|refine qD ?_);(simp only [go_sem,↓dP,↓reduceIte];with_reducible and_intros;all_goals first|apply qA|exact qC|skip)
 refine Ok.seq ?_
 (first|refine qE ?_|refine qD ?_);(simp only [go_sem,↓dP,↓reduceIte];with_reducible and_intros;all_goals first|apply qA|exact qC|skip)
 (refine AskI.ret (c_isJob J hh) ?_; simp only [go_sem,↓dP,↓reduceIte];with_reducible and_intros;all_goals first|apply qA|exact qC|skip)
 (refine AskGI.ret (fun _ => c_hasPiece J hh.2 n) ?_; simp only [go_sem,↓dP,↓reduceIte];with_reducible and_intros;all_goals first|apply qA|exact qC|skip)
 refine Ok.cond rfl (fun _ => ?_) (fun hb => by rcases hj with h | h <;> rw [h] at hb <;> simp at hb)
 (first|refine qE ?_|refine qD ?_);(simp only [go_sem,↓dP,↓reduceIte];with_reducible and_intros;all_goals first|apply qA|exact qC|skip)
 (refine Ok.ret ?_; (try dsimp only [thenK, blockK, noGotoK]); simp only [toList_mk, List.toList_toArray, retK_ret, retK_normal, resOK, resV, celV, rowV, frzAll, frzT, subV, subL, go_sem,↓dP,↓reduceIte])
 ((repeat' with_reducible apply And.intro) <;> (first | exact DEq.refl _ | refine DEq.int ?_ | refine DEq.bool ?_ | skip))
end Go.Proofs.Leaf
namespace Go.Proofs.YtojfpogcfpmblaaGreatDoor
open Go Go.RX Go.Proofs.Leaf Go.RowKit Go.ChangeShapes Go.WideShapes Go.ChangeAt
set_option maxRecDepth 100000
section
variable {H : Type} {enc : TypeId × Value → H} {W : World}
end
theorem opensAll_cons {t : TypeId} {ts : List TypeId} {As : List SV} (h : opensAll (t :: ts) As) : ∃ A Bs, As = A :: Bs ∧ opens t A ∧ opensAll ts Bs := by
 cases As with
 | nil => exact h.elim
 | cons A Bs => exact ⟨A, Bs, rfl, h.1, h.2⟩
theorem opensAll_nil {As : List SV} (h : opensAll [] As) : As = [] := by
 cases As with
 | nil => rfl
 | cons A Bs => exact h.elim
end Go.Proofs.YtojfpogcfpmblaaGreatDoor
namespace Go.Proofs.Leaf
open Go Go.RX Go.Proofs Go.RowKit
set_option maxRecDepth 100000
section
theorem law_Whens (J : Job) (hf : J.far) (n : Int) : Ctr Tryz.prog 13 [J.sv, iS n] (bS true) := by
 (refine Ctr.mk (fn := Tryz.f13) rfl rfl rfl rfl rfl Tryz.results13 ?_; intro _; dsimp only [args, List.toList_toArray])
 (first|refine qE ?_|refine qD ?_);(simp only [go_sem,↓dP,↓reduceIte];with_reducible and_intros;all_goals first|apply qA|exact qC|skip)
 refine Ok.seq ?_
 (first|refine qE ?_|refine qD ?_);(simp only [go_sem,↓dP,↓reduceIte];with_reducible and_intros;all_goals first|apply qA|exact qC|skip)
 (refine AskI.ret (c_lshort J hf) ?_; simp only [go_sem,↓dP,↓reduceIte];with_reducible and_intros;all_goals first|apply qA|exact qC|skip)
 refine Ok.cond rfl ?_ ?_
 ·intro hs
  (first|refine qE ?_|refine qD ?_);(simp only [go_sem,↓dP,↓reduceIte];with_reducible and_intros;all_goals first|apply qA|exact qC|skip)
  (refine AskI.ret (c_known) ?_; simp only [go_sem,↓dP,↓reduceIte];with_reducible and_intros;all_goals first|apply qA|exact qC|skip)
  (refine Ok.ret ?_; (try dsimp only [thenK, blockK, noGotoK]); simp only [toList_mk, List.toList_toArray, retK_ret, retK_normal, resOK, resV, celV, rowV, frzAll, frzT, subV, subL, go_sem,↓dP,↓reduceIte])
  ((repeat' with_reducible apply And.intro) <;> (first | exact DEq.refl _ | refine DEq.int ?_ | refine DEq.bool ?_ | skip))
 intro hs
 have hh := short_held (by simpa using hs)
 (refine Ok.skip ?_; (try dsimp only [thenK, blockK, noGotoK]))
 by_cases hb : jobB J = true ∧ inB n 0 (J.ps.length - 1) = true
 rotate_left
 ·have hb' : jobB J = false ∨ inB n 0 (J.ps.length - 1) = false := by
   cases h1 : jobB J <;> cases h2 : inB n 0 (J.ps.length - 1) <;> simp_all
  (first|refine qE ?_|refine qD ?_);(simp only [go_sem,↓dP,↓reduceIte];with_reducible and_intros;all_goals first|apply qA|exact qC|skip)
  (refine AskI.ret (c_When0 J hh n hb') ?_; simp only [go_sem,↓dP,↓reduceIte];with_reducible and_intros;all_goals first|apply qA|exact qC|skip)
  refine Ok.seq ?_
  (first|refine qE ?_|refine qD ?_);(simp only [go_sem,↓dP,↓reduceIte];with_reducible and_intros;all_goals first|apply qA|exact qC|skip)
  (refine AskI.ret (c_rJob J hh) ?_; simp only [go_sem,↓dP,↓reduceIte];with_reducible and_intros;all_goals first|apply qA|exact qC|skip)
  (refine AskGI.ret (fun _ => c_rPiece J hh.2 n) ?_; simp only [go_sem,↓dP,↓reduceIte];with_reducible and_intros;all_goals first|apply qA|exact qC|skip)
  refine Ok.cond rfl (fun _ => ?_) (fun hq => by revert hq; rcases hb' with q | q <;> rw [q] <;> simp)
  (first|refine qE ?_|refine qD ?_);(simp only [go_sem,↓dP,↓reduceIte];with_reducible and_intros;all_goals first|apply qA|exact qC|skip)
  (refine AskGI.ret (fun _ => c_known) ?_; simp only [go_sem,↓dP,↓reduceIte];with_reducible and_intros;all_goals first|apply qA|exact qC|skip)
  (refine Ok.ret ?_; (try dsimp only [thenK, blockK, noGotoK]); simp only [toList_mk, List.toList_toArray, retK_ret, retK_normal, resOK, resV, celV, rowV, frzAll, frzT, subV, subL, go_sem,↓dP,↓reduceIte])
  ((repeat' with_reducible apply And.intro) <;> (first | exact DEq.refl _ | refine DEq.int ?_ | refine DEq.bool ?_ | skip))
 ·obtain ⟨hj, hin⟩ := hb
  have h := jobB_iff.1 hj
  have hp := h.p1
  have hg := h.g1
  have hin' := inB_iff.1 hin
  obtain ⟨m, rfl⟩ : ∃ m : Nat, n = m := ⟨n.toNat, by omega⟩
  have hm : m < J.ps.length := by omega
  have hwl : (whenL (spans J false) m).length ≤ 1000 := Nat.le_trans (List.length_filter_le _ _) (by decide)
  have hml : m < (spans J false).length := by rw [spans_len]; exact hm
  have hsp := h.span false _ (getD_mem hml)
  have hwn : whenL (spans J false) m = [] ↔ planOf J false = none := whenL_nil hml hsp.1 hsp.2.2
  (first|refine qE ?_|refine qD ?_);(simp only [go_sem,↓dP,↓reduceIte];with_reducible and_intros;all_goals first|apply qA|exact qC|skip)
  (refine AskI.ret (c_When J h.based hh h.timed (by omega) hj m hm) ?_; simp only [go_sem,↓dP,↓reduceIte];with_reducible and_intros;all_goals first|apply qA|exact qC|skip)
  refine Ok.seq ?_
  (first|refine qE ?_|refine qD ?_);(simp only [go_sem,↓dP,↓reduceIte];with_reducible and_intros;all_goals first|apply qA|exact qC|skip)
  (refine AskI.ret (c_rJob J hh) ?_; simp only [go_sem,↓dP,↓reduceIte];with_reducible and_intros;all_goals first|apply qA|exact qC|skip)
  (refine AskGI.ret (fun _ => c_rPiece J hh.2 m) ?_; simp only [go_sem,↓dP,↓reduceIte];with_reducible and_intros;all_goals first|apply qA|exact qC|skip)
  refine Ok.cond rfl (fun hq => by rw [hj, hin] at hq; cases hq) (fun _ => ?_)
  (refine Ok.skip ?_; (try dsimp only [thenK, blockK, noGotoK]))
  refine Ok.seq ?_
  (first|refine qE ?_|refine qD ?_);(simp only [go_sem,↓dP,↓reduceIte];with_reducible and_intros;all_goals first|apply qA|exact qC|skip)
  (refine AskI.ret (c_rPlan J h.based h.timed (by omega)) ?_; simp only [go_sem,↓dP,↓reduceIte];with_reducible and_intros;all_goals first|apply qA|exact qC|skip)
  cases hpl : planOf J false with
  | none =>
   have hw := hwn.2 hpl
   rw [hw]
   refine Ok.seq ?_
   (first|refine qE ?_|refine qD ?_);(simp only [go_sem,↓dP,↓reduceIte];with_reducible and_intros;all_goals first|apply qA|exact qC|skip)
   refine Ok.cond (b := true) (by first | rfl | (simp only [go_sem,↓dP,↓reduceIte]; rfl)) (fun _ => ?_) (fun hb => by cases hb)
   (first|refine qE ?_|refine qD ?_);(simp only [go_sem,↓dP,↓reduceIte];with_reducible and_intros;all_goals first|apply qA|exact qC|skip)
   (refine AskGI.ret (fun _ => c_known) ?_; simp only [go_sem,↓dP,↓reduceIte];with_reducible and_intros;all_goals first|apply qA|exact qC|skip)
   (refine Ok.ret ?_; (try dsimp only [thenK, blockK, noGotoK]); simp only [toList_mk, List.toList_toArray, retK_ret, retK_normal, resOK, resV, celV, rowV, frzAll, frzT, subV, subL, go_sem,↓dP,↓reduceIte])
   ((repeat' with_reducible apply And.intro) <;> (first | exact DEq.refl _ | refine DEq.int ?_ | refine DEq.bool ?_ | skip))
  | some l =>
   have hw : ¬ whenL (spans J false) m = [] := fun q => by rw [hwn.1 q] at hpl; cases hpl
   rw [if_neg hw]
   refine Ok.seq ?_
   (first|refine qE ?_|refine qD ?_);(simp only [go_sem,↓dP,↓reduceIte];with_reducible and_intros;all_goals first|apply qA|exact qC|skip)
   refine Ok.cond (b := false) (by first | rfl | (simp only [go_sem,↓dP,↓reduceIte]; rfl)) (fun hb => by cases hb) (fun _ => ?_)
   (refine Ok.skip ?_; (try dsimp only [thenK, blockK, noGotoK]))
   (first|refine qE ?_|refine qD ?_);(simp only [go_sem,↓dP,↓reduceIte];with_reducible and_intros;all_goals first|apply qA|exact qC|skip)
   (refine AskGI.ret (fun _ => c_rWhen J h.based h.timed (by omega) (by omega) m hm) ?_; simp only [go_sem,↓dP,↓reduceIte];with_reducible and_intros;all_goals first|apply qA|exact qC|skip)
   (refine AskGI.ret (fun _ => c_tSame _ _ (by omega) (by omega)) ?_; simp only [go_sem,↓dP,↓reduceIte];with_reducible and_intros;all_goals first|apply qA|exact qC|skip)
   (refine AskGI.ret (fun _ => c_known) ?_; simp only [go_sem,↓dP,↓reduceIte];with_reducible and_intros;all_goals first|apply qA|exact qC|skip)
   (refine Ok.ret ?_; (try dsimp only [thenK, blockK, noGotoK]); simp only [toList_mk, List.toList_toArray, retK_ret, retK_normal, resOK, resV, celV, rowV, frzAll, frzT, subV, subL, go_sem,↓dP,↓reduceIte])
   ((repeat' with_reducible apply And.intro) <;> (first | exact DEq.refl _ | refine DEq.int ?_ | refine DEq.bool ?_ | skip))
end
end Go.Proofs.Leaf
namespace Go.Proofs.YtojfpogcfpmblaaGreatDoor
open Go Go.RX Go.Proofs.Leaf Go.RowKit Go.ChangeShapes Go.WideShapes Go.ChangeAt
set_option maxRecDepth 100000
theorem leafWhens_ctr (As : List SV) (h : opensAll [25, 3] As) : Ctr Tryz.prog 13 As (bS true) := by
 obtain ⟨_, A1, rfl, h0, h⟩ := opensAll_cons h
 obtain ⟨_, A2, rfl, h1, h⟩ := opensAll_cons h
 obtain rfl := opensAll_nil h
 obtain ⟨x0, rfl, y0⟩ := opens_job h0
 obtain ⟨x1, rfl, y1, z1⟩ := opens_int h1
 exact law_Whens x0 y0 x1
theorem leafWhens_facts : joinedFacts Tryz.prog 13 Tryz.f13 Rows.leafWhensSpec Rows.leafWhensRow = true := by unfold joinedFacts; rw [enter_is, final_is, make_is]; kernel_rfl
theorem leafWhens_lifted (os : Os) (started : os.Started) (H : Type) (enc : TypeId × Value → H) :
  ReturnsInHanded {} Tryz.checked os 13 .any (fun w args => (Rows.leafWhensSpec.pre enc Tryz.prog Tryz.f13 [] false w args ∧ laidMetH Tryz.prog laid5 w) ∧ sizedMet enc Tryz.prog Tryz.f13 (OpenSpec.ofChange Rows.leafWhensSpec) false w args)
   (Rows.leafWhensSpec.post enc Tryz.prog Tryz.f13 false true false false) := by
 refine law_ctr (ts := [25, 3]) Rows.leafWhensSpec rfl started (by kernel_rfl) Tryz.func13 (by kernel_rfl) (by rw [Tryz.params13]) (by unfold argT; decide)
  (fun ds hd => ?_)
  (ChangeSpec.witness_shaped (enc := enc) (C := Tryz.checked) (os := os) (X := fun w _ => laidMetH Tryz.prog laid5 w) false (World.laidAll Tryz.prog os laid5) #[zJ, zI] 8 (World.laidAll_os _ _ _)
   (World.shaped_of_ZipB (by kernel_rfl) (by kernel_rfl)) (by kernel_rfl) (by kernel_rfl) (by kernel_rfl)
   (by rw [MakeChecks.laidMetH_plain _ _ _ (by kernel_rfl)]; exact laidMet_laidAll _ (by kernel_rfl) (by kernel_rfl))) leafWhens_ctr
 match ds, hd with
 | [d0, d1], _ => rfl
theorem leafWhens_row : Rows.LeafWhensSaid :=
 OpenClaim.holds_of_wide 13 Tryz.f13 rfl rfl rfl rfl rfl rfl rfl ⟨rfl, rfl, rfl, rfl, rfl⟩ rfl rfl rfl rfl rfl (by kernel_rfl) Tryz.func13 leafWhens_facts (of_decide_eq_true (by kernel_rfl))
  (by unfold Func.isWrapper; first | (rw [if_pos (by decide +kernel)]; kernel_rfl) | (rw [if_neg (by decide +kernel)]; exact ⟨rfl, rfl⟩)) (fun os started H enc _ => leafWhens_lifted os started H enc)
theorem leafWhens_card : Rows.LeafWhensCardSaid :=
 Claim7.holds_tied_plain_at .later [] [.data, .data, .data, .data, .pinned] true (true, "b9e665a4b67ae011e5ed22b8eb226cc6d74f55357845231d1045bbc61717fa8c") true leafWhens_row
  (fun _ h => by cases h) (by kernel_rfl) (fun _ h => by cases h) leafWhens_row_tie rfl ⟨rfl, rfl⟩ main_is rfl
  (fun f fn hf hfn => by
   obtain rfl : f = 13 := Option.some.inj ((show Tryz.prog.funcNamed "mahlstick/mahlsticklaw04.LeafWhens" = some 13 by kernel_rfl).symm.trans hf) |>.symm
   obtain rfl : fn = Tryz.f13 := (Option.some.inj (Tryz.func13.symm.trans hfn)).symm
   exact ⟨by kernel_rfl, fun j t ht => by
    rw [Tryz.params13] at ht
    exact law_stand (ts := [25, 3]) (by unfold argT; decide) (by simpa using Array.mem_of_getElem? ht)⟩) (by kernel_rfl)
end Go.Proofs.YtojfpogcfpmblaaGreatDoor
