/-
  Sight, the theorem of eyes: SightEyes returns true at every input, and leaves it as it was.
  Part 24 of 26. No condition beside those that the statement itself names.
-/
import Derived.Test.YtnfdlpfenafjfaaGreatDoorG00LX
import Derived.Test.YtnfdlpfenafjfaaGreatDoorG01LX
import Derived.Test.YtnfdlpfenafjfaaGreatDoorG02LX
import Derived.Test.YtnfdlpfenafjfaaGreatDoorG03LX
import Derived.Test.YtnfdlpfenafjfaaGreatDoorG04LX
import Derived.Test.YtnfdlpfenafjfaaGreatDoorG05LX
import Derived.Test.YtnfdlpfenafjfaaGreatDoorG06LX
import Derived.Test.YtnfdlpfenafjfaaGreatDoorG07LX
import Derived.Test.YtnfdlpfenafjfaaGreatDoorG08LX
import Derived.Test.YtnfdlpfenafjfaaGreatDoorG09LX
import Derived.Test.YtnfdlpfenafjfaaGreatDoorG10LX
import Derived.Test.YtnfdlpfenafjfaaGreatDoorG11LX
import Derived.Test.YtnfdlpfenafjfaaGreatDoorG12LX
import Derived.Test.YtnfdlpfenafjfaaGreatDoorG13LX
import Derived.Test.YtnfdlpfenafjfaaGreatDoorG14LX
import Derived.Test.YtnfdlpfenafjfaaGreatDoorG15LX
import Derived.Test.YtnfdlpfenafjfaaGreatDoorG16LX
import Derived.Test.YtnfdlpfenafjfaaGreatDoorG17LX
import Derived.Test.YtnfdlpfenafjfaaGreatDoorG18LX
import Derived.Test.YtnfdlpfenafjfaaGreatDoorG19LX
import Derived.Test.YtnfdlpfenafjfaaGreatDoorG20LX
import Derived.Test.YtnfdlpfenafjfaaGreatDoorG21LX
import Derived.Test.YtnfdlpfenafjfaaGreatDoorG22LX
import Derived.Lib.AppendIntMem
import Derived.Lib.SplitLaws
import Derived.Lib.ItoaLen
import Derived.Defers
import Derived.Recover
set_option linter.all false
set_option linter.unusedVariables false
set_option linter.unusedSectionVars false
set_option linter.unusedSimpArgs false
set_option linter.unnecessarySimpa false
namespace Go.Proofs.Sight
open Go Go.RX Go.Proofs Go.RowKit
set_option maxRecDepth 10000
theorem str_val {I : Nat → Prop} {w : World} {v : Value} {l : List UInt8} (h : RepS I w v (.d (.str l))) : v = .string ⟨l.toArray⟩ := by
  have h := RepS.rep h
  cases h with
  | @str s l h =>
    obtain ⟨⟨d⟩⟩ := s
    simp at h; subst h; rfl
theorem rep_str' (I : Nat → Prop) (w : World) (l : List UInt8) : Rep I w (.string ⟨l.toArray⟩) (.str l) := .str rfl
theorem c132 (n : Int) (h0 : -9223372036854775808 ≤ n) (h1 : n ≤ 9223372036854775807) : Ctr Tryz.prog 132 [iS n] (.d (.str (Lib.itoa n))) := by
  refine ⟨⟨Tryz.f132, Tryz.func132, rfl, rfl⟩, fun I w vs hG hI hsz hrep => ?_⟩
  obtain ⟨v0, rfl⟩ : ∃ v0, vs = #[v0] := by
    obtain ⟨l⟩ := vs
    match l, hsz with
    | [a], _ => exact ⟨a, rfl⟩
  have h := RepS.rep (hrep 0 v0 _ rfl rfl)
  obtain rfl : v0 = .int .i64 n := by cases h; rfl
  refine (Tryz.strconv_Itoa n h0 h1 w hG.1).mono ?_
  rintro e w' ⟨rfl, k, os, rfl⟩
  exact ⟨_, rfl, RepS.of (rep_str' _ _ _), Lib.below_grow _ w (Nat.le_refl _) k os⟩
def strD (l : List UInt8) : Nat → DV
  | 0 => .str l | _ => .nilI
theorem strD_0 (l : List UInt8) : strD l 0 = .str l := Eq.trans rfl rfl
attribute [go_sem] strD_0
abbrev strsD (l : List (List UInt8)) : DV := slD 1 strD l
def splitL (s sep : List UInt8) : List (List UInt8) := (Lib.splitB ⟨sep.toArray⟩ 0 (Lib.countB ⟨s.toArray⟩ ⟨sep.toArray⟩) ⟨s.toArray⟩).map (·.data.toList)
theorem c134 (s sep : List UInt8) (hs : s.length < 4294967281) (h1 : 1 ≤ sep.length) : Ctr Tryz.prog 134 [.d (.str s), .d (.str sep)] (.d (strsD (splitL s sep))) := by
  refine ⟨⟨Tryz.f134, Tryz.func134, rfl, rfl⟩, fun I w vs hG hI hsz hrep => ?_⟩
  obtain ⟨v0, v1, rfl⟩ : ∃ v0 v1, vs = #[v0, v1] := by
    obtain ⟨l⟩ := vs
    match l, hsz with
    | [a, b], _ => exact ⟨a, b, rfl⟩
  obtain rfl := str_val (hrep 0 v0 _ rfl rfl)
  obtain rfl := str_val (hrep 1 v1 _ rfl rfl)
  obtain ⟨_, m, hm⟩ := hG
  have hlen := Lib.splitB_all ⟨sep.toArray⟩ h1 0 _ ⟨s.toArray⟩ rfl
  have hcnt := Lib.countB_le ⟨sep.toArray⟩ h1 _ ⟨s.toArray⟩ (Nat.le_refl _)
  have hss : (⟨s.toArray⟩ : ByteArray).size = s.length := rfl
  refine (Tryz.strings_Split ⟨s.toArray⟩ ⟨sep.toArray⟩ m w hs hm h1).mono ?_
  rintro e w' ⟨rfl, rfl⟩
  refine ⟨_, rfl, RepS.of ?_, (Below.refl _ w).alloc (Nat.le_refl _) _⟩
  have hl : (splitL s sep).length = Lib.countB ⟨s.toArray⟩ ⟨sep.toArray⟩ + 1 := by
    rw [splitL, List.length_map, hlen]
  show Rep _ _ _ (.sl 1 (splitL s sep).length _)
  rw [hl]
  refine .sl (fun i j => .string ⟨((splitL s sep).getD i default).toArray⟩) (.inr ⟨Nat.le_refl _, by simp⟩) (Nat.le_refl _) ?_ (fun i j hi hj => ?_) (fun i j hi hj => ?_)
  · unfold maxLen; omega
  · have : j = 0 := by omega
    subst this
    have hi' : i < (Lib.splitB ⟨sep.toArray⟩ 0 (Lib.countB ⟨s.toArray⟩ ⟨sep.toArray⟩) ⟨s.toArray⟩).length := by rw [hlen]; exact hi
    rw [cellAt (al_new _ rfl)]
    simp only [splitL, List.getD_eq_getElem?_getD, List.getElem?_map, Nat.zero_add, Nat.mul_one, Nat.add_zero, List.getElem?_toArray, List.getElem?_eq_getElem hi', Option.map_some, Option.getD_some]
  · have : j = 0 := by omega
    subst this
    exact rep_str' _ _ _
theorem c133 (l : List (List UInt8)) (sep : List UInt8) (hN : l.length ≤ 100000) (hlen : (Lib.join l sep).length ≤ 140737488355328) (h1 : 1 ≤ l.length) : Ctr Tryz.prog 133 [.d (strsD l), .d (.str sep)] (.d (.str (Lib.join l sep))) := by
  refine ⟨⟨Tryz.f133, Tryz.func133, rfl, rfl⟩, fun I w vs hG hI hsz hrep => ?_⟩
  obtain ⟨v0, v1, rfl⟩ : ∃ v0 v1, vs = #[v0, v1] := by
    obtain ⟨l⟩ := vs
    match l, hsz with
    | [a, b], _ => exact ⟨a, b, rfl⟩
  obtain rfl := str_val (hrep 1 v1 _ rfl rfl)
  have h0 := RepS.rep (hrep 0 v0 _ rfl rfl)
  have hx : (l.map (fun s => (⟨s.toArray⟩ : ByteArray))).map (·.data.toList) = l := by simp [List.map_map, Function.comp_def]
  change Rep _ _ _ (.sl 1 l.length (fun i => strD (l.getD i default))) at h0
  generalize hn : l.length = n at h0
  cases h0 with
  | sl0 => omega
  | sl1 => omega
  | @sl b o _ cap _ _ us hIb hc hcap hcell hrep' =>
    subst hn
    have h := Tryz.strings_Join b o cap (l.map (fun s => (⟨s.toArray⟩ : ByteArray))) ⟨sep.toArray⟩ w (fun j x hj => by
      simp only [List.getElem?_map, Option.map_eq_some_iff] at hj
      obtain ⟨s, hs, rfl⟩ := hj
      obtain ⟨hj', hs'⟩ := List.getElem?_eq_some_iff.1 hs
      have c1 := hcell j 0 hj' (by omega)
      have c2 := hrep' j 0 hj' (by omega)
      have e : l.getD j default = s := by rw [getD_lt hj', hs']
      dsimp only at c2
      rw [e] at c2
      have c3 := str_val (RepS.of c2)
      rw [c3] at c1
      simpa using c1) (hI b hIb) (by simpa using Nat.le_trans hN (by decide)) (by simpa using hc) (by rw [hx]; exact hlen)
    rw [List.length_map, hx] at h
    refine h.mono ?_
    rintro e w' ⟨rfl, hB⟩
    exact ⟨_, rfl, RepS.of (rep_str' _ _ _), hB⟩
theorem itoa_one {n : Nat} (h : n < 10) : Lib.itoa n = [UInt8.ofNat (48 + n)] := by
  rw [Lib.itoa_nonneg, Lib.decDigits, dif_pos h]
end Go.Proofs.Sight
namespace Go.Proofs.Sight
open Go Go.RX Go.Proofs
set_option maxRecDepth 10000
theorem tdivN (n : Nat) : (n : Int).tdiv 10 = ((n / 10 : Nat) : Int) := by rw [Int.tdiv_eq_ediv_of_nonneg (by omega)]; simp
theorem tmodN (n : Nat) : (n : Int).tmod 10 = ((n % 10 : Nat) : Int) := by rw [Int.tmod_eq_emod_of_nonneg (by omega)]; simp
theorem R8 {n : Int} (h0 : 0 ≤ n) (h1 : n ≤ 255) : R .u8 n := by
  unfold R
  show IntKind.wrap .u8 n = n
  unfold IntKind.wrap
  simp [IntKind.signed, IntKind.bits]
  omega
theorem bysT101 : bysT Tryz.prog 101 = true := by kernel_rfl
attribute [go_sem] bysT101
theorem byt_p {x : Int} (h0 : 0 ≤ x) (h1 : x < 256) : ∀ i, i < 1 → dget [.int .u8 x] (i * 1) = .int .u8 (byt (dget [.int .u8 x] (i * 1))).toNat := by
  intro i hi
  have : i = 0 := by omega
  subst this
  show DV.int .u8 x = .int .u8 (UInt8.ofNat x.toNat).toNat
  rw [UInt8.toNat_ofNat', Nat.mod_eq_of_lt (by omega)]
  congr 1
  omega
theorem byt_s (x : Int) (m : Nat) (h : x = m) : List.map (fun i => byt (dget [DV.int .u8 x] (i * 1))) (List.range 0 ++ [0]) = [UInt8.ofNat m] := by
  subst h
  rfl
theorem decLen (n : Nat) (h : n < 1000000) : (Lib.decDigits n).length ≤ 21 := by
  rw [← Lib.itoa_nonneg]
  exact Lib.itoa_length_le _ (by omega) (by omega)
theorem c138 : ∀ n : Nat, n < 1000000 → Ctr Tryz.prog 138 [iS n] (.d (.str (Lib.decDigits n))) := by
  intro n
  induction n using Nat.strongRecOn with
  | _ n ih =>
  intro hn
  (refine Ctr.mk (fn := Tryz.f138) rfl rfl rfl rfl rfl Tryz.results138 ?_; dsimp only [args, List.toList_toArray])
  ((first | refine Ok.seqF rfl rfl ?_ | refine Ok.seqT rfl rfl ?_ | refine Ok.regF rfl rfl ?_ | refine Ok.regT rfl rfl ?_); simp only [go_sem]; (repeat' with_reducible apply And.intro); all_goals first | (with_reducible first | refine OkW.mk ?_ | refine EndW.mk ?_ | apply AskI.id | apply AskGI.id) | (with_reducible apply KOt.mk; kernel_rfl) | exact trivial | rfl | omega | ((try intro _); first | apply R64 <;> omega | apply room_of <;> omega) | skip)
  refine Ok.seq ?_
  ((first | refine Ok.seqF rfl rfl ?_ | refine Ok.seqT rfl rfl ?_ | refine Ok.regF rfl rfl ?_ | refine Ok.regT rfl rfl ?_); simp only [go_sem]; (repeat' with_reducible apply And.intro); all_goals first | (with_reducible first | refine OkW.mk ?_ | refine EndW.mk ?_ | apply AskI.id | apply AskGI.id) | (with_reducible apply KOt.mk; kernel_rfl) | exact trivial | rfl | omega | ((try intro _); first | apply R64 <;> omega | apply room_of <;> omega) | skip)
  refine Ok.cond rfl (fun hb => by simp at hb; omega) (fun _ => ?_)
  (refine Ok.skip ?_; (try dsimp only [thenK, blockK, noGotoK]))
  refine Ok.seq ?_
  ((first | refine Ok.seqF rfl rfl ?_ | refine Ok.seqT rfl rfl ?_ | refine Ok.regF rfl rfl ?_ | refine Ok.regT rfl rfl ?_); simp only [go_sem]; (repeat' with_reducible apply And.intro); all_goals first | (with_reducible first | refine OkW.mk ?_ | refine EndW.mk ?_ | apply AskI.id | apply AskGI.id) | (with_reducible apply KOt.mk; kernel_rfl) | exact trivial | rfl | omega | ((try intro _); first | apply R64 <;> omega | apply room_of <;> omega) | skip)
  refine Ok.cond rfl (fun hb => by simp at hb; omega) (fun _ => ?_)
  (refine Ok.skip ?_; (try dsimp only [thenK, blockK, noGotoK]))
  refine Ok.seq ?_
  ((first | refine Ok.seqF rfl rfl ?_ | refine Ok.seqT rfl rfl ?_ | refine Ok.regF rfl rfl ?_ | refine Ok.regT rfl rfl ?_); simp only [go_sem]; (repeat' with_reducible apply And.intro); all_goals first | (with_reducible first | refine OkW.mk ?_ | refine EndW.mk ?_ | apply AskI.id | apply AskGI.id) | (with_reducible apply KOt.mk; kernel_rfl) | exact trivial | rfl | omega | ((try intro _); first | apply R64 <;> omega | apply room_of <;> omega) | skip)
  refine Ok.cond rfl ?_ ?_
  · intro hb
    have hb' : n < 10 := by simp at hb; omega
    ((first | refine Ok.seqF rfl rfl ?_ | refine Ok.seqT rfl rfl ?_ | refine Ok.regF rfl rfl ?_ | refine Ok.regT rfl rfl ?_); simp only [go_sem]; (repeat' with_reducible apply And.intro); all_goals first | (with_reducible first | refine OkW.mk ?_ | refine EndW.mk ?_ | apply AskI.id | apply AskGI.id) | (with_reducible apply KOt.mk; kernel_rfl) | exact trivial | rfl | omega | ((try intro _); first | apply R64 <;> omega | apply room_of <;> omega) | skip)
    · exact R8 (by omega) (by omega)
    · exact byt_p (by omega) (by omega)
    (refine Ok.ret ?_; (try dsimp only [thenK, blockK, noGotoK]); simp only [toList_mk, List.toList_toArray, retK_ret, retK_normal, resOK, resV, celV, rowV, frzAll, frzT, subV, subL, go_sem])
    refine DEq.str ?_
    rw [byt_s _ (48 + n) (by omega), Lib.decDigits, dif_pos hb']
  · intro hb
    have hb' : ¬ n < 10 := by simp at hb; omega
    (refine Ok.skip ?_; (try dsimp only [thenK, blockK, noGotoK]))
    ((first | refine Ok.seqF rfl rfl ?_ | refine Ok.seqT rfl rfl ?_ | refine Ok.regF rfl rfl ?_ | refine Ok.regT rfl rfl ?_); simp only [go_sem]; (repeat' with_reducible apply And.intro); all_goals first | (with_reducible first | refine OkW.mk ?_ | refine EndW.mk ?_ | apply AskI.id | apply AskGI.id) | (with_reducible apply KOt.mk; kernel_rfl) | exact trivial | rfl | omega | ((try intro _); first | apply R64 <;> omega | apply room_of <;> omega) | skip)
    · rw [tdivN]; exact R64 (by omega) (by omega)
    rw [tdivN]
    (refine AskI.ret (ih (n / 10) (by omega) (by omega)) ?_; simp only [go_sem]; (repeat' with_reducible apply And.intro); all_goals first | (with_reducible first | refine OkW.mk ?_ | refine EndW.mk ?_ | apply AskI.id | apply AskGI.id) | (with_reducible apply KOt.mk; kernel_rfl) | exact trivial | rfl | omega | ((try intro _); first | apply R64 <;> omega | apply room_of <;> omega) | skip)
    · rw [tmodN]; exact R64 (by omega) (by omega)
    · rw [tmodN]; exact R8 (by omega) (by omega)
    · rw [tmodN]; exact byt_p (by omega) (by omega)
    · rw [tmodN, byt_s _ (48 + n % 10) (by omega)]
      have := decLen (n / 10) (by omega)
      simp only [strRoom, List.length_cons, List.length_nil]
      omega
    (refine Ok.ret ?_; (try dsimp only [thenK, blockK, noGotoK]); simp only [toList_mk, List.toList_toArray, retK_ret, retK_normal, resOK, resV, celV, rowV, frzAll, frzT, subV, subL, go_sem])
    refine DEq.str ?_
    rw [tmodN, byt_s _ (48 + n % 10) (by omega)]
    conv => rhs; rw [Lib.decDigits, dif_neg hb']
def rowL (w : List UInt8) (ns : List Int) : List UInt8 := w ++ ns.flatMap (fun n => 32 :: Lib.itoa n)
theorem rowL_nil (w : List UInt8) : rowL w [] = w := by simp [rowL]
theorem rowL_snoc (w : List UInt8) (ns : List Int) (n : Int) : rowL w (ns ++ [n]) = rowL w ns ++ [32] ++ Lib.itoa n := by simp [rowL]
theorem itoaLen (n : Int) (h0 : 0 ≤ n) (h1 : n < 1000000) : (Lib.itoa n).length ≤ 21 := Lib.itoa_length_le _ (by omega) (by omega)
theorem rowL_len (w : List UInt8) : ∀ (ns : List Int), (∀ n ∈ ns, 0 ≤ n ∧ n < 1000000) → (rowL w ns).length ≤ w.length + 22 * ns.length
  | [], _ => by simp [rowL]
  | n :: r, h => by
    have ih := rowL_len w r (fun x hx => h x (List.mem_cons_of_mem _ hx))
    have hn := h n (List.mem_cons_self ..)
    have := itoaLen n hn.1 hn.2
    simp only [rowL, List.length_append, List.flatMap_cons, List.length_cons] at ih ⊢
    omega
theorem c107 (w : List UInt8) (ns : List Int) (hns : ∀ n ∈ ns, 0 ≤ n ∧ n < 1000000) (hw : w.length ≤ 1000) (hl : ns.length ≤ 1000) : Ctr Tryz.prog 107 [.d (.str w), .d (slD 1 intD ns)] (.d (.str (rowL w ns))) := by
  (refine Ctr.mk (fn := Tryz.f107) rfl rfl rfl rfl rfl Tryz.results107 ?_; dsimp only [args, List.toList_toArray])
  ((first | refine Ok.seqF rfl rfl ?_ | refine Ok.seqT rfl rfl ?_ | refine Ok.regF rfl rfl ?_ | refine Ok.regT rfl rfl ?_); simp only [go_sem]; (repeat' with_reducible apply And.intro); all_goals first | (with_reducible first | refine OkW.mk ?_ | refine EndW.mk ?_ | apply AskI.id | apply AskGI.id) | (with_reducible apply KOt.mk; kernel_rfl) | exact trivial | rfl | omega | ((try intro _); first | apply R64 <;> omega | apply room_of <;> omega) | skip)
  refine Ok.seq ?_
  ((first | refine Ok.seqF rfl rfl ?_ | refine Ok.seqT rfl rfl ?_ | refine Ok.regF rfl rfl ?_ | refine Ok.regT rfl rfl ?_); simp only [go_sem]; (repeat' with_reducible apply And.intro); all_goals first | (with_reducible first | refine OkW.mk ?_ | refine EndW.mk ?_ | apply AskI.id | apply AskGI.id) | (with_reducible apply KOt.mk; kernel_rfl) | exact trivial | rfl | omega | ((try intro _); first | apply R64 <;> omega | apply room_of <;> omega) | skip)
  refine Ok.block ?_
  refine Ok.count ns.length (fun i => ⟨[(0, .d (.str (rowL w (ns.take i)))), (1, .d (slD 1 intD ns)), (5, iS i)], [], []⟩) (fun _ => True) ⟨trivial, ?_⟩ ?_ ?_
  · (refine Sub.of ([]) ([]) ?_ ?_ ?_ rfl rfl <;> simp only [subB, subB1, subT, subT1, newT, subE, subV, subL, go_sem] <;> (try (repeat' with_reducible apply And.intro)) <;> (try first | exact DEq.refl _ | refine DEq.int ?_ | refine DEq.bool ?_ | omega))
    refine DEq.str ?_
    rw [rowL_nil]
  · intro i hi _
    have hb := hns _ (getD_mem hi)
    have hlen := rowL_len w (ns.take i) (fun x hx => hns x (List.mem_of_mem_take hx))
    have hti : (ns.take i).length = i := by simp; omega
    have hil := itoaLen _ hb.1 hb.2
    have hsn : rowL w (ns.take (i + 1)) = rowL w (ns.take i) ++ [32] ++ Lib.itoa (ns.getD i default) := by rw [getD_take hi, rowL_snoc]
    obtain ⟨m, hm⟩ : ∃ m : Nat, ns.getD i default = m := ⟨(ns.getD i default).toNat, by omega⟩
    rw [hm, Lib.itoa_nonneg] at hsn
    rw [hm, Lib.itoa_nonneg] at hil
    rw [hm] at hb
    refine Ok.seq ?_; (((first | refine Ok.seqF rfl rfl ?_ | refine Ok.seqT rfl rfl ?_ | refine Ok.regF rfl rfl ?_ | refine Ok.regT rfl rfl ?_); simp only [go_sem]; (repeat' with_reducible apply And.intro); all_goals first | (with_reducible first | refine OkW.mk ?_ | refine EndW.mk ?_ | apply AskI.id | apply AskGI.id) | (with_reducible apply KOt.mk; kernel_rfl) | exact trivial | rfl | omega | ((try intro _); first | apply R64 <;> omega | apply room_of <;> omega) | skip)); refine Ok.cond rfl (fun _ => ?_) (fun hb => by simp at hb; omega); (refine Ok.skip ?_; (try dsimp only [thenK, blockK, noGotoK])); refine Ok.seq ?_; refine Ok.block ?_
    ((first | refine Ok.seqF rfl rfl ?_ | refine Ok.seqT rfl rfl ?_ | refine Ok.regF rfl rfl ?_ | refine Ok.regT rfl rfl ?_); simp only [go_sem]; (repeat' with_reducible apply And.intro); all_goals first | (with_reducible first | refine OkW.mk ?_ | refine EndW.mk ?_ | apply AskI.id | apply AskGI.id) | (with_reducible apply KOt.mk; kernel_rfl) | exact trivial | rfl | omega | ((try intro _); first | apply R64 <;> omega | apply room_of <;> omega) | skip)
    · simp only [strRoom, List.length_cons, List.length_nil]; omega
    rw [hm]
    (refine AskI.ret (c138 m (by omega)) ?_; simp only [go_sem]; (repeat' with_reducible apply And.intro); all_goals first | (with_reducible first | refine OkW.mk ?_ | refine EndW.mk ?_ | apply AskI.id | apply AskGI.id) | (with_reducible apply KOt.mk; kernel_rfl) | exact trivial | rfl | omega | ((try intro _); first | apply R64 <;> omega | apply room_of <;> omega) | skip)
    · simp only [strRoom, List.length_append, List.length_cons, List.length_nil]; omega
    (try dsimp only [thenK, blockK, noGotoK])
    ((first | refine Ok.seqF rfl rfl ?_ | refine Ok.seqT rfl rfl ?_ | refine Ok.regF rfl rfl ?_ | refine Ok.regT rfl rfl ?_); simp only [go_sem]; (repeat' with_reducible apply And.intro); all_goals first | (with_reducible first | refine OkW.mk ?_ | refine EndW.mk ?_ | apply AskI.id | apply AskGI.id) | (with_reducible apply KOt.mk; kernel_rfl) | exact trivial | rfl | omega | ((try intro _); first | apply R64 <;> omega | apply room_of <;> omega) | skip)
    (try dsimp only [thenK, blockK, noGotoK])
    refine ⟨trivial, ?_⟩
    (refine Sub.of ([]) ([]) ?_ ?_ ?_ rfl rfl <;> simp only [subB, subB1, subT, subT1, newT, subE, subV, subL, go_sem] <;> (try (repeat' with_reducible apply And.intro)) <;> (try first | exact DEq.refl _ | refine DEq.int ?_ | refine DEq.bool ?_ | omega))
    refine DEq.str ?_
    rw [hsn]
  · intro _
    refine Ok.seq ?_; (((first | refine Ok.seqF rfl rfl ?_ | refine Ok.seqT rfl rfl ?_ | refine Ok.regF rfl rfl ?_ | refine Ok.regT rfl rfl ?_); simp only [go_sem]; (repeat' with_reducible apply And.intro); all_goals first | (with_reducible first | refine OkW.mk ?_ | refine EndW.mk ?_ | apply AskI.id | apply AskGI.id) | (with_reducible apply KOt.mk; kernel_rfl) | exact trivial | rfl | omega | ((try intro _); first | apply R64 <;> omega | apply room_of <;> omega) | skip)); refine Ok.cond rfl (fun hb => by simp at hb) (fun _ => ?_); (refine Ok.exit ?_; simp only [thenK_exit, blockK_exit, noGotoK_exit, thenK_normal, blockK_normal, noGotoK_normal, ↓reduceIte, Nat.reduceEqDiff])
    ((first | refine Ok.seqF rfl rfl ?_ | refine Ok.seqT rfl rfl ?_ | refine Ok.regF rfl rfl ?_ | refine Ok.regT rfl rfl ?_); simp only [go_sem]; (repeat' with_reducible apply And.intro); all_goals first | (with_reducible first | refine OkW.mk ?_ | refine EndW.mk ?_ | apply AskI.id | apply AskGI.id) | (with_reducible apply KOt.mk; kernel_rfl) | exact trivial | rfl | omega | ((try intro _); first | apply R64 <;> omega | apply room_of <;> omega) | skip)
    (refine Ok.ret ?_; (try dsimp only [thenK, blockK, noGotoK]); simp only [toList_mk, List.toList_toArray, retK_ret, retK_normal, resOK, resV, celV, rowV, frzAll, frzT, subV, subL, go_sem])
    refine DEq.str ?_
    rw [List.take_length]
end Go.Proofs.Sight
namespace Go.Proofs.Sight
open Go Go.RX Go.Proofs
set_option maxRecDepth 10000
def rowSum (i : Nat) : Nat → List UInt8 → Nat
  | _, [] => 0
  | k, b :: r => b.toNat * (k + 1) * (i + 1) + rowSum i (k + 1) r
def rowsSum : Nat → List (List UInt8) → Nat
  | _, [] => 0
  | i, r :: l => rowSum i 0 r + rowsSum (i + 1) l
theorem rowSum_snoc (i : Nat) (b : UInt8) : ∀ (r : List UInt8) (k : Nat), rowSum i k (r ++ [b]) = rowSum i k r + b.toNat * (k + r.length + 1) * (i + 1)
  | [], k => by simp [rowSum]
  | c :: r, k => by
    have ih := rowSum_snoc i b r (k + 1)
    simp only [List.cons_append, rowSum, ih, List.length_cons]
    have : k + 1 + r.length + 1 = k + (r.length + 1) + 1 := by omega
    rw [this]; omega
theorem rowsSum_snoc (r : List UInt8) : ∀ (l : List (List UInt8)) (i : Nat), rowsSum i (l ++ [r]) = rowsSum i l + rowSum (i + l.length) 0 r
  | [], i => by simp [rowsSum]
  | c :: l, i => by
    have ih := rowsSum_snoc r l (i + 1)
    simp only [List.cons_append, rowsSum, ih, List.length_cons]
    have : i + 1 + l.length = i + (l.length + 1) := by omega
    rw [this]; omega
theorem rowSum_le (i : Nat) (hi : i < 1000) : ∀ (r : List UInt8) (k : Nat), k + r.length ≤ 1000 → rowSum i k r ≤ 255000000 * r.length
  | [], k, _ => by simp [rowSum]
  | c :: r, k, h => by
    simp only [List.length_cons] at h ⊢
    have ih := rowSum_le i hi r (k + 1) (by omega)
    have hc : c.toNat ≤ 255 := by have := c.toNat_lt; omega
    have h1 : c.toNat * (k + 1) ≤ 255 * 1000 := Nat.mul_le_mul hc (by omega)
    have h2 : c.toNat * (k + 1) * (i + 1) ≤ 255 * 1000 * 1000 := Nat.mul_le_mul h1 (by omega)
    simp only [rowSum]; omega
theorem rowsSum_le : ∀ (l : List (List UInt8)) (i : Nat), i + l.length ≤ 1000 → (∀ r ∈ l, r.length ≤ 1000) → rowsSum i l ≤ 255000000000 * l.length
  | [], i, _, _ => by simp [rowsSum]
  | r :: l, i, h, hr => by
    simp only [List.length_cons] at h ⊢
    have ih := rowsSum_le l (i + 1) (by omega) (fun x hx => hr x (List.mem_cons_of_mem _ hx))
    have h1 := hr r (List.mem_cons_self ..)
    have h2 := rowSum_le i (by omega) r 0 (by omega)
    simp only [rowsSum]; omega
def flatL (l : List (List UInt8)) : List UInt8 := l.flatMap (· ++ [10])
theorem flatL_snoc (l : List (List UInt8)) (r : List UInt8) : flatL (l ++ [r]) = flatL l ++ r ++ [10] := by simp [flatL]
theorem flatL_len : ∀ (l : List (List UInt8)), (∀ r ∈ l, r.length ≤ 1000) → (flatL l).length ≤ 1001 * l.length
  | [], _ => by simp [flatL]
  | r :: l, h => by
    have ih := flatL_len l (fun x hx => h x (List.mem_cons_of_mem _ hx))
    have h1 := h r (List.mem_cons_self ..)
    simp only [flatL, List.flatMap_cons, List.length_append, List.length_cons, List.length_nil] at ih ⊢
    omega
def endL (c : Nat) : List UInt8 := [101, 110, 100, 32] ++ Lib.decDigits (c / 100) ++ Lib.decDigits (c / 10 % 10) ++ Lib.decDigits (c % 10)
def sealedL (l : List (List UInt8)) : List UInt8 := flatL l ++ endL (rowsSum 0 l % 179) ++ [10]
theorem getD0 (l : List UInt8) (i : Nat) : l.getD i 0 = l.getD i default := rfl
theorem tdivC (n : Nat) : (n : Int).tdiv 100 = ((n / 100 : Nat) : Int) := by rw [Int.tdiv_eq_ediv_of_nonneg (by omega)]; simp
theorem c108 (l : List (List UInt8)) (hl : l.length ≤ 1000) (hr : ∀ r ∈ l, r.length ≤ 1000) : Ctr Tryz.prog 108 [.d (strsD l), iS 179] (.d (.str (sealedL l))) := by
  (refine Ctr.mk (fn := Tryz.f108) rfl rfl rfl rfl rfl Tryz.results108 ?_; dsimp only [args, List.toList_toArray])
  ((first | refine Ok.seqF rfl rfl ?_ | refine Ok.seqT rfl rfl ?_ | refine Ok.regF rfl rfl ?_ | refine Ok.regT rfl rfl ?_); simp only [go_sem]; (repeat' with_reducible apply And.intro); all_goals first | (with_reducible first | refine OkW.mk ?_ | refine EndW.mk ?_ | apply AskI.id | apply AskGI.id) | (with_reducible apply KOt.mk; kernel_rfl) | exact trivial | rfl | omega | ((try intro _); first | apply R64 <;> omega | apply room_of <;> omega) | skip)
  ((first | refine Ok.seqF rfl rfl ?_ | refine Ok.seqT rfl rfl ?_ | refine Ok.regF rfl rfl ?_ | refine Ok.regT rfl rfl ?_); simp only [go_sem]; (repeat' with_reducible apply And.intro); all_goals first | (with_reducible first | refine OkW.mk ?_ | refine EndW.mk ?_ | apply AskI.id | apply AskGI.id) | (with_reducible apply KOt.mk; kernel_rfl) | exact trivial | rfl | omega | ((try intro _); first | apply R64 <;> omega | apply room_of <;> omega) | skip)
  refine Ok.seq ?_
  ((first | refine Ok.seqF rfl rfl ?_ | refine Ok.seqT rfl rfl ?_ | refine Ok.regF rfl rfl ?_ | refine Ok.regT rfl rfl ?_); simp only [go_sem]; (repeat' with_reducible apply And.intro); all_goals first | (with_reducible first | refine OkW.mk ?_ | refine EndW.mk ?_ | apply AskI.id | apply AskGI.id) | (with_reducible apply KOt.mk; kernel_rfl) | exact trivial | rfl | omega | ((try intro _); first | apply R64 <;> omega | apply room_of <;> omega) | skip)
  refine Ok.block ?_
  refine Ok.count l.length (fun i => ⟨[(0, .d (strsD l)), (1, iS 179), (5, .d (.str (flatL (l.take i)))), (6, iS (rowsSum 0 (l.take i) : Nat)), (7, iS i)], [], []⟩) (fun _ => True) ⟨trivial, ?_⟩ ?_ ?_
  · (refine Sub.of ([]) ([]) ?_ ?_ ?_ rfl rfl <;> simp only [subB, subB1, subT, subT1, newT, subE, subV, subL, go_sem] <;> (try (repeat' with_reducible apply And.intro)) <;> (try first | exact DEq.refl _ | refine DEq.int ?_ | refine DEq.bool ?_ | omega))
  · intro i hi _
    have hlen := hr _ (getD_mem hi)
    have hti : (l.take i).length = i := by simp; omega
    have hs1 := rowsSum_le (l.take i) 0 (by omega) (fun x hx => hr x (List.mem_of_mem_take hx))
    have hfl := flatL_len (l.take i) (fun x hx => hr x (List.mem_of_mem_take hx))
    have hsn : rowsSum 0 (l.take (i + 1)) = rowsSum 0 (l.take i) + rowSum i 0 (l.getD i default) := by
      rw [getD_take hi, rowsSum_snoc, hti, Nat.zero_add]
    have hfn : flatL (l.take (i + 1)) = flatL (l.take i) ++ l.getD i default ++ [10] := by
      rw [getD_take hi, flatL_snoc]
    refine Ok.seq ?_; (((first | refine Ok.seqF rfl rfl ?_ | refine Ok.seqT rfl rfl ?_ | refine Ok.regF rfl rfl ?_ | refine Ok.regT rfl rfl ?_); simp only [go_sem]; (repeat' with_reducible apply And.intro); all_goals first | (with_reducible first | refine OkW.mk ?_ | refine EndW.mk ?_ | apply AskI.id | apply AskGI.id) | (with_reducible apply KOt.mk; kernel_rfl) | exact trivial | rfl | omega | ((try intro _); first | apply R64 <;> omega | apply room_of <;> omega) | skip)); refine Ok.cond rfl (fun _ => ?_) (fun hb => by simp at hb; omega); (refine Ok.skip ?_; (try dsimp only [thenK, blockK, noGotoK])); refine Ok.seq ?_; refine Ok.block ?_
    refine Ok.seq ?_
    ((first | refine Ok.seqF rfl rfl ?_ | refine Ok.seqT rfl rfl ?_ | refine Ok.regF rfl rfl ?_ | refine Ok.regT rfl rfl ?_); simp only [go_sem]; (repeat' with_reducible apply And.intro); all_goals first | (with_reducible first | refine OkW.mk ?_ | refine EndW.mk ?_ | apply AskI.id | apply AskGI.id) | (with_reducible apply KOt.mk; kernel_rfl) | exact trivial | rfl | omega | ((try intro _); first | apply R64 <;> omega | apply room_of <;> omega) | skip)
    refine Ok.block ?_
    refine Ok.count (l.getD i default).length (fun k => ⟨[(0, .d (strsD l)), (1, iS 179), (5, .d (.str (flatL (l.take i)))), (6, iS ((rowsSum 0 (l.take i) : Nat) + (rowSum i 0 ((l.getD i default).take k) : Nat))), (7, iS i), (8, iS k)], [], []⟩) (fun _ => True) ⟨trivial, ?_⟩ ?_ ?_
    · (refine Sub.of ([]) ([]) ?_ ?_ ?_ rfl rfl <;> simp only [subB, subB1, subT, subT1, newT, subE, subV, subL, go_sem] <;> (try (repeat' with_reducible apply And.intro)) <;> (try first | exact DEq.refl _ | refine DEq.int ?_ | refine DEq.bool ?_ | omega))
    · intro k hk _
      have htk : ((l.getD i default).take k).length = k := by rw [List.length_take]; omega
      have hs2 := rowSum_le i (by omega) ((l.getD i default).take k) 0 (by omega)
      have hrn : rowSum i 0 ((l.getD i default).take (k + 1)) = rowSum i 0 ((l.getD i default).take k) + ((l.getD i default).getD k 0).toNat * (k + 1) * (i + 1) := by
        rw [getD_take hk, rowSum_snoc, htk, Nat.zero_add, getD0]
      have hb : ((l.getD i default).getD k 0).toNat ≤ 255 := by have := ((l.getD i default).getD k 0).toNat_lt; omega
      have hk2 : (l[i]?.getD default).length = (l.getD i default).length := by rw [List.getD_eq_getElem?_getD]
      generalize hbb : ((l.getD i default).getD k 0).toNat = b at hrn hb
      have e1 := mulB (a := (b : Int)) (b := (k : Int) + 1) (A := 255) (B := 1000) (by omega) (by omega) (by omega) (by omega)
      have e2 := mulB (a := (b : Int) * ((k : Int) + 1)) (b := (i : Int) + 1) (A := 255000) (B := 1000) (by omega) (by omega) (by omega) (by omega)
      refine Ok.seq ?_; (((first | refine Ok.seqF rfl rfl ?_ | refine Ok.seqT rfl rfl ?_ | refine Ok.regF rfl rfl ?_ | refine Ok.regT rfl rfl ?_); simp only [go_sem]; (repeat' with_reducible apply And.intro); all_goals first | (with_reducible first | refine OkW.mk ?_ | refine EndW.mk ?_ | apply AskI.id | apply AskGI.id) | (with_reducible apply KOt.mk; kernel_rfl) | exact trivial | rfl | omega | ((try intro _); first | apply R64 <;> omega | apply room_of <;> omega) | skip)); refine Ok.cond rfl (fun _ => ?_) (fun hb => by simp at hb; omega); (refine Ok.skip ?_; (try dsimp only [thenK, blockK, noGotoK])); refine Ok.seq ?_; refine Ok.block ?_
      ((first | refine Ok.seqF rfl rfl ?_ | refine Ok.seqT rfl rfl ?_ | refine Ok.regF rfl rfl ?_ | refine Ok.regT rfl rfl ?_); simp only [go_sem]; (repeat' with_reducible apply And.intro); all_goals first | (with_reducible first | refine OkW.mk ?_ | refine EndW.mk ?_ | apply AskI.id | apply AskGI.id) | (with_reducible apply KOt.mk; kernel_rfl) | exact trivial | rfl | omega | ((try intro _); first | apply R64 <;> omega | apply room_of <;> omega) | skip)
      · rw [hbb]; exact R64 (by omega) (by omega)
      · rw [hbb]; exact R64 (by omega) (by omega)
      · rw [hbb]; exact R64 (by omega) (by omega)
      (try dsimp only [thenK, blockK, noGotoK])
      ((first | refine Ok.seqF rfl rfl ?_ | refine Ok.seqT rfl rfl ?_ | refine Ok.regF rfl rfl ?_ | refine Ok.regT rfl rfl ?_); simp only [go_sem]; (repeat' with_reducible apply And.intro); all_goals first | (with_reducible first | refine OkW.mk ?_ | refine EndW.mk ?_ | apply AskI.id | apply AskGI.id) | (with_reducible apply KOt.mk; kernel_rfl) | exact trivial | rfl | omega | ((try intro _); first | apply R64 <;> omega | apply room_of <;> omega) | skip)
      (try dsimp only [thenK, blockK, noGotoK])
      refine ⟨trivial, ?_⟩
      (refine Sub.of ([]) ([]) ?_ ?_ ?_ rfl rfl <;> simp only [subB, subB1, subT, subT1, newT, subE, subV, subL, go_sem] <;> (try (repeat' with_reducible apply And.intro)) <;> (try first | exact DEq.refl _ | refine DEq.int ?_ | refine DEq.bool ?_ | omega))
      rw [hrn, hbb]
      push_cast
      omega
    · intro _
      refine Ok.seq ?_; (((first | refine Ok.seqF rfl rfl ?_ | refine Ok.seqT rfl rfl ?_ | refine Ok.regF rfl rfl ?_ | refine Ok.regT rfl rfl ?_); simp only [go_sem]; (repeat' with_reducible apply And.intro); all_goals first | (with_reducible first | refine OkW.mk ?_ | refine EndW.mk ?_ | apply AskI.id | apply AskGI.id) | (with_reducible apply KOt.mk; kernel_rfl) | exact trivial | rfl | omega | ((try intro _); first | apply R64 <;> omega | apply room_of <;> omega) | skip)); refine Ok.cond rfl (fun hb => by simp at hb) (fun _ => ?_); (refine Ok.exit ?_; simp only [thenK_exit, blockK_exit, noGotoK_exit, thenK_normal, blockK_normal, noGotoK_normal, ↓reduceIte, Nat.reduceEqDiff])
      ((first | refine Ok.seqF rfl rfl ?_ | refine Ok.seqT rfl rfl ?_ | refine Ok.regF rfl rfl ?_ | refine Ok.regT rfl rfl ?_); simp only [go_sem]; (repeat' with_reducible apply And.intro); all_goals first | (with_reducible first | refine OkW.mk ?_ | refine EndW.mk ?_ | apply AskI.id | apply AskGI.id) | (with_reducible apply KOt.mk; kernel_rfl) | exact trivial | rfl | omega | ((try intro _); first | apply R64 <;> omega | apply room_of <;> omega) | skip)
      · simp only [strRoom]; omega
      · simp only [strRoom, List.length_append, List.length_cons, List.length_nil]; omega
      (try dsimp only [thenK, blockK, noGotoK])
      ((first | refine Ok.seqF rfl rfl ?_ | refine Ok.seqT rfl rfl ?_ | refine Ok.regF rfl rfl ?_ | refine Ok.regT rfl rfl ?_); simp only [go_sem]; (repeat' with_reducible apply And.intro); all_goals first | (with_reducible first | refine OkW.mk ?_ | refine EndW.mk ?_ | apply AskI.id | apply AskGI.id) | (with_reducible apply KOt.mk; kernel_rfl) | exact trivial | rfl | omega | ((try intro _); first | apply R64 <;> omega | apply room_of <;> omega) | skip)
      (try dsimp only [thenK, blockK, noGotoK])
      refine ⟨trivial, ?_⟩
      (refine Sub.of ([]) ([]) ?_ ?_ ?_ rfl rfl <;> simp only [subB, subB1, subT, subT1, newT, subE, subV, subL, go_sem] <;> (try (repeat' with_reducible apply And.intro)) <;> (try first | exact DEq.refl _ | refine DEq.int ?_ | refine DEq.bool ?_ | omega))
      · exact DEq.str (by rw [hfn])
      · rw [hsn, List.take_length]
        push_cast
        omega
  · intro _
    have hs1 := rowsSum_le l 0 (by omega) hr
    have hfl := flatL_len l hr
    rw [List.take_length]
    refine Ok.seq ?_; (((first | refine Ok.seqF rfl rfl ?_ | refine Ok.seqT rfl rfl ?_ | refine Ok.regF rfl rfl ?_ | refine Ok.regT rfl rfl ?_); simp only [go_sem]; (repeat' with_reducible apply And.intro); all_goals first | (with_reducible first | refine OkW.mk ?_ | refine EndW.mk ?_ | apply AskI.id | apply AskGI.id) | (with_reducible apply KOt.mk; kernel_rfl) | exact trivial | rfl | omega | ((try intro _); first | apply R64 <;> omega | apply room_of <;> omega) | skip)); refine Ok.cond rfl (fun hb => by simp at hb) (fun _ => ?_); (refine Ok.exit ?_; simp only [thenK_exit, blockK_exit, noGotoK_exit, thenK_normal, blockK_normal, noGotoK_normal, ↓reduceIte, Nat.reduceEqDiff])
    ((first | refine Ok.seqF rfl rfl ?_ | refine Ok.seqT rfl rfl ?_ | refine Ok.regF rfl rfl ?_ | refine Ok.regT rfl rfl ?_); simp only [go_sem]; (repeat' with_reducible apply And.intro); all_goals first | (with_reducible first | refine OkW.mk ?_ | refine EndW.mk ?_ | apply AskI.id | apply AskGI.id) | (with_reducible apply KOt.mk; kernel_rfl) | exact trivial | rfl | omega | ((try intro _); first | apply R64 <;> omega | apply room_of <;> omega) | skip)
    rw [show ((rowsSum 0 l : Nat) : Int).tmod 179 = ((rowsSum 0 l % 179 : Nat) : Int) from by rw [Int.tmod_eq_emod_of_nonneg (by omega)]; simp]
    unfold sealedL
    have hc : rowsSum 0 l % 179 < 179 := Nat.mod_lt _ (by decide)
    generalize rowsSum 0 l % 179 = c at hc
    ((first | refine Ok.seqF rfl rfl ?_ | refine Ok.seqT rfl rfl ?_ | refine Ok.regF rfl rfl ?_ | refine Ok.regT rfl rfl ?_); simp only [go_sem]; (repeat' with_reducible apply And.intro); all_goals first | (with_reducible first | refine OkW.mk ?_ | refine EndW.mk ?_ | apply AskI.id | apply AskGI.id) | (with_reducible apply KOt.mk; kernel_rfl) | exact trivial | rfl | omega | ((try intro _); first | apply R64 <;> omega | apply room_of <;> omega) | skip)
    · simp only [strRoom, List.length_cons, List.length_nil]; omega
    · rw [tdivC]; exact R64 (by omega) (by omega)
    rw [tdivC]
    have l1 := decLen (c / 100) (by omega)
    have l2 := decLen (c / 10 % 10) (by omega)
    have l3 := decLen (c % 10) (by omega)
    (refine AskI.ret (c138 (c / 100) (by omega)) ?_; simp only [go_sem]; (repeat' with_reducible apply And.intro); all_goals first | (with_reducible first | refine OkW.mk ?_ | refine EndW.mk ?_ | apply AskI.id | apply AskGI.id) | (with_reducible apply KOt.mk; kernel_rfl) | exact trivial | rfl | omega | ((try intro _); first | apply R64 <;> omega | apply room_of <;> omega) | skip)
    · simp only [strRoom, List.length_append, List.length_cons, List.length_nil]; omega
    · rw [tdivN]; exact R64 (by omega) (by omega)
    rw [tdivN, tmodN]
    (refine AskI.ret (c138 (c / 10 % 10) (by omega)) ?_; simp only [go_sem]; (repeat' with_reducible apply And.intro); all_goals first | (with_reducible first | refine OkW.mk ?_ | refine EndW.mk ?_ | apply AskI.id | apply AskGI.id) | (with_reducible apply KOt.mk; kernel_rfl) | exact trivial | rfl | omega | ((try intro _); first | apply R64 <;> omega | apply room_of <;> omega) | skip)
    · simp only [strRoom, List.length_append, List.length_cons, List.length_nil]; omega
    rw [tmodN]
    (refine AskI.ret (c138 (c % 10) (by omega)) ?_; simp only [go_sem]; (repeat' with_reducible apply And.intro); all_goals first | (with_reducible first | refine OkW.mk ?_ | refine EndW.mk ?_ | apply AskI.id | apply AskGI.id) | (with_reducible apply KOt.mk; kernel_rfl) | exact trivial | rfl | omega | ((try intro _); first | apply R64 <;> omega | apply room_of <;> omega) | skip)
    · simp only [strRoom, List.length_append, List.length_cons, List.length_nil]; omega
    · simp only [strRoom, List.length_append, List.length_cons, List.length_nil]; omega
    (refine Ok.ret ?_; (try dsimp only [thenK, blockK, noGotoK]); simp only [toList_mk, List.toList_toArray, retK_ret, retK_normal, resOK, resV, celV, rowV, frzAll, frzT, subV, subL, go_sem])
    refine DEq.str ?_
    simp [endL]
end Go.Proofs.Sight
namespace Go.Proofs.Sight
open Go Go.RX Go.Proofs
set_option maxRecDepth 10000
def sightW : List UInt8 := [115, 105, 103, 104, 116]
def boardW : List UInt8 := [98, 111, 97, 114, 100]
def letterW : List UInt8 := [108, 101, 116, 116, 101, 114]
def blockW (sure : Bool) : List UInt8 := [98, 108, 111, 99, 107] ++ (if sure then [32, 115, 117, 114, 101] else [32, 112, 101, 114, 104, 97, 112, 115])
def Street.nums (s : Street) : List Int := [s.len, s.wid, s.el, s.eh, s.ll, s.lh]
def Letter.nums (x : Letter) : List Int := [x.h, x.w, x.s, x.p]
def Block.nums (k : Block) : List Int := [k.al, k.ah, k.cl, k.ch]
def letterRow (x : Letter) : List UInt8 := rowL letterW x.nums
def boardRow (b : Board) : List UInt8 := rowL boardW [b.at_]
def blockRow (k : Block) : List UInt8 := rowL (blockW k.sure) k.nums
def boardRows (b : Board) : List (List UInt8) := boardRow b :: b.ls.map letterRow
def rowsOf (s : Street) : List (List UInt8) := rowL sightW s.nums :: (s.bs.flatMap boardRows ++ s.ks.map blockRow)
structure Street.small (s : Street) : Prop where
  n : ∀ n ∈ s.nums, 0 ≤ n ∧ n < 1000000
  b : ∀ b ∈ s.bs, 0 ≤ b.at_ ∧ b.at_ < 1000000
  l : ∀ b ∈ s.bs, ∀ x ∈ b.ls, ∀ n ∈ x.nums, 0 ≤ n ∧ n < 1000000
  k : ∀ k ∈ s.ks, ∀ n ∈ k.nums, 0 ≤ n ∧ n < 1000000
  nb : s.bs.length ≤ 100
  nl : (s.bs.flatMap boardRows).length ≤ 500
  nk : s.ks.length ≤ 100
theorem take_len_le {α : Type} (l : List α) (i : Nat) : (l.take i).length ≤ l.length := by rw [List.length_take]; omega
theorem flat_take {α β : Type} [Inhabited α] (f : α → List β) {l : List α} {i : Nat} (h : i < l.length) : (l.take (i + 1)).flatMap f = (l.take i).flatMap f ++ f (l.getD i default) := by
  rw [getD_take h, List.flatMap_append]; simp
theorem flat_take_le {α β : Type} (f : α → List β) (l : List α) (i : Nat) : ((l.take i).flatMap f).length ≤ (l.flatMap f).length := by
  have h : l.flatMap f = (l.take i).flatMap f ++ (l.drop i).flatMap f := by rw [← List.flatMap_append, List.take_append_drop]
  rw [h, List.length_append]; omega
theorem c107_6 (w : List UInt8) (hw : w.length ≤ 1000) (a b c d e f : Int) (h : ∀ n ∈ [a, b, c, d, e, f], 0 ≤ n ∧ n < 1000000) :
    Ctr Tryz.prog 107 [.d (.str w), .d (.sl 1 6 (fun i j => dget [iD a, iD b, iD c, iD d, iD e, iD f] (i * 1 + j)))] (.d (.str (rowL w [a, b, c, d, e, f]))) :=
  (c107 w [a, b, c, d, e, f] h hw (by simp)).args ⟨.refl _, ints_D [a, b, c, d, e, f], trivial⟩
theorem c107_4 (w : List UInt8) (hw : w.length ≤ 1000) (a b c d : Int) (h : ∀ n ∈ [a, b, c, d], 0 ≤ n ∧ n < 1000000) :
    Ctr Tryz.prog 107 [.d (.str w), .d (.sl 1 4 (fun i j => dget [iD a, iD b, iD c, iD d] (i * 1 + j)))] (.d (.str (rowL w [a, b, c, d]))) :=
  (c107 w [a, b, c, d] h hw (by simp)).args ⟨.refl _, ints_D [a, b, c, d], trivial⟩
theorem c107_1 (w : List UInt8) (hw : w.length ≤ 1000) (a : Int) (h : ∀ n ∈ [a], 0 ≤ n ∧ n < 1000000) :
    Ctr Tryz.prog 107 [.d (.str w), .d (.sl 1 1 (fun i j => dget [iD a] (i * 1 + j)))] (.d (.str (rowL w [a]))) :=
  (c107 w [a] h hw (by simp)).args ⟨.refl _, ints_D [a], trivial⟩
def rowsB (s : Street) (i : Nat) : List (List UInt8) := rowL sightW s.nums :: (s.bs.take i).flatMap boardRows
theorem rowsB_len (s : Street) (i : Nat) (h : s.small) : (rowsB s i).length ≤ 501 := by
  have := flat_take_le boardRows s.bs i
  have := h.nl
  simp only [rowsB, List.length_cons]; omega
theorem rowsB_succ (s : Street) {i : Nat} (h : i < s.bs.length) : rowsB s (i + 1) = rowsB s i ++ boardRows (s.bs.getD i default) := by
  simp only [rowsB, flat_take boardRows h, List.cons_append]
def rowsL (s : Street) (i j : Nat) : List (List UInt8) := rowsB s i ++ boardRow (s.bs.getD i default) :: ((s.bs.getD i default).ls.take j).map letterRow
theorem rowsL_zero (s : Street) (i : Nat) : rowsL s i 0 = rowsB s i ++ [boardRow (s.bs.getD i default)] := by simp [rowsL]
theorem rowsL_succ (s : Street) (i : Nat) {j : Nat} (h : j < (s.bs.getD i default).ls.length) : rowsL s i (j + 1) = rowsL s i j ++ [letterRow ((s.bs.getD i default).ls.getD j default)] := by
  simp only [rowsL, map_snoc letterRow h, List.append_assoc, List.cons_append]
theorem rowsL_all (s : Street) {i : Nat} (h : i < s.bs.length) : rowsL s i (s.bs.getD i default).ls.length = rowsB s (i + 1) := by
  rw [rowsB_succ s h, rowsL, List.take_length]; rfl
theorem rowsL_len (s : Street) {i j : Nat} (h : i < s.bs.length) (hs : s.small) : (rowsL s i j).length ≤ 501 := by
  have h1 := rowsB_len s (i + 1) hs
  rw [rowsB_succ s h] at h1
  have := take_len_le (s.bs.getD i default).ls j
  simp only [rowsL, boardRows, List.length_append, List.length_cons, List.length_map] at h1 ⊢
  omega
def rowsK (s : Street) (i : Nat) : List (List UInt8) := rowsB s s.bs.length ++ (s.ks.take i).map blockRow
theorem rowsK_len (s : Street) (i : Nat) (hs : s.small) : (rowsK s i).length ≤ 601 := by
  have h1 := rowsB_len s s.bs.length hs
  have := take_len_le s.ks i
  have := hs.nk
  simp only [rowsK, List.length_append, List.length_map]; omega
theorem rowsK_zero (s : Street) : rowsK s 0 = rowsB s s.bs.length := by simp [rowsK]
theorem rowsK_succ (s : Street) {i : Nat} (h : i < s.ks.length) : rowsK s (i + 1) = rowsK s i ++ [blockRow (s.ks.getD i default)] := by
  simp only [rowsK, map_snoc blockRow h, List.append_assoc]
theorem rowsK_all (s : Street) : rowsK s s.ks.length = rowsOf s := by simp [rowsK, rowsB, rowsOf]
theorem nums_len (ns : List Int) (h : ∀ n ∈ ns, 0 ≤ n ∧ n < 1000000) (w : List UInt8) (hw : w.length ≤ 20) (hn : ns.length ≤ 6) : (rowL w ns).length ≤ 1000 := by
  have := rowL_len w ns h
  omega
theorem rows_short (s : Street) (hs : s.small) : ∀ r ∈ rowsOf s, r.length ≤ 1000 := by
  intro r hr
  simp only [rowsOf, List.mem_cons, List.mem_append, List.mem_flatMap, List.mem_map, boardRows] at hr
  rcases hr with rfl | ⟨b, hb, rfl | ⟨x, hx, rfl⟩⟩ | ⟨k, hk, rfl⟩
  · exact nums_len _ hs.n _ (by decide) (Nat.le_refl 6)
  · exact nums_len _ (fun n hn => by simp at hn; subst hn; exact hs.b b hb) _ (by decide) (by simp)
  · exact nums_len _ (hs.l b hb x hx) _ (by decide) (Nat.le_succ_of_le (Nat.le_succ_of_le (Nat.le_refl 4)))
  · exact nums_len _ (hs.k k hk) _ (by unfold blockW; cases k.sure <;> decide) (Nat.le_succ_of_le (Nat.le_succ_of_le (Nat.le_refl 4)))
theorem str_snoc (x : List UInt8) : ∀ c, c < 1 → dget [DV.str x] c = strD x c := fun c hc => by
  have : c = 0 := by omega
  subst this; rfl
theorem c65 (s : Street) (hs : s.small) : Ctr Tryz.prog 65 [s.sv] (.d (.str (sealedL (rowsOf s)))) := by
  have hnb := hs.nb
  have hnk := hs.nk
  (refine Ctr.mk (fn := Tryz.f65) rfl rfl rfl rfl rfl Tryz.results65 ?_; dsimp only [args, List.toList_toArray])
  ((first | refine Ok.seqF rfl rfl ?_ | refine Ok.seqT rfl rfl ?_ | refine Ok.regF rfl rfl ?_ | refine Ok.regT rfl rfl ?_); simp only [go_sem]; (repeat' with_reducible apply And.intro); all_goals first | (with_reducible first | refine OkW.mk ?_ | refine EndW.mk ?_ | apply AskI.id | apply AskGI.id) | (with_reducible apply KOt.mk; kernel_rfl) | exact trivial | rfl | omega | ((try intro _); first | apply R64 <;> omega | apply room_of <;> omega) | skip)
  ((first | refine Ok.seqF rfl rfl ?_ | refine Ok.seqT rfl rfl ?_ | refine Ok.regF rfl rfl ?_ | refine Ok.regT rfl rfl ?_); simp only [go_sem]; (repeat' with_reducible apply And.intro); all_goals first | (with_reducible first | refine OkW.mk ?_ | refine EndW.mk ?_ | apply AskI.id | apply AskGI.id) | (with_reducible apply KOt.mk; kernel_rfl) | exact trivial | rfl | omega | ((try intro _); first | apply R64 <;> omega | apply room_of <;> omega) | skip)
  (refine AskI.ret (c107_6 sightW (by decide) _ _ _ _ _ _ hs.n) ?_; simp only [go_sem]; (repeat' with_reducible apply And.intro); all_goals first | (with_reducible first | refine OkW.mk ?_ | refine EndW.mk ?_ | apply AskI.id | apply AskGI.id) | (with_reducible apply KOt.mk; kernel_rfl) | exact trivial | rfl | omega | ((try intro _); first | apply R64 <;> omega | apply room_of <;> omega) | skip)
  refine Ok.seq ?_
  ((first | refine Ok.seqF rfl rfl ?_ | refine Ok.seqT rfl rfl ?_ | refine Ok.regF rfl rfl ?_ | refine Ok.regT rfl rfl ?_); simp only [go_sem]; (repeat' with_reducible apply And.intro); all_goals first | (with_reducible first | refine OkW.mk ?_ | refine EndW.mk ?_ | apply AskI.id | apply AskGI.id) | (with_reducible apply KOt.mk; kernel_rfl) | exact trivial | rfl | omega | ((try intro _); first | apply R64 <;> omega | apply room_of <;> omega) | skip)
  refine Ok.block ?_
  refine Ok.count s.bs.length (fun i => ⟨[(1, .p 0 0), (3, .tk 0), (4, iS i)], [streetB s], [ownD 9 1 strD (rowsB s i)]⟩) (fun _ => True) ⟨trivial, ?_⟩ ?_ ?_
  · (refine Sub.of ([0]) ([some 0]) ?_ ?_ ?_ rfl rfl <;> simp only [subB, subB1, subT, subT1, newT, subE, subV, subL, go_sem] <;> (try (repeat' with_reducible apply And.intro)) <;> (try first | exact DEq.refl _ | refine DEq.int ?_ | refine DEq.bool ?_ | omega))
    · rfl
    · intro i j hi hj
      have h1 : i = 0 := by omega
      have h2 : j = 0 := by omega
      subst h1; subst h2
      exact .refl _
  · intro i hi _
    have hl := rowsB_len s i hs
    have hb := hs.b _ (getD_mem hi)
    have hnl : (s.bs.getD i default).ls.length ≤ 501 := by
      have := rowsL_len s (j := (s.bs.getD i default).ls.length) hi hs
      simp only [rowsL, List.length_append, List.length_cons, List.length_map, List.take_length] at this
      omega
    refine Ok.seq ?_; (((first | refine Ok.seqF rfl rfl ?_ | refine Ok.seqT rfl rfl ?_ | refine Ok.regF rfl rfl ?_ | refine Ok.regT rfl rfl ?_); simp only [go_sem]; (repeat' with_reducible apply And.intro); all_goals first | (with_reducible first | refine OkW.mk ?_ | refine EndW.mk ?_ | apply AskI.id | apply AskGI.id) | (with_reducible apply KOt.mk; kernel_rfl) | exact trivial | rfl | omega | ((try intro _); first | apply R64 <;> omega | apply room_of <;> omega) | skip)); refine Ok.cond rfl (fun _ => ?_) (fun hb => by simp at hb; omega); (refine Ok.skip ?_; (try dsimp only [thenK, blockK, noGotoK])); refine Ok.seq ?_; refine Ok.block ?_
    ((first | refine Ok.seqF rfl rfl ?_ | refine Ok.seqT rfl rfl ?_ | refine Ok.regF rfl rfl ?_ | refine Ok.regT rfl rfl ?_); simp only [go_sem]; (repeat' with_reducible apply And.intro); all_goals first | (with_reducible first | refine OkW.mk ?_ | refine EndW.mk ?_ | apply AskI.id | apply AskGI.id) | (with_reducible apply KOt.mk; kernel_rfl) | exact trivial | rfl | omega | ((try intro _); first | apply R64 <;> omega | apply room_of <;> omega) | skip)
    ((first | refine Ok.seqF rfl rfl ?_ | refine Ok.seqT rfl rfl ?_ | refine Ok.regF rfl rfl ?_ | refine Ok.regT rfl rfl ?_); simp only [go_sem]; (repeat' with_reducible apply And.intro); all_goals first | (with_reducible first | refine OkW.mk ?_ | refine EndW.mk ?_ | apply AskI.id | apply AskGI.id) | (with_reducible apply KOt.mk; kernel_rfl) | exact trivial | rfl | omega | ((try intro _); first | apply R64 <;> omega | apply room_of <;> omega) | skip)
    (refine AskI.ret (c107_1 boardW (by decide) _ (fun n hn => by simp at hn; subst hn; exact hb)) ?_; simp only [go_sem]; (repeat' with_reducible apply And.intro); all_goals first | (with_reducible first | refine OkW.mk ?_ | refine EndW.mk ?_ | apply AskI.id | apply AskGI.id) | (with_reducible apply KOt.mk; kernel_rfl) | exact trivial | rfl | omega | ((try intro _); first | apply R64 <;> omega | apply room_of <;> omega) | skip)
    refine Ok.seq ?_
    ((first | refine Ok.seqF rfl rfl ?_ | refine Ok.seqT rfl rfl ?_ | refine Ok.regF rfl rfl ?_ | refine Ok.regT rfl rfl ?_); simp only [go_sem]; (repeat' with_reducible apply And.intro); all_goals first | (with_reducible first | refine OkW.mk ?_ | refine EndW.mk ?_ | apply AskI.id | apply AskGI.id) | (with_reducible apply KOt.mk; kernel_rfl) | exact trivial | rfl | omega | ((try intro _); first | apply R64 <;> omega | apply room_of <;> omega) | skip)
    refine Ok.block ?_
    refine Ok.count (s.bs.getD i default).ls.length (fun j => ⟨[(1, .p 0 0), (3, .tk 0), (4, iS i), (5, .p 1 0), (6, iS j)], [streetB s, boardB (s.bs.getD i default)], [ownD 9 1 strD (rowsL s i j)]⟩) (fun _ => True) ⟨trivial, ?_⟩ ?_ ?_
    · (refine Sub.of ([0, 1]) ([some 2]) ?_ ?_ ?_ rfl rfl <;> simp only [subB, subB1, subT, subT1, newT, subE, subV, subL, go_sem] <;> (try (repeat' with_reducible apply And.intro)) <;> (try first | exact DEq.refl _ | refine DEq.int ?_ | refine DEq.bool ?_ | omega))
      · rw [rowsL_zero]; simp
      · rw [rowsL_zero]
        exact snoc_D (str_snoc _)
    · intro j hj _
      have hl2 := rowsL_len s (j := j) hi hs
      have hx := hs.l _ (getD_mem hi) _ (getD_mem hj)
      have hk2 : (s.bs[i]?.getD default).ls.length = (s.bs.getD i default).ls.length := by rw [List.getD_eq_getElem?_getD]
      refine Ok.seq ?_; (((first | refine Ok.seqF rfl rfl ?_ | refine Ok.seqT rfl rfl ?_ | refine Ok.regF rfl rfl ?_ | refine Ok.regT rfl rfl ?_); simp only [go_sem]; (repeat' with_reducible apply And.intro); all_goals first | (with_reducible first | refine OkW.mk ?_ | refine EndW.mk ?_ | apply AskI.id | apply AskGI.id) | (with_reducible apply KOt.mk; kernel_rfl) | exact trivial | rfl | omega | ((try intro _); first | apply R64 <;> omega | apply room_of <;> omega) | skip)); refine Ok.cond rfl (fun _ => ?_) (fun hb => by simp at hb; omega); (refine Ok.skip ?_; (try dsimp only [thenK, blockK, noGotoK])); refine Ok.seq ?_; refine Ok.block ?_
      ((first | refine Ok.seqF rfl rfl ?_ | refine Ok.seqT rfl rfl ?_ | refine Ok.regF rfl rfl ?_ | refine Ok.regT rfl rfl ?_); simp only [go_sem]; (repeat' with_reducible apply And.intro); all_goals first | (with_reducible first | refine OkW.mk ?_ | refine EndW.mk ?_ | apply AskI.id | apply AskGI.id) | (with_reducible apply KOt.mk; kernel_rfl) | exact trivial | rfl | omega | ((try intro _); first | apply R64 <;> omega | apply room_of <;> omega) | skip)
      ((first | refine Ok.seqF rfl rfl ?_ | refine Ok.seqT rfl rfl ?_ | refine Ok.regF rfl rfl ?_ | refine Ok.regT rfl rfl ?_); simp only [go_sem]; (repeat' with_reducible apply And.intro); all_goals first | (with_reducible first | refine OkW.mk ?_ | refine EndW.mk ?_ | apply AskI.id | apply AskGI.id) | (with_reducible apply KOt.mk; kernel_rfl) | exact trivial | rfl | omega | ((try intro _); first | apply R64 <;> omega | apply room_of <;> omega) | skip)
      (refine AskI.ret (c107_4 letterW (by decide) _ _ _ _ hx) ?_; simp only [go_sem]; (repeat' with_reducible apply And.intro); all_goals first | (with_reducible first | refine OkW.mk ?_ | refine EndW.mk ?_ | apply AskI.id | apply AskGI.id) | (with_reducible apply KOt.mk; kernel_rfl) | exact trivial | rfl | omega | ((try intro _); first | apply R64 <;> omega | apply room_of <;> omega) | skip)
      (try dsimp only [thenK, blockK, noGotoK])
      ((first | refine Ok.seqF rfl rfl ?_ | refine Ok.seqT rfl rfl ?_ | refine Ok.regF rfl rfl ?_ | refine Ok.regT rfl rfl ?_); simp only [go_sem]; (repeat' with_reducible apply And.intro); all_goals first | (with_reducible first | refine OkW.mk ?_ | refine EndW.mk ?_ | apply AskI.id | apply AskGI.id) | (with_reducible apply KOt.mk; kernel_rfl) | exact trivial | rfl | omega | ((try intro _); first | apply R64 <;> omega | apply room_of <;> omega) | skip)
      (try dsimp only [thenK, blockK, noGotoK])
      refine ⟨trivial, ?_⟩
      (refine Sub.of ([0, 1]) ([some 2]) ?_ ?_ ?_ rfl rfl <;> simp only [subB, subB1, subT, subT1, newT, subE, subV, subL, go_sem] <;> (try (repeat' with_reducible apply And.intro)) <;> (try first | exact DEq.refl _ | refine DEq.int ?_ | refine DEq.bool ?_ | omega))
      · rw [rowsL_succ s i hj]; simp
      · rw [rowsL_succ s i hj]
        exact snoc_D (str_snoc _)
    · intro _
      refine Ok.seq ?_; (((first | refine Ok.seqF rfl rfl ?_ | refine Ok.seqT rfl rfl ?_ | refine Ok.regF rfl rfl ?_ | refine Ok.regT rfl rfl ?_); simp only [go_sem]; (repeat' with_reducible apply And.intro); all_goals first | (with_reducible first | refine OkW.mk ?_ | refine EndW.mk ?_ | apply AskI.id | apply AskGI.id) | (with_reducible apply KOt.mk; kernel_rfl) | exact trivial | rfl | omega | ((try intro _); first | apply R64 <;> omega | apply room_of <;> omega) | skip)); refine Ok.cond rfl (fun hb => by simp at hb) (fun _ => ?_); (refine Ok.exit ?_; simp only [thenK_exit, blockK_exit, noGotoK_exit, thenK_normal, blockK_normal, noGotoK_normal, ↓reduceIte, Nat.reduceEqDiff])
      (try dsimp only [thenK, blockK, noGotoK])
      ((first | refine Ok.seqF rfl rfl ?_ | refine Ok.seqT rfl rfl ?_ | refine Ok.regF rfl rfl ?_ | refine Ok.regT rfl rfl ?_); simp only [go_sem]; (repeat' with_reducible apply And.intro); all_goals first | (with_reducible first | refine OkW.mk ?_ | refine EndW.mk ?_ | apply AskI.id | apply AskGI.id) | (with_reducible apply KOt.mk; kernel_rfl) | exact trivial | rfl | omega | ((try intro _); first | apply R64 <;> omega | apply room_of <;> omega) | skip)
      (try dsimp only [thenK, blockK, noGotoK])
      refine ⟨trivial, ?_⟩
      rw [rowsL_all s hi]
      (refine Sub.of ([0]) ([some 0]) ?_ ?_ ?_ rfl rfl <;> simp only [subB, subB1, subT, subT1, newT, subE, subV, subL, go_sem] <;> (try (repeat' with_reducible apply And.intro)) <;> (try first | exact DEq.refl _ | refine DEq.int ?_ | refine DEq.bool ?_ | omega))
      exact fun _ _ _ _ => DEq.refl _
  · intro _
    refine Ok.seq ?_; (((first | refine Ok.seqF rfl rfl ?_ | refine Ok.seqT rfl rfl ?_ | refine Ok.regF rfl rfl ?_ | refine Ok.regT rfl rfl ?_); simp only [go_sem]; (repeat' with_reducible apply And.intro); all_goals first | (with_reducible first | refine OkW.mk ?_ | refine EndW.mk ?_ | apply AskI.id | apply AskGI.id) | (with_reducible apply KOt.mk; kernel_rfl) | exact trivial | rfl | omega | ((try intro _); first | apply R64 <;> omega | apply room_of <;> omega) | skip)); refine Ok.cond rfl (fun hb => by simp at hb) (fun _ => ?_); (refine Ok.exit ?_; simp only [thenK_exit, blockK_exit, noGotoK_exit, thenK_normal, blockK_normal, noGotoK_normal, ↓reduceIte, Nat.reduceEqDiff])
    refine Ok.seq ?_
    ((first | refine Ok.seqF rfl rfl ?_ | refine Ok.seqT rfl rfl ?_ | refine Ok.regF rfl rfl ?_ | refine Ok.regT rfl rfl ?_); simp only [go_sem]; (repeat' with_reducible apply And.intro); all_goals first | (with_reducible first | refine OkW.mk ?_ | refine EndW.mk ?_ | apply AskI.id | apply AskGI.id) | (with_reducible apply KOt.mk; kernel_rfl) | exact trivial | rfl | omega | ((try intro _); first | apply R64 <;> omega | apply room_of <;> omega) | skip)
    refine Ok.block ?_
    refine Ok.count s.ks.length (fun i => ⟨[(1, .p 0 0), (3, .tk 0), (8, iS i)], [streetB s], [ownD 9 1 strD (rowsK s i)]⟩) (fun _ => True) ⟨trivial, ?_⟩ ?_ ?_
    · rw [rowsK_zero]
      (refine Sub.of ([0]) ([some 0]) ?_ ?_ ?_ rfl rfl <;> simp only [subB, subB1, subT, subT1, newT, subE, subV, subL, go_sem] <;> (try (repeat' with_reducible apply And.intro)) <;> (try first | exact DEq.refl _ | refine DEq.int ?_ | refine DEq.bool ?_ | omega))
      exact fun _ _ _ _ => DEq.refl _
    · intro i hi _
      have hl := rowsK_len s i hs
      have hx := hs.k _ (getD_mem hi)
      refine Ok.seq ?_; (((first | refine Ok.seqF rfl rfl ?_ | refine Ok.seqT rfl rfl ?_ | refine Ok.regF rfl rfl ?_ | refine Ok.regT rfl rfl ?_); simp only [go_sem]; (repeat' with_reducible apply And.intro); all_goals first | (with_reducible first | refine OkW.mk ?_ | refine EndW.mk ?_ | apply AskI.id | apply AskGI.id) | (with_reducible apply KOt.mk; kernel_rfl) | exact trivial | rfl | omega | ((try intro _); first | apply R64 <;> omega | apply room_of <;> omega) | skip)); refine Ok.cond rfl (fun _ => ?_) (fun hb => by simp at hb; omega); (refine Ok.skip ?_; (try dsimp only [thenK, blockK, noGotoK])); refine Ok.seq ?_; refine Ok.block ?_
      ((first | refine Ok.seqF rfl rfl ?_ | refine Ok.seqT rfl rfl ?_ | refine Ok.regF rfl rfl ?_ | refine Ok.regT rfl rfl ?_); simp only [go_sem]; (repeat' with_reducible apply And.intro); all_goals first | (with_reducible first | refine OkW.mk ?_ | refine EndW.mk ?_ | apply AskI.id | apply AskGI.id) | (with_reducible apply KOt.mk; kernel_rfl) | exact trivial | rfl | omega | ((try intro _); first | apply R64 <;> omega | apply room_of <;> omega) | skip)
      ((first | refine Ok.seqF rfl rfl ?_ | refine Ok.seqT rfl rfl ?_ | refine Ok.regF rfl rfl ?_ | refine Ok.regT rfl rfl ?_); simp only [go_sem]; (repeat' with_reducible apply And.intro); all_goals first | (with_reducible first | refine OkW.mk ?_ | refine EndW.mk ?_ | apply AskI.id | apply AskGI.id) | (with_reducible apply KOt.mk; kernel_rfl) | exact trivial | rfl | omega | ((try intro _); first | apply R64 <;> omega | apply room_of <;> omega) | skip)
      refine Ok.seq ?_
      ((first | refine Ok.seqF rfl rfl ?_ | refine Ok.seqT rfl rfl ?_ | refine Ok.regF rfl rfl ?_ | refine Ok.regT rfl rfl ?_); simp only [go_sem]; (repeat' with_reducible apply And.intro); all_goals first | (with_reducible first | refine OkW.mk ?_ | refine EndW.mk ?_ | apply AskI.id | apply AskGI.id) | (with_reducible apply KOt.mk; kernel_rfl) | exact trivial | rfl | omega | ((try intro _); first | apply R64 <;> omega | apply room_of <;> omega) | skip)
      refine Ok.cond rfl ?_ ?_
      · intro hb
        have hr : blockRow (s.ks.getD i default) = rowL [98, 108, 111, 99, 107, 32, 115, 117, 114, 101] (s.ks.getD i default).nums := by
          simp only [blockRow, hb, blockW, if_true]; rfl
        ((first | refine Ok.seqF rfl rfl ?_ | refine Ok.seqT rfl rfl ?_ | refine Ok.regF rfl rfl ?_ | refine Ok.regT rfl rfl ?_); simp only [go_sem]; (repeat' with_reducible apply And.intro); all_goals first | (with_reducible first | refine OkW.mk ?_ | refine EndW.mk ?_ | apply AskI.id | apply AskGI.id) | (with_reducible apply KOt.mk; kernel_rfl) | exact trivial | rfl | omega | ((try intro _); first | apply R64 <;> omega | apply room_of <;> omega) | skip)
        ((first | refine Ok.seqF rfl rfl ?_ | refine Ok.seqT rfl rfl ?_ | refine Ok.regF rfl rfl ?_ | refine Ok.regT rfl rfl ?_); simp only [go_sem]; (repeat' with_reducible apply And.intro); all_goals first | (with_reducible first | refine OkW.mk ?_ | refine EndW.mk ?_ | apply AskI.id | apply AskGI.id) | (with_reducible apply KOt.mk; kernel_rfl) | exact trivial | rfl | omega | ((try intro _); first | apply R64 <;> omega | apply room_of <;> omega) | skip)
        (refine AskI.ret (c107_4 _ (by decide) _ _ _ _ hx) ?_; simp only [go_sem]; (repeat' with_reducible apply And.intro); all_goals first | (with_reducible first | refine OkW.mk ?_ | refine EndW.mk ?_ | apply AskI.id | apply AskGI.id) | (with_reducible apply KOt.mk; kernel_rfl) | exact trivial | rfl | omega | ((try intro _); first | apply R64 <;> omega | apply room_of <;> omega) | skip)
        (try dsimp only [thenK, blockK, noGotoK])
        ((first | refine Ok.seqF rfl rfl ?_ | refine Ok.seqT rfl rfl ?_ | refine Ok.regF rfl rfl ?_ | refine Ok.regT rfl rfl ?_); simp only [go_sem]; (repeat' with_reducible apply And.intro); all_goals first | (with_reducible first | refine OkW.mk ?_ | refine EndW.mk ?_ | apply AskI.id | apply AskGI.id) | (with_reducible apply KOt.mk; kernel_rfl) | exact trivial | rfl | omega | ((try intro _); first | apply R64 <;> omega | apply room_of <;> omega) | skip)
        (try dsimp only [thenK, blockK, noGotoK])
        refine ⟨trivial, ?_⟩
        (refine Sub.of ([0]) ([some 2]) ?_ ?_ ?_ rfl rfl <;> simp only [subB, subB1, subT, subT1, newT, subE, subV, subL, go_sem] <;> (try (repeat' with_reducible apply And.intro)) <;> (try first | exact DEq.refl _ | refine DEq.int ?_ | refine DEq.bool ?_ | omega))
        · rw [rowsK_succ s hi]; simp
        · rw [rowsK_succ s hi, hr]
          exact snoc_D (str_snoc _)
      · intro hb
        have hr : blockRow (s.ks.getD i default) = rowL [98, 108, 111, 99, 107, 32, 112, 101, 114, 104, 97, 112, 115] (s.ks.getD i default).nums := by
          simp only [blockRow, hb, blockW]; rfl
        (refine Ok.skip ?_; (try dsimp only [thenK, blockK, noGotoK]))
        ((first | refine Ok.seqF rfl rfl ?_ | refine Ok.seqT rfl rfl ?_ | refine Ok.regF rfl rfl ?_ | refine Ok.regT rfl rfl ?_); simp only [go_sem]; (repeat' with_reducible apply And.intro); all_goals first | (with_reducible first | refine OkW.mk ?_ | refine EndW.mk ?_ | apply AskI.id | apply AskGI.id) | (with_reducible apply KOt.mk; kernel_rfl) | exact trivial | rfl | omega | ((try intro _); first | apply R64 <;> omega | apply room_of <;> omega) | skip)
        (refine AskI.ret (c107_4 _ (by decide) _ _ _ _ hx) ?_; simp only [go_sem]; (repeat' with_reducible apply And.intro); all_goals first | (with_reducible first | refine OkW.mk ?_ | refine EndW.mk ?_ | apply AskI.id | apply AskGI.id) | (with_reducible apply KOt.mk; kernel_rfl) | exact trivial | rfl | omega | ((try intro _); first | apply R64 <;> omega | apply room_of <;> omega) | skip)
        (try dsimp only [thenK, blockK, noGotoK])
        ((first | refine Ok.seqF rfl rfl ?_ | refine Ok.seqT rfl rfl ?_ | refine Ok.regF rfl rfl ?_ | refine Ok.regT rfl rfl ?_); simp only [go_sem]; (repeat' with_reducible apply And.intro); all_goals first | (with_reducible first | refine OkW.mk ?_ | refine EndW.mk ?_ | apply AskI.id | apply AskGI.id) | (with_reducible apply KOt.mk; kernel_rfl) | exact trivial | rfl | omega | ((try intro _); first | apply R64 <;> omega | apply room_of <;> omega) | skip)
        (try dsimp only [thenK, blockK, noGotoK])
        refine ⟨trivial, ?_⟩
        (refine Sub.of ([0]) ([some 2]) ?_ ?_ ?_ rfl rfl <;> simp only [subB, subB1, subT, subT1, newT, subE, subV, subL, go_sem] <;> (try (repeat' with_reducible apply And.intro)) <;> (try first | exact DEq.refl _ | refine DEq.int ?_ | refine DEq.bool ?_ | omega))
        · rw [rowsK_succ s hi]; simp
        · rw [rowsK_succ s hi, hr]
          exact snoc_D (str_snoc _)
    · intro _
      rw [rowsK_all]
      refine Ok.seq ?_; (((first | refine Ok.seqF rfl rfl ?_ | refine Ok.seqT rfl rfl ?_ | refine Ok.regF rfl rfl ?_ | refine Ok.regT rfl rfl ?_); simp only [go_sem]; (repeat' with_reducible apply And.intro); all_goals first | (with_reducible first | refine OkW.mk ?_ | refine EndW.mk ?_ | apply AskI.id | apply AskGI.id) | (with_reducible apply KOt.mk; kernel_rfl) | exact trivial | rfl | omega | ((try intro _); first | apply R64 <;> omega | apply room_of <;> omega) | skip)); refine Ok.cond rfl (fun hb => by simp at hb) (fun _ => ?_); (refine Ok.exit ?_; simp only [thenK_exit, blockK_exit, noGotoK_exit, thenK_normal, blockK_normal, noGotoK_normal, ↓reduceIte, Nat.reduceEqDiff])
      ((first | refine Ok.seqF rfl rfl ?_ | refine Ok.seqT rfl rfl ?_ | refine Ok.regF rfl rfl ?_ | refine Ok.regT rfl rfl ?_); simp only [go_sem]; (repeat' with_reducible apply And.intro); all_goals first | (with_reducible first | refine OkW.mk ?_ | refine EndW.mk ?_ | apply AskI.id | apply AskGI.id) | (with_reducible apply KOt.mk; kernel_rfl) | exact trivial | rfl | omega | ((try intro _); first | apply R64 <;> omega | apply room_of <;> omega) | skip)
      (refine AskI.ret (c108 _ (by have := rowsK_len s s.ks.length hs; rw [rowsK_all] at this; omega) (rows_short s hs)) ?_; simp only [go_sem]; (repeat' with_reducible apply And.intro); all_goals first | (with_reducible first | refine OkW.mk ?_ | refine EndW.mk ?_ | apply AskI.id | apply AskGI.id) | (with_reducible apply KOt.mk; kernel_rfl) | exact trivial | rfl | omega | ((try intro _); first | apply R64 <;> omega | apply room_of <;> omega) | skip)
      (refine Ok.ret ?_; (try dsimp only [thenK, blockK, noGotoK]); simp only [toList_mk, List.toList_toArray, retK_ret, retK_normal, resOK, resV, celV, rowV, frzAll, frzT, subV, subL, go_sem])
      ((repeat' with_reducible apply And.intro) <;> (first | exact DEq.refl _ | refine DEq.int ?_ | refine DEq.bool ?_ | skip))
end Go.Proofs.Sight
namespace Go.Proofs.Sight
open Go Go.RX Go.Proofs
set_option maxRecDepth 10000
theorem c137 : Ctr Tryz.prog 137 [] (.agg [.d (.str sightW), .d (.str boardW), .d (.str letterW), .d (.str [98, 108, 111, 99, 107])]) := by
  (refine Ctr.mk (fn := Tryz.f137) rfl rfl rfl rfl rfl Tryz.results137 ?_; dsimp only [args, List.toList_toArray])
  ((first | refine Ok.seqF rfl rfl ?_ | refine Ok.seqT rfl rfl ?_ | refine Ok.regF rfl rfl ?_ | refine Ok.regT rfl rfl ?_); simp only [go_sem]; (repeat' with_reducible apply And.intro); all_goals first | (with_reducible first | refine OkW.mk ?_ | refine EndW.mk ?_ | apply AskI.id | apply AskGI.id) | (with_reducible apply KOt.mk; kernel_rfl) | exact trivial | rfl | omega | ((try intro _); first | apply R64 <;> omega | apply room_of <;> omega) | skip)
  ((first | refine Ok.seqF rfl rfl ?_ | refine Ok.seqT rfl rfl ?_ | refine Ok.regF rfl rfl ?_ | refine Ok.regT rfl rfl ?_); simp only [go_sem]; (repeat' with_reducible apply And.intro); all_goals first | (with_reducible first | refine OkW.mk ?_ | refine EndW.mk ?_ | apply AskI.id | apply AskGI.id) | (with_reducible apply KOt.mk; kernel_rfl) | exact trivial | rfl | omega | ((try intro _); first | apply R64 <;> omega | apply room_of <;> omega) | skip)
  (refine Ok.ret ?_; (try dsimp only [thenK, blockK, noGotoK]); simp only [toList_mk, List.toList_toArray, retK_ret, retK_normal, resOK, resV, celV, rowV, frzAll, frzT, subV, subL, go_sem])
  exact ⟨.refl _, .refl _, .refl _, .refl _⟩
theorem c202 (s : Street) : Ctr Tryz.prog 202 [s.sv] (.d (slD 1 intD s.nums)) := by
  (refine Ctr.mk (fn := Tryz.f202) rfl rfl rfl rfl rfl Tryz.results202 ?_; dsimp only [args, List.toList_toArray])
  ((first | refine Ok.seqF rfl rfl ?_ | refine Ok.seqT rfl rfl ?_ | refine Ok.regF rfl rfl ?_ | refine Ok.regT rfl rfl ?_); simp only [go_sem]; (repeat' with_reducible apply And.intro); all_goals first | (with_reducible first | refine OkW.mk ?_ | refine EndW.mk ?_ | apply AskI.id | apply AskGI.id) | (with_reducible apply KOt.mk; kernel_rfl) | exact trivial | rfl | omega | ((try intro _); first | apply R64 <;> omega | apply room_of <;> omega) | skip)
  ((first | refine Ok.seqF rfl rfl ?_ | refine Ok.seqT rfl rfl ?_ | refine Ok.regF rfl rfl ?_ | refine Ok.regT rfl rfl ?_); simp only [go_sem]; (repeat' with_reducible apply And.intro); all_goals first | (with_reducible first | refine OkW.mk ?_ | refine EndW.mk ?_ | apply AskI.id | apply AskGI.id) | (with_reducible apply KOt.mk; kernel_rfl) | exact trivial | rfl | omega | ((try intro _); first | apply R64 <;> omega | apply room_of <;> omega) | skip)
  (refine Ok.ret ?_; (try dsimp only [thenK, blockK, noGotoK]); simp only [toList_mk, List.toList_toArray, retK_ret, retK_normal, resOK, resV, celV, rowV, frzAll, frzT, subV, subL, go_sem])
  exact ints_D s.nums
theorem c203 (b : Board) : Ctr Tryz.prog 203 [b.sv] (.d (slD 1 intD [b.at_])) := by
  (refine Ctr.mk (fn := Tryz.f203) rfl rfl rfl rfl rfl Tryz.results203 ?_; dsimp only [args, List.toList_toArray])
  ((first | refine Ok.seqF rfl rfl ?_ | refine Ok.seqT rfl rfl ?_ | refine Ok.regF rfl rfl ?_ | refine Ok.regT rfl rfl ?_); simp only [go_sem]; (repeat' with_reducible apply And.intro); all_goals first | (with_reducible first | refine OkW.mk ?_ | refine EndW.mk ?_ | apply AskI.id | apply AskGI.id) | (with_reducible apply KOt.mk; kernel_rfl) | exact trivial | rfl | omega | ((try intro _); first | apply R64 <;> omega | apply room_of <;> omega) | skip)
  ((first | refine Ok.seqF rfl rfl ?_ | refine Ok.seqT rfl rfl ?_ | refine Ok.regF rfl rfl ?_ | refine Ok.regT rfl rfl ?_); simp only [go_sem]; (repeat' with_reducible apply And.intro); all_goals first | (with_reducible first | refine OkW.mk ?_ | refine EndW.mk ?_ | apply AskI.id | apply AskGI.id) | (with_reducible apply KOt.mk; kernel_rfl) | exact trivial | rfl | omega | ((try intro _); first | apply R64 <;> omega | apply room_of <;> omega) | skip)
  (refine Ok.ret ?_; (try dsimp only [thenK, blockK, noGotoK]); simp only [toList_mk, List.toList_toArray, retK_ret, retK_normal, resOK, resV, celV, rowV, frzAll, frzT, subV, subL, go_sem])
  exact ints_D [b.at_]
theorem c204 (x : Letter) : Ctr Tryz.prog 204 [x.sv] (.d (slD 1 intD x.nums)) := by
  (refine Ctr.mk (fn := Tryz.f204) rfl rfl rfl rfl rfl Tryz.results204 ?_; dsimp only [args, List.toList_toArray])
  ((first | refine Ok.seqF rfl rfl ?_ | refine Ok.seqT rfl rfl ?_ | refine Ok.regF rfl rfl ?_ | refine Ok.regT rfl rfl ?_); simp only [go_sem]; (repeat' with_reducible apply And.intro); all_goals first | (with_reducible first | refine OkW.mk ?_ | refine EndW.mk ?_ | apply AskI.id | apply AskGI.id) | (with_reducible apply KOt.mk; kernel_rfl) | exact trivial | rfl | omega | ((try intro _); first | apply R64 <;> omega | apply room_of <;> omega) | skip)
  ((first | refine Ok.seqF rfl rfl ?_ | refine Ok.seqT rfl rfl ?_ | refine Ok.regF rfl rfl ?_ | refine Ok.regT rfl rfl ?_); simp only [go_sem]; (repeat' with_reducible apply And.intro); all_goals first | (with_reducible first | refine OkW.mk ?_ | refine EndW.mk ?_ | apply AskI.id | apply AskGI.id) | (with_reducible apply KOt.mk; kernel_rfl) | exact trivial | rfl | omega | ((try intro _); first | apply R64 <;> omega | apply room_of <;> omega) | skip)
  (refine Ok.ret ?_; (try dsimp only [thenK, blockK, noGotoK]); simp only [toList_mk, List.toList_toArray, retK_ret, retK_normal, resOK, resV, celV, rowV, frzAll, frzT, subV, subL, go_sem])
  exact ints_D x.nums
theorem c205 (k : Block) : Ctr Tryz.prog 205 [k.sv] (.d (slD 1 intD k.nums)) := by
  (refine Ctr.mk (fn := Tryz.f205) rfl rfl rfl rfl rfl Tryz.results205 ?_; dsimp only [args, List.toList_toArray])
  ((first | refine Ok.seqF rfl rfl ?_ | refine Ok.seqT rfl rfl ?_ | refine Ok.regF rfl rfl ?_ | refine Ok.regT rfl rfl ?_); simp only [go_sem]; (repeat' with_reducible apply And.intro); all_goals first | (with_reducible first | refine OkW.mk ?_ | refine EndW.mk ?_ | apply AskI.id | apply AskGI.id) | (with_reducible apply KOt.mk; kernel_rfl) | exact trivial | rfl | omega | ((try intro _); first | apply R64 <;> omega | apply room_of <;> omega) | skip)
  ((first | refine Ok.seqF rfl rfl ?_ | refine Ok.seqT rfl rfl ?_ | refine Ok.regF rfl rfl ?_ | refine Ok.regT rfl rfl ?_); simp only [go_sem]; (repeat' with_reducible apply And.intro); all_goals first | (with_reducible first | refine OkW.mk ?_ | refine EndW.mk ?_ | apply AskI.id | apply AskGI.id) | (with_reducible apply KOt.mk; kernel_rfl) | exact trivial | rfl | omega | ((try intro _); first | apply R64 <;> omega | apply room_of <;> omega) | skip)
  (refine Ok.ret ?_; (try dsimp only [thenK, blockK, noGotoK]); simp only [toList_mk, List.toList_toArray, retK_ret, retK_normal, resOK, resV, celV, rowV, frzAll, frzT, subV, subL, go_sem])
  exact ints_D k.nums
def Letter.cells (x : Letter) : List DV := [iD x.h, iD x.w, iD x.s, iD x.p]
def Board.cells (b : Board) : List DV := [iD b.at_, slD 4 letD b.ls]
def Block.cells (k : Block) : List DV := [iD k.al, iD k.ah, iD k.cl, iD k.ch, .bool k.sure]
theorem c131h (s : Street) (hns : ∀ n ∈ s.nums, 0 ≤ n ∧ n < 1000000) : Ctr Tryz.prog 131 [.d (.ifc 169 8 (dget s.cells))] (.d (.str (rowL sightW s.nums))) := by
  have hlen : (s.nums).length ≤ 6 := by simp [Street.nums, Letter.nums, Block.nums]
  unfold Street.cells
  (refine Ctr.mk (fn := Tryz.f131) rfl rfl rfl rfl rfl Tryz.results131 ?_; dsimp only [args, List.toList_toArray])
  ((first | refine Ok.seqF rfl rfl ?_ | refine Ok.seqT rfl rfl ?_ | refine Ok.regF rfl rfl ?_ | refine Ok.regT rfl rfl ?_); simp only [go_sem]; (repeat' with_reducible apply And.intro); all_goals first | (with_reducible first | refine OkW.mk ?_ | refine EndW.mk ?_ | apply AskI.id | apply AskGI.id) | (with_reducible apply KOt.mk; kernel_rfl) | exact trivial | rfl | omega | ((try intro _); first | apply R64 <;> omega | apply room_of <;> omega) | skip)
  ((first | refine Ok.seqF rfl rfl ?_ | refine Ok.seqT rfl rfl ?_ | refine Ok.regF rfl rfl ?_ | refine Ok.regT rfl rfl ?_); simp only [go_sem]; (repeat' with_reducible apply And.intro); all_goals first | (with_reducible first | refine OkW.mk ?_ | refine EndW.mk ?_ | apply AskI.id | apply AskGI.id) | (with_reducible apply KOt.mk; kernel_rfl) | exact trivial | rfl | omega | ((try intro _); first | apply R64 <;> omega | apply room_of <;> omega) | skip)
  refine Ok.seq ?_
  ((first | refine Ok.seqF rfl rfl ?_ | refine Ok.seqT rfl rfl ?_ | refine Ok.regF rfl rfl ?_ | refine Ok.regT rfl rfl ?_); simp only [go_sem]; (repeat' with_reducible apply And.intro); all_goals first | (with_reducible first | refine OkW.mk ?_ | refine EndW.mk ?_ | apply AskI.id | apply AskGI.id) | (with_reducible apply KOt.mk; kernel_rfl) | exact trivial | rfl | omega | ((try intro _); first | apply R64 <;> omega | apply room_of <;> omega) | skip)
  refine Ok.block ?_
  ((first | refine Ok.seqF rfl rfl ?_ | refine Ok.seqT rfl rfl ?_ | refine Ok.regF rfl rfl ?_ | refine Ok.regT rfl rfl ?_); simp only [go_sem]; (repeat' with_reducible apply And.intro); all_goals first | (with_reducible first | refine OkW.mk ?_ | refine EndW.mk ?_ | apply AskI.id | apply AskGI.id) | (with_reducible apply KOt.mk; kernel_rfl) | exact trivial | rfl | omega | ((try intro _); first | apply R64 <;> omega | apply room_of <;> omega) | skip)
  refine Ok.cond (b := true) (by first | rfl | (simp only [go_sem]; rfl)) (fun _ => ?_) (fun hb => by cases hb)
  ((first | refine Ok.seqF rfl rfl ?_ | refine Ok.seqT rfl rfl ?_ | refine Ok.regF rfl rfl ?_ | refine Ok.regT rfl rfl ?_); simp only [go_sem]; (repeat' with_reducible apply And.intro); all_goals first | (with_reducible first | refine OkW.mk ?_ | refine EndW.mk ?_ | apply AskI.id | apply AskGI.id) | (with_reducible apply KOt.mk; kernel_rfl) | exact trivial | rfl | omega | ((try intro _); first | apply R64 <;> omega | apply room_of <;> omega) | skip)
  ((first | refine Ok.seqF rfl rfl ?_ | refine Ok.seqT rfl rfl ?_ | refine Ok.regF rfl rfl ?_ | refine Ok.regT rfl rfl ?_); simp only [go_sem]; (repeat' with_reducible apply And.intro); all_goals first | (with_reducible first | refine OkW.mk ?_ | refine EndW.mk ?_ | apply AskI.id | apply AskGI.id) | (with_reducible apply KOt.mk; kernel_rfl) | exact trivial | rfl | omega | ((try intro _); first | apply R64 <;> omega | apply room_of <;> omega) | skip)
  (refine AskI.ret (c137) ?_; simp only [go_sem]; (repeat' with_reducible apply And.intro); all_goals first | (with_reducible first | refine OkW.mk ?_ | refine EndW.mk ?_ | apply AskI.id | apply AskGI.id) | (with_reducible apply KOt.mk; kernel_rfl) | exact trivial | rfl | omega | ((try intro _); first | apply R64 <;> omega | apply room_of <;> omega) | skip)

  (try dsimp only [thenK, blockK, noGotoK])
  refine Ok.seq ?_
  ((first | refine Ok.seqF rfl rfl ?_ | refine Ok.seqT rfl rfl ?_ | refine Ok.regF rfl rfl ?_ | refine Ok.regT rfl rfl ?_); simp only [go_sem]; (repeat' with_reducible apply And.intro); all_goals first | (with_reducible first | refine OkW.mk ?_ | refine EndW.mk ?_ | apply AskI.id | apply AskGI.id) | (with_reducible apply KOt.mk; kernel_rfl) | exact trivial | rfl | omega | ((try intro _); first | apply R64 <;> omega | apply room_of <;> omega) | skip)
  (refine AskI.ret (c202 s) ?_; simp only [go_sem]; (repeat' with_reducible apply And.intro); all_goals first | (with_reducible first | refine OkW.mk ?_ | refine EndW.mk ?_ | apply AskI.id | apply AskGI.id) | (with_reducible apply KOt.mk; kernel_rfl) | exact trivial | rfl | omega | ((try intro _); first | apply R64 <;> omega | apply room_of <;> omega) | skip)
  have hw : (sightW : List UInt8).length ≤ 20 := by decide
  refine Ok.block ?_
  generalize hNS : s.nums = ns at hns hlen ⊢
  generalize hW : sightW = wd at hw ⊢
  refine Ok.count ns.length (fun i => ⟨[(3, .d (.str (rowL wd (ns.take i)))), (39, .d (slD 1 intD ns)), (40, iS ns.length), (41, iS i)], [], []⟩) (fun _ => True) ⟨trivial, ?_⟩ ?_ ?_
  · (refine Sub.of ([]) ([]) ?_ ?_ ?_ rfl rfl <;> simp only [subB, subB1, subT, subT1, newT, subE, subV, subL, go_sem] <;> (try (repeat' with_reducible apply And.intro)) <;> (try first | exact DEq.refl _ | refine DEq.int ?_ | refine DEq.bool ?_ | omega))
    all_goals first | (rw [← hNS]; rfl) | (refine DEq.str ?_; rw [rowL_nil, ← hW, hk]; rfl) | (refine DEq.str ?_; rw [rowL_nil])
  · intro i hi _
    have hb := hns _ (getD_mem hi)
    have hl := rowL_len wd (ns.take i) (fun x hx => hns x (List.mem_of_mem_take hx))
    have hti : (ns.take i).length = i := by simp; omega
    have hil := itoaLen _ hb.1 hb.2
    have hsn : rowL wd (ns.take (i + 1)) = rowL wd (ns.take i) ++ [32] ++ Lib.itoa (ns.getD i default) := by rw [getD_take hi, rowL_snoc]
    (((first | refine Ok.seqF rfl rfl ?_ | refine Ok.seqT rfl rfl ?_ | refine Ok.regF rfl rfl ?_ | refine Ok.regT rfl rfl ?_); simp only [go_sem]; (repeat' with_reducible apply And.intro); all_goals first | (with_reducible first | refine OkW.mk ?_ | refine EndW.mk ?_ | apply AskI.id | apply AskGI.id) | (with_reducible apply KOt.mk; kernel_rfl) | exact trivial | rfl | omega | ((try intro _); first | apply R64 <;> omega | apply room_of <;> omega) | skip)); refine Ok.seq ?_; refine Ok.cond rfl (fun _ => ?_) (fun hb => by simp at hb; omega); (refine Ok.skip ?_; (try dsimp only [thenK, blockK, noGotoK])); refine Ok.seq ?_; refine Ok.block ?_
    ((first | refine Ok.seqF rfl rfl ?_ | refine Ok.seqT rfl rfl ?_ | refine Ok.regF rfl rfl ?_ | refine Ok.regT rfl rfl ?_); simp only [go_sem]; (repeat' with_reducible apply And.intro); all_goals first | (with_reducible first | refine OkW.mk ?_ | refine EndW.mk ?_ | apply AskI.id | apply AskGI.id) | (with_reducible apply KOt.mk; kernel_rfl) | exact trivial | rfl | omega | ((try intro _); first | apply R64 <;> omega | apply room_of <;> omega) | skip)
    ((first | refine Ok.seqF rfl rfl ?_ | refine Ok.seqT rfl rfl ?_ | refine Ok.regF rfl rfl ?_ | refine Ok.regT rfl rfl ?_); simp only [go_sem]; (repeat' with_reducible apply And.intro); all_goals first | (with_reducible first | refine OkW.mk ?_ | refine EndW.mk ?_ | apply AskI.id | apply AskGI.id) | (with_reducible apply KOt.mk; kernel_rfl) | exact trivial | rfl | omega | ((try intro _); first | apply R64 <;> omega | apply room_of <;> omega) | skip)
    (refine AskI.ret (c132 _ (by omega) (by omega)) ?_; simp only [go_sem]; (repeat' with_reducible apply And.intro); all_goals first | (with_reducible first | refine OkW.mk ?_ | refine EndW.mk ?_ | apply AskI.id | apply AskGI.id) | (with_reducible apply KOt.mk; kernel_rfl) | exact trivial | rfl | omega | ((try intro _); first | apply R64 <;> omega | apply room_of <;> omega) | skip)
    · simp only [strRoom, List.length_cons, List.length_nil]; omega
    · simp only [strRoom, List.length_append, List.length_cons, List.length_nil]; omega
    (try dsimp only [thenK, blockK, noGotoK])
    ((first | refine Ok.seqF rfl rfl ?_ | refine Ok.seqT rfl rfl ?_ | refine Ok.regF rfl rfl ?_ | refine Ok.regT rfl rfl ?_); simp only [go_sem]; (repeat' with_reducible apply And.intro); all_goals first | (with_reducible first | refine OkW.mk ?_ | refine EndW.mk ?_ | apply AskI.id | apply AskGI.id) | (with_reducible apply KOt.mk; kernel_rfl) | exact trivial | rfl | omega | ((try intro _); first | apply R64 <;> omega | apply room_of <;> omega) | skip)
    (try dsimp only [thenK, blockK, noGotoK])
    refine ⟨trivial, ?_⟩
    (refine Sub.of ([]) ([]) ?_ ?_ ?_ rfl rfl <;> simp only [subB, subB1, subT, subT1, newT, subE, subV, subL, go_sem] <;> (try (repeat' with_reducible apply And.intro)) <;> (try first | exact DEq.refl _ | refine DEq.int ?_ | refine DEq.bool ?_ | omega))
    refine DEq.str ?_
    rw [hsn]; simp
  · intro _
    (((first | refine Ok.seqF rfl rfl ?_ | refine Ok.seqT rfl rfl ?_ | refine Ok.regF rfl rfl ?_ | refine Ok.regT rfl rfl ?_); simp only [go_sem]; (repeat' with_reducible apply And.intro); all_goals first | (with_reducible first | refine OkW.mk ?_ | refine EndW.mk ?_ | apply AskI.id | apply AskGI.id) | (with_reducible apply KOt.mk; kernel_rfl) | exact trivial | rfl | omega | ((try intro _); first | apply R64 <;> omega | apply room_of <;> omega) | skip)); refine Ok.seq ?_; refine Ok.cond rfl (fun hb => by simp at hb) (fun _ => ?_); (refine Ok.exit ?_; simp only [thenK_exit, blockK_exit, noGotoK_exit, thenK_normal, blockK_normal, noGotoK_normal, ↓reduceIte, Nat.reduceEqDiff])
    ((first | refine Ok.seqF rfl rfl ?_ | refine Ok.seqT rfl rfl ?_ | refine Ok.regF rfl rfl ?_ | refine Ok.regT rfl rfl ?_); simp only [go_sem]; (repeat' with_reducible apply And.intro); all_goals first | (with_reducible first | refine OkW.mk ?_ | refine EndW.mk ?_ | apply AskI.id | apply AskGI.id) | (with_reducible apply KOt.mk; kernel_rfl) | exact trivial | rfl | omega | ((try intro _); first | apply R64 <;> omega | apply room_of <;> omega) | skip)
    (refine Ok.ret ?_; (try dsimp only [thenK, blockK, noGotoK]); simp only [toList_mk, List.toList_toArray, retK_ret, retK_normal, resOK, resV, celV, rowV, frzAll, frzT, subV, subL, go_sem])
    refine DEq.str ?_
    rw [List.take_length]
theorem c131s (b : Board) (hns : ∀ n ∈ [b.at_], 0 ≤ n ∧ n < 1000000) : Ctr Tryz.prog 131 [.d (.ifc 171 2 (dget b.cells))] (.d (.str (rowL boardW [b.at_]))) := by
  have hlen : ([b.at_]).length ≤ 6 := by simp [Street.nums, Letter.nums, Block.nums]
  unfold Board.cells
  (refine Ctr.mk (fn := Tryz.f131) rfl rfl rfl rfl rfl Tryz.results131 ?_; dsimp only [args, List.toList_toArray])
  ((first | refine Ok.seqF rfl rfl ?_ | refine Ok.seqT rfl rfl ?_ | refine Ok.regF rfl rfl ?_ | refine Ok.regT rfl rfl ?_); simp only [go_sem]; (repeat' with_reducible apply And.intro); all_goals first | (with_reducible first | refine OkW.mk ?_ | refine EndW.mk ?_ | apply AskI.id | apply AskGI.id) | (with_reducible apply KOt.mk; kernel_rfl) | exact trivial | rfl | omega | ((try intro _); first | apply R64 <;> omega | apply room_of <;> omega) | skip)
  ((first | refine Ok.seqF rfl rfl ?_ | refine Ok.seqT rfl rfl ?_ | refine Ok.regF rfl rfl ?_ | refine Ok.regT rfl rfl ?_); simp only [go_sem]; (repeat' with_reducible apply And.intro); all_goals first | (with_reducible first | refine OkW.mk ?_ | refine EndW.mk ?_ | apply AskI.id | apply AskGI.id) | (with_reducible apply KOt.mk; kernel_rfl) | exact trivial | rfl | omega | ((try intro _); first | apply R64 <;> omega | apply room_of <;> omega) | skip)
  refine Ok.seq ?_
  ((first | refine Ok.seqF rfl rfl ?_ | refine Ok.seqT rfl rfl ?_ | refine Ok.regF rfl rfl ?_ | refine Ok.regT rfl rfl ?_); simp only [go_sem]; (repeat' with_reducible apply And.intro); all_goals first | (with_reducible first | refine OkW.mk ?_ | refine EndW.mk ?_ | apply AskI.id | apply AskGI.id) | (with_reducible apply KOt.mk; kernel_rfl) | exact trivial | rfl | omega | ((try intro _); first | apply R64 <;> omega | apply room_of <;> omega) | skip)
  refine Ok.block ?_
  ((first | refine Ok.seqF rfl rfl ?_ | refine Ok.seqT rfl rfl ?_ | refine Ok.regF rfl rfl ?_ | refine Ok.regT rfl rfl ?_); simp only [go_sem]; (repeat' with_reducible apply And.intro); all_goals first | (with_reducible first | refine OkW.mk ?_ | refine EndW.mk ?_ | apply AskI.id | apply AskGI.id) | (with_reducible apply KOt.mk; kernel_rfl) | exact trivial | rfl | omega | ((try intro _); first | apply R64 <;> omega | apply room_of <;> omega) | skip)
  refine Ok.cond (b := false) (by first | rfl | (simp only [go_sem]; rfl)) (fun hb => by cases hb) (fun _ => ?_)
  ((first | refine Ok.seqF rfl rfl ?_ | refine Ok.seqT rfl rfl ?_ | refine Ok.regF rfl rfl ?_ | refine Ok.regT rfl rfl ?_); simp only [go_sem]; (repeat' with_reducible apply And.intro); all_goals first | (with_reducible first | refine OkW.mk ?_ | refine EndW.mk ?_ | apply AskI.id | apply AskGI.id) | (with_reducible apply KOt.mk; kernel_rfl) | exact trivial | rfl | omega | ((try intro _); first | apply R64 <;> omega | apply room_of <;> omega) | skip)
  refine Ok.cond (b := true) (by first | rfl | (simp only [go_sem]; rfl)) (fun _ => ?_) (fun hb => by cases hb)
  ((first | refine Ok.seqF rfl rfl ?_ | refine Ok.seqT rfl rfl ?_ | refine Ok.regF rfl rfl ?_ | refine Ok.regT rfl rfl ?_); simp only [go_sem]; (repeat' with_reducible apply And.intro); all_goals first | (with_reducible first | refine OkW.mk ?_ | refine EndW.mk ?_ | apply AskI.id | apply AskGI.id) | (with_reducible apply KOt.mk; kernel_rfl) | exact trivial | rfl | omega | ((try intro _); first | apply R64 <;> omega | apply room_of <;> omega) | skip)
  ((first | refine Ok.seqF rfl rfl ?_ | refine Ok.seqT rfl rfl ?_ | refine Ok.regF rfl rfl ?_ | refine Ok.regT rfl rfl ?_); simp only [go_sem]; (repeat' with_reducible apply And.intro); all_goals first | (with_reducible first | refine OkW.mk ?_ | refine EndW.mk ?_ | apply AskI.id | apply AskGI.id) | (with_reducible apply KOt.mk; kernel_rfl) | exact trivial | rfl | omega | ((try intro _); first | apply R64 <;> omega | apply room_of <;> omega) | skip)
  (refine AskI.ret (c137) ?_; simp only [go_sem]; (repeat' with_reducible apply And.intro); all_goals first | (with_reducible first | refine OkW.mk ?_ | refine EndW.mk ?_ | apply AskI.id | apply AskGI.id) | (with_reducible apply KOt.mk; kernel_rfl) | exact trivial | rfl | omega | ((try intro _); first | apply R64 <;> omega | apply room_of <;> omega) | skip)

  (try dsimp only [thenK, blockK, noGotoK])
  refine Ok.seq ?_
  ((first | refine Ok.seqF rfl rfl ?_ | refine Ok.seqT rfl rfl ?_ | refine Ok.regF rfl rfl ?_ | refine Ok.regT rfl rfl ?_); simp only [go_sem]; (repeat' with_reducible apply And.intro); all_goals first | (with_reducible first | refine OkW.mk ?_ | refine EndW.mk ?_ | apply AskI.id | apply AskGI.id) | (with_reducible apply KOt.mk; kernel_rfl) | exact trivial | rfl | omega | ((try intro _); first | apply R64 <;> omega | apply room_of <;> omega) | skip)
  (refine AskI.ret (c203 b) ?_; simp only [go_sem]; (repeat' with_reducible apply And.intro); all_goals first | (with_reducible first | refine OkW.mk ?_ | refine EndW.mk ?_ | apply AskI.id | apply AskGI.id) | (with_reducible apply KOt.mk; kernel_rfl) | exact trivial | rfl | omega | ((try intro _); first | apply R64 <;> omega | apply room_of <;> omega) | skip)
  have hw : (boardW : List UInt8).length ≤ 20 := by decide
  refine Ok.block ?_
  generalize hNS : [b.at_] = ns at hns hlen ⊢
  generalize hW : boardW = wd at hw ⊢
  refine Ok.count ns.length (fun i => ⟨[(3, .d (.str (rowL wd (ns.take i)))), (39, .d (slD 1 intD ns)), (40, iS ns.length), (41, iS i)], [], []⟩) (fun _ => True) ⟨trivial, ?_⟩ ?_ ?_
  · (refine Sub.of ([]) ([]) ?_ ?_ ?_ rfl rfl <;> simp only [subB, subB1, subT, subT1, newT, subE, subV, subL, go_sem] <;> (try (repeat' with_reducible apply And.intro)) <;> (try first | exact DEq.refl _ | refine DEq.int ?_ | refine DEq.bool ?_ | omega))
    all_goals first | (rw [← hNS]; rfl) | (refine DEq.str ?_; rw [rowL_nil, ← hW, hk]; rfl) | (refine DEq.str ?_; rw [rowL_nil])
  · intro i hi _
    have hb := hns _ (getD_mem hi)
    have hl := rowL_len wd (ns.take i) (fun x hx => hns x (List.mem_of_mem_take hx))
    have hti : (ns.take i).length = i := by simp; omega
    have hil := itoaLen _ hb.1 hb.2
    have hsn : rowL wd (ns.take (i + 1)) = rowL wd (ns.take i) ++ [32] ++ Lib.itoa (ns.getD i default) := by rw [getD_take hi, rowL_snoc]
    (((first | refine Ok.seqF rfl rfl ?_ | refine Ok.seqT rfl rfl ?_ | refine Ok.regF rfl rfl ?_ | refine Ok.regT rfl rfl ?_); simp only [go_sem]; (repeat' with_reducible apply And.intro); all_goals first | (with_reducible first | refine OkW.mk ?_ | refine EndW.mk ?_ | apply AskI.id | apply AskGI.id) | (with_reducible apply KOt.mk; kernel_rfl) | exact trivial | rfl | omega | ((try intro _); first | apply R64 <;> omega | apply room_of <;> omega) | skip)); refine Ok.seq ?_; refine Ok.cond rfl (fun _ => ?_) (fun hb => by simp at hb; omega); (refine Ok.skip ?_; (try dsimp only [thenK, blockK, noGotoK])); refine Ok.seq ?_; refine Ok.block ?_
    ((first | refine Ok.seqF rfl rfl ?_ | refine Ok.seqT rfl rfl ?_ | refine Ok.regF rfl rfl ?_ | refine Ok.regT rfl rfl ?_); simp only [go_sem]; (repeat' with_reducible apply And.intro); all_goals first | (with_reducible first | refine OkW.mk ?_ | refine EndW.mk ?_ | apply AskI.id | apply AskGI.id) | (with_reducible apply KOt.mk; kernel_rfl) | exact trivial | rfl | omega | ((try intro _); first | apply R64 <;> omega | apply room_of <;> omega) | skip)
    ((first | refine Ok.seqF rfl rfl ?_ | refine Ok.seqT rfl rfl ?_ | refine Ok.regF rfl rfl ?_ | refine Ok.regT rfl rfl ?_); simp only [go_sem]; (repeat' with_reducible apply And.intro); all_goals first | (with_reducible first | refine OkW.mk ?_ | refine EndW.mk ?_ | apply AskI.id | apply AskGI.id) | (with_reducible apply KOt.mk; kernel_rfl) | exact trivial | rfl | omega | ((try intro _); first | apply R64 <;> omega | apply room_of <;> omega) | skip)
    (refine AskI.ret (c132 _ (by omega) (by omega)) ?_; simp only [go_sem]; (repeat' with_reducible apply And.intro); all_goals first | (with_reducible first | refine OkW.mk ?_ | refine EndW.mk ?_ | apply AskI.id | apply AskGI.id) | (with_reducible apply KOt.mk; kernel_rfl) | exact trivial | rfl | omega | ((try intro _); first | apply R64 <;> omega | apply room_of <;> omega) | skip)
    · simp only [strRoom, List.length_cons, List.length_nil]; omega
    · simp only [strRoom, List.length_append, List.length_cons, List.length_nil]; omega
    (try dsimp only [thenK, blockK, noGotoK])
    ((first | refine Ok.seqF rfl rfl ?_ | refine Ok.seqT rfl rfl ?_ | refine Ok.regF rfl rfl ?_ | refine Ok.regT rfl rfl ?_); simp only [go_sem]; (repeat' with_reducible apply And.intro); all_goals first | (with_reducible first | refine OkW.mk ?_ | refine EndW.mk ?_ | apply AskI.id | apply AskGI.id) | (with_reducible apply KOt.mk; kernel_rfl) | exact trivial | rfl | omega | ((try intro _); first | apply R64 <;> omega | apply room_of <;> omega) | skip)
    (try dsimp only [thenK, blockK, noGotoK])
    refine ⟨trivial, ?_⟩
    (refine Sub.of ([]) ([]) ?_ ?_ ?_ rfl rfl <;> simp only [subB, subB1, subT, subT1, newT, subE, subV, subL, go_sem] <;> (try (repeat' with_reducible apply And.intro)) <;> (try first | exact DEq.refl _ | refine DEq.int ?_ | refine DEq.bool ?_ | omega))
    refine DEq.str ?_
    rw [hsn]; simp
  · intro _
    (((first | refine Ok.seqF rfl rfl ?_ | refine Ok.seqT rfl rfl ?_ | refine Ok.regF rfl rfl ?_ | refine Ok.regT rfl rfl ?_); simp only [go_sem]; (repeat' with_reducible apply And.intro); all_goals first | (with_reducible first | refine OkW.mk ?_ | refine EndW.mk ?_ | apply AskI.id | apply AskGI.id) | (with_reducible apply KOt.mk; kernel_rfl) | exact trivial | rfl | omega | ((try intro _); first | apply R64 <;> omega | apply room_of <;> omega) | skip)); refine Ok.seq ?_; refine Ok.cond rfl (fun hb => by simp at hb) (fun _ => ?_); (refine Ok.exit ?_; simp only [thenK_exit, blockK_exit, noGotoK_exit, thenK_normal, blockK_normal, noGotoK_normal, ↓reduceIte, Nat.reduceEqDiff])
    ((first | refine Ok.seqF rfl rfl ?_ | refine Ok.seqT rfl rfl ?_ | refine Ok.regF rfl rfl ?_ | refine Ok.regT rfl rfl ?_); simp only [go_sem]; (repeat' with_reducible apply And.intro); all_goals first | (with_reducible first | refine OkW.mk ?_ | refine EndW.mk ?_ | apply AskI.id | apply AskGI.id) | (with_reducible apply KOt.mk; kernel_rfl) | exact trivial | rfl | omega | ((try intro _); first | apply R64 <;> omega | apply room_of <;> omega) | skip)
    (refine Ok.ret ?_; (try dsimp only [thenK, blockK, noGotoK]); simp only [toList_mk, List.toList_toArray, retK_ret, retK_normal, resOK, resV, celV, rowV, frzAll, frzT, subV, subL, go_sem])
    refine DEq.str ?_
    rw [List.take_length]
theorem c131m (x : Letter) (hns : ∀ n ∈ x.nums, 0 ≤ n ∧ n < 1000000) : Ctr Tryz.prog 131 [.d (.ifc 173 4 (dget x.cells))] (.d (.str (rowL letterW x.nums))) := by
  have hlen : (x.nums).length ≤ 6 := by simp [Street.nums, Letter.nums, Block.nums]
  unfold Letter.cells
  (refine Ctr.mk (fn := Tryz.f131) rfl rfl rfl rfl rfl Tryz.results131 ?_; dsimp only [args, List.toList_toArray])
  ((first | refine Ok.seqF rfl rfl ?_ | refine Ok.seqT rfl rfl ?_ | refine Ok.regF rfl rfl ?_ | refine Ok.regT rfl rfl ?_); simp only [go_sem]; (repeat' with_reducible apply And.intro); all_goals first | (with_reducible first | refine OkW.mk ?_ | refine EndW.mk ?_ | apply AskI.id | apply AskGI.id) | (with_reducible apply KOt.mk; kernel_rfl) | exact trivial | rfl | omega | ((try intro _); first | apply R64 <;> omega | apply room_of <;> omega) | skip)
  ((first | refine Ok.seqF rfl rfl ?_ | refine Ok.seqT rfl rfl ?_ | refine Ok.regF rfl rfl ?_ | refine Ok.regT rfl rfl ?_); simp only [go_sem]; (repeat' with_reducible apply And.intro); all_goals first | (with_reducible first | refine OkW.mk ?_ | refine EndW.mk ?_ | apply AskI.id | apply AskGI.id) | (with_reducible apply KOt.mk; kernel_rfl) | exact trivial | rfl | omega | ((try intro _); first | apply R64 <;> omega | apply room_of <;> omega) | skip)
  refine Ok.seq ?_
  ((first | refine Ok.seqF rfl rfl ?_ | refine Ok.seqT rfl rfl ?_ | refine Ok.regF rfl rfl ?_ | refine Ok.regT rfl rfl ?_); simp only [go_sem]; (repeat' with_reducible apply And.intro); all_goals first | (with_reducible first | refine OkW.mk ?_ | refine EndW.mk ?_ | apply AskI.id | apply AskGI.id) | (with_reducible apply KOt.mk; kernel_rfl) | exact trivial | rfl | omega | ((try intro _); first | apply R64 <;> omega | apply room_of <;> omega) | skip)
  refine Ok.block ?_
  ((first | refine Ok.seqF rfl rfl ?_ | refine Ok.seqT rfl rfl ?_ | refine Ok.regF rfl rfl ?_ | refine Ok.regT rfl rfl ?_); simp only [go_sem]; (repeat' with_reducible apply And.intro); all_goals first | (with_reducible first | refine OkW.mk ?_ | refine EndW.mk ?_ | apply AskI.id | apply AskGI.id) | (with_reducible apply KOt.mk; kernel_rfl) | exact trivial | rfl | omega | ((try intro _); first | apply R64 <;> omega | apply room_of <;> omega) | skip)
  refine Ok.cond (b := false) (by first | rfl | (simp only [go_sem]; rfl)) (fun hb => by cases hb) (fun _ => ?_)
  ((first | refine Ok.seqF rfl rfl ?_ | refine Ok.seqT rfl rfl ?_ | refine Ok.regF rfl rfl ?_ | refine Ok.regT rfl rfl ?_); simp only [go_sem]; (repeat' with_reducible apply And.intro); all_goals first | (with_reducible first | refine OkW.mk ?_ | refine EndW.mk ?_ | apply AskI.id | apply AskGI.id) | (with_reducible apply KOt.mk; kernel_rfl) | exact trivial | rfl | omega | ((try intro _); first | apply R64 <;> omega | apply room_of <;> omega) | skip)
  refine Ok.cond (b := false) (by first | rfl | (simp only [go_sem]; rfl)) (fun hb => by cases hb) (fun _ => ?_)
  ((first | refine Ok.seqF rfl rfl ?_ | refine Ok.seqT rfl rfl ?_ | refine Ok.regF rfl rfl ?_ | refine Ok.regT rfl rfl ?_); simp only [go_sem]; (repeat' with_reducible apply And.intro); all_goals first | (with_reducible first | refine OkW.mk ?_ | refine EndW.mk ?_ | apply AskI.id | apply AskGI.id) | (with_reducible apply KOt.mk; kernel_rfl) | exact trivial | rfl | omega | ((try intro _); first | apply R64 <;> omega | apply room_of <;> omega) | skip)
  refine Ok.cond (b := true) (by first | rfl | (simp only [go_sem]; rfl)) (fun _ => ?_) (fun hb => by cases hb)
  ((first | refine Ok.seqF rfl rfl ?_ | refine Ok.seqT rfl rfl ?_ | refine Ok.regF rfl rfl ?_ | refine Ok.regT rfl rfl ?_); simp only [go_sem]; (repeat' with_reducible apply And.intro); all_goals first | (with_reducible first | refine OkW.mk ?_ | refine EndW.mk ?_ | apply AskI.id | apply AskGI.id) | (with_reducible apply KOt.mk; kernel_rfl) | exact trivial | rfl | omega | ((try intro _); first | apply R64 <;> omega | apply room_of <;> omega) | skip)
  ((first | refine Ok.seqF rfl rfl ?_ | refine Ok.seqT rfl rfl ?_ | refine Ok.regF rfl rfl ?_ | refine Ok.regT rfl rfl ?_); simp only [go_sem]; (repeat' with_reducible apply And.intro); all_goals first | (with_reducible first | refine OkW.mk ?_ | refine EndW.mk ?_ | apply AskI.id | apply AskGI.id) | (with_reducible apply KOt.mk; kernel_rfl) | exact trivial | rfl | omega | ((try intro _); first | apply R64 <;> omega | apply room_of <;> omega) | skip)
  (refine AskI.ret (c137) ?_; simp only [go_sem]; (repeat' with_reducible apply And.intro); all_goals first | (with_reducible first | refine OkW.mk ?_ | refine EndW.mk ?_ | apply AskI.id | apply AskGI.id) | (with_reducible apply KOt.mk; kernel_rfl) | exact trivial | rfl | omega | ((try intro _); first | apply R64 <;> omega | apply room_of <;> omega) | skip)

  (try dsimp only [thenK, blockK, noGotoK])
  refine Ok.seq ?_
  ((first | refine Ok.seqF rfl rfl ?_ | refine Ok.seqT rfl rfl ?_ | refine Ok.regF rfl rfl ?_ | refine Ok.regT rfl rfl ?_); simp only [go_sem]; (repeat' with_reducible apply And.intro); all_goals first | (with_reducible first | refine OkW.mk ?_ | refine EndW.mk ?_ | apply AskI.id | apply AskGI.id) | (with_reducible apply KOt.mk; kernel_rfl) | exact trivial | rfl | omega | ((try intro _); first | apply R64 <;> omega | apply room_of <;> omega) | skip)
  (refine AskI.ret (c204 x) ?_; simp only [go_sem]; (repeat' with_reducible apply And.intro); all_goals first | (with_reducible first | refine OkW.mk ?_ | refine EndW.mk ?_ | apply AskI.id | apply AskGI.id) | (with_reducible apply KOt.mk; kernel_rfl) | exact trivial | rfl | omega | ((try intro _); first | apply R64 <;> omega | apply room_of <;> omega) | skip)
  have hw : (letterW : List UInt8).length ≤ 20 := by decide
  refine Ok.block ?_
  generalize hNS : x.nums = ns at hns hlen ⊢
  generalize hW : letterW = wd at hw ⊢
  refine Ok.count ns.length (fun i => ⟨[(3, .d (.str (rowL wd (ns.take i)))), (39, .d (slD 1 intD ns)), (40, iS ns.length), (41, iS i)], [], []⟩) (fun _ => True) ⟨trivial, ?_⟩ ?_ ?_
  · (refine Sub.of ([]) ([]) ?_ ?_ ?_ rfl rfl <;> simp only [subB, subB1, subT, subT1, newT, subE, subV, subL, go_sem] <;> (try (repeat' with_reducible apply And.intro)) <;> (try first | exact DEq.refl _ | refine DEq.int ?_ | refine DEq.bool ?_ | omega))
    all_goals first | (rw [← hNS]; rfl) | (refine DEq.str ?_; rw [rowL_nil, ← hW, hk]; rfl) | (refine DEq.str ?_; rw [rowL_nil])
  · intro i hi _
    have hb := hns _ (getD_mem hi)
    have hl := rowL_len wd (ns.take i) (fun x hx => hns x (List.mem_of_mem_take hx))
    have hti : (ns.take i).length = i := by simp; omega
    have hil := itoaLen _ hb.1 hb.2
    have hsn : rowL wd (ns.take (i + 1)) = rowL wd (ns.take i) ++ [32] ++ Lib.itoa (ns.getD i default) := by rw [getD_take hi, rowL_snoc]
    (((first | refine Ok.seqF rfl rfl ?_ | refine Ok.seqT rfl rfl ?_ | refine Ok.regF rfl rfl ?_ | refine Ok.regT rfl rfl ?_); simp only [go_sem]; (repeat' with_reducible apply And.intro); all_goals first | (with_reducible first | refine OkW.mk ?_ | refine EndW.mk ?_ | apply AskI.id | apply AskGI.id) | (with_reducible apply KOt.mk; kernel_rfl) | exact trivial | rfl | omega | ((try intro _); first | apply R64 <;> omega | apply room_of <;> omega) | skip)); refine Ok.seq ?_; refine Ok.cond rfl (fun _ => ?_) (fun hb => by simp at hb; omega); (refine Ok.skip ?_; (try dsimp only [thenK, blockK, noGotoK])); refine Ok.seq ?_; refine Ok.block ?_
    ((first | refine Ok.seqF rfl rfl ?_ | refine Ok.seqT rfl rfl ?_ | refine Ok.regF rfl rfl ?_ | refine Ok.regT rfl rfl ?_); simp only [go_sem]; (repeat' with_reducible apply And.intro); all_goals first | (with_reducible first | refine OkW.mk ?_ | refine EndW.mk ?_ | apply AskI.id | apply AskGI.id) | (with_reducible apply KOt.mk; kernel_rfl) | exact trivial | rfl | omega | ((try intro _); first | apply R64 <;> omega | apply room_of <;> omega) | skip)
    ((first | refine Ok.seqF rfl rfl ?_ | refine Ok.seqT rfl rfl ?_ | refine Ok.regF rfl rfl ?_ | refine Ok.regT rfl rfl ?_); simp only [go_sem]; (repeat' with_reducible apply And.intro); all_goals first | (with_reducible first | refine OkW.mk ?_ | refine EndW.mk ?_ | apply AskI.id | apply AskGI.id) | (with_reducible apply KOt.mk; kernel_rfl) | exact trivial | rfl | omega | ((try intro _); first | apply R64 <;> omega | apply room_of <;> omega) | skip)
    (refine AskI.ret (c132 _ (by omega) (by omega)) ?_; simp only [go_sem]; (repeat' with_reducible apply And.intro); all_goals first | (with_reducible first | refine OkW.mk ?_ | refine EndW.mk ?_ | apply AskI.id | apply AskGI.id) | (with_reducible apply KOt.mk; kernel_rfl) | exact trivial | rfl | omega | ((try intro _); first | apply R64 <;> omega | apply room_of <;> omega) | skip)
    · simp only [strRoom, List.length_cons, List.length_nil]; omega
    · simp only [strRoom, List.length_append, List.length_cons, List.length_nil]; omega
    (try dsimp only [thenK, blockK, noGotoK])
    ((first | refine Ok.seqF rfl rfl ?_ | refine Ok.seqT rfl rfl ?_ | refine Ok.regF rfl rfl ?_ | refine Ok.regT rfl rfl ?_); simp only [go_sem]; (repeat' with_reducible apply And.intro); all_goals first | (with_reducible first | refine OkW.mk ?_ | refine EndW.mk ?_ | apply AskI.id | apply AskGI.id) | (with_reducible apply KOt.mk; kernel_rfl) | exact trivial | rfl | omega | ((try intro _); first | apply R64 <;> omega | apply room_of <;> omega) | skip)
    (try dsimp only [thenK, blockK, noGotoK])
    refine ⟨trivial, ?_⟩
    (refine Sub.of ([]) ([]) ?_ ?_ ?_ rfl rfl <;> simp only [subB, subB1, subT, subT1, newT, subE, subV, subL, go_sem] <;> (try (repeat' with_reducible apply And.intro)) <;> (try first | exact DEq.refl _ | refine DEq.int ?_ | refine DEq.bool ?_ | omega))
    refine DEq.str ?_
    rw [hsn]; simp
  · intro _
    (((first | refine Ok.seqF rfl rfl ?_ | refine Ok.seqT rfl rfl ?_ | refine Ok.regF rfl rfl ?_ | refine Ok.regT rfl rfl ?_); simp only [go_sem]; (repeat' with_reducible apply And.intro); all_goals first | (with_reducible first | refine OkW.mk ?_ | refine EndW.mk ?_ | apply AskI.id | apply AskGI.id) | (with_reducible apply KOt.mk; kernel_rfl) | exact trivial | rfl | omega | ((try intro _); first | apply R64 <;> omega | apply room_of <;> omega) | skip)); refine Ok.seq ?_; refine Ok.cond rfl (fun hb => by simp at hb) (fun _ => ?_); (refine Ok.exit ?_; simp only [thenK_exit, blockK_exit, noGotoK_exit, thenK_normal, blockK_normal, noGotoK_normal, ↓reduceIte, Nat.reduceEqDiff])
    ((first | refine Ok.seqF rfl rfl ?_ | refine Ok.seqT rfl rfl ?_ | refine Ok.regF rfl rfl ?_ | refine Ok.regT rfl rfl ?_); simp only [go_sem]; (repeat' with_reducible apply And.intro); all_goals first | (with_reducible first | refine OkW.mk ?_ | refine EndW.mk ?_ | apply AskI.id | apply AskGI.id) | (with_reducible apply KOt.mk; kernel_rfl) | exact trivial | rfl | omega | ((try intro _); first | apply R64 <;> omega | apply room_of <;> omega) | skip)
    (refine Ok.ret ?_; (try dsimp only [thenK, blockK, noGotoK]); simp only [toList_mk, List.toList_toArray, retK_ret, retK_normal, resOK, resV, celV, rowV, frzAll, frzT, subV, subL, go_sem])
    refine DEq.str ?_
    rw [List.take_length]
theorem c131b1 (k : Block) (hk : k.sure = true) (hns : ∀ n ∈ k.nums, 0 ≤ n ∧ n < 1000000) : Ctr Tryz.prog 131 [.d (.ifc 175 5 (dget k.cells))] (.d (.str (rowL (blockW k.sure) k.nums))) := by
  have hlen : (k.nums).length ≤ 6 := by simp [Street.nums, Letter.nums, Block.nums]
  unfold Block.cells
  (refine Ctr.mk (fn := Tryz.f131) rfl rfl rfl rfl rfl Tryz.results131 ?_; dsimp only [args, List.toList_toArray])
  ((first | refine Ok.seqF rfl rfl ?_ | refine Ok.seqT rfl rfl ?_ | refine Ok.regF rfl rfl ?_ | refine Ok.regT rfl rfl ?_); simp only [go_sem]; (repeat' with_reducible apply And.intro); all_goals first | (with_reducible first | refine OkW.mk ?_ | refine EndW.mk ?_ | apply AskI.id | apply AskGI.id) | (with_reducible apply KOt.mk; kernel_rfl) | exact trivial | rfl | omega | ((try intro _); first | apply R64 <;> omega | apply room_of <;> omega) | skip)
  ((first | refine Ok.seqF rfl rfl ?_ | refine Ok.seqT rfl rfl ?_ | refine Ok.regF rfl rfl ?_ | refine Ok.regT rfl rfl ?_); simp only [go_sem]; (repeat' with_reducible apply And.intro); all_goals first | (with_reducible first | refine OkW.mk ?_ | refine EndW.mk ?_ | apply AskI.id | apply AskGI.id) | (with_reducible apply KOt.mk; kernel_rfl) | exact trivial | rfl | omega | ((try intro _); first | apply R64 <;> omega | apply room_of <;> omega) | skip)
  refine Ok.seq ?_
  ((first | refine Ok.seqF rfl rfl ?_ | refine Ok.seqT rfl rfl ?_ | refine Ok.regF rfl rfl ?_ | refine Ok.regT rfl rfl ?_); simp only [go_sem]; (repeat' with_reducible apply And.intro); all_goals first | (with_reducible first | refine OkW.mk ?_ | refine EndW.mk ?_ | apply AskI.id | apply AskGI.id) | (with_reducible apply KOt.mk; kernel_rfl) | exact trivial | rfl | omega | ((try intro _); first | apply R64 <;> omega | apply room_of <;> omega) | skip)
  refine Ok.block ?_
  ((first | refine Ok.seqF rfl rfl ?_ | refine Ok.seqT rfl rfl ?_ | refine Ok.regF rfl rfl ?_ | refine Ok.regT rfl rfl ?_); simp only [go_sem]; (repeat' with_reducible apply And.intro); all_goals first | (with_reducible first | refine OkW.mk ?_ | refine EndW.mk ?_ | apply AskI.id | apply AskGI.id) | (with_reducible apply KOt.mk; kernel_rfl) | exact trivial | rfl | omega | ((try intro _); first | apply R64 <;> omega | apply room_of <;> omega) | skip)
  refine Ok.cond (b := false) (by first | rfl | (simp only [go_sem]; rfl)) (fun hb => by cases hb) (fun _ => ?_)
  ((first | refine Ok.seqF rfl rfl ?_ | refine Ok.seqT rfl rfl ?_ | refine Ok.regF rfl rfl ?_ | refine Ok.regT rfl rfl ?_); simp only [go_sem]; (repeat' with_reducible apply And.intro); all_goals first | (with_reducible first | refine OkW.mk ?_ | refine EndW.mk ?_ | apply AskI.id | apply AskGI.id) | (with_reducible apply KOt.mk; kernel_rfl) | exact trivial | rfl | omega | ((try intro _); first | apply R64 <;> omega | apply room_of <;> omega) | skip)
  refine Ok.cond (b := false) (by first | rfl | (simp only [go_sem]; rfl)) (fun hb => by cases hb) (fun _ => ?_)
  ((first | refine Ok.seqF rfl rfl ?_ | refine Ok.seqT rfl rfl ?_ | refine Ok.regF rfl rfl ?_ | refine Ok.regT rfl rfl ?_); simp only [go_sem]; (repeat' with_reducible apply And.intro); all_goals first | (with_reducible first | refine OkW.mk ?_ | refine EndW.mk ?_ | apply AskI.id | apply AskGI.id) | (with_reducible apply KOt.mk; kernel_rfl) | exact trivial | rfl | omega | ((try intro _); first | apply R64 <;> omega | apply room_of <;> omega) | skip)
  refine Ok.cond (b := false) (by first | rfl | (simp only [go_sem]; rfl)) (fun hb => by cases hb) (fun _ => ?_)
  ((first | refine Ok.seqF rfl rfl ?_ | refine Ok.seqT rfl rfl ?_ | refine Ok.regF rfl rfl ?_ | refine Ok.regT rfl rfl ?_); simp only [go_sem]; (repeat' with_reducible apply And.intro); all_goals first | (with_reducible first | refine OkW.mk ?_ | refine EndW.mk ?_ | apply AskI.id | apply AskGI.id) | (with_reducible apply KOt.mk; kernel_rfl) | exact trivial | rfl | omega | ((try intro _); first | apply R64 <;> omega | apply room_of <;> omega) | skip)
  refine Ok.cond (b := true) (by first | rfl | (simp only [go_sem]; rfl)) (fun _ => ?_) (fun hb => by cases hb)
  ((first | refine Ok.seqF rfl rfl ?_ | refine Ok.seqT rfl rfl ?_ | refine Ok.regF rfl rfl ?_ | refine Ok.regT rfl rfl ?_); simp only [go_sem]; (repeat' with_reducible apply And.intro); all_goals first | (with_reducible first | refine OkW.mk ?_ | refine EndW.mk ?_ | apply AskI.id | apply AskGI.id) | (with_reducible apply KOt.mk; kernel_rfl) | exact trivial | rfl | omega | ((try intro _); first | apply R64 <;> omega | apply room_of <;> omega) | skip)
  ((first | refine Ok.seqF rfl rfl ?_ | refine Ok.seqT rfl rfl ?_ | refine Ok.regF rfl rfl ?_ | refine Ok.regT rfl rfl ?_); simp only [go_sem]; (repeat' with_reducible apply And.intro); all_goals first | (with_reducible first | refine OkW.mk ?_ | refine EndW.mk ?_ | apply AskI.id | apply AskGI.id) | (with_reducible apply KOt.mk; kernel_rfl) | exact trivial | rfl | omega | ((try intro _); first | apply R64 <;> omega | apply room_of <;> omega) | skip)
  (refine AskI.ret (c137) ?_; simp only [go_sem]; (repeat' with_reducible apply And.intro); all_goals first | (with_reducible first | refine OkW.mk ?_ | refine EndW.mk ?_ | apply AskI.id | apply AskGI.id) | (with_reducible apply KOt.mk; kernel_rfl) | exact trivial | rfl | omega | ((try intro _); first | apply R64 <;> omega | apply room_of <;> omega) | skip)
  · unfold strRoom; decide
  ((first | refine Ok.seqF rfl rfl ?_ | refine Ok.seqT rfl rfl ?_ | refine Ok.regF rfl rfl ?_ | refine Ok.regT rfl rfl ?_); simp only [go_sem]; (repeat' with_reducible apply And.intro); all_goals first | (with_reducible first | refine OkW.mk ?_ | refine EndW.mk ?_ | apply AskI.id | apply AskGI.id) | (with_reducible apply KOt.mk; kernel_rfl) | exact trivial | rfl | omega | ((try intro _); first | apply R64 <;> omega | apply room_of <;> omega) | skip)
  refine Ok.cond rfl (fun _ => ?_) (fun hb => by rw [hk] at hb; cases hb)
  ((first | refine Ok.seqF rfl rfl ?_ | refine Ok.seqT rfl rfl ?_ | refine Ok.regF rfl rfl ?_ | refine Ok.regT rfl rfl ?_); simp only [go_sem]; (repeat' with_reducible apply And.intro); all_goals first | (with_reducible first | refine OkW.mk ?_ | refine EndW.mk ?_ | apply AskI.id | apply AskGI.id) | (with_reducible apply KOt.mk; kernel_rfl) | exact trivial | rfl | omega | ((try intro _); first | apply R64 <;> omega | apply room_of <;> omega) | skip)
  (refine AskI.ret (c137) ?_; simp only [go_sem]; (repeat' with_reducible apply And.intro); all_goals first | (with_reducible first | refine OkW.mk ?_ | refine EndW.mk ?_ | apply AskI.id | apply AskGI.id) | (with_reducible apply KOt.mk; kernel_rfl) | exact trivial | rfl | omega | ((try intro _); first | apply R64 <;> omega | apply room_of <;> omega) | skip)
  · unfold strRoom; decide

  (try dsimp only [thenK, blockK, noGotoK])
  refine Ok.seq ?_
  ((first | refine Ok.seqF rfl rfl ?_ | refine Ok.seqT rfl rfl ?_ | refine Ok.regF rfl rfl ?_ | refine Ok.regT rfl rfl ?_); simp only [go_sem]; (repeat' with_reducible apply And.intro); all_goals first | (with_reducible first | refine OkW.mk ?_ | refine EndW.mk ?_ | apply AskI.id | apply AskGI.id) | (with_reducible apply KOt.mk; kernel_rfl) | exact trivial | rfl | omega | ((try intro _); first | apply R64 <;> omega | apply room_of <;> omega) | skip)
  (refine AskI.ret (c205 k) ?_; simp only [go_sem]; (repeat' with_reducible apply And.intro); all_goals first | (with_reducible first | refine OkW.mk ?_ | refine EndW.mk ?_ | apply AskI.id | apply AskGI.id) | (with_reducible apply KOt.mk; kernel_rfl) | exact trivial | rfl | omega | ((try intro _); first | apply R64 <;> omega | apply room_of <;> omega) | skip)
  have hw : ((blockW k.sure) : List UInt8).length ≤ 20 := by cases k.sure <;> decide
  refine Ok.block ?_
  generalize hNS : k.nums = ns at hns hlen ⊢
  generalize hW : (blockW k.sure) = wd at hw ⊢
  refine Ok.count ns.length (fun i => ⟨[(3, .d (.str (rowL wd (ns.take i)))), (39, .d (slD 1 intD ns)), (40, iS ns.length), (41, iS i)], [], []⟩) (fun _ => True) ⟨trivial, ?_⟩ ?_ ?_
  · (refine Sub.of ([]) ([]) ?_ ?_ ?_ rfl rfl <;> simp only [subB, subB1, subT, subT1, newT, subE, subV, subL, go_sem] <;> (try (repeat' with_reducible apply And.intro)) <;> (try first | exact DEq.refl _ | refine DEq.int ?_ | refine DEq.bool ?_ | omega))
    all_goals first | (rw [← hNS]; rfl) | (refine DEq.str ?_; rw [rowL_nil, ← hW, hk]; rfl) | (refine DEq.str ?_; rw [rowL_nil])
  · intro i hi _
    have hb := hns _ (getD_mem hi)
    have hl := rowL_len wd (ns.take i) (fun x hx => hns x (List.mem_of_mem_take hx))
    have hti : (ns.take i).length = i := by simp; omega
    have hil := itoaLen _ hb.1 hb.2
    have hsn : rowL wd (ns.take (i + 1)) = rowL wd (ns.take i) ++ [32] ++ Lib.itoa (ns.getD i default) := by rw [getD_take hi, rowL_snoc]
    (((first | refine Ok.seqF rfl rfl ?_ | refine Ok.seqT rfl rfl ?_ | refine Ok.regF rfl rfl ?_ | refine Ok.regT rfl rfl ?_); simp only [go_sem]; (repeat' with_reducible apply And.intro); all_goals first | (with_reducible first | refine OkW.mk ?_ | refine EndW.mk ?_ | apply AskI.id | apply AskGI.id) | (with_reducible apply KOt.mk; kernel_rfl) | exact trivial | rfl | omega | ((try intro _); first | apply R64 <;> omega | apply room_of <;> omega) | skip)); refine Ok.seq ?_; refine Ok.cond rfl (fun _ => ?_) (fun hb => by simp at hb; omega); (refine Ok.skip ?_; (try dsimp only [thenK, blockK, noGotoK])); refine Ok.seq ?_; refine Ok.block ?_
    ((first | refine Ok.seqF rfl rfl ?_ | refine Ok.seqT rfl rfl ?_ | refine Ok.regF rfl rfl ?_ | refine Ok.regT rfl rfl ?_); simp only [go_sem]; (repeat' with_reducible apply And.intro); all_goals first | (with_reducible first | refine OkW.mk ?_ | refine EndW.mk ?_ | apply AskI.id | apply AskGI.id) | (with_reducible apply KOt.mk; kernel_rfl) | exact trivial | rfl | omega | ((try intro _); first | apply R64 <;> omega | apply room_of <;> omega) | skip)
    ((first | refine Ok.seqF rfl rfl ?_ | refine Ok.seqT rfl rfl ?_ | refine Ok.regF rfl rfl ?_ | refine Ok.regT rfl rfl ?_); simp only [go_sem]; (repeat' with_reducible apply And.intro); all_goals first | (with_reducible first | refine OkW.mk ?_ | refine EndW.mk ?_ | apply AskI.id | apply AskGI.id) | (with_reducible apply KOt.mk; kernel_rfl) | exact trivial | rfl | omega | ((try intro _); first | apply R64 <;> omega | apply room_of <;> omega) | skip)
    (refine AskI.ret (c132 _ (by omega) (by omega)) ?_; simp only [go_sem]; (repeat' with_reducible apply And.intro); all_goals first | (with_reducible first | refine OkW.mk ?_ | refine EndW.mk ?_ | apply AskI.id | apply AskGI.id) | (with_reducible apply KOt.mk; kernel_rfl) | exact trivial | rfl | omega | ((try intro _); first | apply R64 <;> omega | apply room_of <;> omega) | skip)
    · simp only [strRoom, List.length_cons, List.length_nil]; omega
    · simp only [strRoom, List.length_append, List.length_cons, List.length_nil]; omega
    (try dsimp only [thenK, blockK, noGotoK])
    ((first | refine Ok.seqF rfl rfl ?_ | refine Ok.seqT rfl rfl ?_ | refine Ok.regF rfl rfl ?_ | refine Ok.regT rfl rfl ?_); simp only [go_sem]; (repeat' with_reducible apply And.intro); all_goals first | (with_reducible first | refine OkW.mk ?_ | refine EndW.mk ?_ | apply AskI.id | apply AskGI.id) | (with_reducible apply KOt.mk; kernel_rfl) | exact trivial | rfl | omega | ((try intro _); first | apply R64 <;> omega | apply room_of <;> omega) | skip)
    (try dsimp only [thenK, blockK, noGotoK])
    refine ⟨trivial, ?_⟩
    (refine Sub.of ([]) ([]) ?_ ?_ ?_ rfl rfl <;> simp only [subB, subB1, subT, subT1, newT, subE, subV, subL, go_sem] <;> (try (repeat' with_reducible apply And.intro)) <;> (try first | exact DEq.refl _ | refine DEq.int ?_ | refine DEq.bool ?_ | omega))
    refine DEq.str ?_
    rw [hsn]; simp
  · intro _
    (((first | refine Ok.seqF rfl rfl ?_ | refine Ok.seqT rfl rfl ?_ | refine Ok.regF rfl rfl ?_ | refine Ok.regT rfl rfl ?_); simp only [go_sem]; (repeat' with_reducible apply And.intro); all_goals first | (with_reducible first | refine OkW.mk ?_ | refine EndW.mk ?_ | apply AskI.id | apply AskGI.id) | (with_reducible apply KOt.mk; kernel_rfl) | exact trivial | rfl | omega | ((try intro _); first | apply R64 <;> omega | apply room_of <;> omega) | skip)); refine Ok.seq ?_; refine Ok.cond rfl (fun hb => by simp at hb) (fun _ => ?_); (refine Ok.exit ?_; simp only [thenK_exit, blockK_exit, noGotoK_exit, thenK_normal, blockK_normal, noGotoK_normal, ↓reduceIte, Nat.reduceEqDiff])
    ((first | refine Ok.seqF rfl rfl ?_ | refine Ok.seqT rfl rfl ?_ | refine Ok.regF rfl rfl ?_ | refine Ok.regT rfl rfl ?_); simp only [go_sem]; (repeat' with_reducible apply And.intro); all_goals first | (with_reducible first | refine OkW.mk ?_ | refine EndW.mk ?_ | apply AskI.id | apply AskGI.id) | (with_reducible apply KOt.mk; kernel_rfl) | exact trivial | rfl | omega | ((try intro _); first | apply R64 <;> omega | apply room_of <;> omega) | skip)
    (refine Ok.ret ?_; (try dsimp only [thenK, blockK, noGotoK]); simp only [toList_mk, List.toList_toArray, retK_ret, retK_normal, resOK, resV, celV, rowV, frzAll, frzT, subV, subL, go_sem])
    refine DEq.str ?_
    rw [List.take_length]
theorem c131b0 (k : Block) (hk : k.sure = false) (hns : ∀ n ∈ k.nums, 0 ≤ n ∧ n < 1000000) : Ctr Tryz.prog 131 [.d (.ifc 175 5 (dget k.cells))] (.d (.str (rowL (blockW k.sure) k.nums))) := by
  have hlen : (k.nums).length ≤ 6 := by simp [Street.nums, Letter.nums, Block.nums]
  unfold Block.cells
  (refine Ctr.mk (fn := Tryz.f131) rfl rfl rfl rfl rfl Tryz.results131 ?_; dsimp only [args, List.toList_toArray])
  ((first | refine Ok.seqF rfl rfl ?_ | refine Ok.seqT rfl rfl ?_ | refine Ok.regF rfl rfl ?_ | refine Ok.regT rfl rfl ?_); simp only [go_sem]; (repeat' with_reducible apply And.intro); all_goals first | (with_reducible first | refine OkW.mk ?_ | refine EndW.mk ?_ | apply AskI.id | apply AskGI.id) | (with_reducible apply KOt.mk; kernel_rfl) | exact trivial | rfl | omega | ((try intro _); first | apply R64 <;> omega | apply room_of <;> omega) | skip)
  ((first | refine Ok.seqF rfl rfl ?_ | refine Ok.seqT rfl rfl ?_ | refine Ok.regF rfl rfl ?_ | refine Ok.regT rfl rfl ?_); simp only [go_sem]; (repeat' with_reducible apply And.intro); all_goals first | (with_reducible first | refine OkW.mk ?_ | refine EndW.mk ?_ | apply AskI.id | apply AskGI.id) | (with_reducible apply KOt.mk; kernel_rfl) | exact trivial | rfl | omega | ((try intro _); first | apply R64 <;> omega | apply room_of <;> omega) | skip)
  refine Ok.seq ?_
  ((first | refine Ok.seqF rfl rfl ?_ | refine Ok.seqT rfl rfl ?_ | refine Ok.regF rfl rfl ?_ | refine Ok.regT rfl rfl ?_); simp only [go_sem]; (repeat' with_reducible apply And.intro); all_goals first | (with_reducible first | refine OkW.mk ?_ | refine EndW.mk ?_ | apply AskI.id | apply AskGI.id) | (with_reducible apply KOt.mk; kernel_rfl) | exact trivial | rfl | omega | ((try intro _); first | apply R64 <;> omega | apply room_of <;> omega) | skip)
  refine Ok.block ?_
  ((first | refine Ok.seqF rfl rfl ?_ | refine Ok.seqT rfl rfl ?_ | refine Ok.regF rfl rfl ?_ | refine Ok.regT rfl rfl ?_); simp only [go_sem]; (repeat' with_reducible apply And.intro); all_goals first | (with_reducible first | refine OkW.mk ?_ | refine EndW.mk ?_ | apply AskI.id | apply AskGI.id) | (with_reducible apply KOt.mk; kernel_rfl) | exact trivial | rfl | omega | ((try intro _); first | apply R64 <;> omega | apply room_of <;> omega) | skip)
  refine Ok.cond (b := false) (by first | rfl | (simp only [go_sem]; rfl)) (fun hb => by cases hb) (fun _ => ?_)
  ((first | refine Ok.seqF rfl rfl ?_ | refine Ok.seqT rfl rfl ?_ | refine Ok.regF rfl rfl ?_ | refine Ok.regT rfl rfl ?_); simp only [go_sem]; (repeat' with_reducible apply And.intro); all_goals first | (with_reducible first | refine OkW.mk ?_ | refine EndW.mk ?_ | apply AskI.id | apply AskGI.id) | (with_reducible apply KOt.mk; kernel_rfl) | exact trivial | rfl | omega | ((try intro _); first | apply R64 <;> omega | apply room_of <;> omega) | skip)
  refine Ok.cond (b := false) (by first | rfl | (simp only [go_sem]; rfl)) (fun hb => by cases hb) (fun _ => ?_)
  ((first | refine Ok.seqF rfl rfl ?_ | refine Ok.seqT rfl rfl ?_ | refine Ok.regF rfl rfl ?_ | refine Ok.regT rfl rfl ?_); simp only [go_sem]; (repeat' with_reducible apply And.intro); all_goals first | (with_reducible first | refine OkW.mk ?_ | refine EndW.mk ?_ | apply AskI.id | apply AskGI.id) | (with_reducible apply KOt.mk; kernel_rfl) | exact trivial | rfl | omega | ((try intro _); first | apply R64 <;> omega | apply room_of <;> omega) | skip)
  refine Ok.cond (b := false) (by first | rfl | (simp only [go_sem]; rfl)) (fun hb => by cases hb) (fun _ => ?_)
  ((first | refine Ok.seqF rfl rfl ?_ | refine Ok.seqT rfl rfl ?_ | refine Ok.regF rfl rfl ?_ | refine Ok.regT rfl rfl ?_); simp only [go_sem]; (repeat' with_reducible apply And.intro); all_goals first | (with_reducible first | refine OkW.mk ?_ | refine EndW.mk ?_ | apply AskI.id | apply AskGI.id) | (with_reducible apply KOt.mk; kernel_rfl) | exact trivial | rfl | omega | ((try intro _); first | apply R64 <;> omega | apply room_of <;> omega) | skip)
  refine Ok.cond (b := true) (by first | rfl | (simp only [go_sem]; rfl)) (fun _ => ?_) (fun hb => by cases hb)
  ((first | refine Ok.seqF rfl rfl ?_ | refine Ok.seqT rfl rfl ?_ | refine Ok.regF rfl rfl ?_ | refine Ok.regT rfl rfl ?_); simp only [go_sem]; (repeat' with_reducible apply And.intro); all_goals first | (with_reducible first | refine OkW.mk ?_ | refine EndW.mk ?_ | apply AskI.id | apply AskGI.id) | (with_reducible apply KOt.mk; kernel_rfl) | exact trivial | rfl | omega | ((try intro _); first | apply R64 <;> omega | apply room_of <;> omega) | skip)
  ((first | refine Ok.seqF rfl rfl ?_ | refine Ok.seqT rfl rfl ?_ | refine Ok.regF rfl rfl ?_ | refine Ok.regT rfl rfl ?_); simp only [go_sem]; (repeat' with_reducible apply And.intro); all_goals first | (with_reducible first | refine OkW.mk ?_ | refine EndW.mk ?_ | apply AskI.id | apply AskGI.id) | (with_reducible apply KOt.mk; kernel_rfl) | exact trivial | rfl | omega | ((try intro _); first | apply R64 <;> omega | apply room_of <;> omega) | skip)
  (refine AskI.ret (c137) ?_; simp only [go_sem]; (repeat' with_reducible apply And.intro); all_goals first | (with_reducible first | refine OkW.mk ?_ | refine EndW.mk ?_ | apply AskI.id | apply AskGI.id) | (with_reducible apply KOt.mk; kernel_rfl) | exact trivial | rfl | omega | ((try intro _); first | apply R64 <;> omega | apply room_of <;> omega) | skip)
  · unfold strRoom; decide
  ((first | refine Ok.seqF rfl rfl ?_ | refine Ok.seqT rfl rfl ?_ | refine Ok.regF rfl rfl ?_ | refine Ok.regT rfl rfl ?_); simp only [go_sem]; (repeat' with_reducible apply And.intro); all_goals first | (with_reducible first | refine OkW.mk ?_ | refine EndW.mk ?_ | apply AskI.id | apply AskGI.id) | (with_reducible apply KOt.mk; kernel_rfl) | exact trivial | rfl | omega | ((try intro _); first | apply R64 <;> omega | apply room_of <;> omega) | skip)
  refine Ok.cond rfl (fun hb => by rw [hk] at hb; cases hb) (fun _ => ?_)
  (refine Ok.skip ?_; (try dsimp only [thenK, blockK, noGotoK]))

  (try dsimp only [thenK, blockK, noGotoK])
  refine Ok.seq ?_
  ((first | refine Ok.seqF rfl rfl ?_ | refine Ok.seqT rfl rfl ?_ | refine Ok.regF rfl rfl ?_ | refine Ok.regT rfl rfl ?_); simp only [go_sem]; (repeat' with_reducible apply And.intro); all_goals first | (with_reducible first | refine OkW.mk ?_ | refine EndW.mk ?_ | apply AskI.id | apply AskGI.id) | (with_reducible apply KOt.mk; kernel_rfl) | exact trivial | rfl | omega | ((try intro _); first | apply R64 <;> omega | apply room_of <;> omega) | skip)
  (refine AskI.ret (c205 k) ?_; simp only [go_sem]; (repeat' with_reducible apply And.intro); all_goals first | (with_reducible first | refine OkW.mk ?_ | refine EndW.mk ?_ | apply AskI.id | apply AskGI.id) | (with_reducible apply KOt.mk; kernel_rfl) | exact trivial | rfl | omega | ((try intro _); first | apply R64 <;> omega | apply room_of <;> omega) | skip)
  have hw : ((blockW k.sure) : List UInt8).length ≤ 20 := by cases k.sure <;> decide
  refine Ok.block ?_
  generalize hNS : k.nums = ns at hns hlen ⊢
  generalize hW : (blockW k.sure) = wd at hw ⊢
  refine Ok.count ns.length (fun i => ⟨[(3, .d (.str (rowL wd (ns.take i)))), (39, .d (slD 1 intD ns)), (40, iS ns.length), (41, iS i)], [], []⟩) (fun _ => True) ⟨trivial, ?_⟩ ?_ ?_
  · (refine Sub.of ([]) ([]) ?_ ?_ ?_ rfl rfl <;> simp only [subB, subB1, subT, subT1, newT, subE, subV, subL, go_sem] <;> (try (repeat' with_reducible apply And.intro)) <;> (try first | exact DEq.refl _ | refine DEq.int ?_ | refine DEq.bool ?_ | omega))
    all_goals first | (rw [← hNS]; rfl) | (refine DEq.str ?_; rw [rowL_nil, ← hW, hk]; rfl) | (refine DEq.str ?_; rw [rowL_nil])
  · intro i hi _
    have hb := hns _ (getD_mem hi)
    have hl := rowL_len wd (ns.take i) (fun x hx => hns x (List.mem_of_mem_take hx))
    have hti : (ns.take i).length = i := by simp; omega
    have hil := itoaLen _ hb.1 hb.2
    have hsn : rowL wd (ns.take (i + 1)) = rowL wd (ns.take i) ++ [32] ++ Lib.itoa (ns.getD i default) := by rw [getD_take hi, rowL_snoc]
    (((first | refine Ok.seqF rfl rfl ?_ | refine Ok.seqT rfl rfl ?_ | refine Ok.regF rfl rfl ?_ | refine Ok.regT rfl rfl ?_); simp only [go_sem]; (repeat' with_reducible apply And.intro); all_goals first | (with_reducible first | refine OkW.mk ?_ | refine EndW.mk ?_ | apply AskI.id | apply AskGI.id) | (with_reducible apply KOt.mk; kernel_rfl) | exact trivial | rfl | omega | ((try intro _); first | apply R64 <;> omega | apply room_of <;> omega) | skip)); refine Ok.seq ?_; refine Ok.cond rfl (fun _ => ?_) (fun hb => by simp at hb; omega); (refine Ok.skip ?_; (try dsimp only [thenK, blockK, noGotoK])); refine Ok.seq ?_; refine Ok.block ?_
    ((first | refine Ok.seqF rfl rfl ?_ | refine Ok.seqT rfl rfl ?_ | refine Ok.regF rfl rfl ?_ | refine Ok.regT rfl rfl ?_); simp only [go_sem]; (repeat' with_reducible apply And.intro); all_goals first | (with_reducible first | refine OkW.mk ?_ | refine EndW.mk ?_ | apply AskI.id | apply AskGI.id) | (with_reducible apply KOt.mk; kernel_rfl) | exact trivial | rfl | omega | ((try intro _); first | apply R64 <;> omega | apply room_of <;> omega) | skip)
    ((first | refine Ok.seqF rfl rfl ?_ | refine Ok.seqT rfl rfl ?_ | refine Ok.regF rfl rfl ?_ | refine Ok.regT rfl rfl ?_); simp only [go_sem]; (repeat' with_reducible apply And.intro); all_goals first | (with_reducible first | refine OkW.mk ?_ | refine EndW.mk ?_ | apply AskI.id | apply AskGI.id) | (with_reducible apply KOt.mk; kernel_rfl) | exact trivial | rfl | omega | ((try intro _); first | apply R64 <;> omega | apply room_of <;> omega) | skip)
    (refine AskI.ret (c132 _ (by omega) (by omega)) ?_; simp only [go_sem]; (repeat' with_reducible apply And.intro); all_goals first | (with_reducible first | refine OkW.mk ?_ | refine EndW.mk ?_ | apply AskI.id | apply AskGI.id) | (with_reducible apply KOt.mk; kernel_rfl) | exact trivial | rfl | omega | ((try intro _); first | apply R64 <;> omega | apply room_of <;> omega) | skip)
    · simp only [strRoom, List.length_cons, List.length_nil]; omega
    · simp only [strRoom, List.length_append, List.length_cons, List.length_nil]; omega
    (try dsimp only [thenK, blockK, noGotoK])
    ((first | refine Ok.seqF rfl rfl ?_ | refine Ok.seqT rfl rfl ?_ | refine Ok.regF rfl rfl ?_ | refine Ok.regT rfl rfl ?_); simp only [go_sem]; (repeat' with_reducible apply And.intro); all_goals first | (with_reducible first | refine OkW.mk ?_ | refine EndW.mk ?_ | apply AskI.id | apply AskGI.id) | (with_reducible apply KOt.mk; kernel_rfl) | exact trivial | rfl | omega | ((try intro _); first | apply R64 <;> omega | apply room_of <;> omega) | skip)
    (try dsimp only [thenK, blockK, noGotoK])
    refine ⟨trivial, ?_⟩
    (refine Sub.of ([]) ([]) ?_ ?_ ?_ rfl rfl <;> simp only [subB, subB1, subT, subT1, newT, subE, subV, subL, go_sem] <;> (try (repeat' with_reducible apply And.intro)) <;> (try first | exact DEq.refl _ | refine DEq.int ?_ | refine DEq.bool ?_ | omega))
    refine DEq.str ?_
    rw [hsn]; simp
  · intro _
    (((first | refine Ok.seqF rfl rfl ?_ | refine Ok.seqT rfl rfl ?_ | refine Ok.regF rfl rfl ?_ | refine Ok.regT rfl rfl ?_); simp only [go_sem]; (repeat' with_reducible apply And.intro); all_goals first | (with_reducible first | refine OkW.mk ?_ | refine EndW.mk ?_ | apply AskI.id | apply AskGI.id) | (with_reducible apply KOt.mk; kernel_rfl) | exact trivial | rfl | omega | ((try intro _); first | apply R64 <;> omega | apply room_of <;> omega) | skip)); refine Ok.seq ?_; refine Ok.cond rfl (fun hb => by simp at hb) (fun _ => ?_); (refine Ok.exit ?_; simp only [thenK_exit, blockK_exit, noGotoK_exit, thenK_normal, blockK_normal, noGotoK_normal, ↓reduceIte, Nat.reduceEqDiff])
    ((first | refine Ok.seqF rfl rfl ?_ | refine Ok.seqT rfl rfl ?_ | refine Ok.regF rfl rfl ?_ | refine Ok.regT rfl rfl ?_); simp only [go_sem]; (repeat' with_reducible apply And.intro); all_goals first | (with_reducible first | refine OkW.mk ?_ | refine EndW.mk ?_ | apply AskI.id | apply AskGI.id) | (with_reducible apply KOt.mk; kernel_rfl) | exact trivial | rfl | omega | ((try intro _); first | apply R64 <;> omega | apply room_of <;> omega) | skip)
    (refine Ok.ret ?_; (try dsimp only [thenK, blockK, noGotoK]); simp only [toList_mk, List.toList_toArray, retK_ret, retK_normal, resOK, resV, celV, rowV, frzAll, frzT, subV, subL, go_sem])
    refine DEq.str ?_
    rw [List.take_length]
end Go.Proofs.Sight
namespace Go.Proofs.Sight
open Go Go.RX Go.Proofs
set_option maxRecDepth 10000
theorem join_tail (l : List (List UInt8)) (h : l ≠ []) : Lib.joinTail [10] l = [10] ++ Lib.join l [10] := by
  cases l with
  | nil => exact (h rfl).elim
  | cons y t => rw [Lib.join_cons]; simp [Lib.joinTail]
theorem join_flat (e : List UInt8) : ∀ l : List (List UInt8), Lib.join (l ++ [e]) [10] = flatL l ++ e
  | [] => by simp [Lib.join_one, flatL]
  | x :: l => by
    rw [List.cons_append, Lib.join_cons, join_tail _ (by simp), join_flat e l]
    simp [flatL]
theorem endL_len {c : Nat} (h : c < 179) : (endL c).length ≤ 67 := by
  have l1 := decLen (c / 100) (by omega)
  have l2 := decLen (c / 10 % 10) (by omega)
  have l3 := decLen (c % 10) (by omega)
  simp only [endL, List.length_append, List.length_cons, List.length_nil]; omega
theorem c104 (s : Street) (hs : s.small) : Ctr Tryz.prog 104 [s.sv] (.d (.str (sealedL (rowsOf s)))) := by
  have hnb := hs.nb
  have hnk := hs.nk
  (refine Ctr.mk (fn := Tryz.f104) rfl rfl rfl rfl rfl Tryz.results104 ?_; dsimp only [args, List.toList_toArray])
  ((first | refine Ok.seqF rfl rfl ?_ | refine Ok.seqT rfl rfl ?_ | refine Ok.regF rfl rfl ?_ | refine Ok.regT rfl rfl ?_); simp only [go_sem]; (repeat' with_reducible apply And.intro); all_goals first | (with_reducible first | refine OkW.mk ?_ | refine EndW.mk ?_ | apply AskI.id | apply AskGI.id) | (with_reducible apply KOt.mk; kernel_rfl) | exact trivial | rfl | omega | ((try intro _); first | apply R64 <;> omega | apply room_of <;> omega) | skip)
  ((first | refine Ok.seqF rfl rfl ?_ | refine Ok.seqT rfl rfl ?_ | refine Ok.regF rfl rfl ?_ | refine Ok.regT rfl rfl ?_); simp only [go_sem]; (repeat' with_reducible apply And.intro); all_goals first | (with_reducible first | refine OkW.mk ?_ | refine EndW.mk ?_ | apply AskI.id | apply AskGI.id) | (with_reducible apply KOt.mk; kernel_rfl) | exact trivial | rfl | omega | ((try intro _); first | apply R64 <;> omega | apply room_of <;> omega) | skip)
  (refine AskI.ret (c131h s hs.n) ?_; simp only [go_sem]; (repeat' with_reducible apply And.intro); all_goals first | (with_reducible first | refine OkW.mk ?_ | refine EndW.mk ?_ | apply AskI.id | apply AskGI.id) | (with_reducible apply KOt.mk; kernel_rfl) | exact trivial | rfl | omega | ((try intro _); first | apply R64 <;> omega | apply room_of <;> omega) | skip)
  refine Ok.seq ?_
  ((first | refine Ok.seqF rfl rfl ?_ | refine Ok.seqT rfl rfl ?_ | refine Ok.regF rfl rfl ?_ | refine Ok.regT rfl rfl ?_); simp only [go_sem]; (repeat' with_reducible apply And.intro); all_goals first | (with_reducible first | refine OkW.mk ?_ | refine EndW.mk ?_ | apply AskI.id | apply AskGI.id) | (with_reducible apply KOt.mk; kernel_rfl) | exact trivial | rfl | omega | ((try intro _); first | apply R64 <;> omega | apply room_of <;> omega) | skip)
  refine Ok.block ?_
  refine Ok.count s.bs.length (fun i => ⟨[(1, .p 0 0), (3, .tk 0), (20, .d (slD 2 boaD s.bs)), (21, iS s.bs.length), (22, iS i)], [streetB s], [ownD 9 1 strD (rowsB s i)]⟩) (fun _ => True) ⟨trivial, ?_⟩ ?_ ?_
  · (refine Sub.of ([0]) ([some 0]) ?_ ?_ ?_ rfl rfl <;> simp only [subB, subB1, subT, subT1, newT, subE, subV, subL, go_sem] <;> (try (repeat' with_reducible apply And.intro)) <;> (try first | exact DEq.refl _ | refine DEq.int ?_ | refine DEq.bool ?_ | omega))
    · rfl
    · intro i j hi hj
      have h1 : i = 0 := by omega
      have h2 : j = 0 := by omega
      subst h1; subst h2
      exact .refl _
  · intro i hi _
    have hl := rowsB_len s i hs
    have hb := hs.b _ (getD_mem hi)
    have hnl : (s.bs.getD i default).ls.length ≤ 501 := by
      have := rowsL_len s (j := (s.bs.getD i default).ls.length) hi hs
      simp only [rowsL, List.length_append, List.length_cons, List.length_map, List.take_length] at this
      omega
    (((first | refine Ok.seqF rfl rfl ?_ | refine Ok.seqT rfl rfl ?_ | refine Ok.regF rfl rfl ?_ | refine Ok.regT rfl rfl ?_); simp only [go_sem]; (repeat' with_reducible apply And.intro); all_goals first | (with_reducible first | refine OkW.mk ?_ | refine EndW.mk ?_ | apply AskI.id | apply AskGI.id) | (with_reducible apply KOt.mk; kernel_rfl) | exact trivial | rfl | omega | ((try intro _); first | apply R64 <;> omega | apply room_of <;> omega) | skip)); refine Ok.seq ?_; refine Ok.cond rfl (fun _ => ?_) (fun hb => by simp at hb; omega); (refine Ok.skip ?_; (try dsimp only [thenK, blockK, noGotoK])); refine Ok.seq ?_; refine Ok.block ?_
    ((first | refine Ok.seqF rfl rfl ?_ | refine Ok.seqT rfl rfl ?_ | refine Ok.regF rfl rfl ?_ | refine Ok.regT rfl rfl ?_); simp only [go_sem]; (repeat' with_reducible apply And.intro); all_goals first | (with_reducible first | refine OkW.mk ?_ | refine EndW.mk ?_ | apply AskI.id | apply AskGI.id) | (with_reducible apply KOt.mk; kernel_rfl) | exact trivial | rfl | omega | ((try intro _); first | apply R64 <;> omega | apply room_of <;> omega) | skip)
    ((first | refine Ok.seqF rfl rfl ?_ | refine Ok.seqT rfl rfl ?_ | refine Ok.regF rfl rfl ?_ | refine Ok.regT rfl rfl ?_); simp only [go_sem]; (repeat' with_reducible apply And.intro); all_goals first | (with_reducible first | refine OkW.mk ?_ | refine EndW.mk ?_ | apply AskI.id | apply AskGI.id) | (with_reducible apply KOt.mk; kernel_rfl) | exact trivial | rfl | omega | ((try intro _); first | apply R64 <;> omega | apply room_of <;> omega) | skip)
    (refine AskI.ret (c131s (s.bs.getD i default) (fun n hn => by simp at hn; subst hn; simpa using hb)) ?_; simp only [go_sem]; (repeat' with_reducible apply And.intro); all_goals first | (with_reducible first | refine OkW.mk ?_ | refine EndW.mk ?_ | apply AskI.id | apply AskGI.id) | (with_reducible apply KOt.mk; kernel_rfl) | exact trivial | rfl | omega | ((try intro _); first | apply R64 <;> omega | apply room_of <;> omega) | skip)
    ((first | refine Ok.seqF rfl rfl ?_ | refine Ok.seqT rfl rfl ?_ | refine Ok.regF rfl rfl ?_ | refine Ok.regT rfl rfl ?_); simp only [go_sem]; (repeat' with_reducible apply And.intro); all_goals first | (with_reducible first | refine OkW.mk ?_ | refine EndW.mk ?_ | apply AskI.id | apply AskGI.id) | (with_reducible apply KOt.mk; kernel_rfl) | exact trivial | rfl | omega | ((try intro _); first | apply R64 <;> omega | apply room_of <;> omega) | skip)
    refine Ok.block ?_
    refine Ok.count (s.bs.getD i default).ls.length (fun j => ⟨[(1, .p 0 0), (3, .tk 0), (5, .p 1 0), (20, .d (slD 2 boaD s.bs)), (21, iS s.bs.length), (22, iS i), (34, .d (slD 4 letD (s.bs.getD i default).ls)), (35, iS (s.bs.getD i default).ls.length), (36, iS j)], [streetB s, boardB (s.bs.getD i default)], [ownD 9 1 strD (rowsL s i j)]⟩) (fun _ => True) ⟨trivial, ?_⟩ ?_ ?_
    · (refine Sub.of ([0, 1]) ([some 2]) ?_ ?_ ?_ rfl rfl <;> simp only [subB, subB1, subT, subT1, newT, subE, subV, subL, go_sem] <;> (try (repeat' with_reducible apply And.intro)) <;> (try first | exact DEq.refl _ | refine DEq.int ?_ | refine DEq.bool ?_ | omega))
      · rw [rowsL_zero]; simp
      · rw [rowsL_zero]
        exact snoc_D (str_snoc _)
    · intro j hj _
      have hl2 := rowsL_len s (j := j) hi hs
      have hx := hs.l _ (getD_mem hi) _ (getD_mem hj)
      have hk2 : (s.bs[i]?.getD default).ls.length = (s.bs.getD i default).ls.length := by rw [List.getD_eq_getElem?_getD]
      (((first | refine Ok.seqF rfl rfl ?_ | refine Ok.seqT rfl rfl ?_ | refine Ok.regF rfl rfl ?_ | refine Ok.regT rfl rfl ?_); simp only [go_sem]; (repeat' with_reducible apply And.intro); all_goals first | (with_reducible first | refine OkW.mk ?_ | refine EndW.mk ?_ | apply AskI.id | apply AskGI.id) | (with_reducible apply KOt.mk; kernel_rfl) | exact trivial | rfl | omega | ((try intro _); first | apply R64 <;> omega | apply room_of <;> omega) | skip)); refine Ok.seq ?_; refine Ok.cond rfl (fun _ => ?_) (fun hb => by simp at hb; omega); (refine Ok.skip ?_; (try dsimp only [thenK, blockK, noGotoK])); refine Ok.seq ?_; refine Ok.block ?_
      ((first | refine Ok.seqF rfl rfl ?_ | refine Ok.seqT rfl rfl ?_ | refine Ok.regF rfl rfl ?_ | refine Ok.regT rfl rfl ?_); simp only [go_sem]; (repeat' with_reducible apply And.intro); all_goals first | (with_reducible first | refine OkW.mk ?_ | refine EndW.mk ?_ | apply AskI.id | apply AskGI.id) | (with_reducible apply KOt.mk; kernel_rfl) | exact trivial | rfl | omega | ((try intro _); first | apply R64 <;> omega | apply room_of <;> omega) | skip)
      ((first | refine Ok.seqF rfl rfl ?_ | refine Ok.seqT rfl rfl ?_ | refine Ok.regF rfl rfl ?_ | refine Ok.regT rfl rfl ?_); simp only [go_sem]; (repeat' with_reducible apply And.intro); all_goals first | (with_reducible first | refine OkW.mk ?_ | refine EndW.mk ?_ | apply AskI.id | apply AskGI.id) | (with_reducible apply KOt.mk; kernel_rfl) | exact trivial | rfl | omega | ((try intro _); first | apply R64 <;> omega | apply room_of <;> omega) | skip)
      (refine AskI.ret (c131m ((s.bs.getD i default).ls.getD j default) hx) ?_; simp only [go_sem]; (repeat' with_reducible apply And.intro); all_goals first | (with_reducible first | refine OkW.mk ?_ | refine EndW.mk ?_ | apply AskI.id | apply AskGI.id) | (with_reducible apply KOt.mk; kernel_rfl) | exact trivial | rfl | omega | ((try intro _); first | apply R64 <;> omega | apply room_of <;> omega) | skip)
      (try dsimp only [thenK, blockK, noGotoK])
      ((first | refine Ok.seqF rfl rfl ?_ | refine Ok.seqT rfl rfl ?_ | refine Ok.regF rfl rfl ?_ | refine Ok.regT rfl rfl ?_); simp only [go_sem]; (repeat' with_reducible apply And.intro); all_goals first | (with_reducible first | refine OkW.mk ?_ | refine EndW.mk ?_ | apply AskI.id | apply AskGI.id) | (with_reducible apply KOt.mk; kernel_rfl) | exact trivial | rfl | omega | ((try intro _); first | apply R64 <;> omega | apply room_of <;> omega) | skip)
      (try dsimp only [thenK, blockK, noGotoK])
      refine ⟨trivial, ?_⟩
      (refine Sub.of ([0, 1]) ([some 2]) ?_ ?_ ?_ rfl rfl <;> simp only [subB, subB1, subT, subT1, newT, subE, subV, subL, go_sem] <;> (try (repeat' with_reducible apply And.intro)) <;> (try first | exact DEq.refl _ | refine DEq.int ?_ | refine DEq.bool ?_ | omega))
      · rw [rowsL_succ s i hj]; simp
      · rw [rowsL_succ s i hj]
        exact snoc_D (str_snoc _)
    · intro _
      (((first | refine Ok.seqF rfl rfl ?_ | refine Ok.seqT rfl rfl ?_ | refine Ok.regF rfl rfl ?_ | refine Ok.regT rfl rfl ?_); simp only [go_sem]; (repeat' with_reducible apply And.intro); all_goals first | (with_reducible first | refine OkW.mk ?_ | refine EndW.mk ?_ | apply AskI.id | apply AskGI.id) | (with_reducible apply KOt.mk; kernel_rfl) | exact trivial | rfl | omega | ((try intro _); first | apply R64 <;> omega | apply room_of <;> omega) | skip)); refine Ok.seq ?_; refine Ok.cond rfl (fun hb => by simp at hb) (fun _ => ?_); (refine Ok.exit ?_; simp only [thenK_exit, blockK_exit, noGotoK_exit, thenK_normal, blockK_normal, noGotoK_normal, ↓reduceIte, Nat.reduceEqDiff])
      (try dsimp only [thenK, blockK, noGotoK])
      ((first | refine Ok.seqF rfl rfl ?_ | refine Ok.seqT rfl rfl ?_ | refine Ok.regF rfl rfl ?_ | refine Ok.regT rfl rfl ?_); simp only [go_sem]; (repeat' with_reducible apply And.intro); all_goals first | (with_reducible first | refine OkW.mk ?_ | refine EndW.mk ?_ | apply AskI.id | apply AskGI.id) | (with_reducible apply KOt.mk; kernel_rfl) | exact trivial | rfl | omega | ((try intro _); first | apply R64 <;> omega | apply room_of <;> omega) | skip)
      (try dsimp only [thenK, blockK, noGotoK])
      refine ⟨trivial, ?_⟩
      rw [rowsL_all s hi]
      (refine Sub.of ([0]) ([some 0]) ?_ ?_ ?_ rfl rfl <;> simp only [subB, subB1, subT, subT1, newT, subE, subV, subL, go_sem] <;> (try (repeat' with_reducible apply And.intro)) <;> (try first | exact DEq.refl _ | refine DEq.int ?_ | refine DEq.bool ?_ | omega))
      exact fun _ _ _ _ => DEq.refl _
  intro _
  (((first | refine Ok.seqF rfl rfl ?_ | refine Ok.seqT rfl rfl ?_ | refine Ok.regF rfl rfl ?_ | refine Ok.regT rfl rfl ?_); simp only [go_sem]; (repeat' with_reducible apply And.intro); all_goals first | (with_reducible first | refine OkW.mk ?_ | refine EndW.mk ?_ | apply AskI.id | apply AskGI.id) | (with_reducible apply KOt.mk; kernel_rfl) | exact trivial | rfl | omega | ((try intro _); first | apply R64 <;> omega | apply room_of <;> omega) | skip)); refine Ok.seq ?_; refine Ok.cond rfl (fun hb => by simp at hb) (fun _ => ?_); (refine Ok.exit ?_; simp only [thenK_exit, blockK_exit, noGotoK_exit, thenK_normal, blockK_normal, noGotoK_normal, ↓reduceIte, Nat.reduceEqDiff])
  refine Ok.seq ?_
  ((first | refine Ok.seqF rfl rfl ?_ | refine Ok.seqT rfl rfl ?_ | refine Ok.regF rfl rfl ?_ | refine Ok.regT rfl rfl ?_); simp only [go_sem]; (repeat' with_reducible apply And.intro); all_goals first | (with_reducible first | refine OkW.mk ?_ | refine EndW.mk ?_ | apply AskI.id | apply AskGI.id) | (with_reducible apply KOt.mk; kernel_rfl) | exact trivial | rfl | omega | ((try intro _); first | apply R64 <;> omega | apply room_of <;> omega) | skip)
  refine Ok.block ?_
  refine Ok.count s.ks.length (fun i => ⟨[(1, .p 0 0), (3, .tk 0), (50, .d (slD 5 bloD s.ks)), (51, iS s.ks.length), (52, iS i)], [streetB s], [ownD 9 1 strD (rowsK s i)]⟩) (fun _ => True) ⟨trivial, ?_⟩ ?_ ?_
  · rw [rowsK_zero]
    (refine Sub.of ([0]) ([some 0]) ?_ ?_ ?_ rfl rfl <;> simp only [subB, subB1, subT, subT1, newT, subE, subV, subL, go_sem] <;> (try (repeat' with_reducible apply And.intro)) <;> (try first | exact DEq.refl _ | refine DEq.int ?_ | refine DEq.bool ?_ | omega))
    exact fun _ _ _ _ => DEq.refl _
  · intro i hi _
    have hl := rowsK_len s i hs
    have hx := hs.k _ (getD_mem hi)
    have h131 : Ctr Tryz.prog 131 [.d (.ifc 175 5 (dget (s.ks.getD i default).cells))] (.d (.str (blockRow (s.ks.getD i default)))) := by
      cases hk : (s.ks.getD i default).sure with
      | true => exact c131b1 _ hk hx
      | false => exact c131b0 _ hk hx
    (((first | refine Ok.seqF rfl rfl ?_ | refine Ok.seqT rfl rfl ?_ | refine Ok.regF rfl rfl ?_ | refine Ok.regT rfl rfl ?_); simp only [go_sem]; (repeat' with_reducible apply And.intro); all_goals first | (with_reducible first | refine OkW.mk ?_ | refine EndW.mk ?_ | apply AskI.id | apply AskGI.id) | (with_reducible apply KOt.mk; kernel_rfl) | exact trivial | rfl | omega | ((try intro _); first | apply R64 <;> omega | apply room_of <;> omega) | skip)); refine Ok.seq ?_; refine Ok.cond rfl (fun _ => ?_) (fun hb => by simp at hb; omega); (refine Ok.skip ?_; (try dsimp only [thenK, blockK, noGotoK])); refine Ok.seq ?_; refine Ok.block ?_
    ((first | refine Ok.seqF rfl rfl ?_ | refine Ok.seqT rfl rfl ?_ | refine Ok.regF rfl rfl ?_ | refine Ok.regT rfl rfl ?_); simp only [go_sem]; (repeat' with_reducible apply And.intro); all_goals first | (with_reducible first | refine OkW.mk ?_ | refine EndW.mk ?_ | apply AskI.id | apply AskGI.id) | (with_reducible apply KOt.mk; kernel_rfl) | exact trivial | rfl | omega | ((try intro _); first | apply R64 <;> omega | apply room_of <;> omega) | skip)
    ((first | refine Ok.seqF rfl rfl ?_ | refine Ok.seqT rfl rfl ?_ | refine Ok.regF rfl rfl ?_ | refine Ok.regT rfl rfl ?_); simp only [go_sem]; (repeat' with_reducible apply And.intro); all_goals first | (with_reducible first | refine OkW.mk ?_ | refine EndW.mk ?_ | apply AskI.id | apply AskGI.id) | (with_reducible apply KOt.mk; kernel_rfl) | exact trivial | rfl | omega | ((try intro _); first | apply R64 <;> omega | apply room_of <;> omega) | skip)
    (refine AskI.ret (h131) ?_; simp only [go_sem]; (repeat' with_reducible apply And.intro); all_goals first | (with_reducible first | refine OkW.mk ?_ | refine EndW.mk ?_ | apply AskI.id | apply AskGI.id) | (with_reducible apply KOt.mk; kernel_rfl) | exact trivial | rfl | omega | ((try intro _); first | apply R64 <;> omega | apply room_of <;> omega) | skip)
    (try dsimp only [thenK, blockK, noGotoK])
    ((first | refine Ok.seqF rfl rfl ?_ | refine Ok.seqT rfl rfl ?_ | refine Ok.regF rfl rfl ?_ | refine Ok.regT rfl rfl ?_); simp only [go_sem]; (repeat' with_reducible apply And.intro); all_goals first | (with_reducible first | refine OkW.mk ?_ | refine EndW.mk ?_ | apply AskI.id | apply AskGI.id) | (with_reducible apply KOt.mk; kernel_rfl) | exact trivial | rfl | omega | ((try intro _); first | apply R64 <;> omega | apply room_of <;> omega) | skip)
    (try dsimp only [thenK, blockK, noGotoK])
    refine ⟨trivial, ?_⟩
    (refine Sub.of ([0]) ([some 2]) ?_ ?_ ?_ rfl rfl <;> simp only [subB, subB1, subT, subT1, newT, subE, subV, subL, go_sem] <;> (try (repeat' with_reducible apply And.intro)) <;> (try first | exact DEq.refl _ | refine DEq.int ?_ | refine DEq.bool ?_ | omega))
    · rw [rowsK_succ s hi]; simp
    · rw [rowsK_succ s hi]
      exact snoc_D (str_snoc _)
  intro _
  rw [rowsK_all]
  have hrl : (rowsOf s).length ≤ 601 := by have := rowsK_len s s.ks.length hs; rwa [rowsK_all] at this
  have hr := rows_short s hs
  generalize rowsOf s = l at hrl hr ⊢
  (((first | refine Ok.seqF rfl rfl ?_ | refine Ok.seqT rfl rfl ?_ | refine Ok.regF rfl rfl ?_ | refine Ok.regT rfl rfl ?_); simp only [go_sem]; (repeat' with_reducible apply And.intro); all_goals first | (with_reducible first | refine OkW.mk ?_ | refine EndW.mk ?_ | apply AskI.id | apply AskGI.id) | (with_reducible apply KOt.mk; kernel_rfl) | exact trivial | rfl | omega | ((try intro _); first | apply R64 <;> omega | apply room_of <;> omega) | skip)); refine Ok.seq ?_; refine Ok.cond rfl (fun hb => by simp at hb) (fun _ => ?_); (refine Ok.exit ?_; simp only [thenK_exit, blockK_exit, noGotoK_exit, thenK_normal, blockK_normal, noGotoK_normal, ↓reduceIte, Nat.reduceEqDiff])
  ((first | refine Ok.seqF rfl rfl ?_ | refine Ok.seqT rfl rfl ?_ | refine Ok.regF rfl rfl ?_ | refine Ok.regT rfl rfl ?_); simp only [go_sem]; (repeat' with_reducible apply And.intro); all_goals first | (with_reducible first | refine OkW.mk ?_ | refine EndW.mk ?_ | apply AskI.id | apply AskGI.id) | (with_reducible apply KOt.mk; kernel_rfl) | exact trivial | rfl | omega | ((try intro _); first | apply R64 <;> omega | apply room_of <;> omega) | skip)
  refine Ok.seq ?_
  ((first | refine Ok.seqF rfl rfl ?_ | refine Ok.seqT rfl rfl ?_ | refine Ok.regF rfl rfl ?_ | refine Ok.regT rfl rfl ?_); simp only [go_sem]; (repeat' with_reducible apply And.intro); all_goals first | (with_reducible first | refine OkW.mk ?_ | refine EndW.mk ?_ | apply AskI.id | apply AskGI.id) | (with_reducible apply KOt.mk; kernel_rfl) | exact trivial | rfl | omega | ((try intro _); first | apply R64 <;> omega | apply room_of <;> omega) | skip)
  refine Ok.block ?_
  refine Ok.count l.length (fun i => ⟨[(3, .tk 0), (10, iS (rowsSum 0 (l.take i) : Nat)), (64, .tk 0), (65, iS l.length), (66, iS i)], [], [ownD 9 1 strD l]⟩) (fun _ => True) ⟨trivial, ?_⟩ ?_ ?_
  · (refine Sub.of ([]) ([some 0]) ?_ ?_ ?_ rfl rfl <;> simp only [subB, subB1, subT, subT1, newT, subE, subV, subL, go_sem] <;> (try (repeat' with_reducible apply And.intro)) <;> (try first | exact DEq.refl _ | refine DEq.int ?_ | refine DEq.bool ?_ | omega))
    exact fun _ _ _ _ => DEq.refl _
  · intro i hi _
    have hlen := hr _ (getD_mem hi)
    have hti : (l.take i).length = i := by simp; omega
    have hs1 := rowsSum_le (l.take i) 0 (by omega) (fun x hx => hr x (List.mem_of_mem_take hx))
    have hsn : rowsSum 0 (l.take (i + 1)) = rowsSum 0 (l.take i) + rowSum i 0 (l.getD i default) := by
      rw [getD_take hi, rowsSum_snoc, hti, Nat.zero_add]
    (((first | refine Ok.seqF rfl rfl ?_ | refine Ok.seqT rfl rfl ?_ | refine Ok.regF rfl rfl ?_ | refine Ok.regT rfl rfl ?_); simp only [go_sem]; (repeat' with_reducible apply And.intro); all_goals first | (with_reducible first | refine OkW.mk ?_ | refine EndW.mk ?_ | apply AskI.id | apply AskGI.id) | (with_reducible apply KOt.mk; kernel_rfl) | exact trivial | rfl | omega | ((try intro _); first | apply R64 <;> omega | apply room_of <;> omega) | skip)); refine Ok.seq ?_; refine Ok.cond rfl (fun _ => ?_) (fun hb => by simp at hb; omega); (refine Ok.skip ?_; (try dsimp only [thenK, blockK, noGotoK])); refine Ok.seq ?_; refine Ok.block ?_
    ((first | refine Ok.seqF rfl rfl ?_ | refine Ok.seqT rfl rfl ?_ | refine Ok.regF rfl rfl ?_ | refine Ok.regT rfl rfl ?_); simp only [go_sem]; (repeat' with_reducible apply And.intro); all_goals first | (with_reducible first | refine OkW.mk ?_ | refine EndW.mk ?_ | apply AskI.id | apply AskGI.id) | (with_reducible apply KOt.mk; kernel_rfl) | exact trivial | rfl | omega | ((try intro _); first | apply R64 <;> omega | apply room_of <;> omega) | skip)
    ((first | refine Ok.seqF rfl rfl ?_ | refine Ok.seqT rfl rfl ?_ | refine Ok.regF rfl rfl ?_ | refine Ok.regT rfl rfl ?_); simp only [go_sem]; (repeat' with_reducible apply And.intro); all_goals first | (with_reducible first | refine OkW.mk ?_ | refine EndW.mk ?_ | apply AskI.id | apply AskGI.id) | (with_reducible apply KOt.mk; kernel_rfl) | exact trivial | rfl | omega | ((try intro _); first | apply R64 <;> omega | apply room_of <;> omega) | skip)
    refine Ok.block ?_
    refine Ok.count (l.getD i default).length (fun k => ⟨[(3, .tk 0), (10, iS ((rowsSum 0 (l.take i) : Nat) + (rowSum i 0 ((l.getD i default).take k) : Nat))), (11, iS i), (12, .d (.str (l.getD i default))), (64, .tk 0), (65, iS l.length), (66, iS i), (72, iS (l.getD i default).length), (73, iS k)], [], [ownD 9 1 strD l]⟩) (fun _ => True) ⟨trivial, ?_⟩ ?_ ?_
    · (refine Sub.of ([]) ([some 0]) ?_ ?_ ?_ rfl rfl <;> simp only [subB, subB1, subT, subT1, newT, subE, subV, subL, go_sem] <;> (try (repeat' with_reducible apply And.intro)) <;> (try first | exact DEq.refl _ | refine DEq.int ?_ | refine DEq.bool ?_ | omega))
      all_goals first | (exact fun _ _ _ _ => DEq.refl _) | simp [rowSum]
    · intro k hk _
      have htk : ((l.getD i default).take k).length = k := by rw [List.length_take]; omega
      have hs2 := rowSum_le i (by omega) ((l.getD i default).take k) 0 (by omega)
      have hrn : rowSum i 0 ((l.getD i default).take (k + 1)) = rowSum i 0 ((l.getD i default).take k) + ((l.getD i default).getD k 0).toNat * (k + 1) * (i + 1) := by
        rw [getD_take hk, rowSum_snoc, htk, Nat.zero_add, getD0]
      have hb : ((l.getD i default).getD k 0).toNat ≤ 255 := by have := ((l.getD i default).getD k 0).toNat_lt; omega
      have hk2 : (l[i]?.getD default).length = (l.getD i default).length := by rw [List.getD_eq_getElem?_getD]
      generalize hbb : ((l.getD i default).getD k 0).toNat = b at hrn hb
      have e1 := mulB (a := (b : Int)) (b := (k : Int) + 1) (A := 255) (B := 1000) (by omega) (by omega) (by omega) (by omega)
      have e2 := mulB (a := (b : Int) * ((k : Int) + 1)) (b := (i : Int) + 1) (A := 255000) (B := 1000) (by omega) (by omega) (by omega) (by omega)
      (((first | refine Ok.seqF rfl rfl ?_ | refine Ok.seqT rfl rfl ?_ | refine Ok.regF rfl rfl ?_ | refine Ok.regT rfl rfl ?_); simp only [go_sem]; (repeat' with_reducible apply And.intro); all_goals first | (with_reducible first | refine OkW.mk ?_ | refine EndW.mk ?_ | apply AskI.id | apply AskGI.id) | (with_reducible apply KOt.mk; kernel_rfl) | exact trivial | rfl | omega | ((try intro _); first | apply R64 <;> omega | apply room_of <;> omega) | skip)); refine Ok.seq ?_; refine Ok.cond rfl (fun _ => ?_) (fun hb => by simp at hb; omega); (refine Ok.skip ?_; (try dsimp only [thenK, blockK, noGotoK])); refine Ok.seq ?_; refine Ok.block ?_
      ((first | refine Ok.seqF rfl rfl ?_ | refine Ok.seqT rfl rfl ?_ | refine Ok.regF rfl rfl ?_ | refine Ok.regT rfl rfl ?_); simp only [go_sem]; (repeat' with_reducible apply And.intro); all_goals first | (with_reducible first | refine OkW.mk ?_ | refine EndW.mk ?_ | apply AskI.id | apply AskGI.id) | (with_reducible apply KOt.mk; kernel_rfl) | exact trivial | rfl | omega | ((try intro _); first | apply R64 <;> omega | apply room_of <;> omega) | skip)
      ((first | refine Ok.seqF rfl rfl ?_ | refine Ok.seqT rfl rfl ?_ | refine Ok.regF rfl rfl ?_ | refine Ok.regT rfl rfl ?_); simp only [go_sem]; (repeat' with_reducible apply And.intro); all_goals first | (with_reducible first | refine OkW.mk ?_ | refine EndW.mk ?_ | apply AskI.id | apply AskGI.id) | (with_reducible apply KOt.mk; kernel_rfl) | exact trivial | rfl | omega | ((try intro _); first | apply R64 <;> omega | apply room_of <;> omega) | skip)
      · rw [hbb]; exact R64 (by omega) (by omega)
      · rw [hbb]; exact R64 (by omega) (by omega)
      · rw [hbb]; exact R64 (by omega) (by omega)
      (try dsimp only [thenK, blockK, noGotoK])
      ((first | refine Ok.seqF rfl rfl ?_ | refine Ok.seqT rfl rfl ?_ | refine Ok.regF rfl rfl ?_ | refine Ok.regT rfl rfl ?_); simp only [go_sem]; (repeat' with_reducible apply And.intro); all_goals first | (with_reducible first | refine OkW.mk ?_ | refine EndW.mk ?_ | apply AskI.id | apply AskGI.id) | (with_reducible apply KOt.mk; kernel_rfl) | exact trivial | rfl | omega | ((try intro _); first | apply R64 <;> omega | apply room_of <;> omega) | skip)
      (try dsimp only [thenK, blockK, noGotoK])
      refine ⟨trivial, ?_⟩
      (refine Sub.of ([]) ([some 0]) ?_ ?_ ?_ rfl rfl <;> simp only [subB, subB1, subT, subT1, newT, subE, subV, subL, go_sem] <;> (try (repeat' with_reducible apply And.intro)) <;> (try first | exact DEq.refl _ | refine DEq.int ?_ | refine DEq.bool ?_ | omega))
      all_goals first | (exact fun _ _ _ _ => DEq.refl _) | (rw [hrn, hbb]; push_cast; omega)
    · intro _
      (((first | refine Ok.seqF rfl rfl ?_ | refine Ok.seqT rfl rfl ?_ | refine Ok.regF rfl rfl ?_ | refine Ok.regT rfl rfl ?_); simp only [go_sem]; (repeat' with_reducible apply And.intro); all_goals first | (with_reducible first | refine OkW.mk ?_ | refine EndW.mk ?_ | apply AskI.id | apply AskGI.id) | (with_reducible apply KOt.mk; kernel_rfl) | exact trivial | rfl | omega | ((try intro _); first | apply R64 <;> omega | apply room_of <;> omega) | skip)); refine Ok.seq ?_; refine Ok.cond rfl (fun hb => by simp at hb) (fun _ => ?_); (refine Ok.exit ?_; simp only [thenK_exit, blockK_exit, noGotoK_exit, thenK_normal, blockK_normal, noGotoK_normal, ↓reduceIte, Nat.reduceEqDiff])
      (try dsimp only [thenK, blockK, noGotoK])
      ((first | refine Ok.seqF rfl rfl ?_ | refine Ok.seqT rfl rfl ?_ | refine Ok.regF rfl rfl ?_ | refine Ok.regT rfl rfl ?_); simp only [go_sem]; (repeat' with_reducible apply And.intro); all_goals first | (with_reducible first | refine OkW.mk ?_ | refine EndW.mk ?_ | apply AskI.id | apply AskGI.id) | (with_reducible apply KOt.mk; kernel_rfl) | exact trivial | rfl | omega | ((try intro _); first | apply R64 <;> omega | apply room_of <;> omega) | skip)
      (try dsimp only [thenK, blockK, noGotoK])
      refine ⟨trivial, ?_⟩
      (refine Sub.of ([]) ([some 0]) ?_ ?_ ?_ rfl rfl <;> simp only [subB, subB1, subT, subT1, newT, subE, subV, subL, go_sem] <;> (try (repeat' with_reducible apply And.intro)) <;> (try first | exact DEq.refl _ | refine DEq.int ?_ | refine DEq.bool ?_ | omega))
      all_goals first | (exact fun _ _ _ _ => DEq.refl _) | (rw [hsn, List.take_length]; push_cast; omega)
  intro _
  have hs1 := rowsSum_le l 0 (by omega) hr
  have hfl := flatL_len l hr
  rw [List.take_length]
  (((first | refine Ok.seqF rfl rfl ?_ | refine Ok.seqT rfl rfl ?_ | refine Ok.regF rfl rfl ?_ | refine Ok.regT rfl rfl ?_); simp only [go_sem]; (repeat' with_reducible apply And.intro); all_goals first | (with_reducible first | refine OkW.mk ?_ | refine EndW.mk ?_ | apply AskI.id | apply AskGI.id) | (with_reducible apply KOt.mk; kernel_rfl) | exact trivial | rfl | omega | ((try intro _); first | apply R64 <;> omega | apply room_of <;> omega) | skip)); refine Ok.seq ?_; refine Ok.cond rfl (fun hb => by simp at hb) (fun _ => ?_); (refine Ok.exit ?_; simp only [thenK_exit, blockK_exit, noGotoK_exit, thenK_normal, blockK_normal, noGotoK_normal, ↓reduceIte, Nat.reduceEqDiff])
  ((first | refine Ok.seqF rfl rfl ?_ | refine Ok.seqT rfl rfl ?_ | refine Ok.regF rfl rfl ?_ | refine Ok.regT rfl rfl ?_); simp only [go_sem]; (repeat' with_reducible apply And.intro); all_goals first | (with_reducible first | refine OkW.mk ?_ | refine EndW.mk ?_ | apply AskI.id | apply AskGI.id) | (with_reducible apply KOt.mk; kernel_rfl) | exact trivial | rfl | omega | ((try intro _); first | apply R64 <;> omega | apply room_of <;> omega) | skip)
  rw [show ((rowsSum 0 l : Nat) : Int).tmod 179 = ((rowsSum 0 l % 179 : Nat) : Int) from by rw [Int.tmod_eq_emod_of_nonneg (by omega)]; simp]
  unfold sealedL
  have hc : rowsSum 0 l % 179 < 179 := Nat.mod_lt _ (by decide)
  generalize rowsSum 0 l % 179 = c at hc
  have l1 := decLen (c / 100) (by omega)
  have l2 := decLen (c / 10 % 10) (by omega)
  have l3 := decLen (c % 10) (by omega)
  ((first | refine Ok.seqF rfl rfl ?_ | refine Ok.seqT rfl rfl ?_ | refine Ok.regF rfl rfl ?_ | refine Ok.regT rfl rfl ?_); simp only [go_sem]; (repeat' with_reducible apply And.intro); all_goals first | (with_reducible first | refine OkW.mk ?_ | refine EndW.mk ?_ | apply AskI.id | apply AskGI.id) | (with_reducible apply KOt.mk; kernel_rfl) | exact trivial | rfl | omega | ((try intro _); first | apply R64 <;> omega | apply room_of <;> omega) | skip)
  · rw [tdivC]; exact R64 (by omega) (by omega)
  rw [tdivC]
  have i1 : Lib.itoa ((c / 100 : Nat) : Int) = Lib.decDigits (c / 100) := Lib.itoa_nonneg _
  have i2 : Lib.itoa ((c / 10 % 10 : Nat) : Int) = Lib.decDigits (c / 10 % 10) := Lib.itoa_nonneg _
  have i3 : Lib.itoa ((c % 10 : Nat) : Int) = Lib.decDigits (c % 10) := Lib.itoa_nonneg _
  have h1 := c132 ((c / 100 : Nat) : Int) (by omega) (by omega)
  rw [i1] at h1
  have h2 := c132 ((c / 10 % 10 : Nat) : Int) (by omega) (by omega)
  rw [i2] at h2
  have h3 := c132 ((c % 10 : Nat) : Int) (by omega) (by omega)
  rw [i3] at h3
  have hel := endL_len hc
  (refine AskI.ret (h1) ?_; simp only [go_sem]; (repeat' with_reducible apply And.intro); all_goals first | (with_reducible first | refine OkW.mk ?_ | refine EndW.mk ?_ | apply AskI.id | apply AskGI.id) | (with_reducible apply KOt.mk; kernel_rfl) | exact trivial | rfl | omega | ((try intro _); first | apply R64 <;> omega | apply room_of <;> omega) | skip)
  · simp only [strRoom, List.length_append, List.length_cons, List.length_nil]; omega
  · rw [tdivN]; exact R64 (by omega) (by omega)
  rw [tdivN, tmodN]
  (refine AskI.ret (h2) ?_; simp only [go_sem]; (repeat' with_reducible apply And.intro); all_goals first | (with_reducible first | refine OkW.mk ?_ | refine EndW.mk ?_ | apply AskI.id | apply AskGI.id) | (with_reducible apply KOt.mk; kernel_rfl) | exact trivial | rfl | omega | ((try intro _); first | apply R64 <;> omega | apply room_of <;> omega) | skip)
  · simp only [strRoom, List.length_append, List.length_cons, List.length_nil]; omega
  rw [tmodN]
  (refine AskI.ret (h3) ?_; simp only [go_sem]; (repeat' with_reducible apply And.intro); all_goals first | (with_reducible first | refine OkW.mk ?_ | refine EndW.mk ?_ | apply AskI.id | apply AskGI.id) | (with_reducible apply KOt.mk; kernel_rfl) | exact trivial | rfl | omega | ((try intro _); first | apply R64 <;> omega | apply room_of <;> omega) | skip)
  · simp only [strRoom, List.length_append, List.length_cons, List.length_nil]; omega
  have hjl : (Lib.join (l ++ [endL c]) [10]).length ≤ 1000000 := by
    rw [join_flat, List.length_append]; omega
  have h133 := c133 (l ++ [endL c]) [10] (by simp; omega) (by omega) (by simp)
  refine Ok.sub (σ' := ⟨[(3, .tk 0)], [], [ownD 9 1 strD (l ++ [endL c])]⟩) ?_ ?_
  · (refine Sub.of ([]) ([some 2]) ?_ ?_ ?_ rfl rfl <;> simp only [subB, subB1, subT, subT1, newT, subE, subV, subL, go_sem] <;> (try (repeat' with_reducible apply And.intro)) <;> (try first | exact DEq.refl _ | refine DEq.int ?_ | refine DEq.bool ?_ | omega))
    · simp
    · have e : endL c = [101, 110, 100, 32] ++ Lib.decDigits (c / 100) ++ Lib.decDigits (c / 10 % 10) ++ Lib.decDigits (c % 10) := rfl
      rw [e]
      exact snoc_D (str_snoc _)
  ((first | refine Ok.seqF rfl rfl ?_ | refine Ok.seqT rfl rfl ?_ | refine Ok.regF rfl rfl ?_ | refine Ok.regT rfl rfl ?_); simp only [go_sem]; (repeat' with_reducible apply And.intro); all_goals first | (with_reducible first | refine OkW.mk ?_ | refine EndW.mk ?_ | apply AskI.id | apply AskGI.id) | (with_reducible apply KOt.mk; kernel_rfl) | exact trivial | rfl | omega | ((try intro _); first | apply R64 <;> omega | apply room_of <;> omega) | skip)
  (refine AskI.ret (h133) ?_; simp only [go_sem]; (repeat' with_reducible apply And.intro); all_goals first | (with_reducible first | refine OkW.mk ?_ | refine EndW.mk ?_ | apply AskI.id | apply AskGI.id) | (with_reducible apply KOt.mk; kernel_rfl) | exact trivial | rfl | omega | ((try intro _); first | apply R64 <;> omega | apply room_of <;> omega) | skip)
  · rw [join_flat]; simp only [strRoom, List.length_append, List.length_cons, List.length_nil]; omega
  (refine Ok.ret ?_; (try dsimp only [thenK, blockK, noGotoK]); simp only [toList_mk, List.toList_toArray, retK_ret, retK_normal, resOK, resV, celV, rowV, frzAll, frzT, subV, subL, go_sem])
  refine DEq.str ?_
  rw [join_flat]
end Go.Proofs.Sight
namespace Go.Proofs.Sight
open Go Go.RX Go.Proofs
set_option maxRecDepth 10000
theorem R32 {n : Int} (h1 : -2147483648 ≤ n) (h2 : n ≤ 2147483647) : R .i32 n := by unfold R; rw [IntKind.wrap_i32]; omega
theorem c135_ok (why : List UInt8) : Ctr Tryz.prog 135 [bS true, .d (.str why)] (.tup []) := by
  (refine Ctr.mk (fn := Tryz.f135) rfl rfl rfl rfl rfl Tryz.results135 ?_; dsimp only [args, List.toList_toArray])
  ((first | refine Ok.seqF rfl rfl ?_ | refine Ok.seqT rfl rfl ?_ | refine Ok.regF rfl rfl ?_ | refine Ok.regT rfl rfl ?_); simp only [go_sem]; (repeat' with_reducible apply And.intro); all_goals first | (with_reducible first | refine OkW.mk ?_ | refine EndW.mk ?_ | apply AskI.id | apply AskGI.id) | (with_reducible apply KOt.mk; kernel_rfl) | exact trivial | rfl | omega | ((try intro _); first | apply R64 <;> omega | apply room_of <;> omega) | skip)
  refine Ok.cond (b := false) (by first | rfl | (simp only [go_sem]; rfl)) (fun hb => by cases hb) (fun _ => ?_)
  (refine Ok.skip ?_; (try dsimp only [thenK, blockK, noGotoK]))
  ((try dsimp only [thenK, blockK, noGotoK]); simp only [toList_mk, List.toList_toArray, retK_ret, retK_normal, resOK, resV, celV, rowV, frzAll, frzT, subV, subL, go_sem])
theorem c135_if {b : Bool} (h : b = true) (why : List UInt8) : Ctr Tryz.prog 135 [bS b, .d (.str why)] (.tup []) := by
  subst h; exact c135_ok why
def digit (b : UInt8) : Bool := decide (48 ≤ b.toNat) && decide (b.toNat ≤ 57)
def numL (l : List UInt8) : Nat := l.foldl (fun n b => 10 * n + (b.toNat - 48)) 0
theorem numL_snoc (l : List UInt8) (b : UInt8) : numL (l ++ [b]) = 10 * numL l + (b.toNat - 48) := by simp [numL]
def isNum (w : List UInt8) : Prop := w ≠ [] ∧ (∀ b ∈ w, digit b = true) ∧ w.length ≤ 3 ∧ Lib.itoa (numL w) = w
theorem decode_digit (l : List UInt8) (p : Nat) (hp : p < l.length) (h : digit (l.getD p 0) = true) : Utf8.decode ⟨l.toArray⟩ p = ((l.getD p 0).toNat, 1) := by
  simp only [digit, Bool.and_eq_true, decide_eq_true_eq] at h
  have hb : (ByteArray.get! ⟨l.toArray⟩ (p + 0)) = l.getD p 0 := by
    show (l.toArray)[p + 0]! = _
    rw [Nat.add_zero, getElem!_pos l.toArray p (by simpa using hp), getD0, getD_lt hp]
    simp
  unfold Utf8.decode
  simp only [hb]
  rw [if_pos (by omega)]
theorem numL_lt (l : List UInt8) : ∀ i, (∀ b ∈ l, digit b = true) → i ≤ l.length → numL (l.take i) < 10 ^ i
  | 0, _, _ => by simp [numL]
  | i + 1, h, hi => by
    have ih := numL_lt l i h (by omega)
    have hd := h _ (getD_mem (i := i) (by omega))
    simp only [digit, Bool.and_eq_true, decide_eq_true_eq] at hd
    rw [getD_take (by omega), numL_snoc, Nat.pow_succ]
    omega
theorem c136_ok (ws : List (List UInt8)) (hw : ∀ w ∈ ws, isNum w) (hl : ws.length ≤ 1000) : Ctr Tryz.prog 136 [.d (strsD ws), iS ws.length] (.d (slD 1 natD (ws.map numL))) := by
  (refine Ctr.mk (fn := Tryz.f136) rfl rfl rfl rfl rfl Tryz.results136 ?_; dsimp only [args, List.toList_toArray])
  ((first | refine Ok.seqF rfl rfl ?_ | refine Ok.seqT rfl rfl ?_ | refine Ok.regF rfl rfl ?_ | refine Ok.regT rfl rfl ?_); simp only [go_sem]; (repeat' with_reducible apply And.intro); all_goals first | (with_reducible first | refine OkW.mk ?_ | refine EndW.mk ?_ | apply AskI.id | apply AskGI.id) | (with_reducible apply KOt.mk; kernel_rfl) | exact trivial | rfl | omega | ((try intro _); first | apply R64 <;> omega | apply room_of <;> omega) | skip)
  ((first | refine Ok.seqF rfl rfl ?_ | refine Ok.seqT rfl rfl ?_ | refine Ok.regF rfl rfl ?_ | refine Ok.regT rfl rfl ?_); simp only [go_sem]; (repeat' with_reducible apply And.intro); all_goals first | (with_reducible first | refine OkW.mk ?_ | refine EndW.mk ?_ | apply AskI.id | apply AskGI.id) | (with_reducible apply KOt.mk; kernel_rfl) | exact trivial | rfl | omega | ((try intro _); first | apply R64 <;> omega | apply room_of <;> omega) | skip)
  (refine AskI.ret (c135_ok _) ?_; simp only [go_sem]; (repeat' with_reducible apply And.intro); all_goals first | (with_reducible first | refine OkW.mk ?_ | refine EndW.mk ?_ | apply AskI.id | apply AskGI.id) | (with_reducible apply KOt.mk; kernel_rfl) | exact trivial | rfl | omega | ((try intro _); first | apply R64 <;> omega | apply room_of <;> omega) | skip)
  ((first | refine Ok.seqF rfl rfl ?_ | refine Ok.seqT rfl rfl ?_ | refine Ok.regF rfl rfl ?_ | refine Ok.regT rfl rfl ?_); simp only [go_sem]; (repeat' with_reducible apply And.intro); all_goals first | (with_reducible first | refine OkW.mk ?_ | refine EndW.mk ?_ | apply AskI.id | apply AskGI.id) | (with_reducible apply KOt.mk; kernel_rfl) | exact trivial | rfl | omega | ((try intro _); first | apply R64 <;> omega | apply room_of <;> omega) | skip)
  refine Ok.seq ?_
  ((first | refine Ok.seqF rfl rfl ?_ | refine Ok.seqT rfl rfl ?_ | refine Ok.regF rfl rfl ?_ | refine Ok.regT rfl rfl ?_); simp only [go_sem]; (repeat' with_reducible apply And.intro); all_goals first | (with_reducible first | refine OkW.mk ?_ | refine EndW.mk ?_ | apply AskI.id | apply AskGI.id) | (with_reducible apply KOt.mk; kernel_rfl) | exact trivial | rfl | omega | ((try intro _); first | apply R64 <;> omega | apply room_of <;> omega) | skip)
  refine Ok.block ?_
  refine Ok.count ws.length (fun i => ⟨[(5, .tk 0), (16, .d (strsD ws)), (17, iS ws.length), (18, iS i)], [], [ownD 3 1 natD ((ws.take i).map numL)]⟩) (fun _ => True) ⟨trivial, ?_⟩ ?_ ?_
  · (refine Sub.of ([]) ([none]) ?_ ?_ ?_ rfl rfl <;> simp only [subB, subB1, subT, subT1, newT, subE, subV, subL, go_sem] <;> (try (repeat' with_reducible apply And.intro)) <;> (try first | exact DEq.refl _ | refine DEq.int ?_ | refine DEq.bool ?_ | omega))
  · intro i hi _
    have hlen := map_len numL (l := ws) (i := i) (by omega)
    have hsn := map_snoc numL hi
    obtain ⟨hne, hdig, hl3, hit⟩ := hw _ (getD_mem hi)
    generalize hW : ws.getD i default = w at hne hdig hl3 hit hsn
    (((first | refine Ok.seqF rfl rfl ?_ | refine Ok.seqT rfl rfl ?_ | refine Ok.regF rfl rfl ?_ | refine Ok.regT rfl rfl ?_); simp only [go_sem]; (repeat' with_reducible apply And.intro); all_goals first | (with_reducible first | refine OkW.mk ?_ | refine EndW.mk ?_ | apply AskI.id | apply AskGI.id) | (with_reducible apply KOt.mk; kernel_rfl) | exact trivial | rfl | omega | ((try intro _); first | apply R64 <;> omega | apply room_of <;> omega) | skip)); refine Ok.seq ?_; refine Ok.cond rfl (fun _ => ?_) (fun hb => by simp at hb; omega); (refine Ok.skip ?_; (try dsimp only [thenK, blockK, noGotoK])); refine Ok.seq ?_; refine Ok.block ?_
    ((first | refine Ok.seqF rfl rfl ?_ | refine Ok.seqT rfl rfl ?_ | refine Ok.regF rfl rfl ?_ | refine Ok.regT rfl rfl ?_); simp only [go_sem]; (repeat' with_reducible apply And.intro); all_goals first | (with_reducible first | refine OkW.mk ?_ | refine EndW.mk ?_ | apply AskI.id | apply AskGI.id) | (with_reducible apply KOt.mk; kernel_rfl) | exact trivial | rfl | omega | ((try intro _); first | apply R64 <;> omega | apply room_of <;> omega) | skip)
    rw [hW]
    ((first | refine Ok.seqF rfl rfl ?_ | refine Ok.seqT rfl rfl ?_ | refine Ok.regF rfl rfl ?_ | refine Ok.regT rfl rfl ?_); simp only [go_sem]; (repeat' with_reducible apply And.intro); all_goals first | (with_reducible first | refine OkW.mk ?_ | refine EndW.mk ?_ | apply AskI.id | apply AskGI.id) | (with_reducible apply KOt.mk; kernel_rfl) | exact trivial | rfl | omega | ((try intro _); first | apply R64 <;> omega | apply room_of <;> omega) | skip)
    refine Ok.seq ?_
    ((first | refine Ok.seqF rfl rfl ?_ | refine Ok.seqT rfl rfl ?_ | refine Ok.regF rfl rfl ?_ | refine Ok.regT rfl rfl ?_); simp only [go_sem]; (repeat' with_reducible apply And.intro); all_goals first | (with_reducible first | refine OkW.mk ?_ | refine EndW.mk ?_ | apply AskI.id | apply AskGI.id) | (with_reducible apply KOt.mk; kernel_rfl) | exact trivial | rfl | omega | ((try intro _); first | apply R64 <;> omega | apply room_of <;> omega) | skip)
    refine Ok.block ?_
    refine Ok.count w.length (fun k => ⟨[(5, .tk 0), (7, .d (.str w)), (8, iS (numL (w.take k) : Nat)), (16, .d (strsD ws)), (17, iS ws.length), (18, iS i), (23, .p 0 0)], [{ frz := false, xs := [], it := some (w, k) }], [ownD 3 1 natD ((ws.take i).map numL)]⟩) (fun _ => True) ⟨trivial, ?_⟩ ?_ ?_
    · (refine Sub.of ([0]) ([some 0]) ?_ ?_ ?_ rfl rfl <;> simp only [subB, subB1, subT, subT1, newT, subE, subV, subL, go_sem] <;> (try (repeat' with_reducible apply And.intro)) <;> (try first | exact DEq.refl _ | refine DEq.int ?_ | refine DEq.bool ?_ | omega))
      exact fun _ _ _ _ => DEq.refl _
    · intro k hk _
      have hd : digit (w.getD k 0) = true := hdig _ (getD_mem hk)
      have hdec := decode_digit w k hk hd
      ((first | refine Ok.seqF rfl rfl ?_ | refine Ok.seqT rfl rfl ?_ | refine Ok.regF rfl rfl ?_ | refine Ok.regT rfl rfl ?_); simp only [go_sem]; (repeat' with_reducible apply And.intro); all_goals first | (with_reducible first | refine OkW.mk ?_ | refine EndW.mk ?_ | apply AskI.id | apply AskGI.id) | (with_reducible apply KOt.mk; kernel_rfl) | exact trivial | rfl | omega | ((try intro _); first | apply R64 <;> omega | apply room_of <;> omega) | skip)
      rw [if_pos hk, hdec]
      (simp only [go_sem]; (repeat' with_reducible apply And.intro); all_goals first | (with_reducible first | refine OkW.mk ?_ | refine EndW.mk ?_ | apply AskI.id | apply AskGI.id) | (with_reducible apply KOt.mk; kernel_rfl) | exact trivial | rfl | omega | ((try intro _); first | apply R64 <;> omega | apply room_of <;> omega) | skip)
      refine Ok.seq ?_
      refine Ok.cond (b := true) (by first | rfl | (simp only [go_sem]; rfl)) (fun _ => ?_) (fun hb => by cases hb)
      (refine Ok.skip ?_; (try dsimp only [thenK, blockK, noGotoK]))
      refine Ok.block ?_
      ((first | refine Ok.seqF rfl rfl ?_ | refine Ok.seqT rfl rfl ?_ | refine Ok.regF rfl rfl ?_ | refine Ok.regT rfl rfl ?_); simp only [go_sem]; (repeat' with_reducible apply And.intro); all_goals first | (with_reducible first | refine OkW.mk ?_ | refine EndW.mk ?_ | apply AskI.id | apply AskGI.id) | (with_reducible apply KOt.mk; kernel_rfl) | exact trivial | rfl | omega | ((try intro _); first | apply R64 <;> omega | apply room_of <;> omega) | skip)
      ((first | refine Ok.seqF rfl rfl ?_ | refine Ok.seqT rfl rfl ?_ | refine Ok.regF rfl rfl ?_ | refine Ok.regT rfl rfl ?_); simp only [go_sem]; (repeat' with_reducible apply And.intro); all_goals first | (with_reducible first | refine OkW.mk ?_ | refine EndW.mk ?_ | apply AskI.id | apply AskGI.id) | (with_reducible apply KOt.mk; kernel_rfl) | exact trivial | rfl | omega | ((try intro _); first | apply R64 <;> omega | apply room_of <;> omega) | skip)
      simp only [digit, Bool.and_eq_true, decide_eq_true_eq] at hd
      have hnl := numL_lt w k hdig (by omega)
      have hpow : 10 ^ k ≤ 100 := by
        have := Nat.pow_le_pow_right (n := 10) (by decide) (show k ≤ 2 by omega)
        simpa using this
      have hns : numL (w.take (k + 1)) = 10 * numL (w.take k) + ((w.getD k 0).toNat - 48) := by rw [getD_take hk, numL_snoc]; rfl
      generalize hB : (w.getD k 0).toNat = b at hd hns
      (refine AskI.ret (c135_if (by simp only [hB, Bool.and_eq_true, decide_eq_true_eq]; omega) _) ?_; simp only [go_sem]; (repeat' with_reducible apply And.intro); all_goals first | (with_reducible first | refine OkW.mk ?_ | refine EndW.mk ?_ | apply AskI.id | apply AskGI.id) | (with_reducible apply KOt.mk; kernel_rfl) | exact trivial | rfl | omega | ((try intro _); first | apply R64 <;> omega | apply room_of <;> omega) | skip)
      ((first | refine Ok.seqF rfl rfl ?_ | refine Ok.seqT rfl rfl ?_ | refine Ok.regF rfl rfl ?_ | refine Ok.regT rfl rfl ?_); simp only [go_sem]; (repeat' with_reducible apply And.intro); all_goals first | (with_reducible first | refine OkW.mk ?_ | refine EndW.mk ?_ | apply AskI.id | apply AskGI.id) | (with_reducible apply KOt.mk; kernel_rfl) | exact trivial | rfl | omega | ((try intro _); first | apply R64 <;> omega | apply room_of <;> omega) | skip)
      · exact R32 (by omega) (by omega)
      (try dsimp only [thenK, blockK, noGotoK])
      refine ⟨trivial, ?_⟩
      (refine Sub.of ([0]) ([some 0]) ?_ ?_ ?_ rfl rfl <;> simp only [subB, subB1, subT, subT1, newT, subE, subV, subL, go_sem] <;> (try (repeat' with_reducible apply And.intro)) <;> (try first | exact DEq.refl _ | refine DEq.int ?_ | refine DEq.bool ?_ | omega))
      all_goals first | (exact fun _ _ _ _ => DEq.refl _) | (rw [hns]; omega)
    · intro _
      ((first | refine Ok.seqF rfl rfl ?_ | refine Ok.seqT rfl rfl ?_ | refine Ok.regF rfl rfl ?_ | refine Ok.regT rfl rfl ?_); simp only [go_sem]; (repeat' with_reducible apply And.intro); all_goals first | (with_reducible first | refine OkW.mk ?_ | refine EndW.mk ?_ | apply AskI.id | apply AskGI.id) | (with_reducible apply KOt.mk; kernel_rfl) | exact trivial | rfl | omega | ((try intro _); first | apply R64 <;> omega | apply room_of <;> omega) | skip)
      rw [if_neg (by omega)]
      (simp only [go_sem]; (repeat' with_reducible apply And.intro); all_goals first | (with_reducible first | refine OkW.mk ?_ | refine EndW.mk ?_ | apply AskI.id | apply AskGI.id) | (with_reducible apply KOt.mk; kernel_rfl) | exact trivial | rfl | omega | ((try intro _); first | apply R64 <;> omega | apply room_of <;> omega) | skip)
      refine Ok.seq ?_
      refine Ok.cond (b := false) (by first | rfl | (simp only [go_sem]; rfl)) (fun hb => by cases hb) (fun _ => ?_)
      (refine Ok.exit ?_; simp only [thenK_exit, blockK_exit, noGotoK_exit, thenK_normal, blockK_normal, noGotoK_normal, ↓reduceIte, Nat.reduceEqDiff])
      have hnl := numL_lt w w.length hdig (Nat.le_refl _)
      rw [List.take_length] at hnl
      have hpow : 10 ^ w.length ≤ 1000 := Nat.pow_le_pow_right (by decide) hl3
      rw [List.take_length]
      ((first | refine Ok.seqF rfl rfl ?_ | refine Ok.seqT rfl rfl ?_ | refine Ok.regF rfl rfl ?_ | refine Ok.regT rfl rfl ?_); simp only [go_sem]; (repeat' with_reducible apply And.intro); all_goals first | (with_reducible first | refine OkW.mk ?_ | refine EndW.mk ?_ | apply AskI.id | apply AskGI.id) | (with_reducible apply KOt.mk; kernel_rfl) | exact trivial | rfl | omega | ((try intro _); first | apply R64 <;> omega | apply room_of <;> omega) | skip)
      (refine AskGI.ret (fun _ => c132 _ (by omega) (by omega)) ?_; simp only [go_sem]; (repeat' with_reducible apply And.intro); all_goals first | (with_reducible first | refine OkW.mk ?_ | refine EndW.mk ?_ | apply AskI.id | apply AskGI.id) | (with_reducible apply KOt.mk; kernel_rfl) | exact trivial | rfl | omega | ((try intro _); first | apply R64 <;> omega | apply room_of <;> omega) | skip)
      rw [hit]
      (refine AskI.ret (c135_if (by simp [hne]) _) ?_; simp only [go_sem]; (repeat' with_reducible apply And.intro); all_goals first | (with_reducible first | refine OkW.mk ?_ | refine EndW.mk ?_ | apply AskI.id | apply AskGI.id) | (with_reducible apply KOt.mk; kernel_rfl) | exact trivial | rfl | omega | ((try intro _); first | apply R64 <;> omega | apply room_of <;> omega) | skip)
      ((first | refine Ok.seqF rfl rfl ?_ | refine Ok.seqT rfl rfl ?_ | refine Ok.regF rfl rfl ?_ | refine Ok.regT rfl rfl ?_); simp only [go_sem]; (repeat' with_reducible apply And.intro); all_goals first | (with_reducible first | refine OkW.mk ?_ | refine EndW.mk ?_ | apply AskI.id | apply AskGI.id) | (with_reducible apply KOt.mk; kernel_rfl) | exact trivial | rfl | omega | ((try intro _); first | apply R64 <;> omega | apply room_of <;> omega) | skip)
      (try dsimp only [thenK, blockK, noGotoK])
      ((first | refine Ok.seqF rfl rfl ?_ | refine Ok.seqT rfl rfl ?_ | refine Ok.regF rfl rfl ?_ | refine Ok.regT rfl rfl ?_); simp only [go_sem]; (repeat' with_reducible apply And.intro); all_goals first | (with_reducible first | refine OkW.mk ?_ | refine EndW.mk ?_ | apply AskI.id | apply AskGI.id) | (with_reducible apply KOt.mk; kernel_rfl) | exact trivial | rfl | omega | ((try intro _); first | apply R64 <;> omega | apply room_of <;> omega) | skip)
      (try dsimp only [thenK, blockK, noGotoK])
      refine ⟨trivial, ?_⟩
      (refine Sub.of ([]) ([some 1]) ?_ ?_ ?_ rfl rfl <;> simp only [subB, subB1, subT, subT1, newT, subE, subV, subL, go_sem] <;> (try (repeat' with_reducible apply And.intro)) <;> (try first | exact DEq.refl _ | refine DEq.int ?_ | refine DEq.bool ?_ | omega))
      · rw [hsn]; simp
      · rw [hsn]
        exact snoc_D (fun c hc => by have : c = 0 := by omega
                                     subst this; rfl)
  · intro _
    (((first | refine Ok.seqF rfl rfl ?_ | refine Ok.seqT rfl rfl ?_ | refine Ok.regF rfl rfl ?_ | refine Ok.regT rfl rfl ?_); simp only [go_sem]; (repeat' with_reducible apply And.intro); all_goals first | (with_reducible first | refine OkW.mk ?_ | refine EndW.mk ?_ | apply AskI.id | apply AskGI.id) | (with_reducible apply KOt.mk; kernel_rfl) | exact trivial | rfl | omega | ((try intro _); first | apply R64 <;> omega | apply room_of <;> omega) | skip)); refine Ok.seq ?_; refine Ok.cond rfl (fun hb => by simp at hb) (fun _ => ?_); (refine Ok.exit ?_; simp only [thenK_exit, blockK_exit, noGotoK_exit, thenK_normal, blockK_normal, noGotoK_normal, ↓reduceIte, Nat.reduceEqDiff])
    ((first | refine Ok.seqF rfl rfl ?_ | refine Ok.seqT rfl rfl ?_ | refine Ok.regF rfl rfl ?_ | refine Ok.regT rfl rfl ?_); simp only [go_sem]; (repeat' with_reducible apply And.intro); all_goals first | (with_reducible first | refine OkW.mk ?_ | refine EndW.mk ?_ | apply AskI.id | apply AskGI.id) | (with_reducible apply KOt.mk; kernel_rfl) | exact trivial | rfl | omega | ((try intro _); first | apply R64 <;> omega | apply room_of <;> omega) | skip)
    (refine Ok.ret ?_; (try dsimp only [thenK, blockK, noGotoK]); simp only [toList_mk, List.toList_toArray, retK_ret, retK_normal, resOK, resV, celV, rowV, frzAll, frzT, subV, subL, go_sem])
    simp only [List.take_length]
    ((repeat' with_reducible apply And.intro) <;> (first | exact DEq.refl _ | refine DEq.int ?_ | refine DEq.bool ?_ | skip))
end Go.Proofs.Sight
namespace Go.Proofs.Sight
open Go Go.RX Go.Proofs
set_option maxRecDepth 10000
def exText : List UInt8 := [115, 105, 103, 104, 116, 32, 49, 32, 49, 32, 49, 32, 49, 32, 49, 32, 49, 10, 98, 111, 97, 114, 100, 32, 48, 10, 108, 101, 116, 116, 101, 114, 32, 49, 32, 49, 32, 49, 32, 48, 10, 101, 110, 100, 32, 48, 49, 57, 10]
def exR0 : List UInt8 := [115, 105, 103, 104, 116, 32, 49, 32, 49, 32, 49, 32, 49, 32, 49, 32, 49]
def exR1 : List UInt8 := [98, 111, 97, 114, 100, 32, 48]
def exR2 : List UInt8 := [108, 101, 116, 116, 101, 114, 32, 49, 32, 49, 32, 49, 32, 48]
def exR3 : List UInt8 := [101, 110, 100, 32, 48, 49, 57]
def exR4 : List UInt8 := []
def exRows : List (List UInt8) := [exR0, exR1, exR2, exR3, exR4]
def exW0 : List (List UInt8) := [[115, 105, 103, 104, 116], [49], [49], [49], [49], [49], [49]]
def exW1 : List (List UInt8) := [[98, 111, 97, 114, 100], [48]]
def exW2 : List (List UInt8) := [[108, 101, 116, 116, 101, 114], [49], [49], [49], [48]]
theorem ex_rows : splitL exText [10] = exRows := by decide +kernel
theorem ex_w0 : splitL exR0 [32] = exW0 := by decide +kernel
theorem ex_w1 : splitL exR1 [32] = exW1 := by decide +kernel
theorem ex_w2 : splitL exR2 [32] = exW2 := by decide +kernel
def exX : Street := ⟨1, 1, 1, 1, 1, 1, [⟨0, [⟨1, 1, 1, 0⟩]⟩], []⟩
theorem itoa_0 : Lib.itoa (numL [48] : Nat) = [48] := by
  have h := itoa_one (n := 0) (by decide)
  exact h
theorem itoa_1 : Lib.itoa (numL [49] : Nat) = [49] := by
  have h := itoa_one (n := 1) (by decide)
  exact h
theorem num_0 : isNum [48] := ⟨by decide, by decide, by decide, itoa_0⟩
theorem num_1 : isNum [49] := ⟨by decide, by decide, by decide, itoa_1⟩
theorem small_X : exX.small := by
  refine ⟨by decide, by decide, by decide, by decide, by decide, ?_, by decide⟩
  show 2 ≤ 500
  decide
theorem dec_one {n : Nat} (h : n < 10) : Lib.decDigits n = [UInt8.ofNat (48 + n)] := by rw [← Lib.itoa_nonneg, itoa_one h]
theorem ex_text : sealedL (rowsOf exX) = exText := by
  have h0 : Lib.itoa 0 = [48] := itoa_0
  have h1 : Lib.itoa 1 = [49] := itoa_1
  have hr : rowsOf exX = [exR0, exR1, exR2] := by
    simp only [rowsOf, exX, Street.nums, boardRows, boardRow, letterRow, Letter.nums, rowL, List.flatMap_cons, List.flatMap_nil, List.map_cons, List.map_nil, h0, h1]
    rfl
  have hs : rowsSum 0 [exR0, exR1, exR2] % 179 = 19 := by decide +kernel
  unfold sealedL
  rw [hr, hs, endL, dec_one (n := 19 / 100) (by decide), dec_one (n := 19 / 10 % 10) (by decide), dec_one (n := 19 % 10) (by decide)]
  decide +kernel
end Go.Proofs.Sight
namespace Go.Proofs.Sight
open Go Go.RX Go.Proofs
set_option maxRecDepth 10000
theorem c134_rows : Ctr Tryz.prog 134 [.d (.str exText), .d (.str [10])] (.d (strsD exRows)) := by
  have h := c134 exText [10] (by decide) (by decide)
  rwa [ex_rows] at h
theorem c134_0 : Ctr Tryz.prog 134 [.d (.str exR0), .d (.str [32])] (.d (strsD exW0)) := by
  have h := c134 exR0 [32] (by decide) (by decide)
  rwa [ex_w0] at h
theorem c134_1 : Ctr Tryz.prog 134 [.d (.str exR1), .d (.str [32])] (.d (strsD exW1)) := by
  have h := c134 exR1 [32] (by decide) (by decide)
  rwa [ex_w1] at h
theorem c134_2 : Ctr Tryz.prog 134 [.d (.str exR2), .d (.str [32])] (.d (strsD exW2)) := by
  have h := c134 exR2 [32] (by decide) (by decide)
  rwa [ex_w2] at h
theorem c136_drop (W : List (List UInt8)) (a m n : Nat) (ns : List Nat) (ha : a + m = W.length) (hn : ∀ w ∈ W.drop a, isNum w) (hl : W.length ≤ 1000) (hnm : n = m) (hns : (W.drop a).map numL = ns) :
    Ctr Tryz.prog 136 [.d (.sl 1 n (fun i j => strD (W.getD (a + i) default) j)), iS m] (.d (slD 1 natD ns)) := by
  have h := c136_ok (W.drop a) hn (by rw [List.length_drop]; omega)
  rw [hns, show (W.drop a).length = m by rw [List.length_drop]; omega] at h
  have hd := slice_D (k := 1) (n := n) (m := m) (a := a) (f := strD) (l := W) hnm (by omega)
  rw [List.take_of_length_le (by rw [List.length_drop]; omega)] at hd
  exact h.args ⟨hd, .refl _, trivial⟩
theorem ex_boards : DEq (.sl 2 1 fun x' j => if x' = 0 ∧ 1 ≤ j ∧ j < 2 then dget [DV.sl 4 1 fun i j => dget [iD (1 : Nat), iD (1 : Nat), iD (1 : Nat), iD (0 : Nat)] (i * 4 + j)] (j - 1) else dget [iD (0 : Nat), DV.nils] (x' * 2 + j)) (slD 2 boaD exX.bs) :=
  DEq.sl rfl (fun i j hi hj => by
    match i, j, hi, hj with
    | 0, 0, _, _ => exact .refl _
    | 0, 1, _, _ =>
      refine DEq.sl rfl (fun i j hi hj => ?_)
      match i, j, hi, hj with
      | 0, 0, _, _ => exact .refl _
      | 0, 1, _, _ => exact .refl _
      | 0, 2, _, _ => exact .refl _
      | 0, 3, _, _ => exact .refl _)
theorem c106_ex : Ctr Tryz.prog 106 [.d (.str exText)] exX.sv := by
  (refine Ctr.mk (fn := Tryz.f106) rfl rfl rfl rfl rfl Tryz.results106 ?_; dsimp only [args, List.toList_toArray])
  ((first | refine Ok.seqF rfl rfl ?_ | refine Ok.seqT rfl rfl ?_ | refine Ok.regF rfl rfl ?_ | refine Ok.regT rfl rfl ?_); simp only [go_sem]; (repeat' with_reducible apply And.intro); all_goals first | (with_reducible first | refine OkW.mk ?_ | refine EndW.mk ?_ | apply AskI.id | apply AskGI.id) | (with_reducible apply KOt.mk; kernel_rfl) | exact trivial | rfl | omega | ((try intro _); first | apply R64 <;> omega | apply room_of <;> omega) | skip)
  ((first | refine Ok.seqF rfl rfl ?_ | refine Ok.seqT rfl rfl ?_ | refine Ok.regF rfl rfl ?_ | refine Ok.regT rfl rfl ?_); simp only [go_sem]; (repeat' with_reducible apply And.intro); all_goals first | (with_reducible first | refine OkW.mk ?_ | refine EndW.mk ?_ | apply AskI.id | apply AskGI.id) | (with_reducible apply KOt.mk; kernel_rfl) | exact trivial | rfl | omega | ((try intro _); first | apply R64 <;> omega | apply room_of <;> omega) | skip)
  (refine AskI.ret (c134_rows) ?_; simp only [go_sem]; (repeat' with_reducible apply And.intro); all_goals first | (with_reducible first | refine OkW.mk ?_ | refine EndW.mk ?_ | apply AskI.id | apply AskGI.id) | (with_reducible apply KOt.mk; kernel_rfl) | exact trivial | rfl | omega | ((try intro _); first | apply R64 <;> omega | apply room_of <;> omega) | skip)
  ((first | refine Ok.seqF rfl rfl ?_ | refine Ok.seqT rfl rfl ?_ | refine Ok.regF rfl rfl ?_ | refine Ok.regT rfl rfl ?_); simp only [go_sem]; (repeat' with_reducible apply And.intro); all_goals first | (with_reducible first | refine OkW.mk ?_ | refine EndW.mk ?_ | apply AskI.id | apply AskGI.id) | (with_reducible apply KOt.mk; kernel_rfl) | exact trivial | rfl | omega | ((try intro _); first | apply R64 <;> omega | apply room_of <;> omega) | skip)
  (refine AskI.ret (c135_if (by decide) _) ?_; simp only [go_sem]; (repeat' with_reducible apply And.intro); all_goals first | (with_reducible first | refine OkW.mk ?_ | refine EndW.mk ?_ | apply AskI.id | apply AskGI.id) | (with_reducible apply KOt.mk; kernel_rfl) | exact trivial | rfl | omega | ((try intro _); first | apply R64 <;> omega | apply room_of <;> omega) | skip)
  ((first | refine Ok.seqF rfl rfl ?_ | refine Ok.seqT rfl rfl ?_ | refine Ok.regF rfl rfl ?_ | refine Ok.regT rfl rfl ?_); simp only [go_sem]; (repeat' with_reducible apply And.intro); all_goals first | (with_reducible first | refine OkW.mk ?_ | refine EndW.mk ?_ | apply AskI.id | apply AskGI.id) | (with_reducible apply KOt.mk; kernel_rfl) | exact trivial | rfl | omega | ((try intro _); first | apply R64 <;> omega | apply room_of <;> omega) | skip)
  · decide
  (refine AskI.ret (c134_0) ?_; simp only [go_sem]; (repeat' with_reducible apply And.intro); all_goals first | (with_reducible first | refine OkW.mk ?_ | refine EndW.mk ?_ | apply AskI.id | apply AskGI.id) | (with_reducible apply KOt.mk; kernel_rfl) | exact trivial | rfl | omega | ((try intro _); first | apply R64 <;> omega | apply room_of <;> omega) | skip)
  · decide
  (refine AskI.ret (c136_drop exW0 1 6 _ [1, 1, 1, 1, 1, 1] (by decide) (by intro w hw; simp [exW0] at hw; subst hw; exact num_1) (by decide) (by decide) (by decide)) ?_; simp only [go_sem]; (repeat' with_reducible apply And.intro); all_goals first | (with_reducible first | refine OkW.mk ?_ | refine EndW.mk ?_ | apply AskI.id | apply AskGI.id) | (with_reducible apply KOt.mk; kernel_rfl) | exact trivial | rfl | omega | ((try intro _); first | apply R64 <;> omega | apply room_of <;> omega) | skip)
  ((first | refine Ok.seqF rfl rfl ?_ | refine Ok.seqT rfl rfl ?_ | refine Ok.regF rfl rfl ?_ | refine Ok.regT rfl rfl ?_); simp only [go_sem]; (repeat' with_reducible apply And.intro); all_goals first | (with_reducible first | refine OkW.mk ?_ | refine EndW.mk ?_ | apply AskI.id | apply AskGI.id) | (with_reducible apply KOt.mk; kernel_rfl) | exact trivial | rfl | omega | ((try intro _); first | apply R64 <;> omega | apply room_of <;> omega) | skip)
  refine Ok.sub (σ' := ⟨[(0, .d (.str exText)), (2, .p 0 0), (3, .d (strsD exRows)), (5, .p 1 0)], [streetB default, { frz := false, xs := [iS 1, iS 1, iS 1, iS 1, iS 1, iS 1, .d .nils, .d .nils] }], []⟩) ?_ ?_
  · (refine Sub.of ([0, 1]) ([]) ?_ ?_ ?_ rfl rfl <;> simp only [subB, subB1, subT, subT1, newT, subE, subV, subL, go_sem] <;> (try (repeat' with_reducible apply And.intro)) <;> (try first | exact DEq.refl _ | refine DEq.int ?_ | refine DEq.bool ?_ | omega))
    all_goals first | rfl | exact DEq.nils rfl
  refine Ok.seq ?_
  ((first | refine Ok.seqF rfl rfl ?_ | refine Ok.seqT rfl rfl ?_ | refine Ok.regF rfl rfl ?_ | refine Ok.regT rfl rfl ?_); simp only [go_sem]; (repeat' with_reducible apply And.intro); all_goals first | (with_reducible first | refine OkW.mk ?_ | refine EndW.mk ?_ | apply AskI.id | apply AskGI.id) | (with_reducible apply KOt.mk; kernel_rfl) | exact trivial | rfl | omega | ((try intro _); first | apply R64 <;> omega | apply room_of <;> omega) | skip)
  · decide
  refine Ok.block ?_
  refine Ok.sub (σ' := ⟨[(0, .d (.str exText)), (2, .p 0 0), (5, .p 1 0), (51, .d (strsD [exR1, exR2])), (52, iS 2), (53, iS 0)], [streetB default, { frz := false, xs := [iS 1, iS 1, iS 1, iS 1, iS 1, iS 1, .d .nils, .d .nils] }], []⟩) ?_ ?_
  · (refine Sub.of ([0, 1]) ([]) ?_ ?_ ?_ rfl rfl <;> simp only [subB, subB1, subT, subT1, newT, subE, subV, subL, go_sem] <;> (try (repeat' with_reducible apply And.intro)) <;> (try first | exact DEq.refl _ | refine DEq.int ?_ | refine DEq.bool ?_ | omega))
    exact slice_D (k := 1) (f := strD) (l := exRows) (a := 1) (m := 2) (by decide) (by decide)
  refine Ok.rounds 3 (OkN.round ?_)
  ((first | refine Ok.seqF rfl rfl ?_ | refine Ok.seqT rfl rfl ?_ | refine Ok.regF rfl rfl ?_ | refine Ok.regT rfl rfl ?_); simp only [go_sem]; (repeat' with_reducible apply And.intro); all_goals first | (with_reducible first | refine OkW.mk ?_ | refine EndW.mk ?_ | apply AskI.id | apply AskGI.id) | (with_reducible apply KOt.mk; kernel_rfl) | exact trivial | rfl | omega | ((try intro _); first | apply R64 <;> omega | apply room_of <;> omega) | skip)
  refine Ok.seq ?_
  refine Ok.cond (b := true) (by first | rfl | (simp only [go_sem]; rfl)) (fun _ => ?_) (fun hb => by cases hb)
  (refine Ok.skip ?_; (try dsimp only [thenK, blockK, noGotoK]))
  refine Ok.seq ?_
  refine Ok.block ?_
  ((first | refine Ok.seqF rfl rfl ?_ | refine Ok.seqT rfl rfl ?_ | refine Ok.regF rfl rfl ?_ | refine Ok.regT rfl rfl ?_); simp only [go_sem]; (repeat' with_reducible apply And.intro); all_goals first | (with_reducible first | refine OkW.mk ?_ | refine EndW.mk ?_ | apply AskI.id | apply AskGI.id) | (with_reducible apply KOt.mk; kernel_rfl) | exact trivial | rfl | omega | ((try intro _); first | apply R64 <;> omega | apply room_of <;> omega) | skip)
  ((first | refine Ok.seqF rfl rfl ?_ | refine Ok.seqT rfl rfl ?_ | refine Ok.regF rfl rfl ?_ | refine Ok.regT rfl rfl ?_); simp only [go_sem]; (repeat' with_reducible apply And.intro); all_goals first | (with_reducible first | refine OkW.mk ?_ | refine EndW.mk ?_ | apply AskI.id | apply AskGI.id) | (with_reducible apply KOt.mk; kernel_rfl) | exact trivial | rfl | omega | ((try intro _); first | apply R64 <;> omega | apply room_of <;> omega) | skip)
  (refine AskI.ret (c134_1) ?_; simp only [go_sem]; (repeat' with_reducible apply And.intro); all_goals first | (with_reducible first | refine OkW.mk ?_ | refine EndW.mk ?_ | apply AskI.id | apply AskGI.id) | (with_reducible apply KOt.mk; kernel_rfl) | exact trivial | rfl | omega | ((try intro _); first | apply R64 <;> omega | apply room_of <;> omega) | skip)
  refine Ok.seq ?_
  ((first | refine Ok.seqF rfl rfl ?_ | refine Ok.seqT rfl rfl ?_ | refine Ok.regF rfl rfl ?_ | refine Ok.regT rfl rfl ?_); simp only [go_sem]; (repeat' with_reducible apply And.intro); all_goals first | (with_reducible first | refine OkW.mk ?_ | refine EndW.mk ?_ | apply AskI.id | apply AskGI.id) | (with_reducible apply KOt.mk; kernel_rfl) | exact trivial | rfl | omega | ((try intro _); first | apply R64 <;> omega | apply room_of <;> omega) | skip)
  · decide
  (try dsimp only [thenK, blockK, noGotoK])
  refine Ok.block ?_
  ((first | refine Ok.seqF rfl rfl ?_ | refine Ok.seqT rfl rfl ?_ | refine Ok.regF rfl rfl ?_ | refine Ok.regT rfl rfl ?_); simp only [go_sem]; (repeat' with_reducible apply And.intro); all_goals first | (with_reducible first | refine OkW.mk ?_ | refine EndW.mk ?_ | apply AskI.id | apply AskGI.id) | (with_reducible apply KOt.mk; kernel_rfl) | exact trivial | rfl | omega | ((try intro _); first | apply R64 <;> omega | apply room_of <;> omega) | skip)
  (refine AskI.ret (c137) ?_; simp only [go_sem]; (repeat' with_reducible apply And.intro); all_goals first | (with_reducible first | refine OkW.mk ?_ | refine EndW.mk ?_ | apply AskI.id | apply AskGI.id) | (with_reducible apply KOt.mk; kernel_rfl) | exact trivial | rfl | omega | ((try intro _); first | apply R64 <;> omega | apply room_of <;> omega) | skip)
  refine Ok.cond (b := true) (by first | rfl | (simp only [go_sem]; rfl)) (fun _ => ?_) (fun hb => by cases hb)
  ((first | refine Ok.seqF rfl rfl ?_ | refine Ok.seqT rfl rfl ?_ | refine Ok.regF rfl rfl ?_ | refine Ok.regT rfl rfl ?_); simp only [go_sem]; (repeat' with_reducible apply And.intro); all_goals first | (with_reducible first | refine OkW.mk ?_ | refine EndW.mk ?_ | apply AskI.id | apply AskGI.id) | (with_reducible apply KOt.mk; kernel_rfl) | exact trivial | rfl | omega | ((try intro _); first | apply R64 <;> omega | apply room_of <;> omega) | skip)
  · decide
  (refine AskI.ret (c136_drop exW1 1 1 _ [0] (by decide) (by intro w hw; simp [exW1] at hw; subst hw; exact num_0) (by decide) (by decide) (by decide)) ?_; simp only [go_sem]; (repeat' with_reducible apply And.intro); all_goals first | (with_reducible first | refine OkW.mk ?_ | refine EndW.mk ?_ | apply AskI.id | apply AskGI.id) | (with_reducible apply KOt.mk; kernel_rfl) | exact trivial | rfl | omega | ((try intro _); first | apply R64 <;> omega | apply room_of <;> omega) | skip)
  ((first | refine Ok.seqF rfl rfl ?_ | refine Ok.seqT rfl rfl ?_ | refine Ok.regF rfl rfl ?_ | refine Ok.regT rfl rfl ?_); simp only [go_sem]; (repeat' with_reducible apply And.intro); all_goals first | (with_reducible first | refine OkW.mk ?_ | refine EndW.mk ?_ | apply AskI.id | apply AskGI.id) | (with_reducible apply KOt.mk; kernel_rfl) | exact trivial | rfl | omega | ((try intro _); first | apply R64 <;> omega | apply room_of <;> omega) | skip)
  (try dsimp only [thenK, blockK, noGotoK])
  ((first | refine Ok.seqF rfl rfl ?_ | refine Ok.seqT rfl rfl ?_ | refine Ok.regF rfl rfl ?_ | refine Ok.regT rfl rfl ?_); simp only [go_sem]; (repeat' with_reducible apply And.intro); all_goals first | (with_reducible first | refine OkW.mk ?_ | refine EndW.mk ?_ | apply AskI.id | apply AskGI.id) | (with_reducible apply KOt.mk; kernel_rfl) | exact trivial | rfl | omega | ((try intro _); first | apply R64 <;> omega | apply room_of <;> omega) | skip)
  (try dsimp only [thenK, blockK, noGotoK])
  refine OkN.round ?_
  ((first | refine Ok.seqF rfl rfl ?_ | refine Ok.seqT rfl rfl ?_ | refine Ok.regF rfl rfl ?_ | refine Ok.regT rfl rfl ?_); simp only [go_sem]; (repeat' with_reducible apply And.intro); all_goals first | (with_reducible first | refine OkW.mk ?_ | refine EndW.mk ?_ | apply AskI.id | apply AskGI.id) | (with_reducible apply KOt.mk; kernel_rfl) | exact trivial | rfl | omega | ((try intro _); first | apply R64 <;> omega | apply room_of <;> omega) | skip)
  refine Ok.seq ?_
  refine Ok.cond (b := true) (by first | rfl | (simp only [go_sem]; rfl)) (fun _ => ?_) (fun hb => by cases hb)
  (refine Ok.skip ?_; (try dsimp only [thenK, blockK, noGotoK]))
  refine Ok.seq ?_
  refine Ok.block ?_
  ((first | refine Ok.seqF rfl rfl ?_ | refine Ok.seqT rfl rfl ?_ | refine Ok.regF rfl rfl ?_ | refine Ok.regT rfl rfl ?_); simp only [go_sem]; (repeat' with_reducible apply And.intro); all_goals first | (with_reducible first | refine OkW.mk ?_ | refine EndW.mk ?_ | apply AskI.id | apply AskGI.id) | (with_reducible apply KOt.mk; kernel_rfl) | exact trivial | rfl | omega | ((try intro _); first | apply R64 <;> omega | apply room_of <;> omega) | skip)
  ((first | refine Ok.seqF rfl rfl ?_ | refine Ok.seqT rfl rfl ?_ | refine Ok.regF rfl rfl ?_ | refine Ok.regT rfl rfl ?_); simp only [go_sem]; (repeat' with_reducible apply And.intro); all_goals first | (with_reducible first | refine OkW.mk ?_ | refine EndW.mk ?_ | apply AskI.id | apply AskGI.id) | (with_reducible apply KOt.mk; kernel_rfl) | exact trivial | rfl | omega | ((try intro _); first | apply R64 <;> omega | apply room_of <;> omega) | skip)
  (refine AskI.ret (c134_2) ?_; simp only [go_sem]; (repeat' with_reducible apply And.intro); all_goals first | (with_reducible first | refine OkW.mk ?_ | refine EndW.mk ?_ | apply AskI.id | apply AskGI.id) | (with_reducible apply KOt.mk; kernel_rfl) | exact trivial | rfl | omega | ((try intro _); first | apply R64 <;> omega | apply room_of <;> omega) | skip)
  refine Ok.seq ?_
  ((first | refine Ok.seqF rfl rfl ?_ | refine Ok.seqT rfl rfl ?_ | refine Ok.regF rfl rfl ?_ | refine Ok.regT rfl rfl ?_); simp only [go_sem]; (repeat' with_reducible apply And.intro); all_goals first | (with_reducible first | refine OkW.mk ?_ | refine EndW.mk ?_ | apply AskI.id | apply AskGI.id) | (with_reducible apply KOt.mk; kernel_rfl) | exact trivial | rfl | omega | ((try intro _); first | apply R64 <;> omega | apply room_of <;> omega) | skip)
  · decide
  (try dsimp only [thenK, blockK, noGotoK])
  refine Ok.block ?_
  ((first | refine Ok.seqF rfl rfl ?_ | refine Ok.seqT rfl rfl ?_ | refine Ok.regF rfl rfl ?_ | refine Ok.regT rfl rfl ?_); simp only [go_sem]; (repeat' with_reducible apply And.intro); all_goals first | (with_reducible first | refine OkW.mk ?_ | refine EndW.mk ?_ | apply AskI.id | apply AskGI.id) | (with_reducible apply KOt.mk; kernel_rfl) | exact trivial | rfl | omega | ((try intro _); first | apply R64 <;> omega | apply room_of <;> omega) | skip)
  (refine AskI.ret (c137) ?_; simp only [go_sem]; (repeat' with_reducible apply And.intro); all_goals first | (with_reducible first | refine OkW.mk ?_ | refine EndW.mk ?_ | apply AskI.id | apply AskGI.id) | (with_reducible apply KOt.mk; kernel_rfl) | exact trivial | rfl | omega | ((try intro _); first | apply R64 <;> omega | apply room_of <;> omega) | skip)
  refine Ok.cond (b := false) (by first | rfl | (simp only [go_sem]; rfl)) (fun hb => by cases hb) (fun _ => ?_)
  ((first | refine Ok.seqF rfl rfl ?_ | refine Ok.seqT rfl rfl ?_ | refine Ok.regF rfl rfl ?_ | refine Ok.regT rfl rfl ?_); simp only [go_sem]; (repeat' with_reducible apply And.intro); all_goals first | (with_reducible first | refine OkW.mk ?_ | refine EndW.mk ?_ | apply AskI.id | apply AskGI.id) | (with_reducible apply KOt.mk; kernel_rfl) | exact trivial | rfl | omega | ((try intro _); first | apply R64 <;> omega | apply room_of <;> omega) | skip)
  (refine AskI.ret (c137) ?_; simp only [go_sem]; (repeat' with_reducible apply And.intro); all_goals first | (with_reducible first | refine OkW.mk ?_ | refine EndW.mk ?_ | apply AskI.id | apply AskGI.id) | (with_reducible apply KOt.mk; kernel_rfl) | exact trivial | rfl | omega | ((try intro _); first | apply R64 <;> omega | apply room_of <;> omega) | skip)
  refine Ok.cond (b := true) (by first | rfl | (simp only [go_sem]; rfl)) (fun _ => ?_) (fun hb => by cases hb)
  ((first | refine Ok.seqF rfl rfl ?_ | refine Ok.seqT rfl rfl ?_ | refine Ok.regF rfl rfl ?_ | refine Ok.regT rfl rfl ?_); simp only [go_sem]; (repeat' with_reducible apply And.intro); all_goals first | (with_reducible first | refine OkW.mk ?_ | refine EndW.mk ?_ | apply AskI.id | apply AskGI.id) | (with_reducible apply KOt.mk; kernel_rfl) | exact trivial | rfl | omega | ((try intro _); first | apply R64 <;> omega | apply room_of <;> omega) | skip)
  · decide
  (refine AskI.ret (c136_drop exW2 1 4 _ [1, 1, 1, 0] (by decide) (by intro w hw; simp [exW2] at hw; rcases hw with rfl | rfl | rfl | rfl <;> first | exact num_1 | exact num_0) (by decide) (by decide) (by decide)) ?_; simp only [go_sem]; (repeat' with_reducible apply And.intro); all_goals first | (with_reducible first | refine OkW.mk ?_ | refine EndW.mk ?_ | apply AskI.id | apply AskGI.id) | (with_reducible apply KOt.mk; kernel_rfl) | exact trivial | rfl | omega | ((try intro _); first | apply R64 <;> omega | apply room_of <;> omega) | skip)
  ((first | refine Ok.seqF rfl rfl ?_ | refine Ok.seqT rfl rfl ?_ | refine Ok.regF rfl rfl ?_ | refine Ok.regT rfl rfl ?_); simp only [go_sem]; (repeat' with_reducible apply And.intro); all_goals first | (with_reducible first | refine OkW.mk ?_ | refine EndW.mk ?_ | apply AskI.id | apply AskGI.id) | (with_reducible apply KOt.mk; kernel_rfl) | exact trivial | rfl | omega | ((try intro _); first | apply R64 <;> omega | apply room_of <;> omega) | skip)
  (refine AskI.ret (c135_if (by decide) _) ?_; simp only [go_sem]; (repeat' with_reducible apply And.intro); all_goals first | (with_reducible first | refine OkW.mk ?_ | refine EndW.mk ?_ | apply AskI.id | apply AskGI.id) | (with_reducible apply KOt.mk; kernel_rfl) | exact trivial | rfl | omega | ((try intro _); first | apply R64 <;> omega | apply room_of <;> omega) | skip)
  ((first | refine Ok.seqF rfl rfl ?_ | refine Ok.seqT rfl rfl ?_ | refine Ok.regF rfl rfl ?_ | refine Ok.regT rfl rfl ?_); simp only [go_sem]; (repeat' with_reducible apply And.intro); all_goals first | (with_reducible first | refine OkW.mk ?_ | refine EndW.mk ?_ | apply AskI.id | apply AskGI.id) | (with_reducible apply KOt.mk; kernel_rfl) | exact trivial | rfl | omega | ((try intro _); first | apply R64 <;> omega | apply room_of <;> omega) | skip)
  ((first | refine Ok.seqF rfl rfl ?_ | refine Ok.seqT rfl rfl ?_ | refine Ok.regF rfl rfl ?_ | refine Ok.regT rfl rfl ?_); simp only [go_sem]; (repeat' with_reducible apply And.intro); all_goals first | (with_reducible first | refine OkW.mk ?_ | refine EndW.mk ?_ | apply AskI.id | apply AskGI.id) | (with_reducible apply KOt.mk; kernel_rfl) | exact trivial | rfl | omega | ((try intro _); first | apply R64 <;> omega | apply room_of <;> omega) | skip)
  rw [show (((1 : Nat) : Int) - 1).toNat = 0 from rfl]
  (simp only [go_sem]; (repeat' with_reducible apply And.intro); all_goals first | (with_reducible first | refine OkW.mk ?_ | refine EndW.mk ?_ | apply AskI.id | apply AskGI.id) | (with_reducible apply KOt.mk; kernel_rfl) | exact trivial | rfl | omega | ((try intro _); first | apply R64 <;> omega | apply room_of <;> omega) | skip)
  (try dsimp only [thenK, blockK, noGotoK])
  ((first | refine Ok.seqF rfl rfl ?_ | refine Ok.seqT rfl rfl ?_ | refine Ok.regF rfl rfl ?_ | refine Ok.regT rfl rfl ?_); simp only [go_sem]; (repeat' with_reducible apply And.intro); all_goals first | (with_reducible first | refine OkW.mk ?_ | refine EndW.mk ?_ | apply AskI.id | apply AskGI.id) | (with_reducible apply KOt.mk; kernel_rfl) | exact trivial | rfl | omega | ((try intro _); first | apply R64 <;> omega | apply room_of <;> omega) | skip)
  (try dsimp only [thenK, blockK, noGotoK])
  refine OkN.round ?_
  ((first | refine Ok.seqF rfl rfl ?_ | refine Ok.seqT rfl rfl ?_ | refine Ok.regF rfl rfl ?_ | refine Ok.regT rfl rfl ?_); simp only [go_sem]; (repeat' with_reducible apply And.intro); all_goals first | (with_reducible first | refine OkW.mk ?_ | refine EndW.mk ?_ | apply AskI.id | apply AskGI.id) | (with_reducible apply KOt.mk; kernel_rfl) | exact trivial | rfl | omega | ((try intro _); first | apply R64 <;> omega | apply room_of <;> omega) | skip)
  refine Ok.seq ?_
  refine Ok.cond (b := false) (by first | rfl | (simp only [go_sem]; rfl)) (fun hb => by cases hb) (fun _ => ?_)
  (refine Ok.exit ?_; simp only [thenK_exit, blockK_exit, noGotoK_exit, thenK_normal, blockK_normal, noGotoK_normal, ↓reduceIte, Nat.reduceEqDiff])
  have h104 := c104 exX small_X
  rw [ex_text] at h104
  ((first | refine Ok.seqF rfl rfl ?_ | refine Ok.seqT rfl rfl ?_ | refine Ok.regF rfl rfl ?_ | refine Ok.regT rfl rfl ?_); simp only [go_sem]; (repeat' with_reducible apply And.intro); all_goals first | (with_reducible first | refine OkW.mk ?_ | refine EndW.mk ?_ | apply AskI.id | apply AskGI.id) | (with_reducible apply KOt.mk; kernel_rfl) | exact trivial | rfl | omega | ((try intro _); first | apply R64 <;> omega | apply room_of <;> omega) | skip)
  (refine AskI.ret (h104.args ⟨⟨.refl _, .refl _, .refl _, .refl _, .refl _, .refl _, ex_boards, DEq.nils rfl, trivial⟩, trivial⟩) ?_; simp only [go_sem]; (repeat' with_reducible apply And.intro); all_goals first | (with_reducible first | refine OkW.mk ?_ | refine EndW.mk ?_ | apply AskI.id | apply AskGI.id) | (with_reducible apply KOt.mk; kernel_rfl) | exact trivial | rfl | omega | ((try intro _); first | apply R64 <;> omega | apply room_of <;> omega) | skip)
  (refine AskI.ret (c135_if (by decide) _) ?_; simp only [go_sem]; (repeat' with_reducible apply And.intro); all_goals first | (with_reducible first | refine OkW.mk ?_ | refine EndW.mk ?_ | apply AskI.id | apply AskGI.id) | (with_reducible apply KOt.mk; kernel_rfl) | exact trivial | rfl | omega | ((try intro _); first | apply R64 <;> omega | apply room_of <;> omega) | skip)
  ((first | refine Ok.seqF rfl rfl ?_ | refine Ok.seqT rfl rfl ?_ | refine Ok.regF rfl rfl ?_ | refine Ok.regT rfl rfl ?_); simp only [go_sem]; (repeat' with_reducible apply And.intro); all_goals first | (with_reducible first | refine OkW.mk ?_ | refine EndW.mk ?_ | apply AskI.id | apply AskGI.id) | (with_reducible apply KOt.mk; kernel_rfl) | exact trivial | rfl | omega | ((try intro _); first | apply R64 <;> omega | apply room_of <;> omega) | skip)
  (refine Ok.ret ?_; (try dsimp only [thenK, blockK, noGotoK]); simp only [toList_mk, List.toList_toArray, retK_ret, retK_normal, resOK, resV, celV, rowV, frzAll, frzT, subV, subL, go_sem])
  exact ⟨.refl _, .refl _, .refl _, .refl _, .refl _, .refl _, ex_boards, DEq.nils rfl⟩
end Go.Proofs.Sight
namespace Go.Proofs.Sight
open Go Go.RX Go.Proofs Go.RowKit
attribute [local go_sem] Oper.semAt_some
set_option maxRecDepth 100000
structure BelowX (Q : Nat) (w w' : World) : Prop where
  os : w'.os = w.os
  tape : w'.tape = w.tape
  output : w'.output = w.output
  size : w.heap.size ≤ w'.heap.size
  block : ∀ k, k < w.heap.size → k ≠ Q → w'.heap[k]? = w.heap[k]?
set_option maxHeartbeats 4000000 in
theorem att_ok (f Q : Nat) (caps : Array Value) (w : World) (hQ : Q < w.heap.size) (hent : ∃ fn, Tryz.prog.funcs[f]? = some fn ∧ (fn.name == "runtime.NumGoroutine") = false ∧ fn.body.isNone = false) (R : World → Prop)
    (hR : ∀ W W', R W → (∀ k, k ≠ w.heap.size → k ≠ w.heap.size + 1 → W'.heap[k]? = W.heap[k]?) → W'.heap.size = W.heap.size → R W')
    (hf : ∀ W2, Below w.heap.size w W2 → W2.heap.size = w.heap.size + 1 + 1 → Calls Tryz.prog f caps W2 fun e w1 => e = .returned (.tuple #[]) ∧ BelowX Q W2 w1 ∧ R w1) :
    Calls Tryz.prog 76 #[.func (.func f) #[] caps] w fun e w' => e = .returned (.tuple #[.agg #[.int .i64 0, .int .i64 0], .int .i64 0]) ∧ BelowX Q w w' ∧ R w' := by
  have hmf : ∀ (fn : Fn) (first cap : Array Value) (w : World), (Instr.makeFunc fn first cap).run Tryz.prog w = .ok (.func fn first cap) w := fun _ _ _ _ => rfl
  have he := enters_of' hent
  refine calls_of_wp_defers Tryz.func76 rfl ?_
  simp only [Tryz.ntmps76, List.size_toArray, List.length_cons, List.length_nil, Nat.reduceAdd, Nat.reduceSub, Array.replicate_succ, Array.replicate_zero, List.push_toArray, List.append_toArray, List.nil_append, List.cons_append]
  go_wp2
  obtain ⟨W2, hW2⟩ : ∃ W2, (w.alloc (.cells #[.int .i64 0, .int .i64 0] 42)).alloc (.cells #[.int .i64 0] 33) = W2 := ⟨_, rfl⟩
  have k0 : W2.heap[w.heap.size]? = some (.cells #[.int .i64 0, .int .i64 0] 42) := by rw [← hW2]; exact al_old _ (al_new _ rfl)
  have k1 : W2.heap[w.heap.size + 1]? = some (.cells #[.int .i64 0] 33) := by rw [← hW2]; exact al_new _ (al_sz _ rfl)
  have hB2 : Below w.heap.size w W2 := by rw [← hW2]; exact ((Below.refl _ w).alloc (Nat.le_refl _) _).alloc (by simp) _
  have hz2 : W2.heap.size = w.heap.size + 1 + 1 := by rw [← hW2]; exact al_sz _ (al_sz _ rfl)
  rw [hW2]
  refine (hf W2 hB2 hz2).mono ?_
  rintro e w1 ⟨rfl, hB1, hR1⟩
  have g0 := cellAt ((hB1.block _ (by omega) (by omega)).trans k0)
  have g00 := g0 0
  have g01 := g0 1
  have g10 := cellAt ((hB1.block _ (by omega) (by omega)).trans k1) 0
  clear g0
  simp only [List.getElem?_toArray, List.getElem?_cons_zero, List.getElem?_cons_succ] at g00 g01 g10
  have f0 : ∀ o, w1.frozen? ⟨w.heap.size, o, none⟩ = false := fun o => by simp [World.frozen?, (hB1.block _ (by omega) (by omega)).trans k0]
  have f1 : ∀ o, w1.frozen? ⟨w.heap.size + 1, o, none⟩ = false := fun o => by simp [World.frozen?, (hB1.block _ (by omega) (by omega)).trans k1]
  go_wp2
  have hk0 := (hB1.block _ (by omega) (by omega)).trans k0
  have hk1 := (hB1.block _ (by omega) (by omega)).trans k1
  have hne : w.heap.size ≠ w.heap.size + 1 := by omega
  obtain ⟨W3, hW3⟩ : ∃ W3, ((w1.setCell ⟨w.heap.size, 0, none⟩ (.int .i64 0)).setCell ⟨w.heap.size, 1, none⟩ (.int .i64 0)).setCell ⟨w.heap.size + 1, 0, none⟩ (.int .i64 0) = W3 := ⟨_, rfl⟩
  have m0 : W3.heap[w.heap.size]? = some (.cells #[.int .i64 0, .int .i64 0] 42) := by
    rw [← hW3]; exact (Below.heap_setCell _ ⟨w.heap.size + 1, 0, none⟩ _ _ hne).trans (st_same (st_same hk0 0 _) 1 _)
  have m1 : W3.heap[w.heap.size + 1]? = some (.cells #[.int .i64 0] 33) := by
    rw [← hW3]; exact st_same ((Below.heap_setCell _ ⟨w.heap.size, 1, none⟩ _ _ hne.symm).trans ((Below.heap_setCell _ ⟨w.heap.size, 0, none⟩ _ _ hne.symm).trans hk1)) 0 _
  have hsame : ∀ k, k ≠ w.heap.size → k ≠ w.heap.size + 1 → W3.heap[k]? = w1.heap[k]? := fun k h1 h2 => by
    rw [← hW3, Below.heap_setCell _ ⟨w.heap.size + 1, 0, none⟩ _ k h2, Below.heap_setCell _ ⟨w.heap.size, 1, none⟩ _ k h1, Below.heap_setCell _ ⟨w.heap.size, 0, none⟩ _ k h1]
  have hsz3 : W3.heap.size = w1.heap.size := by rw [← hW3]; simp [World.setCell, Array.size_modify]
  have ho3 : W3.os = w1.os ∧ W3.tape = w1.tape ∧ W3.output = w1.output := by rw [← hW3]; exact ⟨rfl, rfl, rfl⟩
  rw [hW3]
  have hBX : BelowX Q w W3 := ⟨ho3.1.trans (hB1.os.trans hB2.os), ho3.2.1.trans (hB1.tape.trans hB2.tape), ho3.2.2.trans (hB1.output.trans hB2.output), by rw [hsz3]; have := hB1.size; omega,
    fun k hk hkQ => by rw [hsame k (by omega) (by omega), hB1.block k (by omega) hkQ]; exact hB2.block k hk⟩
  have hRR := hR w1 W3 hR1 hsame hsz3
  refine leaves_cons (f := 119) (args := #[.pointer (some ⟨w.heap.size, 0, none⟩), .pointer (some ⟨w.heap.size + 1, 0, none⟩)]) (by simp) (by simp [go_sem]) ?_
  refine (catch_idle ⟨w.heap.size, 0, none⟩ ⟨w.heap.size + 1, 0, none⟩ _).mono ?_
  rintro e u' w'' ⟨rfl, rfl, rfl⟩
  have q0 := cellAt m0
  have q00 := q0 0
  have q01 := q0 1
  have q10 := cellAt m1 0
  clear q0
  simp only [List.getElem?_toArray, List.getElem?_cons_zero, List.getElem?_cons_succ] at q00 q01 q10
  simp [Leaves, settle, results, Tryz.results76, go_sem, q00, q01, q10]
  exact ⟨hBX, hRR⟩
theorem rep_slice {I : Nat → Prop} {w : World} {v : Value} {k n : Nat} {g : Nat → Nat → DV} (h : Rep I w v (.sl k n g)) : ∃ p l c, v = .slice p l c := by
  cases h with
  | sl0 => exact ⟨_, _, _, rfl⟩
  | sl1 => exact ⟨_, _, _, rfl⟩
  | sl => exact ⟨_, _, _, rfl⟩
theorem street_vals8 {I : Nat → Prop} {w : World} {v : Value} {s : Street} (h : RepS I w v s.sv) : ∃ a b c d e f p1 l1 c1 p2 l2 c2, v = .agg #[.int .i64 a, .int .i64 b, .int .i64 c, .int .i64 d, .int .i64 e, .int .i64 f, .slice p1 l1 c1, .slice p2 l2 c2] ∧
    Fits I w [.int .i64 a, .int .i64 b, .int .i64 c, .int .i64 d, .int .i64 e, .int .i64 f, .slice p1 l1 c1, .slice p2 l2 c2] (streetDs s) := by
  obtain ⟨cs, rfl, hf⟩ := RepS.fits (xs := streetDs s) h
  have hf' := hf
  unfold streetDs at hf
  match cs, hf with
  | _, .cons h0 (.cons h1 (.cons h2 (.cons h3 (.cons h4 (.cons h5 (.cons h6 (.cons h7 .nil))))))) =>
    obtain ⟨p1, l1, c1, rfl⟩ := rep_slice h6
    obtain ⟨p2, l2, c2, rfl⟩ := rep_slice h7
    cases h0; cases h1; cases h2; cases h3; cases h4; cases h5
    exact ⟨_, _, _, _, _, _, _, _, _, _, _, _, rfl, hf'⟩
def put8 (W : World) (Q : Nat) (a b c d e f g h : Value) : World :=
  (((((((W.setCell ⟨Q, 0, none⟩ a).setCell ⟨Q, 1, none⟩ b).setCell ⟨Q, 2, none⟩ c).setCell ⟨Q, 3, none⟩ d).setCell ⟨Q, 4, none⟩ e).setCell ⟨Q, 5, none⟩ f).setCell ⟨Q, 6, none⟩ g).setCell ⟨Q, 7, none⟩ h
theorem put8_at {W : World} {Q : Nat} {T : TypeId} {x0 x1 x2 x3 x4 x5 x6 x7 : Value} (hk : W.heap[Q]? = some (.cells #[x0, x1, x2, x3, x4, x5, x6, x7] T)) (a b c d e f g h : Value) :
    (put8 W Q a b c d e f g h).heap[Q]? = some (.cells #[a, b, c, d, e, f, g, h] T) ∧ (∀ k, k ≠ Q → (put8 W Q a b c d e f g h).heap[k]? = W.heap[k]?) ∧ (put8 W Q a b c d e f g h).heap.size = W.heap.size ∧
      (put8 W Q a b c d e f g h).os = W.os ∧ (put8 W Q a b c d e f g h).tape = W.tape ∧ (put8 W Q a b c d e f g h).output = W.output := by
  have s0 := st_same hk 0 a
  have s1 := st_same s0 1 b
  have s2 := st_same s1 2 c
  have s3 := st_same s2 3 d
  have s4 := st_same s3 4 e
  have s5 := st_same s4 5 f
  have s6 := st_same s5 6 g
  have s7 := st_same s6 7 h
  refine ⟨by unfold put8; simpa using s7, fun k hk => ?_, by simp [put8, World.setCell, Array.size_modify], by simp only [put8, World.setCell], by simp only [put8, World.setCell], by simp only [put8, World.setCell]⟩
  unfold put8
  rw [Below.heap_setCell _ ⟨Q, 7, none⟩ _ k hk, Below.heap_setCell _ ⟨Q, 6, none⟩ _ k hk, Below.heap_setCell _ ⟨Q, 5, none⟩ _ k hk, Below.heap_setCell _ ⟨Q, 4, none⟩ _ k hk, Below.heap_setCell _ ⟨Q, 3, none⟩ _ k hk, Below.heap_setCell _ ⟨Q, 2, none⟩ _ k hk, Below.heap_setCell _ ⟨Q, 1, none⟩ _ k hk, Below.heap_setCell _ ⟨Q, 0, none⟩ _ k hk]
def StreetAt (Q n0 : Nat) (s : Street) (W : World) : Prop :=
  ∃ a b c d e f p1 l1 c1 p2 l2 c2, W.heap[Q]? = some (.cells #[.int .i64 a, .int .i64 b, .int .i64 c, .int .i64 d, .int .i64 e, .int .i64 f, .slice p1 l1 c1, .slice p2 l2 c2] 27) ∧
    ∃ (N : Nat → Prop), (∀ k, N k → n0 ≤ k ∧ k < W.heap.size) ∧ Fits N W [.int .i64 a, .int .i64 b, .int .i64 c, .int .i64 d, .int .i64 e, .int .i64 f, .slice p1 l1 c1, .slice p2 l2 c2] (streetDs s)
set_option maxHeartbeats 1000000 in
theorem cls_ok (t : List UInt8) (s : Street) (hp : Ctr Tryz.prog 106 [.d (.str t)] s.sv) (B Q : Nat) (W : World) (hG : Tabs W) (hB : W.heap[B]? = some (.cells #[.string ⟨t.toArray⟩] 9)) (hQ : W.heap[Q]? = some (.cells #[.int .i64 0, .int .i64 0, .int .i64 0, .int .i64 0, .int .i64 0, .int .i64 0, .slice none 0 0, .slice none 0 0] 27)) :
    Calls Tryz.prog 105 #[.pointer (some ⟨B, 0, none⟩), .pointer (some ⟨Q, 0, none⟩)] W fun e w1 => e = .returned (.tuple #[]) ∧ BelowX Q W w1 ∧ StreetAt Q W.heap.size s w1 := by
  have hlt := (Array.getElem?_eq_some_iff.1 hQ).1
  have hcall := hp.2 (fun _ => False) W #[.string ⟨t.toArray⟩] hG (fun k hk => hk.elim) rfl (fun j u y hu hy => by
    cases j with
    | zero => simp at hu hy; subst hu; subst hy; exact RepS.of (rep_str' _ _ _)
    | succ j => simp at hy)
  have g := cellAt hB 0
  simp only [List.getElem?_toArray, List.getElem?_cons_zero, List.getElem?_cons_succ] at g
  go_enter Tryz.func105, Tryz.ntmps105
  go_wp2_with (go_at_call 106; refine hcall.mono ?_; rintro e w1 ⟨v, rfl, hv, hW1⟩; obtain ⟨a, b, c, d, e, f, p1, l1, c1, p2, l2, c2, rfl, hfit⟩ := street_vals8 hv; have hk := (hW1.block Q hlt).trans hQ; have q := cellAt hk; have q0 := q 0; have q1 := q 1; have q2 := q 2; have q3 := q 3; have q4 := q 4; have q5 := q 5; have q6 := q 6; have q7 := q 7; clear q; simp only [List.getElem?_toArray, List.getElem?_cons_zero, List.getElem?_cons_succ] at q0 q1 q2 q3 q4 q5 q6 q7; have fz : ∀ o, w1.frozen? ⟨Q, o, none⟩ = false := fun o => by simp [World.frozen?, hk])
  obtain ⟨W', hW'⟩ : ∃ W', put8 w1 Q (.int .i64 a) (.int .i64 b) (.int .i64 c) (.int .i64 d) (.int .i64 e) (.int .i64 f) (.slice p1 l1 c1) (.slice p2 l2 c2) = W' := ⟨_, rfl⟩
  have hput := put8_at hk (.int .i64 a) (.int .i64 b) (.int .i64 c) (.int .i64 d) (.int .i64 e) (.int .i64 f) (.slice p1 l1 c1) (.slice p2 l2 c2)
  rw [hW'] at hput
  unfold put8 at hW'
  rw [hW']
  obtain ⟨s7, ho, hz, o1, o2, o3⟩ := hput
  go_end0
  refine ⟨rfl, ⟨o1.trans hW1.os, o2.trans hW1.tape, o3.trans hW1.output, by rw [hz]; exact hW1.size, fun k hk hkQ => by rw [ho k hkQ]; exact hW1.block k hk⟩, a, b, c, d, e, f, p1, l1, c1, p2, l2, c2, s7, fun k => W.heap.size ≤ k ∧ k < w1.heap.size, fun k hk => ⟨hk.1, by rw [hz]; exact hk.2⟩, ?_⟩
  exact hfit.mono (fun k hk => by rcases hk with hk | hk; exact hk.elim; exact hk) (fun k hk => by rcases hk with hk | hk; exact hk.elim; exact ho k (by omega))
end Go.Proofs.Sight
