/-
  The program's functions,contracts: what each one returns,whatever the world: part 6. No condition.
-/
import Derived.Test.YtchnganlpgfdjaaGreatDoorB00
import Derived.Test.YtchnganlpgfdjaaGreatDoorB01
import Derived.Test.YtchnganlpgfdjaaGreatDoorB02
import Derived.Test.YtchnganlpgfdjaaGreatDoorB03
import Derived.Test.YtchnganlpgfdjaaGreatDoorB04
import Derived.Great.BuildSlice
import Derived.Laws.Strings
import Derived.Laws.Slices
import Derived.Laws.Small
import Derived.Laws.IdiomStrings
import Derived.Laws.BytesArg
set_option linter.all false
set_option linter.unusedVariables false
set_option linter.unusedSectionVars false
set_option linter.unusedSimpArgs false
set_option linter.unnecessarySimpa false
namespace Go.RX
open Go Go.RowKit
variable [Glob]
section
variable {P : Program} {Q : Exit → Act → World → Prop}
variable {I : Nat → Prop} {β : Nat → Option Nat} {τ : Nat → Option Value} {Y : Nat → Option Bool} {E : Nat → SV} {B : Nat → Option BC} {K : Nat → Option TC} {I0 : Nat → Prop} {N : Nat} {w0 w : World} {a : Act} {o : Oper}
theorem mt_d {v : Value} {x : DV} (h : Mt I β τ Y w v (.d x)) : Rep I w v x:=by cases h with | d h => exact h
theorem rep_int {v : Value} {k : IntKind} {n : Int} (h : Rep I w v (.int k n)) : v = .int k n:=by cases h; rfl
theorem rep_bool {v : Value} {b : Bool} (h : Rep I w v (.bool b)) : v = .bool b:=by cases h; rfl
theorem rep_str {v : Value} {l : List UInt8} (h : Rep I w v (.str l)) : ∃ s,v = .string s ∧ s.data.toList = l:=by cases h with | str h => exact ⟨_,rfl,h⟩
theorem sound_not (h : InvX I β τ Y E B K I0 N w0 a w) (hd : ∀ d,o.dst = some d → d < N) {t : Nat} {x : Operand} {s : SV} {ev : Ev} (ho : o.op = .unOp .not t x) (hx : Mt I β τ Y w (a.eval x) s) (he : notE s = some ev) : Sound P Q Y E B K I0 N w0 a w o ev.v ev.ef:=by
  unfold notE at he
  split at he
  · simp at he; subst he
    have:=rep_bool (mt_d hx)
    exact sound_pure h hd (v:=.bool _) (by simp [execOp,ho,this,Op.unary]) (.d .bool)
  · simp at he
theorem sound_cvt (h : InvX I β τ Y E B K I0 N w0 a w) (hd : ∀ d,o.dst = some d → d < N) {s t : Nat} {x : Operand} {sv : SV} {ev : Ev} (ho : o.op = .convert s t x) (hx : Mt I β τ Y w (a.eval x) sv) (he : cvtE P s t sv = some ev) (hp : ev.p) : Sound P Q Y E B K I0 N w0 a w o ev.v ev.ef:=by
  unfold cvtE at he
  split at he
  · split at he
    · rename_i k' n _ _ ks k hs ht
      simp at he; subst he
      have hv:=rep_int (mt_d hx)
      have hs' : ∃ d,P.underlying s = some d:=by
        unfold intT at hs
        split at hs
        · rename_i hu; exact ⟨_,hu⟩
        · simp at hs
      have ht' : P.underlying t = some (.int k):=by
        unfold intT at ht
        split at ht
        · rename_i hu; simp at ht; rw [← ht]; exact hu
        · simp at ht
      obtain ⟨d,hd'⟩:=hs'
      refine sound_pure h hd (v:=.int k n) ?_ (.d .int)
      simp [execOp,ho,hv,convert,run_underlying hd',run_underlying ht',Conv.intToInt]
      exact hp
    · simp at he
  · rename_i n g
    split at he
    · rename_i hc
      obtain ⟨hc1,hc2⟩:=hc
      simp only [Option.some.injEq] at he; subst he
      dsimp only at hp ⊢
      have hs' : ∃ e,P.underlying s = some (.slice e) ∧ P.underlying e = some (.int .u8):=by
        unfold bysT at hc1
        split at hc1
        · rename_i e hu
          split at hc1
          · rename_i hu2; exact ⟨e,hu,hu2⟩
          · cases hc1
        · cases hc1
      have ht' : P.underlying t = some .string:=by
        unfold strT at hc2
        split at hc2
        · rename_i hu; exact hu
        · cases hc2
      obtain ⟨e,hs1,hs2⟩:=hs'
      have hx':=mt_d hx
      generalize hvx : a.eval x = vx at hx'
      cases hx' with
      | sl0 =>
        refine sound_pure h hd (v:=.string ByteArray.empty) ?_ (.d (.str rfl))
        have:=run_convert_bytes_nil (P:=P) w s e hs1 hs2 0 0 t ht'
        simp [execOp,ho,hvx,this]
      | @sl1 a' cap _ _ _ =>
        refine sound_pure h hd (v:=.string ⟨([] : List UInt8).toArray⟩) ?_ (.d (.str rfl))
        have:=run_convert_bytes_back (P:=P) w s t e a' cap [] hs1 hs2 ht' (fun j hj => by simp at hj)
        simp only [List.length_nil] at this
        simp [execOp,ho,hvx,this]
      | @sl b o' _ cap _ _ us hI hn hcap hcell hrep =>
        refine sound_pure h hd (v:=.string ⟨((List.range n).map (fun i => byt (g i 0))).toArray⟩) ?_ (.d (.str rfl))
        have:=run_convert_bytes_back (P:=P) w s t e ⟨b,o',none⟩ cap ((List.range n).map (fun i => byt (g i 0))) hs1 hs2 ht' (fun j hj => by
          have hj' : j < n:=by simpa using hj
          have h1:=hcell j 0 hj' (by omega)
          have h2:=hrep j 0 hj' (by omega)
          rw [hp j hj'] at h2
          have h3:=rep_int h2
          have ha : (⟨b,o',none⟩ : Addr).add j = ⟨b,o' + (j * 1 + 0),none⟩:=by simp [Addr.add]
          rw [ha,h1,h3]
          simp)
        rw [List.length_map,List.length_range] at this
        simp [execOp,ho,hvx,this]
    · simp at he
  · simp at he
theorem sound_ext (h : InvX I β τ Y E B K I0 N w0 a w) (hd : ∀ d,o.dst = some d → d < N) {i : Nat} {x : Operand} {sv : SV} {ev : Ev} (ho : o.op = .extract x i) (hx : Mt I β τ Y w (a.eval x) sv) (he : extE i sv = some ev) : Sound P Q Y E B K I0 N w0 a w o ev.v ev.ef:=by
  unfold extE at he
  split at he
  · split at he
    · rename_i xs v hv
      simp at he; subst he
      generalize hvx : a.eval x = vx at hx
      cases hx with
      | tup hl hm =>
        rename_i cs
        rw [nth_eq] at hv
        have hi : i < cs.size:=by rw [hl]; exact (List.getElem?_eq_some_iff.1 hv).1
        have hc : cs[i]? = some cs[i]:=by simp [hi]
        exact sound_pure h hd (v:=cs[i]) (by simp [execOp,ho,hvx,Instr.extract,hc]) (hm i _ _ hc hv)
    · simp at he
  · simp at he
theorem strT_spec {t : Nat} (h : strT P t = true) : P.underlying t = some .string:=by
  unfold strT at h
  split at h
  · rename_i hu; exact hu
  · simp at h
theorem sound_at (h : InvX I β τ Y E B K I0 N w0 a w) (hd : ∀ d,o.dst = some d → d < N) {t : Nat} {x y : Operand} {s1 s2 : SV} {ev : Ev} (ho : o.op = .index t x y) (hx : Mt I β τ Y w (a.eval x) s1) (hy : Mt I β τ Y w (a.eval y) s2) (he : atE P t s1 s2 = some ev) (hp : ev.p) : Sound P Q Y E B K I0 N w0 a w o ev.v ev.ef:=by
  unfold atE at he
  split at he
  · split at he
    · rename_i l k n ht
      simp at he; subst he
      obtain ⟨s,hs,hl⟩:=rep_str (mt_d hx)
      have hn:=rep_int (mt_d hy)
      simp only at hp
      have hsz : s.size = l.length:=by rw [← hl]; rfl
      have hlt : n.toNat < s.size:=by omega
      have hget : s[n.toNat]? = some s[n.toNat]:=ByteArray.getElem?_lt' s _ hlt
      have hb : s[n.toNat] = l.getD n.toNat 0:=by
        subst hl
        rw [List.getD_eq_getElem?_getD,List.getElem?_eq_getElem (by simpa using hlt)]
        rfl
      refine sound_pure h hd (v:=.int .u8 (l.getD n.toNat 0).toNat) ?_ (.d .int)
      simp [execOp,ho,hs,hn,Instr.index,asIntOf,run_underlying (strT_spec ht),hp.1,hget,hb]
    · simp at he
  · simp at he
theorem sound_pick (h : InvX I β τ Y E B K I0 N w0 a w) (hd : ∀ d,o.dst = some d → d < N) {ops : List Oper} {c : Nat} {x y : Operand} {s1 s2 s3 : SV} {ev : Ev} (ho : o.op = .pick (.tmp c) x y) (hc : Mt I β τ Y w (a.eval (.tmp c)) s3) (hx : MtG I β τ Y w (a.eval x) s1) (hy : MtG I β τ Y w (a.eval y) s2)
    (hY : ∀ j t,dstOf ops j = some c → s3 = .d (.bool t) → Y j = some t) (he : pickE ops c s1 s2 s3 = some ev) : Sound P Q Y E B K I0 N w0 a w o ev.v ev.ef:=by
  unfold pickE at he
  split at he
  · rename_i t
    have hcv:=rep_bool (mt_d hc)
    unfold pickB at he
    split at he
    · rename_i u v h1 h2
      simp at he; subst he
      have hu : t = true → a.eval x = .bool u:=by
        intro ht; subst ht
        unfold pickA at h1
        split at h1
        · split at h1
          · rename_i hj
            subst h1
            have hYj:=hY _ true hj.1 rfl
            generalize a.eval x = vx at hx
            cases hx with
            | m hm => cases hm
            | gdT hy hm => exact rep_bool (mt_d (hm.un (fun _ _ _ e => by cases e)))
            | gdF hy => exact absurd (by rw [hYj,← hj.2]) hy
          · simp at h1
        · subst h1; exact rep_bool (mt_d (hx.un (fun _ _ _ e => by cases e)))
      have hv : t = false → a.eval y = .bool v:=by
        intro ht; subst ht
        unfold pickA at h2
        split at h2
        · split at h2
          · rename_i hj
            subst h2
            have hYj:=hY _ false hj.1 rfl
            generalize a.eval y = vx at hy
            cases hy with
            | m hm => cases hm
            | gdT hy hm => exact rep_bool (mt_d (hm.un (fun _ _ _ e => by cases e)))
            | gdF hy => exact absurd (by rw [hYj,← hj.2]) hy
          · simp at h2
        · subst h2; exact rep_bool (mt_d (hy.un (fun _ _ _ e => by cases e)))
      refine sound_pure h hd (v:=.bool (if t then u else v)) ?_ (.d .bool)
      cases t
      · simp [execOp,ho,hcv,asBool,hv rfl]
      · simp [execOp,ho,hcv,asBool,hu rfl]
    · simp at he
  · simp at he
theorem toList_str {s : ByteArray} {l : List UInt8} (h : s.data.toList = l) : s.toList = l:=by rw [ByteArray.toList_eq,h]
theorem eqC_ok : ∀ (xs ys : List SV) (us vs : List Value) (c : Bool),us.length = xs.length → vs.length = ys.length →
    (∀ (j : Nat) (u : Value) (x : SV),us[j]? = some u → xs[j]? = some x → Mt I β τ Y w u x) → (∀ (j : Nat) (u : Value) (x : SV),vs[j]? = some u → ys[j]? = some x → Mt I β τ Y w u x) → eqC xs ys = some c → eqVs us vs = some c ∧ us.map isB = patC xs
  | [],[],us,vs,c,h1,h2,_,_,h => by
    simp [eqC] at h; subst h
    obtain rfl : us = []:=List.eq_nil_of_length_eq_zero (by simpa using h1)
    obtain rfl : vs = []:=List.eq_nil_of_length_eq_zero (by simpa using h2)
    exact ⟨rfl,rfl⟩
  | x :: xs,y :: ys,us,vs,c,h1,h2,hu,hv,h => by
    match us,vs,h1,h2 with
    | u :: us,v :: vs,h1,h2 =>
      have hu0:=hu 0 u x rfl rfl
      have hv0:=hv 0 v y rfl rfl
      have rc:=fun c hc => eqC_ok xs ys us vs c (by simpa using h1) (by simpa using h2) (fun j u x a b => hu (j + 1) u x (by simpa using a) (by simpa using b)) (fun j u x a b => hv (j + 1) u x (by simpa using a) (by simpa using b)) hc
      unfold eqC at h
      split at h
      · simp at *
      · rename_i k a r k' b s e1 e2
        cases e1; cases e2
        split at h
        · rename_i hk; subst hk
          split at h
          · rename_i c' hc'
            simp at h; subst h
            rw [rep_int (mt_d hu0),rep_int (mt_d hv0)]
            simp [eqVs,isB,patC,(rc c' hc').1,(rc c' hc').2]
          · simp at h
        · simp at h
      · rename_i a r b s e1 e2
        cases e1; cases e2
        split at h
        · rename_i c' hc'
          simp at h; subst h
          rw [rep_bool (mt_d hu0),rep_bool (mt_d hv0)]
          simp [eqVs,isB,patC,(rc c' hc').1,(rc c' hc').2]
        · simp at h
      · simp at h
  | [],y :: ys,us,vs,c,h1,h2,_,_,h => by simp [eqC] at h
  | x :: xs,[],us,vs,c,h1,h2,_,_,h => by cases x <;> (try (rename_i q; cases q)) <;> simp [eqC] at h
theorem boolT_spec {t : Nat} (h : boolT P t = true) : P.underlying t = some .bool:=by
  unfold boolT at h
  split at h
  · rename_i hu; exact hu
  · simp at h
theorem run_intB {op : BinOp} {t : Nat} {k : IntKind} {n m : Int} {p : Prop} {z : DV} (hb : intB op k n m = some (p,z)) (hp : p) : ∃ v,(binOp op t (.int k n) (.int k m)).run P w = .ok v w ∧ Rep I w v z:=by
  cases op <;> simp only [intB,reduceCtorEq] at hb <;> cases hb
  case add => exact ⟨_,by simp only [R] at hp; simp [binOp_add,Op.intArith,hp],.int⟩
  case sub => exact ⟨_,by simp only [R] at hp; simp [binOp_sub,Op.intArith,hp],.int⟩
  case mul => exact ⟨_,by simp only [R] at hp; simp [binOp_mul,Op.intArith,hp],.int⟩
  case quo => exact ⟨_,by simp only [R] at hp; simp [binOp_quo,Op.intDiv,hp],.int⟩
  case rem => exact ⟨_,by simp [binOp_rem,Op.intDiv,hp],.int⟩
  case and => exact ⟨_,by simp [binOp_and,intBits_and],.int⟩
  case or => exact ⟨_,by simp [binOp_or,intBits_or],.int⟩
  case xor => exact ⟨_,by simp [binOp_xor,intBits_xor],.int⟩
  case andNot => exact ⟨_,by simp [binOp_andNot,intBits_andNot],.int⟩
  case eql => exact ⟨_,by simp [binOp_eql],.bool⟩
  case neq => exact ⟨_,by simp [binOp_neq],.bool⟩
  case lss => exact ⟨_,by simp [binOp_lss],.bool⟩
  case leq => exact ⟨_,by simp [binOp_leq],.bool⟩
  case gtr => exact ⟨_,by simp [binOp_gtr],.bool⟩
  case geq => exact ⟨_,by simp [binOp_geq],.bool⟩
theorem run_bin_op {op : BinOp} {t t' : Nat} {x y : Operand} {v : Value} (ho : o.op = .binOp op t x y t') (hg : eqGuard op t x y (a.eval x) (a.eval y) = pure ()) (hr : (binOp op t (a.eval x) (a.eval y)).run P w = .ok v w) : (execOp a.eval o).run P w = .ok (.value v) w:=by
  simp [execOp,ho,hg,hr]
theorem bits_le (k : IntKind) : 8 ≤ k.bits ∧ k.bits ≤ 64:=by cases k <;> decide
theorem run_binD {op : BinOp} {t : Nat} {x y : Operand} {d1 d2 : DV} {v1 v2 : Value} {p : Prop} {z : DV} (h1 : Rep I w v1 d1) (h2 : Rep I w v2 d2) (hb : binB (boolT P t) op (.d d1) (.d d2) = some (p,z)) (hp : p) :
    eqGuard op t x y v1 v2 = pure () ∧ ∃ v,(binOp op t v1 v2).run P w = .ok v w ∧ Rep I w v z:=by
  unfold binB at hb
  split at hb
  · rename_i k n k' m e1 e2
    cases e1; cases e2
    cases h1; cases h2
    refine ⟨eqGuard_at_int ..,?_⟩
    split at hb
    · cases hb
      obtain ⟨p1,p2,p3⟩:=hp
      refine ⟨.int k (n * 2 ^ m.toNat),?_,.int⟩
      have hmin : min m.toNat k.bits = m.toNat:=by have:=bits_le k; omega
      simp only [R] at p3
      have hneg : ¬ m < 0:=by omega
      simp [binOp_shl,Op.shift,hneg,hmin,p3]
    · cases hb
      obtain ⟨p1,p2⟩:=hp
      refine ⟨.int k (n / 2 ^ m.toNat),?_,.int⟩
      have hmin : min m.toNat k.bits = m.toNat:=by have:=bits_le k; omega
      have hneg : ¬ m < 0:=by omega
      have hpow : (0 : Int) ≤ 2 ^ m.toNat:=Int.pow_nonneg (by decide)
      simp [binOp_shr,Op.shift,hneg,hmin,Int.fdiv_eq_ediv_of_nonneg _ hpow]
    · split at hb
      · rename_i hk; subst hk
        exact run_intB hb hp
      · simp at hb
  · rename_i b1 b2 e1 e2
    cases e1; cases e2
    cases h1; cases h2
    refine ⟨eqGuard_at_bool ..,?_⟩
    split at hb
    · cases hb
      exact ⟨.bool (b1 == b2),run_eql_bool w t b1 b2 (boolT_spec hp),.bool⟩
    · cases hb
      have:=run_eql_bool (P:=P) w t b1 b2 (boolT_spec hp)
      simp only [binOp,Sem.run_bind] at this
      refine ⟨.bool (b1 != b2),?_,.bool⟩
      simp only [binOp,Sem.run_bind]
      cases he : Sem.run P (Op.equal t (.bool b1) (.bool b2)) w with
      | ok r w' =>
        rw [he] at this
        simp only [Result.andThen_ok,Sem.run_pure,Result.ok.injEq,Value.bool.injEq] at this
        obtain ⟨rfl,rfl⟩:=this
        cases b1 <;> cases b2 <;> rfl
      | halt r w' => rw [he] at this; simp [Result.andThen] at this
    · simp at hb
  · rename_i l1 l2 e1 e2
    cases e1; cases e2
    cases h1 with
    | str hs1 =>
      cases h2 with
      | str hs2 =>
        rename_i s1 s2
        refine ⟨eqGuard_at_string ..,?_⟩
        split at hb
        · cases hb
          simp only [strRoom] at hp
          refine ⟨.string (s1 ++ s2),?_,.str (by rw [← hs1,← hs2]; simp)⟩
          have e1 : s1.size = l1.length:=by rw [← hs1]; rfl
          have e2 : s2.size = l2.length:=by rw [← hs2]; rfl
          have hle : ¬ ((9223372036854775807 : Int) < (s1.size : Int) + (s2.size : Int)):=by rw [e1,e2]; omega
          simp [binOp_string_add,Op.stringOp,hle]
        · cases hb
          exact ⟨.bool (l1 == l2),by simp [binOp_string_eql,toList_str hs1,toList_str hs2],.bool⟩
        · cases hb
          exact ⟨.bool (l1 != l2),by simp [binOp_string_neq,toList_str hs1,toList_str hs2,bne],.bool⟩
        · simp at hb
  · simp at hb
theorem sound_bin (h : InvX I β τ Y E B K I0 N w0 a w) (hd : ∀ d,o.dst = some d → d < N) {op : BinOp} {t t' : Nat} {x y : Operand} {s1 s2 : SV} {ev : Ev} (ho : o.op = .binOp op t x y t') (hx : Mt I β τ Y w (a.eval x) s1) (hy : Mt I β τ Y w (a.eval y) s2) (he : binE P op t s1 s2 = some ev) (hp : ev.p) : Sound P Q Y E B K I0 N w0 a w o ev.v ev.ef:=by
  unfold binE at he
  split at he
  · rename_i xs ys
    unfold binA at he
    split at he
    · rename_i c hc
      generalize hvx : a.eval x = vx at hx
      generalize hvy : a.eval y = vy at hy
      cases hx with
      | agg hl1 hm1 ho1 =>
        cases hy with
        | agg hl2 hm2 ho2 =>
          rename_i us vs
          have heq:=eqC_ok (I:=I) (β:=β) (τ:=τ) (Y:=Y) (w:=w) xs ys us.toList vs.toList c (by simpa using hl1) (by simpa using hl2) (fun j u x a b => hm1 j u x (by simpa using a) b) (fun j u x a b => hm2 j u x (by simpa using a) b) hc
          split at he
          · simp at he; subst he
            have:=(hp us vs w c x y heq.2 heq.1).1
            simp only [Sem.run_bind] at this
            exact sound_pure h hd (v:=.bool c) (by simp only [execOp,ho,hvx,hvy,Sem.run_bind]; rw [this]; rfl) (.d .bool)
          · simp at he; subst he
            have:=(hp us vs w c x y heq.2 heq.1).2
            simp only [Sem.run_bind] at this
            exact sound_pure h hd (v:=.bool (!c)) (by simp only [execOp,ho,hvx,hvy,Sem.run_bind]; rw [this]; rfl) (.d .bool)
          · simp at he
    · simp at he
  · rename_i x' y'
    unfold binO at he
    split at he
    · rename_i p z hb
      simp at he; subst he
      simp only at hp
      obtain ⟨hg,v,hr,hrep⟩:=run_binD (P:=P) (t:=t) (x:=x) (y:=y) (mt_d hx) (mt_d hy) hb hp
      exact sound_pure h hd (run_bin_op ho hg hr) (.d hrep)
    · simp at he
  · simp at he
end
end Go.RX
