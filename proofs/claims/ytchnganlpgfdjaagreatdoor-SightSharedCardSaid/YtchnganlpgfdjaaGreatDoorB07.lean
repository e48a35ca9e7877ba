/-
  The program's functions,contracts: what each one returns,whatever the world: part 8. No condition.
-/
import Derived.Test.YtchnganlpgfdjaaGreatDoorB00
import Derived.Test.YtchnganlpgfdjaaGreatDoorB01
import Derived.Test.YtchnganlpgfdjaaGreatDoorB02
import Derived.Test.YtchnganlpgfdjaaGreatDoorB03
import Derived.Test.YtchnganlpgfdjaaGreatDoorB04
import Derived.Test.YtchnganlpgfdjaaGreatDoorB05
import Derived.Test.YtchnganlpgfdjaaGreatDoorB06
set_option linter.all false
set_option linter.unusedVariables false
set_option linter.unusedSectionVars false
set_option linter.unusedSimpArgs false
set_option linter.unnecessarySimpa false
namespace Go.RX
open Go Go.RowKit
variable [Glob]
section
variable {P : Program} {Q : Exit → Act → World → Prop}
variable {I : Nat → Prop} {β : Nat → Option Nat} {τ : Nat → Option Value} {Y : Nat → Option Bool} {E : Nat → SV} {B : Nat → Option BC} {K : Nat → Option TC} {I0 : Nat → Prop} {N : Nat} {w0 w : World} {a : Act} {o : Oper}
theorem sound_arr (h : InvX I β τ Y E B K I0 N w0 a w) (hd : ∀ d,o.dst = some d → d < N) {t : Nat} {x y : Operand} {xs : List SV} {s2 : SV} {ev : Ev} (ho : o.op = .index t x y) (hx : Mt I β τ Y w (a.eval x) (.agg xs)) (hy : Mt I β τ Y w (a.eval y) s2) (he : arrE P t xs s2 = some ev) (hp : ev.p) : Sound P Q Y E B K I0 N w0 a w o ev.v ev.ef:=by
  unfold arrE at he
  split at he
  · rename_i kk n
    split at he
    · rename_i len e k har
      split at he
      · rename_i ag k' hl
        split at he
        · rename_i hcond
          obtain ⟨rfl,hlk⟩:=hcond
          obtain rfl:=Option.some.inj he
          simp only at hp
          obtain ⟨ie,hu,hie,hks⟩:=arrT_spec har
          obtain ⟨hsz,hag,h1⟩:=ldT_spec hl
          obtain ⟨d,hd',hrow⟩:=aggT_spec hag
          have hn:=rep_int (mt_d hy)
          generalize hvx : a.eval x = vx at hx
          cases hx with
          | agg hlen hm hone =>
            rename_i cs
            have hlt : n.toNat * k + k ≤ cs.size:=by
              have h2 : n.toNat + 1 ≤ len:=by omega
              have h3:=Nat.mul_le_mul_right k h2
              rw [Nat.add_mul] at h3
              omega
            have hisagg : (isAgg e).run P w = .ok ag w:=by
              unfold isAgg
              rw [Sem.run_bind,run_underlying hd' w]
              cases d <;> simp_all
            have hpart : (part e cs (n.toNat * k)).run P w = .ok (if ag then .agg ((cs.toList.drop (n.toNat * k)).take k).toArray else ((cs.toList.drop (n.toNat * k)).take k).getD 0 undef) w:=by
              cases ag with
              | true =>
                have e' : (cs.extract (n.toNat * k) (n.toNat * k + k)) = ((cs.toList.drop (n.toNat * k)).take k).toArray:=by
                  apply Array.ext'
                  simp [List.extract_eq_take_drop]
                simp [part,Sem.run_bind,hisagg,sizeOf,typeInfo,hie,hks,e']
              | false =>
                have hn1:=h1 rfl
                subst hn1
                have hlt : n.toNat * 1 < cs.size:=by omega
                have hc : cs[n.toNat * 1]? = some cs[n.toNat * 1]:=by simp [hlt]
                have e' : ((cs.toList.drop (n.toNat * 1)).take 1).getD 0 undef = cs[n.toNat * 1]:=by
                  rw [List.getD_eq_getElem?_getD,List.getElem?_take,if_pos (by omega),List.getElem?_drop,Nat.add_zero,Array.getElem?_toList,hc]
                  rfl
                simp only [Bool.false_eq_true,if_false,e']
                unfold part
                rw [Sem.run_bind,hisagg]
                simp only [Result.andThen_ok,Bool.false_eq_true,if_false,hc,Sem.run_pure]
            refine sound_pure h hd (v:=(if ag then .agg ((cs.toList.drop (n.toNat * k)).take k).toArray else ((cs.toList.drop (n.toNat * k)).take k).getD 0 undef)) ?_ (mt_row (by simp; omega) (fun j u y hu hy => ?_) (fun u hu => ?_) (fun e => by have:=h1 e; simp; omega))
            · simp only [execOp,ho,hvx,hn,Instr.index,asIntOf,Sem.run_bind,Sem.run_pure,Result.andThen_ok,run_underlying hu,hp,and_self,if_true]
              have hso : (sizeOf e).run P w = .ok k w:=by simp [sizeOf,typeInfo,hie,hks]
              simp only [hso,Result.andThen_ok,hpart]
            · rw [List.getElem?_take] at hu hy
              split at hu
              · rename_i hj
                rw [if_pos hj] at hy
                exact hm (n.toNat * k + j) u y (by simpa using hu) (by simpa using hy)
              · cases hu
            · exact hone u (by have:=List.mem_of_mem_drop (List.mem_of_mem_take hu); simpa using this)
        · simp at he
      · simp at he
    · simp at he
  · simp at he
theorem sound_fld (h : InvX I β τ Y E B K I0 N w0 a w) (hd : ∀ d,o.dst = some d → d < N) {t f : Nat} {x : Operand} {s : SV} {ev : Ev} (ho : o.op = .field t x f) (hx : Mt I β τ Y w (a.eval x) s) (he : fldE P t f s = some ev) : Sound P Q Y E B K I0 N w0 a w o ev.v ev.ef:=by
  unfold fldE at he
  split at he
  · rename_i xs
    split at he
    · rename_i off n u hf hu
      split at he
      · rename_i ag n' hl
        split at he
        · rename_i hcond
          obtain ⟨rfl,hn⟩:=hcond
          obtain rfl:=Option.some.inj he
          obtain ⟨fs,fd,i,hus,hfd,hoff,hi,hs,hn0⟩:=fldT_spec hf
          have hty : fd.type = u:=by
            unfold fldTy at hu
            simp only [hus,hfd] at hu
            simpa using hu
          subst hty
          obtain ⟨hsz,hag,h1⟩:=ldT_spec hl
          obtain ⟨d,hd',hrow⟩:=aggT_spec hag
          generalize hvx : a.eval x = vx at hx
          cases hx with
          | agg hlen hm hone =>
            rename_i cs
            have hisagg : (isAgg fd.type).run P w = .ok ag w:=by
              unfold isAgg
              rw [Sem.run_bind,run_underlying hd' w]
              cases d <;> simp_all
            have hpart : (part fd.type cs off).run P w = .ok (if ag then .agg ((cs.toList.drop off).take n).toArray else ((cs.toList.drop off).take n).getD 0 undef) w:=by
              cases ag with
              | true =>
                have e : (cs.extract off (off + n)) = ((cs.toList.drop off).take n).toArray:=by
                  apply Array.ext'
                  simp [List.extract_eq_take_drop]
                simp [part,Sem.run_bind,hisagg,sizeOf,typeInfo,hi,hs,e]
              | false =>
                have hn1:=h1 rfl
                subst hn1
                have hlt : off < cs.size:=by omega
                have hc : cs[off]? = some cs[off]:=by simp [hlt]
                have e : ((cs.toList.drop off).take 1).getD 0 undef = cs[off]:=by
                  rw [List.getD_eq_getElem?_getD,List.getElem?_take,if_pos (by omega),List.getElem?_drop]
                  simp [hlt]
                simp only [Bool.false_eq_true,if_false,e]
                simp [part,Sem.run_bind,hisagg,hc]
            refine sound_pure h hd (v:=(if ag then .agg ((cs.toList.drop off).take n).toArray else ((cs.toList.drop off).take n).getD 0 undef)) ?_ (mt_row (by simp; omega) (fun j u y hu hy => ?_) (fun u hu => ?_) (fun e => by have:=h1 e; simp; omega))
            · simp [execOp,ho,hvx,Instr.field,run_underlying hus,hfd,asAgg,hoff,hpart]
            · rw [List.getElem?_take] at hu hy
              split at hu
              · rename_i hj
                rw [if_pos hj] at hy
                exact hm (off + j) u y (by simpa using hu) (by simpa using hy)
              · cases hu
            · exact hone u (by have:=List.mem_of_mem_drop (List.mem_of_mem_take hu); simpa using this)
        · simp at he
      · simp at he
    · simp at he
  · simp at he
theorem run_slice_op {t e k by_ : Nat} {x : Operand} {lo hi : Option Operand} {ob : Option Addr} {n cap : Nat} {l hh : Int} {kl kh : IntKind} (ho : o.op = .slice t x lo hi none) (hx : a.eval x = .slice ob n cap) (ht : elT P t = some (e,k,by_))
    (hl : (match lo with | none => Value.int .i64 0 | some y => a.eval y) = .int kl l) (hh' : (match hi with | none => Value.int .i64 n | some y => a.eval y) = .int kh hh) (h0 : 0 ≤ l) (h1 : l ≤ hh) (h2 : hh ≤ n) (hc : n ≤ cap) :
    (execOp a.eval o).run P w = .ok (.value (sliced ob l.toNat hh.toNat cap k)) w:=by
  obtain ⟨inf,hu,hinf,hs,_⟩:=elT_spec ht
  have he : P.elem t = e:=by simp [Program.elem,hu]
  have hu' : P.underlying t = some (.slice (P.elem t)):=by rw [he]; exact hu
  have hsz : (sizeOf (P.elem t)).run P w = .ok k w:=by rw [he]; simp [sizeOf,typeInfo,hinf,hs]
  have hcc : hh ≤ (cap : Int):=by omega
  have e1 : (execOp a.eval o).run P w = ((Instr.slice t (.slice ob n cap) (lo.map a.eval) (hi.map a.eval) none).run P w).andThen fun v w => .ok (.value v) w:=by
    have:=run_sliceAt_slice (P:=P) (w:=w) t (.slice ob n cap) (lo.map a.eval) (hi.map a.eval) none hu'
    simp only [execOp,ho,hx,Sem.run_bind,Option.map_none,this]
    cases (Instr.slice t (.slice ob n cap) (lo.map a.eval) (hi.map a.eval) none).run P w <;> rfl
  rw [e1]
  cases lo with
  | none =>
    simp only at hl; cases hl
    cases hi with
    | none =>
      simp only at hh'; cases hh'
      have:=run_slice_all (P:=P) (w:=w) t ob n cap hu'
      simp only [Option.map_none,this,hsz,Result.andThen_ok]
      simp
    | some y =>
      simp only at hh'
      have:=run_slice_h (P:=P) (w:=w) t ob n cap hu' kh hh (by omega) hcc
      simp only [Option.map_none,Option.map_some,hh',this,hsz,Result.andThen_ok]
      simp
  | some z =>
    simp only at hl
    cases hi with
    | none =>
      simp only at hh'; cases hh'
      have:=run_slice_l (P:=P) (w:=w) t ob n cap hu' kl l h0 h1
      simp only [Option.map_none,Option.map_some,hl,this,hsz,Result.andThen_ok]
      simp
    | some y =>
      simp only at hh'
      have:=run_slice_lh (P:=P) (w:=w) t ob n cap hu' kl kh l hh h0 h1 hcc
      simp only [Option.map_some,hl,hh',this,hsz,Result.andThen_ok]
end
end Go.RX
