/-
  The program's functions,contracts: what each one returns,whatever the world: part 11. No condition.
-/
import Derived.Test.YtchnganlpgfdjaaGreatDoorB00
import Derived.Test.YtchnganlpgfdjaaGreatDoorB01
import Derived.Test.YtchnganlpgfdjaaGreatDoorB02
import Derived.Test.YtchnganlpgfdjaaGreatDoorB03
import Derived.Test.YtchnganlpgfdjaaGreatDoorB04
import Derived.Test.YtchnganlpgfdjaaGreatDoorB05
import Derived.Test.YtchnganlpgfdjaaGreatDoorB06
import Derived.Test.YtchnganlpgfdjaaGreatDoorB07
import Derived.Test.YtchnganlpgfdjaaGreatDoorB08
import Derived.Test.YtchnganlpgfdjaaGreatDoorB09
set_option linter.all false
set_option linter.unusedVariables false
set_option linter.unusedSectionVars false
set_option linter.unusedSimpArgs false
set_option linter.unnecessarySimpa false
namespace Go.RX
open Go Go.RowKit
variable [Glob]
section
variable {P : Program} {Q : Exit → Act → World → Prop}
variable {I : Nat → Prop} {β : Nat → Option Nat} {τ : Nat → Option Value} {Y : Nat → Option Bool} {E : Nat → SV} {B : Nat → Option BC} {K : Nat → Option TC} {I0 : Nat → Prop} {N : Nat} {w0 w : World} {a : Act} {o : Oper}
theorem Sound.frz {I' : Nat → Prop} {es : List Ef} {V : SV} (hF : FrzIn K es) (h : Sound P Q Y E B (efK K es) I0 N w0 a w o V []) : Sound P Q Y E B K I0 N w0 a w o V es:=by
  unfold Sound at h ⊢
  have hBf:=efB_frz es B (fun e' he' => by
    obtain ⟨i',k',n',g',q1,_⟩:=hF _ he'
    exact ⟨i',_,q1⟩)
  rw [hBf]; exact h
theorem frz_in {σ : Sy} {cs : List SV} {ys : List DV} {es : List Ef} {rs : List Res} (hdc : deepC σ cs = some (ys,es,rs)) (hK : ∀ k,Res.k k ∈ rs → K k = nth σ.tk k) : FrzIn K es:=by
  obtain ⟨_,h2,_⟩:=deepC_ok σ _ _ _ _ hdc
  intro e he
  obtain ⟨i,k,n,g,q1,q2,e',q3⟩:=h2 e he
  exact ⟨i,k,n,g,q1,.inl ⟨e',by rw [hK i q2]; exact q3⟩⟩
theorem ifT_spec {t : Nat} (h : ifT P t = false) : ∃ d,P.underlying t = some d ∧ ∀ m,d ≠ .interface m:=by
  unfold ifT at h
  split at h
  · cases h
  · rename_i d hn hd
    exact ⟨d,hd,fun m e => hn m e⟩
  · cases h
theorem run_mki {t : Nat} (h : ifT P t = false) (v : Value) : (Instr.makeInterface t v).run P w = .ok (.iface t v) w:=by
  obtain ⟨d,hd,hn⟩:=ifT_spec h
  cases d with
  | interface m => exact absurd rfl (hn m)
  | _ => simp [Instr.makeInterface,underlying,hd]
theorem sound_mki (h : InvX I β τ Y E B K I0 N w0 a w) (hd : ∀ d,o.dst = some d → d < N) {σ : Sy} {t : Nat} {x : Operand} {s : SV} {ev : Ev} (ho : o.op = .makeInterface t x) (hx : Mt I β τ Y w (a.eval x) s) (hK : ∀ k,Res.k k ∈ ev.rs → K k = nth σ.tk k)
    (he : mkiE P σ t s = some ev) : Sound P Q Y E B K I0 N w0 a w o ev.v ev.ef:=by
  unfold mkiE at he
  split at he
  · rename_i xs hif hcs
    split at he
    · rename_i ys es rs hdc
      obtain rfl:=Option.some.inj he
      have hcm:=CM.of hx hcs
      obtain ⟨I',h',hI,hl,hrep⟩:=deepC_use h hcm hdc hK
      refine Sound.frz (I':=I') (frz_in hdc hK) ?_
      refine sound_pure h' hd (v:=.iface t (a.eval x)) ?_ ?_
      · simp only [execOp,ho,Sem.run_bind,run_mki hif,Result.andThen_ok,Sem.run_pure]
      · generalize hv : a.eval x = v at hx hcm hl hrep
        have hone:=hcm.one
        cases s with
        | agg zs =>
          cases hx with
          | agg hzl hm h1 =>
            rename_i cs
            exact .d (.ifc (by simpa [Value.cells] using hl.symm) (fun j u hu => hrep j u _ (by simpa [Value.cells] using hu) (dget_of (by rw [hl]; exact (Array.getElem?_eq_some_iff.1 hu).1))))
        | _ =>
          first
          | (cases hcs; done)
          | (have hone' : v.oneCell' = true:=by
               cases hx <;> first | rfl | (rename_i hr; exact hr.one) | assumption
             have hc1 : v.cells[0]? = some v:=by rw [cells_one hone']; rfl
             have hsz : v.cells.size = 1:=by rw [cells_one hone']; rfl
             exact .d (.if1 (hrep 0 v _ hc1 (dget_of (by omega)))))
    · cases he
  · cases he
theorem run_asrN {x : Value} {t u : Nat} {z : List SV} (hu : ifT P u = false) (hz : zeroT P u = some z) (hx : x = .nilIface ∨ ∃ t' v,x = .iface t' v ∧ t' ≠ u) :
    ∃ zv,(Instr.typeAssert x t u true).run P w = .ok (.tuple #[zv,.bool false]) w ∧ zv.cells.size = z.length ∧ CM I β τ Y w zv.cells z ∧ (∀ i,P.info? u = some i → i.zero = some zv):=by
  obtain ⟨d,hd,hn⟩:=ifT_spec hu
  obtain ⟨i,zv,hi,hzv,hs,hc⟩:=zeroT_ok (I:=I) (β:=β) (τ:=τ) (Y:=Y) (w:=w) hz
  refine ⟨zv,?_,hs,hc,fun i' hi' => by rw [hi] at hi'; cases hi'; exact hzv⟩
  rcases hx with rfl | ⟨t',v,rfl,hne⟩
  · cases d with
    | interface m => exact absurd rfl (hn m)
    | _ => simp [Instr.typeAssert,underlying,zeroValue,typeInfo,hd,hi,hzv]
  · cases d with
    | interface m => exact absurd rfl (hn m)
    | _ => simp [Instr.typeAssert,underlying,zeroValue,typeInfo,hd,hi,hzv,hne]
theorem run_asrY {v : Value} {t u : Nat} (ok : Bool) (hu : ifT P u = false) :
    (Instr.typeAssert (.iface u v) t u ok).run P w = .ok (if ok then .tuple #[v,.bool true] else v) w:=by
  obtain ⟨d,hd,hn⟩:=ifT_spec hu
  cases d with
  | interface m => exact absurd rfl (hn m)
  | _ => cases ok <;> simp [Instr.typeAssert,underlying,hd]
theorem sound_asrY (h : InvX I β τ Y E B K I0 N w0 a w) (hd : ∀ d,o.dst = some d → d < N) {t u : Nat} {x : Operand} {v : Value} {s : SV} {ok : Bool} {ev : Ev} (ho : o.op = .typeAssert x t u ok) (hx : a.eval x = .iface u v) (hu : ifT P u = false) (hv : Mt I β τ Y w v s)
    (he : asrY ok s = some ev) : Sound P Q Y E B K I0 N w0 a w o ev.v ev.ef:=by
  have hr:=run_asrY (P:=P) (w:=w) (v:=v) (t:=t) ok hu
  unfold asrY at he
  cases ok with
  | true =>
    obtain rfl:=Option.some.inj he
    refine sound_pure h hd (v:=.tuple #[v,.bool true]) ?_ ?_
    · simp only [execOp,ho,hx,Sem.run_bind,hr,Result.andThen_ok,Sem.run_pure,if_true]
    · refine .tup rfl (fun j u' y hu' hy => ?_)
      match j with
      | 0 => simp at hu' hy; subst hu'; subst hy; exact hv
      | 1 => simp at hu' hy; subst hu'; subst hy; exact .d .bool
      | j + 2 => simp at hu'
  | false =>
    obtain rfl:=Option.some.inj he
    refine sound_pure h hd (v:=v) ?_ hv
    simp only [execOp,ho,hx,Sem.run_bind,hr,Result.andThen_ok,Sem.run_pure,Bool.false_eq_true,if_false]
theorem zag_ok {u : Nat} {ag : Bool} {zv : Value} {z : List SV} (hg : zagT P u = some ag) (hzv : ∀ i,P.info? u = some i → i.zero = some zv) (hc : CM I β τ Y w zv.cells z) : Mt I β τ Y w zv (rowV ag z):=by
  unfold zagT at hg
  split at hg
  · rename_i i hi
    have hz:=hzv i hi
    split at hg
    · rename_i cs hz'
      cases hg
      rw [hz] at hz'; cases hz'
      exact .agg hc.len hc.at_ hc.one
    · rename_i z' _ hz'
      rw [hz] at hz'; cases hz'
      split at hg
      · rename_i h1
        cases hg
        have hl:=hc.len
        rw [cells_one h1] at hl hc
        match z,hl with
        | [x],_ => exact hc.at_ 0 zv x rfl rfl
      · cases hg
    · cases hg
  · cases hg
theorem sound_asrN (h : InvX I β τ Y E B K I0 N w0 a w) (hd : ∀ d,o.dst = some d → d < N) {t u : Nat} {x : Operand} {ok : Bool} {ev : Ev} (ho : o.op = .typeAssert x t u ok) (hx : a.eval x = .nilIface ∨ ∃ t' v,a.eval x = .iface t' v ∧ t' ≠ u) (hu : ifT P u = false)
    (he : asrN P u ok = some ev) : Sound P Q Y E B K I0 N w0 a w o ev.v ev.ef:=by
  unfold asrN at he
  split at he
  · rename_i z ag hz hag
    obtain rfl:=Option.some.inj he
    obtain ⟨zv,hr,hs,hc,hzv⟩:=run_asrN (P:=P) (I:=I) (β:=β) (τ:=τ) (Y:=Y) (w:=w) (x:=a.eval x) (t:=t) hu hz hx
    refine sound_pure h hd (v:=.tuple #[zv,.bool false]) ?_ ?_
    · simp only [execOp,ho,Sem.run_bind,hr,Result.andThen_ok,Sem.run_pure]
    · refine .tup rfl (fun j u' y hu' hy => ?_)
      match j with
      | 0 =>
        simp at hu' hy; subst hu'; subst hy
        exact zag_ok hag hzv hc
      | 1 => simp at hu' hy; subst hu'; subst hy; exact .d .bool
      | j + 2 => simp at hu'
  · cases he
theorem sound_asr (h : InvX I β τ Y E B K I0 N w0 a w) (hd : ∀ d,o.dst = some d → d < N) {t u : Nat} {x : Operand} {ok : Bool} {s : SV} {ev : Ev} (ho : o.op = .typeAssert x t u ok) (hx : Mt I β τ Y w (a.eval x) s)
    (he : asrE P u ok s = some ev) : Sound P Q Y E B K I0 N w0 a w o ev.v ev.ef:=by
  unfold asrE at he
  split at he
  · rename_i t' n c
    have hr:=mt_d hx
    generalize hv : a.eval x = v at hr
    cases hr with
    | ifc hl hrep =>
      rename_i us
      split at he
      · rename_i hif
        split at he
        · rename_i e; subst e
          refine sound_asrY h hd ho hv hif ?_ he
          refine .agg (by simp [take_len,hl]) (fun j u x hu hx => ?_) (fun u hu => ?_)
          · have hjn : j < n:=by rw [← hl]; exact (Array.getElem?_eq_some_iff.1 hu).1
            rw [take_get c n 0 _ hjn] at hx
            simp at hx; subst hx
            exact .d (hrep _ _ hu)
          · obtain ⟨j,hj,rfl⟩:=Array.getElem_of_mem hu
            exact (hrep j _ (Array.getElem?_eq_getElem hj)).one
        · rename_i e
          exact sound_asrN h hd ho (.inr ⟨_,_,hv,e⟩) hif he
      · cases he
  · rename_i t' y
    have hr:=mt_d hx
    generalize hv : a.eval x = v at hr
    cases hr with
    | if1 hrep =>
      split at he
      · rename_i hif
        split at he
        · rename_i e; subst e
          exact sound_asrY h hd ho hv hif (.d hrep) he
        · rename_i e
          exact sound_asrN h hd ho (.inr ⟨_,_,hv,e⟩) hif he
      · cases he
  · have hr:=mt_d hx
    generalize hv : a.eval x = v at hr
    cases hr with
    | nilI =>
      split at he
      · rename_i hif
        exact sound_asrN h hd ho (.inl hv) hif he
      · cases he
  · cases he
theorem str_of {s : ByteArray} {l : List UInt8} (h : s.data.toList = l) : s = ⟨l.toArray⟩:=by
  subst h; cases s; simp
theorem sound_rng (h : InvX I β τ Y E B K I0 N w0 a w) (hd : ∀ d,o.dst = some d → d < N) {σ : Sy} {t : Nat} {x : Operand} {s : SV} {ev : Ev} (ho : o.op = .range t x) (hx : Mt I β τ Y w (a.eval x) s) (he : rngE P σ t s = some ev) (hB : B σ.bx.length = none) :
    Sound P Q Y E B K I0 N w0 a w o ev.v ev.ef:=by
  unfold rngE at he
  split at he
  · rename_i l
    split at he
    · rename_i ht
      obtain rfl:=Option.some.inj he
      have hr:=mt_d hx
      generalize hv : a.eval x = v at hr
      cases hr with
      | str hs =>
        rename_i sb
        have hu:=strT_spec ht
        have hrun : (execOp a.eval o).run P w = .ok (.value (.pointer (some ⟨w.heap.size,0,none⟩))) (w.alloc (.stringIter sb 0)):=by
          simp [execOp,ho,hv,Instr.range,underlying,hu,newObj]
          rfl
        exact wp_val hrun ⟨_,_,_,h.newObj (c:={ frz:=false,xs:=[],it:=some (l,0) }) hB rfl ⟨sb,heap_alloc_new w _,hs⟩ hd⟩
    · cases he
  · cases he
theorem sound_nxt (h : InvX I β τ Y E B K I0 N w0 a w) (hd : ∀ d,o.dst = some d → d < N) {σ : Sy} {x : Operand} {s : SV} {ev : Ev} (ho : o.op = .next x true) (hx : Mt I β τ Y w (a.eval x) s) (he : nxtE σ s = some ev) (hB : ∀ k,Res.b k ∈ ev.rs → B k = nth σ.bx k) :
    Sound P Q Y E B K I0 N w0 a w o ev.v ev.ef:=by
  unfold nxtE at he
  split at he
  · rename_i b
    split at he
    · rename_i c hc
      unfold nxtI at he
      split at he
      · rename_i xs l p
        generalize hv : a.eval x = v at hx
        cases hx with
        | p hb =>
          rename_i blk
          have hkey : Res.b b ∈ ev.rs:=by
            split at he <;> (cases he; simp)
          have hBb:=hB b hkey
          rw [hc] at hBb
          obtain ⟨sb,g1,g2⟩:=(h.box b _ hBb).con blk hb
          have hsz : sb.size = l.length:=by rw [← g2]; simp
          have hsb:=str_of g2
          have hg : (getObj blk).run P w = .ok (.stringIter sb p) w:=by simp [getObj,Sem.run,g1]
          split at he
          · rename_i hlt
            obtain rfl:=Option.some.inj he
            have hrun : (execOp a.eval o).run P w = .ok (.value (.tuple #[.bool true,goInt p,.int .i32 (Utf8.decode sb p).1])) { w with heap:=w.heap.setIfInBounds blk (.stringIter sb (p + (Utf8.decode sb p).2)) }:=by
              simp only [execOp,ho,hv,Instr.next,Sem.run_bind,hg,Result.andThen_ok,hsz,hlt,if_true,setObj,Sem.run,g1,Sem.run_pure]
            refine wp_val hrun ⟨I,β,τ,?_⟩
            refine h.turn (blk:=blk) (w':={ w with heap:=w.heap.setIfInBounds blk (.stringIter sb (p + (Utf8.decode sb p).2)) }) (c:={ frz:=false,xs:=xs,it:=some (l,p) }) (c':={ frz:=false,xs:=xs,it:=some (l,p + (Utf8.decode ⟨l.toArray⟩ p).2) }) hBb rfl rfl hb ⟨rfl,rfl,rfl,by simp,fun j hj hne => ?_⟩ (by simp) (fun _ => ?_) hd ?_
            · simp only [Array.getElem?_setIfInBounds]
              rw [if_neg (fun e => hne (by rw [e]))]
            · have hlt':=(Array.getElem?_eq_some_iff.1 g1).1
              refine ⟨sb,?_,g2⟩
              simp only [Array.getElem?_setIfInBounds]
              rw [if_pos trivial,if_pos hlt',hsb]
            · refine .tup rfl (fun j u y hu hy => ?_)
              match j with
              | 0 => simp at hu hy; subst hu; subst hy; exact .d .bool
              | 1 => simp at hu hy; subst hu; subst hy; exact .d .int
              | 2 => simp at hu hy; subst hu; subst hy; rw [hsb]; exact .d .int
              | j + 3 => simp at hu
          · rename_i hlt
            obtain rfl:=Option.some.inj he
            refine sound_pure h hd (v:=.tuple #[.bool false]) ?_ ?_
            · simp only [execOp,ho,hv,Instr.next,Sem.run_bind,hg,Result.andThen_ok,hsz,hlt,if_false,Sem.run_pure]
            · refine .tup rfl (fun j u y hu hy => ?_)
              match j with
              | 0 => simp at hu hy; subst hu; subst hy; exact .d .bool
              | j + 1 => simp at hu
      · cases he
    · cases he
  · cases he
theorem sound_mkb (h : InvX I β τ Y E B K I0 N w0 a w) (hd : ∀ d,o.dst = some d → d < N) {σ : Sy} {f : FuncId} {x : Operand} {s : SV} {ev : Ev} (ho : o.op = .makeFunc (.func f) #[x] #[]) (hx : Mt I β τ Y w (a.eval x) s) (hK : ∀ k,Res.k k ∈ ev.rs → K k = nth σ.tk k)
    (he : mkbE σ f s = some ev) : Sound P Q Y E B K I0 N w0 a w o ev.v ev.ef:=by
  unfold mkbE at he
  split at he
  · rename_i xs
    split at he
    · rename_i ys es rs hdc
      obtain rfl:=Option.some.inj he
      generalize hv : a.eval x = v at hx
      cases hx with
      | agg hl hm h1 =>
        rename_i cs
        obtain ⟨I',h',hI,hl',hrep⟩:=deepC_use h ⟨hl,hm,h1⟩ hdc hK
        refine Sound.frz (I':=I') (frz_in hdc hK) ?_
        refine sound_pure h' hd (v:=.func (.func f) #[.agg cs] #[]) ?_ (.d (.bm hl'.symm h1 (fun j u hu => hrep j u _ hu (dget_of (by rw [hl']; exact (Array.getElem?_eq_some_iff.1 hu).1)))))
        simp [execOp,ho,Instr.makeFunc,hv]
    · cases he
  · cases he
theorem mapT_spec {t : Nat} (h : mapT P t = true) : ∃ k e,P.underlying t = some (.map k e):=by
  unfold mapT at h
  split at h
  · rename_i k e hd; exact ⟨k,e,hd⟩
  · cases h
theorem sound_lenM (h : InvX I β τ Y E B K I0 N w0 a w) (hd : ∀ d,o.dst = some d → d < N) {x : Operand} {t n k : Nat} {g : Nat → Nat → DV} (ho : o.op = .call { callee:=.builtin .len,args:=#[x],argTypes:=#[t] }) (hx : Mt I β τ Y w (a.eval x) (.d (.mp n k g))) (ht : mapT P t = true) :
    Sound P Q Y E B K I0 N w0 a w o (.d (.int .i64 n)) []:=by
  obtain ⟨kt,et,hu⟩:=mapT_spec ht
  have hr:=mt_d hx
  generalize hv : a.eval x = v at hr
  cases hr with
  | mp es clk us hI hm hn hk hrep =>
    refine sound_pure h hd (v:=goInt n) ?_ (.d .int)
    simp [execOp,ho,resolve,invoke,builtin,Builtin.len_,hv,underlying,hu,getObj,Sem.run,hm,hn]
end
end Go.RX
