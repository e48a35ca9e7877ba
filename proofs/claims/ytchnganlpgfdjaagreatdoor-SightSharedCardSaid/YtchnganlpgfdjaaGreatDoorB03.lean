/-
  The program's functions,contracts: what each one returns,whatever the world: part 4. No condition.
-/
import Derived.Test.YtchnganlpgfdjaaGreatDoorB00
import Derived.Test.YtchnganlpgfdjaaGreatDoorB01
import Derived.Test.YtchnganlpgfdjaaGreatDoorB02
set_option linter.all false
set_option linter.unusedVariables false
set_option linter.unusedSectionVars false
set_option linter.unusedSimpArgs false
set_option linter.unnecessarySimpa false
namespace Go.RX
open Go Go.RowKit
variable [Glob]
def efB : (Nat → Option BC) → List Ef → Nat → Option BC
  | B,[] => B
  | B,.b n c :: r => efB (upd B n (some c)) r
  | B,.k _ _ :: r => efB B r
def efK : (Nat → Option TC) → List Ef → Nat → Option TC
  | K,[] => K
  | K,.b _ _ :: r => efK K r
  | K,.k n c :: r => efK (upd K n (some c)) r
def Sound (P : Program) (Q : Exit → Act → World → Prop) (Y : Nat → Option Bool) (E : Nat → SV) (B : Nat → Option BC) (K : Nat → Option TC) (I0 : Nat → Prop) (N : Nat) (w0 : World) (a : Act) (w : World) (o : Oper) (V : SV) (ef : List Ef) : Prop :=
  o.wp P a w (fun a' w' => Inv Y (updO E o.dst V) (efB B ef) (efK K ef) I0 N w0 a' w') Q
section
variable {P : Program} {Q : Exit → Act → World → Prop}
variable {I : Nat → Prop} {β : Nat → Option Nat} {τ : Nat → Option Value} {Y : Nat → Option Bool} {E : Nat → SV} {B : Nat → Option BC} {K : Nat → Option TC} {I0 : Nat → Prop} {N : Nat} {w0 w : World} {a : Act} {o : Oper}
theorem wp_val {v : Value} {w' : World} {k : Act → World → Prop} (hr : (execOp a.eval o).run P w = .ok (.value v) w') (h : k (a.put o.dst v) w') : o.wp P a w k Q:=by
  unfold Oper.wp
  rw [hr]
  exact h
theorem wp_skp {w' : World} {k : Act → World → Prop} (hr : (execOp a.eval o).run P w = .ok .skip w') (h : k (a.put o.dst undef) w') : o.wp P a w k Q:=by
  unfold Oper.wp
  rw [hr]
  exact h
theorem InvX.pure (h : InvX I β τ Y E B K I0 N w0 a w) {dst : Option Nat} (hd : ∀ d,dst = some d → d < N) {v : Value} {V : SV} (hv : Mt I β τ Y w v V) : InvX I β τ Y (updO E dst V) B K I0 N w0 (a.put dst v) w :=
  { h with sz:=by rw [size_put]; exact h.sz,df:=by rw [defers_put]; exact h.df,env:=env_put h.sz hd h.env (fun h => h) hv }
theorem sound_pure (h : InvX I β τ Y E B K I0 N w0 a w) (hd : ∀ d,o.dst = some d → d < N) {v : Value} {V : SV} (hr : (execOp a.eval o).run P w = .ok (.value v) w) (hv : Mt I β τ Y w v V) : Sound P Q Y E B K I0 N w0 a w o V [] :=
  wp_val hr ⟨I,β,τ,h.pure hd hv⟩
theorem Rep.d {v : Value} {x : DV} (h : Rep I w v x) : Mt I β τ Y w v (.d x):=.d h
structure CM (I : Nat → Prop) (β : Nat → Option Nat) (τ : Nat → Option Value) (Y : Nat → Option Bool) (w : World) (cs : Array Value) (xs : List SV) : Prop where
  len : cs.size = xs.length
  at_ : ∀ (j : Nat) (u : Value) (x : SV),cs[j]? = some u → xs[j]? = some x → Mt I β τ Y w u x
  one : ∀ u ∈ cs,u.oneCell' = true
theorem cells_one {v : Value} (h : v.oneCell' = true) : v.cells = #[v]:=by cases v <;> first | rfl | (simp [Value.oneCell'] at h)
theorem CM.single {v : Value} {x : SV} (h : Mt I β τ Y w v x) (h1 : v.oneCell' = true) : CM I β τ Y w v.cells [x]:=by
  rw [cells_one h1]
  refine ⟨rfl,fun j u y hu hy => ?_,fun u hu => by simp at hu; subst hu; exact h1⟩
  cases j with
  | zero => simp at hu hy; subst hu; subst hy; exact h
  | succ j => simp at hu
theorem CM.of {v : Value} {x : SV} {xs : List SV} (h : Mt I β τ Y w v x) (hx : x.cs = some xs) : CM I β τ Y w v.cells xs:=by
  cases h with
  | d h => simp [SV.cs] at hx; subst hx; exact .single (.d h) h.one
  | any => simp [SV.cs] at hx
  | p h => simp [SV.cs] at hx; subst hx; exact .single (.p h) rfl
  | q us h1 h2 h3 => simp [SV.cs] at hx; subst hx; exact .single (.q us h1 h2 h3) rfl
  | tk h h1 => simp [SV.cs] at hx; subst hx; exact .single (.tk h h1) h1
  | pt h => simp [SV.cs] at hx; subst hx; exact .single (.pt h) rfl
  | agg hl h h1 => simp [SV.cs] at hx; subst hx; exact ⟨hl,h,h1⟩
  | tup hl h => simp [SV.cs] at hx
theorem cv_ok (v : Value) : Mt I β τ Y w v (cv v):=by
  unfold cv
  split <;> first | exact .any | exact .d .int | exact .d .bool | exact .d (.str rfl) | exact .d .nils | exact .d .nilI
theorem zeroT_ok {t : TypeId} {z : List SV} (h : zeroT P t = some z) : ∃ i zv,P.info? t = some i ∧ i.zero = some zv ∧ zv.cells.size = z.length ∧ CM I β τ Y w zv.cells z:=by
  unfold zeroT at h
  split at h
  · rename_i i hi
    split at h
    · rename_i zv hz
      split at h
      · rename_i hone
        simp at h; subst h
        refine ⟨i,zv,hi,hz,by simp,by simp,fun j u x hu hx => ?_,fun u hu => ?_⟩
        · simp only [List.getElem?_map,Array.getElem?_toList,hu,Option.map_some,Option.some.injEq] at hx
          subst hx; exact cv_ok u
        · have:=List.all_eq_true.1 hone u (by simpa using hu)
          simpa using this
      · simp at h
    · simp at h
  · simp at h
theorem sound_move (h : InvX I β τ Y E B K I0 N w0 a w) (hd : ∀ d,o.dst = some d → d < N) {x : Operand} {s : SV} {ev : Ev} (ho : o.op = .move x ∨ o.op = .assign x) (hx : Mt I β τ Y w (a.eval x) s) (he : movE s = some ev) :
    Sound P Q Y E B K I0 N w0 a w o ev.v ev.ef:=by
  have : ev.v = s ∧ ev.ef = []:=by cases s <;> simp [movE] at he <;> subst he <;> exact ⟨rfl,rfl⟩
  rw [this.1,this.2]
  refine sound_pure h hd (v:=a.eval x) ?_ hx
  rcases ho with ho | ho <;> simp [execOp,ho]
theorem sound_newBox (h : InvX I β τ Y E B K I0 N w0 a w) (hd : ∀ d,o.dst = some d → d < N) {k : Nat} (hk : B k = none) {cs : Array Value} {T : Nat} {xs : List SV} (hc : CM I β τ Y w cs xs)
    (hr : (execOp a.eval o).run P w = .ok (.value (.pointer (some ⟨w.heap.size,0,none⟩))) (w.alloc (.cells cs T))) : Sound P Q Y E B K I0 N w0 a w o (.p k 0) [.b k { frz:=false,xs:=xs }] :=
  wp_val hr ⟨_,_,_,h.newBox hk hc.len hc.at_ hc.one hd⟩
theorem sound_alloc (h : InvX I β τ Y E B K I0 N w0 a w) (hd : ∀ d,o.dst = some d → d < N) {σ : Sy} {t : TypeId} {ev : Ev} (ho : o.op = .alloc t) (he : allocE P σ t = some ev) (hB : B σ.bx.length = none) :
    Sound P Q Y E B K I0 N w0 a w o ev.v ev.ef:=by
  unfold allocE at he
  split at he
  · rename_i z hz
    simp at he; subst he
    obtain ⟨i,zv,hi,hzv,hs,hc⟩:=zeroT_ok (I:=I) (β:=β) (τ:=τ) (Y:=Y) (w:=w) hz
    refine sound_newBox h hd hB (T:=t) hc ?_
    simp [execOp,ho,Instr.alloc,zeroValue,typeInfo,hi,hzv,newVar,newRow]
  · simp at he
theorem sound_box (h : InvX I β τ Y E B K I0 N w0 a w) (hd : ∀ d,o.dst = some d → d < N) {σ : Sy} {t : TypeId} {x : Operand} {s : SV} {ev : Ev} (ho : o.op = .box t x) (hx : Mt I β τ Y w (a.eval x) s) (he : boxE σ s = some ev) (hB : B σ.bx.length = none) :
    Sound P Q Y E B K I0 N w0 a w o ev.v ev.ef:=by
  unfold boxE at he
  split at he
  · rename_i xs hs
    simp at he; subst he
    refine sound_newBox h hd hB (T:=t) (.of hx hs) ?_
    simp [execOp,ho,Instr.box,newVar,newRow]
  · simp at he
theorem aggT_spec {t : TypeId} {b : Bool} (h : aggT P t = some b) : ∃ d,P.underlying t = some d ∧ d.isRow = b:=by
  unfold aggT at h
  split at h
  · rename_i fs hu; simp at h; subst h; exact ⟨_,hu,rfl⟩
  · rename_i n e hu; simp at h; subst h; exact ⟨_,hu,rfl⟩
  · rename_i d h1 h2 hu; simp at h; subst h
    refine ⟨d,hu,?_⟩
    cases d <;> first | rfl | (exact (h1 _ rfl).elim) | (exact (h2 _ _ rfl).elim)
  · simp at h
theorem szT_spec {t : TypeId} {n : Nat} (h : szT P t = some n) : ∃ i,P.info? t = some i ∧ i.size = n:=by
  unfold szT at h
  cases hi : P.info? t with
  | none => simp [hi] at h
  | some i => simp [hi] at h; exact ⟨i,rfl,h⟩
theorem ldT_spec {t : TypeId} {ag : Bool} {n : Nat} (h : ldT P t = some (ag,n)) : szT P t = some n ∧ aggT P t = some ag ∧ (ag = false → n = 1):=by
  unfold ldT at h
  split at h
  · rename_i h1 h2; simp at h; obtain ⟨rfl,rfl⟩:=h; exact ⟨h2,h1,fun e => (by cases e)⟩
  · rename_i h1 h2; simp at h; obtain ⟨rfl,rfl⟩:=h; exact ⟨h2,h1,fun _ => rfl⟩
  · simp at h
theorem run_load_row {t : TypeId} {n b off : Nat} {ag : Bool} (hl' : ldT P t = some (ag,n)) {us : List Value} (hl : us.length = n) (hc : w.rangeAt b off us) :
    (Instr.loadAt t (.pointer (some ⟨b,off,none⟩))).run P w = .ok (if ag then .agg us.toArray else us.getD 0 undef) w:=by
  obtain ⟨hn,ha,h1⟩:=ldT_spec hl'
  obtain ⟨d,hu,hd⟩:=aggT_spec ha
  obtain ⟨i,hi,hs⟩:=szT_spec hn
  cases ag with
  | true =>
    simp only [if_true]
    exact run_loadAt_mid w b off t us d hc hu hd (by simp [hi,hs,hl])
  | false =>
    have h1':=h1 rfl
    subst h1'
    match us,hl with
    | [u],_ =>
      have hcell:=hc 0 u rfl
      have hagg : (isAgg t).run P w = .ok false w:=by
        unfold isAgg
        rw [Sem.run_bind,run_underlying hu w]
        cases d <;> simp_all
      simp only [Nat.add_zero] at hcell
      simp [Instr.loadAt,Instr.sureAddr,loadVar,Sem.run_bind,hagg,load,Sem.run,hcell]
theorem range_map {α : Type} {n j : Nat} {us : Nat → α} {v : α} (h : ((List.range n).map us)[j]? = some v) : j < n ∧ us j = v:=by
  rw [List.getElem?_map] at h
  by_cases hj : j < n
  · rw [List.getElem?_range hj] at h; simp at h; exact ⟨hj,h⟩
  · rw [List.getElem?_eq_none (by simpa using hj)] at h; simp at h
theorem run_load_op {t : TypeId} {x : Operand} {v r : Value} (ho : o.op = .load t x) (hx : a.eval x = v) (h : (Instr.loadAt t v).run P w = .ok r w) : (execOp a.eval o).run P w = .ok (.value r) w:=by
  simp [execOp,ho,hx,h]
theorem mt_row {ag : Bool} {us : List Value} {xs : List SV} (hl : us.length = xs.length) (h : ∀ (j : Nat) (u : Value) (x : SV),us[j]? = some u → xs[j]? = some x → Mt I β τ Y w u x) (h1 : ∀ u ∈ us,u.oneCell' = true) (hn : ag = false → us.length = 1) :
    Mt I β τ Y w (if ag then .agg us.toArray else us.getD 0 undef) (rowV ag xs):=by
  unfold rowV
  cases ag with
  | true => simp only [if_true]; exact .agg (by simpa using hl) (fun j u x hu hx => h j u x (by simpa using hu) hx) (fun u hu => h1 u (by simpa using hu))
  | false =>
    have:=hn rfl
    match us,xs,this,hl with
    | [u],[x],_,_ => exact h 0 u x rfl rfl
theorem take_len (c : Nat → DV) : ∀ n o,(take c o n).length = n
  | 0,_ => rfl
  | n + 1,o => by simp [take,take_len c n (o + 1)]
theorem take_get (c : Nat → DV) : ∀ n o j,j < n → (take c o n)[j]? = some (.d (c (o + j)))
  | 0,_,_,h => by omega
  | n + 1,o,0,_ => by simp [take]
  | n + 1,o,j + 1,h => by
    simp only [take,List.getElem?_cons_succ]
    rw [take_get c n (o + 1) j (by omega)]
    congr 3; omega
theorem sound_loadQ (h : InvX I β τ Y E B K I0 N w0 a w) (hd : ∀ d,o.dst = some d → d < N) {t : TypeId} {x : Operand} {b off m n : Nat} {c : Nat → DV} {ag : Bool} (ho : o.op = .load t x) (hx : a.eval x = .pointer (some ⟨b,off,none⟩))
    (us : Nat → Value) (hcell : ∀ j,j < m → w.cell? ⟨b,off + j,none⟩ = some (us j)) (hrep : ∀ j,j < m → Rep I w (us j) (c j)) (hl : ldT P t = some (ag,n)) (hnm : n ≤ m) :
    Sound P Q Y E B K I0 N w0 a w o (rowV ag (take c 0 n)) []:=by
  have hr:=run_load_row (P:=P) (w:=w) (b:=b) (off:=off) hl (us:=(List.range n).map us) (by simp) (fun j v hv => by
    obtain ⟨hj,rfl⟩:=range_map hv
    exact hcell j (by omega))
  refine sound_pure h hd (run_load_op ho hx hr) ?_
  refine mt_row (by simp [take_len]) (fun j u y hu hy => ?_) (fun u hu => ?_) (fun e => by simp [(ldT_spec hl).2.2 e])
  · obtain ⟨hj,rfl⟩:=range_map hu
    rw [take_get c n 0 j hj] at hy
    simp at hy; subst hy
    exact .d (hrep j (by omega))
  · obtain ⟨j,hj⟩:=List.getElem?_of_mem hu
    obtain ⟨hj,rfl⟩:=range_map hj
    exact (hrep j (by omega)).one
theorem nth_eq {α : Type} : ∀ (l : List α) (n : Nat),nth l n = l[n]?
  | [],n => by cases n <;> rfl
  | _ :: _,0 => rfl
  | _ :: r,n + 1 => by simp [nth,nth_eq r n]
theorem sound_loadBox (h : InvX I β τ Y E B K I0 N w0 a w) (hd : ∀ d,o.dst = some d → d < N) {t : TypeId} {x : Operand} {b off n : Nat} {c : BC} {ag : Bool} (ho : o.op = .load t x) (hx : Mt I β τ Y w (a.eval x) (.p b off)) (hb : B b = some c)
    (hl : ldT P t = some (ag,n)) (hit : c.it.isNone = true) (hn : off + n ≤ c.xs.length) : Sound P Q Y E B K I0 N w0 a w o (rowV ag ((c.xs.drop off).take n)) []:=by
  obtain ⟨blk,cs,T,b1,b2,b3,b4,b5,b6,b7,b8⟩:=(h.box b c hb).ex hit
  have he : a.eval x = .pointer (some ⟨blk,off,none⟩):=by
    generalize a.eval x = v at hx
    cases hx with
    | p h => rw [b1] at h; cases h; rfl
  have hr:=run_load_row (P:=P) (w:=w) (b:=blk) (off:=off) hl (us:=(cs.toList.drop off).take n) (by simp; omega) (fun j v hv => by
    rw [cell_of_row w blk (off + j) cs T (0,0) b3]
    rw [List.getElem?_take] at hv
    split at hv
    · simpa using hv
    · cases hv)
  refine sound_pure h hd (run_load_op ho he hr) ?_
  refine mt_row (by simp; omega) (fun j u y hu hy => ?_) (fun u hu => ?_) (fun e => by have:=(ldT_spec hl).2.2 e; simp; omega)
  · rw [List.getElem?_take] at hu hy
    split at hu
    · rename_i hj
      rw [if_pos hj] at hy
      exact b5 (off + j) u y (by simpa using hu) (by simpa using hy)
    · cases hu
  · exact b6 u (by have:=List.mem_of_mem_drop (List.mem_of_mem_take hu); simpa using this)
theorem own_cells (h : InvX I β τ Y E B K I0 N w0 a w) {i x k off : Nat} {tc : TC} (hK : K i = some tc) {n : Nat} {g : Nat → Nat → DV} (htc : (∃ e,tc = .own e k n g) ∨ tc = .frz k n g) (hxn : x < n) {v : Value} (hv : Mt I β τ Y w v (.pt i x k off)) :
    ∃ b,v = .pointer (some ⟨b,x * k + off,none⟩) ∧ ∃ us : Nat → Value,∀ j,j < k → w.cell? ⟨b,x * k + j,none⟩ = some (us j) ∧ Rep I w (us j) (g x j):=by
  cases hv with
  | pt hp =>
    rename_i gb n' cap
    refine ⟨gb,rfl,?_⟩
    have ht:=h.tok i tc hK
    rcases htc with ⟨e,rfl⟩ | rfl
    · obtain ⟨_,v,xs,t1,t2,t3,t4,t5⟩:=ht
      rw [hp] at t1; cases t1
      refine ⟨fun j => (xs[x * k + j]?).getD undef,fun j hj => ?_⟩
      obtain ⟨u,hu,hr⟩:=t4 x j hxn hj
      have:=t2.cells (g:=gb) rfl (x * k + j) u hu
      simp only [hu,Option.getD_some]
      refine ⟨?_,hr⟩
      rw [← this]
      unfold Addr.add; split <;> simp_all
    · obtain ⟨v,t1,t2,t3⟩:=ht
      rw [hp] at t1; cases t1
      cases t2 with
      | sl1 hc => omega
      | sl us hI hn hc hcell hrep =>
        refine ⟨fun j => us x j,fun j hj => ?_⟩
        have:=hcell x j hxn hj
        simp only [Nat.zero_add] at this
        exact ⟨this,hrep x j hxn hj⟩
theorem sound_loadX (h : InvX I β τ Y E B K I0 N w0 a w) (hd : ∀ d,o.dst = some d → d < N) {t : TypeId} {x : Operand} {i x' k off e m j : Nat} {g : Nat → Nat → DV} (ho : o.op = .load t x) (hx : Mt I β τ Y w (a.eval x) (.pt i x' k off)) (hK : K i = some (.ownx e k m g off j))
    (hl : ldT P t = some (false,1)) (hp : x' + 1 = m) (hoff : off < k) : Sound P Q Y E B K I0 N w0 a w o (.tk j) []:=by
  obtain ⟨_,v,xs,t1,t2,t3,t4,t5⟩:=h.tok i _ hK
  generalize hv : a.eval x = vx at hx
  cases hx with
  | pt hp' =>
    rename_i gb n' cap
    rw [hp'] at t1; cases t1
    obtain ⟨u,hu,hr⟩:=t4 x' off (by omega) hoff
    have hτ : τ j = some u:=by
      rcases hr with ⟨_,_,hr⟩ | ⟨hr,_⟩
      · exact hr
      · exact absurd ⟨hp,rfl⟩ hr
    have hcell:=t2.cells (g:=gb) rfl (x' * k + off) u hu
    have hr:=run_load_row (P:=P) (w:=w) (b:=gb) (off:=x' * k + off) hl (us:=[u]) rfl (fun j v hv => by
      cases j with
      | zero =>
        simp at hv; subst hv
        rw [← hcell]
        unfold Addr.add; split <;> simp_all
      | succ j => simp at hv)
    exact sound_pure h hd (run_load_op ho hv hr) (.tk hτ (t3 u (List.mem_of_getElem? hu)))
theorem sound_load (h : InvX I β τ Y E B K I0 N w0 a w) (hd : ∀ d,o.dst = some d → d < N) {σ : Sy} {t : TypeId} {x : Operand} {s : SV} {ev : Ev} (ho : o.op = .load t x) (hx : Mt I β τ Y w (a.eval x) s) (he : loadV P σ t s = some ev) (hp : ev.p)
    (hB : ∀ k,Res.b k ∈ ev.rs → B k = nth σ.bx k) (hK : ∀ k,Res.k k ∈ ev.rs → K k = nth σ.tk k) : Sound P Q Y E B K I0 N w0 a w o ev.v ev.ef:=by
  unfold loadV at he
  split at he
  · rename_i b off
    split at he
    · rename_i c a' n hc hl
      split at he
      · rename_i hn
        simp at he; subst he
        have hb:=hB b (by simp)
        rw [hc] at hb
        exact sound_loadBox h hd ho hx hb hl hn.1 hn.2
      · simp at he
    · simp at he
  · rename_i m c
    split at he
    · rename_i a' n hl
      split at he
      · rename_i hn
        simp at he; subst he
        generalize hv : a.eval x = v at hx
        cases hx with
        | q us hI hcell hrep => exact sound_loadQ h hd ho hv us hcell hrep hl hn
      · simp at he
    · simp at he
  · rename_i m c
    split at he
    · rename_i a' n hl
      split at he
      · rename_i hn
        simp at he; subst he
        generalize hv : a.eval x = v at hx
        cases hx with
        | d hr => cases hr with
          | ref us hI hcell hrep => exact sound_loadQ h hd ho hv us hcell hrep hl hn
      · simp at he
    · simp at he
  · rename_i i x' k off
    split at he
    · rename_i e k' m g a' n hc hl
      split at he
      · rename_i hn
        obtain ⟨rfl,hn⟩:=hn
        simp at he; subst he
        have hb:=hK i (by simp)
        rw [hc] at hb
        obtain ⟨b,hv,us,hus⟩:=own_cells h hb (.inl ⟨e,rfl⟩) hp hx
        have:=sound_loadQ (P:=P) (Q:=Q) h hd (c:=fun j => g x' (off + j)) (m:=k - off) ho hv (fun j => us (off + j)) (fun j hj => by
          have:=(hus (off + j) (by omega)).1
          rw [← this]; congr 2; omega) (fun j hj => (hus (off + j) (by omega)).2) hl (by omega)
        have e : take (fun j => g x' (off + j)) 0 n = take (g x') off n:=by
          apply List.ext_getElem?
          intro j
          by_cases hj : j < n
          · rw [take_get _ n 0 j hj,take_get _ n off j hj]; simp
          · rw [List.getElem?_eq_none (by rw [take_len]; omega),List.getElem?_eq_none (by rw [take_len]; omega)]
        rw [e] at this
        exact this
      · simp at he
    · rename_i k' m g a' n hc hl
      split at he
      · rename_i hn
        obtain ⟨rfl,hn⟩:=hn
        simp at he; subst he
        have hb:=hK i (by simp)
        rw [hc] at hb
        obtain ⟨b,hv,us,hus⟩:=own_cells h hb (.inr rfl) hp hx
        have:=sound_loadQ (P:=P) (Q:=Q) h hd (c:=fun j => g x' (off + j)) (m:=k - off) ho hv (fun j => us (off + j)) (fun j hj => by
          have:=(hus (off + j) (by omega)).1
          rw [← this]; congr 2; omega) (fun j hj => (hus (off + j) (by omega)).2) hl (by omega)
        have e : take (fun j => g x' (off + j)) 0 n = take (g x') off n:=by
          apply List.ext_getElem?
          intro j
          by_cases hj : j < n
          · rw [take_get _ n 0 j hj,take_get _ n off j hj]; simp
          · rw [List.getElem?_eq_none (by rw [take_len]; omega),List.getElem?_eq_none (by rw [take_len]; omega)]
        rw [e] at this
        exact this
      · simp at he
    · rename_i e k' m g c j a' n hc hl
      split at he
      · rename_i hn
        obtain ⟨rfl,rfl,hok,rfl,rfl⟩:=hn
        simp at he; subst he
        have hb:=hK i (by simp)
        rw [hc] at hb
        exact sound_loadX h hd ho hx hb hl hp hok
      · simp at he
    · simp at he
  · simp at he
end
end Go.RX
