/-
  The program's functions,contracts: what each one returns,whatever the world: part 7. No condition.
-/
import Derived.Test.YtchnganlpgfdjaaGreatDoorB00
import Derived.Test.YtchnganlpgfdjaaGreatDoorB01
import Derived.Test.YtchnganlpgfdjaaGreatDoorB02
import Derived.Test.YtchnganlpgfdjaaGreatDoorB03
import Derived.Test.YtchnganlpgfdjaaGreatDoorB04
import Derived.Test.YtchnganlpgfdjaaGreatDoorB05
set_option linter.all false
set_option linter.unusedVariables false
set_option linter.unusedSectionVars false
set_option linter.unusedSimpArgs false
set_option linter.unnecessarySimpa false
namespace Go.RX
open Go Go.RowKit
variable [Glob]
section
variable {P : Program} {Q : Exit → Act → World → Prop}
variable {I : Nat → Prop} {β : Nat → Option Nat} {τ : Nat → Option Value} {Y : Nat → Option Bool} {E : Nat → SV} {B : Nat → Option BC} {K : Nat → Option TC} {I0 : Nat → Prop} {N : Nat} {w0 w : World} {a : Act} {o : Oper}
theorem foldl_set (off : Nat) : ∀ (l : List Value) (k : Nat) (cells : Array Value),off + k + l.length ≤ cells.size →
    ((l.zipIdx k).foldl (fun (cs : Array Value) (x : Value × Nat) => cs.setIfInBounds (off + x.2) x.1) cells).toList = cells.toList.take (off + k) ++ l ++ cells.toList.drop (off + k + l.length)
  | [],k,cells,_ => by simp
  | v :: r,k,cells,h => by
    simp only [List.zipIdx_cons,List.foldl_cons]
    rw [foldl_set off r (k + 1) (cells.setIfInBounds (off + k) v) (by simp at h ⊢; omega)]
    have e:=list_seg_step cells.toList (off + k) v r (by simp at h ⊢; omega)
    simp only [Array.toList_setIfInBounds]
    rw [show off + (k + 1) = off + k + 1 from by omega]
    simpa [Nat.add_assoc,Nat.add_comm,Nat.add_left_comm] using e
theorem CM.splice {cs vs : Array Value} {xs ys : List SV} (hc : CM I β τ Y w cs xs) (hv : CM I β τ Y w vs ys) {off n : Nat} (hn : ys.length = n) (hf : off + n ≤ xs.length) {cs' : Array Value} (he : cs'.toList = cs.toList.take off ++ vs.toList ++ cs.toList.drop (off + n)) :
    CM I β τ Y w cs' (xs.take off ++ ys ++ xs.drop (off + n)):=by
  have hl:=hc.len
  have hvl:=hv.len
  have hsz : cs'.size = cs.size:=by
    have:=congrArg List.length he
    simp at this; omega
  refine ⟨by simp; omega,fun j u x hu hx => ?_,fun u hu => ?_⟩
  · have hu' : cs'.toList[j]? = some u:=by simpa using hu
    rw [he] at hu'
    by_cases j1 : j < off
    · rw [List.append_assoc,List.getElem?_append_left (by simp; omega)] at hu' hx
      rw [List.getElem?_take,if_pos j1] at hu' hx
      exact hc.at_ j u x (by simpa using hu') hx
    · by_cases j2 : j < off + n
      · rw [List.append_assoc,List.getElem?_append_right (by simp; omega),List.getElem?_append_left (by simp; omega)] at hu' hx
        simp only [List.length_take,Array.length_toList] at hu' hx
        rw [show j - min off cs.size = j - off from by omega] at hu'
        rw [show j - min off xs.length = j - off from by omega] at hx
        exact hv.at_ (j - off) u x (by simpa using hu') hx
      · rw [List.getElem?_append_right (by simp; omega)] at hu' hx
        simp only [List.length_append,List.length_take,Array.length_toList,List.getElem?_drop] at hu' hx
        rw [show off + n + (j - (min off cs.size + vs.size)) = j from by omega] at hu'
        rw [show off + n + (j - (min off xs.length + ys.length)) = j from by omega] at hx
        exact hc.at_ j u x (by simpa using hu') hx
  · have hu' : u ∈ cs'.toList:=by simpa using hu
    rw [he] at hu'
    simp only [List.mem_append] at hu'
    rcases hu' with (hu' | hu') | hu'
    · exact hc.one u (by simpa using List.mem_of_mem_take hu')
    · exact hv.one u (by simpa using hu')
    · exact hc.one u (by simpa using List.mem_of_mem_drop hu')
theorem fill_ok {offs place : Nat → Option (Nat × Nat)} (hop : ∀ i p,offs i = some p → place i = some p) : ∀ (ps : List (Nat × SV)) (qs : List (Nat × Value)) (cs : Array Value) (xs ys : List SV),CM I β τ Y w cs xs →
    qs.length = ps.length → (∀ (j : Nat) (p : Nat × SV) (q : Nat × Value),ps[j]? = some p → qs[j]? = some q → p.1 = q.1 ∧ Mt I β τ Y w q.2 p.2) → partsV offs xs ps = some ys → ∃ cs',Instr.fill place cs qs = some cs' ∧ CM I β τ Y w cs' ys
  | [],[],cs,xs,ys,hc,_,_,h => by
    simp [partsV] at h; subst h
    exact ⟨cs,rfl,hc⟩
  | [],q :: qs,_,_,_,_,hl,_,_ => by simp at hl
  | p :: ps,[],_,_,_,_,hl,_,_ => by simp at hl
  | (i,s) :: ps,(i',v) :: qs,cs,xs,ys,hc,hl,hm,h => by
    obtain ⟨e,hv⟩:=hm 0 _ _ rfl rfl
    simp only at e hv
    subst e
    unfold partsV at h
    split at h
    · rename_i off n vs ho hs
      split at h
      · rename_i hcond
        obtain ⟨c1,c2⟩:=hcond
        have hcv:=CM.of hv hs
        have hsz : v.cells.size = n:=by rw [hcv.len,c1]
        let cs1 : Array Value:=v.cells.zipIdx.foldl (fun (cs : Array Value) (x : Value × Nat) => cs.setIfInBounds (off + x.2) x.1) cs
        have hcl:=hc.len
        have he : cs1.toList = cs.toList.take off ++ v.cells.toList ++ cs.toList.drop (off + n):=by
          have:=foldl_set off v.cells.toList 0 cs (by simp; omega)
          simp only [Nat.add_zero,Array.length_toList,hsz] at this
          rw [← this]
          simp only [cs1]
          rw [← Array.foldl_toList,Array.toList_zipIdx]
        have hc1 : CM I β τ Y w cs1 (xs.take off ++ vs ++ xs.drop (off + n)):=hc.splice hcv c1 c2 he
        obtain ⟨cs',hf,hcm⟩:=fill_ok hop ps qs cs1 _ ys hc1 (by simpa using hl) (fun j p q a b => hm (j + 1) p q (by simpa using a) (by simpa using b)) h
        refine ⟨cs',?_,hcm⟩
        unfold Instr.fill
        rw [hop _ _ ho]
        simp only
        rw [if_neg (by rw [hsz,hcl]; simp; omega)]
        exact hf
      · simp at h
    · simp at h
theorem pairs_ok {rd : Operand → SV} {ps : Array (Nat × Operand)} (hrd : ∀ x ∈ ps.toList.map (·.2),Mt I β τ Y w (a.eval x) (rd x)) :
    (ps.map fun (i,x) => (i,a.eval x)).toList.length = (ps.toList.map fun q => (q.1,rd q.2)).length ∧
    ∀ (j : Nat) (p : Nat × SV) (q : Nat × Value),(ps.toList.map fun q => (q.1,rd q.2))[j]? = some p → (ps.map fun (i,x) => (i,a.eval x)).toList[j]? = some q → p.1 = q.1 ∧ Mt I β τ Y w q.2 p.2:=by
  refine ⟨by simp,fun j p q hp hq => ?_⟩
  simp only [List.getElem?_map,Array.toList_map,Option.map_eq_some_iff] at hp hq
  obtain ⟨z,hz,rfl⟩:=hp
  obtain ⟨z',hz',rfl⟩:=hq
  rw [hz] at hz'
  cases hz'
  exact ⟨rfl,hrd _ (List.mem_map.2 ⟨z,List.mem_of_getElem? hz,rfl⟩)⟩
theorem flsT_spec {t : Nat} {fs : List (Nat × Nat)} (h : flsT P t = some fs) : ∃ fields,P.underlying t = some (.struct fields) ∧ fields.toList.mapM (fun f => (P.info? f.type).map fun i => (f.offset,i.size)) = some fs:=by
  unfold flsT at h
  split at h
  · rename_i fields hu; exact ⟨fields,hu,h⟩
  · simp at h
theorem arrT_spec {t len e k : Nat} (h : arrT P t = some (len,e,k)) : ∃ ie,P.underlying t = some (.array len e) ∧ P.info? e = some ie ∧ ie.size = k:=by
  unfold arrT at h
  split at h
  · rename_i n e' hu
    split at h
    · rename_i i hi
      simp at h; obtain ⟨rfl,rfl,rfl⟩:=h
      exact ⟨i,hu,hi,rfl⟩
    · simp at h
  · simp at h
theorem sound_bld (h : InvX I β τ Y E B K I0 N w0 a w) (hd : ∀ d,o.dst = some d → d < N) {t : Nat} {ps : Array (Nat × Operand)} {rd : Operand → SV} {ev : Ev} (ho : o.op = .build t ps) (hrd : ∀ x ∈ ps.toList.map (·.2),Mt I β τ Y w (a.eval x) (rd x))
    (he : bldE P t (ps.toList.map fun q => (q.1,rd q.2)) = some ev) : Sound P Q Y E B K I0 N w0 a w o ev.v ev.ef:=by
  unfold bldE at he
  split at he
  · rename_i z fs hz hfs
    split at he
    · rename_i cs hp
      simp at he; subst he
      obtain ⟨i,zv,hi,hzv,hs,hc⟩:=zeroT_ok (I:=I) (β:=β) (τ:=τ) (Y:=Y) (w:=w) hz
      obtain ⟨fields,hu,hmm⟩:=flsT_spec hfs
      obtain ⟨hl,hm⟩:=pairs_ok (a:=a) hrd
      obtain ⟨cs',hf,hcm⟩:=fill_ok (place:=(fs.toArray[·]?)) (fun i p hp => by rw [nth_eq] at hp; simpa using hp) _ _ zv.cells z cs hc hl hm hp
      have hb : P.built t (ps.map fun (i,x) => (i,a.eval x)).toList = some cs':=by
        unfold Program.built
        simp only [hi,hu,hzv,hmm]
        exact hf
      have hr:=run_build (P:=P) w t (ps.map fun (i,x) => (i,a.eval x)) cs' hb
      exact sound_pure h hd (v:=.agg cs') (by simp only [execOp,ho,Sem.run_bind,hr,Result.andThen_ok]; rfl) (.agg hcm.len hcm.at_ hcm.one)
    · simp at he
  · rename_i z hz _
    split at he
    · rename_i len e k har
      split at he
      · rename_i cs hp
        simp at he; subst he
        obtain ⟨i,zv,hi,hzv,hs,hc⟩:=zeroT_ok (I:=I) (β:=β) (τ:=τ) (Y:=Y) (w:=w) hz
        obtain ⟨ie,hu,hie,hks⟩:=arrT_spec har
        obtain ⟨hl,hm⟩:=pairs_ok (a:=a) hrd
        obtain ⟨cs',hf,hcm⟩:=fill_ok (place:=fun i => some (i * k,k)) (fun i p hp => hp) _ _ zv.cells z cs hc hl hm hp
        have hb : P.built t (ps.map fun (i,x) => (i,a.eval x)).toList = some cs':=by
          unfold Program.built
          simp only [hi,hu,hzv,hie,hks]
          exact hf
        have hr:=run_build (P:=P) w t (ps.map fun (i,x) => (i,a.eval x)) cs' hb
        exact sound_pure h hd (v:=.agg cs') (by simp only [execOp,ho,Sem.run_bind,hr,Result.andThen_ok]; rfl) (.agg hcm.len hcm.at_ hcm.one)
      · simp at he
    · simp at he
  · simp at he
theorem fill_get (z : List SV) : ∀ (n p : Nat),p < n * z.length → (fill z n)[p]? = z[p % z.length]?
  | 0,p,h => by simp at h
  | n + 1,p,h => by
    have e : fill z (n + 1) = z ++ fill z n:=by simp [fill,List.replicate_succ]
    rw [e]
    by_cases hp : p < z.length
    · rw [List.getElem?_append_left hp,Nat.mod_eq_of_lt hp]
    · rw [List.getElem?_append_right (by omega),fill_get z n (p - z.length) (by rw [Nat.add_mul] at h; omega)]
      congr 1
      rw [← Nat.mod_eq_sub_mod (by omega)]
theorem fill_len (z : List SV) (n : Nat) : (fill z n).length = n * z.length:=by simp [fill]
theorem sound_bsl (h : InvX I β τ Y E B K I0 N w0 a w) (hd : ∀ d,o.dst = some d → d < N) {σ : Sy} {t n : Nat} {ps : Array (Nat × Operand)} {rd : Operand → SV} {ev : Ev} (ho : o.op = .buildSlice t n ps) (hrd : ∀ x ∈ ps.toList.map (·.2),Mt I β τ Y w (a.eval x) (rd x))
    (hK : ∀ k,Res.k k ∈ ev.rs → K k = nth σ.tk k) (hKn : (∃ c,Ef.k σ.tk.length c ∈ ev.ef) → K σ.tk.length = none) (he : bslE P σ t n (ps.toList.map fun q => (q.1,rd q.2)) = some ev) : Sound P Q Y E B K I0 N w0 a w o ev.v ev.ef:=by
  unfold bslE at he
  split at he
  · rename_i e k by_ ht
    split at he
    · rename_i z hz
      unfold bslZ at he
      split at he
      · rename_i hcond
        obtain ⟨c1,c2,c3⟩:=hcond
        split at he
        · rename_i cs hp
          obtain ⟨ie,hu,hie,hs,_⟩:=elT_spec ht
          obtain ⟨i,zv,hi,hzv,hsz,hc⟩:=zeroT_ok (I:=I) (β:=β) (τ:=τ) (Y:=Y) (w:=w) hz
          rw [hie] at hi; cases hi
          have hzs : zv.cells.size = k:=by rw [hsz,c1]
          have hkpos : 0 < k:=by
            rcases Nat.eq_zero_or_pos k with e | e
            · rw [e] at c3; simp at c3
            · exact e
          have hc0 : CM I β τ Y w ((Array.range (n * k)).map (zv.cells[· % zv.cells.size]!)) (fill z n):=by
            refine ⟨by simp [fill_len,c1],fun j u x hu hx => ?_,fun u hu => ?_⟩
            · have hj : j < n * k:=by
                have:=(Array.getElem?_eq_some_iff.1 hu).1
                simpa using this
              have hjm : j % k < k:=Nat.mod_lt _ hkpos
              rw [fill_get z n j (by rw [c1]; exact hj),c1] at hx
              simp [hj] at hu
              rw [hzs] at hu
              have : zv.cells[j % k]? = some u:=by
                rw [← hu,getElem!_pos zv.cells (j % k) (by omega)]
                simp [hzs,hjm]
              exact hc.at_ _ u x this hx
            · obtain ⟨j,hj,rfl⟩:=by simpa using hu
              have hjm : j % zv.cells.size < zv.cells.size:=Nat.mod_lt _ (by omega)
              rw [getElem!_pos zv.cells _ hjm]
              exact hc.one _ (by simp)
          obtain ⟨hl,hm⟩:=pairs_ok (a:=a) hrd
          obtain ⟨cs',hf,hcm⟩:=fill_ok (place:=fun i => some (i * k,k)) (fun i p hp => hp) _ _ _ (fill z n) cs hc0 hl hm hp
          split at he
          · unfold bslO at he
            split at he
            · rename_i ys rs hdc
              split at he
              · rename_i hyl
                obtain rfl:=Option.some.inj he
                have hKn':=hKn ⟨_,List.mem_singleton.2 rfl⟩
                obtain ⟨I',h',hI,hlen,hrep⟩:=deepC_use h hcm hdc hK
                have hr:=run_buildSlice (P:=P) w t e n (ps.map fun (i,x) => (i,a.eval x)) cs' ie zv hu hie hzv (by rw [hs]; simp; omega) (by rw [hs]; omega) (by rw [hs]; exact hf)
                have hcsz : cs'.size = n * k:=by rw [← hlen,hyl]
                have hnk : n ≤ n * k:=Nat.le_mul_of_pos_right n hkpos
                have hne : (w.alloc (.cells cs' e)).heap[w.heap.size]? = some (.cells cs' e):=by show (w.heap.push _)[w.heap.size]? = _; simp
                have hg : w.grownBy (w.alloc (.cells cs' e)) none:=⟨rfl,rfl,rfl,by simp,fun b hb _ => heap_alloc_old w _ b hb⟩
                refine wp_val (by simp only [execOp,ho,Sem.run_bind,hr,Result.andThen_ok]; rfl) ⟨I',β,upd τ σ.tk.length (some (.slice (some ⟨w.heap.size,0,none⟩) n n)),?_⟩
                refine h'.row (t:=none) (m:=some σ.tk.length) (row:=none) hg (fun b hb => by cases hb) rfl (.inl hKn') hkpos (xs:=cs'.toList)
                  ⟨by simpa using hcsz,.inr ⟨w.heap.size,n,cs',rfl,h.bel.size,hne,Nat.le_refl _,by simp only [maxLen]; omega,hcsz,by rw [List.take_of_length_le (by simp [hcsz])]⟩⟩
                  (fun u hu => hcm.one u (by simpa using hu)) (fun i j hi hj => ?_) (fun b hb => by simp [Value.ownBlock] at hb; exact .inr (by omega)) (fun e => by cases e) hd (.tk (upd_same _ _ _) rfl) (upd_same _ _ _) (fun t0 ht0 => by cases ht0) (fun x hx _ => upd_other _ _ _ _ hx)
                have hp:=mul_lt hi hj
                have hc' : cs'[i * k + j]? = some cs'[i * k + j]:=by simp [hcsz,hp]
                have hys : ys[i * k + j]? = some (dget ys (i * k + j)):=by
                  unfold dget
                  rw [List.getD_eq_getElem?_getD,List.getElem?_eq_getElem (by omega)]; rfl
                exact ⟨_,by simpa using hc',(hrep _ _ _ hc' hys).mono (fun b hb => hb) (fun b hb => heap_alloc_old w _ b (h'.hI b hb))⟩
              · simp at he
            · simp at he
          · unfold bslV at he
            split at he
            · rename_i ys es rs hdc
              split at he
              · rename_i hyl
                obtain rfl:=Option.some.inj he
                obtain ⟨I',h',hI,hlen,hrep⟩:=deepC_use h hcm hdc hK
                have hr:=run_buildSlice (P:=P) w t e n (ps.map fun (i,x) => (i,a.eval x)) cs' ie zv hu hie hzv (by rw [hs]; simp; omega) (by rw [hs]; omega) (by rw [hs]; exact hf)
                have hcsz : cs'.size = n * k:=by rw [← hlen,hyl]
                have hnew : ∀ p u,cs'[p]? = some u → (w.alloc (.cells cs' e)).cell? ⟨w.heap.size,p,none⟩ = some u:=fun p u hp => by
                  rw [World.cell?_alloc_new]; exact hp
                have hq:=h'.quiet (w':=w.alloc (.cells cs' e)) (dst:=o.dst) ((Below.refl _ w).alloc (Nat.le_refl _) _) hd (v:=.slice (some ⟨w.heap.size,0,none⟩) n n) (V:=.d (.sl k n (fun i j => dget ys (i * k + j)))) ?_
                · have hB:=efB_frz es B (fun e' he' => by
                    obtain ⟨_,h2,_⟩:=deepC_ok σ _ _ _ _ hdc
                    obtain ⟨i',k',n',g',q1,_⟩:=h2 _ he'
                    exact ⟨i',_,q1⟩)
                  refine wp_val (by simp only [execOp,ho,Sem.run_bind,hr,Result.andThen_ok]; rfl) ⟨fun b => I' b ∨ (w.heap.size ≤ b ∧ b < (w.alloc (.cells cs' e)).heap.size),β,τ,?_⟩
                  show InvX _ _ _ _ _ (efB B es) _ _ _ _ _ _
                  rw [hB]
                  exact hq
                · refine .d (.sl (fun i j => (cs'[i * k + j]?).getD undef) (.inr ⟨Nat.le_refl _,by simp⟩) (Nat.le_refl _) ?_ ?_ ?_)
                  · have : n ≤ n * k:=Nat.le_mul_of_pos_right n hkpos
                    simp only [maxLen]; omega
                  · intro i j hi hj
                    have hp:=mul_lt hi hj
                    have hc' : cs'[i * k + j]? = some cs'[i * k + j]:=by simp [hcsz,hp]
                    rw [Nat.zero_add,hnew _ _ hc',hc']; rfl
                  · intro i j hi hj
                    have hp:=mul_lt hi hj
                    have hc' : cs'[i * k + j]? = some cs'[i * k + j]:=by simp [hcsz,hp]
                    rw [hc']
                    have hys : ys[i * k + j]? = some (dget ys (i * k + j)):=by
                      unfold dget
                      rw [List.getD_eq_getElem?_getD,List.getElem?_eq_getElem (by omega)]; rfl
                    refine (hrep _ _ _ hc' hys).mono (fun b hb => .inl hb) (fun b hb => heap_alloc_old w _ b ?_)
                    exact h'.hI b hb
              · simp at he
            · simp at he
        · simp at he
      · simp at he
    · simp at he
  · simp at he
theorem run_len_op {x : Operand} {t : Nat} {v : Value} {n : Int} (ho : o.op = .call { callee:=.builtin .len,args:=#[x],argTypes:=#[t] }) (hx : a.eval x = v) (hr : (Builtin.len_ #[t] o.type #[v]).run P w = .ok (goInt n) w) :
    (execOp a.eval o).run P w = .ok (.value (.int .i64 n)) w:=by
  simp [execOp,ho,hx,resolve,invoke,builtin,hr,goInt]
theorem slice_of {v : Value} {k n : Nat} {g : Nat → Nat → DV} (h : Rep I w v (.sl k n g)) : ∃ o c,v = .slice o n c:=by
  cases h with
  | sl0 => exact ⟨_,_,rfl⟩
  | sl1 => exact ⟨_,_,rfl⟩
  | sl => exact ⟨_,_,rfl⟩
theorem rep_nils {v : Value} (h : Rep I w v .nils) : v = .slice none 0 0:=by cases h; rfl
theorem slice_own {v : Value} {base e k n : Nat} {xs : List Value} (h : w.ownsRow base e k v n xs) : ∃ o c,v = .slice o n c:=by
  rcases h.2 with ⟨rfl,rfl⟩ | ⟨b,cap,cur,rfl,_⟩ <;> exact ⟨_,_,rfl⟩
theorem sound_len (h : InvX I β τ Y E B K I0 N w0 a w) (hd : ∀ d,o.dst = some d → d < N) {σ : Sy} {x : Operand} {s : SV} {ev : Ev} {t : Nat} (ho : o.op = .call { callee:=.builtin .len,args:=#[x],argTypes:=#[t] }) (hx : Mt I β τ Y w (a.eval x) s) (hK : ∀ k,Res.k k ∈ ev.rs → K k = nth σ.tk k)
    (he : lenV σ (elT P t).isSome (strT P t) s = some ev) : Sound P Q Y E B K I0 N w0 a w o ev.v ev.ef:=by
  have sl : ∀ {ob : Option Addr} {n c : Nat},(elT P t).isSome = true → a.eval x = .slice ob n c → Sound P Q Y E B K I0 N w0 a w o (.d (.int .i64 n)) []:=by
    intro ob n c ht hv
    obtain ⟨⟨e,k,b⟩,ht⟩:=Option.isSome_iff_exists.1 ht
    obtain ⟨i,hu,_⟩:=elT_spec ht
    exact sound_pure h hd (run_len_op ho hv (by simp [Builtin.len_,run_underlying hu])) (.d .int)
  unfold lenV at he
  split at he
  · split at he
    · rename_i ht
      simp at he; subst he
      obtain ⟨ob,c,hv⟩:=slice_of (mt_d hx)
      exact sl ht hv
    · simp at he
  · split at he
    · rename_i ht
      simp at he; subst he
      have hv:=rep_nils (mt_d hx)
      exact sl ht hv
    · simp at he
  · split at he
    · rename_i l ht
      simp at he; subst he
      obtain ⟨s,hv,hl⟩:=rep_str (mt_d hx)
      refine sound_pure h hd (v:=.int .i64 l.length) (run_len_op ho hv ?_) (.d .int)
      have : s.size = l.length:=by rw [← hl]; rfl
      simp [Builtin.len_,run_underlying (strT_spec ht),this]
    · simp at he
  · rename_i j
    generalize hvx : a.eval x = vx at hx
    cases hx with
    | tk hτ h1 =>
      split at he
      · rename_i e k n g hj
        split at he
        · rename_i ht
          simp at he; subst he
          have hj':=hK j (by simp)
          rw [hj] at hj'
          obtain ⟨_,v,xs,t1,t2,_⟩:=h.tok j _ hj'
          rw [hτ] at t1; cases t1
          obtain ⟨ob,c,rfl⟩:=slice_own t2
          exact sl ht hvx
        · simp at he
      · rename_i k n g hj
        split at he
        · rename_i ht
          simp at he; subst he
          have hj':=hK j (by simp)
          rw [hj] at hj'
          obtain ⟨v,t1,t2,_⟩:=h.tok j _ hj'
          rw [hτ] at t1; cases t1
          obtain ⟨ob,c,rfl⟩:=slice_of t2
          exact sl ht hvx
        · simp at he
      · rename_i e k n g c jx hj
        split at he
        · rename_i ht
          simp at he; subst he
          have hj':=hK j (by simp)
          rw [hj] at hj'
          obtain ⟨_,v,xs,t1,t2,_⟩:=h.tok j _ hj'
          rw [hτ] at t1; cases t1
          obtain ⟨ob,c,rfl⟩:=slice_own t2
          exact sl ht hvx
        · simp at he
      · simp at he
  · simp at he
theorem sound_min (h : InvX I β τ Y E B K I0 N w0 a w) (hd : ∀ d,o.dst = some d → d < N) {mx : Bool} {x y : Operand} {s1 s2 : SV} {ev : Ev} {ts : Array TypeId} (ho : o.op = .call { callee:=.builtin (if mx then .max else .min),args:=#[x,y],argTypes:=ts }) (hx : Mt I β τ Y w (a.eval x) s1) (hy : Mt I β τ Y w (a.eval y) s2)
    (he : minE mx s1 s2 = some ev) : Sound P Q Y E B K I0 N w0 a w o ev.v ev.ef:=by
  unfold minE at he
  split at he
  · rename_i k n k' m
    split at he
    · rename_i hk; subst hk
      simp at he; subst he
      have hvx:=rep_int (mt_d hx)
      have hvy:=rep_int (mt_d hy)
      refine sound_pure h hd (v:=.int k (if mx then (if m > n then m else n) else (if m < n then m else n))) ?_ (.d .int)
      cases mx
      · simp [execOp,ho,hvx,hvy,resolve,invoke,builtin,Builtin.min_,Builtin.min2]
      · simp [execOp,ho,hvx,hvy,resolve,invoke,builtin,Builtin.max_,Builtin.max2]
    · simp at he
  · simp at he
end
end Go.RX
