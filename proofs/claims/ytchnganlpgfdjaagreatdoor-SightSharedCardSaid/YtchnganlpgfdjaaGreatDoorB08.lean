/-
  The program's functions,contracts: what each one returns,whatever the world: part 9. No condition.
-/
import Derived.Test.YtchnganlpgfdjaaGreatDoorB00
import Derived.Test.YtchnganlpgfdjaaGreatDoorB01
import Derived.Test.YtchnganlpgfdjaaGreatDoorB02
import Derived.Test.YtchnganlpgfdjaaGreatDoorB03
import Derived.Test.YtchnganlpgfdjaaGreatDoorB04
import Derived.Test.YtchnganlpgfdjaaGreatDoorB05
import Derived.Test.YtchnganlpgfdjaaGreatDoorB06
import Derived.Test.YtchnganlpgfdjaaGreatDoorB07
set_option linter.all false
set_option linter.unusedVariables false
set_option linter.unusedSectionVars false
set_option linter.unusedSimpArgs false
set_option linter.unnecessarySimpa false
namespace Go.RX
open Go Go.RowKit
variable [Glob]
section
variable {P : Program} {Q : Exit → Act → World → Prop}
variable {I : Nat → Prop} {β : Nat → Option Nat} {τ : Nat → Option Value} {Y : Nat → Option Bool} {E : Nat → SV} {B : Nat → Option BC} {K : Nat → Option TC} {I0 : Nat → Prop} {N : Nat} {w0 w : World} {a : Act} {o : Oper}
def loS (rd : Operand → SV) : Option Operand → SV | none => .d (.int .i64 0) | some y => rd y
def hiS (rd : Operand → SV) (x : Operand) : Option Operand → SV | none => lenX (rd x) | some y => rd y
theorem sound_sli (h : InvX I β τ Y E B K I0 N w0 a w) (hd : ∀ d,o.dst = some d → d < N) {t : Nat} {x : Operand} {lo hi : Option Operand} {rd : Operand → SV} {ev : Ev} (ho : o.op = .slice t x lo hi none) (hx : Mt I β τ Y w (a.eval x) (rd x))
    (hlo : ∀ y,lo = some y → Mt I β τ Y w (a.eval y) (rd y)) (hhi : ∀ y,hi = some y → Mt I β τ Y w (a.eval y) (rd y)) (he : sliE P t (rd x) (loS rd lo) (hiS rd x hi) = some ev) (hp : ev.p) : Sound P Q Y E B K I0 N w0 a w o ev.v ev.ef:=by
  unfold sliE at he
  split at he
  · rename_i k n g kl l kh hh e1 e2 e3
    split at he
    · rename_i e k' by_ ht
      split at he
      · rename_i hk; subst hk
        obtain rfl:=Option.some.inj he
        obtain ⟨p1,p2,p3⟩:=hp
        rw [e1] at hx
        have hr:=mt_d hx
        have hL : ∃ kd,(match lo with | none => Value.int .i64 0 | some y => a.eval y) = .int kd l:=by
          cases lo with
          | none => simp only [loS] at e2; cases e2; exact ⟨_,rfl⟩
          | some y => simp only [loS] at e2; have:=hlo y rfl; rw [e2] at this; exact ⟨_,rep_int (mt_d this)⟩
        have hH : ∃ kd,(match hi with | none => Value.int .i64 n | some y => a.eval y) = .int kd hh:=by
          cases hi with
          | none => simp only [hiS,e1,lenX] at e3; cases e3; exact ⟨_,rfl⟩
          | some y => simp only [hiS] at e3; have:=hhi y rfl; rw [e3] at this; exact ⟨_,rep_int (mt_d this)⟩
        obtain ⟨kd1,hL⟩:=hL
        obtain ⟨kd2,hH⟩:=hH
        generalize hvx : a.eval x = vx at hr
        cases hr with
        | sl0 =>
          have hl0 : l = 0:=by omega
          have hh0 : hh = 0:=by omega
          subst hl0; subst hh0
          refine sound_pure h hd (run_slice_op ho hvx ht hL hH (by omega) (by omega) (by omega) (Nat.le_refl _)) ?_
          exact .d .sl0
        | sl1 hcm =>
          have hl0 : l = 0:=by omega
          have hh0 : hh = 0:=by omega
          subst hl0; subst hh0
          refine sound_pure h hd (run_slice_op ho hvx ht hL hH (by omega) (by omega) (by omega) (Nat.zero_le _)) ?_
          simp only [sliced,Int.toNat_zero,Nat.sub_self,Int.sub_self]
          split
          · exact .d (.sl1 (by omega))
          · exact .d (.sl1 (by omega))
        | sl us h1 h2 h3 h4 h5 =>
          rename_i b off cap
          refine sound_pure h hd (run_slice_op ho hvx ht hL hH p1 p2 p3 h2) ?_
          have hn : hh.toNat - l.toNat = (hh - l).toNat:=by omega
          simp only [sliced]
          split
          · rename_i hcl
            have h0 : (hh - l).toNat = 0:=by omega
            rw [hn,h0]
            exact .d (.sl (fun _ _ => undef) h1 (Nat.zero_le _) (by omega) (fun i j hi => by omega) (fun i j hi => by omega))
          · have hadd : (⟨b,off,none⟩ : Addr).add (l.toNat * k) = ⟨b,off + l.toNat * k,none⟩:=Addr.add_mid _ _ _
            simp only [Option.map_some,hadd,hn]
            refine .d (.sl (fun i j => us (l.toNat + i) j) h1 (by omega) (by omega) (fun i j hi hj => ?_) (fun i j hi hj => h5 _ _ (by omega) hj))
            have:=h4 (l.toNat + i) j (by omega) hj
            rw [← this]
            congr 2
            rw [Nat.add_mul]; omega
      · simp at he
    · simp at he
  · rename_i s kl l kh hh e1 e2 e3
    split at he
    · rename_i ht
      obtain rfl:=Option.some.inj he
      obtain ⟨p1,p2,p3⟩:=hp
      rw [e1] at hx
      obtain ⟨sv,hvx,hs⟩:=rep_str (mt_d hx)
      have hsz : sv.size = s.length:=by rw [← hs]; rfl
      have hu:=strT_spec ht
      have hL : ∃ kd,(match lo with | none => Value.int .i64 0 | some y => a.eval y) = .int kd l:=by
        cases lo with
        | none => simp only [loS] at e2; cases e2; exact ⟨_,rfl⟩
        | some y => simp only [loS] at e2; have:=hlo y rfl; rw [e2] at this; exact ⟨_,rep_int (mt_d this)⟩
      have hH : ∃ kd,(match hi with | none => Value.int .i64 s.length | some y => a.eval y) = .int kd hh:=by
        cases hi with
        | none => simp only [hiS,e1,lenX] at e3; cases e3; exact ⟨_,rfl⟩
        | some y => simp only [hiS] at e3; have:=hhi y rfl; rw [e3] at this; exact ⟨_,rep_int (mt_d this)⟩
      obtain ⟨kd1,hL⟩:=hL
      obtain ⟨kd2,hH⟩:=hH
      have hlen : (hh.toNat : Int) = hh:=Int.toNat_of_nonneg (by omega)
      refine sound_pure h hd (v:=.string (sv.extract l.toNat hh.toNat)) ?_ (.d (.str ?_))
      · have h0 : 0 ≤ hh:=by omega
        have hle : hh ≤ (sv.size : Int):=by omega
        have hnat : sv.size = hh.toNat ∨ True:=.inr trivial
        cases lo with
        | none =>
          simp only at hL; cases hL
          cases hi with
          | none =>
            simp only at hH; cases hH
            simp [execOp,ho,hvx,Instr.sliceAt,Instr.slice,run_underlying hu,Instr.sliceBounds,hsz]
            rw [← hsz]; exact ByteArray.extract_zero_size.symm
          | some y =>
            simp only at hH
            simp [execOp,ho,hvx,hH,Instr.sliceAt,Instr.slice,run_underlying hu,Instr.sliceBounds,Instr.sliceBound,asIntOf,h0,hle]
        | some z =>
          simp only at hL
          cases hi with
          | none =>
            simp only at hH; cases hH
            simp [execOp,ho,hvx,hL,Instr.sliceAt,Instr.slice,run_underlying hu,Instr.sliceBounds,Instr.sliceBound,asIntOf,p1,hsz,p2]
          | some y =>
            simp only at hH
            simp [execOp,ho,hvx,hL,hH,Instr.sliceAt,Instr.slice,run_underlying hu,Instr.sliceBounds,Instr.sliceBound,asIntOf,h0,hle,p1,hlen,p2]
      · rw [← hs]
        rw [ByteArray.data_extract]
        simp [List.extract_eq_take_drop,List.drop_take]
    · simp at he
  · simp at he
theorem src_ok (h : InvX I β τ Y E B K I0 N w0 a w) {σ : Sy} {k m : Nat} {g : Nat → Nat → DV} {rs : List Res} {v : Value} {s : SV} (hk : 0 < k) (hv : Mt I β τ Y w v s) (hK : ∀ k,Res.k k ∈ rs → K k = nth σ.tk k) (he : srcV σ k s = some (m,g,rs)) :
    (v = .slice none 0 0 ∧ m = 0) ∨ ∃ (ad : Addr) (c : Nat) (news : List Value),v = .slice (some ad) m c ∧ news.length = m * k ∧ (∀ j u,news[j]? = some u → w.cell? (ad.add j) = some u) ∧ (∀ u ∈ news,u.oneCell' = true) ∧
      ∀ i j,i < m → j < k → ∃ u,news[i * k + j]? = some u ∧ Rep I w u (g i j):=by
  have deep : ∀ {v : Value} {n : Nat} {g' : Nat → Nat → DV},Rep I w v (.sl k n g') → (v = .slice none 0 0 ∧ n = 0) ∨ ∃ (ad : Addr) (c : Nat) (news : List Value),v = .slice (some ad) n c ∧ news.length = n * k ∧ (∀ j u,news[j]? = some u → w.cell? (ad.add j) = some u) ∧ (∀ u ∈ news,u.oneCell' = true) ∧
      ∀ i j,i < n → j < k → ∃ u,news[i * k + j]? = some u ∧ Rep I w u (g' i j):=by
    intro v n g' hr
    cases hr with
    | sl0 => exact .inl ⟨rfl,rfl⟩
    | @sl1 a cap _ _ _ => exact .inr ⟨a,cap,[],rfl,by simp,fun j u hu => by simp at hu,fun u hu => by simp at hu,fun i j hi => by omega⟩
    | sl us h1 h2 h3 h4 h5 =>
      rename_i b off cap
      have hdm : ∀ p,p < n * k → p / k < n ∧ p % k < k ∧ p / k * k + p % k = p:=fun p hp => ⟨(Nat.div_lt_iff_lt_mul hk).2 hp,Nat.mod_lt _ hk,by rw [Nat.mul_comm]; exact Nat.div_add_mod p k⟩
      refine .inr ⟨⟨b,off,none⟩,cap,(List.range (n * k)).map (fun p => us (p / k) (p % k)),rfl,by simp,fun j u hu => ?_,fun u hu => ?_,fun i j hi hj => ?_⟩
      · obtain ⟨hj,rfl⟩:=range_map hu
        obtain ⟨d1,d2,d3⟩:=hdm j hj
        have:=h4 _ _ d1 d2
        rw [d3] at this
        rw [Addr.add_mid]; exact this
      · obtain ⟨j,hj0⟩:=List.getElem?_of_mem hu
        obtain ⟨hj1,rfl⟩:=range_map hj0
        obtain ⟨d1,d2,d3⟩:=hdm j hj1
        exact (h5 _ _ d1 d2).one
      · have hp:=mul_lt hi hj
        refine ⟨us i j,?_,h5 i j hi hj⟩
        rw [List.getElem?_map,List.getElem?_range hp]
        simp only [Option.map_some,Option.some.injEq]
        have e1 : (i * k + j) / k = i:=by
          rw [Nat.add_comm,Nat.add_mul_div_right _ _ hk,Nat.div_eq_of_lt hj,Nat.zero_add]
        have e2 : (i * k + j) % k = j:=by
          rw [Nat.add_comm,Nat.add_mul_mod_self_right,Nat.mod_eq_of_lt hj]
        rw [e1,e2]
  unfold srcV at he
  split at he
  · split at he
    · rename_i hkk; subst hkk
      simp at he; obtain ⟨rfl,rfl,rfl⟩:=he
      exact deep (mt_d hv)
    · simp at he
  · simp at he; obtain ⟨rfl,rfl,rfl⟩:=he
    exact .inl ⟨rep_nils (mt_d hv),rfl⟩
  · rename_i j
    cases hv with
    | tk hτ h1 =>
      split at he
      · rename_i k' n g' hj
        split at he
        · rename_i hkk; subst hkk
          simp at he; obtain ⟨rfl,rfl,rfl⟩:=he
          have hj':=hK j (by simp)
          rw [hj] at hj'
          obtain ⟨v',t1,t2,_⟩:=h.tok j _ hj'
          rw [hτ] at t1; cases t1
          exact deep t2
        · simp at he
      · rename_i e k' n g' hj
        split at he
        · rename_i hkk; subst hkk
          simp at he; obtain ⟨rfl,rfl,rfl⟩:=he
          have hj':=hK j (by simp)
          rw [hj] at hj'
          obtain ⟨_,v',xs,t1,t2,t3,t4,t5⟩:=h.tok j _ hj'
          rw [hτ] at t1; cases t1
          have hxl:=t2.1
          rcases t2.2 with ⟨rfl,hn⟩ | ⟨b,cap,cur,rfl,_⟩
          · exact .inl ⟨rfl,hn⟩
          · exact .inr ⟨⟨b,0,none⟩,cap,xs,rfl,hxl,t2.cells (g:=b) rfl,t3,t4⟩
        · simp at he
      · simp at he
  · simp at he
theorem run_append_op {x y : Operand} {t : Nat} {v u r : Value} {w' : World} (ho : o.op = .call { callee:=.builtin .append,args:=#[x,y],argTypes:=#[t,t] }) (hx : a.eval x = v) (hy : a.eval y = u) (hr : (Builtin.append_ #[t,t] o.type #[v,u]).run P w = .ok r w') :
    (execOp a.eval o).run P w = .ok (.value r) w':=by
  simp [execOp,ho,hx,hy,resolve,invoke,builtin,hr]
theorem sound_appCore (h : InvX I β τ Y E B K I0 N w0 a w) (hd : ∀ d,o.dst = some d → d < N) {x y : Operand} {t e k by_ n m : Nat} {g hh : Nat → Nat → DV} {z : List SV} (ho : o.op = .call { callee:=.builtin .append,args:=#[x,y],argTypes:=#[t,t] }) (ht : elT P t = some (e,k,by_)) (hz : zeroT P e = some z) (hzl : z.length = k) (hk : 0 < k)
    {v : Value} {xs : List Value} (hx : a.eval x = v) (hown : w.ownsRow w0.heap.size e k v n xs) (h1x : ∀ u ∈ xs,u.oneCell' = true) (hxr : ∀ i j,i < n → j < k → ∃ u,xs[i * k + j]? = some u ∧ Rep I w u (g i j))
    (hsrc : (a.eval y = .slice none 0 0 ∧ m = 0) ∨ ∃ (ad : Addr) (c : Nat) (news : List Value),a.eval y = .slice (some ad) m c ∧ news.length = m * k ∧ (∀ j u,news[j]? = some u → w.cell? (ad.add j) = some u) ∧ (∀ u ∈ news,u.oneCell' = true) ∧ ∀ i j,i < m → j < k → ∃ u,news[i * k + j]? = some u ∧ Rep I w u (hh i j))
    (hroom : room (n + m) by_) {T : Option Nat} {m0 : Nat} (hm0 : K m0 = none) (hT : ∀ b,v.ownBlock = some b → ∃ t0 e k n g,T = some t0 ∧ K t0 = some (.own e k n g) ∧ τ t0 = some v)
    {K' : Nat → Option TC} (hK'm : K' m0 = some (.own e k (n + m) (fun i c => if i < n then g i c else hh (i - n) c))) (hK't : ∀ t0,T = some t0 → K' t0 = some .dead) (hK'o : ∀ x,x ≠ m0 → T ≠ some x → K' x = K x) (hTm : T ≠ some m0) :
    o.wp P a w (fun a' w' => Inv Y (updO E o.dst (.tk m0)) B K' I0 N w0 a' w') Q:=by
  obtain ⟨ie,hu,hie,hs,hby⟩:=elT_spec ht
  obtain ⟨i,zv,hi,hzv,hsz,_⟩:=zeroT_ok (I:=I) (β:=β) (τ:=τ) (Y:=Y) (w:=w) hz
  rw [hie] at hi; cases hi
  obtain ⟨r1,r2⟩:=hroom
  have hbase : w0.heap.size ≤ w.heap.size:=h.bel.size
  have fin : ∀ (v' : Value) (w' : World) (news : List Value),(Builtin.append_ #[t,t] o.type #[v,a.eval y]).run P w = .ok v' w' → w'.ownsRow w0.heap.size e k v' (n + m) (xs ++ news) → w.grownBy w' v.ownBlock → (∀ b,v'.ownBlock = some b → v.ownBlock = some b ∨ w.heap.size ≤ b) →
      news.length = m * k → (∀ u ∈ news,u.oneCell' = true) → (∀ i j,i < m → j < k → ∃ u,news[i * k + j]? = some u ∧ Rep I w u (hh i j)) → o.wp P a w (fun a' w' => Inv Y (updO E o.dst (.tk m0)) B K' I0 N w0 a' w') Q:=by
    intro v' w' news hr how hg hnew hnl h1n hnr
    have hone : v'.oneCell' = true:=by
      rcases how.2 with ⟨rfl,_⟩ | ⟨b,cap,cur,rfl,_⟩ <;> rfl
    have hwI : ∀ b,I b → w'.heap[b]? = w.heap[b]?:=by
      intro b hb
      refine hg.block b (h.hI b hb) (fun e' => ?_)
      obtain ⟨t0,e1,k1,n1,g1,_,hKt,hτt⟩:=hT b e'.symm
      obtain ⟨_,v2,_,q1,_,_,_,q5⟩:=h.tok t0 _ hKt
      rw [hτt] at q1; cases q1
      exact (q5 b e'.symm).1 hb
    refine wp_val (run_append_op ho hx rfl hr) ⟨I,β,upd τ m0 (some v'),?_⟩
    refine h.row (t:=T) (m:=some m0) (row:=v.ownBlock) hg (fun b hb => ?_) rfl (.inl hm0) hk how ?_ ?_ hnew (fun e => absurd e hTm) hd (.tk (upd_same _ _ _) hone) hK'm (fun t0 ht0 _ => hK't t0 ht0) hK'o
    · obtain ⟨t0,e1,k1,n1,g1,q1,q2,q3⟩:=hT b hb
      exact ⟨t0,e1,k1,n1,g1,v,q1,q2,q3,hb⟩
    · intro u hu
      rcases List.mem_append.1 hu with hu | hu
      · exact h1x u hu
      · exact h1n u hu
    · intro i j hi hj
      have hxl:=hown.1
      by_cases hin : i < n
      · rw [if_pos hin]
        obtain ⟨u,hu,hr⟩:=hxr i j hin hj
        exact ⟨u,by rw [List.getElem?_append_left (by rw [hxl]; exact mul_lt hin hj)]; exact hu,hr.mono (fun _ h => h) hwI⟩
      · rw [if_neg hin]
        obtain ⟨u,hu,hr⟩:=hnr (i - n) j (by omega) hj
        refine ⟨u,?_,hr.mono (fun _ h => h) hwI⟩
        have hle : n * k ≤ i * k:=Nat.mul_le_mul_right k (by omega)
        rw [List.getElem?_append_right (by rw [hxl]; omega),hxl]
        rw [← hu]; congr 1
        rw [Nat.sub_mul]; omega
  rcases hsrc with ⟨hy,hm⟩ | ⟨ad,c,news,hy,hnl,hnc,h1n,hnr⟩
  · subst hm
    obtain ⟨ob,cap,hv⟩:=slice_own hown
    have hncap : n ≤ cap:=by
      rcases hown.2 with ⟨hv',hn⟩ | ⟨b,cap',cur,hv',_,_,hn,_⟩
      · rw [hv] at hv'; cases hv'; omega
      · rw [hv] at hv'; cases hv'; exact hn
    refine fin v w [] ?_ (by simpa using hown) ⟨rfl,rfl,rfl,Nat.le_refl _,fun _ _ _ => rfl⟩ (fun b hb => .inl hb) (by simp) (fun u hu => by simp at hu) (fun i j hi => by omega)
    rw [hy,hv]
    exact run_append_nothing t o.type e ie hu hie ob n cap hncap
  · obtain ⟨v',w',hr,how,hg,hnew⟩:=run_append_at (P:=P) w0.heap.size t o.type e ie zv k by_ hu hie hzv hs hby (by rw [hsz,hzl]) hk v n xs hown ad m c news hnl hnc h1n (by simp only [maxLen]; omega) r1 hbase
    exact fin v' w' news (by rw [hy]; exact hr) how hg hnew hnl h1n hnr
theorem sound_app (h : InvX I β τ Y E B K I0 N w0 a w) (hd : ∀ d,o.dst = some d → d < N) {σ : Sy} {x y : Operand} {t : Nat} {s1 s2 : SV} {ev : Ev} (ho : o.op = .call { callee:=.builtin .append,args:=#[x,y],argTypes:=#[t,t] }) (hx : Mt I β τ Y w (a.eval x) s1) (hy : Mt I β τ Y w (a.eval y) s2)
    (hK : ∀ k,Res.k k ∈ ev.rs → K k = nth σ.tk k) (hKn : K σ.tk.length = none) (he : appV P σ t s1 s2 = some ev) (hp : ev.p) : Sound P Q Y E B K I0 N w0 a w o ev.v ev.ef:=by
  unfold appV at he
  split at he
  · rename_i e k by_ kz ht hz
    split at he
    · rename_i hcond
      obtain ⟨hk,hkz⟩:=hcond
      rw [ht] at hz
      simp only [Option.map_some,Option.getD_some,Option.map_eq_some_iff] at hz
      obtain ⟨z,hz,hzl⟩:=hz
      split at he
      · rename_i m g rs hs
        unfold appW at he
        split at he
        · obtain rfl:=Option.some.inj he
          have hvx:=rep_nils (mt_d hx)
          have:=sound_appCore (P:=P) (Q:=Q) h hd (n:=0) (m:=m) (g:=fun _ _ => .nilI) (hh:=g) (xs:=[]) (T:=none) (m0:=σ.tk.length) (K':=upd K σ.tk.length (some (.own e k m g))) ho ht hz (by rw [hzl,hkz]) hk hvx (World.ownsRow_nil w _ e k) (fun u hu => by simp at hu) (fun i j hi => by omega)
            (src_ok h hk hy (fun k hk => hK k hk) hs) (by simpa using hp) hKn (fun b hb => by simp [Value.ownBlock] at hb) (by rw [upd_same]; simp) (fun t0 ht0 => by cases ht0) (fun x hx _ => upd_other _ _ _ _ hx) (by simp)
          exact this
        · rename_i j
          split at he
          · rename_i e' k' n g' hj
            split at he
            · rename_i hc
              obtain ⟨rfl,rfl,hc⟩:=hc
              obtain rfl:=Option.some.inj he
              have hj':=hK j (by simp)
              rw [hj] at hj'
              generalize hvx : a.eval x = vx at hx
              cases hx with
              | tk hτ h1 =>
                obtain ⟨_,v',xs,t1,t2,t3,t4,t5⟩:=h.tok j _ hj'
                rw [hτ] at t1; cases t1
                have hjn : j ≠ σ.tk.length:=fun e => by rw [e] at hj'; rw [hKn] at hj'; cases hj'
                have:=sound_appCore (P:=P) (Q:=Q) h hd (n:=n) (m:=m) (g:=g') (hh:=g) (xs:=xs) (T:=some j) (m0:=σ.tk.length) (K':=upd (upd K j (some .dead)) σ.tk.length (some (.own e k (n + m) (fun i c => if i < n then g' i c else g (i - n) c)))) ho ht hz (by rw [hzl,hkz]) hk hvx t2 t3 t4
                  (src_ok h hk hy (fun k hk => hK k (by simp [hk])) hs) hp hKn (fun b hb => ⟨j,e,k,n,g',rfl,hj',hτ⟩) (upd_same _ _ _) (fun t0 ht0 => by cases ht0; rw [upd_other _ _ _ _ hjn,upd_same]) (fun x hx ht => by rw [upd_other _ _ _ _ hx,upd_other _ _ _ _ (fun e => ht (by rw [e]))]) (fun e => hjn (by cases e; rfl))
                exact this
            · simp at he
          · simp at he
        · simp at he
      · simp at he
    · simp at he
  · simp at he
end
end Go.RX
