/-
  The program's functions,contracts: what each one returns,whatever the world: part 3. No condition.
-/
import Derived.Test.YtchnganlpgfdjaaGreatDoorB00
import Derived.Test.YtchnganlpgfdjaaGreatDoorB01
set_option linter.all false
set_option linter.unusedVariables false
set_option linter.unusedSectionVars false
set_option linter.unusedSimpArgs false
set_option linter.unnecessarySimpa false
namespace Go.RX
open Go Go.RowKit
variable [Glob]
section
variable {I : Nat → Prop} {β : Nat → Option Nat} {τ : Nat → Option Value} {Y : Nat → Option Bool} {E : Nat → SV} {B : Nat → Option BC} {K : Nat → Option TC} {I0 : Nat → Prop} {N : Nat} {w0 w : World} {a : Act}
theorem mul_lt {i n k j : Nat} (hi : i < n) (hj : j < k) : i * k + j < n * k:=by
  have : (i + 1) * k ≤ n * k:=Nat.mul_le_mul_right k hi
  rw [Nat.add_mul] at this
  omega
theorem ownsRow.rep {base e k n : Nat} {v : Value} {xs : List Value} (h : w.ownsRow base e k v n xs) {g : Nat → Nat → DV} (hr : ∀ i j,i < n → j < k → ∃ u,xs[i * k + j]? = some u ∧ Rep I w u (g i j))
    (hI : ∀ b,v.ownBlock = some b → I b) : Rep I w v (.sl k n g):=by
  rcases h.2 with ⟨rfl,rfl⟩ | ⟨b,cap,cur,rfl,_,hb,hn,hc,hs,ht⟩
  · exact .sl0
  · refine .sl (fun i j => (xs[i * k + j]?).getD undef) (hI b rfl) hn hc (fun i j hi hj => ?_) (fun i j hi hj => ?_)
    · obtain ⟨u,hu,_⟩:=hr i j hi hj
      have:=h.cells (g:=b) rfl (i * k + j) u hu
      simp only [hu,Option.getD_some]
      rw [← this]
      unfold Addr.add; split <;> simp_all
    · obtain ⟨u,hu,hru⟩:=hr i j hi hj
      simp only [hu,Option.getD_some]
      exact hru
theorem InvX.freeze (h : InvX I β τ Y E B K I0 N w0 a w) {t e k n : Nat} {g : Nat → Nat → DV} (hK : K t = some (.own e k n g)) :
    ∃ I',InvX I' β τ Y E B (upd K t (some (.frz k n g))) I0 N w0 a w ∧ ∀ b,I b → I' b:=by
  obtain ⟨hk,v,xs,h1,h2,h3,h4,h5⟩:=h.tok t _ hK
  let I' : Nat → Prop:=fun b => I b ∨ v.ownBlock = some b
  have hM : ∀ {u x},Mt I β τ Y w u x → Mt I' β τ Y w u x:=fun hx => hx.mono (fun b hb => .inl hb) (fun _ _ => rfl) (fun _ _ h => h) (fun _ _ h => h)
  have hR : ∀ {u x},Rep I w u x → Rep I' w u x:=fun hx => hx.mono (fun b hb => .inl hb) (fun _ _ => rfl)
  refine ⟨I',{ bs:=h.bs,sz:=h.sz,df:=h.df,hI:=?_,i0:=fun b hb => (by rcases hb with hb | hb; exact h.i0 b hb; exact .inr (h2.lt b hb).1),env:=fun t => (h.env t).lift hM,box:=?_,bn:=h.bn,inj:=h.inj,tok:=?_,kn:=?_,dis:=?_,bel:=h.bel },fun b hb => .inl hb⟩
  · rintro b (hb | hb)
    · exact h.hI b hb
    · exact (h2.lt b hb).2
  · intro k' c hk'
    refine (h.box k' c hk').mono (fun b hb => hb) (fun b _ _ => rfl) (fun u x hx => hM hx) (fun b _ hb => ⟨fun h => .inl h,fun h hc => ?_⟩)
    rcases hc with hc | hc
    · exact h hc
    · exact (h5 b hc).2 k' hb
  · intro t' c ht'
    by_cases et : t' = t
    · subst et
      rw [upd_same] at ht'; cases ht'
      refine ⟨v,h1,ownsRow.rep h2 (fun i j hi hj => ?_) (fun b hb => .inr hb),fun a' n' cap he => ?_⟩
      · obtain ⟨u,hu,hr⟩:=h4 i j hi hj
        exact ⟨u,hu,hR hr⟩
      · rcases h2.2 with ⟨rfl,_⟩ | ⟨b,cap',cur,rfl,_⟩
        · cases he
        · cases he; exact ⟨rfl,rfl⟩
    · rw [upd_other _ _ _ _ et] at ht'
      have ht:=h.tok t' c ht'
      cases c with
      | own e' k' n' g' =>
        obtain ⟨q0,v',xs',q1,q2,q3,q4,q5⟩:=ht
        refine ⟨q0,v',xs',q1,q2,q3,fun i j hi hj => ?_,fun b hb => ⟨fun hc => ?_,(q5 b hb).2⟩⟩
        · obtain ⟨u,hu,hr⟩:=q4 i j hi hj
          exact ⟨u,hu,hR hr⟩
        · rcases hc with hc | hc
          · exact (q5 b hb).1 hc
          · exact h.dis t t' _ _ hK ht' rfl rfl (fun e => et e.symm) v v' b h1 q1 hc hb
      | ownx e' k' n' g' cx jx =>
        obtain ⟨q0,v',xs',q1,q2,q3,q4,q5⟩:=ht
        refine ⟨q0,v',xs',q1,q2,q3,fun i j hi hj => ?_,fun b hb => ⟨fun hc => ?_,(q5 b hb).2⟩⟩
        · obtain ⟨u,hu,hr⟩:=q4 i j hi hj
          exact ⟨u,hu,hr.imp (fun q => q) (fun q => ⟨q.1,hR q.2⟩)⟩
        · rcases hc with hc | hc
          · exact (q5 b hb).1 hc
          · exact h.dis t t' _ _ hK ht' rfl rfl (fun e => et e.symm) v v' b h1 q1 hc hb
      | frz k' n' g' =>
        obtain ⟨v',q1,q2,q3⟩:=ht
        exact ⟨v',q1,hR q2,q3⟩
      | dead => trivial
  · intro t' ht'
    by_cases et : t' = t
    · subst et; rw [upd_same] at ht'; cases ht'
    · rw [upd_other _ _ _ _ et] at ht'; exact h.kn t' ht'
  · intro t1 t2 c1 c2 hk1 hk2 m1 m2 hne
    have n1' : t1 ≠ t:=fun e => by subst e; rw [upd_same] at hk1; cases hk1; cases m1
    have n2' : t2 ≠ t:=fun e => by subst e; rw [upd_same] at hk2; cases hk2; cases m2
    rw [upd_other _ _ _ _ n1'] at hk1
    rw [upd_other _ _ _ _ n2'] at hk2
    exact h.dis t1 t2 _ _ hk1 hk2 m1 m2 hne
theorem InvX.freeze' (h : InvX I β τ Y E B K I0 N w0 a w) {t e k n : Nat} {g : Nat → Nat → DV} (hK : K t = some (.own e k n g)) :
    ∃ I',InvX I' β τ Y E B (upd K t (some (.frz k n g))) I0 N w0 a w ∧ ∀ b,I b → I' b:=by
  obtain ⟨I',h',hI⟩:=h.freeze hK
  exact ⟨I',h',hI⟩
theorem InvX.rowX (h : InvX I β τ Y E B K I0 N w0 a w) {t : Option Nat} {row : Option Nat} {w' : World} (hg : w.grownBy w' row)
    (hrow : ∀ b,row = some b → ∃ t0 c v,t = some t0 ∧ K t0 = some c ∧ c.mine = true ∧ τ t0 = some v ∧ v.ownBlock = some b)
    {m0 : Nat} (hmK : K m0 = none ∨ t = some m0) {v' : Value} {cm : TC}
    (htok : (∀ {u x},Rep I w u x → Rep I w' u x) → (∀ b,v'.ownBlock = some b → ¬ I b ∧ ∀ x,β x ≠ some b) → (∀ x v,τ x = some v → upd τ m0 (some v') x = some v) → TokOK I β (upd τ m0 (some v')) w0.heap.size w' m0 cm)
    (hnew : ∀ b,v'.ownBlock = some b → row = some b ∨ w.heap.size ≤ b) (hsame : t = some m0 → τ m0 = some v')
    {dst : Option Nat} (hd : ∀ d,dst = some d → d < N) {r : Value} {V : SV} (hr : Mt I β (upd τ m0 (some v')) Y w' r V)
    {K' : Nat → Option TC} (hK'm : K' m0 = some cm) (hK't : ∀ t0,t = some t0 → t0 ≠ m0 → K' t0 = some .dead) (hK'o : ∀ x,x ≠ m0 → t ≠ some x → K' x = K x) :
    InvX I β (upd τ m0 (some v')) Y (updO E dst V) B K' I0 N w0 (a.put dst r) w':=by
  have hsz:=hg.size
  have hnI : ∀ b,row = some b → ¬ I b:=by
    intro b hb
    obtain ⟨t0,c,v,_,hK,hc,hv,hvb⟩:=hrow b hb
    obtain ⟨_,_,_,v2,xs2,q1,_,q5⟩:=(h.tok t0 _ hK).row hc
    rw [hv] at q1; cases q1
    exact (q5 b hvb).1
  have hnβ : ∀ b,row = some b → ∀ x,β x ≠ some b:=by
    intro b hb
    obtain ⟨t0,c,v,_,hK,hc,hv,hvb⟩:=hrow b hb
    obtain ⟨_,_,_,v2,xs2,q1,_,q5⟩:=(h.tok t0 _ hK).row hc
    rw [hv] at q1; cases q1
    exact (q5 b hvb).2
  have hwI : ∀ b,I b → w'.heap[b]? = w.heap[b]?:=fun b hb => hg.block b (h.hI b hb) (fun e => hnI b e.symm hb)
  have hτ : ∀ x v,τ x = some v → upd τ m0 (some v') x = some v:=by
    intro x v hx
    by_cases e : x = m0
    · subst e
      rcases hmK with hmK | hmK
      · rw [h.kn x hmK] at hx; cases hx
      · rw [upd_same,← hsame hmK]; exact hx
    · rw [upd_other _ _ _ _ e]; exact hx
  have hM : ∀ {u x},Mt I β τ Y w u x → Mt I β (upd τ m0 (some v')) Y w' u x:=fun hx => hx.mono (fun b hb => hb) hwI (fun _ _ h => h) hτ
  have hR : ∀ {u x},Rep I w u x → Rep I w' u x:=fun hx => hx.mono (fun b hb => hb) hwI
  
  have hoth : ∀ x c v b,x ≠ m0 → t ≠ some x → K x = some c → c.mine = true → τ x = some v → v.ownBlock = some b → row ≠ some b:=by
    intro x c v b hxm hxt hK hc hv hvb hrb
    obtain ⟨t0,c',v2,ht0,hK2,hc2,hv2,hvb2⟩:=hrow b hrb
    have hne : x ≠ t0:=fun e => hxt (by rw [e]; exact ht0)
    exact h.dis x t0 _ _ hK hK2 hc hc2 hne v v2 b hv hv2 hvb hvb2
  have hblk : ∀ b,v'.ownBlock = some b → ¬ I b ∧ ∀ x,β x ≠ some b:=by
    intro b hb
    rcases hnew b hb with hb' | hb'
    · exact ⟨hnI b hb',hnβ b hb'⟩
    · exact ⟨fun hc => by have:=h.hI b hc; omega,fun y hy => by have:=(h.βlt y b hy).1; omega⟩
  refine { bs:=h.bs,sz:=by rw [size_put]; exact h.sz,df:=by rw [defers_put]; exact h.df,hI:=fun b hb => Nat.lt_of_lt_of_le (h.hI b hb) hsz,i0:=h.i0,env:=env_put h.sz hd h.env hM hr,box:=?_,bn:=h.bn,inj:=h.inj,tok:=?_,kn:=?_,dis:=?_,bel:=h.bel.grown hg h.bel.size (fun b hb => ?_) }
  · intro x c hx
    exact (h.box x c hx).mono (fun b hb => hb) (fun b hlt hb => hg.block b hlt (fun e => hnβ b e.symm x hb)) (fun u x hx => hM hx) (fun b _ _ => ⟨fun h => h,fun h => h⟩)
  · intro x c hx
    by_cases exm : x = m0
    · subst exm
      rw [hK'm] at hx; cases hx
      exact htok hR hblk hτ
    · by_cases ext : t = some x
      · rw [hK't x ext exm] at hx; cases hx; trivial
      · rw [hK'o x exm ext] at hx
        have ht:=h.tok x c hx
        cases c with
        | own e' k' n' g' =>
          obtain ⟨q0,v2,xs2,q1,q2,q3,q4,q5⟩:=ht
          refine ⟨q0,v2,xs2,hτ _ _ q1,q2.kept hg ?_,q3,fun i j hi hj => ?_,q5⟩
          · cases hv : v2.ownBlock with
            | none => exact .inl rfl
            | some b => exact .inr (fun e => hoth x _ v2 b exm ext hx rfl q1 hv e.symm)
          · obtain ⟨u,hu,hr⟩:=q4 i j hi hj
            exact ⟨u,hu,hR hr⟩
        | ownx e' k' n' g' cx jx =>
          obtain ⟨q0,v2,xs2,q1,q2,q3,q4,q5⟩:=ht
          refine ⟨q0,v2,xs2,hτ _ _ q1,q2.kept hg ?_,q3,fun i j hi hj => ?_,q5⟩
          · cases hv : v2.ownBlock with
            | none => exact .inl rfl
            | some b => exact .inr (fun e => hoth x _ v2 b exm ext hx rfl q1 hv e.symm)
          · obtain ⟨u,hu,hr⟩:=q4 i j hi hj
            exact ⟨u,hu,hr.imp (fun q => ⟨q.1,q.2.1,hτ _ _ q.2.2⟩) (fun q => ⟨q.1,hR q.2⟩)⟩
        | frz k' n' g' =>
          obtain ⟨v2,q1,q2,q3⟩:=ht
          exact ⟨v2,hτ _ _ q1,hR q2,q3⟩
        | dead => trivial
  · intro x hx
    by_cases exm : x = m0
    · subst exm; rw [hK'm] at hx; cases hx
    · rw [upd_other _ _ _ _ exm]
      by_cases ext : t = some x
      · rw [hK't x ext exm] at hx; cases hx
      · rw [hK'o x exm ext] at hx; exact h.kn x hx
  · intro x y c1 c2 hx hy m1 m2 hne v1 v2 b hv1 hv2 hb1 hb2
    have nx : x ≠ m0 → t ≠ some x:=fun e ht => by rw [hK't x ht e] at hx; cases hx; cases m1
    have ny : y ≠ m0 → t ≠ some y:=fun e ht => by rw [hK't y ht e] at hy; cases hy; cases m2
    by_cases exm : x = m0
    · subst exm
      have hym : y ≠ x:=fun e => hne e.symm
      rw [upd_same] at hv1; cases hv1
      rw [upd_other _ _ _ _ hym] at hv2
      rw [hK'o y hym (ny hym)] at hy
      have hlt : b < w.heap.size:=by
        obtain ⟨_,_,_,v3,_,q1,q2,_⟩:=(h.tok y _ hy).row m2
        rw [hv2] at q1; cases q1
        exact (q2.lt b hb2).2
      rcases hnew b hb1 with hc | hc
      · exact hoth y _ v2 b hym (ny hym) hy m2 hv2 hb2 hc
      · omega
    · by_cases eym : y = m0
      · subst eym
        rw [upd_same] at hv2; cases hv2
        rw [upd_other _ _ _ _ exm] at hv1
        rw [hK'o x exm (nx exm)] at hx
        have hlt : b < w.heap.size:=by
          obtain ⟨_,_,_,v3,_,q1,q2,_⟩:=(h.tok x _ hx).row m1
          rw [hv1] at q1; cases q1
          exact (q2.lt b hb1).2
        rcases hnew b hb2 with hc | hc
        · exact hoth x _ v1 b exm (nx exm) hx m1 hv1 hb1 hc
        · omega
      · rw [upd_other _ _ _ _ exm] at hv1
        rw [upd_other _ _ _ _ eym] at hv2
        rw [hK'o x exm (nx exm)] at hx
        rw [hK'o y eym (ny eym)] at hy
        exact h.dis x y _ _ hx hy m1 m2 hne v1 v2 b hv1 hv2 hb1 hb2
  · obtain ⟨t0,_,v,_,hK,hc,hv,hvb⟩:=hrow b hb
    obtain ⟨_,_,_,v2,xs2,q1,q2,_⟩:=(h.tok t0 _ hK).row hc
    rw [hv] at q1; cases q1
    exact (q2.lt b hvb).1
theorem InvX.row (h : InvX I β τ Y E B K I0 N w0 a w) {t m : Option Nat} {row : Option Nat} {w' : World} (hg : w.grownBy w' row)
    (hrow : ∀ b,row = some b → ∃ t0 e k n g v,t = some t0 ∧ K t0 = some (.own e k n g) ∧ τ t0 = some v ∧ v.ownBlock = some b)
    {m0 : Nat} (_hm : m = some m0) (hmK : K m0 = none ∨ t = some m0) {e k n : Nat} {g : Nat → Nat → DV} {v' : Value} {xs : List Value} (hk : 0 < k)
    (hown : w'.ownsRow w0.heap.size e k v' n xs) (h1 : ∀ u ∈ xs,u.oneCell' = true) (hx : ∀ i j,i < n → j < k → ∃ u,xs[i * k + j]? = some u ∧ Rep I w' u (g i j))
    (hnew : ∀ b,v'.ownBlock = some b → row = some b ∨ w.heap.size ≤ b) (hsame : t = some m0 → τ m0 = some v')
    {dst : Option Nat} (hd : ∀ d,dst = some d → d < N) {r : Value} {V : SV} (hr : Mt I β (upd τ m0 (some v')) Y w' r V)
    {K' : Nat → Option TC} (hK'm : K' m0 = some (.own e k n g)) (hK't : ∀ t0,t = some t0 → t0 ≠ m0 → K' t0 = some .dead) (hK'o : ∀ x,x ≠ m0 → t ≠ some x → K' x = K x) :
    InvX I β (upd τ m0 (some v')) Y (updO E dst V) B K' I0 N w0 (a.put dst r) w' :=
  h.rowX hg (fun b hb => by obtain ⟨t0,e,k,n,g,v,q1,q2,q3,q4⟩:=hrow b hb; exact ⟨t0,_,v,q1,q2,rfl,q3,q4⟩) hmK
    (cm:=.own e k n g) (fun _ hblk _ => ⟨hk,v',xs,upd_same _ _ _,hown,h1,hx,hblk⟩) hnew hsame hd hr hK'm hK't hK'o
theorem run_append_at {P : Program} (base : Nat) (t ty e : TypeId) (i : TypeInfo) (z : Value) (size bytes : Nat) (ht : P.underlying t = some (.slice e)) (hi : P.info? e = some i) (hz : i.zero = some z)
    (hsize : i.size = size) (hby : i.bytes = bytes) (hzs : z.cells.size = size) (hsz : 0 < size)
    (v : Value) (n : Nat) (xs : List Value) (hown : w.ownsRow base e size v n xs)
    (ad : Addr) (m c : Nat) (news : List Value) (hl : news.length = m * size) (hnews : ∀ j u,news[j]? = some u → w.cell? (ad.add j) = some u) (h1 : ∀ u ∈ news,u.oneCell' = true)
    (h63 : n + m ≤ maxLen) (hbytes : (n + m) * bytes ≤ 140737488355328) (hbase : base ≤ w.heap.size) :
    ∃ v' w',(Builtin.append_ #[t,t] ty #[v,.slice (some ad) m c]).run P w = .ok v' w' ∧ w'.ownsRow base e size v' (n + m) (xs ++ news) ∧ w.grownBy w' v.ownBlock ∧
      (∀ b,v'.ownBlock = some b → v.ownBlock = some b ∨ w.heap.size ≤ b):=by
  obtain ⟨v',w',hr,ho,hg,hnil⟩:=run_append_own w base t ty e i z size bytes ht hi hz hsize hby hzs hsz v n xs hown ad m c news hl hnews h1 h63 hbytes hbase
  refine ⟨v',w',hr,ho,hg,fun b hb => ?_⟩
  subst hsize
  subst hby
  have h63' : n + m ≤ 9223372036854775807:=by simp only [maxLen] at h63; omega
  rcases hown.2 with ⟨rfl,rfl⟩ | ⟨g,cap,cur,rfl,hbg,hgg,hnc,hcm,hcs,htake⟩
  · by_cases hm : m = 0
    · have:=hnil.2 ⟨rfl,hm⟩
      subst this
      simp [Value.ownBlock] at hb
    · have hr2:=run_append_nil (P:=P) w t ty e i z ht hi hz ad m c news hl hnews (by omega) (by omega) (by have hb:=hbytes; simp only [Nat.zero_add] at hb; omega)
      rw [hr] at hr2
      simp only [Result.ok.injEq] at hr2
      rw [hr2.1] at hb
      simp [Value.ownBlock] at hb
      exact .inr (by omega)
  · by_cases hroom : n + m ≤ cap
    · have hfit : n * i.size + news.length ≤ cur.size:=by rw [hl,hcs,← Nat.add_mul]; exact Nat.mul_le_mul_right _ hroom
      have hr2:=run_append_room (P:=P) w t ty e i ht hi g n cap cur hgg ad m c news hl hnews h1 hroom hfit
      rw [hr] at hr2
      simp only [Result.ok.injEq] at hr2
      rw [hr2.1] at hb
      exact .inl hb
    · have holds : ∀ j u,xs[j]? = some u → w.cell? ((⟨g,0,none⟩ : Addr).add j) = some u:=hown.cells (g:=g) rfl
      have hr2:=run_append_grow (P:=P) w t ty e i z ht hi hz ⟨g,0,none⟩ n cap xs hown.1 holds ad m c news hl hnews (by omega) (by omega) (growslice_fits (by omega) hbytes)
      rw [hr] at hr2
      simp only [Result.ok.injEq] at hr2
      rw [hr2.1] at hb
      simp [Value.ownBlock] at hb
      exact .inr (by omega)
theorem run_append_nothing {P : Program} (t ty e : TypeId) (i : TypeInfo) (ht : P.underlying t = some (.slice e)) (hi : P.info? e = some i) (o : Option Addr) (n cap : Nat) (hn : n ≤ cap) :
    (Builtin.append_ #[t,t] ty #[.slice o n cap,.slice none 0 0]).run P w = .ok (.slice o n cap) w:=by
  cases o <;> simp [Builtin.append_,run_underlying ht,sizeOf,typeInfo,hi,Builtin.lenOf,Builtin.firstCells,hn,storeCells]
end
end Go.RX
