/-
  The program's functions,contracts: what each one returns,whatever the world: part 2. No condition.
-/
import Derived.Test.YtchnganlpgfdjaaGreatDoorB00
set_option linter.all false
set_option linter.unusedVariables false
set_option linter.unusedSectionVars false
set_option linter.unusedSimpArgs false
set_option linter.unnecessarySimpa false
namespace Go.RX
open Go Go.RowKit
inductive Rep (I : Nat → Prop) (w : World) : Value → DV → Prop
  | int {k n} : Rep I w (.int k n) (.int k n)
  | bool {b} : Rep I w (.bool b) (.bool b)
  | str {s l} (h : s.data.toList = l) : Rep I w (.string s) (.str l)
  | sl0 {k g} : Rep I w (.slice none 0 0) (.sl k 0 g)
  | sl1 {a cap k g} (hc : cap ≤ maxLen) : Rep I w (.slice (some a) 0 cap) (.sl k 0 g)
  | sl {b o n cap k g} (us : Nat → Nat → Value) (hI : I b) (hn : n ≤ cap) (hc : cap ≤ maxLen)
      (hcell : ∀ i j,i < n → j < k → w.cell? ⟨b,o + (i * k + j),none⟩ = some (us i j))
      (hrep : ∀ i j,i < n → j < k → Rep I w (us i j) (g i j)) : Rep I w (.slice (some ⟨b,o,none⟩) n cap) (.sl k n g)
  | nils : Rep I w (.slice none 0 0) .nils
  | clo {f n c} {us : Array Value} (hl : us.size = n) (hrep : ∀ (j : Nat) (u : Value),us[j]? = some u → Rep I w u (c j)) : Rep I w (.func (.func f) #[] us) (.clo f n c)
  | ref {b o n c} (us : Nat → Value) (hI : I b) (hcell : ∀ j,j < n → w.cell? ⟨b,o + j,none⟩ = some (us j))
      (hrep : ∀ j,j < n → Rep I w (us j) (c j)) : Rep I w (.pointer (some ⟨b,o,none⟩)) (.ref n c)
  | ifc {t n c} {us : Array Value} (hl : us.size = n) (hrep : ∀ (j : Nat) (u : Value),us[j]? = some u → Rep I w u (c j)) : Rep I w (.iface t (.agg us)) (.ifc t n c)
  | if1 {t u x} (hrep : Rep I w u x) : Rep I w (.iface t u) (.if1 t x)
  | nilI : Rep I w .nilIface .nilI
  | bm {f n c} {us : Array Value} (hl : us.size = n) (h1 : ∀ u ∈ us,u.oneCell' = true) (hrep : ∀ (j : Nat) (u : Value),us[j]? = some u → Rep I w u (c j)) : Rep I w (.func (.func f) #[.agg us] #[]) (.bm f n c)
  | mp {r n k g} (es : Array MapEntry) (clk : Nat) (us : Nat → Nat → Value) (hI : I r) (hm : w.heap[r]? = some (.map es clk)) (hn : es.size = n)
      (hk : ∀ (i : Nat) (e : MapEntry),es[i]? = some e → e.key = .agg ((Array.range k).map (us i)) ∧ e.val = .agg #[]) (hrep : ∀ i j,i < n → j < k → Rep I w (us i j) (g i j)) : Rep I w (.map (some r)) (.mp n k g)
theorem Rep.one {I : Nat → Prop} {w : World} {v : Value} {x : DV} (h : Rep I w v x) : v.oneCell' = true:=by cases h <;> rfl
theorem cell_same {w w' : World} {b o : Nat} (h : w'.heap[b]? = w.heap[b]?) : w'.cell? ⟨b,o,none⟩ = w.cell? ⟨b,o,none⟩ :=
  World.cell?_of_block (a:=⟨b,o,none⟩) h
theorem Rep.mono {I I' : Nat → Prop} {w w' : World} (hI : ∀ b,I b → I' b) (hw : ∀ b,I b → w'.heap[b]? = w.heap[b]?) {v : Value} {x : DV} (h : Rep I w v x) : Rep I' w' v x:=by
  induction h with
  | int => exact .int
  | bool => exact .bool
  | str h => exact .str h
  | sl0 => exact .sl0
  | sl1 hc => exact .sl1 hc
  | sl us h1 hn hc hcell _ ih => exact .sl us (hI _ h1) hn hc (fun i j hi hj => by rw [cell_same (hw _ h1)]; exact hcell i j hi hj) ih
  | nils => exact .nils
  | clo hl _ ih => exact .clo hl ih
  | ref us h1 hcell _ ih => exact .ref us (hI _ h1) (fun j hj => by rw [cell_same (hw _ h1)]; exact hcell j hj) ih
  | ifc hl _ ih => exact .ifc hl ih
  | if1 _ ih => exact .if1 ih
  | nilI => exact .nilI
  | bm hl h1 _ ih => exact .bm hl h1 ih
  | mp es clk us h1 hm hn hk _ ih => exact .mp es clk us (hI _ h1) (by rw [hw _ h1]; exact hm) hn hk ih
inductive Mt (I : Nat → Prop) (β : Nat → Option Nat) (τ : Nat → Option Value) (Y : Nat → Option Bool) (w : World) : Value → SV → Prop
  | d {v x} (h : Rep I w v x) : Mt I β τ Y w v (.d x)
  | any {v} : Mt I β τ Y w v .any
  | p {b o blk} (h : β b = some blk) : Mt I β τ Y w (.pointer (some ⟨blk,o,none⟩)) (.p b o)
  | q {b o m c} (us : Nat → Value) (hI : I b) (hcell : ∀ j,j < m → w.cell? ⟨b,o + j,none⟩ = some (us j))
      (hrep : ∀ j,j < m → Rep I w (us j) (c j)) : Mt I β τ Y w (.pointer (some ⟨b,o,none⟩)) (.q m c)
  | tk {i v} (h : τ i = some v) (h1 : v.oneCell' = true) : Mt I β τ Y w v (.tk i)
  | pt {i x k o g n cap} (h : τ i = some (.slice (some ⟨g,0,none⟩) n cap)) : Mt I β τ Y w (.pointer (some ⟨g,x * k + o,none⟩)) (.pt i x k o)
  | agg {cs : Array Value} {xs : List SV} (hl : cs.size = xs.length) (h : ∀ (j : Nat) (u : Value) (x : SV),cs[j]? = some u → xs[j]? = some x → Mt I β τ Y w u x) (h1 : ∀ u ∈ cs,u.oneCell' = true) : Mt I β τ Y w (.agg cs) (.agg xs)
  | tup {cs : Array Value} {xs : List SV} (hl : cs.size = xs.length) (h : ∀ (j : Nat) (u : Value) (x : SV),cs[j]? = some u → xs[j]? = some x → Mt I β τ Y w u x) : Mt I β τ Y w (.tuple cs) (.tup xs)
inductive MtG (I : Nat → Prop) (β : Nat → Option Nat) (τ : Nat → Option Value) (Y : Nat → Option Bool) (w : World) : Value → SV → Prop
  | m {v x} (h : Mt I β τ Y w v x) : MtG I β τ Y w v x
  | gdT {j b x v} (h : Y j = some b) (hm : MtG I β τ Y w v x) : MtG I β τ Y w v (.gd j b x)
  | gdF {j b x} (h : Y j ≠ some b) : MtG I β τ Y w undef (.gd j b x)
theorem Mt.mono {I I' : Nat → Prop} {β β' : Nat → Option Nat} {τ τ' : Nat → Option Value} {Y : Nat → Option Bool} {w w' : World} (hI : ∀ b,I b → I' b) (hw : ∀ b,I b → w'.heap[b]? = w.heap[b]?)
    (hβ : ∀ k b,β k = some b → β' k = some b) (hτ : ∀ k v,τ k = some v → τ' k = some v) {v : Value} {x : SV} (h : Mt I β τ Y w v x) : Mt I' β' τ' Y w' v x:=by
  induction h with
  | d h => exact .d (h.mono hI hw)
  | any => exact .any
  | p h => exact .p (hβ _ _ h)
  | q us h1 hcell hrep => exact .q us (hI _ h1) (fun j hj => by rw [cell_same (hw _ h1)]; exact hcell j hj) (fun j hj => (hrep j hj).mono hI hw)
  | tk h h1 => exact .tk (hτ _ _ h) h1
  | pt h => exact .pt (hτ _ _ h)
  | agg hl _ h1 ih => exact .agg hl ih h1
  | tup hl _ ih => exact .tup hl ih
theorem Mt.anyY {I : Nat → Prop} {β : Nat → Option Nat} {τ : Nat → Option Value} {Y : Nat → Option Bool} {w : World} (Y' : Nat → Option Bool) {v : Value} {x : SV} (h : Mt I β τ Y w v x) : Mt I β τ Y' w v x:=by
  induction h with
  | d h => exact .d h
  | any => exact .any
  | p h => exact .p h
  | q us h1 hcell hrep => exact .q us h1 hcell hrep
  | tk h h1 => exact .tk h h1
  | pt h => exact .pt h
  | agg hl _ h1 ih => exact .agg hl ih h1
  | tup hl _ ih => exact .tup hl ih
theorem MtG.lift {I I' : Nat → Prop} {β β' : Nat → Option Nat} {τ τ' : Nat → Option Value} {Y : Nat → Option Bool} {w w' : World} (hm : ∀ {u x},Mt I β τ Y w u x → Mt I' β' τ' Y w' u x) {v : Value} {x : SV} (h : MtG I β τ Y w v x) : MtG I' β' τ' Y w' v x:=by
  induction h with
  | m h => exact .m (hm h)
  | gdT h _ ih => exact .gdT h ih
  | gdF h => exact .gdF h
theorem MtG.un {I : Nat → Prop} {β : Nat → Option Nat} {τ : Nat → Option Value} {Y : Nat → Option Bool} {w : World} {v : Value} {x : SV} (h : MtG I β τ Y w v x) (hx : ∀ j b y,x ≠ .gd j b y) : Mt I β τ Y w v x:=by
  cases h with
  | m h => exact h
  | gdT => exact absurd rfl (hx _ _ _)
  | gdF => exact absurd rfl (hx _ _ _)
def Cont (I : Nat → Prop) (β : Nat → Option Nat) (τ : Nat → Option Value) (Y : Nat → Option Bool) (w : World) (c : BC) (blk : Nat) : Prop :=
  match c.it with
  | none => ∃ cs T,w.heap[blk]? = some (.cells cs T (0,0)) ∧ cs.size = c.xs.length ∧
    (∀ (j : Nat) (u : Value) (x : SV),cs[j]? = some u → c.xs[j]? = some x → Mt I β τ Y w u x) ∧ (∀ u ∈ cs,u.oneCell' = true)
  | some (l,p) => ∃ s,w.heap[blk]? = some (.stringIter s p) ∧ s.data.toList = l
structure BoxOK (I : Nat → Prop) (β : Nat → Option Nat) (τ : Nat → Option Value) (Y : Nat → Option Bool) (n0 : Nat) (w : World) (k : Nat) (c : BC) : Prop where
  loc : ∃ blk,β k = some blk ∧ n0 ≤ blk ∧ (c.frz = true → I blk) ∧ (c.frz = false → ¬ I blk)
  con : ∀ blk,β k = some blk → Cont I β τ Y w c blk
theorem Cont.lt {I β τ Y w c blk} (h : Cont I β τ Y w c blk) : blk < w.heap.size:=by
  unfold Cont at h
  split at h
  · obtain ⟨cs,T,h,_⟩:=h; exact (Array.getElem?_eq_some_iff.1 h).1
  · obtain ⟨s,h,_⟩:=h; exact (Array.getElem?_eq_some_iff.1 h).1
theorem Cont.mono {I I' β β' τ τ' Y Y' w w' c blk} (h : Cont I β τ Y w c blk) (hw : w'.heap[blk]? = w.heap[blk]?) (hM : ∀ u x,Mt I β τ Y w u x → Mt I' β' τ' Y' w' u x) : Cont I' β' τ' Y' w' c blk:=by
  unfold Cont at h ⊢
  split
  · rename_i e
    rw [e] at h
    obtain ⟨cs,T,h1,h2,h3,h4⟩:=h
    exact ⟨cs,T,by rw [hw]; exact h1,h2,fun j u x hu hx => hM _ _ (h3 j u x hu hx),h4⟩
  · rename_i l p e
    rw [e] at h
    obtain ⟨s,h1,h2⟩:=h
    exact ⟨s,by rw [hw]; exact h1,h2⟩
theorem BoxOK.ex {I β τ Y n0 w k} {c : BC} (h : BoxOK I β τ Y n0 w k c) (hc : c.it.isNone = true) : ∃ blk cs T,β k = some blk ∧ n0 ≤ blk ∧ w.heap[blk]? = some (.cells cs T (0,0)) ∧ cs.size = c.xs.length ∧
    (∀ (j : Nat) (u : Value) (x : SV),cs[j]? = some u → c.xs[j]? = some x → Mt I β τ Y w u x) ∧ (∀ u ∈ cs,u.oneCell' = true) ∧ (c.frz = true → I blk) ∧ (c.frz = false → ¬ I blk):=by
  obtain ⟨blk,h1,h2,h3,h4⟩:=h.loc
  have hc' : c.it = none:=by simpa using hc
  have:=h.con blk h1
  unfold Cont at this
  rw [hc'] at this
  obtain ⟨cs,T,g1,g2,g3,g4⟩:=this
  exact ⟨blk,cs,T,h1,h2,g1,g2,g3,g4,h3,h4⟩
theorem BoxOK.mk' {I β τ Y n0 w k} {xs : List SV} {f : Bool} {blk : Nat} {cs : Array Value} {T : Nat} (h1 : β k = some blk) (h2 : n0 ≤ blk) (h3 : w.heap[blk]? = some (.cells cs T (0,0))) (h4 : cs.size = xs.length)
    (h5 : ∀ (j : Nat) (u : Value) (x : SV),cs[j]? = some u → xs[j]? = some x → Mt I β τ Y w u x) (h6 : ∀ u ∈ cs,u.oneCell' = true) (h7 : f = true → I blk) (h8 : f = false → ¬ I blk) : BoxOK I β τ Y n0 w k { frz:=f,xs:=xs } :=
  ⟨⟨blk,h1,h2,h7,h8⟩,fun blk' hb => by rw [h1] at hb; cases hb; exact ⟨cs,T,h3,h4,h5,h6⟩⟩
theorem BoxOK.mono {I I' β β' τ τ' Y Y' n0 w w' k} {c : BC} (h : BoxOK I β τ Y n0 w k c) (hβ : ∀ b,β k = some b → β' k = some b) (hw : ∀ b,b < w.heap.size → β k = some b → w'.heap[b]? = w.heap[b]?)
    (hM : ∀ u x,Mt I β τ Y w u x → Mt I' β' τ' Y' w' u x) (hI : ∀ b,b < w.heap.size → β k = some b → (I b → I' b) ∧ (¬ I b → ¬ I' b)) : BoxOK I' β' τ' Y' n0 w' k c:=by
  obtain ⟨blk,h1,h2,h3,h4⟩:=h.loc
  have hlt:=(h.con blk h1).lt
  refine ⟨⟨blk,hβ _ h1,h2,fun e => (hI _ hlt h1).1 (h3 e),fun e => (hI _ hlt h1).2 (h4 e)⟩,fun b hb => ?_⟩
  have e : b = blk:=by rw [hβ _ h1] at hb; cases hb; rfl
  subst e
  exact (h.con _ h1).mono (hw _ hlt h1) hM
def TokOK (I : Nat → Prop) (β : Nat → Option Nat) (τ : Nat → Option Value) (n0 : Nat) (w : World) (k : Nat) : TC → Prop
  | .own e kk n g => 0 < kk ∧ ∃ v xs,τ k = some v ∧ w.ownsRow n0 e kk v n xs ∧ (∀ u ∈ xs,u.oneCell' = true) ∧
      (∀ i j,i < n → j < kk → ∃ u,xs[i * kk + j]? = some u ∧ Rep I w u (g i j)) ∧
      (∀ blk,v.ownBlock = some blk → ¬ I blk ∧ ∀ b,β b ≠ some blk)
  | .frz kk n g => ∃ v,τ k = some v ∧ Rep I w v (.sl kk n g) ∧ ∀ a n cap,v = .slice (some a) n cap → a.off = 0 ∧ a.spot = none
  | .dead => True
  | .ownx e kk n g c jj => 0 < kk ∧ ∃ v xs,τ k = some v ∧ w.ownsRow n0 e kk v n xs ∧ (∀ u ∈ xs,u.oneCell' = true) ∧
      (∀ i j,i < n → j < kk → ∃ u,xs[i * kk + j]? = some u ∧ ((i + 1 = n ∧ j = c ∧ τ jj = some u) ∨ (¬ (i + 1 = n ∧ j = c) ∧ Rep I w u (g i j)))) ∧
      (∀ blk,v.ownBlock = some blk → ¬ I blk ∧ ∀ b,β b ≠ some blk)
def TC.mine : TC → Bool
  | .own _ _ _ _ => true
  | .ownx _ _ _ _ _ _ => true
  | _ => false
theorem TokOK.row {I β τ n0 w k} {c : TC} (h : TokOK I β τ n0 w k c) (hm : c.mine = true) : ∃ e kk n v xs,τ k = some v ∧ w.ownsRow n0 e kk v n xs ∧ (∀ blk,v.ownBlock = some blk → ¬ I blk ∧ ∀ b,β b ≠ some blk):=by
  cases c with
  | own e kk n g => obtain ⟨_,v,xs,h1,h2,_,_,h5⟩:=h; exact ⟨e,kk,n,v,xs,h1,h2,h5⟩
  | ownx e kk n g c j => obtain ⟨_,v,xs,h1,h2,_,_,h5⟩:=h; exact ⟨e,kk,n,v,xs,h1,h2,h5⟩
  | frz => cases hm
  | dead => cases hm
class Glob where
  G : World → Prop
  st : ∀ w w' : World,G w → Below w.heap.size w w' → G w'
variable [Glob]
structure InvX (I : Nat → Prop) (β : Nat → Option Nat) (τ : Nat → Option Value) (Y : Nat → Option Bool) (E : Nat → SV) (B : Nat → Option BC) (K : Nat → Option TC)
    (I0 : Nat → Prop) (N : Nat) (w0 : World) (a : Act) (w : World) : Prop where
  sz : a.tmps.size = N
  df : a.defers = []
  hI : ∀ b,I b → b < w.heap.size
  i0 : ∀ b,I b → I0 b ∨ w0.heap.size ≤ b
  env : ∀ t,MtG I β τ Y w (a.tmps.getD t undef) (E t)
  box : ∀ k c,B k = some c → BoxOK I β τ Y w0.heap.size w k c
  bn : ∀ k,B k = none → β k = none
  inj : ∀ k k' b,β k = some b → β k' = some b → k = k'
  tok : ∀ k c,K k = some c → TokOK I β τ w0.heap.size w k c
  kn : ∀ k,K k = none → τ k = none
  dis : ∀ k k' c c',K k = some c → K k' = some c' → c.mine = true → c'.mine = true → k ≠ k' → ∀ v v' b,τ k = some v → τ k' = some v' → v.ownBlock = some b → v'.ownBlock ≠ some b
  bel : Below w0.heap.size w0 w
  bs : Glob.G w0
def Inv (Y : Nat → Option Bool) (E : Nat → SV) (B : Nat → Option BC) (K : Nat → Option TC) (I0 : Nat → Prop) (N : Nat) (w0 : World) (a : Act) (w : World) : Prop :=
  ∃ I β τ,InvX I β τ Y E B K I0 N w0 a w
def upd {α : Type} (f : Nat → α) (k : Nat) (v : α) : Nat → α:=fun x => if x = k then v else f x
def updO {α : Type} (f : Nat → α) (k : Option Nat) (v : α) : Nat → α:=match k with | some d => upd f d v | none => f
theorem upd_same {α : Type} (f : Nat → α) (k : Nat) (v : α) : upd f k v k = v:=by simp [upd]
theorem upd_other {α : Type} (f : Nat → α) (k x : Nat) (v : α) (h : x ≠ k) : upd f k v x = f x:=by simp [upd,h]
theorem getD_put {a : Act} {d t : Nat} {v : Value} (hd : d < a.tmps.size) : (a.put (some d) v).tmps.getD t undef = if t = d then v else a.tmps.getD t undef:=by
  by_cases h : t = d
  · subst h; simp [Act.put,hd]
  · have h' : d ≠ t:=fun e => h e.symm
    simp [Act.put,h,Array.getElem?_setIfInBounds_ne h']
theorem env_put {I I' : Nat → Prop} {β β' : Nat → Option Nat} {τ τ' : Nat → Option Value} {Y : Nat → Option Bool} {E : Nat → SV} {w w' : World} {a : Act} {N : Nat} {dst : Option Nat} {v : Value} {V : SV} (hN : a.tmps.size = N) (hd : ∀ d,dst = some d → d < N)
    (henv : ∀ t,MtG I β τ Y w (a.tmps.getD t undef) (E t)) (hm : ∀ {u x},Mt I β τ Y w u x → Mt I' β' τ' Y w' u x) (hv : Mt I' β' τ' Y w' v V) :
    ∀ t,MtG I' β' τ' Y w' ((a.put dst v).tmps.getD t undef) (updO E dst V t):=by
  intro t
  cases dst with
  | none => exact (henv t).lift hm
  | some d =>
    rw [getD_put (by rw [hN]; exact hd d rfl)]
    simp only [updO,upd]
    by_cases h : t = d
    · simp only [h,if_true]; exact .m hv
    · simp only [h,if_false]; exact (henv t).lift hm
theorem size_put (a : Act) (dst : Option Nat) (v : Value) : (a.put dst v).tmps.size = a.tmps.size:=by cases dst <;> simp [Act.put]
theorem defers_put (a : Act) (dst : Option Nat) (v : Value) : (a.put dst v).defers = a.defers:=by cases dst <;> rfl
section
variable {I : Nat → Prop} {β : Nat → Option Nat} {τ : Nat → Option Value} {Y : Nat → Option Bool} {E : Nat → SV} {B : Nat → Option BC} {K : Nat → Option TC} {I0 : Nat → Prop} {N : Nat} {w0 w : World} {a : Act}
theorem BoxOK.lt {n0 k : Nat} {c : BC} (h : BoxOK I β τ Y n0 w k c) : ∀ b,β k = some b → b < w.heap.size:=by
  intro b hb
  exact (h.con b hb).lt
theorem InvX.βlt (h : InvX I β τ Y E B K I0 N w0 a w) : ∀ k b,β k = some b → b < w.heap.size ∧ w0.heap.size ≤ b:=by
  intro k b hb
  cases hk : B k with
  | none => rw [h.bn k hk] at hb; cases hb
  | some c =>
    obtain ⟨blk,h1,h2,_⟩:=(h.box k c hk).loc
    have hlt:=((h.box k c hk).con b hb).lt
    rw [h1] at hb
    cases hb
    exact ⟨hlt,h2⟩
theorem InvX.quiet (h : InvX I β τ Y E B K I0 N w0 a w) {w' : World} (hb : Below w.heap.size w w') {dst : Option Nat} (hd : ∀ d,dst = some d → d < N) {v : Value} {V : SV}
    (hv : Mt (fun b => I b ∨ (w.heap.size ≤ b ∧ b < w'.heap.size)) β τ Y w' v V) :
    InvX (fun b => I b ∨ (w.heap.size ≤ b ∧ b < w'.heap.size)) β τ Y (updO E dst V) B K I0 N w0 (a.put dst v) w':=by
  have hsame : ∀ b,b < w.heap.size → w'.heap[b]? = w.heap[b]?:=hb.block
  have hm : ∀ {u x},Mt I β τ Y w u x → Mt (fun b => I b ∨ (w.heap.size ≤ b ∧ b < w'.heap.size)) β τ Y w' u x:=fun hx =>
    hx.mono (fun b hb => .inl hb) (fun b hb => hsame b (h.hI b hb)) (fun _ _ h => h) (fun _ _ h => h)
  refine { bs:=h.bs,sz:=by rw [size_put]; exact h.sz,df:=by rw [defers_put]; exact h.df,hI:=?_,i0:=fun b hb => (by rcases hb with hb | hb; exact h.i0 b hb; have:=h.bel.size; exact .inr (by omega)),env:=env_put h.sz hd h.env hm hv,box:=?_,bn:=h.bn,inj:=h.inj,tok:=?_,kn:=h.kn,dis:=h.dis,bel:=h.bel.trans (hb.mono ?_) }
  · rintro b (hb' | hb')
    · exact Nat.lt_of_lt_of_le (h.hI b hb') hb.size
    · exact hb'.2
  · intro k c hk
    refine (h.box k c hk).mono (fun _ h => h) (fun b hlt _ => hsame b hlt) (fun u x hx => hm hx) (fun b hlt _ => ⟨fun h => .inl h,fun h hc => ?_⟩)
    rcases hc with hc | hc
    · exact h hc
    · omega
  · intro k c hk
    have ht:=h.tok k c hk
    cases c with
    | own e kk n g =>
      obtain ⟨hkk,v',xs,h1,h2,h3,h4,h5⟩:=ht
      refine ⟨hkk,v',xs,h1,?_,h3,?_,?_⟩
      · exact h2.kept (row:=none) ⟨hb.os,hb.tape,hb.output,hb.size,fun k hk _ => hsame k hk⟩ (by cases v'.ownBlock <;> simp)
      · intro i j hi hj
        obtain ⟨u,hu,hr⟩:=h4 i j hi hj
        exact ⟨u,hu,hr.mono (fun b hb => .inl hb) (fun b hb => hsame b (h.hI b hb))⟩
      · intro blk hblk
        obtain ⟨h5a,h5b⟩:=h5 blk hblk
        have hlt:=(h2.lt blk hblk).2
        exact ⟨fun hc => by rcases hc with hc | hc; exact h5a hc; omega,h5b⟩
    | ownx e kk n g cx jx =>
      obtain ⟨hkk,v',xs,h1,h2,h3,h4,h5⟩:=ht
      refine ⟨hkk,v',xs,h1,?_,h3,?_,?_⟩
      · exact h2.kept (row:=none) ⟨hb.os,hb.tape,hb.output,hb.size,fun k hk _ => hsame k hk⟩ (by cases v'.ownBlock <;> simp)
      · intro i j hi hj
        obtain ⟨u,hu,hr⟩:=h4 i j hi hj
        exact ⟨u,hu,hr.imp (fun q => q) (fun q => ⟨q.1,q.2.mono (fun b hb => .inl hb) (fun b hb => hsame b (h.hI b hb))⟩)⟩
      · intro blk hblk
        obtain ⟨h5a,h5b⟩:=h5 blk hblk
        have hlt:=(h2.lt blk hblk).2
        exact ⟨fun hc => by rcases hc with hc | hc; exact h5a hc; omega,h5b⟩
    | frz kk n g =>
      obtain ⟨v',h1,h2,h3⟩:=ht
      exact ⟨v',h1,h2.mono (fun b hb => .inl hb) (fun b hb => hsame b (h.hI b hb)),h3⟩
    | dead => trivial
  · have:=h.bel.size; omega
theorem InvX.newObj (h : InvX I β τ Y E B K I0 N w0 a w) {k : Nat} (hk : B k = none) {ob : Obj} {c : BC} (hf : c.frz = false)
    (hc : Cont I (upd β k (some w.heap.size)) τ Y (w.alloc ob) c w.heap.size) {dst : Option Nat} (hd : ∀ d,dst = some d → d < N) :
    InvX I (upd β k (some w.heap.size)) τ Y (updO E dst (.p k 0)) (upd B k (some c)) K I0 N w0 (a.put dst (.pointer (some ⟨w.heap.size,0,none⟩))) (w.alloc ob):=by
  have hsame : ∀ b,b < w.heap.size → (w.alloc ob).heap[b]? = w.heap[b]?:=fun b hb => heap_alloc_old w _ b hb
  have hβ : ∀ k' b,β k' = some b → upd β k (some w.heap.size) k' = some b:=fun k' b hb => by
    by_cases e : k' = k
    · subst e; rw [h.bn k' hk] at hb; cases hb
    · rw [upd_other _ _ _ _ e]; exact hb
  have hM : ∀ {u x},Mt I β τ Y w u x → Mt I (upd β k (some w.heap.size)) τ Y (w.alloc ob) u x:=fun hx =>
    hx.mono (fun b hb => hb) (fun b hb => hsame b (h.hI b hb)) hβ (fun _ _ h => h)
  have hbel : Below w0.heap.size w (w.alloc ob):=(Below.refl _ w).alloc h.bel.size _
  refine { bs:=h.bs,sz:=by rw [size_put]; exact h.sz,df:=by rw [defers_put]; exact h.df,hI:=fun b hb => by have:=h.hI b hb; simp; omega,i0:=h.i0,env:=env_put h.sz hd h.env hM (.p (upd_same _ _ _)),box:=?_,bn:=?_,inj:=?_,tok:=?_,kn:=h.kn,dis:=h.dis,bel:=h.bel.trans hbel }
  · intro k' c' hk'
    by_cases e : k' = k
    · subst e
      rw [upd_same] at hk'
      cases hk'
      exact ⟨⟨w.heap.size,upd_same _ _ _,h.bel.size,⟨(fun e => by rw [hf] at e; cases e),(fun _ hc => by have:=h.hI _ hc; omega)⟩⟩,fun b hb => by rw [upd_same] at hb; cases hb; exact hc⟩
    · rw [upd_other _ _ _ _ e] at hk'
      exact (h.box k' c' hk').mono (fun b hb => hβ _ _ hb) (fun b hlt _ => hsame b hlt) (fun u x hx => hM hx) (fun b _ _ => ⟨fun h => h,fun h => h⟩)
  · intro k' hk'
    by_cases e : k' = k
    · subst e; rw [upd_same] at hk'; cases hk'
    · rw [upd_other _ _ _ _ e] at hk' ⊢; exact h.bn k' hk'
  · intro k1 k2 b hb1 hb2
    by_cases e1 : k1 = k <;> by_cases e2 : k2 = k
    · rw [e1,e2]
    · subst e1; rw [upd_same] at hb1; cases hb1; rw [upd_other _ _ _ _ e2] at hb2; have:=(h.βlt _ _ hb2).1; omega
    · subst e2; rw [upd_same] at hb2; cases hb2; rw [upd_other _ _ _ _ e1] at hb1; have:=(h.βlt _ _ hb1).1; omega
    · rw [upd_other _ _ _ _ e1] at hb1; rw [upd_other _ _ _ _ e2] at hb2; exact h.inj _ _ _ hb1 hb2
  · intro k' c hk'
    have ht:=h.tok k' c hk'
    cases c with
    | own e kk n g =>
      obtain ⟨hkk,v',xs',t1,t2,t3,t4,t5⟩:=ht
      refine ⟨hkk,v',xs',t1,t2.alloc _,t3,fun i j hi hj => ?_,fun blk hblk => ?_⟩
      · obtain ⟨u,hu,hr⟩:=t4 i j hi hj
        exact ⟨u,hu,hr.mono (fun b hb => hb) (fun b hb => hsame b (h.hI b hb))⟩
      · obtain ⟨t5a,t5b⟩:=t5 blk hblk
        refine ⟨t5a,fun b hb => ?_⟩
        by_cases e : b = k
        · subst e; rw [upd_same] at hb; cases hb; have:=(t2.lt _ hblk).2; omega
        · rw [upd_other _ _ _ _ e] at hb; exact t5b b hb
    | ownx e kk n g cx jx =>
      obtain ⟨hkk,v',xs',t1,t2,t3,t4,t5⟩:=ht
      refine ⟨hkk,v',xs',t1,t2.alloc _,t3,fun i j hi hj => ?_,fun blk hblk => ?_⟩
      · obtain ⟨u,hu,hr⟩:=t4 i j hi hj
        exact ⟨u,hu,hr.imp (fun q => q) (fun q => ⟨q.1,q.2.mono (fun b hb => hb) (fun b hb => hsame b (h.hI b hb))⟩)⟩
      · obtain ⟨t5a,t5b⟩:=t5 blk hblk
        refine ⟨t5a,fun b hb => ?_⟩
        by_cases e : b = k
        · subst e; rw [upd_same] at hb; cases hb; have:=(t2.lt _ hblk).2; omega
        · rw [upd_other _ _ _ _ e] at hb; exact t5b b hb
    | frz kk n g =>
      obtain ⟨v',t1,t2,t3⟩:=ht
      exact ⟨v',t1,t2.mono (fun b hb => hb) (fun b hb => hsame b (h.hI b hb)),t3⟩
    | dead => trivial
theorem InvX.newBox (h : InvX I β τ Y E B K I0 N w0 a w) {k : Nat} (hk : B k = none) {cs : Array Value} {T : Nat} {xs : List SV} (hl : cs.size = xs.length)
    (hm : ∀ (j : Nat) (u : Value) (x : SV),cs[j]? = some u → xs[j]? = some x → Mt I β τ Y w u x) (h1 : ∀ u ∈ cs,u.oneCell' = true) {dst : Option Nat} (hd : ∀ d,dst = some d → d < N) :
    InvX I (upd β k (some w.heap.size)) τ Y (updO E dst (.p k 0)) (upd B k (some { frz:=false,xs:=xs })) K I0 N w0 (a.put dst (.pointer (some ⟨w.heap.size,0,none⟩))) (w.alloc (.cells cs T)):=by
  have hsame : ∀ b,b < w.heap.size → (w.alloc (.cells cs T)).heap[b]? = w.heap[b]?:=fun b hb => heap_alloc_old w _ b hb
  have hβ : ∀ k' b,β k' = some b → upd β k (some w.heap.size) k' = some b:=fun k' b hb => by
    by_cases e : k' = k
    · subst e; rw [h.bn k' hk] at hb; cases hb
    · rw [upd_other _ _ _ _ e]; exact hb
  exact h.newObj (c:={ frz:=false,xs:=xs }) hk rfl ⟨cs,T,heap_alloc_new w _,hl,fun j u x hu hx => (hm j u x hu hx).mono (fun b hb => hb) (fun b hb => hsame b (h.hI b hb)) hβ (fun _ _ h => h),h1⟩ hd
theorem InvX.turn (h : InvX I β τ Y E B K I0 N w0 a w) {k : Nat} {c c' : BC} (hk : B k = some c) (hf : c.frz = false) (hf' : c'.frz = false) {blk : Nat} (hβ : β k = some blk) {w' : World}
    (hgr : w.grownBy w' (some blk)) (hsz : w'.heap.size = w.heap.size) (hc : (∀ {u x},Mt I β τ Y w u x → Mt I β τ Y w' u x) → Cont I β τ Y w' c' blk) {dst : Option Nat} (hd : ∀ d,dst = some d → d < N) {v : Value} {V : SV} (hv : Mt I β τ Y w' v V) :
    InvX I β τ Y (updO E dst V) (upd B k (some c')) K I0 N w0 (a.put dst v) w':=by
  have hsame : ∀ b,b < w.heap.size → b ≠ blk → w'.heap[b]? = w.heap[b]?:=fun b hlt hb => hgr.block b hlt (fun e => hb (by cases e; rfl))
  obtain ⟨blk',g1,g2,g3,g8⟩:=(h.box k c hk).loc
  rw [hβ] at g1; cases g1
  have hnI : ¬ I blk:=g8 hf
  have hM : ∀ {u x},Mt I β τ Y w u x → Mt I β τ Y w' u x:=fun hx =>
    hx.mono (fun b hb => hb) (fun b hb => hsame b (h.hI b hb) (fun e => hnI (e ▸ hb))) (fun _ _ h => h) (fun _ _ h => h)
  refine { bs:=h.bs,sz:=by rw [size_put]; exact h.sz,df:=by rw [defers_put]; exact h.df,hI:=fun b hb => by have:=h.hI b hb; omega,i0:=h.i0,env:=env_put h.sz hd h.env hM hv,box:=?_,bn:=?_,inj:=h.inj,tok:=?_,kn:=h.kn,dis:=h.dis,bel:=h.bel.grown hgr h.bel.size (fun j e => by cases e; exact g2) }
  · intro k' c' hk'
    by_cases e : k' = k
    · subst e
      rw [upd_same] at hk'; cases hk'
      exact ⟨⟨blk,hβ,g2,⟨(fun e => by rw [hf'] at e; cases e),fun _ => hnI⟩⟩,fun b hb => by rw [hβ] at hb; cases hb; exact hc hM⟩
    · rw [upd_other _ _ _ _ e] at hk'
      refine (h.box k' c' hk').mono (fun b hb => hb) (fun b hlt hb => hsame b hlt (fun e' => e (h.inj _ _ _ hb (e' ▸ hβ)))) (fun u x hx => hM hx) (fun b _ _ => ⟨fun h => h,fun h => h⟩)
  · intro k' hk'
    by_cases e : k' = k
    · subst e; rw [upd_same] at hk'; cases hk'
    · rw [upd_other _ _ _ _ e] at hk'; exact h.bn k' hk'
  · intro k' c' hk'
    have ht:=h.tok k' c' hk'
    cases c' with
    | own e kk n g =>
      obtain ⟨hkk,v',xs',t1,t2,t3,t4,t5⟩:=ht
      refine ⟨hkk,v',xs',t1,t2.kept hgr ?_,t3,fun i j hi hj => ?_,t5⟩
      · cases hv : v'.ownBlock with
        | none => exact .inl rfl
        | some b => exact .inr (fun e => (t5 b hv).2 k (by cases e; exact hβ))
      · obtain ⟨u,hu,hr⟩:=t4 i j hi hj
        exact ⟨u,hu,hr.mono (fun b hb => hb) (fun b hb => hsame b (h.hI b hb) (fun e => hnI (e ▸ hb)))⟩
    | ownx e kk n g cx jx =>
      obtain ⟨hkk,v',xs',t1,t2,t3,t4,t5⟩:=ht
      refine ⟨hkk,v',xs',t1,t2.kept hgr ?_,t3,fun i j hi hj => ?_,t5⟩
      · cases hv : v'.ownBlock with
        | none => exact .inl rfl
        | some b => exact .inr (fun e => (t5 b hv).2 k (by cases e; exact hβ))
      · obtain ⟨u,hu,hr⟩:=t4 i j hi hj
        exact ⟨u,hu,hr.imp (fun q => q) (fun q => ⟨q.1,q.2.mono (fun b hb => hb) (fun b hb => hsame b (h.hI b hb) (fun e => hnI (e ▸ hb)))⟩)⟩
    | frz kk n g =>
      obtain ⟨v',t1,t2,t3⟩:=ht
      exact ⟨v',t1,t2.mono (fun b hb => hb) (fun b hb => hsame b (h.hI b hb) (fun e => hnI (e ▸ hb))),t3⟩
    | dead => trivial
theorem InvX.setBox (h : InvX I β τ Y E B K I0 N w0 a w) {k : Nat} {c : BC} (hk : B k = some c) (hf : c.frz = false) {blk T : Nat} {cs cs' : Array Value} (hβ : β k = some blk) (hcs : w.heap[blk]? = some (.cells cs T (0,0))) {xs : List SV} (hl : cs'.size = xs.length)
    (hm : ∀ (j : Nat) (u : Value) (x : SV),cs'[j]? = some u → xs[j]? = some x → Mt I β τ Y w u x) (h1 : ∀ u ∈ cs',u.oneCell' = true) {dst : Option Nat} (hd : ∀ d,dst = some d → d < N) {v : Value} :
    InvX I β τ Y (updO E dst .any) (upd B k (some { frz:=false,xs:=xs })) K I0 N w0 (a.put dst v) (w.setRow blk cs') :=
  h.turn (w':=w.setRow blk cs') (c':={ frz:=false,xs:=xs }) hk hf rfl hβ ⟨rfl,rfl,rfl,by simp,fun j _ hj => setRow_other w blk j cs' (fun e => hj (by rw [e]))⟩ (by simp)
    (fun hM => ⟨cs',T,setRow_heap w blk cs cs' T (0,0) hcs,hl,fun j u x hu hx => hM (hm j u x hu hx),h1⟩) hd .any
end
end Go.RX
