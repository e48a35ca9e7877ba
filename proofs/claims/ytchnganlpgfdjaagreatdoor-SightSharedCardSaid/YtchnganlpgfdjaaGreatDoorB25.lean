/-
  The program's functions,contracts: what each one returns,whatever the world: part 26. No condition.
-/
import Derived.Test.YtchnganlpgfdjaaGreatDoorB00
import Derived.Test.YtchnganlpgfdjaaGreatDoorB01
import Derived.Test.YtchnganlpgfdjaaGreatDoorB02
import Derived.Test.YtchnganlpgfdjaaGreatDoorB03
import Derived.Test.YtchnganlpgfdjaaGreatDoorB04
import Derived.Test.YtchnganlpgfdjaaGreatDoorB05
import Derived.Test.YtchnganlpgfdjaaGreatDoorB06
import Derived.Test.YtchnganlpgfdjaaGreatDoorB07
import Derived.Test.YtchnganlpgfdjaaGreatDoorB08
import Derived.Test.YtchnganlpgfdjaaGreatDoorB09
import Derived.Test.YtchnganlpgfdjaaGreatDoorB10
import Derived.Test.YtchnganlpgfdjaaGreatDoorB11
import Derived.Test.YtchnganlpgfdjaaGreatDoorB12
import Derived.Test.YtchnganlpgfdjaaGreatDoorB13
import Derived.Test.YtchnganlpgfdjaaGreatDoorB14
import Derived.Test.YtchnganlpgfdjaaGreatDoorB15
import Derived.Test.YtchnganlpgfdjaaGreatDoorB16
import Derived.Test.YtchnganlpgfdjaaGreatDoorB17
import Derived.Test.YtchnganlpgfdjaaGreatDoorB18
import Derived.Test.YtchnganlpgfdjaaGreatDoorB19
import Derived.Test.YtchnganlpgfdjaaGreatDoorB20
import Derived.Test.YtchnganlpgfdjaaGreatDoorB21
import Derived.Test.YtchnganlpgfdjaaGreatDoorB22
import Derived.Test.YtchnganlpgfdjaaGreatDoorB23
import Derived.Test.YtchnganlpgfdjaaGreatDoorB24
set_option linter.all false
set_option linter.unusedVariables false
set_option linter.unusedSectionVars false
set_option linter.unusedSimpArgs false
set_option linter.unnecessarySimpa false
namespace Go.Proofs.Sight
open Go Go.RX Go.Proofs Go.RowKit
attribute [local go_sem] Oper.semAt_some
set_option maxRecDepth 100000
abbrev zero8 : Array Value:=#[.int .i64 0,.int .i64 0,.int .i64 0,.int .i64 0,.int .i64 0,.int .i64 0,.slice none 0 0,.slice none 0 0]
theorem hold_alloc (w : World) (o : Obj) (i : Nat) (h : i < w.heap.size) : (w.alloc o).heap[i]? = w.heap[i]?:=by
  show (w.heap.push o)[i]? = _
  rw [Array.getElem?_push,if_neg (by omega)]
def readW (w : World) (t : List UInt8) : World:=((w.alloc (.cells #[.string ⟨t.toArray⟩] 9)).alloc (.cells zero8 27)).alloc (.cells zero8 27)
theorem readW_size (w : World) (t : List UInt8) : (readW w t).heap.size = w.heap.size + 1 + 1 + 1:=al_sz _ (al_sz _ (al_sz _ rfl))
theorem att_read (t : List UInt8) (s : Street) (hp : Ctr Tryz.prog 70 [.d (.str t)] s.sv) (w : World) (hG : Tabs w) :
    Calls Tryz.prog 61 #[.func (.func 69) #[] #[.pointer (some ⟨w.heap.size,0,none⟩),.pointer (some ⟨w.heap.size + 1 + 1,0,none⟩)]] (readW w t) fun e w' => e = .returned (.tuple #[.agg #[.int .i64 0,.int .i64 0],.int .i64 0]) ∧ BelowX (w.heap.size + 1 + 1) (readW w t) w' ∧ StreetAt (w.heap.size + 1 + 1) ((readW w t).heap.size + 1 + 1) s w':=by
  have hz:=readW_size w t
  have k0 : (readW w t).heap[w.heap.size]? = some (.cells #[.string ⟨t.toArray⟩] 9):=al_old _ (al_old _ (al_new _ rfl))
  have k2 : (readW w t).heap[w.heap.size + 1 + 1]? = some (.cells zero8 27):=al_new _ (al_sz _ (al_sz _ rfl))
  have hBW : Below w.heap.size w (readW w t):=(((Below.refl _ w).alloc (Nat.le_refl _) _).alloc (by simp) _).alloc (by simp; omega) _
  refine att_ok 69 (w.heap.size + 1 + 1) _ (readW w t) (by omega) ⟨Tryz.f69,Tryz.func69,rfl,rfl⟩ (StreetAt (w.heap.size + 1 + 1) ((readW w t).heap.size + 1 + 1) s) ?_ (fun W2 hB2 hz2 => ?_)
  · rintro W W' ⟨a,b,c,d,e,f,p1,l1,c1,p2,l2,c2,h1,N,hN,hF⟩ hsame hsz
    refine ⟨a,b,c,d,e,f,p1,l1,c1,p2,l2,c2,by rw [hsame _ (by omega) (by omega)]; exact h1,N,fun k hk => ⟨(hN k hk).1,by rw [hsz]; exact (hN k hk).2⟩,hF.mono (fun _ h => h) (fun k hk => hsame k ?_ ?_)⟩
    · have:=(hN k hk).1; omega
    · have:=(hN k hk).1; omega
  · have:=cls_ok t s hp w.heap.size (w.heap.size + 1 + 1) W2 (Tabs.st _ _ (Tabs.st _ _ hG hBW) hB2) ((hB2.block _ (by omega)).trans k0) ((hB2.block _ (by omega)).trans k2)
    rw [hz2] at this
    exact this
theorem below_of_X {Q : Nat} {w W w1 : World} (h : Below w.heap.size w W) (hX : BelowX Q W w1) (hQ : w.heap.size ≤ Q) : Below w.heap.size w w1 :=
  ⟨hX.os.trans h.os,hX.tape.trans h.tape,hX.output.trans h.output,Nat.le_trans h.size hX.size,fun k hk => (hX.block k (Nat.lt_of_lt_of_le hk h.size) (by omega)).trans (h.block k hk)⟩
set_option maxHeartbeats 1000000 in
theorem c64_ok (t : List UInt8) (s : Street) (hp : Ctr Tryz.prog 70 [.d (.str t)] s.sv) (ht : t.length ≤ 450) (hs : isStreet s = true) : Ctr Tryz.prog 34 [.d (.str t)] (.tup [s.sv,iS 0]):=by
  refine ⟨⟨Tryz.f34,Tryz.func34,rfl,rfl⟩,fun I w vs hG hI hsz hrep => ?_⟩
  obtain ⟨v0,rfl⟩ : ∃ v0,vs = #[v0]:=by
    obtain ⟨l⟩:=vs
    match l,hsz with
    | [a],_ => exact ⟨a,rfl⟩
  obtain rfl:=str_val (hrep 0 v0 _ rfl rfl)
  have hl : ¬ (450 : Int) < (t.length : Int):=by omega
  have hfit:=(isStreet_ok.1 hs).fit
  have hatt:=att_read t s hp w hG
  have k1 : (readW w t).heap[w.heap.size + 1]? = some (.cells zero8 27):=al_old _ (al_new _ (al_sz _ rfl))
  have hz:=readW_size w t
  have hBW : Below w.heap.size w (readW w t):=(((Below.refl _ w).alloc (Nat.le_refl _) _).alloc (by simp) _).alloc (by simp; omega) _
  have hmf : ∀ (fn : Fn) (first cap : Array Value) (w : World),(Instr.makeFunc fn first cap).run Tryz.prog w = .ok (.func fn first cap) w:=fun _ _ _ _ => rfl
  go_enter Tryz.func34,Tryz.ntmps34
  go_wp2_with (first | (go_at_call 61; refine hatt.mono ?_; rintro e w1 ⟨rfl,hX,a,b,c,d,e,f,p1,l1,c1,p2,l2,c2,h1,N,hN,hF⟩; have hR1:=(hX.block _ (by omega) (by omega)).trans k1; have q:=cellAt (al_old (.cells #[.int .i64 0,.int .i64 0] 58) h1); have q0:=q 0; have q1:=q 1; have q2:=q 2; have q3:=q 3; have q4:=q 4; have q5:=q 5; have q6:=q 6; have q7:=q 7; clear q; simp only [List.getElem?_toArray,List.getElem?_cons_zero,List.getElem?_cons_succ] at q0 q1 q2 q3 q4 q5 q6 q7) | (go_at_call 64; have hBw1:=below_of_X hBW hX (by omega); have hF2:=hF.mono (I':=N) (w':=w1.alloc (.cells #[.int .i64 0,.int .i64 0] 58)) (fun _ h => h) (fun k hk => hold_alloc _ _ _ (hN k hk).2); refine ((c102 s hfit).2 N (w1.alloc (.cells #[.int .i64 0,.int .i64 0] 58)) _ (Tabs.st _ _ hG (hBw1.alloc (by have:=hBw1.size; omega) _)) (fun k hk => by have:=(hN k hk).2; simp; omega) rfl (fun j u y hu hy => by cases j with | zero => simp at hu hy; subst hu; subst hy; exact Fits.reps hF2 | succ j => simp at hy)).mono ?_; rintro e w2 ⟨v,rfl,hv,hB2⟩; obtain rfl : v = .bool true:=(by have:=RepS.rep hv; rw [hs] at this; cases this; rfl); have hz1:=hX.size; have hQ2:=(hB2.block (w.heap.size + 1 + 1) (by simp; omega)).trans (al_old _ h1); have hR2:=(hB2.block (w.heap.size + 1) (by simp; omega)).trans (al_old _ hR1); have u:=cellAt hQ2; have u0:=u 0; have u1:=u 1; have u2:=u 2; have u3:=u 3; have u4:=u 4; have u5:=u 5; have u6:=u 6; have u7:=u 7; clear u; have r:=cellAt hR2; have r0:=r 0; have r1:=r 1; have r2:=r 2; have r3:=r 3; have r4:=r 4; have r5:=r 5; have r6:=r 6; have r7:=r 7; clear r; simp only [zero8,List.getElem?_toArray,List.getElem?_cons_zero,List.getElem?_cons_succ] at u0 u1 u2 u3 u4 u5 u6 u7 r0 r1 r2 r3 r4 r5 r6 r7; have fz : ∀ o,w2.frozen? ⟨w.heap.size + 1,o,none⟩ = false:=fun o => by simp [World.frozen?,hR2]))
  obtain ⟨W',hW'⟩ : ∃ W',put8 w2 (w.heap.size + 1) (.int .i64 a) (.int .i64 b) (.int .i64 c) (.int .i64 d) (.int .i64 e) (.int .i64 f) (.slice p1 l1 c1) (.slice p2 l2 c2) = W':=⟨_,rfl⟩
  have hput:=put8_at hR2 (.int .i64 a) (.int .i64 b) (.int .i64 c) (.int .i64 d) (.int .i64 e) (.int .i64 f) (.slice p1 l1 c1) (.slice p2 l2 c2)
  rw [hW'] at hput
  unfold put8 at hW'
  rw [hW']
  obtain ⟨s7,ho,hz',o1,o2,o3⟩:=hput
  have y:=cellAt s7
  have y0:=y 0
  have y1:=y 1
  have y2:=y 2
  have y3:=y 3
  have y4:=y 4
  have y5:=y 5
  have y6:=y 6
  have y7:=y 7
  clear y
  simp only [List.getElem?_toArray,List.getElem?_cons_zero,List.getElem?_cons_succ] at y0 y1 y2 y3 y4 y5 y6 y7
  have hB12 : Below w.heap.size w w2:=(hBw1.alloc (by have:=hBw1.size; omega) _).trans (hB2.mono (by simp; have:=hBw1.size; omega))
  have hBf : Below w.heap.size w W':=⟨o1.trans hB12.os,o2.trans hB12.tape,o3.trans hB12.output,by rw [hz']; exact hB12.size,fun k hk => (ho k (by omega)).trans (hB12.block k hk)⟩
  refine bodyPost_ret (by simp [results,Tryz.results34,go_sem,y0,y1,y2,y3,y4,y5,y6,y7]; rfl) rfl ?_
  refine ⟨_,rfl,?_,hBf⟩
  have hFW : Fits (fun b => I b ∨ w.heap.size ≤ b ∧ b < W'.heap.size) W' [.int .i64 a,.int .i64 b,.int .i64 c,.int .i64 d,.int .i64 e,.int .i64 f,.slice p1 l1 c1,.slice p2 l2 c2] (streetDs s) :=
    hF.mono (fun k hk => by
      have h1:=(hN k hk).1
      have h2:=(hN k hk).2
      have h3:=hB2.size
      simp only [World.size_alloc] at h3
      exact .inr ⟨by omega,by rw [hz']; omega⟩) (fun k hk => by
      have h1:=(hN k hk).1
      have h2:=(hN k hk).2
      rw [ho k (by omega),hB2.block k (by simp; omega)]
      exact hold_alloc _ _ _ h2)
  intro Y
  refine .tup rfl (fun j u x hu hx => ?_)
  match j,hu,hx with
  | 0,hu,hx => simp at hu hx; subst hu; subst hx; exact Fits.reps hFW Y
  | 1,hu,hx => simp at hu hx; subst hu; subst hx; exact .d .int
  | j + 2,hu,hx => simp at hu
theorem c64_ex : Ctr Tryz.prog 34 [.d (.str exText)] (.tup [exX.sv,iS 0]):=c64_ok exText exX c106_ex (by decide) (by decide +kernel)
end Go.Proofs.Sight
