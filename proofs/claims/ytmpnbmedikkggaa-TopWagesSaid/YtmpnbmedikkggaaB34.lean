/-
  Contracts, part 35. No condition.
-/
import Derived.Test.YtmpnbmedikkggaaB33
set_option linter.all false
namespace Go.Proofs.Leaf
open Go Go.RX Go.Proofs Go.RowKit
set_option maxRecDepth 10000
section
theorem long_calls (B:Bk) (plan:List Int) (hB:B.ok) (hp:plan.length = B.ss.length) (m:Nat) (I:Nat->Prop) (w:World) (v:Value) (hI:∀ b,I b->b < w.heap.size) (hmI:¬ I m) (hm:∃ clk,w.heap[m]? = some (.map #[] clk)) (hv:RepS I w v (wkS B plan m)) :
  Calls Try.prog 64 #[v] w (fun e w' => e = .returned (.int .i64 (longB B plan))/\w'.os = w.os/\w'.tape = w.tape/\w'.output = w.output/\w.heap.size<=w'.heap.size/\∀ k,k < w.heap.size->k ≠ m->w'.heap[k]? = w.heap[k]?):=by
 obtain ⟨clk,hm⟩:=hm
 letI GM:Glob:=memoE (endF B plan) m
 have hmM:MemoE (endF B plan) w m:=⟨#[],clk,hm,fun e he => by simp at he⟩
 have h:=@c_long GM B plan m (isMemoE_memo _ _) hB hp
 refine (h.2 I w #[v] hmM hI (fun b hb e => by cases e;exact hmI hb) rfl (fun j u s hu hs => ?_)).mono (fun e w' hq => ?_)
 ·rcases j with _ | j
  ·cases hu;cases hs;exact hv
  ·simp at hs
 ·obtain ⟨u,rfl,hr,hk⟩:=hq
  refine ⟨?_,hk.os,hk.tape,hk.output,hk.size,fun k hk1 hk2 => hk.block k hk1 (fun e => hk2 (by cases e;rfl))⟩
  rw [rep_int (mt_d (hr (fun _ => none)))]
structure Rnd8 (B:Bk) (p:List Int) (b N:Nat) (W0:World) (I2:Nat->Prop) (v v1 vp vb:Value) (D:Nat->Bool) (a:Act) (w:World):Prop where
 sz:a.tmps.size = N
 df:a.defers = []
 t1:a.tmps.getD 1 undef = v1
 t3:a.tmps.getD 3 undef = outP b
 t4:a.tmps.getD 4 undef = vp
 kp:Keep W0.heap.size W0 w
 e5:D 5 = true->D 4 = true
 e6:D 6 = true->D 5 = true
 e7:D 7 = true->D 6 = true
 i0:D 0 = true->a.tmps.getD 8 undef = v
 i1:D 1 = true->a.tmps.getD 9 undef = vp
 i2:D 2 = true->a.tmps.getD 10 undef = vb
 i3:D 3 = true->a.tmps.getD 11 undef = vp
 c4:D 4 = false->w = W0
 c5:D 4 = true->D 5 = false->∃ m I3,W0.heap.size<=m/\(∀ c,I3 c->c < w.heap.size)/\¬ I3 m/\(∃ clk,w.heap[m]? = some (.map #[] clk))/\RepS I3 w (a.tmps.getD 12 undef) (wkS B p m)
 c6:D 5 = true->a.tmps.getD 13 undef = .int .i64 (longB B p)
 c7:D 6 = true->a.tmps.getD 14 undef = .agg #[vp,.int .i64 (longB B p)]
 c8:D 7 = true->∃ b9,a.tmps.getD 15 undef = .slice (some ⟨b9,0,none⟩) 1 1/\w.cell? ⟨b9,0,none⟩ = some vp/\w.cell? ⟨b9,1,none⟩ = some (.int .i64 (longB B p))
theorem run_one91 (p0:Option Addr) (n c:Nat) (x:Int) (w:World):(Instr.buildSlice 88 1 #[(0,.agg #[.slice p0 n c,.int .i64 x])]).run Try.prog w = .ok (.slice (some ⟨w.heap.size,0,none⟩) 1 1) (w.alloc (.cells #[.slice p0 n c,.int .i64 x] 91)):=by
 obtain ⟨ie,hie,hz,hs⟩:∃ ie,Try.prog.info? 91 = some ie/\ie.zero = some (.agg #[.slice none 0 0,.int .i64 0])/\ie.size = 2:=⟨_,rfl,by kernel_rfl,by kernel_rfl⟩
 exact run_buildSlice w _ _ 1 _ _ ie _ Try.underlying88 hie hz (by rw [hs];decide) (by rw [hs];decide) (by rw [hs];kernel_rfl)
theorem run_tm (p0:Option Addr) (n c:Nat) (x:Int) (w:World):(Instr.build 91 #[(0,.slice p0 n c),(1,.int .i64 x)]).run Try.prog w = .ok (.agg #[.slice p0 n c,.int .i64 x]) w :=
 run_build (P:=Try.prog) w 91 _ _ (by kernel_rfl)
theorem rnd8_0 {B:Bk} {p:List Int} {b N:Nat} {W0:World} {I2:Nat->Prop} {v v1 vp vb:Value} {D:Nat->Bool} {a:Act} {w:World} (h:Rnd8 B p b N W0 I2 v v1 vp vb D a w) (hN:16 < N) (hD:D 0 = false):Rnd8 B p b N W0 I2 v v1 vp vb (fun j => D j || decide (j = 0)) (a.put (some 8) v) w where
 sz:=put_sz.trans h.sz
 df:=h.df
 t1:=(put_ne (by decide)).trans h.t1
 t3:=(put_ne (by decide)).trans h.t3
 t4:=(put_ne (by decide)).trans h.t4
 kp:=h.kp
 e5:=fun q => by have:=h.e5 (by simpa using q);simp [this]
 e6:=fun q => by have:=h.e6 (by simpa using q);simp [this]
 e7:=fun q => by have:=h.e7 (by simpa using q);simp [this]
 i0:=fun _ => put_eq (by rw [h.sz];omega)
 i1:=fun q => (put_ne (by decide)).trans (h.i1 (by simpa using q))
 i2:=fun q => (put_ne (by decide)).trans (h.i2 (by simpa using q))
 i3:=fun q => (put_ne (by decide)).trans (h.i3 (by simpa using q))
 c4:=fun q => h.c4 (by simpa using q)
 c5:=fun q r => by rw [put_ne (by decide)];exact h.c5 (by simpa using q) (by simpa using r)
 c6:=fun q => (put_ne (by decide)).trans (h.c6 (by simpa using q))
 c7:=fun q => (put_ne (by decide)).trans (h.c7 (by simpa using q))
 c8:=fun q => by rw [put_ne (by decide)];exact h.c8 (by simpa using q)
theorem rnd8_1 {B:Bk} {p:List Int} {b N:Nat} {W0:World} {I2:Nat->Prop} {v v1 vp vb:Value} {D:Nat->Bool} {a:Act} {w:World} (h:Rnd8 B p b N W0 I2 v v1 vp vb D a w) (hN:16 < N) (hD:D 1 = false):Rnd8 B p b N W0 I2 v v1 vp vb (fun j => D j || decide (j = 1)) (a.put (some 9) vp) w where
 sz:=put_sz.trans h.sz
 df:=h.df
 t1:=(put_ne (by decide)).trans h.t1
 t3:=(put_ne (by decide)).trans h.t3
 t4:=(put_ne (by decide)).trans h.t4
 kp:=h.kp
 e5:=fun q => by have:=h.e5 (by simpa using q);simp [this]
 e6:=fun q => by have:=h.e6 (by simpa using q);simp [this]
 e7:=fun q => by have:=h.e7 (by simpa using q);simp [this]
 i0:=fun q => (put_ne (by decide)).trans (h.i0 (by simpa using q))
 i1:=fun _ => put_eq (by rw [h.sz];omega)
 i2:=fun q => (put_ne (by decide)).trans (h.i2 (by simpa using q))
 i3:=fun q => (put_ne (by decide)).trans (h.i3 (by simpa using q))
 c4:=fun q => h.c4 (by simpa using q)
 c5:=fun q r => by rw [put_ne (by decide)];exact h.c5 (by simpa using q) (by simpa using r)
 c6:=fun q => (put_ne (by decide)).trans (h.c6 (by simpa using q))
 c7:=fun q => (put_ne (by decide)).trans (h.c7 (by simpa using q))
 c8:=fun q => by rw [put_ne (by decide)];exact h.c8 (by simpa using q)
theorem rnd8_2 {B:Bk} {p:List Int} {b N:Nat} {W0:World} {I2:Nat->Prop} {v v1 vp vb:Value} {D:Nat->Bool} {a:Act} {w:World} (h:Rnd8 B p b N W0 I2 v v1 vp vb D a w) (hN:16 < N) (hD:D 2 = false):Rnd8 B p b N W0 I2 v v1 vp vb (fun j => D j || decide (j = 2)) (a.put (some 10) vb) w where
 sz:=put_sz.trans h.sz
 df:=h.df
 t1:=(put_ne (by decide)).trans h.t1
 t3:=(put_ne (by decide)).trans h.t3
 t4:=(put_ne (by decide)).trans h.t4
 kp:=h.kp
 e5:=fun q => by have:=h.e5 (by simpa using q);simp [this]
 e6:=fun q => by have:=h.e6 (by simpa using q);simp [this]
 e7:=fun q => by have:=h.e7 (by simpa using q);simp [this]
 i0:=fun q => (put_ne (by decide)).trans (h.i0 (by simpa using q))
 i1:=fun q => (put_ne (by decide)).trans (h.i1 (by simpa using q))
 i2:=fun _ => put_eq (by rw [h.sz];omega)
 i3:=fun q => (put_ne (by decide)).trans (h.i3 (by simpa using q))
 c4:=fun q => h.c4 (by simpa using q)
 c5:=fun q r => by rw [put_ne (by decide)];exact h.c5 (by simpa using q) (by simpa using r)
 c6:=fun q => (put_ne (by decide)).trans (h.c6 (by simpa using q))
 c7:=fun q => (put_ne (by decide)).trans (h.c7 (by simpa using q))
 c8:=fun q => by rw [put_ne (by decide)];exact h.c8 (by simpa using q)
theorem rnd8_3 {B:Bk} {p:List Int} {b N:Nat} {W0:World} {I2:Nat->Prop} {v v1 vp vb:Value} {D:Nat->Bool} {a:Act} {w:World} (h:Rnd8 B p b N W0 I2 v v1 vp vb D a w) (hN:16 < N) (hD:D 3 = false):Rnd8 B p b N W0 I2 v v1 vp vb (fun j => D j || decide (j = 3)) (a.put (some 11) vp) w where
 sz:=put_sz.trans h.sz
 df:=h.df
 t1:=(put_ne (by decide)).trans h.t1
 t3:=(put_ne (by decide)).trans h.t3
 t4:=(put_ne (by decide)).trans h.t4
 kp:=h.kp
 e5:=fun q => by have:=h.e5 (by simpa using q);simp [this]
 e6:=fun q => by have:=h.e6 (by simpa using q);simp [this]
 e7:=fun q => by have:=h.e7 (by simpa using q);simp [this]
 i0:=fun q => (put_ne (by decide)).trans (h.i0 (by simpa using q))
 i1:=fun q => (put_ne (by decide)).trans (h.i1 (by simpa using q))
 i2:=fun q => (put_ne (by decide)).trans (h.i2 (by simpa using q))
 i3:=fun _ => put_eq (by rw [h.sz];omega)
 c4:=fun q => h.c4 (by simpa using q)
 c5:=fun q r => by rw [put_ne (by decide)];exact h.c5 (by simpa using q) (by simpa using r)
 c6:=fun q => (put_ne (by decide)).trans (h.c6 (by simpa using q))
 c7:=fun q => (put_ne (by decide)).trans (h.c7 (by simpa using q))
 c8:=fun q => by rw [put_ne (by decide)];exact h.c8 (by simpa using q)
theorem rnd8_4 {B:Bk} {p:List Int} {b N:Nat} {W0:World} {I2:Nat->Prop} {v v1 vp vb:Value} {D:Nat->Bool} {a:Act} {w w':World} {u:Value} (h:Rnd8 B p b N W0 I2 v v1 vp vb D a w) (hN:16 < N) (hD:D 4 = false) {m:Nat} {I3:Nat->Prop} (hk:Keep W0.heap.size W0 w') (hm:W0.heap.size<=m/\(∀ c,I3 c->c < w'.heap.size)/\¬ I3 m/\(∃ clk,w'.heap[m]? = some (.map #[] clk))/\RepS I3 w' u (wkS B p m)):Rnd8 B p b N W0 I2 v v1 vp vb (fun j => D j || decide (j = 4)) (a.put (some 12) u) w' where
 sz:=put_sz.trans h.sz
 df:=h.df
 t1:=(put_ne (by decide)).trans h.t1
 t3:=(put_ne (by decide)).trans h.t3
 t4:=(put_ne (by decide)).trans h.t4
 kp:=hk
 e5:=fun q => by have:=h.e5 (by simpa using q);simp [this]
 e6:=fun q => by have:=h.e6 (by simpa using q);simp [this]
 e7:=fun q => by have:=h.e7 (by simpa using q);simp [this]
 i0:=fun q => (put_ne (by decide)).trans (h.i0 (by simpa using q))
 i1:=fun q => (put_ne (by decide)).trans (h.i1 (by simpa using q))
 i2:=fun q => (put_ne (by decide)).trans (h.i2 (by simpa using q))
 i3:=fun q => (put_ne (by decide)).trans (h.i3 (by simpa using q))
 c4:=fun q => by simp at q
 c5:=fun q r => ⟨m,I3,by rw [put_eq (by rw [h.sz];omega)];exact hm⟩
 c6:=fun q => (put_ne (by decide)).trans (h.c6 (by simpa using q))
 c7:=fun q => (put_ne (by decide)).trans (h.c7 (by simpa using q))
 c8:=fun q => by (have q:D 7 = true:=by simpa using q);rw [h.e5 (h.e6 (h.e7 q))] at hD;cases hD
theorem rnd8_5 {B:Bk} {p:List Int} {b N:Nat} {W0:World} {I2:Nat->Prop} {v v1 vp vb:Value} {D:Nat->Bool} {a:Act} {w w':World} (h:Rnd8 B p b N W0 I2 v v1 vp vb D a w) (hN:16 < N) (hD:D 5 = false) (h4:D 4 = true) (hk:Keep W0.heap.size W0 w'):Rnd8 B p b N W0 I2 v v1 vp vb (fun j => D j || decide (j = 5)) (a.put (some 13) (.int .i64 (longB B p))) w' where
 sz:=put_sz.trans h.sz
 df:=h.df
 t1:=(put_ne (by decide)).trans h.t1
 t3:=(put_ne (by decide)).trans h.t3
 t4:=(put_ne (by decide)).trans h.t4
 kp:=hk
 e5:=fun _ => by simp [h4]
 e6:=fun q => by simp
 e7:=fun q => by have:=h.e7 (by simpa using q);simp [this]
 i0:=fun q => (put_ne (by decide)).trans (h.i0 (by simpa using q))
 i1:=fun q => (put_ne (by decide)).trans (h.i1 (by simpa using q))
 i2:=fun q => (put_ne (by decide)).trans (h.i2 (by simpa using q))
 i3:=fun q => (put_ne (by decide)).trans (h.i3 (by simpa using q))
 c4:=fun q => by simp [h4] at q
 c5:=fun q r => by simp at r
 c6:=fun _ => put_eq (by rw [h.sz];omega)
 c7:=fun q => (put_ne (by decide)).trans (h.c7 (by simpa using q))
 c8:=fun q => by (have q:D 7 = true:=by simpa using q);rw [h.e6 (h.e7 q)] at hD;cases hD
theorem rnd8_6 {B:Bk} {p:List Int} {b N:Nat} {W0:World} {I2:Nat->Prop} {v v1 vp vb:Value} {D:Nat->Bool} {a:Act} {w:World} (h:Rnd8 B p b N W0 I2 v v1 vp vb D a w) (hN:16 < N) (hD:D 6 = false) (h5:D 5 = true):Rnd8 B p b N W0 I2 v v1 vp vb (fun j => D j || decide (j = 6)) (a.put (some 14) (.agg #[vp,.int .i64 (longB B p)])) w where
 sz:=put_sz.trans h.sz
 df:=h.df
 t1:=(put_ne (by decide)).trans h.t1
 t3:=(put_ne (by decide)).trans h.t3
 t4:=(put_ne (by decide)).trans h.t4
 kp:=h.kp
 e5:=fun q => by have:=h.e5 (by simpa using q);simp [this]
 e6:=fun _ => by simp [h5]
 e7:=fun q => by simp
 i0:=fun q => (put_ne (by decide)).trans (h.i0 (by simpa using q))
 i1:=fun q => (put_ne (by decide)).trans (h.i1 (by simpa using q))
 i2:=fun q => (put_ne (by decide)).trans (h.i2 (by simpa using q))
 i3:=fun q => (put_ne (by decide)).trans (h.i3 (by simpa using q))
 c4:=fun q => h.c4 (by simpa using q)
 c5:=fun q r => by rw [put_ne (by decide)];exact h.c5 (by simpa using q) (by simpa using r)
 c6:=fun q => (put_ne (by decide)).trans (h.c6 (by simpa using q))
 c7:=fun _ => put_eq (by rw [h.sz];omega)
 c8:=fun q => by rw [put_ne (by decide)];exact h.c8 (by simpa using q)
theorem rnd8_7 {B:Bk} {p:List Int} {b N:Nat} {W0:World} {I2:Nat->Prop} {v v1 vp vb:Value} {D:Nat->Bool} {a:Act} {w w':World} (h:Rnd8 B p b N W0 I2 v v1 vp vb D a w) (hN:16 < N) (hD:D 7 = false) (h6:D 6 = true) {b9:Nat} (hk:Keep W0.heap.size W0 w') (q1:w'.cell? ⟨b9,0,none⟩ = some vp) (q2:w'.cell? ⟨b9,1,none⟩ = some (.int .i64 (longB B p))):Rnd8 B p b N W0 I2 v v1 vp vb (fun j => D j || decide (j = 7)) (a.put (some 15) (.slice (some ⟨b9,0,none⟩) 1 1)) w' where
 sz:=put_sz.trans h.sz
 df:=h.df
 t1:=(put_ne (by decide)).trans h.t1
 t3:=(put_ne (by decide)).trans h.t3
 t4:=(put_ne (by decide)).trans h.t4
 kp:=hk
 e5:=fun q => by have:=h.e5 (by simpa using q);simp [this]
 e6:=fun q => by have:=h.e6 (by simpa using q);simp [this]
 e7:=fun _ => by simp [h6]
 i0:=fun q => (put_ne (by decide)).trans (h.i0 (by simpa using q))
 i1:=fun q => (put_ne (by decide)).trans (h.i1 (by simpa using q))
 i2:=fun q => (put_ne (by decide)).trans (h.i2 (by simpa using q))
 i3:=fun q => (put_ne (by decide)).trans (h.i3 (by simpa using q))
 c4:=fun q => by
  have h4:=h.e5 (h.e6 h6)
  simp [h4] at q
 c5:=fun q r => by
  have h5:=h.e6 h6
  simp [h5] at r
 c6:=fun q => (put_ne (by decide)).trans (h.c6 (by simpa using q))
 c7:=fun q => (put_ne (by decide)).trans (h.c7 (by simpa using q))
 c8:=fun _ => ⟨b9,put_eq (by rw [h.sz];omega),q1,q2⟩
end
end Go.Proofs.Leaf
namespace Go.Proofs.Leaf
open Go Go.RX Go.Proofs Go.RowKit
set_option maxRecDepth 10000
section
def timsB (B:Bk):List (List Int×Nat):=(plansB B.ap B.ss []).map (fun p => (p,(longB B p).toNat))
theorem longB_nn (B:Bk) (p:List Int):0<=longB B p:=foldl_max_ge
def bbsH (n b T:Nat) (L:List (List Int×Nat)) (i:Nat) (I V:Nat->Prop) (W:World):Prop :=
 ∃ v,Cl n b #[v] T I W/\Hold n 91 2 i (fun j => tmD (L.getD j default)) v I V W
def bbsJ (B:Bk) (w0:World) (I0:Nat->Prop) (n b T:Nat) (v1:Value) (L:List (List Int×Nat)):Jt:=fun i I V W =>
 Par w0 I0 n I V W/\bbsH n b T L i I V W/\RepS I W v1 (.d B.ref)
def bbsA (B:Bk) (w0:World) (I0:Nat->Prop) (n b T:Nat) (v1:Value) (L:List (List Int×Nat)) (i:Nat) (a:Act) (I V:Nat->Prop) (W:World):Prop :=
 bbsJ B w0 I0 n b T v1 L i I V W/\a.tmps.size = Try.f32.ntmps/\a.defers = []/\a.tmps.getD 3 undef = outP b/\a.tmps.getD 1 undef = v1/\RepS I W (a.tmps.getD 4 undef) (ilS ((L.getD i default).1))
theorem plans_len (ap:Int):∀ (ss:List Stk) (now p:List Int),p∈plansB ap ss now->p.length = now.length + ss.length
 | [],now,p,h => by
  rw [plansB,List.mem_singleton] at h
  subst h;rfl
 | s :: r,now,p,h => by
  rw [plansB,List.mem_flatMap] at h
  obtain ⟨x,_,hx⟩:=h
  have:=plans_len ap r _ p hx
  rw [this,List.length_append];simp;omega
theorem plans_few (ap:Int) (h0:0<=ap) (h3:ap<=3):∀ (ss:List Stk) (now:List Int),(plansB ap ss now).length<=4 ^ ss.length
 | [],now => by simp [plansB]
 | s :: r,now => by
  rw [plansB,List.length_flatMap]
  have h1:∀ l:List Int,(l.map (fun h => (plansB ap r (now ++ [h])).length)).sum<=l.length * 4 ^ r.length:=by
   intro l
   induction l with
   | nil => simp
   | cons x l ih =>
    have:=plans_few ap h0 h3 r (now ++ [x])
    rw [List.map_cons,List.sum_cons,List.length_cons,Nat.add_mul]
    omega
  refine Nat.le_trans (h1 _) ?_
  have h2:((List.range (if s.rd then 1 else (ap + 1).toNat)).map (fun (i:Nat) => (i:Int))).length<=4:=by
   rw [List.length_map,List.length_range];split<;>omega
  rw [List.length_cons,Nat.pow_succ,Nat.mul_comm (4 ^ r.length)]
  exact Nat.mul_le_mul_right _ h2
theorem c_bbests (B:Bk) (hB:B.ok):Ctr Try.prog 32 [B.sv] (.d (slD 2 tmD (bstT (timsB B)))):=by
 have hs6:=hB.s6
 obtain ⟨L,hL⟩:∃ L,timsB B = L:=⟨_,rfl⟩
 have hit:=it_bplans1 B hB
 have hmap:(plansB B.ap B.ss []).map ilS = L.map (fun x => ilS x.1):=by
  rw [← hL,timsB,List.map_map];rfl
 rw [hmap] at hit
 have hlong:∀ x∈L,x.1.length = B.ss.length/\(x.2:Int) = longB B x.1:=by
  intro x hx
  rw [← hL] at hx
  obtain ⟨p,hp,rfl⟩:=List.mem_map.1 hx
  refine ⟨by have:=plans_len B.ap B.ss [] p hp;simpa using this,?_⟩
  have:=longB_nn B p
  dsimp only;omega
 have hlen:L.length<=100000:=by
  rw [← hL,timsB,List.length_map]
  refine Nat.le_trans (plans_few B.ap hB.a0 hB.a3 B.ss []) ?_
  exact Nat.le_trans (Nat.pow_le_pow_right (by decide) hs6) (by decide)
 have hbb:=c_bbest L hlen
 rw [hL]
 refine Ctr.marks (fn:=Try.f32) rfl rfl rfl rfl rfl rfl (fun I w a _ hI _ hst => ?_)
 dsimp only [args] at hst
 letI:Bas:=⟨I,w⟩
 refine Ok.first hst ?_
 (first|refine qE ?_|refine qD ?_);(simp only [go_sem,↓dP,↓reduceIte];with_reducible and_intros;all_goals first|apply qA|exact qC|skip)
 intro a w1 hst
 show Code.wpIn _ _ _ _ _ _ _
 refine Ok.first hst ?_
 (first|refine qE ?_|refine qD ?_);(simp only [go_sem,↓dP,↓reduceIte];with_reducible and_intros;all_goals first|apply qA|exact qC|skip)
 intro a w1 hst
 show Code.wpIn _ _ _ _ _ _ _
 refine wpIn_seq ?_
 refine Ok.first hst ?_
 (first|refine qE ?_|refine qD ?_);(simp only [go_sem,↓dP,↓reduceIte];with_reducible and_intros;all_goals first|apply qA|exact qC|skip)
 (refine AskI.ret (c_bplans B) ?_;simp only [go_sem,↓dP,↓reduceIte];with_reducible and_intros;all_goals first|apply qA|exact qC|skip)
 intro a w1 hst
 show Code.wpIn _ _ _ _ _ _ _
 have hst:=hst.sealt 1 0 rfl rfl rfl
 obtain ⟨I1,bl,i1,i2,i3,_,hkeep,hdf,hsz,hdat,_,hptr,hbox⟩:=hst.parked rfl hI
 obtain ⟨n5,l5,o5,cs5,T5,hc5,s5,o51,hrp⟩:=hbox 1 _ rfl rfl rfl
 obtain ⟨u5,rfl⟩:∃ u5,cs5 = #[u5]:=Array.size_eq_one_iff.1 s5
 have hp3:a.tmps.getD 3 undef = outP (bl 1):=hptr 3 1 0 rfl
 have hu5:u5 = .slice none 0 0:=by
  have:=mt_d (hrp 0 u5 .nils rfl rfl (fun _ => none))
  cases this;rfl
 subst hu5
 have hdf:a.defers = []:=hdf
 generalize bl 1 = b at *
 have h7:=mt_d (hdat 6 _ rfl (fun _ => none))
 obtain ⟨us,hg,hus,hrus⟩:∃ us:Array Value,a.tmps.getD 6 undef = .func (.func 81) #[] us/\us.size = 1/\∀ i u,us[i]? = some u->Rep I1 w1 u (dget [B.ref] i):=by
  generalize a.tmps.getD 6 undef = v at h7
  cases h7 with
  | clo h1 h2 => exact ⟨_,rfl,h1,fun i u hu => h2 i u hu⟩
 have h3:RepS I1 w1 (a.tmps.getD 1 undef) (.d B.ref):=hdat 1 _ rfl
 obtain ⟨v1,hv1⟩:∃ v1,a.tmps.getD 1 undef = v1:=⟨_,rfl⟩
 rw [hv1] at h3
 have hpar:Par w I w1.heap.size I1 (fun _ => False) w1:=⟨hkeep.size,hkeep,fun b hb => (i2 b hb).imp (fun q => q) (fun q => q.1),fun b hb => hb.elim,Nat.le_refl _,i3,fun _ _ h => h,fun _ h => h.elim⟩
 refine wpIn_block ?_
 refine wp_rangeIt (I0:=I1) hg hdf hit trivial i3 (fun b _ e => by cases e) hus ?reps (bbsJ B w I w1.heap.size b T5 v1 L) (fun _ _ _ _ => False)
  (bbsA B w I w1.heap.size b T5 v1 L)
  ?st1 ?st2 ?pu1 ?pu2 ?pu3 ⟨hpar,⟨_,⟨l5,o5,hc5⟩,Hold.nil _ _ _ _ _ _ _⟩,h3⟩ ?assign ?body ?done ?stop
 case st1 => rintro i I I' V V' W W' ⟨h1,⟨v,h2,h4⟩,h3⟩ he;exact ⟨h1.ext he,⟨v,h2.ext h1 he,h4.ext he h1.lt h1.dis⟩,h3.ext he h1.lt h1.dis⟩
 case st2 => rintro i I I' V V' W W' h;exact h.elim
 case pu1 => rintro i I V W k o o' hk ⟨h1,⟨v,h2,h4⟩,h3⟩ hko ho hik;exact ⟨h1.put hk,⟨v,h2.put hko ho,h4.put hko ho hik⟩,h3.putO hik⟩
 case pu2 => rintro i I V W k o o' hk h;exact h.elim
 case pu3 => rintro i a' I V W k o o' hk ⟨⟨h1,⟨v,h2,h4⟩,h3⟩,q1,q2,q3,q4,q5⟩ hko ho hik;exact ⟨⟨h1.put hk,⟨v,h2.put hko ho,h4.put hko ho hik⟩,h3.putO hik⟩,q1,q2,q3,q4,q5.putO hik⟩
 case reps =>
  intro j u s hu hs
  rcases j with _ | j
  ·cases hs;exact fun Y => .d (hrus 0 u hu)
  ·simp at hs
 case assign =>
  rintro l i I2 V W v hi ⟨hP,⟨v5,hB5,hH⟩,h3⟩ _ _ _ _ hv
  have hi':i < L.length:=by simpa using hi
  have hx:(L.map (fun x => ilS x.1)).getD i .any = ilS ((L.getD i default).1):=by
   rw [List.getD_eq_getElem?_getD,List.getElem?_map,List.getElem?_eq_getElem hi',getD_lt hi'];rfl
  rw [hx] at hv
  letI:Rnd:=⟨some l⟩
  letI:Bas:=⟨I2,W⟩
  have hs0:St { env:=[(1,.d (.raw v1)),(3,.d (.raw (outP b))),(7,ilS ((L.getD i default).1))],bx:=[],tk:=[] } I2 a.tmps.size W { tmps:=a.tmps.setIfInBounds 7 v,defers:=[] } W:=by
   refine St.data (β:=fun _ => none) (τ:=fun _ => none) (Y:=fun _ => none) (by simp) rfl hP.lt (fun b _ e => by cases e) trivial (dat_cons (repS_raw ?_ (mt_d (h3 (fun _ => none))).one) (dat_cons (repS_raw ?_ rfl) (dat_cons ?_ dat_nil)))
   ·show (a.tmps.setIfInBounds 7 v).getD 1 undef = _
    rw [tmp_ne (by decide),hv1]
   ·show (a.tmps.setIfInBounds 7 v).getD 3 undef = _
    rw [tmp_ne (by decide),hp3]
   ·show RepS I2 W ((a.tmps.setIfInBounds 7 v).getD 7 undef) _
    rw [tmp_eq (by rw [hsz];decide)]
    exact hv
  refine Ok.enter (N:=a.tmps.size) hs0 ?_
  rw [hsz]
  (first|refine qE ?_|refine qD ?_);(simp only [go_sem,↓dP,↓reduceIte];with_reducible and_intros;all_goals first|apply qA|exact qC|skip)
  intro a2 W2 hst2
  obtain ⟨I3,hst3,j1,j2,_,_,hk3,_,hd3⟩:=hst2.rebase rfl rfl rfl hP.lt
  have hr:=hst3.reps rfl rfl rfl
  obtain ⟨hY,hP3⟩:=hP.yq hk3 j1 j2
  have j3:∀ b,I3 b->I2 b∨W.heap.size<=b:=fun b hb => (j2 b hb).imp (fun q => q) (fun q => q.1)
  refine ⟨I3,hY,⟨hP3,⟨v5,hB5.keep hP hk3 j3,hH.keep hk3 hP.lt j1 j3⟩,h3.kept ⟨hk3.size,j1,fun b hb => hk3.block b (hP.lt b hb) (fun e => by cases e)⟩⟩,?_,hd3,?_,?_,hr 4⟩
  ·obtain ⟨_,_,_,hx⟩:=hst3 (fun _ => none);rw [hx.sz]
  ·exact hst3.raw (t:=3) rfl
  ·exact hst3.raw (t:=1) rfl
 case body =>
  rintro l i I2 V W a2 hi ⟨⟨hP,⟨v,hB5,hH⟩,h3⟩,q1,q2,q3,q4,q5⟩ _ _ _ _
  have hi':i < L.length:=by simpa using hi
  letI:Rnd:=⟨some l⟩
  obtain ⟨x,hx⟩:∃ x,L.getD i default = x:=⟨_,rfl⟩
  rw [hx] at q5
  have hxl:=hlong x (by rw [← hx];exact getD_mem hi')
  show Code.wpIn fen 0 Try.prog _ _ _ _
  refine wpIn_block ?_
  obtain ⟨W0,hW0⟩:∃ W0,W0 = { W with drawn:=W.drawn + 1 }:=⟨_,rfl⟩
  have hk0:Keep W.heap.size W W0:=by rw [hW0];exact ⟨rfl,rfl,rfl,Nat.le_refl _,fun _ _ _ => rfl,fun h => h⟩
  obtain ⟨hY0,hP0⟩:=hP.yq hk0 (I':=I2) (fun _ h => h) (fun _ h => .inl h)
  have hB0:=hB5.same hP.sz hk0
  have hH0:=hH.keep hk0 hP.lt (fun _ h => h) (fun _ h => .inl h)
  have h30:=h3.same hP.lt hk0
  have q50:=q5.same hP.lt hk0
  obtain ⟨vp,hvp⟩:∃ vp,a2.tmps.getD 4 undef = vp:=⟨_,rfl⟩
  rw [hvp] at q50
  obtain ⟨p0,cp,rfl⟩:=slice_of (mt_d (q50 (fun _ => none)))
  obtain ⟨b1,o1,us1,e1,hI1,hc1,hr1⟩:∃ (b1 o1:Nat) (us:Nat->Value),v1 = .pointer (some ⟨b1,o1,none⟩)/\I2 b1/\(∀ j,j < 3->W0.cell? ⟨b1,o1 + j,none⟩ = some (us j))/\∀ j,j < 3->Rep I2 W0 (us j) (dget B.cells j):=by
   have hm:=mt_d (h30 (fun _ => none))
   generalize v1 = u at hm
   cases hm with
   | ref us q1 q2 q3 => exact ⟨_,_,us,rfl,q1,q2,q3⟩
  have hvb:RepS I2 W0 (.agg #[us1 0,us1 1,us1 2]) B.sv:=fun Y => .agg rfl (fun j u s hu hs => by
   rcases j with _ | _ | _ | j
   ·cases hu;cases hs;exact .d (hr1 0 (by decide))
   ·cases hu;cases hs;exact .d (hr1 1 (by decide))
   ·cases hu;cases hs;exact .d (hr1 2 (by decide))
   ·simp at hu) (fun u hu => by
   simp at hu
   rcases hu with rfl | rfl | rfl
   ·exact (hr1 0 (by decide)).one
   ·exact (hr1 1 (by decide)).one
   ·exact (hr1 2 (by decide)).one)
  have hN:16 < Try.f32.ntmps:=by decide
  refine region_inv 8 rfl (by decide) rfl (Rnd8 B x.1 b Try.f32.ntmps W0 I2 v v1 (.slice p0 x.1.length cp) (.agg #[us1 0,us1 1,us1 2])) ?hV ?hQ ?h0
  case h0 =>
   rw [← hW0]
   exact ⟨q1,q2,q4,q3,hvp,⟨rfl,rfl,rfl,Nat.le_refl _,fun _ _ _ => rfl,fun h => h⟩,(fun q => by cases q),(fun q => by cases q),(fun q => by cases q),(fun q => by cases q),(fun q => by cases q),(fun q => by cases q),(fun q => by cases q),fun _ => rfl,(fun q => by cases q),(fun q => by cases q),(fun q => by cases q),(fun q => by cases q)⟩
  case hV =>
   intro D j o hj hD ho hr a3 W3 hv
   rcases j with _ | _ | _ | _ | _ | _ | _ | _ | j
   ·cases ho
    exact op_val (v:=v) (w':=W3) rfl (fun c e => by cases e) (run_loadCl rfl hv.t3 Tryz_ldT_88 (hB0.same hP0.sz hv.kp)) (rnd8_0 hv hN hD)
   ·cases ho
    exact op_val (w':=W3) rfl (fun c e => by cases e) (run_move (.inl rfl) hv.t4) (rnd8_1 hv hN hD)
   ·cases ho
    refine op_val (v:=.agg #[us1 0,us1 1,us1 2]) (w':=W3) rfl (fun c e => by cases e) (run_load_op rfl (hv.t1.trans e1) (run_load_row (ag:=true) (n:=3) Tryz_ldT_35 (us:=[us1 0,us1 1,us1 2]) rfl (fun k u hk => ?_))) (rnd8_2 hv hN hD)
    have hc3:∀ k,k < 3->W3.cell? ⟨b1,o1 + k,none⟩ = some (us1 k):=fun k hk => by
     rw [← hc1 k hk]
     unfold World.cell?
     rw [hv.kp.block b1 (hP0.lt b1 hI1) (fun e => by cases e)]
    rcases k with _ | _ | _ | k
    ·cases hk;exact hc3 0 (by decide)
    ·cases hk;exact hc3 1 (by decide)
    ·cases hk;exact hc3 2 (by decide)
    ·simp at hk
   ·cases ho
    exact op_val (w':=W3) rfl (fun c e => by cases e) (run_move (.inl rfl) hv.t4) (rnd8_3 hv hN hD)
   ·cases ho
    have d2:D 2 = true:=hr { on:=2,ground:=.data } (by simp) rfl
    have d3:D 3 = true:=hr { on:=3,ground:=.data } (by simp) rfl
    obtain rfl:=hv.c4 hD
    refine op_callFn (fn:=Try.f35) (vs:=#[.agg #[us1 0,us1 1,us1 2],.slice p0 x.1.length cp]) rfl rfl rfl rfl ?_ (mkWork B x.1 I2 W3 _ hP0.lt rfl (fun k u s hu hs => ?_)) (fun e w2 hq => ?_)
    ·have g1:a3.eval (.tmp 10) = _:=hv.i2 d2
     have g2:a3.eval (.tmp 11) = _:=hv.i3 d3
     simp only [List.map_toArray,List.map_cons,List.map_nil,g1,g2]
    ·rcases k with _ | _ | k
     ·cases hu;cases hs;exact hvb
     ·cases hu;cases hs;exact q50
     ·simp at hs
    ·obtain ⟨u,m,I3,rfl,hk2,j1,j2,hmI,hm1,hm2,hmm,hru⟩:=hq
     refine ⟨u,rfl,rnd8_4 hv hN hD (m:=m) (I3:=I3) hk2 ⟨hm1,fun c hc => ?_,hmI,hmm,hru⟩⟩
     rcases j2 c hc with q | q
     ·have:=hP0.lt c q;have:=hk2.size;omega
     ·exact q.2
   ·cases ho
    have d4:D 4 = true:=hr { on:=4,ground:=.data } (by simp) rfl
    obtain ⟨m,I3,g1,g2,g3,g4,g5⟩:=hv.c5 d4 hD
    refine op_callFn (fn:=Try.f64) (vs:=#[a3.tmps.getD 12 undef]) rfl rfl rfl rfl (by simp [Act.eval]) (long_calls B x.1 hB hxl.1 m I3 W3 _ g2 g3 g4 g5) (fun e w2 hq => ?_)
    obtain ⟨rfl,z1,z2,z3,z4,z5⟩:=hq
    have hsz0:=hv.kp.size
    exact ⟨_,rfl,rnd8_5 hv hN hD d4 ⟨z1.trans hv.kp.os,z2.trans hv.kp.tape,z3.trans hv.kp.output,Nat.le_trans hv.kp.size z4,fun k hk hm => (z5 k (by omega) (by omega)).trans (hv.kp.block k hk hm),fun _ => trivial⟩⟩
   ·cases ho
    have d1:D 1 = true:=hr { on:=1,ground:=.data } (by simp) rfl
    have d5:D 5 = true:=hr { on:=5,ground:=.data } (by simp) rfl
    refine op_val (v:=.agg #[.slice p0 x.1.length cp,.int .i64 (longB B x.1)]) (w':=W3) rfl (fun c e => by cases e) ?_ (rnd8_6 hv hN hD d5)
    have ea:(#[((0:Nat),Operand.tmp 9),(1,Operand.tmp 13)].map fun y => (y.1,a3.eval y.2)) = #[(0,.slice p0 x.1.length cp),(1,.int .i64 (longB B x.1))]:=by
     have g1:a3.eval (.tmp 9) = _:=hv.i1 d1
     have g2:a3.eval (.tmp 13) = _:=hv.c6 d5
     simp only [List.map_toArray,List.map_cons,List.map_nil,g1,g2]
    simp only [execOp,Sem.run_bind,ea,run_tm,Result.andThen_ok];rfl
   ·cases ho
    have d6:D 6 = true:=hr { on:=6,ground:=.data } (by simp) rfl
    have hB3:Below W3.heap.size W3 (W3.alloc (.cells #[.slice p0 x.1.length cp,.int .i64 (longB B x.1)] 91)):=(Below.refl _ _).alloc (Nat.le_refl _) _
    have hsz0:=hv.kp.size
    refine op_val (v:=.slice (some ⟨W3.heap.size,0,none⟩) 1 1) (w':=W3.alloc (.cells #[.slice p0 x.1.length cp,.int .i64 (longB B x.1)] 91)) rfl (fun c e => by cases e) ?_
     (rnd8_7 hv hN hD d6 ⟨hB3.os.trans hv.kp.os,hB3.tape.trans hv.kp.tape,hB3.output.trans hv.kp.output,Nat.le_trans hv.kp.size hB3.size,fun k hk hm => (hB3.block k (by omega)).trans (hv.kp.block k hk hm),fun _ => trivial⟩ (by rw [World.cell?_alloc_new];rfl) (by rw [World.cell?_alloc_new];rfl))
    have ea:(#[((0:Nat),Operand.tmp 14)].map fun y => (y.1,a3.eval y.2)) = #[(0,.agg #[.slice p0 x.1.length cp,.int .i64 (longB B x.1)])]:=by
     have g1:a3.eval (.tmp 14) = _:=hv.c7 d6
     simp only [List.map_toArray,List.map_cons,List.map_nil,g1]
    simp only [execOp,Sem.run_bind,ea,run_one91,Result.andThen_ok];rfl
   ·omega
  case hQ =>
   intro a3 W3 hv
   obtain ⟨b9,e15,k0,k1⟩:=hv.c8 rfl
   have e8:=hv.i0 rfl
   have hz4:=hv.sz
   have hd4:=hv.df
   have hf3:=hv.t3
   have hk4:=hv.kp
   obtain ⟨hY4,hP4⟩:=hP0.yq hk4 (I':=I2) (fun _ h => h) (fun _ h => .inl h)
   have hB4:=hB0.same hP0.sz hk4
   have hH4:=hH0.keep hk4 hP0.lt (fun _ h => h) (fun _ h => .inl h)
   have h34:=h30.same hP0.lt hk4
   have s0:Rep I2 W3 (.slice p0 x.1.length cp) (slD 1 intD x.1):=mt_d ((q50.same hP0.lt hk4) (fun _ => none))
   refine tail_ex rfl (fun c e => by cases e) (hH4.app (t:=88) (x:=.tmp 8) (y:=.tmp 15) (hh:=fun _ => tmD x) (news:=[.slice p0 x.1.length cp,.int .i64 (longB B x.1)]) Tryz_elT_88 Tryz_zeroT_91 rfl (by decide) rfl e8 e15 rfl (fun j u hj => ?_) (fun u hu => ?_) (fun i j hi hj => ?_) (room_of (by omega) (by decide)) hP4.sz hP4.lt hP4.vlt) ?_
   ·rw [add_plain]
    match j,hj with
    | 0,hj => rw [← hj];exact k0
    | 1,hj => rw [← hj];exact k1
    | j + 2,hj => simp at hj
   ·simp at hu
    rcases hu with rfl | rfl<;>rfl
   ·have:i = 0:=by omega
    subst this
    match j,hj with
    | 0,_ => exact ⟨_,rfl,s0⟩
    | 1,_ => exact ⟨_,rfl,by rw [← hxl.2];exact .int⟩
   rintro v2 W5 ⟨hH5,hgr,hnew⟩
   obtain ⟨hnI,hobs⟩:(∀ b',v.ownBlock = some b'->w1.heap.size<=b')/\(∀ b',v.ownBlock = some b'->¬ I2 b'/\¬ V b'):=by
    refine ⟨fun b' hb' => (hH4.lt b' hb').1,?_⟩
    obtain ⟨_,_,_,_,q⟩:=hH4
    exact q
   obtain ⟨y5,hP5⟩:=hP4.grown hgr hnI hobs
   have hY5:=Yq.grown y5 hgr (fun b' hb' => hH4.cells hb')
   have hnb:∀ b',v.ownBlock = some b'->b' ≠ b:=fun b' hb' e => by
    have:=hnI b' hb';have:=hB4.1;omega
   have hB5:=hB4.grown hP4.sz hgr (fun q => hnb b q rfl)
   have h35:RepS I2 W5 v1 (.d B.ref):=h34.kept ⟨hgr.size,fun _ h => h,fun c hc => hgr.block c (hP4.lt c hc) (fun q => (hobs c q.symm).1 hc)⟩
   have hf3':(a3.put (some 16) v2).tmps.getD 3 undef = outP b:=(put_ne (by decide)).trans hf3
   have hv16:(a3.put (some 16) v2).tmps.getD 16 undef = v2:=put_eq (by rw [hz4];decide)
   refine tail_skp rfl (fun c e => by cases e) (run_storeCl (a:=a3.put (some 16) v2) (b:=b) (I:=I2) (T:=T5) (u:=v) (v:=v2) rfl rfl hf3' rfl hv16 hH5.one hB5) ?_
   obtain ⟨y6,hP6,hB6,ho⟩:=hP5.row n5 hB5 (cs:=#[v2])
   have hne:v2.ownBlock ≠ some b:=fun q => by
    rcases hnew b q with q | q
    ·exact hnb b q rfl
    ·have:=hB4.1;have:=hP4.sz;omega
   refine tail_end ⟨I2,((((hY0.trans hY4).trans hY5).trans y6)),hP6,⟨v2,hB6,?_⟩,h35.row hB5.2.1⟩
   exact (hH5.row (cs:=#[v2]) hne hB5.2.1).congr (g':=fun j => tmD (L.getD j default)) (fun k j hk hj => by
    by_cases h:k < i
    ·rw [if_pos h]
    ·rw [if_neg h]
     have:k = i:=by omega
     subst this
     rw [hx])
 case done =>
  rintro D I2 V W hD ⟨hP,⟨v,hB5,hH⟩,h3⟩ hnD hmD
  rw [List.length_map] at hH
  show (Code.seq _ _).wpIn _ _ _ _ _ _
  refine wpIn_seq (wpIn_region ?_)
  have hDlt:D < W.heap.size:=(Array.getElem?_eq_some_iff.1 hmD).1
  have hp3':({ a with defers:=[markOf D] }:Act).tmps.getD 3 undef = outP b:=hp3
  have hz':({ a with defers:=[markOf D] }:Act).tmps.size = Try.f32.ntmps:=hsz
  have hd':({ a with defers:=[markOf D] }:Act).defers = [markOf D]:=rfl
  generalize ({ a with defers:=[markOf D] }:Act) = a9 at hp3' hz' hd'
  refine tail_val (m:=0) (k:=2) rfl (fun c e => by cases e) (run_loadCl (b:=b) (I:=I2) (T:=T5) (n:=w1.heap.size) (u:=v) rfl hp3' Tryz_ldT_88 hB5) ?_
  have hlt:=hH.lt
  have hdis:∀ c,v.ownBlock = some c->¬ I2 c/\¬ V c:=by
   obtain ⟨_,_,_,_,q⟩:=hH
   exact q
  have hx17:(#[Operand.tmp 17,Operand.func 66]:Array Operand).map (a9.put (some 17) v).eval = #[v,.func (.func 66) #[] #[]]:=by
   have g1:(a9.put (some 17) v).eval (.tmp 17) = v:=put_eq (by rw [hz'];decide)
   have g2:(a9.put (some 17) v).eval (.func 66) = .func (.func 66) #[] #[]:=rfl
   simp only [List.map_toArray,List.map_cons,List.map_nil,g1,g2]
  refine tail_callFn (fn:=Try.f65) rfl rfl rfl rfl hx17 (hbb.2 (fun c => I2 c∨v.ownBlock = some c) W _ trivial (fun c hc => ?_) (fun b _ e => by cases e) rfl (fun j u s hu hs => ?_)) (fun e W2 hq => ?_)
  ·rcases hc with q | q
   ·exact hP.lt c q
   ·exact (hlt c q).2
  ·rcases j with _ | _ | j
   ·cases hu;cases hs;exact fun Y => .d hH.data
   ·cases hu;cases hs;exact fun Y => .d (.clo rfl (fun i u hu => by simp at hu))
   ·simp at hs
  obtain ⟨u,rfl,hru,hk2⟩:=hq
  refine ⟨u,rfl,?_⟩
  have hz2:((a9.put (some 17) v).put (some 18) u).tmps.size = Try.f32.ntmps:=by rw [put_sz,put_sz];exact hz'
  refine tail_val rfl (fun c e => by cases e) (run_move (v:=u) (.inr rfl) (put_eq (by rw [put_sz,hz'];decide))) ?_
  refine tail_end (wpIn_ret ?_)
  have hsz2:=hk2.size
  have hmD2:W2.heap[D]? = some (.deferred (some [])):=(hk2.block D hDlt (fun e => by cases e)).trans hmD
  obtain ⟨_,hP2⟩:=hP.yq hk2 (I':=I2) (fun _ h => h) (fun _ h => .inl h)
  have hP':=hP2.put (o':=.deferred none) hD
  have hownD:∀ c,v.ownBlock = some c->c ≠ D:=fun c hc e => by
   obtain ⟨cs,T,fz,q⟩:=hH.cells hc
   rw [e,hmD] at q;cases q
  refine ⟨.inl rfl,.inr ⟨D,{ env:=[(2,.d (slD 2 tmD (bstT L)))],bx:=[],tk:=[] },hmD2,?_,?_⟩⟩
  ·show resOK Try.prog [.tmp 2] _ _
   ((try dsimp only [thenK,blockK,noGotoK]);simp only [toList_mk,List.toList_toArray,retK_ret,retK_normal,resOK,resV,celV,rowV,frzAll,frzT,subV,subL,go_sem,↓dP,↓reduceIte])
   exact .refl _
  ·refine @St.boxes _ ⟨[markOf D],[]⟩ _ (fun c => (I2 c∨v.ownBlock = some c)∨(W.heap.size<=c/\c < W2.heap.size)) _ _ _ _ _ _ [] (by rw [put_sz];exact hz2) hd' (fun c hc => ?_) (fun b _ e => by cases e) trivial (fun c hc => ?_) hP'.keep rfl (fun i i' b hi hi' => by simp at hi) (fun i blk c hi hc => by simp at hi) (bat_cons (.inl ?_) bat_nil) (fun p hp => by cases hp)
   ·rw [World.putObj_size]
    rcases hc with (q | q) | q
    ·have:=hP.lt c q;omega
    ·have:=(hlt c q).2;omega
    ·exact q.2
   ·rcases hc with (q | q) | q
    ·exact hP.i0 c q
    ·have:=(hlt c q).1;have:=hkeep.size;exact .inr (by omega)
    ·have:=hP.sz;have:=hkeep.size;exact .inr (by omega)
   ·rw [put_eq (by rw [hz2];decide)]
    refine hru.putO (fun hc => ?_)
    rcases hc with (q | q) | q
    ·exact hnD q
    ·exact hownD D q rfl
    ·omega
 case stop =>
  rintro D i I2 V W hD hi h;exact h.elim
end
end Go.Proofs.Leaf
namespace Go.Proofs.Leaf
open Go Go.RX Go.Proofs
set_option maxRecDepth 10000
variable [Glob]
abbrev bsts (J:Job):List (List Nat):=bestsL J.fit J.ps.length
abbrev prs (B:List (List Nat)):List (List Nat×Nat):=B.map (fun l => (l,leaves l))
abbrev bstD (B:List (List Nat)):DV:=.sl 2 B.length (fun j => cuD ((prs B).getD j default))
theorem fit_sub {J:Job} (hJ:J.sized):∀ s t,t &&& s = t->J.fit s = true->J.fit t = true :=
 fun s t h hs => can_fewer hJ.s.good (J.wide.toNat + J.high.toNat) _ _ s t (Nat.le_refl _) h hs
theorem puts_eq {J:Job} (hJ:J.sized):putK J.fit J.ps.length [] [] = prs (cutsL J.fit J.ps.length):=putK_all (fit_sub hJ) _
theorem lists_len {J:Job} (hn:J.ps.length<=5):(cutsL J.fit J.ps.length).length<=3125:=by
 have h1:=listsK_len J.ps.length []
 have h2:(leaves [] + J.ps.length) ^ J.ps.length<=5 ^ 5:=Nat.le_trans (Nat.pow_le_pow_left (by simp [leaves];omega) _) (Nat.pow_le_pow_right (by decide) (by omega))
 have h3:(cutsL J.fit J.ps.length).length<=(listsK J.ps.length []).length:=List.length_filter_le _ _
 omega
theorem bsts_len {J:Job} (hn:J.ps.length<=5):(bsts J).length<=3125:=by
 refine Nat.le_trans ?_ (lists_len hn)
 unfold bsts bestsL
 rw [bestF_eq]
 exact List.length_filter_le _ _
theorem bst_prs (J:Job) (hJ:J.sized):bstL (putK J.fit J.ps.length [] []) = prs (bsts J):=by
 rw [puts_eq hJ]
 unfold bstL prs
 rw [bestF_map]
 rfl
theorem prs_at {B:List (List Nat)} {i:Nat} (h:i < B.length):(prs B).getD i default = (B.getD i default,leaves (B.getD i default)):=by
 simp [prs,List.getD_eq_getElem?_getD,h]
theorem c_bests (J:Job) (hJ:J.sized) (hn:J.ps.length<=5):Ctr Try.prog 42 [J.sv] (.d (bstD (bsts J))):=by
 have hb:Ctr Try.prog 75 [.d (ctsD J),.d betD] (.d (bstD (bsts J))):=by
  have:=c_best 96 1 (dget [J.ref]) (putK J.fit J.ps.length [] []) (by rw [puts_eq hJ,List.length_map];have:=lists_len hn;omega) (it_cuttings1 J hJ)
  rw [bst_prs J hJ,List.length_map] at this
  exact Ctr.any this
 (refine Ctr.mk (fn:=Try.f42) rfl rfl rfl rfl rfl Try.results42 ?_;intro _;dsimp only [args,List.toList_toArray])
 (first|refine qE ?_|refine qD ?_);(simp only [go_sem,↓dP,↓reduceIte];with_reducible and_intros;all_goals first|apply qA|exact qC|skip)
 (first|refine qE ?_|refine qD ?_);(simp only [go_sem,↓dP,↓reduceIte];with_reducible and_intros;all_goals first|apply qA|exact qC|skip)
 (refine AskI.ret (c_cuttings J) ?_;simp only [go_sem,↓dP,↓reduceIte];with_reducible and_intros;all_goals first|apply qA|exact qC|skip)
 (refine AskI.ret (hb) ?_;simp only [go_sem,↓dP,↓reduceIte];with_reducible and_intros;all_goals first|apply qA|exact qC|skip)
 (refine Ok.ret ?_;(try dsimp only [thenK,blockK,noGotoK]);simp only [toList_mk,List.toList_toArray,retK_ret,retK_normal,resOK,resV,celV,rowV,frzAll,frzT,subV,subL,go_sem,↓dP,↓reduceIte])
 exact .refl _
theorem c_Cut (J:Job) (h:J.ok):Ctr Try.prog 14 [J.sv] (.tup [ilS (asI ((bsts J).head?.getD [])),iS ((leaves ((bsts J).head?.getD []):Nat):Int),iS (if bsts J = [] then 5 else 0)]):=by
 have hb:=c_bests J h.sized h.p1
 have hlen:=bsts_len (J:=J) h.p1
 have hat:=fun (i:Nat) (hi:i < (bsts J).length) => prs_at hi
 generalize bsts J = B at hb hlen hat ⊢
 (refine Ctr.mk (fn:=Try.f14) rfl rfl rfl rfl rfl Try.results14 ?_;intro _;dsimp only [args,List.toList_toArray])
 (first|refine qE ?_|refine qD ?_);(simp only [go_sem,↓dP,↓reduceIte];with_reducible and_intros;all_goals first|apply qA|exact qC|skip)
 refine Ok.seq ?_
 (first|refine qE ?_|refine qD ?_);(simp only [go_sem,↓dP,↓reduceIte];with_reducible and_intros;all_goals first|apply qA|exact qC|skip)
 (refine AskI.ret (c_isJob J h.held) ?_;simp only [go_sem,↓dP,↓reduceIte];with_reducible and_intros;all_goals first|apply qA|exact qC|skip)
 refine Ok.cond rfl (fun hb => by rw [jobB_iff.2 h] at hb;cases hb) (fun _ => ?_)
 (refine Ok.skip ?_;(try dsimp only [thenK,blockK,noGotoK]))
 (first|refine qE ?_|refine qD ?_);(simp only [go_sem,↓dP,↓reduceIte];with_reducible and_intros;all_goals first|apply qA|exact qC|skip)
 (refine AskI.ret (hb) ?_;simp only [go_sem,↓dP,↓reduceIte];with_reducible and_intros;all_goals first|apply qA|exact qC|skip)
 refine Ok.seq ?_
 (first|refine qE ?_|refine qD ?_);(simp only [go_sem,↓dP,↓reduceIte];with_reducible and_intros;all_goals first|apply qA|exact qC|skip)
 cases B with
 | nil =>
  refine Ok.cond (b:=true) (by first | rfl | (simp only [go_sem,↓dP,↓reduceIte];rfl)) (fun _ => ?_) (fun hb => by cases hb)
  (first|refine qE ?_|refine qD ?_);(simp only [go_sem,↓dP,↓reduceIte];with_reducible and_intros;all_goals first|apply qA|exact qC|skip)
  (refine Ok.ret ?_;(try dsimp only [thenK,blockK,noGotoK]);simp only [toList_mk,List.toList_toArray,retK_ret,retK_normal,resOK,resV,celV,rowV,frzAll,frzT,subV,subL,go_sem,↓dP,↓reduceIte])
  ((repeat' with_reducible apply And.intro)<;>(first | exact DEq.refl _ | refine DEq.int ?_ | refine DEq.bool ?_ | skip))
  exact DEq.nils rfl
 | cons l r =>
  refine Ok.cond rfl (fun hb => by simp at hb;omega) (fun _ => ?_)
  (refine Ok.skip ?_;(try dsimp only [thenK,blockK,noGotoK]))
  (first|refine qE ?_|refine qD ?_);(simp only [go_sem,↓dP,↓reduceIte];with_reducible and_intros;all_goals first|apply qA|exact qC|skip)
  (refine Ok.ret ?_;(try dsimp only [thenK,blockK,noGotoK]);simp only [toList_mk,List.toList_toArray,retK_ret,retK_normal,resOK,resV,celV,rowV,frzAll,frzT,subV,subL,go_sem,↓dP,↓reduceIte])
  ((repeat' with_reducible apply And.intro)<;>(first | exact DEq.refl _ | refine DEq.int ?_ | refine DEq.bool ?_ | skip))
end Go.Proofs.Leaf
namespace Go.Proofs.Leaf
open Go Go.RX Go.Proofs Go.RowKit
set_option maxRecDepth 100000
variable [Glob]
theorem best_tims (B:Bk):bstT (timsB B) = (bestsB B).map (fun p => (p,(longB B p).toNat)):=by
 unfold bstT timsB
 rw [bestF_map,bestF_eq]
 unfold bestsB
 congr 1
 refine List.filter_congr (fun p _ => ?_)
 rw [Bool.eq_iff_iff,List.all_eq_true,List.all_eq_true]
 refine forall_congr' (fun q => forall_congr' (fun _ => ?_))
 have h1:=longB_nn B p
 have h2:=longB_nn B q
 simp only [decide_eq_true_eq]
 omega
theorem c_bwith (B:Bk) (n:Int):Ctr Try.prog 44 [B.sv,iS n] (Bk.sv { B with ap:=n }):=by
 (refine Ctr.mk (fn:=Try.f44) rfl rfl rfl rfl rfl Try.results44 ?_;intro _;dsimp only [args,List.toList_toArray])
 (first|refine qE ?_|refine qD ?_);(simp only [go_sem,↓dP,↓reduceIte];with_reducible and_intros;all_goals first|apply qA|exact qC|skip)
 (first|refine qE ?_|refine qD ?_);(simp only [go_sem,↓dP,↓reduceIte];with_reducible and_intros;all_goals first|apply qA|exact qC|skip)
 (first|refine qE ?_|refine qD ?_);(simp only [go_sem,↓dP,↓reduceIte];with_reducible and_intros;all_goals first|apply qA|exact qC|skip)
 (refine Ok.ret ?_;(try dsimp only [thenK,blockK,noGotoK]);simp only [toList_mk,List.toList_toArray,retK_ret,retK_normal,resOK,resV,celV,rowV,frzAll,frzT,subV,subL,go_sem,↓dP,↓reduceIte])
 ((repeat' with_reducible apply And.intro)<;>(first | exact DEq.refl _ | refine DEq.int ?_ | refine DEq.bool ?_ | skip))
theorem c_More (B:Bk) (hB:B.ok) (hB2:Bk.ok { B with ap:=B.ap + 1 }) (p:List Int) (h:(bestsB { B with ap:=B.ap + 1 }).head? = some p):Ctr Try.prog 16 [B.sv] (.tup [iS (longB { B with ap:=B.ap + 1 } p),iS 0]):=by
 have hb:Ctr Try.prog 32 [Bk.sv { B with ap:=B.ap + 1 }] (.d (slD 2 tmD (bstT (timsB { B with ap:=B.ap + 1 })))):=Ctr.any (c_bbests { B with ap:=B.ap + 1 } hB2)
 rw [best_tims] at hb
 obtain ⟨r,hr⟩:∃ r,bestsB { B with ap:=B.ap + 1 } = p :: r:=by
  cases hq:bestsB { B with ap:=B.ap + 1 } with
  | nil => rw [hq] at h;cases h
  | cons x r => rw [hq] at h;cases h;exact ⟨r,rfl⟩
 rw [hr,List.map_cons] at hb
 have hl:(((longB { B with ap:=B.ap + 1 } p).toNat:Nat):Int) = longB { B with ap:=B.ap + 1 } p:=by have:=longB_nn { B with ap:=B.ap + 1 } p;omega
 have h0:=hB.a0
 have h3:=hB2.a3
 dsimp only at h3
 (refine Ctr.mk (fn:=Try.f16) rfl rfl rfl rfl rfl Try.results16 ?_;intro _;dsimp only [args,List.toList_toArray])
 (first|refine qE ?_|refine qD ?_);(simp only [go_sem,↓dP,↓reduceIte];with_reducible and_intros;all_goals first|apply qA|exact qC|skip)
 refine Ok.seq ?_
 (first|refine qE ?_|refine qD ?_);(simp only [go_sem,↓dP,↓reduceIte];with_reducible and_intros;all_goals first|apply qA|exact qC|skip)
 (refine AskI.ret (c_isBench B hB) ?_;simp only [go_sem,↓dP,↓reduceIte];with_reducible and_intros;all_goals first|apply qA|exact qC|skip)
 refine Ok.cond (b:=false) (by first | rfl | (simp only [go_sem,↓dP,↓reduceIte];rfl)) (fun hb => by cases hb) (fun _ => ?_)
 (refine Ok.skip ?_;(try dsimp only [thenK,blockK,noGotoK]))
 refine Ok.seq ?_
 (first|refine qE ?_|refine qD ?_);(simp only [go_sem,↓dP,↓reduceIte];with_reducible and_intros;all_goals first|apply qA|exact qC|skip)
 refine Ok.cond rfl (fun hb => by simp at hb;omega) (fun _ => ?_)
 (refine Ok.skip ?_;(try dsimp only [thenK,blockK,noGotoK]))
 (first|refine qE ?_|refine qD ?_);(simp only [go_sem,↓dP,↓reduceIte];with_reducible and_intros;all_goals first|apply qA|exact qC|skip)
 (refine AskI.ret (c_bwith B (B.ap + 1)) ?_;simp only [go_sem,↓dP,↓reduceIte];with_reducible and_intros;all_goals first|apply qA|exact qC|skip)
 (refine AskI.ret (hb) ?_;simp only [go_sem,↓dP,↓reduceIte];with_reducible and_intros;all_goals first|apply qA|exact qC|skip)
 (refine Ok.ret ?_;(try dsimp only [thenK,blockK,noGotoK]);simp only [toList_mk,List.toList_toArray,retK_ret,retK_normal,resOK,resV,celV,rowV,frzAll,frzT,subV,subL,go_sem,↓dP,↓reduceIte])
 ((repeat' with_reducible apply And.intro)<;>(first | exact DEq.refl _ | refine DEq.int ?_ | refine DEq.bool ?_ | skip))
 exact hl
theorem c_bspan (a b:Int):Ctr Try.prog 45 [iS a,iS b] (spS (a,b)):=by
 (refine Ctr.mk (fn:=Try.f45) rfl rfl rfl rfl rfl Try.results45 ?_;intro _;dsimp only [args,List.toList_toArray])
 (first|refine qE ?_|refine qD ?_);(simp only [go_sem,↓dP,↓reduceIte];with_reducible and_intros;all_goals first|apply qA|exact qC|skip)
 (first|refine qE ?_|refine qD ?_);(simp only [go_sem,↓dP,↓reduceIte];with_reducible and_intros;all_goals first|apply qA|exact qC|skip)
 (refine Ok.ret ?_;(try dsimp only [thenK,blockK,noGotoK]);simp only [toList_mk,List.toList_toArray,retK_ret,retK_normal,resOK,resV,celV,rowV,frzAll,frzT,subV,subL,go_sem,↓dP,↓reduceIte])
 ((repeat' with_reducible apply And.intro)<;>(first | exact DEq.refl _ | refine DEq.int ?_ | refine DEq.bool ?_ | skip))
end Go.Proofs.Leaf
namespace Go.Proofs.Leaf
open Go Go.RX Go.Proofs Go.RowKit
set_option maxRecDepth 100000
def lawJ:Job:=⟨4,3,2,1,[⟨1,2,4,6⟩,⟨0,1,2,3⟩],[⟨3,2,false,0⟩,⟨2,2,false,0⟩,⟨1,3,true,1⟩,⟨4,1,false,1⟩]⟩
theorem okJ:lawJ.ok:=jobB_iff.1 (by decide +kernel)
section
theorem sl_list {α:Type} {k n:Nat} {f:α->Nat->DV} {l:List α} {d:α} {g:Nat->Nat->DV} (hn:n = l.length) (h:∀ i j,i < n->j < k->DEq (g i j) (f (l.getD i d) j)):DEq (.sl k n g) (.sl k l.length (fun i j => f (l.getD i d) j)):=DEq.sl hn h
theorem litD (l:List Int):DEq (.sl 1 l.length (fun i j => dget (l.map iD) (i * 1 + j))) (slD 1 intD l):=DEq.sl rfl (fun i j hi hj => by
 have:j = 0:=by omega
 subst this
 have e:(l.map iD)[i]? = some (iD l[i]):=by rw [List.getElem?_map,List.getElem?_eq_getElem hi];rfl
 have e2:=dget_of (ys:=l.map iD) (j:=i) (by rw [List.length_map];exact hi)
 rw [e] at e2
 rw [Nat.add_zero,Nat.mul_one,← Option.some.inj e2]
 show DEq _ (iD (l.getD i default))
 rw [getD_lt hi]
 exact .refl _)
abbrev litS (l:List Int):SV:=.d (.sl 1 l.length (fun i j => dget (l.map iD) (i * 1 + j)))
theorem c_lJ:Ctr Try.prog 15 [] lawJ.sv:=by
 (refine Ctr.mk (fn:=Try.f15) rfl rfl rfl rfl rfl Try.results15 ?_;intro _;dsimp only [args,List.toList_toArray])
 (first|refine qE ?_|refine qD ?_);(simp only [go_sem,↓dP,↓reduceIte];with_reducible and_intros;all_goals first|apply qA|exact qC|skip)
 (first|refine qE ?_|refine qD ?_);(simp only [go_sem,↓dP,↓reduceIte];with_reducible and_intros;all_goals first|apply qA|exact qC|skip)
 (refine AskI.ret (c_lground 1 2 4 6) ?_;simp only [go_sem,↓dP,↓reduceIte];with_reducible and_intros;all_goals first|apply qA|exact qC|skip)
 (refine AskI.ret (c_lground 0 1 2 3) ?_;simp only [go_sem,↓dP,↓reduceIte];with_reducible and_intros;all_goals first|apply qA|exact qC|skip)
 (refine Ok.ret ?_;(try dsimp only [thenK,blockK,noGotoK]);simp only [toList_mk,List.toList_toArray,retK_ret,retK_normal,resOK,resV,celV,rowV,frzAll,frzT,subV,subL,go_sem,↓dP,↓reduceIte])
 ((repeat' with_reducible apply And.intro)<;>(first | exact DEq.refl _ | refine DEq.int ?_ | refine DEq.bool ?_ | skip))
 ·exact sl_list (f:=groD) (l:=lawJ.gs) (d:=default) rfl (fun i j hi hj => by
   match i,j,hi,hj with
   | 0,0,_,_ | 0,1,_,_ | 0,2,_,_ | 0,3,_,_ | 1,0,_,_ | 1,1,_,_ | 1,2,_,_ | 1,3,_,_ => exact .refl _)
 ·exact sl_list (f:=pieD) (l:=lawJ.ps) (d:=default) rfl (fun i j hi hj => by
   match i,j,hi,hj with
   | 0,0,_,_ | 0,1,_,_ | 0,2,_,_ | 0,3,_,_ | 1,0,_,_ | 1,1,_,_ | 1,2,_,_ | 1,3,_,_ | 2,0,_,_ | 2,1,_,_ | 2,2,_,_ | 2,3,_,_ | 3,0,_,_ | 3,1,_,_ | 3,2,_,_ | 3,3,_,_ => exact .refl _)
theorem k_Cut:Ctr Try.prog 14 [lawJ.sv] (.tup [ilS [0,1,0,1],iS 2,iS 0]):=by
 have h:=id (c_Cut lawJ okJ)
 rw [show bsts lawJ = [[0,1,0,1],[0,1,1,0]] by decide +kernel] at h
 exact h
theorem k_same (l:List Int) (h:l.length < 1000000):Ctr Try.prog 18 [ilS l,litS l] (bS true):=by
 have:=c_tSame l l h h
 rw [show (l == l) = true by simp] at this
 exact this.args ⟨.refl _,litD l,trivial⟩
theorem c_lB:Ctr Try.prog 17 [] knownB.sv:=by
 (refine Ctr.mk (fn:=Try.f17) rfl rfl rfl rfl rfl Try.results17 ?_;intro _;dsimp only [args,List.toList_toArray])
 (first|refine qE ?_|refine qD ?_);(simp only [go_sem,↓dP,↓reduceIte];with_reducible and_intros;all_goals first|apply qA|exact qC|skip)
 (first|refine qE ?_|refine qD ?_);(simp only [go_sem,↓dP,↓reduceIte];with_reducible and_intros;all_goals first|apply qA|exact qC|skip)
 (refine AskI.ret (c_bspan 2 2) ?_;simp only [go_sem,↓dP,↓reduceIte];with_reducible and_intros;all_goals first|apply qA|exact qC|skip)
 (refine AskI.ret (c_bspan 2 3) ?_;simp only [go_sem,↓dP,↓reduceIte];with_reducible and_intros;all_goals first|apply qA|exact qC|skip)
 (refine AskI.ret (c_bspan 1 2) ?_;simp only [go_sem,↓dP,↓reduceIte];with_reducible and_intros;all_goals first|apply qA|exact qC|skip)
 (refine AskI.ret (c_bspan 1 3) ?_;simp only [go_sem,↓dP,↓reduceIte];with_reducible and_intros;all_goals first|apply qA|exact qC|skip)
 (refine Ok.ret ?_;(try dsimp only [thenK,blockK,noGotoK]);simp only [toList_mk,List.toList_toArray,retK_ret,retK_normal,resOK,resV,celV,rowV,frzAll,frzT,subV,subL,go_sem,↓dP,↓reduceIte])
 ((repeat' with_reducible apply And.intro)<;>(first | exact DEq.refl _ | refine DEq.int ?_ | refine DEq.bool ?_ | skip))
 ·exact litD [5,6]
 ·exact sl_list (f:=stkD) (l:=knownB.ss) (d:=default) rfl (fun i j hi hj => by
   match i,j,hi,hj with
   | 0,4,_,_ | 1,4,_,_ => exact DEq.nils rfl
   | 2,4,_,_ => exact litD [1]
   | 3,4,_,_ => exact litD [0]
   | 0,0,_,_ | 0,1,_,_ | 0,2,_,_ | 0,3,_,_ | 1,0,_,_ | 1,1,_,_ | 1,2,_,_ | 1,3,_,_ | 2,0,_,_ | 2,1,_,_ | 2,2,_,_ | 2,3,_,_ | 3,0,_,_ | 3,1,_,_ | 3,2,_,_ | 3,3,_,_ => exact .refl _)
theorem okB:knownB.ok:=⟨by decide,by decide,by decide,by decide,by decide,by decide,fun n hn => by
 match n,hn with
 | 0,_ | 1,_ | 2,_ | 3,_ => exact ⟨by decide,by decide,by decide,by decide,by decide,by decide,by decide,by decide,by decide⟩,by decide⟩
theorem okB2:Bk.ok { knownB with ap:=knownB.ap + 1 }:=⟨by decide,by decide,by decide,by decide,by decide,by decide,fun n hn => by
 match n,hn with
 | 0,_ | 1,_ | 2,_ | 3,_ => exact ⟨by decide,by decide,by decide,by decide,by decide,by decide,by decide,by decide,by decide⟩,by decide⟩
theorem k_More:Ctr Try.prog 16 [knownB.sv] (.tup [iS 5,iS 0]):=by
 have hm:((bestsB { knownB with ap:=knownB.ap + 1 }).map (longB { knownB with ap:=knownB.ap + 1 })).head? = some 5:=known_more
 rw [List.head?_map] at hm
 cases hq:(bestsB { knownB with ap:=knownB.ap + 1 }).head? with
 | none => rw [hq] at hm;cases hm
 | some p =>
  rw [hq] at hm
  have h:=c_More knownB okB okB2 p hq
  rwa [show longB { knownB with ap:=knownB.ap + 1 } p = 5 from Option.some.inj hm] at h
theorem c_known:Ctr Try.prog 5 [] (bS true):=by
 (refine Ctr.mk (fn:=Try.f5) rfl rfl rfl rfl rfl Try.results5 ?_;intro _;dsimp only [args,List.toList_toArray])
 (first|refine qE ?_|refine qD ?_);(simp only [go_sem,↓dP,↓reduceIte];with_reducible and_intros;all_goals first|apply qA|exact qC|skip)
 (first|refine qE ?_|refine qD ?_);(simp only [go_sem,↓dP,↓reduceIte];with_reducible and_intros;all_goals first|apply qA|exact qC|skip)
 (refine AskI.ret (c_lJ) ?_;simp only [go_sem,↓dP,↓reduceIte];with_reducible and_intros;all_goals first|apply qA|exact qC|skip)
 (refine AskI.ret (k_Cut) ?_;simp only [go_sem,↓dP,↓reduceIte];with_reducible and_intros;all_goals first|apply qA|exact qC|skip)
 (first|refine qE ?_|refine qD ?_);(simp only [go_sem,↓dP,↓reduceIte];with_reducible and_intros;all_goals first|apply qA|exact qC|skip)
 (refine AskI.ret (c_lB) ?_;simp only [go_sem,↓dP,↓reduceIte];with_reducible and_intros;all_goals first|apply qA|exact qC|skip)
 (refine AskI.ret (k_More) ?_;simp only [go_sem,↓dP,↓reduceIte];with_reducible and_intros;all_goals first|apply qA|exact qC|skip)
 (first|refine qE ?_|refine qD ?_);(simp only [go_sem,↓dP,↓reduceIte];with_reducible and_intros;all_goals first|apply qA|exact qC|skip)
 (refine AskGI.ret (fun _ => k_same [0,1,0,1] (by decide)) ?_;simp only [go_sem,↓dP,↓reduceIte];with_reducible and_intros;all_goals first|apply qA|exact qC|skip)
 (refine Ok.ret ?_;(try dsimp only [thenK,blockK,noGotoK]);simp only [toList_mk,List.toList_toArray,retK_ret,retK_normal,resOK,resV,celV,rowV,frzAll,frzT,subV,subL,go_sem,↓dP,↓reduceIte])
 ((repeat' with_reducible apply And.intro)<;>(first | exact DEq.refl _ | refine DEq.int ?_ | refine DEq.bool ?_ | skip))
end
end Go.Proofs.Leaf
