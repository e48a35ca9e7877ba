/-
  Contracts, part 31. No condition.
-/
import Derived.Test.YtojfpogcfpmblaaGreatDoorB29
import Derived.OpenShut
import Derived.Deep.Slices
import Derived.Deep.Strs
import Derived.Lib.SmallJoins
import Derived.Test.YtojfpogcfpmblaaGreatDoorRows
import Derived.Test.YtojfpogcfpmblaaGreatDoorTie
import Derived.Test.YtojfpogcfpmblaaGreatDoorCards
import Derived.ProofKit
import Derived.LaidMore
import Derived.Lay
import Derived.LaidOnce
import Derived.SevenTiedAt
import Derived.Shelf.Vars
import Derived.Carry
import Derived.HandedShaped
import Derived.Stop.LaidErr
import Derived.ChangeCalls
import Derived.ChangeMaps5
set_option linter.all false
namespace Go.Proofs.Leaf
open Go Go.RX Go.Proofs Go.RowKit
attribute [local go_sem] Oper.semAt_some
set_option maxRecDepth 100000
theorem toT {f:FuncId} {A:List SV} {r:SV} (h:@Ctr g0 Tryz.prog f A r):@Ctr gT Tryz.prog f A r:=by
 refine ⟨h.1,?_⟩
 intro I w vs hG hI hM hl hA
 refine Calls.mono (h.2 I w vs trivial hI (fun b _ e => by cases e) hl hA) ?_
 rintro e w' ⟨v,rfl,hr,os,tape,out,size,block,_⟩
 exact ⟨v,rfl,hr,@keepT _ _ _ ⟨os,tape,out,size,fun k hk' => block k hk' (fun e => by cases e)⟩ (Tabs.lo w hG)⟩
def lawJ:Job:=⟨4,3,2,1,[⟨1,2,4,6⟩,⟨0,1,2,3⟩],[⟨3,2,false,0⟩,⟨2,2,false,0⟩,⟨1,3,true,1⟩,⟨4,1,false,1⟩]⟩
def lawK:Job:=⟨4,3,2,1,[⟨1,2,3,6⟩,⟨0,1,2,3⟩],[⟨3,2,false,0⟩,⟨2,2,false,0⟩,⟨1,3,true,1⟩,⟨4,1,false,1⟩]⟩
theorem sl_list [Glob] {α:Type} {k n:Nat} {f:α->Nat->DV} {l:List α} {d:α} {g:Nat->Nat->DV} (hn:n = l.length) (h:∀ i j,i < n->j < k->DEq (g i j) (f (l.getD i d) j)):DEq (.sl k n g) (.sl k l.length (fun i j => f (l.getD i d) j)):=DEq.sl hn h
section
theorem grou_val {I:Nat->Prop} {w:World} {v:Value} {g:Ground} (h:RepS I w v g.sv):v = .agg #[.int .i64 g.rl,.int .i64 g.rh,.int .i64 g.ll,.int .i64 g.lh]:=by
 have h0:=h (fun _ => none)
 cases h0 with
 | @agg cs xs hl0 h1 h2 =>
  have hx:∀ (i:Nat) (n:Int) (hi:i < cs.size),([iS g.rl,iS g.rh,iS g.ll,iS g.lh]:List SV)[i]? = some (iS n)->cs[i] = .int .i64 n:=fun i n hi hd => by
   have:=mt_d (h1 i _ _ (Array.getElem?_eq_getElem hi) hd)
   generalize cs[i] = u at this
   cases this;rfl
  obtain ⟨l⟩:=cs
  match l,hl0 with
  | [x0,x1,x2,x3],_ =>
   have e0:=hx 0 _ (by simp) rfl
   have e1:=hx 1 _ (by simp) rfl
   have e2:=hx 2 _ (by simp) rfl
   have e3:=hx 3 _ (by simp) rfl
   simp only [List.getElem_toArray,List.getElem_cons_zero,List.getElem_cons_succ] at e0 e1 e2 e3
   subst e0;subst e1;subst e2;subst e3;rfl
theorem lground_calls (a b c d:Int) (w:World) (hG:Glob.G w):Calls Tryz.prog 92 #[.int .i64 a,.int .i64 b,.int .i64 c,.int .i64 d] w (fun e w' => e = .returned (.agg #[.int .i64 a,.int .i64 b,.int .i64 c,.int .i64 d])/\Keep w.heap.size w w'):=by
 refine ((c_lground a b c d).2 (fun _ => False) w _ hG (fun _ h => h.elim) (fun _ h => h.elim) rfl (fun j u s hu hs => ?_)).mono ?_
 ·rcases j with _ | _ | _ | _ | j<;>simp at hu hs<;>subst hu<;>subst hs<;>exact fun Y => .d .int
 ·rintro e w' ⟨v,rfl,hr,hk⟩
  exact ⟨by rw [grou_val hr],hk⟩
theorem below_keep {n m:Nat} {a b c:World} (h:Below n a b) (hk:Keep m b c) (hm:n<=m):Below n a c :=
 ⟨hk.os.trans h.os,hk.tape.trans h.tape,hk.output.trans h.output,Nat.le_trans h.size hk.size,fun k hk' => (hk.block k (by omega) (fun e => by cases e)).trans (h.block k hk')⟩
attribute [local irreducible] Tabs
abbrev gsJ:Array Value:=#[.int .i64 1,.int .i64 2,.int .i64 4,.int .i64 6,.int .i64 0,.int .i64 1,.int .i64 2,.int .i64 3]
abbrev psJ:Array Value:=#[.int .i64 3,.int .i64 2,.bool false,.int .i64 0,.int .i64 2,.int .i64 2,.bool false,.int .i64 0,.int .i64 1,.int .i64 3,.bool true,.int .i64 1,.int .i64 4,.int .i64 1,.bool false,.int .i64 1]
set_option maxHeartbeats 1000000 in
theorem lJ_calls (w:World) (hG:Glob.G w):Calls Tryz.prog 51 #[] w (fun e w' => ∃ B,e = .returned (.agg #[.int .i64 4,.int .i64 3,.int .i64 2,.int .i64 1,.slice (some ⟨B,0,none⟩) 2 2,.slice (some ⟨B + 1,0,none⟩) 4 4])/\w.heap.size<=B/\B + 1 < w'.heap.size /\
  w'.heap[B]? = some (.cells gsJ 96)/\w'.heap[B + 1]? = some (.cells psJ 34)/\Keep w.heap.size w w'):=by
 have hF:=Glob.lo _ hG
 have k0:(w.alloc (.cells zero6 25)).heap[w.heap.size]? = some (.cells zero6 25):=al_new _ rfl
 have b0:Below w.heap.size w (w.alloc (.cells zero6 25)):=(Below.refl _ w).alloc (Nat.le_refl _) _
 have z0:(w.alloc (.cells zero6 25)).heap.size = w.heap.size + 1:=al_sz _ rfl
 have g0:Glob.G (w.alloc (.cells zero6 25)):=Glob.st _ _ hG (b0.mono hF)
 go_enter Tryz.func51,Tryz.ntmps51
 go_wp2_with (first | (go_at_call 92;refine (lground_calls 0 1 2 3 _ g1).mono ?_;rintro e w2 ⟨rfl,hk2⟩;have h2:=(hk2.block w.heap.size (by omega) (fun e => by cases e)).trans h1;have z2:=hk2.size;have b2:=below_keep b0 (hk1.trans (hk2.mono (by omega))) (by omega);clear k0 g0 g1 h1 hk1 hk2;obtain ⟨W3,hW3⟩:∃ W3,(w2.alloc (.cells gsJ 96)).alloc (.cells psJ 34) = W3:=⟨_,rfl⟩;have h3:W3.heap[w.heap.size]? = some (.cells zero6 25):=(by rw [← hW3];exact al_old _ (al_old _ h2));have fz:∀ o,W3.frozen? ⟨w.heap.size,o,none⟩ = false:=(fun o => by simp [World.frozen?,h3]);have u:=cell_at h3;have u0:=u 0;have u1:=u 1;have u2:=u 2;have u3:=u 3;have u4:=u 4;have u5:=u 5;clear u;simp only [List.getElem?_toArray,List.getElem?_cons_zero,List.getElem?_cons_succ] at u0 u1 u2 u3 u4 u5;clear h2) | (go_at_call 92;refine (lground_calls 1 2 4 6 _ g0).mono ?_;rintro e w1 ⟨rfl,hk1⟩;have h1:=(hk1.block w.heap.size (by omega) (fun e => by cases e)).trans k0;have z1:=hk1.size;have g1:=hk1.gl g0))
 obtain ⟨W',hW'⟩:∃ W',put6 W3 w.heap.size (.int .i64 4) (.int .i64 3) (.int .i64 2) (.int .i64 1) (.slice (some ⟨w2.heap.size,0,none⟩) 2 2) (.slice (some ⟨w2.heap.size + 1,0,none⟩) 4 4) = W':=⟨_,rfl⟩
 have hput:=put6_at h3 (.int .i64 4) (.int .i64 3) (.int .i64 2) (.int .i64 1) (.slice (some ⟨w2.heap.size,0,none⟩) 2 2) (.slice (some ⟨w2.heap.size + 1,0,none⟩) 4 4)
 rw [hW'] at hput
 unfold put6 at hW'
 rw [hW']
 obtain ⟨s7,hb,hz'⟩:=hput
 have y:=cell_at s7
 have y0:=y 0
 have y1:=y 1
 have y2:=y 2
 have y3:=y 3
 have y4:=y 4
 have y5:=y 5
 clear y
 simp only [List.getElem?_toArray,List.getElem?_cons_zero,List.getElem?_cons_succ] at y0 y1 y2 y3 y4 y5
 refine bodyPost_ret (by simp [results,Tryz.results51,go_sem,y0,y1,y2,y3,y4,y5];rfl) rfl ?_
 have hz3:W3.heap.size = w2.heap.size + 2:=by rw [← hW3];simp
 refine ⟨w2.heap.size,rfl,by omega,by omega,?_,?_,?_⟩
 ·rw [hb.block _ (by omega) (by omega),← hW3];exact al_old _ (al_new _ rfl)
 ·rw [hb.block _ (by omega) (by omega),← hW3];exact al_new _ (al_sz _ rfl)
 ·have b3:Below w.heap.size w W3:=by rw [← hW3];exact (b2.alloc (by omega) _).alloc (by simp;omega) _
  exact keepT ⟨hb.os.trans b3.os,hb.tape.trans b3.tape,hb.output.trans b3.output,by have:=b3.size;omega,fun k hk => (hb.block k (by omega) (by omega)).trans (b3.block k hk)⟩ hF
theorem c_lJ:Ctr Tryz.prog 51 [] lawJ.sv:=by
 (refine Ctr.mk (fn:=Tryz.f51) rfl rfl rfl rfl rfl Tryz.results51 ?_;intro _;dsimp only [args,List.toList_toArray])
 (first|refine qE ?_|refine qD ?_);(simp only [go_sem,↓dP,↓reduceIte];with_reducible and_intros;all_goals first|apply qA|exact qC|skip)
 (first|refine qE ?_|refine qD ?_);(simp only [go_sem,↓dP,↓reduceIte];with_reducible and_intros;all_goals first|apply qA|exact qC|skip)
 (refine AskI.ret (c_lground 1 2 4 6) ?_;simp only [go_sem,↓dP,↓reduceIte];with_reducible and_intros;all_goals first|apply qA|exact qC|skip)
 (refine AskI.ret (c_lground 0 1 2 3) ?_;simp only [go_sem,↓dP,↓reduceIte];with_reducible and_intros;all_goals first|apply qA|exact qC|skip)
 (refine Ok.ret ?_;(try dsimp only [thenK,blockK,noGotoK]);simp only [toList_mk,List.toList_toArray,retK_ret,retK_normal,resOK,resV,celV,rowV,frzAll,frzT,subV,subL,go_sem,↓dP,↓reduceIte])
 ((repeat' with_reducible apply And.intro)<;>(first | exact DEq.refl _ | refine DEq.int ?_ | refine DEq.bool ?_ | skip))
 ·exact sl_list (f:=groD) (l:=lawJ.gs) (d:=default) rfl (fun i j hi hj => by
   match i,j,hi,hj with
   | 0,0,_,_ | 0,1,_,_ | 0,2,_,_ | 0,3,_,_ | 1,0,_,_ | 1,1,_,_ | 1,2,_,_ | 1,3,_,_ => exact .refl _)
 ·exact sl_list (f:=pieD) (l:=lawJ.ps) (d:=default) rfl (fun i j hi hj => by
   match i,j,hi,hj with
   | 0,0,_,_ | 0,1,_,_ | 0,2,_,_ | 0,3,_,_ | 1,0,_,_ | 1,1,_,_ | 1,2,_,_ | 1,3,_,_ | 2,0,_,_ | 2,1,_,_ | 2,2,_,_ | 2,3,_,_ | 3,0,_,_ | 3,1,_,_ | 3,2,_,_ | 3,3,_,_ => exact .refl _)
abbrev gsK:Array Value:=#[.int .i64 1,.int .i64 2,.int .i64 3,.int .i64 6,.int .i64 0,.int .i64 1,.int .i64 2,.int .i64 3]
set_option maxHeartbeats 1000000 in
theorem lK_calls (w:World) (hG:Glob.G w):Calls Tryz.prog 52 #[] w (fun e w' => ∃ B,e = .returned (.agg #[.int .i64 4,.int .i64 3,.int .i64 2,.int .i64 1,.slice (some ⟨B,0,none⟩) 2 2,.slice (some ⟨B + 1,0,none⟩) 4 4])/\w.heap.size<=B/\B + 1 < w'.heap.size /\
  w'.heap[B]? = some (.cells gsK 96)/\w'.heap[B + 1]? = some (.cells psJ 34)/\Keep w.heap.size w w'):=by
 have hF:=Glob.lo _ hG
 have k0:(w.alloc (.cells zero6 25)).heap[w.heap.size]? = some (.cells zero6 25):=al_new _ rfl
 have b0:Below w.heap.size w (w.alloc (.cells zero6 25)):=(Below.refl _ w).alloc (Nat.le_refl _) _
 have z0:(w.alloc (.cells zero6 25)).heap.size = w.heap.size + 1:=al_sz _ rfl
 have g0:Glob.G (w.alloc (.cells zero6 25)):=Glob.st _ _ hG (b0.mono hF)
 go_enter Tryz.func52,Tryz.ntmps52
 go_wp2_with (go_at_call 51;refine (lJ_calls _ g0).mono ?_;rintro e w1 ⟨B,rfl,hB0,hB1,hgs,hps,hk1⟩;have h1:=(hk1.block w.heap.size (by omega) (fun e => by cases e)).trans k0;have z1:=hk1.size;have b1:=below_keep b0 hk1 (by omega);clear k0 g0 hk1;obtain ⟨V,hV⟩:∃ V,w1.alloc (.cells #[.int .i64 4,.int .i64 3,.int .i64 2,.int .i64 1,.slice (some ⟨B,0,none⟩) 2 2,.slice (some ⟨B + 1,0,none⟩) 4 4] 25) = V:=⟨_,rfl⟩;have p1:V.heap[w1.heap.size]? = some (.cells #[.int .i64 4,.int .i64 3,.int .i64 2,.int .i64 1,.slice (some ⟨B,0,none⟩) 2 2,.slice (some ⟨B + 1,0,none⟩) 4 4] 25):=(by rw [← hV];exact al_new _ rfl);have p4:V.heap.size = w1.heap.size + 1:=(by rw [← hV];exact al_sz _ rfl);have b2:Below w.heap.size w V:=(by rw [← hV];exact b1.alloc (by omega) _);have hVB:V.heap[B]? = some (.cells gsJ 96):=(by rw [← hV];exact al_old _ hgs);have hVp:V.heap[B + 1]? = some (.cells psJ 34):=(by rw [← hV];exact al_old _ hps);have hV0:V.heap[w.heap.size]? = some (.cells zero6 25):=(by rw [← hV];exact al_old _ h1);have v:=cell_at p1;have v0:=v 0;have v1:=v 1;have v2:=v 2;have v3:=v 3;have v4:=v 4;have v5:=v 5;clear v;simp only [List.getElem?_toArray,List.getElem?_cons_zero,List.getElem?_cons_succ] at v0 v1 v2 v3 v4 v5;have vf:V.frozen? ⟨B,2,none⟩ = false:=(by simp [World.frozen?,hVB]);have vc:=cell_at hVB 2;simp only [List.getElem?_toArray,List.getElem?_cons_zero,List.getElem?_cons_succ] at vc;obtain ⟨W2,hW2⟩:∃ W2,V.setCell ⟨B,2,none⟩ (.int .i64 3) = W2:=⟨_,rfl⟩;have hWB:W2.heap[B]? = some (.cells gsK 96):=(by rw [← hW2];exact st_same hVB 2 _);have hWo:∀ k,k ≠ B->W2.heap[k]? = V.heap[k]?:=(fun k hk => by rw [← hW2];exact Below.heap_setCell _ ⟨B,2,none⟩ _ k hk);have hW1:=(hWo w1.heap.size (by omega)).trans p1;have hW0:=(hWo w.heap.size (by omega)).trans hV0;have hWs:W2.heap.size = V.heap.size:=(by rw [← hW2];simp [World.setCell,Array.size_modify]);have hWe:W2.os = V.os/\W2.tape = V.tape/\W2.output = V.output:=(by rw [← hW2];exact ⟨rfl,rfl,rfl⟩);have u:=cell_at hW1;have u0:=u 0;have u1:=u 1;have u2:=u 2;have u3:=u 3;have u4:=u 4;have u5:=u 5;clear u;simp only [List.getElem?_toArray,List.getElem?_cons_zero,List.getElem?_cons_succ] at u0 u1 u2 u3 u4 u5;have x:=cell_at hW0;have x0:=x 0;have x1:=x 1;have x2:=x 2;have x3:=x 3;have x4:=x 4;have x5:=x 5;clear x;simp only [List.getElem?_toArray,List.getElem?_cons_zero,List.getElem?_cons_succ] at x0 x1 x2 x3 x4 x5;have fz:∀ o,W2.frozen? ⟨w.heap.size,o,none⟩ = false:=(fun o => by simp [World.frozen?,hW0]))
 obtain ⟨W',hW'⟩:∃ W',put6 W2 w.heap.size (.int .i64 4) (.int .i64 3) (.int .i64 2) (.int .i64 1) (.slice (some ⟨B,0,none⟩) 2 2) (.slice (some ⟨B + 1,0,none⟩) 4 4) = W':=⟨_,rfl⟩
 have hput:=put6_at hW0 (.int .i64 4) (.int .i64 3) (.int .i64 2) (.int .i64 1) (.slice (some ⟨B,0,none⟩) 2 2) (.slice (some ⟨B + 1,0,none⟩) 4 4)
 rw [hW'] at hput
 unfold put6 at hW'
 rw [hW']
 obtain ⟨s7,hb,hz'⟩:=hput
 have y0:=cell_at s7 0
 have y1:=cell_at s7 1
 have y2:=cell_at s7 2
 have y3:=cell_at s7 3
 have y4:=cell_at s7 4
 have y5:=cell_at s7 5
 simp only [List.getElem?_toArray,List.getElem?_cons_zero,List.getElem?_cons_succ] at y0 y1 y2 y3 y4 y5
 refine bodyPost_ret (by simp [results,Tryz.results52,go_sem,y0,y1,y2,y3,y4,y5];rfl) rfl ?_
 refine ⟨B,rfl,by omega,by omega,?_,?_,?_⟩
 ·rw [hb.block _ (by omega) (by omega)];exact hWB
 ·rw [hb.block _ (by omega) (by omega),hWo _ (by omega)];exact hVp
 ·exact keepT ⟨hb.os.trans (hWe.1.trans b2.os),hb.tape.trans (hWe.2.1.trans b2.tape),hb.output.trans (hWe.2.2.trans b2.output),by have:=b2.size;omega,fun k hk => (hb.block k (by omega) (by omega)).trans ((hWo k (by omega)).trans (b2.block k hk))⟩ hF
theorem sl_cells {w:World} {B k n:Nat} {cs:Array Value} {T:TypeId} {g:Nat->Nat->DV} (h:w.heap[B]? = some (.cells cs T)) (hc:cs.size = n * k) (hn:n<=maxLen) (hr:∀ i j,i < n->j < k->Rep (fun b => b = B) w (cs.getD (i * k + j) undef) (g i j)):Rep (fun b => b = B) w (.slice (some ⟨B,0,none⟩) n n) (.sl k n g):=by
 refine .sl (fun i j => cs.getD (i * k + j) undef) rfl (Nat.le_refl _) hn (fun i j hi hj => ?_) hr
 have hlt:i * k + j < cs.size:=by
  rw [hc]
  have:(i + 1) * k<=n * k:=Nat.mul_le_mul_right k hi
  rw [Nat.succ_mul] at this
  omega
 rw [Nat.zero_add,cell_at h,Array.getD_eq_getD_getElem?,Array.getElem?_eq_getElem hlt];rfl
theorem job_rep {w:World} {I:Nat->Prop} {J:Job} {a b c d:Int} {v1 v2:Value} (ha:a = J.wide) (hb:b = J.high) (hc:c = J.book) (hd:d = J.spoilt) (h1:Rep I w v1 (slD 4 groD J.gs)) (h2:Rep I w v2 (slD 4 pieD J.ps)):RepS I w (.agg #[.int .i64 a,.int .i64 b,.int .i64 c,.int .i64 d,v1,v2]) J.sv:=by
 subst ha;subst hb;subst hc;subst hd
 intro Y
 refine .agg rfl (fun j u x hu hx => ?_) (fun u hu => ?_)
 ·rcases j with _ | _ | _ | _ | _ | _ | j<;>simp at hu hx<;>(subst hu;subst hx)
  ·exact .d .int
  ·exact .d .int
  ·exact .d .int
  ·exact .d .int
  ·exact .d h1
  ·exact .d h2
 ·simp at hu;rcases hu with rfl | rfl | rfl | rfl | rfl | rfl
  ·rfl
  ·rfl
  ·rfl
  ·rfl
  ·exact h1.one
  ·exact h2.one
theorem c_lK:Ctr Tryz.prog 52 [] lawK.sv:=by
 refine ⟨⟨Tryz.f52,Tryz.func52,rfl,rfl⟩,fun I w vs hG hI hM hsz hrep => ?_⟩
 obtain rfl:vs = #[]:=Array.eq_empty_of_size_eq_zero hsz
 refine (lK_calls w hG).mono ?_
 rintro e w' ⟨B,rfl,hB0,hB1,hgs,hps,hk⟩
 refine ⟨_,rfl,job_rep (J:=lawK) rfl rfl rfl rfl ?_ ?_,hk⟩
 ·refine (sl_cells (k:=4) (n:=2) (g:=fun i => groD (lawK.gs.getD i default)) hgs rfl (by decide) (fun i j hi hj => ?_)).mono (fun b hb => .inr (by omega)) (fun _ _ => rfl)
  match i,j,hi,hj with
  | 0,0,_,_ | 0,1,_,_ | 0,2,_,_ | 0,3,_,_ | 1,0,_,_ | 1,1,_,_ | 1,2,_,_ | 1,3,_,_ => exact .int
 ·refine (sl_cells (k:=4) (n:=4) (g:=fun i => pieD (lawK.ps.getD i default)) hps rfl (by decide) (fun i j hi hj => ?_)).mono (fun b hb => .inr (by omega)) (fun _ _ => rfl)
  match i,j,hi,hj with
  | 0,0,_,_ | 0,1,_,_ | 0,3,_,_ | 1,0,_,_ | 1,1,_,_ | 1,3,_,_ | 2,0,_,_ | 2,1,_,_ | 2,3,_,_ | 3,0,_,_ | 3,1,_,_ | 3,3,_,_ => exact .int
  | 0,2,_,_ | 1,2,_,_ | 2,2,_,_ | 3,2,_,_ => exact .bool
end
end Go.Proofs.Leaf
namespace Go.Proofs.Leaf
open Go Go.RX Go.Proofs Go.RowKit
set_option maxRecDepth 100000
theorem okJ:lawJ.ok:=jobB_iff.1 (by decide +kernel)
theorem okK:lawK.ok:=jobB_iff.1 (by decide +kernel)
theorem litD [Glob] (l:List Int):DEq (.sl 1 l.length (fun i j => dget (l.map iD) (i * 1 + j))) (slD 1 intD l):=DEq.sl rfl (fun i j hi hj => by
 have:j = 0:=by omega
 subst this
 have e:(l.map iD)[i]? = some (iD l[i]):=by rw [List.getElem?_map,List.getElem?_eq_getElem hi];rfl
 have e2:=dget_of (ys:=l.map iD) (j:=i) (by rw [List.length_map];exact hi)
 rw [e] at e2
 rw [Nat.add_zero,Nat.mul_one,← Option.some.inj e2]
 show DEq _ (iD (l.getD i default))
 rw [getD_lt hi]
 exact .refl _)
abbrev litS (l:List Int):SV:=.d (.sl 1 l.length (fun i j => dget (l.map iD) (i * 1 + j)))
def knownT:List UInt8:=[108,101,97,102,32,49,32,49,32,49,32,48,10,103,114,111,117,110,100,32,48,32,48,32,48,32,48,10,112,105,101,99,101,32,49,32,49,32,48,10,101,110,100,32,49,54,54,10]
def knownJ:Job:=⟨1,1,1,0,[⟨0,0,0,0⟩],[⟨1,1,false,0⟩]⟩
theorem knownP:parseP knownT = some knownJ:=by decide +kernel
section
theorem k_Read:Ctr Tryz.prog 55 [.d (.str knownT)] (.tup [knownJ.sv,iS 0]):=c_Read_ok knownT knownJ ((parsed_walk knownT (by decide)).1 knownJ knownP) (by decide) (by unfold Job.held;decide) (by decide +kernel)
theorem k_Print:Ctr Tryz.prog 57 [knownJ.sv] (.d (.str knownT)):=by
 have h:Ctr Tryz.prog 57 [knownJ.sv] _:=c_rPrint knownJ ⟨by decide,by decide,by decide,by decide⟩
 rwa [show sealedL (rowsOf knownJ) = knownT by decide +kernel] at h
theorem k_Fits:Ctr Tryz.prog 50 [lawJ.sv,litS [2,3]] (.tup [bS true,iS 0]):=by
 have h:=toT (c_Fits lawJ okJ [2,3] (by simp [rises,lawJ]))
 rw [show lawJ.fit (setL (asI [2,3])) = true by decide +kernel] at h
 exact h.args ⟨⟨.refl _,.refl _,.refl _,.refl _,.refl _,.refl _,trivial⟩,litD _,trivial⟩
theorem k_Cut:Ctr Tryz.prog 22 [lawJ.sv] (.tup [ilS [0,1,0,1],iS 2,iS 0]):=by
 have h:=id (c_Cut lawJ okJ)
 rw [show bsts lawJ = [[0,1,0,1],[0,1,1,0]] by decide +kernel] at h
 exact h
theorem k_Ways:Ctr Tryz.prog 23 [lawJ.sv] (.tup [iS 2,iS 0]):=by
 have h:=id (c_Ways lawJ okJ)
 rw [show bsts lawJ = [[0,1,0,1],[0,1,1,0]] by decide +kernel] at h
 exact h
theorem k_Same:Ctr Tryz.prog 30 [lawJ.sv,iS 0,iS 2] (.tup [iS 2,iS 0]):=by
 have h:=id (c_Same lawJ okJ 0 2 (by decide) (by decide) (by decide))
 rw [show bsts lawJ = [[0,1,0,1],[0,1,1,0]] by decide +kernel] at h
 exact h
theorem k_Books:Ctr Tryz.prog 31 [lawJ.sv] (.tup [spS (1,2),iS 0]):=by
 have h:=id (c_Books lawJ okJ)
 rw [show bsts lawJ = [[0,1,0,1],[0,1,1,0]] by decide +kernel] at h
 exact h
theorem k_Rest:Ctr Tryz.prog 36 [lawJ.sv,litS [1]] (.tup [spS (2,3),iS 0]):=by
 have h:=toT (c_Rest lawJ okJ [1] (by simp [rises,lawJ]) (by decide +kernel))
 rw [show restF lawJ (setL (asI [1])) = some (2,3) by decide +kernel] at h
 exact h.args ⟨⟨.refl _,.refl _,.refl _,.refl _,.refl _,.refl _,trivial⟩,litD _,trivial⟩
theorem k_Also:Ctr Tryz.prog 37 [lawJ.sv,litS [0]] (.tup [ilS [2,3],iS 0]):=by
 have h:=toT (c_Also lawJ okJ [0] (by simp [rises,lawJ]))
 rw [show lawJ.fit (setL (asI [0])) = true by decide +kernel,show alsoX lawJ (setL (asI [0])) = [2,3] by decide +kernel] at h
 exact h.args ⟨⟨.refl _,.refl _,.refl _,.refl _,.refl _,.refl _,trivial⟩,litD _,trivial⟩
theorem k_Lays:Ctr Tryz.prog 43 [lawK.sv] (.tup [iS 2,iS 0]):=by
 have h:=c_Lays lawK okK.based okK.held okK.timed (by decide) (by decide +kernel)
 rw [show laysW lawK = 2 by decide +kernel] at h
 exact h
theorem k_Plan:Ctr Tryz.prog 44 [lawJ.sv] (.tup [ilS [3,4,1,2],iS 0]):=by
 have h:=c_Plan lawJ okJ.based okJ.held okJ.timed (by decide) (by decide +kernel)
 rw [show planOf lawJ false = some [3,4,1,2] by decide +kernel] at h
 exact h
theorem k_When:Ctr Tryz.prog 48 [lawJ.sv,iS 0] (.tup [ilS [3,4],iS 0]):=by
 have h:=c_When lawJ okJ.based okJ.held okJ.timed (by decide) (by decide +kernel) 0 (by decide)
 rw [show whenL (spans lawJ false) 0 = [3,4] by decide +kernel] at h
 exact h
theorem k_Proof:Ctr Tryz.prog 53 [lawK.sv] (.tup [spS (1,3),ilS [0,1,2,3],iS 0]):=by
 have h:=c_Proof lawK okK.based okK.held (by decide +kernel)
 rw [prfS_some (show proofL (spans lawK false) = some (1,3) by decide +kernel),show boundL (spans lawK false) (1,3).1 (1,3).2 = [0,1,2,3] by decide +kernel] at h
 exact h
theorem k_Leave:Ctr Tryz.prog 54 [lawK.sv] (.tup [ilS [0],iS 0]):=by
 have h:=toT (c_Leave lawK okK.based okK.held okK.timed (by decide) (by decide +kernel))
 rw [show leaveOf (spans lawK false) = some [0] by decide +kernel] at h
 exact h
end
end Go.Proofs.Leaf
namespace Go.Proofs.Leaf
open Go Go.RX Go.Proofs Go.RowKit
set_option maxRecDepth 100000
section
theorem k_same (l:List Int) (h:l.length < 1000000):Ctr Tryz.prog 26 [ilS l,litS l] (bS true):=by
 have:=c_tSame l l h h
 rw [show (l == l) = true by simp] at this
 exact this.args ⟨.refl _,litD l,trivial⟩
theorem c_known:Ctr Tryz.prog 17 [] (bS true):=by
 (refine Ctr.mk (fn:=Tryz.f17) rfl rfl rfl rfl rfl Tryz.results17 ?_;intro _;dsimp only [args,List.toList_toArray])
 (first|refine qE ?_|refine qD ?_);(simp only [go_sem,↓dP,↓reduceIte];with_reducible and_intros;all_goals first|apply qA|exact qC|skip)
 (first|refine qE ?_|refine qD ?_);(simp only [go_sem,↓dP,↓reduceIte];with_reducible and_intros;all_goals first|apply qA|exact qC|skip)
 (refine AskI.ret (c_lJ) ?_;simp only [go_sem,↓dP,↓reduceIte];with_reducible and_intros;all_goals first|apply qA|exact qC|skip)
 (refine AskI.ret (k_Fits) ?_;simp only [go_sem,↓dP,↓reduceIte];with_reducible and_intros;all_goals first|apply qA|exact qC|skip)
 (first|refine qE ?_|refine qD ?_);(simp only [go_sem,↓dP,↓reduceIte];with_reducible and_intros;all_goals first|apply qA|exact qC|skip)
 (refine AskI.ret (c_lJ) ?_;simp only [go_sem,↓dP,↓reduceIte];with_reducible and_intros;all_goals first|apply qA|exact qC|skip)
 (refine AskI.ret (k_Cut) ?_;simp only [go_sem,↓dP,↓reduceIte];with_reducible and_intros;all_goals first|apply qA|exact qC|skip)
 (first|refine qE ?_|refine qD ?_);(simp only [go_sem,↓dP,↓reduceIte];with_reducible and_intros;all_goals first|apply qA|exact qC|skip)
 (refine AskI.ret (c_lJ) ?_;simp only [go_sem,↓dP,↓reduceIte];with_reducible and_intros;all_goals first|apply qA|exact qC|skip)
 (refine AskI.ret (k_Ways) ?_;simp only [go_sem,↓dP,↓reduceIte];with_reducible and_intros;all_goals first|apply qA|exact qC|skip)
 (first|refine qE ?_|refine qD ?_);(simp only [go_sem,↓dP,↓reduceIte];with_reducible and_intros;all_goals first|apply qA|exact qC|skip)
 (refine AskI.ret (c_lJ) ?_;simp only [go_sem,↓dP,↓reduceIte];with_reducible and_intros;all_goals first|apply qA|exact qC|skip)
 (refine AskI.ret (k_Same) ?_;simp only [go_sem,↓dP,↓reduceIte];with_reducible and_intros;all_goals first|apply qA|exact qC|skip)
 (first|refine qE ?_|refine qD ?_);(simp only [go_sem,↓dP,↓reduceIte];with_reducible and_intros;all_goals first|apply qA|exact qC|skip)
 (refine AskI.ret (c_lJ) ?_;simp only [go_sem,↓dP,↓reduceIte];with_reducible and_intros;all_goals first|apply qA|exact qC|skip)
 (refine AskI.ret (k_Books) ?_;simp only [go_sem,↓dP,↓reduceIte];with_reducible and_intros;all_goals first|apply qA|exact qC|skip)
 (first|refine qE ?_|refine qD ?_);(simp only [go_sem,↓dP,↓reduceIte];with_reducible and_intros;all_goals first|apply qA|exact qC|skip)
 (refine AskI.ret (c_lJ) ?_;simp only [go_sem,↓dP,↓reduceIte];with_reducible and_intros;all_goals first|apply qA|exact qC|skip)
 (refine AskI.ret (k_Rest) ?_;simp only [go_sem,↓dP,↓reduceIte];with_reducible and_intros;all_goals first|apply qA|exact qC|skip)
 (first|refine qE ?_|refine qD ?_);(simp only [go_sem,↓dP,↓reduceIte];with_reducible and_intros;all_goals first|apply qA|exact qC|skip)
 (refine AskI.ret (c_lJ) ?_;simp only [go_sem,↓dP,↓reduceIte];with_reducible and_intros;all_goals first|apply qA|exact qC|skip)
 (refine AskI.ret (k_Also) ?_;simp only [go_sem,↓dP,↓reduceIte];with_reducible and_intros;all_goals first|apply qA|exact qC|skip)
 (first|refine qE ?_|refine qD ?_);(simp only [go_sem,↓dP,↓reduceIte];with_reducible and_intros;all_goals first|apply qA|exact qC|skip)
 (refine AskI.ret (c_lK) ?_;simp only [go_sem,↓dP,↓reduceIte];with_reducible and_intros;all_goals first|apply qA|exact qC|skip)
 (refine AskI.ret (k_Lays) ?_;simp only [go_sem,↓dP,↓reduceIte];with_reducible and_intros;all_goals first|apply qA|exact qC|skip)
 (first|refine qE ?_|refine qD ?_);(simp only [go_sem,↓dP,↓reduceIte];with_reducible and_intros;all_goals first|apply qA|exact qC|skip)
 (refine AskI.ret (c_lJ) ?_;simp only [go_sem,↓dP,↓reduceIte];with_reducible and_intros;all_goals first|apply qA|exact qC|skip)
 (refine AskI.ret (k_Plan) ?_;simp only [go_sem,↓dP,↓reduceIte];with_reducible and_intros;all_goals first|apply qA|exact qC|skip)
 (first|refine qE ?_|refine qD ?_);(simp only [go_sem,↓dP,↓reduceIte];with_reducible and_intros;all_goals first|apply qA|exact qC|skip)
 (refine AskI.ret (c_lJ) ?_;simp only [go_sem,↓dP,↓reduceIte];with_reducible and_intros;all_goals first|apply qA|exact qC|skip)
 (refine AskI.ret (k_When) ?_;simp only [go_sem,↓dP,↓reduceIte];with_reducible and_intros;all_goals first|apply qA|exact qC|skip)
 (first|refine qE ?_|refine qD ?_);(simp only [go_sem,↓dP,↓reduceIte];with_reducible and_intros;all_goals first|apply qA|exact qC|skip)
 (refine AskI.ret (c_lK) ?_;simp only [go_sem,↓dP,↓reduceIte];with_reducible and_intros;all_goals first|apply qA|exact qC|skip)
 (refine AskI.ret (k_Proof) ?_;simp only [go_sem,↓dP,↓reduceIte];with_reducible and_intros;all_goals first|apply qA|exact qC|skip)
 (first|refine qE ?_|refine qD ?_);(simp only [go_sem,↓dP,↓reduceIte];with_reducible and_intros;all_goals first|apply qA|exact qC|skip)
 (refine AskI.ret (c_lK) ?_;simp only [go_sem,↓dP,↓reduceIte];with_reducible and_intros;all_goals first|apply qA|exact qC|skip)
 (refine AskI.ret (k_Leave) ?_;simp only [go_sem,↓dP,↓reduceIte];with_reducible and_intros;all_goals first|apply qA|exact qC|skip)
 (first|refine qE ?_|refine qD ?_);(simp only [go_sem,↓dP,↓reduceIte];with_reducible and_intros;all_goals first|apply qA|exact qC|skip)
 (refine AskI.ret (k_Read) ?_;simp only [go_sem,↓dP,↓reduceIte];with_reducible and_intros;all_goals first|apply qA|exact qC|skip)
 refine Ok.seq ?_
 (first|refine qE ?_|refine qD ?_);(simp only [go_sem,↓dP,↓reduceIte];with_reducible and_intros;all_goals first|apply qA|exact qC|skip)
 refine Ok.cond (b:=false) (by first | rfl | (simp only [go_sem,↓dP,↓reduceIte];rfl)) (fun hb => by cases hb) (fun _ => ?_)
 (refine Ok.skip ?_;(try dsimp only [thenK,blockK,noGotoK]))
 refine Ok.seq ?_
 (first|refine qE ?_|refine qD ?_);(simp only [go_sem,↓dP,↓reduceIte];with_reducible and_intros;all_goals first|apply qA|exact qC|skip)
 (refine AskGI.ret (fun _ => k_same [0,1,0,1] (by decide)) ?_;simp only [go_sem,↓dP,↓reduceIte];with_reducible and_intros;all_goals first|apply qA|exact qC|skip)
 (refine AskGI.ret (fun _ => c_lspan 1 2) ?_;simp only [go_sem,↓dP,↓reduceIte];with_reducible and_intros;all_goals first|apply qA|exact qC|skip)
 ·exact stEqSpan
 (refine AskGI.ret (fun _ => c_lsize 2 3) ?_;simp only [go_sem,↓dP,↓reduceIte];with_reducible and_intros;all_goals first|apply qA|exact qC|skip)
 ·exact stEqSize
 (refine AskGI.ret (fun _ => k_same [2,3] (by decide)) ?_;simp only [go_sem,↓dP,↓reduceIte];with_reducible and_intros;all_goals first|apply qA|exact qC|skip)
 refine Ok.cond (b:=false) (by first | rfl | (simp only [go_sem,↓dP,↓reduceIte];rfl)) (fun hb => by cases hb) (fun _ => ?_)
 (refine Ok.skip ?_;(try dsimp only [thenK,blockK,noGotoK]))
 (first|refine qE ?_|refine qD ?_);(simp only [go_sem,↓dP,↓reduceIte];with_reducible and_intros;all_goals first|apply qA|exact qC|skip)
 (refine AskI.ret (k_same [3,4,1,2] (by decide)) ?_;simp only [go_sem,↓dP,↓reduceIte];with_reducible and_intros;all_goals first|apply qA|exact qC|skip)
 (refine AskGI.ret (fun _ => k_same [3,4] (by decide)) ?_;simp only [go_sem,↓dP,↓reduceIte];with_reducible and_intros;all_goals first|apply qA|exact qC|skip)
 (refine AskGI.ret (fun _ => c_lspan 1 3) ?_;simp only [go_sem,↓dP,↓reduceIte];with_reducible and_intros;all_goals first|apply qA|exact qC|skip)
 ·exact stEqSpan
 (refine AskGI.ret (fun _ => k_same [0,1,2,3] (by decide)) ?_;simp only [go_sem,↓dP,↓reduceIte];with_reducible and_intros;all_goals first|apply qA|exact qC|skip)
 (refine AskGI.ret (fun _ => k_same [0] (by decide)) ?_;simp only [go_sem,↓dP,↓reduceIte];with_reducible and_intros;all_goals first|apply qA|exact qC|skip)
 (refine AskGI.ret (fun _ => k_Print) ?_;simp only [go_sem,↓dP,↓reduceIte];with_reducible and_intros;all_goals first|apply qA|exact qC|skip)
 (refine Ok.ret ?_;(try dsimp only [thenK,blockK,noGotoK]);simp only [toList_mk,List.toList_toArray,retK_ret,retK_normal,resOK,resV,celV,rowV,frzAll,frzT,subV,subL,go_sem,↓dP,↓reduceIte])
 ((repeat' with_reducible apply And.intro)<;>(first | exact DEq.refl _ | refine DEq.int ?_ | refine DEq.bool ?_ | skip))
end
end Go.Proofs.Leaf
namespace Go.Proofs.Leaf
open Go Go.RX Go.Proofs Go.RowKit Go.ChangeShapes Go.WideShapes Go.Deep Go.ChangeAt
set_option maxRecDepth 100000
section
variable {H : Type} {enc : TypeId × Value → H} {W : World}
theorem cell_int:Tryz.prog.cellsOf 3 = 1:=by kernel_rfl
theorem cell_bool:Tryz.prog.cellsOf 4 = 1:=by kernel_rfl
theorem cell_grounds:Tryz.prog.cellsOf 22 = 1:=by kernel_rfl
theorem cell_pieces:Tryz.prog.cellsOf 23 = 1:=by kernel_rfl
theorem cell_job:Tryz.prog.cellsOf 25 = 6:=by kernel_rfl
theorem cell_piece:Tryz.prog.cellsOf 34 = 4:=by kernel_rfl
theorem cell_span:Tryz.prog.cellsOf 52 = 2:=by kernel_rfl
theorem cell_size:Tryz.prog.cellsOf 62 = 2:=by kernel_rfl
theorem cell_ground:Tryz.prog.cellsOf 96 = 4:=by kernel_rfl
abbrev There (W:World):Nat->Prop:=fun b => b < W.heap.size
theorem cell_there {a:Addr} {v:Value} (h:W.cell? a = some v):a.spot = none/\a.block < W.heap.size:=by
 unfold World.cell? at h
 cases ho:W.heap[a.block]? with
 | none => rw [ho] at h;cases h
 | some o =>
  have hlt:=(Array.getElem?_eq_some_iff.1 ho).1
  rw [ho] at h
  cases o<;>simp only at h<;>try (cases h;done)
  cases hsp:a.spot with
  | none => exact ⟨rfl,hlt⟩
  | some x => rw [hsp] at h;simp at h
theorem open_rows {α:Type} [Inhabited α] {t e k:Nat} (ht:Tryz.prog.underlying t = some (.slice e)) (hc:Tryz.prog.cellsOf e = k) (hk:0 < k) (f:α->Nat->DV) (Q:α->Prop)
  (hel:∀ n cs x,DataW.trod enc Tryz.prog W 0 (fun _ => true) true n e cs = some x->∃ y:α,Q y/\cs.length = k/\∀ j u,cs[j]? = some u->Rep (There W) W u (f y j))
  {n:Nat} {cs:List Value} {x:DataW H×List MemPlace} (h:DataW.trod enc Tryz.prog W 0 (fun _ => true) true n t cs = some x) :
  ∃ (v:Value) (l:List α),cs = [v]/\l.length<=maxLen/\Rep (There W) W v (slD k f l)/\∀ y∈l,Q y:=by
 rcases open_slice ht h with ⟨rfl,_⟩ | ⟨a,len,cap,m,n',D,Pl,rfl,hb,hl,hm,hmm,rfl,hx⟩
 ·exact ⟨_,[],rfl,Nat.zero_le _,.sl0,fun y hy => by simp at hy⟩
 simp only [if_true] at hmm
 subst hmm
 have hx':∀ i,i < len->∃ y:α,Q y/\∀ j,j < k->∃ u,W.cell? ((a.add (i * k)).add j) = some u/\Rep (There W) W u (f y j):=by
  intro i hi
  obtain ⟨cs',h1,h2⟩:=hx i (by omega)
  rw [hc] at h1
  obtain ⟨y,hq,hlen,hr⟩:=hel _ _ _ h2
  obtain ⟨_,_,h3⟩:=World.cells?_some h1
  refine ⟨y,hq,fun j hj => ?_⟩
  have hj':j < cs'.length:=by omega
  exact ⟨cs'[j],by rw [h3 j hj,List.getElem?_eq_getElem hj'],hr j _ (List.getElem?_eq_getElem hj')⟩
 obtain ⟨L,hL⟩:=choose_lt hx'
 by_cases h0:len = 0
 ·subst h0
  exact ⟨_,[],rfl,Nat.zero_le _,.sl1 hm,fun y hy => by simp at hy⟩
 ·obtain ⟨u0,hu0,_⟩:=(hL 0 (by omega)).2 0 hk
  rw [Go.Deep.add_add,show 0 * k + 0 = 0 by omega,show a.add 0 = a from rfl] at hu0
  obtain ⟨hs,hlt⟩:=cell_there hu0
  obtain ⟨b,o,sp⟩:=a
  simp only at hs hlt
  subst hs
  refine ⟨_,(List.range len).map L,rfl,by simp;omega,?_,fun y hy => ?_⟩
  ·have hll:((List.range len).map L).length = len:=by simp
   show Rep _ _ _ (.sl k ((List.range len).map L).length _)
   rw [hll]
   refine .sl (fun i j => (W.cell? ⟨b,o + (i * k + j),none⟩).getD undef) hlt hl hm (fun i j hi hj => ?_) (fun i j hi hj => ?_)
   ·obtain ⟨u,hu,_⟩:=(hL i hi).2 j hj
    rw [Go.Deep.add_add,Addr.add_mid] at hu
    rw [hu];rfl
   ·obtain ⟨u,hu,hr⟩:=(hL i hi).2 j hj
    rw [Go.Deep.add_add,Addr.add_mid] at hu
    rw [hu]
    have:((List.range len).map L).getD i default = L i:=by simp [List.getD_eq_getElem?_getD,hi]
    rw [this];exact hr
  ·obtain ⟨i,hi,rfl⟩:=List.mem_map.1 hy
   exact (hL i (List.mem_range.1 hi)).1
theorem open_i (n:Nat) (cs:List Value) (x:DataW H×List MemPlace) (h:DataW.trod enc Tryz.prog W 0 (fun _ => true) true n 3 cs = some x):∃ y:Int,True/\cs.length = 1/\∀ j u,cs[j]? = some u->Rep (There W) W u (intD y j):=by
 obtain ⟨n0,e0,_⟩:=DataW.trod_int Tryz.underlying3 h
 subst e0
 refine ⟨n0,trivial,rfl,fun j u hu => ?_⟩
 match j,hu with
 | 0,hu => simp at hu;subst hu;exact .int
 | j + 1,hu => simp at hu
theorem open_span {n:Nat} {cs:List Value} {x:DataW H×List MemPlace} (h:DataW.trod enc Tryz.prog W 0 (fun _ => true) true n 52 cs = some x):∃ a b:Int,cs = [.int .i64 a,.int .i64 b]:=by
 obtain ⟨y0,y1,m,_,hl,h0,h1⟩:=trod_struct2 Tryz.underlying52 h
 rw [cell_span] at hl
 match cs,hl with
 | [c0,c1],_ =>
  obtain ⟨n0,e0,_⟩:=DataW.trod_int Tryz.underlying3 h0
  obtain ⟨n1,e1,_⟩:=DataW.trod_int Tryz.underlying3 h1
  simp [cell_int] at e0 e1
  subst e0;subst e1
  exact ⟨n0,n1,rfl⟩
theorem open_ground (n:Nat) (cs:List Value) (x:DataW H×List MemPlace) (h:DataW.trod enc Tryz.prog W 0 (fun _ => true) true n 96 cs = some x):∃ y:Ground,True/\cs.length = 4/\∀ j u,cs[j]? = some u->Rep (There W) W u (groD y j):=by
 obtain ⟨y0,y1,m,_,hl,h0,h1⟩:=trod_struct2 Tryz.underlying96 h
 rw [cell_ground] at hl
 match cs,hl with
 | [c0,c1,c2,c3],_ =>
  obtain ⟨a0,b0,e0⟩:=open_span h0
  obtain ⟨a1,b1,e1⟩:=open_span h1
  simp [cell_span] at e0 e1
  obtain ⟨rfl,rfl⟩:=e0
  obtain ⟨rfl,rfl⟩:=e1
  refine ⟨⟨a0,b0,a1,b1⟩,trivial,rfl,fun j u hu => ?_⟩
  match j,hu with
  | 0,hu => simp at hu;subst hu;exact .int
  | 1,hu => simp at hu;subst hu;exact .int
  | 2,hu => simp at hu;subst hu;exact .int
  | 3,hu => simp at hu;subst hu;exact .int
  | j + 4,hu => simp at hu
theorem open_piece (n:Nat) (cs:List Value) (x:DataW H×List MemPlace) (h:DataW.trod enc Tryz.prog W 0 (fun _ => true) true n 34 cs = some x):∃ y:Piece,True/\cs.length = 4/\∀ j u,cs[j]? = some u->Rep (There W) W u (pieD y j):=by
 obtain ⟨y0,y1,y2,y3,m,_,hl,h0,h1,h2,h3⟩:=Joins.trod_struct4 Tryz.underlying34 h
 rw [cell_piece] at hl
 match cs,hl with
 | [c0,c1,c2,c3],_ =>
  obtain ⟨n0,e0,_⟩:=DataW.trod_int Tryz.underlying3 h0
  obtain ⟨n1,e1,_⟩:=DataW.trod_int Tryz.underlying3 h1
  obtain ⟨b2,e2,_⟩:=DataW.trod_bool Tryz.underlying4 h2
  obtain ⟨n3,e3,_⟩:=DataW.trod_int Tryz.underlying3 h3
  simp [cell_int,cell_bool] at e0 e1 e2 e3
  subst e0;subst e1;subst e2;subst e3
  refine ⟨⟨n0,n1,b2,n3⟩,trivial,rfl,fun j u hu => ?_⟩
  match j,hu with
  | 0,hu => simp at hu;subst hu;exact .int
  | 1,hu => simp at hu;subst hu;exact .int
  | 2,hu => simp at hu;subst hu;exact .bool
  | 3,hu => simp at hu;subst hu;exact .int
  | j + 4,hu => simp at hu
theorem open_job {v:Value} {d:DataW H} {ps:List MemPlace} {b0:Nat} (hok:Value.okWide Tryz.prog W .any b0 25 v) (h:DataW.Trod enc Tryz.prog W 0 (fun _ => true) true 25 v d ps):∃ J:Job,RepS (There W) W v J.sv/\J.far:=by
 unfold Value.okWide at hok
 rw [Tryz.underlying25] at hok
 obtain ⟨cs,rfl,_,_⟩:=hok
 obtain ⟨n,h⟩:=h
 obtain ⟨xs,m,_,_,hl,hlen,hf⟩:=DataW.trod_struct Tryz.underlying25 h
 simp only [Value.cells] at hl hf
 rw [cell_job] at hl
 match xs,hlen with
 | [y0,y1,y2,y3,y4,y5],_ =>
  have h0:=hf 0 _ rfl
  have h1:=hf 1 _ rfl
  have h2:=hf 2 _ rfl
  have h3:=hf 3 _ rfl
  have h4:=hf 4 _ rfl
  have h5:=hf 5 _ rfl
  obtain ⟨cs⟩:=cs
  simp only at hl h0 h1 h2 h3 h4 h5
  match cs,hl with
  | [c0,c1,c2,c3,c4,c5],_ =>
   obtain ⟨n0,e0,_⟩:=DataW.trod_int Tryz.underlying3 h0
   obtain ⟨n1,e1,_⟩:=DataW.trod_int Tryz.underlying3 h1
   obtain ⟨n2,e2,_⟩:=DataW.trod_int Tryz.underlying3 h2
   obtain ⟨n3,e3,_⟩:=DataW.trod_int Tryz.underlying3 h3
   obtain ⟨v4,gs,e4,hgl,hgr,_⟩:=open_rows Tryz.underlying22 cell_ground (by decide) groD (fun _ => True) open_ground h4
   obtain ⟨v5,ps,e5,hpl,hpr,_⟩:=open_rows Tryz.underlying23 cell_piece (by decide) pieD (fun _ => True) open_piece h5
   simp [cell_int,cell_grounds,cell_pieces] at e0 e1 e2 e3 e4 e5
   subst e0;subst e1;subst e2;subst e3;subst e4;subst e5
   have hm:maxLen<=9223372036854775807:=by decide
   exact ⟨⟨n0,n1,n2,n3,gs,ps⟩,job_rep rfl rfl rfl rfl hgr hpr,Nat.le_trans hgl hm,Nat.le_trans hpl hm⟩
theorem open_size {v:Value} {d:DataW H} {ps:List MemPlace} {b0:Nat} (hok:Value.okWide Tryz.prog W .any b0 62 v) (h:DataW.Trod enc Tryz.prog W 0 (fun _ => true) true 62 v d ps):∃ a b:Int,RepS (There W) W v (spS (a,b)):=by
 unfold Value.okWide at hok
 rw [Tryz.underlying62] at hok
 obtain ⟨cs,rfl,_,_⟩:=hok
 obtain ⟨n,h⟩:=h
 obtain ⟨y0,y1,m,_,hl,h0,h1⟩:=trod_struct2 Tryz.underlying62 h
 simp only [Value.cells] at hl h0 h1
 rw [cell_size] at hl
 obtain ⟨cs⟩:=cs
 simp only at hl h0 h1
 match cs,hl with
 | [c0,c1],_ =>
  obtain ⟨n0,e0,_⟩:=DataW.trod_int Tryz.underlying3 h0
  obtain ⟨n1,e1,_⟩:=DataW.trod_int Tryz.underlying3 h1
  simp [cell_int] at e0 e1
  subst e0;subst e1
  refine ⟨n0,n1,fun Y => .agg rfl (fun j u x hu hx => ?_) (fun u hu => ?_)⟩
  ·rcases j with _ | _ | j<;>simp at hu hx<;>(subst hu;subst hx;exact .d .int)
  ·simp at hu;rcases hu with rfl | rfl<;>rfl
theorem open_ints {v:Value} {d:DataW H} {ps:List MemPlace} {b0:Nat} (hok:Value.okWide Tryz.prog W .any b0 26 v) (h:DataW.Trod enc Tryz.prog W 0 (fun _ => true) true 26 v d ps):∃ l:List Int,RepS (There W) W v (ilS l)/\l.length<=maxLen:=by
 obtain ⟨a,len,cap,rfl⟩:=okWide_slice Tryz.underlying26 hok
 obtain ⟨n,h⟩:=h
 obtain ⟨v',l,e,hl,hr,_⟩:=open_rows Tryz.underlying26 cell_int (by decide) intD (fun _ => True) open_i h
 obtain rfl:Value.slice a len cap = v':=by simpa [Value.cells] using e
 exact ⟨l,fun Y => .d hr,hl⟩
end
end Go.Proofs.Leaf
namespace Go.Proofs.YtojfpogcfpmblaaGreatDoor
open Go Go.RX Go.Proofs.Leaf Go.RowKit Go.ChangeShapes Go.WideShapes Go.ChangeAt
set_option maxRecDepth 100000
theorem own:ownKnob Tryz.prog.godebug = none:=by kernel_rfl
abbrev laid5:List (String×DataW Unit):=Rows.leafFewerRow.laid
theorem tabs_of {W:World} (hL:laidMetH Tryz.prog laid5 W) (hS:W.ShapedOpen Tryz.prog):Tabs W:=by
 rw [MakeChecks.laidMetH_plain _ _ _ (by kernel_rfl)] at hL
 refine ⟨?_,?_⟩
 ·exact Lib.tabIs_of_head (zs:=Lib.pow10Tab) (g:=3) (t:=223) (e:=207) (n:=20) (by kernel_rfl) (by kernel_rfl) Tryz.underlying223 Tryz.underlying207 (by kernel_rfl) (by kernel_rfl) hL.tail.tail
 ·exact Go.Proofs.cell_of_shapedOpen_int (t:=3) (zero:=#[.int .i64 0]) hS (of_decide_eq_true (by kernel_rfl)) (by kernel_rfl) rfl (by kernel_rfl) (by kernel_rfl) Tryz.underlying3
variable {H : Type} {enc : TypeId × Value → H}
theorem trodAll_below {W W':World} (hb:Below W.heap.size W W'):∀ {ts:List TypeId} {vs:List Value} {ds:List (DataW H)} {ps:List MemPlace},(∀ t∈ts,Tryz.prog.readableRec t = true/\t < Tryz.prog.types.size) ->
  DataW.TrodAll enc Tryz.prog W 0 (fun _ => true) true ts vs ds ps->(∀ x∈ps,x.block < W.heap.size)->DataW.TrodAll enc Tryz.prog W' 0 (fun b => decide (b < W.heap.size)) true ts vs ds ps
 | [],[],[],_,_,h,_ => h
 | _ :: _,_ :: _,_ :: _,_,hT,⟨p,q,h1,h2,e⟩,hs => ⟨p,q,Below.trod laidOut (hT _ (List.mem_cons.2 (Or.inl rfl))).1 (hT _ (List.mem_cons.2 (Or.inl rfl))).2 h1 hb (fun x hx => hs x (by rw [e];exact List.mem_append_left _ hx)),
   trodAll_below hb (fun t ht => hT t (List.mem_cons.2 (Or.inr ht))) h2 (fun x hx => hs x (by rw [e];exact List.mem_append_right _ hx)),e⟩
theorem law_ret {os:Os} {f:FuncId} {fn:Func} (s:ChangeSpec) (hv:s.vars = []) (started:os.Started) (noInit:Tryz.prog.inits.idxOf? f = none) (hfn:Tryz.prog.funcs[f]? = some fn) (hres:fn.resultTypes = #[4])
  (hts:∀ t∈fn.params.toList,Tryz.prog.readableRec t = true/\t < Tryz.prog.types.size)
  (hs:∀ ds:List (DataW H),ds.length = fn.params.toList.length->s.fn H (ds ++ []) = { results:=[.lit (.bool true)],args:=ds })
  (witness:∃ (w:World) (tape:Tape) (i:Input),w.os = os/\(w.forCall tape i).Shaped Tryz.prog/\i.vars = []/\Input.okWide Tryz.prog (w.forCall tape i) .any w.heap.size f i /\
   ((s.pre enc Tryz.prog fn [] false (w.forCall tape i).memory i.args/\laidMetH Tryz.prog laid5 (w.forCall tape i).memory)/\sizedMet enc Tryz.prog fn (OpenSpec.ofChange s) false (w.forCall tape i).memory i.args)/\({}:Assume).holds Tryz.prog (lone (Frame.enter Tryz.prog f i.args .normal) [] (w.forCall tape i)))
  (contract:∀ (W:World) (base:Nat) (args:Array Value) (ds:List (DataW H)) (ps:List MemPlace),
   (∀ (j:Nat) t v,fn.params[j]? = some t->args[j]? = some v->Value.okWide Tryz.prog W .any base t v) ->
   DataW.TrodAll enc Tryz.prog W 0 (fun _ => true) true fn.params.toList args.toList ds ps->Tabs W ->
   Calls Tryz.prog f args W fun e W' => e = .returned (.bool true)/\Below W.heap.size W W') :
  ReturnsInHanded {} Tryz.checked os f .any (fun w args => (s.pre enc Tryz.prog fn [] false w args/\laidMetH Tryz.prog laid5 w)/\sizedMet enc Tryz.prog fn (OpenSpec.ofChange s) false w args) (s.post enc Tryz.prog fn false true false false):=by
 refine returnsInHanded_of_calls (C:=Tryz.checked) own started noInit witness ?_
 intro w tape i _ hsh _ hok hpre hholds
 obtain ⟨_,_,_,fn',hfn',_,_,_,_,hval⟩:=hok
 have e:fn' = fn:=Option.some.inj (hfn'.symm.trans hfn)
 subst e
 obtain ⟨⟨⟨ds,gs,before,hw,hc⟩,hx⟩,hz⟩:=hpre
 have hW':=DataW.Whole.of_heap (w':=w.forCall tape i) (by rfl) hw
 have hW:=hW'
 obtain ⟨p,q,hA,hV,rfl,_,_⟩:=hW
 rw [hv] at hV
 obtain ⟨rfl,rfl⟩:=trodVars_none hV
 have hL:laidMetH Tryz.prog laid5 (w.forCall tape i):=hx.of_heap (by rfl)
 refine (contract (w.forCall tape i) w.heap.size i.args ds p hval hA (tabs_of hL hsh)).mono fun e W' ⟨he,hb⟩ => ?_
 subst he
 refine ChangeSpec.post_blind ?_
 have hlen:=(Go.trodAll_length hA).2
 have hsf:=hs ds hlen
 refine ⟨ds,[],_,[],p,[],hW',?_,?_,?_,hb.frame _,fun h => by cases h⟩
 ·rw [hsf,hres]
  exact trodAll_mk1 (shut_bool Tryz.underlying4 _)
 ·rw [hsf]
  exact trodAll_below hb hts hA (fun x hx => by
   have:=hW'.lt x (by simpa using hx)
   exact this)
 ·rw [hsf,hv]
  rfl
end Go.Proofs.YtojfpogcfpmblaaGreatDoor
namespace Go.Proofs.YtojfpogcfpmblaaGreatDoor
open Go Go.RX Go.Proofs.Leaf Go.RowKit Go.ChangeShapes Go.WideShapes Go.ChangeAt
set_option maxRecDepth 100000
abbrev zJ:Value:=.agg #[.int .i64 0,.int .i64 0,.int .i64 0,.int .i64 0,.slice none 0 0,.slice none 0 0]
abbrev zL:Value:=.slice none 0 0
abbrev zZ:Value:=.agg #[.int .i64 0,.int .i64 0]
abbrev zI:Value:=.int .i64 0
abbrev zB:Value:=.bool false
abbrev zT:Value:=.string ByteArray.empty
inductive opens:TypeId->SV->Prop
 | job (J:Job) (h:J.far):opens 25 J.sv
 | ints (l:List Int) (h:l.length<=maxLen):opens 26 (ilS l)
 | int (i:Int) (h0:-9223372036854775808<=i) (h1:i<=9223372036854775807):opens 3 (iS i)
 | bool (b:Bool):opens 4 (bS b)
 | text (x:List UInt8) (h:x.length<=maxLen):opens 9 (.d (.str x))
 | size (a b:Int):opens 62 (spS (a,b))
def argT (t:TypeId):Prop:=t = 25∨t = 26∨t = 3∨t = 4∨t = 9∨t = 62
def opensAll:List TypeId->List SV->Prop
 | [],[] => True
 | t :: ts,A :: As => opens t A/\opensAll ts As
 | _,_ => False
section
variable {H : Type} {enc : TypeId × Value → H} {W : World}
theorem open_one {t:TypeId} {v:Value} {d:DataW H} {ps:List MemPlace} {b0:Nat} (ht:argT t) (hok:Value.okWide Tryz.prog W .any b0 t v)
  (h:DataW.Trod enc Tryz.prog W 0 (fun _ => true) true t v d ps):∃ A,opens t A/\RepS (There W) W v A:=by
 rcases ht with rfl | rfl | rfl | rfl | rfl | rfl
 ·obtain ⟨s,hr,hh⟩:=open_job hok h
  exact ⟨_,.job s hh,hr⟩
 ·obtain ⟨l,hr,hl⟩:=open_ints hok h
  exact ⟨_,.ints l hl,hr⟩
 ·obtain ⟨m,rfl,_,_,hm⟩:=open_int Tryz.underlying3 hok h
  simp [Lit.wf,IntKind.min,IntKind.max,IntKind.signed,IntKind.bits] at hm
  exact ⟨iS m,.int m (by omega) (by omega),fun Y => .d .int⟩
 ·obtain ⟨m,rfl⟩:=okWide_bool Tryz.underlying4 hok
  exact ⟨bS m,.bool m,fun Y => .d .bool⟩
 ·obtain ⟨x,rfl,_,_,hm⟩:=Go.ChangeMaps.open_string Tryz.underlying9 hok h
  refine ⟨.d (.str x.data.toList),.text _ ?_,fun Y => .d (.str rfl)⟩
  have:x.data.toList.length = x.size:=rfl
  omega
 ·obtain ⟨a,b,hr⟩:=open_size hok h
  exact ⟨_,.size a b,hr⟩
theorem open_all {b0:Nat}:∀ {ts:List TypeId} {vs:List Value} {ds:List (DataW H)} {ps:List MemPlace},(∀ t∈ts,argT t) ->
  (∀ (j:Nat) t v,ts[j]? = some t->vs[j]? = some v->Value.okWide Tryz.prog W .any b0 t v)->DataW.TrodAll enc Tryz.prog W 0 (fun _ => true) true ts vs ds ps ->
  ∃ As,opensAll ts As/\vs.length = As.length/\∀ (j:Nat) u s,vs[j]? = some u->As[j]? = some s->RepS (There W) W u s
 | [],vs,ds,ps,_,_,h => by
  obtain ⟨rfl,rfl,rfl⟩:=trodAll_nil h
  exact ⟨[],trivial,rfl,fun j u s h1 _ => by simp at h1⟩
 | t :: ts,vs,ds,ps,hT,hv,h => by
  obtain ⟨v,vs',d,ds',p,q,rfl,rfl,rfl,h1,h2⟩:=trodAll_cons h
  obtain ⟨A,ha,hr⟩:=open_one (hT t (List.mem_cons.2 (.inl rfl))) (hv 0 t v rfl rfl) h1
  obtain ⟨As,hA,hl,hR⟩:=open_all (fun t ht => hT t (List.mem_cons.2 (.inr ht))) (fun j t v a b => hv (j + 1) t v (by simpa using a) (by simpa using b)) h2
  refine ⟨A :: As,⟨ha,hA⟩,by simp [hl],fun j u s a b => ?_⟩
  cases j with
  | zero =>
   simp at a b
   subst a;subst b
   exact hr
  | succ j => exact hR j u s (by simpa using a) (by simpa using b)
theorem read_of {t:TypeId} (ht:argT t):Tryz.prog.readableRec t = true/\t < Tryz.prog.types.size:=by
 rcases ht with rfl | rfl | rfl | rfl | rfl | rfl<;>exact ⟨by kernel_rfl,of_decide_eq_true (by kernel_rfl)⟩
end
theorem opens_job {A:SV} (h:opens 25 A):∃ J:Job,A = J.sv/\J.far:=by cases h;exact ⟨_,rfl,‹_›⟩
theorem opens_ints {A:SV} (h:opens 26 A):∃ l:List Int,A = ilS l/\l.length<=maxLen:=by cases h;exact ⟨_,rfl,‹_›⟩
theorem opens_int {A:SV} (h:opens 3 A):∃ i:Int,A = iS i/\-9223372036854775808<=i/\i<=9223372036854775807:=by cases h;exact ⟨_,rfl,‹_›,‹_›⟩
theorem opens_bool {A:SV} (h:opens 4 A):∃ b:Bool,A = bS b:=by cases h;exact ⟨_,rfl⟩
theorem opens_text {A:SV} (h:opens 9 A):∃ x:List UInt8,A = .d (.str x)/\x.length<=maxLen:=by cases h;exact ⟨_,rfl,‹_›⟩
theorem opens_size {A:SV} (h:opens 62 A):∃ a b:Int,A = spS (a,b):=by cases h;exact ⟨_,_,rfl⟩
theorem law_stand {t:TypeId} {ts:List TypeId} (hts:∀ t∈ts,argT t) (ht:t∈ts):Tryz.prog.wantsStandIn t = false:=by
 rcases hts t ht with rfl | rfl | rfl | rfl | rfl | rfl<;>kernel_rfl
theorem law_ctr {H:Type} {enc:TypeId×Value->H} {os:Os} {f:FuncId} {fn:Func} {ts:List TypeId} (s:ChangeSpec) (hv:s.vars = []) (started:os.Started) (noInit:Tryz.prog.inits.idxOf? f = none) (hfn:Tryz.prog.funcs[f]? = some fn) (hres:fn.resultTypes = #[4])
  (hp:fn.params.toList = ts) (hts:∀ t∈ts,argT t)
  (hs:∀ ds:List (DataW H),ds.length = ts.length->s.fn H (ds ++ []) = { results:=[.lit (.bool true)],args:=ds })
  (witness:∃ (w:World) (tape:Tape) (i:Input),w.os = os/\(w.forCall tape i).Shaped Tryz.prog/\i.vars = []/\Input.okWide Tryz.prog (w.forCall tape i) .any w.heap.size f i /\
   ((s.pre enc Tryz.prog fn [] false (w.forCall tape i).memory i.args/\laidMetH Tryz.prog laid5 (w.forCall tape i).memory)/\sizedMet enc Tryz.prog fn (OpenSpec.ofChange s) false (w.forCall tape i).memory i.args)/\({}:Assume).holds Tryz.prog (lone (Frame.enter Tryz.prog f i.args .normal) [] (w.forCall tape i)))
  (contract:∀ As,opensAll ts As->Ctr Tryz.prog f As (bS true)) :
  ReturnsInHanded {} Tryz.checked os f .any (fun w args => (s.pre enc Tryz.prog fn [] false w args/\laidMetH Tryz.prog laid5 w)/\sizedMet enc Tryz.prog fn (OpenSpec.ofChange s) false w args) (s.post enc Tryz.prog fn false true false false):=by
 subst hp
 refine law_ret s hv started noInit hfn hres (fun t ht => read_of (hts t ht)) hs witness ?_
 intro W base args ds ps hval hA hT
 obtain ⟨As,ho,hl,hR⟩:=open_all (b0:=base) hts (fun j t v a b => hval j t v (by simpa using a) (by simpa using b)) hA
 refine ((contract As ho).2 (There W) W args hT (fun b h => h) (fun b _ e => by cases e) (by simpa using hl) (fun j u s a b => hR j u s (by simpa using a) b)).mono fun e W' ⟨v,he,hr,hb⟩ => ?_
 subst he
 have h0:=hr (fun _ => none)
 cases h0 with
 | d h0 =>
  cases h0
  exact ⟨rfl,hb.os,hb.tape,hb.output,hb.size,fun k hk => hb.block k hk (fun e => by cases e)⟩
end Go.Proofs.YtojfpogcfpmblaaGreatDoor
namespace Go.Proofs.YtojfpogcfpmblaaGreatDoor
open Go Go.RX Go.Proofs.Leaf Go.RowKit Go.ChangeShapes Go.WideShapes Go.ChangeAt
set_option maxRecDepth 100000
theorem init_is:Tryz.prog.initOrder = String.ofList ("harness".toList ++ Char.ofNat 32 :: ("b9e665a4b67ae011e5ed22b8eb226cc6d74f55357845231d1045bbc61717fa8c".toList ++ Char.ofNat 32 :: ("cut".toList ++ Char.ofNat 32 :: [.ofNat 97,.ofNat 116,.ofNat 32,.ofNat 109,.ofNat 97,.ofNat 104,.ofNat 108,.ofNat 115,.ofNat 116,.ofNat 105,.ofNat 99,.ofNat 107,.ofNat 47,.ofNat 109,.ofNat 97,.ofNat 104,.ofNat 108,.ofNat 115,.ofNat 116,.ofNat 105,.ofNat 99,.ofNat 107,.ofNat 108,.ofNat 97,
 .ofNat 119,.ofNat 48,.ofNat 52,.ofNat 46,.ofNat 76,.ofNat 101,.ofNat 97,.ofNat 102,.ofNat 70,.ofNat 101,.ofNat 119,.ofNat 101,.ofNat 114,.ofNat 32,.ofNat 109,.ofNat 97,.ofNat 104,.ofNat 108,.ofNat 115,.ofNat 116,.ofNat 105,.ofNat 99,.ofNat 107,.ofNat 47,
 .ofNat 109,.ofNat 97,.ofNat 104,.ofNat 108,.ofNat 115,.ofNat 116,.ofNat 105,.ofNat 99,.ofNat 107,.ofNat 108,.ofNat 97,.ofNat 119,.ofNat 48,.ofNat 52,.ofNat 46,.ofNat 76,.ofNat 101,.ofNat 97,.ofNat 102,.ofNat 72,.ofNat 97,.ofNat 108,.ofNat 118,.ofNat 101,
 .ofNat 115,.ofNat 32,.ofNat 109,.ofNat 97,.ofNat 104,.ofNat 108,.ofNat 115,.ofNat 116,.ofNat 105,.ofNat 99,.ofNat 107,.ofNat 47,.ofNat 109,.ofNat 97,.ofNat 104,.ofNat 108,.ofNat 115,.ofNat 116,.ofNat 105,.ofNat 99,.ofNat 107,.ofNat 108,.ofNat 97,.ofNat 119,
 .ofNat 48,.ofNat 52,.ofNat 46,.ofNat 76,.ofNat 101,.ofNat 97,.ofNat 102,.ofNat 67,.ofNat 117,.ofNat 116,.ofNat 115,.ofNat 32,.ofNat 109,.ofNat 97,.ofNat 104,.ofNat 108,.ofNat 115,.ofNat 116,.ofNat 105,.ofNat 99,.ofNat 107,.ofNat 47,.ofNat 109,.ofNat 97,
 .ofNat 104,.ofNat 108,.ofNat 115,.ofNat 116,.ofNat 105,.ofNat 99,.ofNat 107,.ofNat 108,.ofNat 97,.ofNat 119,.ofNat 48,.ofNat 52,.ofNat 46,.ofNat 76,.ofNat 101,.ofNat 97,.ofNat 102,.ofNat 67,.ofNat 117,.ofNat 116,.ofNat 116,.ofNat 105,.ofNat 110,.ofNat 103,
 .ofNat 32,.ofNat 109,.ofNat 97,.ofNat 104,.ofNat 108,.ofNat 115,.ofNat 116,.ofNat 105,.ofNat 99,.ofNat 107,.ofNat 47,.ofNat 109,.ofNat 97,.ofNat 104,.ofNat 108,.ofNat 115,.ofNat 116,.ofNat 105,.ofNat 99,.ofNat 107,.ofNat 108,.ofNat 97,.ofNat 119,.ofNat 48,
 .ofNat 52,.ofNat 46,.ofNat 76,.ofNat 101,.ofNat 97,.ofNat 102,.ofNat 83,.ofNat 97,.ofNat 109,.ofNat 101,.ofNat 115,.ofNat 32,.ofNat 109,.ofNat 97,.ofNat 104,.ofNat 108,.ofNat 115,.ofNat 116,.ofNat 105,.ofNat 99,.ofNat 107,.ofNat 47,.ofNat 109,.ofNat 97,
 .ofNat 104,.ofNat 108,.ofNat 115,.ofNat 116,.ofNat 105,.ofNat 99,.ofNat 107,.ofNat 108,.ofNat 97,.ofNat 119,.ofNat 48,.ofNat 52,.ofNat 46,.ofNat 76,.ofNat 101,.ofNat 97,.ofNat 102,.ofNat 65,.ofNat 112,.ofNat 97,.ofNat 114,.ofNat 116,.ofNat 32,.ofNat 109,
 .ofNat 97,.ofNat 104,.ofNat 108,.ofNat 115,.ofNat 116,.ofNat 105,.ofNat 99,.ofNat 107,.ofNat 47,.ofNat 109,.ofNat 97,.ofNat 104,.ofNat 108,.ofNat 115,.ofNat 116,.ofNat 105,.ofNat 99,.ofNat 107,.ofNat 108,.ofNat 97,.ofNat 119,.ofNat 48,.ofNat 52,.ofNat 46,
 .ofNat 76,.ofNat 101,.ofNat 97,.ofNat 102,.ofNat 82,.ofNat 101,.ofNat 115,.ofNat 116,.ofNat 115,.ofNat 32,.ofNat 109,.ofNat 97,.ofNat 104,.ofNat 108,.ofNat 115,.ofNat 116,.ofNat 105,.ofNat 99,.ofNat 107,.ofNat 47,.ofNat 109,.ofNat 97,.ofNat 104,.ofNat 108,
 .ofNat 115,.ofNat 116,.ofNat 105,.ofNat 99,.ofNat 107,.ofNat 108,.ofNat 97,.ofNat 119,.ofNat 48,.ofNat 52,.ofNat 46,.ofNat 76,.ofNat 101,.ofNat 97,.ofNat 102,.ofNat 76,.ofNat 101,.ofNat 102,.ofNat 116,.ofNat 32,.ofNat 109,.ofNat 97,.ofNat 104,.ofNat 108,
 .ofNat 115,.ofNat 116,.ofNat 105,.ofNat 99,.ofNat 107,.ofNat 47,.ofNat 109,.ofNat 97,.ofNat 104,.ofNat 108,.ofNat 115,.ofNat 116,.ofNat 105,.ofNat 99,.ofNat 107,.ofNat 108,.ofNat 97,.ofNat 119,.ofNat 48,.ofNat 52,.ofNat 46,.ofNat 76,.ofNat 101,.ofNat 97,
 .ofNat 102,.ofNat 76,.ofNat 97,.ofNat 121,.ofNat 115,.ofNat 32,.ofNat 109,.ofNat 97,.ofNat 104,.ofNat 108,.ofNat 115,.ofNat 116,.ofNat 105,.ofNat 99,.ofNat 107,.ofNat 47,.ofNat 109,.ofNat 97,.ofNat 104,.ofNat 108,.ofNat 115,.ofNat 116,.ofNat 105,.ofNat 99,
 .ofNat 107,.ofNat 108,.ofNat 97,.ofNat 119,.ofNat 48,.ofNat 52,.ofNat 46,.ofNat 76,.ofNat 101,.ofNat 97,.ofNat 102,.ofNat 69,.ofNat 97,.ofNat 114,.ofNat 108,.ofNat 121,.ofNat 32,.ofNat 109,.ofNat 97,.ofNat 104,.ofNat 108,.ofNat 115,.ofNat 116,.ofNat 105,
 .ofNat 99,.ofNat 107,.ofNat 47,.ofNat 109,.ofNat 97,.ofNat 104,.ofNat 108,.ofNat 115,.ofNat 116,.ofNat 105,.ofNat 99,.ofNat 107,.ofNat 108,.ofNat 97,.ofNat 119,.ofNat 48,.ofNat 52,.ofNat 46,.ofNat 76,.ofNat 101,.ofNat 97,.ofNat 102,.ofNat 87,.ofNat 104,
 .ofNat 101,.ofNat 110,.ofNat 115]))):=by kernel_rfl
theorem words_cons (c:Char) (r:List Char) (h:c ≠ Char.ofNat 32):wordsSigns (c :: r) = match wordsSigns r with | w :: ws => (c :: w) :: ws | [] => [[c]]:=by
 rw [wordsSigns.eq_3 _ _ (by intro e;exact h e)]
 cases wordsSigns r<;>rfl
theorem words_of:∀ (w r:List Char),(∀ c∈w,c ≠ Char.ofNat 32)->wordsSigns (w ++ Char.ofNat 32 :: r) = w :: wordsSigns r
 | [],r,_ => rfl
 | c :: w,r,h => by
  rw [List.cons_append,words_cons _ _ (h c (List.mem_cons.2 (.inl rfl))),words_of w r (fun c hc => h c (List.mem_cons.2 (.inr hc)))]
theorem words_is:∃ ws,wordsSigns Tryz.prog.initOrder.toList = "harness".toList :: "b9e665a4b67ae011e5ed22b8eb226cc6d74f55357845231d1045bbc61717fa8c".toList :: "cut".toList :: ws:=by
 rw [init_is,String.toList_ofList]
 exact ⟨_,by rw [words_of _ _ (by decide +kernel),words_of _ _ (by decide +kernel),words_of _ _ (by decide +kernel)]⟩
theorem behind_of (s:List Char) (ws:List (List Char)) (h:isSumSigns s = true):behindMainWord ("harness".toList :: s :: ws) = ws:=by
 unfold behindMainWord
 simp only [h,beq_self_eq_true,Bool.true_or,Bool.and_self,if_true]
theorem sum_is:isSumSigns "b9e665a4b67ae011e5ed22b8eb226cc6d74f55357845231d1045bbc61717fa8c".toList = true:=by decide +kernel
theorem behind_is:∃ ws,behindMainWord (wordsSigns Tryz.prog.initOrder.toList) = "cut".toList :: ws:=by
 obtain ⟨ws,h⟩:=words_is
 exact ⟨ws,(congrArg behindMainWord h).trans (behind_of _ _ sum_is)⟩
theorem mainIs_of (P:Program) (s:List Char) (ws:List (List Char)) (h:wordsSigns P.initOrder.toList = "harness".toList :: s :: ws) (hs:isSumSigns s = true):P.mainIs = some (true,s):=by
 unfold Program.mainIs
 rw [h]
 simp only [hs,beq_self_eq_true,if_true,Bool.not_true,if_false,Bool.false_eq_true]
theorem main_is:Tryz.prog.mainIs = some (true,"b9e665a4b67ae011e5ed22b8eb226cc6d74f55357845231d1045bbc61717fa8c".toList):=by
 obtain ⟨ws,h⟩:=words_is
 exact mainIs_of _ _ _ h sum_is
theorem strip_cut (ws:List (List Char)):stripLifts liftWords ("cut".toList :: ws) = ([],"cut".toList :: ws):=by
 have e:∀ (l:List String),l.all (fun o => !("cut".toList == o.toList)) = true->stripLifts l ("cut".toList :: ws) = ([],"cut".toList :: ws)
 :=fun l => by
   induction l with
   | nil => intro _;rfl
   | cons o os ih =>
    intro h
    rw [List.all_cons,Bool.and_eq_true] at h
    rw [stripLifts,if_neg (by simpa using h.1)]
    exact ih h.2
 exact e _ (by decide +kernel)
theorem lifts_of (P:Program) (ws:List (List Char)) (h:behindMainWord (wordsSigns P.initOrder.toList) = "cut".toList :: ws):P.headLifts = []:=by
 unfold Program.headLifts
 rw [h,strip_cut]
 simp
theorem later_is:Tryz.prog.laysLater = false:=by kernel_rfl
theorem reflect_is:Tryz.prog.bearsReflect = false:=by kernel_rfl
theorem door_is:Tryz.prog.doorFits [] = true:=by kernel_rfl
theorem ne_gc:("cut".toList == "gc".toList) = false:=by decide +kernel
theorem ne_spec:("cut".toList == "spec".toList) = false:=by decide +kernel
theorem ne_carried:("cut".toList == "carried".toList) = false:=by decide +kernel
theorem enter_of (P:Program) (ws:List (List Char)) (h:behindMainWord (wordsSigns P.initOrder.toList) = "cut".toList :: ws) (h1:P.laysLater = false) (h2:P.bearsReflect = false) (h3:P.doorFits [] = true):P.mayEnter = true:=by
 unfold Program.mayEnter
 rw [h]
 simp only [strip_cut,h1,h2,h3,ne_gc,ne_spec,ne_carried,List.head?_cons,beq_self_eq_true,Bool.not_false,Bool.or_true,Bool.and_self,List.contains_nil,Bool.or_self,Bool.false_and,Bool.false_or]
theorem final_of (P:Program) (ws:List (List Char)) (h:behindMainWord (wordsSigns P.initOrder.toList) = "cut".toList :: ws):P.liftsFinal = false:=by
 unfold Program.liftsFinal
 have e:((some "cut".toList:Option (List Char)) == some "carried".toList) = false:=by decide +kernel
 simp only [h,lifts_of P ws h,List.head?_cons,e,Bool.false_and,Bool.false_or,List.contains_nil]
theorem make_of (P:Program) (ws:List (List Char)) (h:behindMainWord (wordsSigns P.initOrder.toList) = "cut".toList :: ws):P.make = some .cut:=by
 unfold Program.make
 rw [h]
 simp only [ne_gc,ne_spec,beq_self_eq_true,Bool.or_self,Bool.true_or,Bool.false_eq_true,if_false,if_true]
theorem enter_is:Tryz.prog.mayEnter = true:=by
 obtain ⟨ws,h⟩:=behind_is
 exact enter_of _ ws h later_is reflect_is door_is
theorem final_is:Tryz.prog.liftsFinal = false:=by
 obtain ⟨ws,h⟩:=behind_is
 exact final_of _ ws h
theorem make_is:Tryz.prog.make = some .cut:=by
 obtain ⟨ws,h⟩:=behind_is
 exact make_of _ ws h
end Go.Proofs.YtojfpogcfpmblaaGreatDoor
namespace Go.Proofs.Leaf
open Go Go.RX Go.Proofs Go.RowKit
set_option maxRecDepth 100000
theorem plan_mem {J:Job} {may:Bool} {l:List Int} (h:planOf J may = some l):l∈planL (spans J may) []:=List.mem_of_head? h
theorem plan_len {J:Job} {may:Bool} {l:List Int} (h:planOf J may = some l):l.length = J.ps.length:=by
 rw [within_len (plan_iff.1 (plan_mem h)).1,spans_len]
section
end
end Go.Proofs.Leaf
