/-
  Contracts, part 29. No condition.
-/
import Derived.Test.YtmpnbmedikkggaaB27
set_option linter.all false
namespace Go.Proofs.Leaf
open Go Go.RX Go.Proofs
set_option maxRecDepth 10000
section
abbrev plCs (J:Job) (hf km:Nat) (ck:Nat->DV) (pieces:List Int) (l:Nat) (us:Array Value):List SV :=
 [.d (.ref 1 (dget [slD 1 intD pieces])),.d (.ref 1 (dget [.raw (.func (.yield l) #[] #[])])),.d (.ref 1 (dget [.clo hf km ck])),.d J.ref,.d (.ref 1 (dget [.raw (.func (.func 54) #[] us)]))]
abbrev plG (J:Job) (hf km:Nat) (ck:Nat->DV) (pieces:List Int) (l:Nat) (us:Array Value) (Jq Jx:Jt) (n:Nat) (hJ:Stab Jq) (hJx:Stab Jx):Gst :=
 itG (fun _ => False) Jq Jx n us (plCs J hf km ck pieces l us) (fun _ e => by cases e) hJ hJx
end
end Go.Proofs.Leaf
