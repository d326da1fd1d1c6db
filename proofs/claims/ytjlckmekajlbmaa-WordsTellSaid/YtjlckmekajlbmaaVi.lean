/-
  The start of a region that draws, where the world is known by what lies below alone: the region is walked from any such world.
-/
import Derived.Test.YtjlckmekajlbmaaR0
namespace Go.Proofs.Ytjlckmekajlbmaa.H
open Go.RowKit Go.Proofs.YtjlckmekajlbmaaW.PrintWords Go.Proofs.YtjlckmekajlbmaaW.PrintLast Go.Proofs.YtjlckmekajlbmaaW.PrintMore
theorem startB_ {P : Program} {ops : Array Oper} {Q : Exit → Act → World → Prop} {S : World → Prop} {ds : List Nat} {id n b : Nat} {a : Act} {w w0 : World} (l : Array Bool) (hm : P.follows .mixedOrders = true) (hn : ops.size = n) (hl : Array.replicate n false = l) (hb : Below b w0 w)
    (hS : ∀ w', Below b w0 w' → S w') (h : ∀ w', Below b w0 w' → S w' → wpAnyLast P .any ops Q S ds n l a w') : (Code.region id ops true).wp P Q a w :=
  start_ l hm hn hl (hS _ (below_drew1 hb)) (fun hs => h _ (below_drew1 hb) hs)
end Go.Proofs.Ytjlckmekajlbmaa.H
