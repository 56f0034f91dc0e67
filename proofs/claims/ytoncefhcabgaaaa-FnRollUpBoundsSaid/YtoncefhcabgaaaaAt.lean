/- The contracts of RollUp, Coarser and MergeBuckets, for an outcome that has a name. -/
import Derived.Test.YtoncefhcabgaaaaCoarse
import Derived.Test.YtoncefhcabgaaaaRoll
import Derived.Test.YtoncefhcabgaaaaMerge
import Derived.Test.YtoncefhcabgaaaaMergeI
namespace Go.Proofs.Ytoncefhcabgaaaa
set_option linter.unusedVariables false
open Go.RowKit
theorem rollI_at (A : Option Addr) (n c : Nat) (l : List Pt) (W : Int) (L : List Bk) (w : World) (h : Rd w 2 A n c (pc l)) (hv : rollV W l = L) :
    Calls Try.prog 9 #[.slice A n c, .int .i64 W] w (Rolled L w) := by
  subst hv
  exact rollI_any A n c l W w h
theorem rollS_at (A : Option Addr) (n c : Nat) (l : List Pt) (W : Int) (L : List Bk) (w : World) (h : Rd w 2 A n c (pc l)) (hv : rollV W l = L) :
    Calls Try.prog 11 #[.slice A n c, .int .i64 W] w (Rolled L w) := by
  subst hv
  exact rollS_any A n c l W w h
theorem mergeI_at (A B : Option Addr) (na ca nb cb : Nat) (a b : List Bk) (W : Int) (L : List Bk) (v : Bool) (w : World) (h1 : Rd w 5 A na ca (bkc a)) (h2 : Rd w 5 B nb cb (bkc b)) (hv : mrgV W a b = (L, v)) :
    Calls Try.prog 14 #[.slice A na ca, .slice B nb cb, .int .i64 W] w (Coarsed (L, v) w) := by
  rw [← hv]
  exact mergeI_any A B na ca nb cb a b W w h1 h2
theorem mergeS_at (A B : Option Addr) (na ca nb cb : Nat) (a b : List Bk) (W : Int) (L : List Bk) (v : Bool) (w : World) (h1 : Rd w 5 A na ca (bkc a)) (h2 : Rd w 5 B nb cb (bkc b)) (hv : mrgV W a b = (L, v)) :
    Calls Try.prog 15 #[.slice A na ca, .slice B nb cb, .int .i64 W] w (Coarsed (L, v) w) := by
  rw [← hv]
  exact mergeS_any A B na ca nb cb a b W w h1 h2
end Go.Proofs.Ytoncefhcabgaaaa
