/- The contracts of RollUp, Coarser and MergeBuckets, for an outcome that has a name. -/
import Derived.Test.YtmokolccohobpaaCoarse
import Derived.Test.YtmokolccohobpaaRoll
import Derived.Test.YtmokolccohobpaaMerge
import Derived.Test.YtmokolccohobpaaMergeI
namespace Go.Proofs.Ytmokolccohobpaa
set_option linter.unusedVariables false
open Go.RowKit
theorem rollI_at (A : Option Addr) (n c : Nat) (l : List Pt) (W : Int) (L : List Bk) (w : World) (h : Rd w 2 A n c (pc l)) (hv : rollV W l = L) :
    Calls Try.prog 25 #[.slice A n c, .int .i64 W] w (Rolled L w) := by
  subst hv
  exact rollI_any A n c l W w h
theorem rollS_at (A : Option Addr) (n c : Nat) (l : List Pt) (W : Int) (L : List Bk) (w : World) (h : Rd w 2 A n c (pc l)) (hv : rollV W l = L) :
    Calls Try.prog 27 #[.slice A n c, .int .i64 W] w (Rolled L w) := by
  subst hv
  exact rollS_any A n c l W w h
theorem coarI_at (A : Option Addr) (n c : Nat) (l : List Bk) (W T : Int) (L : List Bk) (b : Bool) (w : World) (h : Rd w 5 A n c (bkc l)) (hv : coarV W T l = (L, b)) :
    Calls Try.prog 30 #[.slice A n c, .int .i64 W, .int .i64 T] w (Coarsed (L, b) w) := by
  rw [← hv]
  exact coarI_any A n c l W T w h
theorem coarS_at (A : Option Addr) (n c : Nat) (l : List Bk) (W T : Int) (L : List Bk) (b : Bool) (w : World) (h : Rd w 5 A n c (bkc l)) (hv : coarV W T l = (L, b)) :
    Calls Try.prog 31 #[.slice A n c, .int .i64 W, .int .i64 T] w (Coarsed (L, b) w) := by
  rw [← hv]
  exact coarS_any A n c l W T w h
theorem mergeI_at (A B : Option Addr) (na ca nb cb : Nat) (a b : List Bk) (W : Int) (L : List Bk) (v : Bool) (w : World) (h1 : Rd w 5 A na ca (bkc a)) (h2 : Rd w 5 B nb cb (bkc b)) (hv : mrgV W a b = (L, v)) :
    Calls Try.prog 34 #[.slice A na ca, .slice B nb cb, .int .i64 W] w (Coarsed (L, v) w) := by
  rw [← hv]
  exact mergeI_any A B na ca nb cb a b W w h1 h2
theorem mergeS_at (A B : Option Addr) (na ca nb cb : Nat) (a b : List Bk) (W : Int) (L : List Bk) (v : Bool) (w : World) (h1 : Rd w 5 A na ca (bkc a)) (h2 : Rd w 5 B nb cb (bkc b)) (hv : mrgV W a b = (L, v)) :
    Calls Try.prog 35 #[.slice A na ca, .slice B nb cb, .int .i64 W] w (Coarsed (L, v) w) := by
  rw [← hv]
  exact mergeS_any A B na ca nb cb a b W w h1 h2
end Go.Proofs.Ytmokolccohobpaa
