/- Cache: both programs. -/
import Derived.Test.YtbegbdfbfbkflaaCch
namespace Go.Proofs.Ytbegbdfbfbkflaa
open Go.RowKit
set_option maxHeartbeats 4000000
set_option maxRecDepth 20000
set_option linter.unusedVariables false
set_option linter.unusedSimpArgs false
attribute [local irreducible] Calls
def isRow (t no : Int) (x : CRow) : Bool := (x.tenant == t) && (x.no == no)
def ofT (t : Int) (x : CRow) : Bool := x.tenant == t
def okC0 (x : DCache) : Bool := !(!inB x.cap 1 8 || decide (x.cap < (x.R.length : Int)))
def okCi (R : List CRow) (k : Nat) : Bool := !(decide (100 < ((nth R k).text.size : Int)) || (ixP (isRow (nth R k).tenant (nth R k).no) R != (k : Int)))
def fCacheOk (x : DCache) : Bool := okC0 x && (List.range x.R.length).all (okCi x.R)
end Go.Proofs.Ytbegbdfbfbkflaa
