/- CacheGet of both programs. -/
import Derived.Test.YtbegbdfbfbkflaaCgt
import Derived.Test.YtbegbdfbfbkflaaEng11
namespace Go.Proofs.Ytbegbdfbfbkflaa
open Go.RowKit
set_option maxHeartbeats 4000000
set_option maxRecDepth 20000
set_option linter.unusedVariables false
set_option linter.unusedSimpArgs false
attribute [local irreducible] Calls
/-- What getting gives: hit, too long, or new. -/
def putR (R : List CRow) (cap : Int) (x : CRow) : List CRow := (if ((R.length : Int) = cap) then R.drop 1 else R) ++ [x]
def fCacheGet (x : DCache) (t no : Int) (load : ByteArray) : DCache × ByteArray × Bool :=
  bif fCacheOk x then
    if 0 ≤ ixP (isRow t no) x.R then (⟨x.cap, (x.R.take (ixP (isRow t no) x.R).toNat ++ x.R.drop ((ixP (isRow t no) x.R).toNat + 1)) ++ [nth x.R (ixP (isRow t no) x.R).toNat]⟩, (nth x.R (ixP (isRow t no) x.R).toNat).text, true)
    else if 100 < load.size then (x, load, false) else (⟨x.cap, putR x.R x.cap ⟨t, no, load⟩⟩, load, false)
  else (⟨0, []⟩, load, false)
end Go.Proofs.Ytbegbdfbfbkflaa
