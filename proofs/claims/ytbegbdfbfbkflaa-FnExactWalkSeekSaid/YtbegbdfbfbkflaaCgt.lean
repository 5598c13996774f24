/- CacheGet and CacheWipe of both programs. -/
import Derived.Test.YtbegbdfbfbkflaaCag
namespace Go.Proofs.Ytbegbdfbfbkflaa
open Go.RowKit
set_option maxHeartbeats 4000000
set_option maxRecDepth 20000
set_option linter.unusedVariables false
set_option linter.unusedSimpArgs false
attribute [local irreducible] Calls
/-- What stays when a tenant is wiped out. -/
def keepR (R : List CRow) (t : Int) : List CRow := R.filter (fun x => !ofT t x)
def fCacheWipe (x : DCache) (t : Int) : DCache × Int := bif fCacheOk x then (⟨x.cap, keepR x.R t⟩, (x.R.length : Int) - ((keepR x.R t).length : Int)) else (⟨0, []⟩, 0)
theorem keep_le (R : List CRow) (t : Int) : (keepR R t).length ≤ R.length := List.length_filter_le _ _
theorem WOk.rowNil {base : Nat} {w0 w : World} {H : List HObj} {G : List World} (e sz : Nat) (hw : WOk base w0 H G w) : WOk base w0 (.row e sz none 0 0 [] :: H) G w :=
  hw.grow (Hn := [.row e sz none 0 0 []]) (Gn := []) (Below.refl _ _) (NewOk.one (x := .row e sz none 0 0 []) (Own.nil w _ e sz))
theorem keep_step {R : List CRow} {t : Int} {k : Nat} (h : k < R.length) : keepR (R.take (k + 1)) t = if ofT t (nth R k) = true then keepR (R.take k) t else keepR (R.take k) t ++ [nth R k] := by
  unfold keepR
  rw [takeN h, List.filter_append]
  cases hh : ofT t (nth R k) <;> simp [hh]
structure WipI (R : List CRow) where
  k : Nat
  A : Option Addr
  c : Nat
  hk : k ≤ R.length
theorem CacheWipe_lim (x : DCache) (t : Int) (hs : Cache_sm x) (ht : -9223372036854775808 ≤ t ∧ t ≤ 9223372036854775807) : Cache_lim (fCacheWipe x t).1 := by
  have := keep_le x.R t
  have h1 := hs.1
  unfold fCacheWipe
  cases fCacheOk x
  · show (0 : Nat) ≤ _; omega
  · show (keepR x.R t).length ≤ _; omega
end Go.Proofs.Ytbegbdfbfbkflaa
