/- CacheGet of the reference. -/
import Derived.Test.YtbegbdfbfbkflaaCge
namespace Go.Proofs.Ytbegbdfbfbkflaa
open Go.RowKit
set_option maxHeartbeats 4000000
set_option maxRecDepth 20000
set_option linter.unusedVariables false
set_option linter.unusedSimpArgs false
theorem rds_head {H : List HObj} {G : List World} {α : Type} [Dat α] {A : Option Addr} {L : List α} (h : Rds H G A (fl L)) (i : Nat) : Rds H G A (fl (L.take i)) := fun base w0 w hw => by
  rw [← fl_take]; exact (h base w0 w hw).take _
attribute [local irreducible] Calls
def Cache_rdc (w : World) (x : DCache) (y : Ys) : Prop := Cache_rd w x y ∧ x.R.length ≤ (y 0).c
theorem get_le (x : DCache) (t no : Int) (load : ByteArray) : (fCacheGet x t no load).1.R.length ≤ x.R.length + 1 := by
  unfold fCacheGet
  cases fCacheOk x
  · simp
  · simp only [cond_true]
    split
    · simp only [List.length_append, List.length_take, List.length_drop, List.length_cons, List.length_nil]; omega
    · split
      · simp
      · unfold putR
        split <;> simp
theorem CacheGet_lim (x : DCache) (t no : Int) (load : ByteArray) (hs : Cache_sm x) (ht : -9223372036854775808 ≤ t ∧ t ≤ 9223372036854775807) (hn : -9223372036854775808 ≤ no ∧ no ≤ 9223372036854775807) (hl : load.size ≤ 1048576) : Cache_lim (fCacheGet x t no load).1 := by
  have := get_le x t no load
  have h1 := hs.1
  unfold Cache_lim
  omega
end Go.Proofs.Ytbegbdfbfbkflaa
