/- The plain laws of FnRanges: keys in an intersection of ranges; prefixes and their ends. -/
import Derived.Test.YtjmkkncjbnohoaaDr
import Derived.Test.YtjmkkncjbnohoaaRg
import Derived.Test.YtjmkkncjbnohoaaPE
namespace Go.Proofs.Ytjmkkncjbnohoaa
open Go.RowKit
set_option maxHeartbeats 400000
set_option linter.unusedVariables false
set_option linter.unusedSimpArgs false
def rgUp (k b : ByteArray) : Bool := sEmp b || sLt k b
def rgIn (a b c d k : ByteArray) : Bool := !sLt k a && rgUp k b && (!sLt k c && rgUp k d)
theorem rgMax_in (a c k : ByteArray) : sLt k (rgMax a c) = (sLt k a || sLt k c) := by
  unfold rgMax
  split
  · rename_i h
    cases h1 : sLt k a
    · simp
    · simp [sLt_trans h1 h]
  · rename_i h
    have h' : sLt a c = false := by simpa using h
    cases h1 : sLt k c
    · simp
    · rcases sLt_tri k a with h2 | h2 | h2
      · simp [h2]
      · rw [tl_inj h2] at h1; rw [h1] at h'; cases h'
      · rw [sLt_trans h2 h1] at h'; cases h'
theorem rgLesser_in (b d k : ByteArray) : rgUp k (rgLesser b d) = (rgUp k b && rgUp k d) := by
  unfold rgLesser rgUp
  cases hb : sEmp b
  · cases hd : sEmp d
    · cases h : sLt d b
      · simp [hb]
        intro h1
        rcases sLt_tri d b with h2 | h2 | h2
        · rw [h] at h2; cases h2
        · rw [tl_inj h2]; exact h1
        · exact sLt_trans h1 h2
      · simp [hd]
        intro h1
        exact sLt_trans h1 h
    · simp [hb]
  · simp
theorem rgEmpty_no {a b k : ByteArray} (h : rgEmpty a b = true) : (!sLt k a && rgUp k b) = false := by
  have := not_rgEmpty a b
  rw [h] at this
  simp [rgIs] at this
  obtain ⟨h1, h2⟩ := this
  unfold rgUp
  rw [h1]
  cases h3 : sLt k a
  · simp
    cases h4 : sLt k b
    · rfl
    · rcases sLt_tri a k with h5 | h5 | h5
      · rw [sLt_trans h5 h4] at h2; cases h2
      · rw [tl_inj h5, h4] at h2; cases h2
      · rw [h5] at h3; cases h3
  · simp
theorem rgIn_ov (a b c d k : ByteArray) : rgIn a b c d k = (!sLt k (rgMax a c) && rgUp k (rgLesser b d)) := by
  rw [rgMax_in, rgLesser_in]
  unfold rgIn
  cases sLt k a <;> cases rgUp k b <;> cases sLt k c <;> cases rgUp k d <;> rfl
theorem rgIn_no {a b c d k : ByteArray} (h : rgOv a b c d = false) : rgIn a b c d k = false := by
  unfold rgOv at h
  cases h1 : rgEmpty a b
  · cases h2 : rgEmpty c d
    · rw [h1, h2] at h
      simp at h
      rw [rgIn_ov]
      exact rgEmpty_no h
    · unfold rgIn; rw [rgEmpty_no (k := k) h2]; simp
  · unfold rgIn; rw [rgEmpty_no (k := k) h1]; simp
def bgn (a s : ByteArray) : Bool := decide (a.size ≤ s.size) && ((s.extract 0 a.size).toList == a.toList)
theorem begins_any (a s : ByteArray) (ha : a.size ≤ maxLen) (hs : s.size ≤ maxLen) (w : World) :
    Calls Try.prog 40 #[.string a, .string s] w fun e w' => e = .returned (.bool (bgn a s)) ∧ w = w' := by
  unfold maxLen at ha hs
  go_enter Try.func40, Try.ntmps40
  by_cases h : (a.size : Int) ≤ (s.size : Int)
  · go_wp2
    go_ret
    refine ⟨?_, rfl⟩
    have h' : a.size ≤ s.size := by omega
    simp [bgn, h']
  · go_wp2
    go_ret
    refine ⟨?_, rfl⟩
    have h' : ¬ a.size ≤ s.size := by omega
    simp [bgn, h']
theorem keyNext_any (a : ByteArray) (ha : a.size ≤ 3) (w : World) :
    Calls Try.prog 16 #[.string a] w fun e w' => e = .returned (.string (a ++ ⟨#[0]⟩)) ∧ w = w' := by
  have hs : ¬ 9223372036854775807 < a.size + 1 := by omega
  go_enter Try.func16, Try.ntmps16
  go_wp2
  go_ret
  exact ⟨rfl, rfl⟩
def ks12 (a c : ByteArray) : List ByteArray := [⟨#[]⟩, ⟨#[97]⟩, ⟨#[97, 98]⟩, ⟨#[98]⟩, ⟨#[98, 0]⟩, ⟨#[99]⟩, ⟨#[255]⟩, ⟨#[122, 122]⟩, a, c, a ++ ⟨#[0]⟩, c ++ ⟨#[120]⟩]
def law2 (a k : ByteArray) : Bool := decide (k.size ≤ 10) && (bgn a k == (!sLt k a && (sEmp (pe a) && bgn a k || !sEmp (pe a) && sLt k (pe a))))
theorem law2_all : (keys11.all fun a => keys11.all fun c => (ks12 a c).all fun k => law2 a k) = true := by decide +kernel
def law3 (a : ByteArray) : Bool := sLt a (a ++ ⟨#[0]⟩) && (sEmp (pe a) || sLt a (pe a) && !bgn a (pe a)) && decide (a.size ≤ 3) && decide ((pe a).size ≤ 10)
theorem law3_all : (keys11.all fun a => law3 a) = true := by decide +kernel
end Go.Proofs.Ytjmkkncjbnohoaa
