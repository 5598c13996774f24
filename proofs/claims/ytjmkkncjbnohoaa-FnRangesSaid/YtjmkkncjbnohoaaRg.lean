/- Contracts of the functions on ranges of keys: lesser, isRange, l26Bounds, l26Empty, Clip, Overlap. -/
import Derived.Test.YtjmkkncjbnohoaaRows
import Derived.Test.YtjmkkncjbnohoaaStr
import Derived.WalkKit
import Derived.WalkSpells
import Derived.WalkLawsBesides
namespace Go.Proofs.Ytjmkkncjbnohoaa
open Go.RowKit
set_option maxHeartbeats 400000
set_option linter.unusedVariables false
set_option linter.unusedSimpArgs false

def rgLesser (b d : ByteArray) : ByteArray := if sEmp b || (!sEmp d && sLt d b) then d else b
def rgIs (l h : ByteArray) : Bool := sEmp h || sLt l h
def rgEmpty (a b : ByteArray) : Bool := !sEmp b && (sLt b a || sEq b a)
def rgMax (a c : ByteArray) : ByteArray := if sLt a c then c else a
def rgOv (a b c d : ByteArray) : Bool := !rgEmpty a b && !rgEmpty c d && !rgEmpty (rgMax a c) (rgLesser b d)

theorem lesser_any (b d : ByteArray) (w : World) :
    Calls Try.prog 56 #[.string b, .string d] w fun e w' => e = .returned (.string (rgLesser b d)) ∧ w = w' := by
  go_enter Try.func56, Try.ntmps56
  go_wp2
  all_goals (go_ret; refine ⟨?_, rfl⟩; simp_all [rgLesser, sEmp, sLt])
theorem isRange_any (l h : ByteArray) (w : World) :
    Calls Try.prog 57 #[.string l, .string h] w fun e w' => e = .returned (.bool (rgIs l h)) ∧ w = w' := by
  go_enter Try.func57, Try.ntmps57
  go_wp2
  all_goals (go_ret; refine ⟨?_, rfl⟩; simp_all [rgIs, sEmp, sLt])
theorem empty_any (l h : ByteArray) (w : World) :
    Calls Try.prog 55 #[.string l, .string h] w fun e w' => e = .returned (.bool (rgEmpty l h)) ∧ w = w' := by
  go_enter Try.func55, Try.ntmps55
  go_wp2
  all_goals (go_ret; refine ⟨?_, rfl⟩; simp_all [rgEmpty, sEmp, sLt, sEq])
theorem rgMax_of (a c : ByteArray) : (((!Op.bytesLess c.toList a.toList) = true ∧ (!c.toList == a.toList) = true) → rgMax a c = c) ∧ (((!Op.bytesLess c.toList a.toList) = false ∨ (!c.toList == a.toList) = false) → rgMax a c = a) := by
  unfold rgMax
  constructor
  · rintro ⟨h1, h2⟩
    rcases sLt_tri a c with h | h | h
    · rw [if_pos h]
    · simp [h] at h2
    · unfold sLt at h; simp [h] at h1
  · rintro (h | h)
    · have h' : sLt c a = true := by simpa [sLt] using h
      rw [if_neg (by simp [sLt_asymm h'])]
    · have h' : c.toList = a.toList := by simpa using h
      rw [tl_inj h', if_neg (by simp [sLt_irrefl])]
theorem bounds_any (a b c d : ByteArray) (w : World) :
    Calls Try.prog 54 #[.string a, .string b, .string c, .string d] w fun e w' => e = .returned (.tuple #[.string (rgMax a c), .string (rgLesser b d)]) ∧ w = w' := by
  go_enter Try.func54, Try.ntmps54
  go_wp2
  all_goals (go_ret2; refine ⟨?_, rfl⟩; first | rw [(rgMax_of a c).1 (by assumption)] | rw [(rgMax_of a c).2 (by assumption)])
  all_goals simp_all [rgLesser, sEmp, sLt]
theorem sOverlap_any (a b c d : ByteArray) (w : World) :
    Calls Try.prog 19 #[.string a, .string b, .string c, .string d] w fun e w' => e = .returned (.bool (rgOv a b c d)) ∧ w = w' := by
  go_enter Try.func19, Try.ntmps19
  cases h1 : rgEmpty a b <;> cases h2 : rgEmpty c d
  all_goals
    go_wp2_with (first | (go_at_call 54; refine (bounds_any _ _ _ _ _).mono ?_; rintro e w' ⟨rfl, rfl⟩) | (go_at_call 55; refine (empty_any _ _ _).mono ?_; rintro e w' ⟨rfl, rfl⟩))
    go_ret
    refine ⟨?_, rfl⟩
    simp [rgOv, h1, h2]
def rgClip (a b c d : ByteArray) : Value := if rgOv a b c d then .tuple #[.string (rgMax a c), .string (rgLesser b d), .bool true] else .tuple #[.string ⟨#[]⟩, .string ⟨#[]⟩, .bool false]
theorem sClip_any (a b c d : ByteArray) (w : World) :
    Calls Try.prog 21 #[.string a, .string b, .string c, .string d] w fun e w' => e = .returned (rgClip a b c d) ∧ w = w' := by
  go_enter Try.func21, Try.ntmps21
  cases h1 : rgOv a b c d
  all_goals
    go_wp2_with (first | (go_at_call 54; refine (bounds_any _ _ _ _ _).mono ?_; rintro e w' ⟨rfl, rfl⟩) | (go_at_call 19; refine (sOverlap_any _ _ _ _ _).mono ?_; rintro e w' ⟨rfl, rfl⟩))
    go_ret3
    refine ⟨?_, rfl⟩
    simp [rgClip, h1]
theorem not_rgEmpty (x y : ByteArray) : (!rgEmpty x y) = rgIs x y := by
  unfold rgEmpty rgIs sEq
  cases he : sEmp y
  · simp only [Bool.not_false, Bool.true_and, Bool.false_or]
    rcases sLt_tri x y with h | h | h
    · rw [h, sLt_asymm h]
      cases hq : (y.toList == x.toList) with
      | false => rfl
      | true => rw [tl_inj (eq_of_beq hq), sLt_irrefl] at h; cases h
    · have := tl_inj h; subst this; simp [sLt_irrefl]
    · rw [h, sLt_asymm h]; simp
  · simp
theorem rgIs_mono {x y lo hi : ByteArray} (h1 : sLt lo x = false) (h2 : sEmp y = true ∨ (sEmp hi = false ∧ sLt y hi = false)) (h : rgIs lo hi = true) : rgIs x y = true := by
  unfold rgIs at *
  rcases h2 with h2 | ⟨h2, h3⟩
  · simp [h2]
  · rw [h2, Bool.false_or] at h
    have hx : sLt x hi = true := by
      rcases sLt_tri x lo with h4 | h4 | h4
      · exact sLt_trans h4 h
      · rw [tl_inj h4]; exact h
      · rw [h4] at h1; cases h1
    have : sLt x y = true := by
      rcases sLt_tri hi y with h4 | h4 | h4
      · exact sLt_trans hx h4
      · rw [← tl_inj h4]; exact hx
      · rw [h4] at h3; cases h3
    simp [this]
theorem rgMax_ge (a c : ByteArray) : sLt (rgMax a c) a = false ∧ sLt (rgMax a c) c = false := by
  unfold rgMax
  split
  · rename_i h; exact ⟨sLt_asymm h, sLt_irrefl c⟩
  · rename_i h; exact ⟨sLt_irrefl a, by simpa using h⟩
theorem rgLesser_le (b d : ByteArray) : (sEmp b = true ∨ (sEmp (rgLesser b d) = false ∧ sLt b (rgLesser b d) = false)) ∧ (sEmp d = true ∨ (sEmp (rgLesser b d) = false ∧ sLt d (rgLesser b d) = false)) := by
  unfold rgLesser
  cases hb : sEmp b <;> cases hd : sEmp d <;> simp [hb, hd, sLt_irrefl]
  cases h : sLt d b
  · simp [hb, sLt_irrefl, h]
  · simp [hd, sLt_irrefl, sLt_asymm h]
theorem rg_is_ov (a b c d : ByteArray) : rgIs (rgMax a c) (rgLesser b d) = rgOv a b c d := by
  unfold rgOv
  simp only [not_rgEmpty]
  cases h : rgIs (rgMax a c) (rgLesser b d)
  · simp
  · rw [rgIs_mono (rgMax_ge a c).1 (rgLesser_le b d).1 h, rgIs_mono (rgMax_ge a c).2 (rgLesser_le b d).2 h]; rfl
@[go_sem] theorem run_max_str (P : Program) (ts : Array TypeId) (t : TypeId) (x y : ByteArray) (w : World) : (Builtin.max_ ts t #[.string x, .string y]).run P w = .ok (.string (rgMax x y)) w := by
  have e : (if Op.bytesLess x.toList y.toList = false then x else y) = rgMax x y := by
    unfold rgMax sLt; cases Op.bytesLess x.toList y.toList <;> rfl
  simp [Builtin.max_, Builtin.max2, Op.stringOp, asBool, e]
theorem iClip_any (a b c d : ByteArray) (w : World) :
    Calls Try.prog 22 #[.string a, .string b, .string c, .string d] w fun e w' => e = .returned (rgClip a b c d) ∧ w = w' := by
  go_enter Try.func22, Try.ntmps22
  go_wp2_with (first | (go_at_call 56; refine (lesser_any _ _ _).mono ?_; rintro e w' ⟨rfl, rfl⟩) | (go_at_call 57; refine (isRange_any _ _ _).mono ?_; rintro e w' ⟨rfl, rfl⟩))
  all_goals
    go_ret3
    refine ⟨?_, rfl⟩
    simp_all [rgClip, rg_is_ov]
theorem iOverlap_any (a b c d : ByteArray) (w : World) :
    Calls Try.prog 20 #[.string a, .string b, .string c, .string d] w fun e w' => e = .returned (.bool (rgOv a b c d)) ∧ w = w' := by
  go_enter Try.func20, Try.ntmps20
  cases h1 : rgOv a b c d
  all_goals
    go_wp2_with (first | (go_at_call 22; refine (iClip_any _ _ _ _ _).mono ?_; rintro e w' ⟨he, rfl⟩; simp only [rgClip, h1, if_true, Bool.false_eq_true, if_false] at he; subst he))
    go_ret
    exact ⟨rfl, rfl⟩
end Go.Proofs.Ytjmkkncjbnohoaa
