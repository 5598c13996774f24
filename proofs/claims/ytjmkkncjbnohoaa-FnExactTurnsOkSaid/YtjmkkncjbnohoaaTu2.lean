/- The reference's TurnsOk. -/
import Derived.Test.YtjmkkncjbnohoaaTu
namespace Go.Proofs.Ytjmkkncjbnohoaa
open Go.RowKit
set_option maxHeartbeats 1000000
set_option linter.unusedVariables false
set_option linter.unusedSimpArgs false
theorem sTurnsOk_any (cs : List Value) (t : Tn) (w : World) (h : TnV w cs t) (hs : t.small) :
    Calls Try.prog 34 #[.agg cs.toArray] w fun e w' => e = .returned (.bool (turnsOk t)) ∧ Below w.heap.size w w' := by
  obtain ⟨A1, A2, A3, c1, c2, c3, rfl, h1, h2, h3⟩ := h
  obtain ⟨s1, s2, s3⟩ := hs
  go_enter Try.func34, Try.ntmps34
  by_cases hh : inR t.W.length 1 5 = true ∧ t.L.length = t.W.length ∧ t.T.length = t.W.length ∧ inR t.pos 0 (t.W.length - 1) = true
  · obtain ⟨ha, l1, l2, hd⟩ := hh
    obtain ⟨p1, p2⟩ := (inR_iff _ _ _).1 hd
    have p3 : t.pos < (t.W.length : Int) := by omega
    have HD := Lib.hid hd; clear hd p2
    go_wp2_with (go_at_call 62; refine (xs_l1In_any _ _ _ _).mono ?_; rintro e w' ⟨rfl, rfl⟩)
    have L1 := Lib.hid l1; have L2 := Lib.hid l2; clear l1 l2
    go_loopw [4] (fun i wr => ∃ k : Nat, k ≤ t.W.length ∧ i = .int .i64 k ∧ (∀ j, j < k → okAt t j = true) ∧ ∃ n, wr = (w.alloc (.cells #[.slice A1 t.W.length c1, .slice A2 t.W.length c2, .slice A3 t.W.length c3, .int .i64 t.pos] 43)).drewN n) (fun i _ => t.W.length - (intOf i).toNat)
    case atStart => exact ⟨0, Nat.zero_le _, rfl, fun j hj => by omega, 0, rfl⟩
    case round =>
      obtain ⟨k, hk, rfl, hok, n, rfl⟩ := hrel
      have OK := Lib.hid hok; clear hok
      by_cases hlt : k < t.W.length
      · obtain ⟨ad1, rfl, d1, e1⟩ := ints_at3 h1 hlt
        obtain ⟨ad2, rfl, d2, e2⟩ := ints_at3 h2 (i := k) (by rw [L1.out]; exact hlt)
        obtain ⟨ad3, rfl, d3, e3⟩ := ints_at3 h3 (i := k) (by rw [L2.out]; exact hlt)
        have hok : okAt t k = (inR (t.W.getD k 0) 1 9 && inR (t.L.getD k 0) 0 (t.W.getD k 0) && inR (t.T.getD k 0) 0 99) := rfl
        generalize t.W.getD k 0 = x at d1 hok
        generalize t.L.getD k 0 = y at d2 hok
        generalize t.T.getD k 0 = z at d3 hok
        cases q1 : inR x 1 9 <;> cases q2 : inR y 0 x <;> cases q3 : inR z 0 99
        all_goals
          rw [q1, q2, q3] at hok
          simp only [Bool.false_and, Bool.and_false, Bool.true_and, Bool.and_true] at hok
          have HK := Lib.hid hok; clear hok
          go_wp2
          all_goals refine wp_region_seq (by kernel_rfl) (by kernel_rfl) ?_
          repeat' (first | (refine wpSeq_plain rfl ?_; go_wp2 <;> refine ⟨rfl, ?_⟩) | (refine wpSeq_call rfl (fun K hK => ?_); go_simp; first | refine ⟨_, (same_r (xs_l1In_any _ _ _ _)), hK _ ?_⟩ | refine hK _ ?_))
          all_goals refine wpSeq_nil ?_
          all_goals go_wp2
          first
            | (go_ret; exact ⟨ret_bool (turnsOk_false hlt HK.out).symm, (by repeat' first | (with_reducible assumption) | (with_reducible exact Below.refl _ _) | (with_reducible refine Below.drew ?_) | (with_reducible refine below_drewN ?_ _) | (with_reducible refine Below.alloc ?_ ?_ _) | (with_reducible refine Below.setCell ?_ ?_ _) | (simp; done) | (simp; omega) | omega)⟩)
            | exact ⟨⟨k + 1, by omega, by go_num, fun j hj => by rcases Nat.lt_succ_iff_lt_or_eq.1 hj with h | h; exact OK.out j h; exact h ▸ HK.out, n + 1, rfl⟩, by simp [intOf]; omega⟩
      · obtain hkk : k = t.W.length := by omega
        have hT := Lib.hid (turnsOk_true ha L1.out L2.out HD.out (fun i hi => OK.out i (by omega)))
        go_wp2
        go_ret
        exact ⟨ret_bool hT.out.symm, (by repeat' first | (with_reducible assumption) | (with_reducible exact Below.refl _ _) | (with_reducible refine Below.drew ?_) | (with_reducible refine below_drewN ?_ _) | (with_reducible refine Below.alloc ?_ ?_ _) | (with_reducible refine Below.setCell ?_ ?_ _) | (simp; done) | (simp; omega) | omega)⟩
  · have hF : turnsOk t = false := by
      apply turnsOk_head
      by_cases a : inR t.W.length 1 5 = true
      · by_cases b : t.L.length = t.W.length
        · by_cases c : t.T.length = t.W.length
          · exact .inr (.inr (.inr (by simpa [a, b, c] using hh)))
          · exact .inr (.inr (.inl c))
        · exact .inr (.inl b)
      · exact .inl (by simpa using a)
    have HF := Lib.hid hF; clear hF
    have HH := Lib.hid hh; clear hh
    go_wp2_with (go_at_call 62; refine (xs_l1In_any _ _ _ _).mono ?_; rintro e w' ⟨rfl, rfl⟩)
    all_goals first
      | (go_ret; exact ⟨ret_bool HF.out.symm, (by repeat' first | (with_reducible assumption) | (with_reducible exact Below.refl _ _) | (with_reducible refine Below.drew ?_) | (with_reducible refine below_drewN ?_ _) | (with_reducible refine Below.alloc ?_ ?_ _) | (with_reducible refine Below.setCell ?_ ?_ _) | (simp; done) | (simp; omega) | omega)⟩)
      | exact absurd ⟨by assumption, by omega, by omega, (inR_iff _ _ _).2 ⟨by omega, by omega⟩⟩ HH.out
end Go.Proofs.Ytjmkkncjbnohoaa
