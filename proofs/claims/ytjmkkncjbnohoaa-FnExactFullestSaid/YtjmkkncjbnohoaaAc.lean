/- Walks of Fullest and TotalOf. -/
import Derived.Test.YtjmkkncjbnohoaaSl
namespace Go.Proofs.Ytjmkkncjbnohoaa
open Go.RowKit
set_option maxHeartbeats 400000
set_option linter.unusedVariables false
set_option linter.unusedSimpArgs false
def fuStep (s : Int × Int × Bool) (a : Acc) : Int × Int × Bool := if s.2.2 = true ∨ wrap64 (a.quota - a.bytes) < s.2.1 then (a.tenant, wrap64 (a.quota - a.bytes), false) else (s.1, s.2.1, false)
def fuAll (l : List Acc) : Int × Int × Bool := l.foldl fuStep (0, 0, true)
theorem take_snoc' {α : Type} (l : List α) (k : Nat) (h : k < l.length) : l.take (k + 1) = l.take k ++ [l[k]] := by
  rw [List.take_succ_eq_append_getElem h]
theorem fuAll_snoc {l : List Acc} {k : Nat} {b t : Int} (hk : k < l.length) (hf : fuAll (l.take k) = (b, t, k == 0)) :
    (((k : Int) == 0) = true ∨ wrap64 (l[k].quota - l[k].bytes) < t → fuAll (l.take (k + 1)) = (l[k].tenant, wrap64 (l[k].quota - l[k].bytes), k + 1 == 0)) ∧
    (¬ (((k : Int) == 0) = true ∨ wrap64 (l[k].quota - l[k].bytes) < t) → fuAll (l.take (k + 1)) = (b, t, k + 1 == 0)) := by
  unfold fuAll at *
  rw [take_snoc' l k hk, List.foldl_append, hf]
  simp only [List.foldl_cons, List.foldl_nil, fuStep]
  have e : ((k == 0) = true) ↔ (((k : Int) == 0) = true) := by simp only [beq_iff_eq]; omega
  have e2 : (k + 1 == 0) = false := by simp
  rw [e2]
  exact ⟨fun h => by rw [if_pos (by rwa [e])], fun h => by rw [if_neg (by rwa [e])]⟩
theorem sFullest_any (A : Option Addr) (c : Nat) (l : List Acc) (w : World) (h : Rd w A (l.flatMap Acc.cells)) (hl : l.length ≤ 1048576) :
    Calls Try.prog 31 #[.slice A l.length c] w fun e w' => e = .returned (.int .i64 (fuAll l).1) ∧ Below w.heap.size w w' := by
  go_enter Try.func31, Try.ntmps31
  go_wp2
  go_loopw [3, 4, 5] (fun b t i wr => ∃ (k : Nat) (bn tn : Int), k ≤ l.length ∧ b = .int .i64 bn ∧ t = .int .i64 tn ∧ i = .int .i64 k ∧ fuAll (l.take k) = (bn, tn, k == 0) ∧ ∃ n, wr = w.drewN n) (fun _ _ i _ => l.length - (intOf i).toNat)
  case atStart => exact ⟨0, 0, 0, Nat.zero_le _, rfl, rfl, rfl, rfl, 0, rfl⟩
  case round =>
    obtain ⟨k, bn, tn, hk, rfl, rfl, rfl, hf, n, rfl⟩ := hrel
    have F := Lib.hid hf; clear hf
    by_cases hlt : k < l.length
    · obtain ⟨ad, rfl, c0, c1, c2, c3, c4⟩ := Acc.at_ h hlt
      have S := fuAll_snoc hlt F.out
      have S1 := Lib.hid S.1; have S2 := Lib.hid S.2; clear S F
      cases hz : ((k : Int) == 0)
      all_goals
        go_wp2
        all_goals refine wp_region_seq (by kernel_rfl) (by kernel_rfl) ?_
        repeat' (refine wpSeq_plain rfl ?_; go_wp2 <;> refine ⟨rfl, ?_⟩)
        all_goals refine wpSeq_nil ?_
        all_goals go_wp2
        all_goals first
          | exact ⟨⟨k + 1, _, _, by omega, rfl, rfl, by go_num, S1.out (by first | exact .inl hz | (right; assumption)), n + 1, rfl⟩, by simp [intOf]; omega⟩
          | exact ⟨⟨k + 1, _, _, by omega, rfl, rfl, by go_num, S2.out (by rw [hz]; simp; omega), n + 1, rfl⟩, by simp [intOf]; omega⟩
    · obtain rfl : k = l.length := by omega
      rw [List.take_length] at F
      go_wp2
      go_ret
      exact ⟨ret_int (by rw [F.out]), below_drewN (Below.refl _ _) _⟩
theorem iFullest_any (A : Option Addr) (c : Nat) (l : List Acc) (w : World) (h : Rd w A (l.flatMap Acc.cells)) (hl : l.length ≤ 1048576) :
    Calls Try.prog 32 #[.slice A l.length c] w fun e w' => e = .returned (.int .i64 (fuAll l).1) ∧ Below w.heap.size w w' := by
  go_enter Try.func32, Try.ntmps32
  go_wp2
  go_loopw [3, 4, 10] (fun b t i wr => ∃ (k : Nat) (bn tn : Int), k ≤ l.length ∧ b = .int .i64 bn ∧ t = .int .i64 tn ∧ i = .int .i64 k ∧ fuAll (l.take k) = (bn, tn, k == 0) ∧ Below w.heap.size w wr) (fun _ _ i _ => l.length - (intOf i).toNat)
  case atStart => exact ⟨0, 0, 0, Nat.zero_le _, rfl, rfl, rfl, rfl, Below.refl _ _⟩
  case round =>
    obtain ⟨k, bn, tn, hk, rfl, rfl, rfl, hf, hb⟩ := hrel
    have F := Lib.hid hf; clear hf
    by_cases hlt : k < l.length
    · obtain ⟨ad, rfl, c0, c1, c2, c3, c4⟩ := Acc.at_ (h.ext hb) hlt
      have S := fuAll_snoc hlt F.out
      have S1 := Lib.hid S.1; have S2 := Lib.hid S.2; clear S F
      cases hz : ((k : Int) == 0)
      all_goals
        go_wp2
        all_goals first
          | exact ⟨⟨k + 1, _, _, by omega, rfl, rfl, by go_num, S1.out (by first | exact .inl hz | (right; assumption)), hb.alloc hb.size _⟩, by simp [intOf]; omega⟩
          | exact ⟨⟨k + 1, _, _, by omega, rfl, rfl, by go_num, S2.out (by rw [hz]; simp; omega), hb.alloc hb.size _⟩, by simp [intOf]; omega⟩
    · obtain rfl : k = l.length := by omega
      rw [List.take_length] at F
      go_wp2
      go_ret
      exact ⟨ret_int (by rw [F.out]), hb⟩
end Go.Proofs.Ytjmkkncjbnohoaa
