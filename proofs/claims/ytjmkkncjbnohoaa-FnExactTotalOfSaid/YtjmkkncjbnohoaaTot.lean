/- Walks of both TotalOf. -/
import Derived.Test.YtjmkkncjbnohoaaSl
namespace Go.Proofs.Ytjmkkncjbnohoaa
open Go.RowKit
set_option maxHeartbeats 400000
set_option linter.unusedVariables false
set_option linter.unusedSimpArgs false
def totStep (s a : Acc) : Acc := ⟨s.tenant, wrap64 (s.quota + a.quota), wrap64 (s.bytes + a.bytes), wrap64 (s.keys + a.keys), wrap64 (s.rows + a.rows)⟩
def totAll (l : List Acc) (n : Nat) : Acc := (l.take n).foldl totStep ⟨l.length, 0, 0, 0, 0⟩
theorem totAll_succ {l : List Acc} {k : Nat} (h : k < l.length) : totAll l (k + 1) = totStep (totAll l k) l[k] := by
  unfold totAll; rw [List.take_succ_eq_append_getElem h, List.foldl_append]; rfl
theorem sTotalOf_any (A : Option Addr) (c : Nat) (l : List Acc) (w : World) (h : Rd w A (l.flatMap Acc.cells)) (hl : l.length ≤ 1048576) :
    Calls Try.prog 26 #[.slice A l.length c] w fun e w' => e = .returned (.agg (totAll l l.length).cells.toArray) ∧ Below w.heap.size w w' := by
  go_enter Try.func26, Try.ntmps26
  go_wp2
  go_loopw [4] (fun i wr => ∃ k : Nat, k ≤ l.length ∧ i = .int .i64 k ∧ Box wr (w.heap.size + 1) 30 (totAll l k).cells ∧ Box wr w.heap.size 30 [.int .i64 0, .int .i64 0, .int .i64 0, .int .i64 0, .int .i64 0] ∧ Below w.heap.size w wr) (fun i _ => l.length - (intOf i).toNat)
  case atStart => exact ⟨0, Nat.zero_le _, rfl, Box.new1 w _ _ (totAll l 0).cells, (Box.new w _ [_, _, _, _, _]).alloc _, (by repeat' first | (with_reducible assumption) | (with_reducible exact Below.refl _ _) | (with_reducible refine Below.drew ?_) | (with_reducible refine below_drewN ?_ _) | (with_reducible refine Below.alloc ?_ ?_ _) | (with_reducible refine Below.setCell ?_ ?_ _) | (simp; done) | (simp; omega) | omega)⟩
  case round =>
    obtain ⟨k, hk, rfl, hB, hR, hb⟩ := hrel
    by_cases hlt : k < l.length
    · obtain ⟨ad, rfl, c0, c1, c2, c3, c4⟩ := Acc.at_ (h.ext hb) hlt
      have hne : (ad.add (k * 5)).block < w.heap.size := by
        rw [blk_add]; exact h.lt (by intro e; have := flat_len Acc.cells_len l; rw [e] at this; simp at this; omega) ad rfl
      have b1 := hB.cell 1
      have b2 := hB.cell 2
      have b3 := hB.cell 3
      have b4 := hB.cell 4
      have f1 := hB.frozen 1
      have f2 := hB.frozen 2
      have f3 := hB.frozen 3
      have f4 := hB.frozen 4
      simp only [Acc.cells, List.getElem?_cons_succ, List.getElem?_cons_zero] at b1 b2 b3 b4
      go_wp2
      all_goals refine wp_region_seq_tail 9 (by kernel_rfl) (by kernel_rfl) ?_
      all_goals simp only [List.take_succ_cons, List.take_zero, List.drop_succ_cons, List.drop_zero]
      repeat' (refine wpSeq_plain rfl ?_; go_wp2 <;> refine ⟨rfl, ?_⟩)
      all_goals refine wpSeq_nil ?_
      all_goals go_wp2
      all_goals refine wp_region_seq_tail 9 (by kernel_rfl) (by kernel_rfl) ?_
      all_goals simp only [List.take_succ_cons, List.take_zero, List.drop_succ_cons, List.drop_zero]
      repeat' (refine wpSeq_plain rfl ?_; go_wp2 <;> refine ⟨rfl, ?_⟩)
      all_goals refine wpSeq_nil ?_
      all_goals go_wp2
      all_goals refine wp_region_seq_tail 9 (by kernel_rfl) (by kernel_rfl) ?_
      all_goals simp only [List.take_succ_cons, List.take_zero, List.drop_succ_cons, List.drop_zero]
      repeat' (refine wpSeq_plain rfl ?_; go_wp2 <;> refine ⟨rfl, ?_⟩)
      all_goals refine wpSeq_nil ?_
      all_goals go_wp2
      all_goals refine wp_region_seq_tail 9 (by kernel_rfl) (by kernel_rfl) ?_
      all_goals simp only [List.take_succ_cons, List.take_zero, List.drop_succ_cons, List.drop_zero]
      repeat' (refine wpSeq_plain rfl ?_; go_wp2 <;> refine ⟨rfl, ?_⟩)
      all_goals refine wpSeq_nil ?_
      all_goals go_wp2
      refine ⟨⟨k + 1, by omega, by go_num, ?_, ?_, (by repeat' first | (with_reducible assumption) | (with_reducible exact Below.refl _ _) | (with_reducible refine Below.drew ?_) | (with_reducible refine below_drewN ?_ _) | (with_reducible refine Below.alloc ?_ ?_ _) | (with_reducible refine Below.setCell ?_ ?_ _) | (simp; done) | (simp; omega) | omega)⟩, by simp [intOf]; omega⟩
      · refine Box.cast ((((hB.set_ 1 _).set_ 2 _).set_ 3 _).set_ 4 _).drew.drew.drew.drew ?_
        rw [totAll_succ hlt]; rfl
      · exact ((((hR.far (by simp) _).far (by simp) _).far (by simp) _).far (by simp) _).drew.drew.drew.drew
    · obtain rfl : k = l.length := by omega
      have b0 := hB.cell 0
      have f0 := hB.frozen 0
      have b1 := hB.cell 1
      have f1 := hB.frozen 1
      have b2 := hB.cell 2
      have f2 := hB.frozen 2
      have b3 := hB.cell 3
      have f3 := hB.frozen 3
      have b4 := hB.cell 4
      have f4 := hB.frozen 4
      have r0 := hR.cell 0
      have g0 := hR.frozen 0
      have r1 := hR.cell 1
      have g1 := hR.frozen 1
      have r2 := hR.cell 2
      have g2 := hR.frozen 2
      have r3 := hR.cell 3
      have g3 := hR.frozen 3
      have r4 := hR.cell 4
      have g4 := hR.frozen 4
      simp only [Acc.cells, List.getElem?_cons_succ, List.getElem?_cons_zero] at b0 b1 b2 b3 b4 r0 r1 r2 r3 r4
      go_wp2
      exact bodyPost_ret (v := .agg (totAll l l.length).cells.toArray) (by simp [results, Try.results26, go_sem, Acc.cells, r0, r1, r2, r3, r4]) rfl ⟨rfl, (by repeat' first | (with_reducible assumption) | (with_reducible exact Below.refl _ _) | (with_reducible refine Below.drew ?_) | (with_reducible refine below_drewN ?_ _) | (with_reducible refine Below.alloc ?_ ?_ _) | (with_reducible refine Below.setCell ?_ ?_ _) | (simp; done) | (simp; omega) | omega)⟩
theorem iTotalOf_any (A : Option Addr) (c : Nat) (l : List Acc) (w : World) (h : Rd w A (l.flatMap Acc.cells)) (hl : l.length ≤ 1048576) :
    Calls Try.prog 28 #[.slice A l.length c] w fun e w' => e = .returned (.agg (totAll l l.length).cells.toArray) ∧ Below w.heap.size w w' := by
  go_enter Try.func28, Try.ntmps28
  go_wp2
  go_loopw [11] (fun i wr => ∃ k : Nat, k ≤ l.length ∧ i = .int .i64 k ∧ Box wr (w.heap.size + 1) 30 (totAll l k).cells ∧ Box wr w.heap.size 30 [.int .i64 0, .int .i64 0, .int .i64 0, .int .i64 0, .int .i64 0] ∧ Below w.heap.size w wr) (fun i _ => l.length - (intOf i).toNat)
  case atStart => exact ⟨0, Nat.zero_le _, rfl, Box.new1 w _ _ (totAll l 0).cells, (Box.new w _ [_, _, _, _, _]).alloc _, (by repeat' first | (with_reducible assumption) | (with_reducible exact Below.refl _ _) | (with_reducible refine Below.drew ?_) | (with_reducible refine below_drewN ?_ _) | (with_reducible refine Below.alloc ?_ ?_ _) | (with_reducible refine Below.setCell ?_ ?_ _) | (simp; done) | (simp; omega) | omega)⟩
  case round =>
    obtain ⟨k, hk, rfl, hB, hR, hb⟩ := hrel
    by_cases hlt : k < l.length
    · obtain ⟨ad, rfl, c0, c1, c2, c3, c4⟩ := Acc.at_ (h.ext hb) hlt
      have hlt2 := hB.lt
      have b0 := hB.cell 0
      have f0 := hB.frozen 0
      have b1 := hB.cell 1
      have f1 := hB.frozen 1
      have b2 := hB.cell 2
      have f2 := hB.frozen 2
      have b3 := hB.cell 3
      have f3 := hB.frozen 3
      have b4 := hB.cell 4
      have f4 := hB.frozen 4
      simp only [Acc.cells, List.getElem?_cons_succ, List.getElem?_cons_zero] at b0 b1 b2 b3 b4
      go_wp2
      refine ⟨⟨k + 1, by omega, by go_num, ?_, ?_, (by repeat' first | (with_reducible assumption) | (with_reducible exact Below.refl _ _) | (with_reducible refine Below.drew ?_) | (with_reducible refine below_drewN ?_ _) | (with_reducible refine Below.alloc ?_ ?_ _) | (with_reducible refine Below.setCell ?_ ?_ _) | (simp; done) | (simp; omega) | omega)⟩, by simp [intOf]; omega⟩
      · refine Box.cast (((((hB.set_ 1 _).set_ 2 _).set_ 3 _).set_ 4 _).alloc _) ?_
        rw [totAll_succ hlt]; rfl
      · exact ((((hR.far (by simp) _).far (by simp) _).far (by simp) _).far (by simp) _).alloc _
    · obtain rfl : k = l.length := by omega
      have b0 := hB.cell 0
      have f0 := hB.frozen 0
      have b1 := hB.cell 1
      have f1 := hB.frozen 1
      have b2 := hB.cell 2
      have f2 := hB.frozen 2
      have b3 := hB.cell 3
      have f3 := hB.frozen 3
      have b4 := hB.cell 4
      have f4 := hB.frozen 4
      have r0 := hR.cell 0
      have g0 := hR.frozen 0
      have r1 := hR.cell 1
      have g1 := hR.frozen 1
      have r2 := hR.cell 2
      have g2 := hR.frozen 2
      have r3 := hR.cell 3
      have g3 := hR.frozen 3
      have r4 := hR.cell 4
      have g4 := hR.frozen 4
      simp only [Acc.cells, List.getElem?_cons_succ, List.getElem?_cons_zero] at b0 b1 b2 b3 b4 r0 r1 r2 r3 r4
      go_wp2
      exact bodyPost_ret (v := .agg (totAll l l.length).cells.toArray) (by simp [results, Try.results28, go_sem, Acc.cells, r0, r1, r2, r3, r4]) rfl ⟨rfl, (by repeat' first | (with_reducible assumption) | (with_reducible exact Below.refl _ _) | (with_reducible refine Below.drew ?_) | (with_reducible refine below_drewN ?_ _) | (with_reducible refine Below.alloc ?_ ?_ _) | (with_reducible refine Below.setCell ?_ ?_ _) | (simp; done) | (simp; omega) | omega)⟩
end Go.Proofs.Ytjmkkncjbnohoaa
