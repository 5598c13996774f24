/- What is seen of entries in order, in plain Lean: the program's way and the reference's are one. -/
import Derived.Test.YtbegbdfbfbkflaaMrgP
namespace Go.Proofs.Ytbegbdfbfbkflaa
set_option linter.unusedVariables false
set_option linter.unusedSimpArgs false
def kvE (x : Ent) : KV := ⟨x.key, x.val⟩
def isK (k : ByteArray) (seq : Int) (e : Ent) : Bool := sEq e.key k && decide (e.seq ≤ seq)
def getE (l : List Ent) (k : ByteArray) (seq : Int) : Option Ent := l.find? (isK k seq)
def seenK (last : Option ByteArray) (q : ByteArray) : Bool := match last with
  | some k => sEq q k
  | none => false
/-- The program: the last key that was seen is kept. -/
def vis (seq : Int) : Option ByteArray → List Ent → List KV
  | _, [] => []
  | last, e :: L => if (decide (seq < e.seq) || seenK last e.key) = true then vis seq last L else if e.del = true then vis seq (some e.key) L else kvE e :: vis seq (some e.key) L
def fVis (l : List Ent) (seq : Int) : List KV := vis seq none l
/-- The reference: each entry that is what is told of its key. -/
def mapPick (l : List Ent) (seq : Int) (x : Ent) : Bool := match getE l x.key seq with
  | some e => !e.del && decide (e.seq = x.seq)
  | none => false
def sMap (l : List Ent) (seq : Int) : List KV := (l.filter (mapPick l seq)).map kvE
theorem isK_iff (k : ByteArray) (seq : Int) (e : Ent) : isK k seq e = true ↔ e.key = k ∧ e.seq ≤ seq := by
  unfold isK
  rw [Bool.and_eq_true, decide_eq_true_eq]
  constructor
  · rintro ⟨h1, h2⟩; exact ⟨sEq_to h1, h2⟩
  · rintro ⟨h1, h2⟩; rw [h1]; exact ⟨sEq_ref k, h2⟩
theorem ahead_key {a b c : Ent} (h1 : aheadE a b = true) (h2 : aheadE b c = true) (h3 : a.key = c.key) : b.key = a.key := by
  unfold aheadE at h1 h2
  rw [Bool.or_eq_true, Bool.and_eq_true] at h1 h2
  rcases h1 with h1 | h1
  · rcases h2 with h2 | h2
    · have := sLt_trans h1 h2
      rw [← h3, sLt_irrefl] at this; cases this
    · rw [sEq_to h2.1, h3]
  · exact (sEq_to h1.1).symm
/-- The last key seen in a part. -/
def lastSeen (seq : Int) (P : List Ent) : Option ByteArray := ((P.filter fun e => decide (e.seq ≤ seq)).getLast?).map (·.key)
theorem last_snoc (seq : Int) (P : List Ent) (e : Ent) : lastSeen seq (P ++ [e]) = if e.seq ≤ seq then some e.key else lastSeen seq P := by
  unfold lastSeen
  rw [List.filter_append, List.filter_cons, List.filter_nil]
  by_cases h : e.seq ≤ seq
  · rw [if_pos h, if_pos (by simpa using h)]; simp
  · rw [if_neg h, if_neg (by simpa using h)]; simp
theorem last_iff {seq : Int} {P T : List Ent} {x : Ent} (h : strE (P ++ x :: T)) : seenK (lastSeen seq P) x.key = true ↔ ∃ y ∈ P, isK x.key seq y = true := by
  have hp := List.pairwise_append.1 h
  unfold lastSeen
  constructor
  · intro hm
    cases hl : (P.filter fun e => decide (e.seq ≤ seq)).getLast? with
    | none => rw [hl] at hm; cases hm
    | some y =>
      rw [hl] at hm
      have hy := List.mem_of_getLast? hl
      rw [List.mem_filter, decide_eq_true_eq] at hy
      exact ⟨y, hy.1, (isK_iff _ _ _).2 ⟨(sEq_to hm).symm, hy.2⟩⟩
  · rintro ⟨y, hy, hk⟩
    obtain ⟨k1, k2⟩ := (isK_iff _ _ _).1 hk
    have hyf : y ∈ P.filter fun e => decide (e.seq ≤ seq) := List.mem_filter.2 ⟨hy, by simpa using k2⟩
    cases hl : (P.filter fun e => decide (e.seq ≤ seq)).getLast? with
    | none =>
      have := List.getLast?_eq_none_iff.1 hl
      rw [this] at hyf; cases hyf
    | some z =>
      have hz := List.mem_of_getLast? hl
      have hzP : z ∈ P := (List.mem_filter.1 hz).1
      have hzx : aheadE z x = true := hp.2.2 z hzP x List.mem_cons_self
      have e : z.key = x.key := by
        by_cases hyz : y = z
        · rw [← hyz, k1]
        · have hsub : (P.filter fun e => decide (e.seq ≤ seq)).Pairwise (fun a b => aheadE a b = true) := hp.1.sublist List.filter_sublist
          obtain ⟨D, hD⟩ := List.getLast?_eq_some_iff.1 hl
          rw [hD] at hyf hsub
          have hyD : y ∈ D := by
            rcases List.mem_append.1 hyf with h1 | h1
            · exact h1
            · rw [List.mem_singleton] at h1; exact absurd h1 hyz
          have hyz2 : aheadE y z = true := (List.pairwise_append.1 hsub).2.2 y hyD z List.mem_cons_self
          rw [ahead_key hyz2 hzx k1, k1]
      show sEq x.key z.key = true
      rw [e]; exact sEq_ref _
theorem pick_iff {seq : Int} {P T : List Ent} {x : Ent} (h : strE (P ++ x :: T)) : mapPick (P ++ x :: T) seq x = (decide (x.seq ≤ seq) && !seenK (lastSeen seq P) x.key && !x.del) := by
  have hp := List.pairwise_append.1 h
  have hl := last_iff (seq := seq) h
  unfold mapPick getE
  rw [List.find?_append]
  cases hf : P.find? (isK x.key seq) with
  | some y =>
    have hy := List.mem_of_find?_eq_some hf
    have hk := List.find?_some hf
    rw [hl.2 ⟨y, hy, hk⟩]
    simp only [Option.some_or, Bool.not_true, Bool.and_false, Bool.false_and]
    have hyx := hp.2.2 y hy x List.mem_cons_self
    have k1 := ((isK_iff _ _ _).1 hk).1
    have : ¬ y.seq = x.seq := fun e => by
      have h5 := ahead_diff hyx
      unfold sameE at h5
      rw [k1, sEq_ref, e] at h5
      simp at h5
    simp [this]
  | none =>
    have hn : seenK (lastSeen seq P) x.key = false := by
      cases hm : seenK (lastSeen seq P) x.key with
      | false => rfl
      | true =>
        obtain ⟨y, hy, hk⟩ := hl.1 hm
        have := List.find?_eq_none.1 hf y hy
        rw [hk] at this; simp at this
    rw [hn, Option.none_or, List.find?_cons]
    by_cases hq : x.seq ≤ seq
    · rw [(isK_iff _ _ _).2 ⟨rfl, hq⟩]
      simp [hq]
    · have hk : isK x.key seq x = false := by
        cases h6 : isK x.key seq x with
        | false => rfl
        | true => exact absurd ((isK_iff _ _ _).1 h6).2 hq
      rw [hk]
      simp only [hq, decide_false, Bool.false_and]
      cases hT : T.find? (isK x.key seq) with
      | none => rfl
      | some e =>
        have he := List.mem_of_find?_eq_some hT
        have k1 := (isK_iff _ _ _).1 (List.find?_some hT)
        have : ¬ e.seq = x.seq := by omega
        simp [this]
theorem vis_map {seq : Int} {l : List Ent} (h : strE l) : ∀ (T P : List Ent), l = P ++ T → vis seq (lastSeen seq P) T = (T.filter (mapPick l seq)).map kvE
  | [], P, _ => rfl
  | x :: T, P, e => by
    have hpk := pick_iff (seq := seq) (e ▸ h : strE (P ++ x :: T))
    rw [← e] at hpk
    have ih := vis_map (seq := seq) h T (P ++ [x]) (by rw [e]; simp)
    rw [last_snoc] at ih
    rw [vis, List.filter_cons, hpk]
    by_cases hq : x.seq ≤ seq
    · rw [if_pos hq] at ih
      have h1 : decide (seq < x.seq) = false := by simp; omega
      rw [h1]
      cases hm : seenK (lastSeen seq P) x.key with
      | true =>
        have hs : lastSeen seq P = some x.key := by
          cases hl : lastSeen seq P with
          | none => rw [hl] at hm; cases hm
          | some k => rw [hl] at hm; rw [sEq_to hm]
        simp only [Bool.false_or, if_true, Bool.not_true, Bool.and_false, Bool.false_and, if_false, Bool.false_eq_true]
        rw [hs]; exact ih
      | false =>
        simp only [Bool.false_or, Bool.false_eq_true, if_false, Bool.not_false, hq, decide_true, Bool.true_and]
        cases hd : x.del with
        | true => simp only [if_true, Bool.not_true, Bool.false_eq_true, if_false]; exact ih
        | false => simp only [Bool.false_eq_true, if_false, Bool.not_false, if_true, List.map_cons]; rw [ih]
    · rw [if_neg hq] at ih
      have h1 : decide (seq < x.seq) = true := by simp; omega
      rw [h1]
      simp only [Bool.true_or, if_true, hq, decide_false, Bool.false_and, Bool.false_eq_true, if_false]
      exact ih
theorem vis_same {l : List Ent} (h : strE l) (seq : Int) : fVis l seq = sMap l seq := vis_map h l [] rfl
end Go.Proofs.Ytbegbdfbfbkflaa
