/- Changes as text, in plain Lean. -/
import Derived.Test.YtfcnimglcialbaaApP
import Derived.Test.YtfcnimglcialbaaRds
import Derived.Test.YtfcnimglcialbaaBtDelta
namespace Go.Proofs.Ytfcnimglcialbaa
set_option linter.unusedVariables false
/-- Pieces one behind the other. -/
def catS {α : Type} (f : α → ByteArray) (L : List α) : ByteArray := L.foldl (fun s x => s ++ f x) ⟨#[]⟩
theorem catS_nil {α : Type} (f : α → ByteArray) : catS f [] = ⟨#[]⟩ := rfl
theorem catS_snoc {α : Type} (f : α → ByteArray) (L : List α) (x : α) : catS f (L ++ [x]) = catS f L ++ f x := foldl_snoc _ L _ x
theorem catS_step {α : Type} [Dat α] (f : α → ByteArray) {L : List α} {k : Nat} (h : k < L.length) : catS f (L.take (k + 1)) = catS f (L.take k) ++ f (nth L k) := by rw [takeG h, catS_snoc]
theorem catS_size {α : Type} (f : α → ByteArray) (b : Nat) : ∀ (n : Nat) (L : List α), L.length = n → (∀ x ∈ L, (f x).size ≤ b) → (catS f L).size ≤ n * b
  | 0, L, hn, h => by rw [List.length_eq_zero_iff.1 hn]; exact Nat.zero_le _
  | n + 1, L, hn, h => by
    obtain ⟨x, hx⟩ : ∃ x, L = L.dropLast ++ [x] := ⟨L.getLast (by intro e; rw [e] at hn; cases hn), (List.dropLast_concat_getLast _).symm⟩
    have hl : L.dropLast.length = n := by rw [List.length_dropLast]; omega
    have h1 := catS_size f b n L.dropLast hl (fun y hy => h y (List.dropLast_subset _ hy))
    have h2 := h x (by rw [hx]; simp)
    rw [hx, catS_snoc, ByteArray.size_append, Nat.succ_mul]
    omega
theorem bl_cat {α : Type} (f : α → ByteArray) (L : List α) : bl (catS f L) = L.flatMap (fun x => bl (f x)) := by
  unfold catS
  have : ∀ (s : ByteArray), bl (L.foldl (fun s x => s ++ f x) s) = bl s ++ L.flatMap (fun x => bl (f x)) := by
    induction L with
    | nil => intro s; simp
    | cons x L ih => intro s; rw [List.foldl_cons, ih, bl_app, List.flatMap_cons, List.append_assoc]
  rw [this]; rfl
def kvS (x : KV) : ByteArray := pieceS x.key ++ pieceS x.val
def rawU (U : List KV) (k : Nat) : ByteArray := vS U.length ++ catS kvS (U.take k)
def rawD (U : List KV) (D : List ByteArray) (k : Nat) : ByteArray := (rawU U U.length ++ vS D.length) ++ catS pieceS (D.take k)
def rawX (x : DDelta) : ByteArray := rawD x.U x.D x.D.length
theorem rawU_zero (U : List KV) : rawU U 0 = vS U.length := by
  unfold rawU; rw [List.take_zero, catS_nil]; exact ByteArray.append_empty
theorem rawD_zero (U : List KV) (D : List ByteArray) : rawD U D 0 = rawU U U.length ++ vS D.length := by
  unfold rawD; rw [List.take_zero, catS_nil]; exact ByteArray.append_empty
theorem rawU_step {U : List KV} {k : Nat} (h : k < U.length) : rawU U (k + 1) = rawU U k ++ (pieceS (nth U k).key ++ pieceS (nth U k).val) := by
  unfold rawU; rw [catS_step _ h, ByteArray.append_assoc]; rfl
theorem rawD_step {U : List KV} {D : List ByteArray} {k : Nat} (h : k < D.length) : rawD U D (k + 1) = rawD U D k ++ pieceS (nth D k) := by
  unfold rawD; rw [catS_step _ h]; simp only [ByteArray.append_assoc]
def fShowDelta (x : DDelta) : ByteArray := if deltaOk x.U x.D = true then rawX x else ⟨#[]⟩
theorem kk_sz {s : ByteArray} (h : kk s = true) : s.size ≤ 10 := by unfold kk at h; rw [inB_true] at h; omega
theorem mapOk_sz {U : List KV} (h : mapOk U = true) : ∀ k, k < U.length → (nth U k).key.size ≤ 10 ∧ (nth U k).val.size ≤ 16 := fun k hk => by
  unfold mapOk at h
  rw [List.all_eq_true] at h
  have := h k (by simpa using hk)
  unfold okM at this
  simp only [Bool.not_eq_true', Bool.or_eq_false_iff, Bool.not_eq_false'] at this
  have h1 := kk_sz this.1.1
  have h2 := this.1.2
  simp at h2
  omega
theorem mapOk_mem {U : List KV} (h : mapOk U = true) : ∀ x ∈ U, x.key.size ≤ 10 ∧ x.val.size ≤ 16 := fun x hx => by
  obtain ⟨k, hk, e⟩ := List.getElem_of_mem hx
  have := mapOk_sz h k hk
  have e2 : nth U k = x := by unfold nth; rw [List.getD_eq_getElem?_getD, List.getElem?_eq_getElem hk, e]; rfl
  rwa [e2] at this
theorem deltaOk_map {U : List KV} {D : List ByteArray} (h : deltaOk U D = true) : mapOk U = true := by
  unfold deltaOk at h; rw [Bool.and_eq_true] at h; exact h.1
theorem deltaOk_szD {U : List KV} {D : List ByteArray} (h : deltaOk U D = true) : ∀ k, k < D.length → (nth D k).size ≤ 10 := fun k hk => by
  unfold deltaOk at h
  rw [Bool.and_eq_true, List.all_eq_true] at h
  have := h.2 k (by simpa using hk)
  unfold okD at this
  simp only [Bool.not_eq_true', Bool.or_eq_false_iff, Bool.not_eq_false'] at this
  exact kk_sz this.1.1
theorem deltaOk_memD {U : List KV} {D : List ByteArray} (h : deltaOk U D = true) : ∀ x ∈ D, x.size ≤ 10 := fun x hx => by
  obtain ⟨k, hk, e⟩ := List.getElem_of_mem hx
  have := deltaOk_szD h k hk
  have e2 : nth D k = x := by unfold nth; rw [List.getD_eq_getElem?_getD, List.getElem?_eq_getElem hk, e]; rfl
  rwa [e2] at this
theorem kvS_size {x : KV} (h : x.key.size ≤ 10 ∧ x.val.size ≤ 16) : (kvS x).size ≤ 46 := by
  have h1 := pieceS_size x.key
  have h2 := pieceS_size x.val
  unfold kvS; rw [ByteArray.size_append]; omega
theorem rawU_size {U : List KV} (h : mapOk U = true) (k : Nat) (hk : k ≤ U.length) : (rawU U k).size ≤ 10 + k * 46 := by
  have h1 := catS_size kvS 46 k (U.take k) (by rw [List.length_take]; omega) (fun x hx => kvS_size (mapOk_mem h x (List.mem_of_mem_take hx)))
  have h2 := vS_size U.length
  unfold rawU; rw [ByteArray.size_append]; omega
theorem rawD_size {U : List KV} {D : List ByteArray} (h : deltaOk U D = true) (k : Nat) (hk : k ≤ D.length) : (rawD U D k).size ≤ 20 + U.length * 46 + k * 20 := by
  have h1 := catS_size pieceS 20 k (D.take k) (by rw [List.length_take]; omega) (fun x hx => by have := deltaOk_memD h x (List.mem_of_mem_take hx); have := pieceS_size x; omega)
  have h2 := vS_size D.length
  have h3 := rawU_size (deltaOk_map h) U.length (Nat.le_refl _)
  unfold rawD; rw [ByteArray.size_append, ByteArray.size_append]; omega
/-- Reading: pairs, texts. -/
def pKV (s : ByteArray) : Nat → Nat → List KV → Option (List KV × Nat)
  | 0, k, L => some (L, k)
  | n + 1, k, L => (tkS s k).bind fun p => (tkS s p.2).bind fun q => pKV s n q.2 (L ++ [⟨p.1, q.1⟩])
def pST (s : ByteArray) : Nat → Nat → List ByteArray → Option (List ByteArray × Nat)
  | 0, k, L => some (L, k)
  | n + 1, k, L => (tkS s k).bind fun p => pST s n p.2 (L ++ [p.1])
def pU (s : ByteArray) : Option (List KV × Nat) := (tkN s 0).bind fun p => pKV s p.1 p.2 []
def pD (s : ByteArray) (k : Nat) : Option (List ByteArray × Nat) := (tkN s k).bind fun p => pST s p.1 p.2 []
def pX (s : ByteArray) : Option (DDelta × Nat) := (pU s).bind fun p => (pD s p.2).map fun q => (⟨p.1, q.1⟩, q.2)
def fReadDelta (s : ByteArray) : DDelta × Bool := match pX s with
  | none => (⟨[], []⟩, false)
  | some p => if fShowDelta p.1 = s then (p.1, true) else (⟨[], []⟩, false)
theorem pKV_len (s : ByteArray) : ∀ (n k : Nat) (L M : List KV) (e : Nat), k ≤ s.size → pKV s n k L = some (M, e) → k + 2 * n ≤ e ∧ e ≤ s.size ∧ M.length = L.length + n ∧ ∃ N : List KV, N.length = n ∧ M = L ++ N ∧ (bl s).drop k = N.flatMap (fun x => bl (kvS x)) ++ (bl s).drop e
  | 0, k, L, M, e, hk, h => by
    simp only [pKV, Option.some.injEq, Prod.mk.injEq] at h
    obtain ⟨rfl, rfl⟩ := h
    exact ⟨by omega, hk, by omega, [], rfl, by simp, by simp⟩
  | n + 1, k, L, M, e, hk, h => by
    rw [pKV] at h
    cases h1 : tkS s k with
    | none => rw [h1] at h; cases h
    | some p =>
      obtain ⟨r, a⟩ := p
      rw [h1] at h
      simp only [Option.bind_some] at h
      cases h2 : tkS s a with
      | none => rw [h2] at h; cases h
      | some q =>
        obtain ⟨t, b⟩ := q
        rw [h2] at h
        simp only [Option.bind_some] at h
        obtain ⟨a1, a2, a3⟩ := tkS_some h1
        obtain ⟨b1, b2, b3⟩ := tkS_some h2
        obtain ⟨c1, c2, c3, N, d1, d2, d3⟩ := pKV_len s n b (L ++ [⟨r, t⟩]) M e b2 h
        refine ⟨by omega, c2, by rw [c3, List.length_append, List.length_singleton]; omega, ⟨r, t⟩ :: N, by rw [List.length_cons, d1], by rw [d2, List.append_assoc]; rfl, ?_⟩
        rw [a3, b3, d3, List.flatMap_cons]
        unfold kvS
        rw [bl_app]
        simp only [List.append_assoc]
theorem pST_len (s : ByteArray) : ∀ (n k : Nat) (L M : List ByteArray) (e : Nat), k ≤ s.size → pST s n k L = some (M, e) → k + n ≤ e ∧ e ≤ s.size ∧ M.length = L.length + n ∧ ∃ N : List ByteArray, N.length = n ∧ M = L ++ N ∧ (bl s).drop k = N.flatMap (fun x => bl (pieceS x)) ++ (bl s).drop e
  | 0, k, L, M, e, hk, h => by
    simp only [pST, Option.some.injEq, Prod.mk.injEq] at h
    obtain ⟨rfl, rfl⟩ := h
    exact ⟨by omega, hk, by omega, [], rfl, by simp, by simp⟩
  | n + 1, k, L, M, e, hk, h => by
    rw [pST] at h
    cases h1 : tkS s k with
    | none => rw [h1] at h; cases h
    | some p =>
      obtain ⟨r, a⟩ := p
      rw [h1] at h
      simp only [Option.bind_some] at h
      obtain ⟨a1, a2, a3⟩ := tkS_some h1
      obtain ⟨c1, c2, c3, N, d1, d2, d3⟩ := pST_len s n a (L ++ [r]) M e a2 h
      refine ⟨by omega, c2, by rw [c3, List.length_append, List.length_singleton]; omega, r :: N, by rw [List.length_cons, d1], by rw [d2, List.append_assoc]; rfl, ?_⟩
      rw [a3, d3, List.flatMap_cons]
      simp only [List.append_assoc]
theorem pU_some {s : ByteArray} {U : List KV} {e : Nat} (h : pU s = some (U, e)) : e ≤ s.size ∧ 2 * U.length ≤ s.size ∧ bl s = bl (rawU U U.length) ++ (bl s).drop e := by
  unfold pU at h
  cases h1 : tkN s 0 with
  | none => rw [h1] at h; cases h
  | some p =>
    obtain ⟨n, a⟩ := p
    rw [h1] at h
    simp only [Option.bind_some] at h
    obtain ⟨a1, a2, a3, a4, a5⟩ := tkN_some h1
    obtain ⟨c1, c2, c3, N, d1, d2, d3⟩ := pKV_len s n a [] U e a2 h
    simp only [List.length_nil, Nat.zero_add, List.nil_append] at c3 d2
    subst d2
    refine ⟨c2, by omega, ?_⟩
    rw [List.drop_zero] at a5
    have q : bl s = varL n ++ (U.flatMap (fun x => bl (kvS x)) ++ (bl s).drop e) := a5.trans (by rw [d3])
    refine q.trans ?_
    unfold rawU
    rw [List.take_length, bl_app, bl_cat, c3, List.append_assoc]
    rfl
theorem pD_some {s : ByteArray} {D : List ByteArray} {k e : Nat} (h : pD s k = some (D, e)) : k < e ∧ e ≤ s.size ∧ D.length ≤ s.size ∧ (bl s).drop k = bl (vS D.length) ++ bl (catS pieceS D) ++ (bl s).drop e := by
  unfold pD at h
  cases h1 : tkN s k with
  | none => rw [h1] at h; cases h
  | some p =>
    obtain ⟨n, a⟩ := p
    rw [h1] at h
    simp only [Option.bind_some] at h
    obtain ⟨a1, a2, a3, a4, a5⟩ := tkN_some h1
    obtain ⟨c1, c2, c3, N, d1, d2, d3⟩ := pST_len s n a [] D e a2 h
    simp only [List.length_nil, Nat.zero_add, List.nil_append] at c3 d2
    subst d2
    refine ⟨by omega, c2, by omega, ?_⟩
    rw [a5, d3, bl_cat, c3, List.append_assoc]
    rfl
theorem pX_some {s : ByteArray} {x : DDelta} {e : Nat} (h : pX s = some (x, e)) : 0 < e ∧ e ≤ s.size ∧ x.U.length ≤ s.size ∧ x.D.length ≤ s.size ∧ bl s = bl (rawX x) ++ (bl s).drop e := by
  unfold pX at h
  cases h1 : pU s with
  | none => rw [h1] at h; cases h
  | some p =>
    obtain ⟨U, k⟩ := p
    rw [h1] at h
    simp only [Option.bind_some] at h
    cases h2 : pD s k with
    | none => rw [h2] at h; cases h
    | some q =>
      obtain ⟨D, e'⟩ := q
      rw [h2] at h
      simp only [Option.map_some, Option.some.injEq, Prod.mk.injEq] at h
      obtain ⟨rfl, rfl⟩ := h
      obtain ⟨a1, a2, a3⟩ := pU_some h1
      obtain ⟨b1, b2, b3, b4⟩ := pD_some h2
      refine ⟨by omega, b2, by show U.length ≤ _; omega, b3, ?_⟩
      refine a3.trans ((congrArg (fun q => bl (rawU U U.length) ++ q) b4).trans ?_)
      unfold rawX rawD
      simp only [List.take_length, bl_app, List.append_assoc]
/-- What shows as the text was read to its end. -/
theorem pX_end {s : ByteArray} {x : DDelta} {e : Nat} (h : pX s = some (x, e)) (hs : fShowDelta x = s) : e = s.size := by
  obtain ⟨h1, h2, _, _, h3⟩ := pX_some h
  unfold fShowDelta at hs
  split at hs
  · rw [hs] at h3
    have := congrArg List.length h3
    rw [List.length_append, List.length_drop, bl_len] at this
    omega
  · rw [← hs] at h2
    have : (⟨#[]⟩ : ByteArray).size = 0 := rfl
    omega
theorem read_none {s : ByteArray} (h : pX s = none) : fReadDelta s = (⟨[], []⟩, false) := by unfold fReadDelta; rw [h]
theorem read_yes {s : ByteArray} {x : DDelta} {e : Nat} (h : pX s = some (x, e)) (hs : fShowDelta x = s) : fReadDelta s = (x, true) := by unfold fReadDelta; rw [h]; simp only [hs, if_true]
theorem read_no {s : ByteArray} {x : DDelta} {e : Nat} (h : pX s = some (x, e)) (hs : ¬ fShowDelta x = s) : fReadDelta s = (⟨[], []⟩, false) := by unfold fReadDelta; rw [h]; simp only [hs, if_false]
theorem pU_none {s : ByteArray} (h : pU s = none) : pX s = none := by unfold pX; rw [h]; rfl
theorem pD_none {s : ByteArray} {U : List KV} {k : Nat} (h : pU s = some (U, k)) (h2 : pD s k = none) : pX s = none := by unfold pX; rw [h]; simp only [Option.bind_some, h2]; rfl
theorem pX_yes {s : ByteArray} {U : List KV} {D : List ByteArray} {k e : Nat} (h : pU s = some (U, k)) (h2 : pD s k = some (D, e)) : pX s = some (⟨U, D⟩, e) := by unfold pX; rw [h]; simp only [Option.bind_some, h2]; rfl
end Go.Proofs.Ytfcnimglcialbaa
