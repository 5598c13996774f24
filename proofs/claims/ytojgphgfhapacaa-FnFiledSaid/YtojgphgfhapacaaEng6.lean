/- The engine: a statement whose order is open; data in slices. -/
import Derived.Test.YtojgphgfhapacaaEng5
namespace Go.Proofs.Ytojgphgfhapacaa
open Go.RowKit
set_option linter.unusedVariables false
set_option linter.unusedSimpArgs false
/-- The head of a region in any order, S holding behind each operation; then L. -/
def wpT (P : Program) (md : Region.Mode) (ops : Array Oper) (Q : Exit → Act → World → Prop) (S : World → Prop) (n : Nat) (L : Array Bool → Act → World → Prop) : Nat → Array Bool → Act → World → Prop
  | 0, listed, a, w => L listed a w
  | f + 1, listed, a, w => Region.ready md ops listed ≠ [] ∧ ∀ i ∈ Region.ready md ops listed, i < n ∧ wpOp P ops Q i (fun a' w' => S w' ∧ wpT P md ops Q S n L f (listed.setIfInBounds i true) a' w') a w
section
variable {P : Program} {ops : Array Oper} {Q : Exit → Act → World → Prop} {md : Region.Mode} {S : World → Prop}
theorem wpAny_of_T {n g : Nat} {L : Array Bool → Act → World → Prop} (hL : ∀ listed a w, L listed a w → wpAny P md ops Q g listed a w) :
    ∀ (f : Nat) (listed : Array Bool) (a : Act) (w : World), wpT P md ops Q S n L f listed a w → wpAny P md ops Q (f + g) listed a w
  | 0, listed, a, w, h => by rw [Nat.zero_add]; exact hL _ _ _ h
  | f + 1, listed, a, w, h => by
    rw [show f + 1 + g = (f + g) + 1 by omega]
    exact ⟨fun h0 => absurd h0 h.1, fun i hi => wpOp_mono (fun a' w' h' => wpAny_of_T hL f _ a' w' h'.2) (h.2 i hi).2⟩
/-- What may come up before the head is done is of the head. -/
def HeadB (md : Region.Mode) (ops : Array Oper) (n : Nat) : Bool := Region.noSelect ops && (decide (ops.size = n) || (decide (n < ops.size) && Region.sinkB md ops n && Region.chainB md ops n))
theorem head_lt {n i : Nat} {listed : Array Bool} (hB : HeadB md ops n = true) (inv : HeadInv md ops n listed) (hin : i < n) (hun : listed.getD i true = false) : ∀ j ∈ Region.ready md ops listed, j < n := fun j hj => by
  simp only [HeadB, Bool.and_eq_true, Bool.or_eq_true, decide_eq_true_eq] at hB
  rcases Nat.lt_or_ge j n with h | h
  · exact h
  · rcases hB.2 with h1 | ⟨⟨hn, hs⟩, hc⟩
    · obtain ⟨_, oj, hoj, _⟩ := mem_ready.1 hj
      have := (Array.getElem?_eq_some_iff.1 hoj).1; omega
    · exact absurd hj (tail_waits hs hc hn inv _ i rfl hin hun j h)
theorem wpT_first {n i : Nat} {oi : Oper} {v : Value} {L : Array Bool → Act → World → Prop} (hi : ops[i]? = some oi) (hB : HeadB md ops n = true) (hin : i < n)
    (hQ : ∀ c a w, Q (.panic c) (a.put oi.dst v) w → Q (.panic c) a w)
    (hdone : ∀ listed a w, L listed a w → ∀ j ∈ Region.ready md ops listed, n ≤ j) :
    ∀ (f : Nat) (listed : Array Bool) (a : Act) (w : World), HeadInv md ops n listed →
      (∀ j oj, ops[j]? = some oj → j ≠ i → listed.getD j true = false → (∀ e ∈ oj.after, Region.binds md e = true → e.on ≠ i) → oi.apart ops oj = true) →
      i ∈ Region.ready md ops listed → YieldsIf P ops S oi v a → S w →
      wpT P md ops Q S n L f (listed.setIfInBounds i true) (a.put oi.dst v) w → wpT P md ops Q S n L (f + 1) listed a w := by
  have hsel : ∀ (j : Nat) (o : Oper) cs b, ops[j]? = some o → o.op ≠ .select cs b := by
    simp only [HeadB, Bool.and_eq_true] at hB
    exact Region.noSelect_spec hB.1
  intro f
  induction f with
  | zero =>
    intro listed a w inv _ hr hy hS H
    have hun := (mem_ready.1 hr).1
    refine ⟨fun h => (by rw [h] at hr; cases hr), fun j hj => ?_⟩
    have hjn := head_lt hB inv hin hun j hj
    refine ⟨hjn, ?_⟩
    by_cases hji : j = i
    · subst hji; exact hy.wpOp hi hS ⟨hS, H⟩
    · have := hdone _ _ _ H j (ready_mono hj hji)
      omega
  | succ f ih =>
    intro listed a w inv hfree hr hy hS H
    have hun := (mem_ready.1 hr).1
    refine ⟨fun h => (by rw [h] at hr; cases hr), fun j hj => ?_⟩
    have hjn := head_lt hB inv hin hun j hj
    refine ⟨hjn, ?_⟩
    by_cases hji : j = i
    · subst hji; exact hy.wpOp hi hS ⟨hS, H⟩
    · have h1 := (H.2 j (ready_mono hj hji)).2
      obtain ⟨hjun, oj, hoj, hall⟩ := mem_ready.1 hj
      have hnot : ∀ e ∈ oj.after, Region.binds md e = true → e.on ≠ i := fun e he hb heq => by
        have h1 := hall e he hb
        rw [heq, getD_both hun] at h1
        cases h1
      have h2 := wpOp_putIf hoj (hfree j oj hoj hji hjun hnot) (fun cs b => hsel i oi cs b hi) (fun cs b => hsel j oj cs b hoj) hQ hy h1
      have hfree' : ∀ k ok, ops[k]? = some ok → k ≠ i → (listed.setIfInBounds j true).getD k true = false →
          (∀ e ∈ ok.after, Region.binds md e = true → e.on ≠ i) → oi.apart ops ok = true := fun k ok hk hki hun hno => by
        refine hfree k ok hk hki ?_ hno
        by_cases hjk : j = k
        · subst hjk; exact hjun
        · rw [getD_set_ne true hjk] at hun; exact hun
      refine wpOp_mono (fun a' w' h3 => ⟨h3.2.1, ih (listed.setIfInBounds j true) a' w' (inv.set hj hjn) hfree' (ready_mono hr (Ne.symm hji)) h3.1 h3.2.1 ?_⟩) h2
      rw [Array.setIfInBounds_comm _ _ hji]
      exact h3.2.2
end
/-- What a panic leaves does not hang on a temporary. -/
def PQ (Q : Exit → Act → World → Prop) : Prop := ∀ (d : Option Tmp) c a w v, Q (.panic c) (a.put d v) w → Q (.panic c) a w
theorem pq_then {k : Act → World → Prop} {Q : Exit → Act → World → Prop} (h : PQ Q) : PQ (Exit.then k Q) := h
theorem pq_in {i : Nat} {Q : Exit → Act → World → Prop} (h : PQ Q) : PQ (Exit.inBlock i Q) := h
theorem pq_body {P : Program} {fn : Func} {R : Ending → World → Prop} : PQ (bodyPost P fn R) := fun d c a w v h => by
  cases d <;> exact h
/-- Number i may be taken now: it may come up, it is of the head, nobody who could come before it touches its temporaries. -/
def takeB (ops : Array Oper) (n : Nat) (listed : Array Bool) (i : Nat) : Bool := Nat.blt i n && (Region.ready .any ops listed).contains i && Region.free .any ops listed i
/-- A state inside a region whose order is open: f operations of the head are to come; S is the state at its beginning. -/
def OkT (P : Program) (ops : Array Oper) (Q : Exit → Act → World → Prop) (tl : List Oper) (n : Nat) (N base : Nat) (w0 : World) (HS : List HObj) (GS : List World) (f : Nat) (listed : Array Bool) (E : Env) (H : List HObj) (G : List World) : Prop :=
  ∀ a w, HeadB .any ops n = true → PQ Q → EnvOk N E a → WOk base w0 H G w → WOk base w0 HS GS w → HeadInv .any ops n listed →
    wpT P .any ops Q (fun w => WOk base w0 HS GS w) n (fun listed a w => Region.seqB .any ops tl.length n listed = true ∧ wpList P ops Q tl a w) f listed a w
section
variable {P : Program} {N base : Nat} {w0 : World} {E : Env} {H HS : List HObj} {G GS : List World} {Q : Exit → Act → World → Prop} {ops : Array Oper} {tl : List Oper} {n f : Nat} {listed : Array Bool}
theorem ok_draw {id : Nat} {l : List Oper} (n : Nat) {tl : List Oper} (htl : l.drop n = tl) (hm : P.follows .mixedOrders = true) (hB : HeadB .any l.toArray n = true) (hn : Nat.ble n l.length = true) (hQ : PQ Q)
    (is : List Nat) (hnd : is.Nodup) {HS : List HObj} (hHS : HS = is.filterMap fun i => H[i]?) (h : OkT P l.toArray Q tl n N base w0 HS G n (Array.replicate l.length false) E H G) : Ok N base w0 E H G ((Code.region id l.toArray true).wp P Q) := fun a w he hw => by
  have hn' : n ≤ l.length := Nat.le_of_ble_eq_true hn
  have hdl : tl.length = l.toArray.size - n := by subst htl; simp
  have inv0 : HeadInv .any l.toArray n (Array.replicate l.length false) :=
    ⟨by simp, fun j oj _ hl => (by rw [getD_replicate_false] at hl; cases hl), fun t _ ht => getD_in (by simpa using ht) (getD_replicate_false _ _)⟩
  have H0 := h a w.drew hB hQ he hw.drew (hw.drew.sel is hnd hHS (fun _ h => h)) inv0
  refine wp_region_any hm ?_
  have := wpAny_of_T (Q := Q) (g := l.toArray.size - n) (fun listed a' w' hL => by
    have := wpAny_of_seq (md := .any) (Q' := Q) tl n listed a' w' (fun j => by subst htl; simp [List.getElem?_drop]) hL.1 hL.2
    rwa [hdl] at this) _ _ _ _ H0
  rw [show n + (l.toArray.size - n) = l.toArray.size by simp; omega] at this
  simpa using this
theorem okT_done (hs : Region.seqB .any ops tl.length n listed = true) (h : Ok N base w0 E H G (wpList P ops Q tl)) : OkT P ops Q tl n N base w0 HS GS 0 listed E H G := fun a w _ _ he hw _ _ => ⟨hs, h a w he hw⟩
theorem okT_take {i : Nat} {o : Oper} {v : Value} (hi : ops[i]? = some o) (ht : takeB ops n listed i = true) {td : Nat} (hdt : o.dst = some td) (hd : Nat.blt td N = true) (hg : o.guard = none) (hs : PStep P E HS GS o v)
    (h : OkT P ops Q tl n N base w0 HS GS f (listed.setIfInBounds i true) ((td, v) :: E) H G) : OkT P ops Q tl n N base w0 HS GS (f + 1) listed E H G := fun a w hB hQ he hw hS inv => by
  simp only [takeB, Bool.and_eq_true] at ht
  have hr' : i ∈ Region.ready .any ops listed := by simpa using ht.1.2
  have hin' : i < n := by simpa [Nat.blt_eq] using ht.1.1
  have hf := ht.2
  refine wpT_first hi hB hin' (fun c a w hh => hQ _ c a w _ hh) (fun listed a w hL => seqB_ready hL.1) f listed a w inv (Region.free_spec hi hf) hr' (.inl ⟨by simp [Region.wanted, hg], fun w' hS' => hs N base w0 a w' he hS'⟩) hS ?_
  exact h _ _ hB hQ (he.put' hdt hd v) hw hS (inv.set hr' hin')
theorem okT_take_g {i j d : Nat} {o : Oper} {v : Value} {want c q : Bool} {p : Bool} (hi : ops[i]? = some o) (ht : takeB ops n listed i = true) {td : Nat} (hdt : o.dst = some td) (hd : Nat.blt td N = true) (hg : o.guard = some (j, want)) (hj : (ops[j]?).bind (·.dst) = some d) (hv : look E d = some (gv q (.bool c))) (hp : (c == want) = p)
    (hs : q = true → p = true → (q && p) = true → PStep P E HS GS o v)
    (h : OkT P ops Q tl n N base w0 HS GS f (listed.setIfInBounds i true) ((td, (gv (q && p) v)) :: E) H G) : OkT P ops Q tl n N base w0 HS GS (f + 1) listed E H G := fun a w hB hQ he hw hS inv => by
  simp only [takeB, Bool.and_eq_true] at ht
  have hr' : i ∈ Region.ready .any ops listed := by simpa using ht.1.2
  have hin' : i < n := by simpa [Nat.blt_eq] using ht.1.1
  have hf := ht.2
  refine wpT_first hi hB hin' (v := gv (q && p) v) (fun c a w hh => hQ _ c a w _ hh) (fun listed a w hL => seqB_ready hL.1) f listed a w inv (Region.free_spec hi hf) hr' ?_ hS ?_
  · have hw1 := wanted_of he hg hj hv
    rw [hp] at hw1
    cases hqp : (q && p) with
    | true =>
      have h2 := (Bool.and_eq_true _ _).mp hqp
      exact .inl ⟨by rw [hw1]; exact hqp, fun w' hS' => hs h2.1 h2.2 hqp N base w0 a w' he hS'⟩
    | false => exact .inr ⟨by rw [hw1]; exact hqp, rfl⟩
  · exact h _ _ hB hQ (he.put' hdt hd _) hw hS (inv.set hr' hin')
theorem okT_take_g1 {i j d : Nat} {o : Oper} {v : Value} {want c : Bool} {p : Bool} (hi : ops[i]? = some o) (ht : takeB ops n listed i = true) {td : Nat} (hdt : o.dst = some td) (hd : Nat.blt td N = true) (hg : o.guard = some (j, want)) (hj : (ops[j]?).bind (·.dst) = some d) (hv : look E d = some (.bool c)) (hp : (c == want) = p)
    (hs : p = true → PStep P E HS GS o v)
    (h : OkT P ops Q tl n N base w0 HS GS f (listed.setIfInBounds i true) ((td, (gv p v)) :: E) H G) : OkT P ops Q tl n N base w0 HS GS (f + 1) listed E H G :=
  okT_take_g (q := true) hi ht hdt hd hg hj hv hp (fun _ h _ => hs h) (by rw [Bool.true_and]; exact h)
/-- The one operation that may come up now, and that makes or writes memory. -/
theorem okT_one {i : Nat} {o : Oper} {F : Ys → Prop} {v : Ys → Value} {H' : Ys → List HObj} {G' : Ys → List World} (hi : ops[i]? = some o) (hin : Nat.blt i n = true) (hr : Region.ready .any ops listed = [i]) {td : Nat} (hdt : o.dst = some td) (hd : Nat.blt td N = true) (hg : o.guard = none) (hs : MStep P E H G o F v H' G')
    (hS : ∀ y w, F y → WOk base w0 (H' y) (G' y) w → WOk base w0 HS GS w)
    (h : ∀ y, F y → OkT P ops Q tl n N base w0 HS GS f (listed.setIfInBounds i true) ((td, v y) :: E) (H' y) (G' y)) : OkT P ops Q tl n N base w0 HS GS (f + 1) listed E H G := fun a w hB hQ he hw hSw inv => by
  have hin' : i < n := by simpa [Nat.blt_eq] using hin
  refine ⟨by rw [hr]; simp, fun j hj => ?_⟩
  have hji : j = i := by rw [hr] at hj; simpa using hj
  subst hji
  refine ⟨hin', ?_⟩
  unfold wpOp
  simp only [hi]
  rw [if_pos (by simp [Region.wanted, hg])]
  refine .inl (hs N base w0 a w Q _ he hw fun y w' hF hw' => ?_)
  have h1 := hS y w' hF hw'
  exact ⟨h1, h y hF _ _ hB hQ (he.put' hdt hd _) hw' h1 (inv.set hj hin')⟩
theorem okT_one_yes {i j d : Nat} {o : Oper} {want c q : Bool} {F : Ys → Prop} {v : Ys → Value} {H' : Ys → List HObj} {G' : Ys → List World} (hi : ops[i]? = some o) (hin : Nat.blt i n = true) (hr : Region.ready .any ops listed = [i]) {td : Nat} (hdt : o.dst = some td) (hd : Nat.blt td N = true)
    (hg : o.guard = some (j, want)) (hj : (ops[j]?).bind (·.dst) = some d) (hv : look E d = some (gv q (.bool c))) (hp : (q && (c == want)) = true) (hs : MStep P E H G o F v H' G')
    (hS : ∀ y w, F y → WOk base w0 (H' y) (G' y) w → WOk base w0 HS GS w)
    (h : ∀ y, F y → OkT P ops Q tl n N base w0 HS GS f (listed.setIfInBounds i true) ((td, v y) :: E) (H' y) (G' y)) : OkT P ops Q tl n N base w0 HS GS (f + 1) listed E H G := fun a w hB hQ he hw hSw inv => by
  have hin' : i < n := by simpa [Nat.blt_eq] using hin
  refine ⟨by rw [hr]; simp, fun k hk => ?_⟩
  have hki : k = i := by rw [hr] at hk; simpa using hk
  subst hki
  refine ⟨hin', ?_⟩
  unfold wpOp
  simp only [hi]
  rw [if_pos (by rw [wanted_of he hg hj hv, hp])]
  refine .inl (hs N base w0 a w Q _ he hw fun y w' hF hw' => ?_)
  have h1 := hS y w' hF hw'
  exact ⟨h1, h y hF _ _ hB hQ (he.put' hdt hd _) hw' h1 (inv.set hk hin')⟩
theorem okT_one_g {i j d : Nat} {o : Oper} {want c q p : Bool} {u : Value} (hi : ops[i]? = some o) (hin : Nat.blt i n = true) (hr : Region.ready .any ops listed = [i]) {td : Nat} (hdt : o.dst = some td) (hd : Nat.blt td N = true)
    (hg : o.guard = some (j, want)) (hj : (ops[j]?).bind (·.dst) = some d) (hv : look E d = some (gv q (.bool c))) (hp : (c == want) = p) (hs : q = true → p = true → (q && p) = true → MStep P E H G o (fun _ => True) (fun _ => u) (fun _ => H) (fun _ => G))
    (hS : ∀ w, WOk base w0 H G w → WOk base w0 HS GS w)
    (h : OkT P ops Q tl n N base w0 HS GS f (listed.setIfInBounds i true) ((td, (gv (q && p) u)) :: E) H G) : OkT P ops Q tl n N base w0 HS GS (f + 1) listed E H G := fun a w hB hQ he hw hSw inv => by
  have hin' : i < n := by simpa [Nat.blt_eq] using hin
  refine ⟨by rw [hr]; simp, fun k hk => ?_⟩
  have hki : k = i := by rw [hr] at hk; simpa using hk
  subst hki
  refine ⟨hin', ?_⟩
  unfold wpOp
  simp only [hi]
  rw [wanted_of he hg hj hv, hp]
  cases hqp : (q && p) with
  | true =>
    have h2 := (Bool.and_eq_true _ _).mp hqp
    rw [if_pos rfl]
    refine .inl (hs h2.1 h2.2 hqp N base w0 a w Q _ he hw fun y w' _ hw' => ?_)
    rw [hqp] at h
    exact ⟨hS w' hw', h _ _ hB hQ (he.put' hdt hd _) hw' (hS w' hw') (inv.set hk hin')⟩
  | false =>
    rw [if_neg (by simp)]
    rw [hqp] at h
    exact ⟨hSw, h _ _ hB hQ (he.put' hdt hd undef) hw hSw (inv.set hk hin')⟩
theorem okT_one_g1 {i j d : Nat} {o : Oper} {want c p : Bool} {u : Value} (hi : ops[i]? = some o) (hin : Nat.blt i n = true) (hr : Region.ready .any ops listed = [i]) {td : Nat} (hdt : o.dst = some td) (hd : Nat.blt td N = true)
    (hg : o.guard = some (j, want)) (hj : (ops[j]?).bind (·.dst) = some d) (hv : look E d = some (.bool c)) (hp : (c == want) = p) (hs : p = true → MStep P E H G o (fun _ => True) (fun _ => u) (fun _ => H) (fun _ => G))
    (hS : ∀ w, WOk base w0 H G w → WOk base w0 HS GS w)
    (h : OkT P ops Q tl n N base w0 HS GS f (listed.setIfInBounds i true) ((td, (gv p u)) :: E) H G) : OkT P ops Q tl n N base w0 HS GS (f + 1) listed E H G :=
  okT_one_g (q := true) hi hin hr hdt hd hg hj hv hp (fun _ h _ => hs h) hS (by rw [Bool.true_and]; exact h)
theorem okT_two {i k : Nat} {oi ok : Oper} {F F2 : Ys → Prop} {v v2 : Ys → Value} {H' H2 : Ys → List HObj} {G' G2 : Ys → List World} (hi : ops[i]? = some oi) (hk : ops[k]? = some ok) (hin : Nat.blt i n = true) (hkn : Nat.blt k n = true) (hr : Region.ready .any ops listed = [i, k])
    {td : Nat} (hdt : oi.dst = some td) (hd : Nat.blt td N = true) (hg : oi.guard = none) (hs : MStep P E H G oi F v H' G') (hS : ∀ y w, F y → WOk base w0 (H' y) (G' y) w → WOk base w0 HS GS w)
    {td2 : Nat} (hdt2 : ok.dst = some td2) (hd2 : Nat.blt td2 N = true) (hg2 : ok.guard = none) (hs2 : MStep P E H G ok F2 v2 H2 G2) (hS2 : ∀ y w, F2 y → WOk base w0 (H2 y) (G2 y) w → WOk base w0 HS GS w)
    (h : ∀ y, F y → OkT P ops Q tl n N base w0 HS GS f (listed.setIfInBounds i true) ((td, v y) :: E) (H' y) (G' y))
    (h2 : ∀ y, F2 y → OkT P ops Q tl n N base w0 HS GS f (listed.setIfInBounds k true) ((td2, v2 y) :: E) (H2 y) (G2 y)) : OkT P ops Q tl n N base w0 HS GS (f + 1) listed E H G := fun a w hB hQ he hw hSw inv => by
  have hin' : i < n := by simpa [Nat.blt_eq] using hin
  have hkn' : k < n := by simpa [Nat.blt_eq] using hkn
  refine ⟨by rw [hr]; simp, fun j hj => ?_⟩
  have hjj : j = i ∨ j = k := by rw [hr] at hj; simpa using hj
  rcases hjj with rfl | rfl
  · refine ⟨hin', ?_⟩
    unfold wpOp
    simp only [hi]
    rw [if_pos (by simp [Region.wanted, hg])]
    refine .inl (hs N base w0 a w Q _ he hw fun y w' hF hw' => ?_)
    have h1 := hS y w' hF hw'
    exact ⟨h1, h y hF _ _ hB hQ (he.put' hdt hd _) hw' h1 (inv.set hj hin')⟩
  · refine ⟨hkn', ?_⟩
    unfold wpOp
    simp only [hk]
    rw [if_pos (by simp [Region.wanted, hg2])]
    refine .inl (hs2 N base w0 a w Q _ he hw fun y w' hF hw' => ?_)
    have h1 := hS2 y w' hF hw'
    exact ⟨h1, h2 y hF _ _ hB hQ (he.put' hdt2 hd2 _) hw' h1 (inv.set hj hkn')⟩
/-- A guarded one that does not run. -/
theorem okT_no {i j d : Nat} {o : Oper} {want c q : Bool} (hi : ops[i]? = some o) (ht : takeB ops n listed i = true) {td : Nat} (hdt : o.dst = some td) (hd : Nat.blt td N = true) (hg : o.guard = some (j, want)) (hj : (ops[j]?).bind (·.dst) = some d) (hv : look E d = some (gv q (.bool c))) (hp : (q && (c == want)) = false)
    (h : OkT P ops Q tl n N base w0 HS GS f (listed.setIfInBounds i true) ((td, undef) :: E) H G) : OkT P ops Q tl n N base w0 HS GS (f + 1) listed E H G := fun a w hB hQ he hw hS inv => by
  simp only [takeB, Bool.and_eq_true] at ht
  have hr' : i ∈ Region.ready .any ops listed := by simpa using ht.1.2
  have hin' : i < n := by simpa [Nat.blt_eq] using ht.1.1
  have hf := ht.2
  refine wpT_first hi hB hin' (v := undef) (fun c a w hh => hQ _ c a w _ hh) (fun listed a w hL => seqB_ready hL.1) f listed a w inv (Region.free_spec hi hf) hr' (.inr ⟨by rw [wanted_of he hg hj hv, hp], rfl⟩) hS ?_
  exact h _ _ hB hQ (he.put' hdt hd _) hw hS (inv.set hr' hin')
theorem okT_split (p : Bool) (h1 : p = true → OkT P ops Q tl n N base w0 HS GS f listed E H G) (h2 : p = false → OkT P ops Q tl n N base w0 HS GS f listed E H G) : OkT P ops Q tl n N base w0 HS GS f listed E H G := by
  cases p with
  | true => exact h1 rfl
  | false => exact h2 rfl
end
theorem WOk.tl {base : Nat} {w0 w : World} {x : HObj} {H : List HObj} {G : List World} (h : WOk base w0 (x :: H) G w) : WOk base w0 H G w :=
  ⟨h.below, h.le, fun y hy => h.own y (List.mem_cons_of_mem _ hy), (List.pairwise_cons.1 h.apart).2, fun m hm p u hp => ⟨(h.ref m hm p u hp).1, fun y hy => (h.ref m hm p u hp).2 y (List.mem_cons_of_mem _ hy)⟩⟩
theorem WOk.gtl {base : Nat} {w0 w m : World} {H : List HObj} {G : List World} (h : WOk base w0 H (m :: G) w) : WOk base w0 H G w :=
  ⟨h.below, h.le, h.own, h.apart, fun m' hm => h.ref m' (List.mem_cons_of_mem _ hm)⟩
/-- Data in a row: each a fixed number of cells. -/
class Dat (α : Type) where
  sz : Nat
  cells : α → List Value
  len : ∀ x, (cells x).length = sz
  dflt : α
def fl {α : Type} [Dat α] (l : List α) : List Value := l.flatMap Dat.cells
section
variable {α : Type} [Dat α]
def nth (l : List α) (i : Nat) : α := l.getD i Dat.dflt
theorem fl_len (l : List α) : (fl l).length = l.length * Dat.sz α := by
  induction l with
  | nil => simp [fl]
  | cons x l ih => simp only [fl, List.flatMap_cons, List.length_append, Dat.len, List.length_cons, Nat.add_mul] at *; omega
theorem fl_cons (x : α) (l : List α) : fl (x :: l) = Dat.cells x ++ fl l := rfl
theorem fl_app (a b : List α) : fl a ++ fl b = fl (a ++ b) := by simp [fl]
theorem fl_one (x : α) : fl [x] = Dat.cells x := by simp [fl]
theorem fl_at : ∀ (l : List α) (i off : Nat), i < l.length → off < Dat.sz α → (fl l)[i * Dat.sz α + off]? = (Dat.cells (nth l i))[off]?
  | [], i, off, h, _ => by simp at h
  | x :: l, 0, off, _, ho => by
    rw [fl_cons, Nat.zero_mul, Nat.zero_add, List.getElem?_append_left (by rw [Dat.len]; exact ho)]
    simp [nth]
  | x :: l, i + 1, off, h, ho => by
    rw [fl_cons, List.getElem?_append_right (by rw [Dat.len, Nat.add_mul]; omega), Dat.len]
    have := fl_at l i off (by simpa using h) ho
    rw [show (i + 1) * Dat.sz α + off - Dat.sz α = i * Dat.sz α + off by rw [Nat.add_mul]; omega, this]
    simp [nth]
theorem fl_at0 (l : List α) (i : Nat) (h : i < l.length) (ho : 0 < Dat.sz α) : (fl l)[i * Dat.sz α]? = (Dat.cells (nth l i))[0]? := fl_at l i 0 h ho
theorem fl_sub : ∀ (l : List α) (i : Nat), i < l.length → ((fl l).drop (i * Dat.sz α)).take (Dat.sz α) = Dat.cells (nth l i)
  | [], i, h => by simp at h
  | x :: l, 0, _ => by
    rw [fl_cons, Nat.zero_mul, List.drop_zero, List.take_append_of_le_length (by rw [Dat.len]; exact Nat.le_refl _), List.take_of_length_le (by rw [Dat.len]; exact Nat.le_refl _)]
    simp [nth]
  | x :: l, i + 1, h => by
    rw [fl_cons, show (i + 1) * Dat.sz α = (Dat.cells x).length + i * Dat.sz α by rw [Dat.len, Nat.add_mul]; omega, ← List.drop_drop, List.drop_left]
    have := fl_sub l i (by simpa using h)
    rw [this]; simp [nth]
end
instance : Dat Int := ⟨1, fun x => [.int .i64 x], fun _ => rfl, 0⟩
instance : Dat ByteArray := ⟨1, fun x => [.string x], fun _ => rfl, ⟨#[]⟩⟩
instance : Dat UInt8 := ⟨1, fun x => [.int .u8 (x.toNat : Int)], fun _ => rfl, 0⟩
instance : Dat Bool := ⟨1, fun x => [.bool x], fun _ => rfl, false⟩
theorem fl_bytes (l : List UInt8) : fl l = byteVs l := by
  induction l with
  | nil => rfl
  | cons x l ih => rw [fl_cons, ih]; rfl
end Go.Proofs.Ytojgphgfhapacaa
