/- Texts of this claim, one behind the other: Eng6, Eng7, Eng8, Eng9, Eng10. -/
import Derived.Test.YtfcnimglcialbaaMg2
import Derived.Laws.CopyRow
import Derived.Laws.Append
/- The engine: a statement whose order is open; data in slices. -/
namespace Go.Proofs.Ytfcnimglcialbaa
open Go.RowKit
set_option linter.unusedVariables false
set_option linter.unusedSimpArgs false
/-- The head of a region in any order, S holding behind each operation; then L. -/
def wpT (P : Program) (md : Region.Mode) (ops : Array Oper) (Q : Exit → Act → World → Prop) (S : World → Prop) (n : Nat) (L : Array Bool → Act → World → Prop) : Nat → Array Bool → Act → World → Prop
  | 0, listed, a, w => L listed a w
  | f + 1, listed, a, w => Region.ready md ops listed ≠ [] ∧ ∀ i ∈ Region.ready md ops listed, i < n ∧ wpOp P ops Q i (fun a' w' => S w' ∧ wpT P md ops Q S n L f (listed.setIfInBounds i true) a' w') a w
section
variable {P : Program} {ops : Array Oper} {Q : Exit → Act → World → Prop} {md : Region.Mode} {S : World → Prop}
theorem wpAny_of_T {n g : Nat} {L : Array Bool → Act → World → Prop} (hL : ∀ listed a w, L listed a w → wpAny P md ops Q g listed a w) :
    ∀ (f : Nat) (listed : Array Bool) (a : Act) (w : World), wpT P md ops Q S n L f listed a w → wpAny P md ops Q (f + g) listed a w
  | 0, listed, a, w, h => by rw [Nat.zero_add]; exact hL _ _ _ h
  | f + 1, listed, a, w, h => by
    rw [show f + 1 + g = (f + g) + 1 by omega]
    exact ⟨fun h0 => absurd h0 h.1, fun i hi => wpOp_mono (fun a' w' h' => wpAny_of_T hL f _ a' w' h'.2) (h.2 i hi).2⟩
/-- What may come up before the head is done is of the head. -/
def HeadB (md : Region.Mode) (ops : Array Oper) (n : Nat) : Bool := Region.noSelect ops && (decide (ops.size = n) || (decide (n < ops.size) && Region.sinkB md ops n && Region.chainB md ops n))
theorem head_lt {n i : Nat} {listed : Array Bool} (hB : HeadB md ops n = true) (inv : HeadInv md ops n listed) (hin : i < n) (hun : listed.getD i true = false) : ∀ j ∈ Region.ready md ops listed, j < n := fun j hj => by
  simp only [HeadB, Bool.and_eq_true, Bool.or_eq_true, decide_eq_true_eq] at hB
  rcases Nat.lt_or_ge j n with h | h
  · exact h
  · rcases hB.2 with h1 | ⟨⟨hn, hs⟩, hc⟩
    · obtain ⟨_, oj, hoj, _⟩ := mem_ready.1 hj
      have := (Array.getElem?_eq_some_iff.1 hoj).1; omega
    · exact absurd hj (tail_waits hs hc hn inv _ i rfl hin hun j h)
theorem wpT_first {n i : Nat} {oi : Oper} {v : Value} {L : Array Bool → Act → World → Prop} (hi : ops[i]? = some oi) (hB : HeadB md ops n = true) (hin : i < n)
    (hQ : ∀ c a w, Q (.panic c) (a.put oi.dst v) w → Q (.panic c) a w)
    (hdone : ∀ listed a w, L listed a w → ∀ j ∈ Region.ready md ops listed, n ≤ j) :
    ∀ (f : Nat) (listed : Array Bool) (a : Act) (w : World), HeadInv md ops n listed →
      (∀ j oj, ops[j]? = some oj → j ≠ i → listed.getD j true = false → (∀ e ∈ oj.after, Region.binds md e = true → e.on ≠ i) → oi.apart ops oj = true) →
      i ∈ Region.ready md ops listed → YieldsIf P ops S oi v a → S w →
      wpT P md ops Q S n L f (listed.setIfInBounds i true) (a.put oi.dst v) w → wpT P md ops Q S n L (f + 1) listed a w := by
  have hsel : ∀ (j : Nat) (o : Oper) cs b, ops[j]? = some o → o.op ≠ .select cs b := by
    simp only [HeadB, Bool.and_eq_true] at hB
    exact Region.noSelect_spec hB.1
  intro f
  induction f with
  | zero =>
    intro listed a w inv _ hr hy hS H
    have hun := (mem_ready.1 hr).1
    refine ⟨fun h => (by rw [h] at hr; cases hr), fun j hj => ?_⟩
    have hjn := head_lt hB inv hin hun j hj
    refine ⟨hjn, ?_⟩
    by_cases hji : j = i
    · subst hji; exact hy.wpOp hi hS ⟨hS, H⟩
    · have := hdone _ _ _ H j (ready_mono hj hji)
      omega
  | succ f ih =>
    intro listed a w inv hfree hr hy hS H
    have hun := (mem_ready.1 hr).1
    refine ⟨fun h => (by rw [h] at hr; cases hr), fun j hj => ?_⟩
    have hjn := head_lt hB inv hin hun j hj
    refine ⟨hjn, ?_⟩
    by_cases hji : j = i
    · subst hji; exact hy.wpOp hi hS ⟨hS, H⟩
    · have h1 := (H.2 j (ready_mono hj hji)).2
      obtain ⟨hjun, oj, hoj, hall⟩ := mem_ready.1 hj
      have hnot : ∀ e ∈ oj.after, Region.binds md e = true → e.on ≠ i := fun e he hb heq => by
        have h1 := hall e he hb
        rw [heq, getD_both hun] at h1
        cases h1
      have h2 := wpOp_putIf hoj (hfree j oj hoj hji hjun hnot) (fun cs b => hsel i oi cs b hi) (fun cs b => hsel j oj cs b hoj) hQ hy h1
      have hfree' : ∀ k ok, ops[k]? = some ok → k ≠ i → (listed.setIfInBounds j true).getD k true = false →
          (∀ e ∈ ok.after, Region.binds md e = true → e.on ≠ i) → oi.apart ops ok = true := fun k ok hk hki hun hno => by
        refine hfree k ok hk hki ?_ hno
        by_cases hjk : j = k
        · subst hjk; exact hjun
        · rw [getD_set_ne true hjk] at hun; exact hun
      refine wpOp_mono (fun a' w' h3 => ⟨h3.2.1, ih (listed.setIfInBounds j true) a' w' (inv.set hj hjn) hfree' (ready_mono hr (Ne.symm hji)) h3.1 h3.2.1 ?_⟩) h2
      rw [Array.setIfInBounds_comm _ _ hji]
      exact h3.2.2
end
/-- What a panic leaves does not hang on a temporary. -/
def PQ (Q : Exit → Act → World → Prop) : Prop := ∀ (d : Option Tmp) c a w v, Q (.panic c) (a.put d v) w → Q (.panic c) a w
theorem pq_then {k : Act → World → Prop} {Q : Exit → Act → World → Prop} (h : PQ Q) : PQ (Exit.then k Q) := h
theorem pq_in {i : Nat} {Q : Exit → Act → World → Prop} (h : PQ Q) : PQ (Exit.inBlock i Q) := h
theorem pq_body {P : Program} {fn : Func} {R : Ending → World → Prop} : PQ (bodyPost P fn R) := fun d c a w v h => by
  cases d <;> exact h
/-- Number i may be taken now: it may come up, it is of the head, nobody who could come before it touches its temporaries. -/
def takeB (ops : Array Oper) (n : Nat) (listed : Array Bool) (i : Nat) : Bool := Nat.blt i n && (Region.ready .any ops listed).contains i && Region.free .any ops listed i
/-- A state inside a region whose order is open: f operations of the head are to come; S is the state at its beginning. -/
def OkT (P : Program) (ops : Array Oper) (Q : Exit → Act → World → Prop) (tl : List Oper) (n : Nat) (N base : Nat) (w0 : World) (HS : List HObj) (GS : List World) (f : Nat) (listed : Array Bool) (E : Env) (H : List HObj) (G : List World) : Prop :=
  ∀ a w, HeadB .any ops n = true → PQ Q → EnvOk N E a → WOk base w0 H G w → WOk base w0 HS GS w → HeadInv .any ops n listed →
    wpT P .any ops Q (fun w => WOk base w0 HS GS w) n (fun listed a w => Region.seqB .any ops tl.length n listed = true ∧ wpList P ops Q tl a w) f listed a w
section
variable {P : Program} {N base : Nat} {w0 : World} {E : Env} {H HS : List HObj} {G GS : List World} {Q : Exit → Act → World → Prop} {ops : Array Oper} {tl : List Oper} {n f : Nat} {listed : Array Bool}
theorem ok_draw {id : Nat} {l : List Oper} (n : Nat) {tl : List Oper} (htl : l.drop n = tl) (hm : P.follows .mixedOrders = true) (hB : HeadB .any l.toArray n = true) (hn : Nat.ble n l.length = true) (hQ : PQ Q)
    (is : List Nat) (hnd : is.Nodup) {HS : List HObj} (hHS : HS = is.filterMap fun i => H[i]?) (h : OkT P l.toArray Q tl n N base w0 HS G n (Array.replicate l.length false) E H G) : Ok N base w0 E H G ((Code.region id l.toArray true).wp P Q) := fun a w he hw => by
  have hn' : n ≤ l.length := Nat.le_of_ble_eq_true hn
  have hdl : tl.length = l.toArray.size - n := by subst htl; simp
  have inv0 : HeadInv .any l.toArray n (Array.replicate l.length false) :=
    ⟨by simp, fun j oj _ hl => (by rw [getD_replicate_false] at hl; cases hl), fun t _ ht => getD_in (by simpa using ht) (getD_replicate_false _ _)⟩
  have H0 := h a w.drew hB hQ he hw.drew (hw.drew.sel is hnd hHS (fun _ h => h)) inv0
  refine wp_region_any hm ?_
  have := wpAny_of_T (Q := Q) (g := l.toArray.size - n) (fun listed a' w' hL => by
    have := wpAny_of_seq (md := .any) (Q' := Q) tl n listed a' w' (fun j => by subst htl; simp [List.getElem?_drop]) hL.1 hL.2
    rwa [hdl] at this) _ _ _ _ H0
  rw [show n + (l.toArray.size - n) = l.toArray.size by simp; omega] at this
  simpa using this
theorem okT_done (hs : Region.seqB .any ops tl.length n listed = true) (h : Ok N base w0 E H G (wpList P ops Q tl)) : OkT P ops Q tl n N base w0 HS GS 0 listed E H G := fun a w _ _ he hw _ _ => ⟨hs, h a w he hw⟩
theorem okT_take {i : Nat} {o : Oper} {v : Value} (hi : ops[i]? = some o) (ht : takeB ops n listed i = true) {td : Nat} (hdt : o.dst = some td) (hd : Nat.blt td N = true) (hg : o.guard = none) (hs : PStep P E HS GS o v)
    (h : OkT P ops Q tl n N base w0 HS GS f (listed.setIfInBounds i true) ((td, v) :: E) H G) : OkT P ops Q tl n N base w0 HS GS (f + 1) listed E H G := fun a w hB hQ he hw hS inv => by
  simp only [takeB, Bool.and_eq_true] at ht
  have hr' : i ∈ Region.ready .any ops listed := by simpa using ht.1.2
  have hin' : i < n := by simpa [Nat.blt_eq] using ht.1.1
  have hf := ht.2
  refine wpT_first hi hB hin' (fun c a w hh => hQ _ c a w _ hh) (fun listed a w hL => seqB_ready hL.1) f listed a w inv (Region.free_spec hi hf) hr' (.inl ⟨by simp [Region.wanted, hg], fun w' hS' => hs N base w0 a w' he hS'⟩) hS ?_
  exact h _ _ hB hQ (he.put' hdt hd v) hw hS (inv.set hr' hin')
theorem okT_take_g {i j d : Nat} {o : Oper} {v : Value} {want c q : Bool} {p : Bool} (hi : ops[i]? = some o) (ht : takeB ops n listed i = true) {td : Nat} (hdt : o.dst = some td) (hd : Nat.blt td N = true) (hg : o.guard = some (j, want)) (hj : (ops[j]?).bind (·.dst) = some d) (hv : look E d = some (gv q (.bool c))) (hp : (c == want) = p)
    (hs : q = true → p = true → (q && p) = true → PStep P E HS GS o v)
    (h : OkT P ops Q tl n N base w0 HS GS f (listed.setIfInBounds i true) ((td, (gv (q && p) v)) :: E) H G) : OkT P ops Q tl n N base w0 HS GS (f + 1) listed E H G := fun a w hB hQ he hw hS inv => by
  simp only [takeB, Bool.and_eq_true] at ht
  have hr' : i ∈ Region.ready .any ops listed := by simpa using ht.1.2
  have hin' : i < n := by simpa [Nat.blt_eq] using ht.1.1
  have hf := ht.2
  refine wpT_first hi hB hin' (v := gv (q && p) v) (fun c a w hh => hQ _ c a w _ hh) (fun listed a w hL => seqB_ready hL.1) f listed a w inv (Region.free_spec hi hf) hr' ?_ hS ?_
  · have hw1 := wanted_of he hg hj hv
    rw [hp] at hw1
    cases hqp : (q && p) with
    | true =>
      have h2 := (Bool.and_eq_true _ _).mp hqp
      exact .inl ⟨by rw [hw1]; exact hqp, fun w' hS' => hs h2.1 h2.2 hqp N base w0 a w' he hS'⟩
    | false => exact .inr ⟨by rw [hw1]; exact hqp, rfl⟩
  · exact h _ _ hB hQ (he.put' hdt hd _) hw hS (inv.set hr' hin')
theorem okT_take_g1 {i j d : Nat} {o : Oper} {v : Value} {want c : Bool} {p : Bool} (hi : ops[i]? = some o) (ht : takeB ops n listed i = true) {td : Nat} (hdt : o.dst = some td) (hd : Nat.blt td N = true) (hg : o.guard = some (j, want)) (hj : (ops[j]?).bind (·.dst) = some d) (hv : look E d = some (.bool c)) (hp : (c == want) = p)
    (hs : p = true → PStep P E HS GS o v)
    (h : OkT P ops Q tl n N base w0 HS GS f (listed.setIfInBounds i true) ((td, (gv p v)) :: E) H G) : OkT P ops Q tl n N base w0 HS GS (f + 1) listed E H G :=
  okT_take_g (q := true) hi ht hdt hd hg hj hv hp (fun _ h _ => hs h) (by rw [Bool.true_and]; exact h)
/-- The one operation that may come up now, and that makes or writes memory. -/
theorem okT_one {i : Nat} {o : Oper} {F : Ys → Prop} {v : Ys → Value} {H' : Ys → List HObj} {G' : Ys → List World} (hi : ops[i]? = some o) (hin : Nat.blt i n = true) (hr : Region.ready .any ops listed = [i]) {td : Nat} (hdt : o.dst = some td) (hd : Nat.blt td N = true) (hg : o.guard = none) (hs : MStep P E H G o F v H' G')
    (hS : ∀ y w, F y → WOk base w0 (H' y) (G' y) w → WOk base w0 HS GS w)
    (h : ∀ y, F y → OkT P ops Q tl n N base w0 HS GS f (listed.setIfInBounds i true) ((td, v y) :: E) (H' y) (G' y)) : OkT P ops Q tl n N base w0 HS GS (f + 1) listed E H G := fun a w hB hQ he hw hSw inv => by
  have hin' : i < n := by simpa [Nat.blt_eq] using hin
  refine ⟨by rw [hr]; simp, fun j hj => ?_⟩
  have hji : j = i := by rw [hr] at hj; simpa using hj
  subst hji
  refine ⟨hin', ?_⟩
  unfold wpOp
  simp only [hi]
  rw [if_pos (by simp [Region.wanted, hg])]
  refine .inl (hs N base w0 a w Q _ he hw fun y w' hF hw' => ?_)
  have h1 := hS y w' hF hw'
  exact ⟨h1, h y hF _ _ hB hQ (he.put' hdt hd _) hw' h1 (inv.set hj hin')⟩
theorem okT_one_yes {i j d : Nat} {o : Oper} {want c q : Bool} {F : Ys → Prop} {v : Ys → Value} {H' : Ys → List HObj} {G' : Ys → List World} (hi : ops[i]? = some o) (hin : Nat.blt i n = true) (hr : Region.ready .any ops listed = [i]) {td : Nat} (hdt : o.dst = some td) (hd : Nat.blt td N = true)
    (hg : o.guard = some (j, want)) (hj : (ops[j]?).bind (·.dst) = some d) (hv : look E d = some (gv q (.bool c))) (hp : (q && (c == want)) = true) (hs : MStep P E H G o F v H' G')
    (hS : ∀ y w, F y → WOk base w0 (H' y) (G' y) w → WOk base w0 HS GS w)
    (h : ∀ y, F y → OkT P ops Q tl n N base w0 HS GS f (listed.setIfInBounds i true) ((td, v y) :: E) (H' y) (G' y)) : OkT P ops Q tl n N base w0 HS GS (f + 1) listed E H G := fun a w hB hQ he hw hSw inv => by
  have hin' : i < n := by simpa [Nat.blt_eq] using hin
  refine ⟨by rw [hr]; simp, fun k hk => ?_⟩
  have hki : k = i := by rw [hr] at hk; simpa using hk
  subst hki
  refine ⟨hin', ?_⟩
  unfold wpOp
  simp only [hi]
  rw [if_pos (by rw [wanted_of he hg hj hv, hp])]
  refine .inl (hs N base w0 a w Q _ he hw fun y w' hF hw' => ?_)
  have h1 := hS y w' hF hw'
  exact ⟨h1, h y hF _ _ hB hQ (he.put' hdt hd _) hw' h1 (inv.set hk hin')⟩
theorem okT_one_g {i j d : Nat} {o : Oper} {want c q p : Bool} {u : Value} (hi : ops[i]? = some o) (hin : Nat.blt i n = true) (hr : Region.ready .any ops listed = [i]) {td : Nat} (hdt : o.dst = some td) (hd : Nat.blt td N = true)
    (hg : o.guard = some (j, want)) (hj : (ops[j]?).bind (·.dst) = some d) (hv : look E d = some (gv q (.bool c))) (hp : (c == want) = p) (hs : q = true → p = true → (q && p) = true → MStep P E H G o (fun _ => True) (fun _ => u) (fun _ => H) (fun _ => G))
    (hS : ∀ w, WOk base w0 H G w → WOk base w0 HS GS w)
    (h : OkT P ops Q tl n N base w0 HS GS f (listed.setIfInBounds i true) ((td, (gv (q && p) u)) :: E) H G) : OkT P ops Q tl n N base w0 HS GS (f + 1) listed E H G := fun a w hB hQ he hw hSw inv => by
  have hin' : i < n := by simpa [Nat.blt_eq] using hin
  refine ⟨by rw [hr]; simp, fun k hk => ?_⟩
  have hki : k = i := by rw [hr] at hk; simpa using hk
  subst hki
  refine ⟨hin', ?_⟩
  unfold wpOp
  simp only [hi]
  rw [wanted_of he hg hj hv, hp]
  cases hqp : (q && p) with
  | true =>
    have h2 := (Bool.and_eq_true _ _).mp hqp
    rw [if_pos rfl]
    refine .inl (hs h2.1 h2.2 hqp N base w0 a w Q _ he hw fun y w' _ hw' => ?_)
    rw [hqp] at h
    exact ⟨hS w' hw', h _ _ hB hQ (he.put' hdt hd _) hw' (hS w' hw') (inv.set hk hin')⟩
  | false =>
    rw [if_neg (by simp)]
    rw [hqp] at h
    exact ⟨hSw, h _ _ hB hQ (he.put' hdt hd undef) hw hSw (inv.set hk hin')⟩
theorem okT_one_g1 {i j d : Nat} {o : Oper} {want c p : Bool} {u : Value} (hi : ops[i]? = some o) (hin : Nat.blt i n = true) (hr : Region.ready .any ops listed = [i]) {td : Nat} (hdt : o.dst = some td) (hd : Nat.blt td N = true)
    (hg : o.guard = some (j, want)) (hj : (ops[j]?).bind (·.dst) = some d) (hv : look E d = some (.bool c)) (hp : (c == want) = p) (hs : p = true → MStep P E H G o (fun _ => True) (fun _ => u) (fun _ => H) (fun _ => G))
    (hS : ∀ w, WOk base w0 H G w → WOk base w0 HS GS w)
    (h : OkT P ops Q tl n N base w0 HS GS f (listed.setIfInBounds i true) ((td, (gv p u)) :: E) H G) : OkT P ops Q tl n N base w0 HS GS (f + 1) listed E H G :=
  okT_one_g (q := true) hi hin hr hdt hd hg hj hv hp (fun _ h _ => hs h) hS (by rw [Bool.true_and]; exact h)
theorem okT_two {i k : Nat} {oi ok : Oper} {F F2 : Ys → Prop} {v v2 : Ys → Value} {H' H2 : Ys → List HObj} {G' G2 : Ys → List World} (hi : ops[i]? = some oi) (hk : ops[k]? = some ok) (hin : Nat.blt i n = true) (hkn : Nat.blt k n = true) (hr : Region.ready .any ops listed = [i, k])
    {td : Nat} (hdt : oi.dst = some td) (hd : Nat.blt td N = true) (hg : oi.guard = none) (hs : MStep P E H G oi F v H' G') (hS : ∀ y w, F y → WOk base w0 (H' y) (G' y) w → WOk base w0 HS GS w)
    {td2 : Nat} (hdt2 : ok.dst = some td2) (hd2 : Nat.blt td2 N = true) (hg2 : ok.guard = none) (hs2 : MStep P E H G ok F2 v2 H2 G2) (hS2 : ∀ y w, F2 y → WOk base w0 (H2 y) (G2 y) w → WOk base w0 HS GS w)
    (h : ∀ y, F y → OkT P ops Q tl n N base w0 HS GS f (listed.setIfInBounds i true) ((td, v y) :: E) (H' y) (G' y))
    (h2 : ∀ y, F2 y → OkT P ops Q tl n N base w0 HS GS f (listed.setIfInBounds k true) ((td2, v2 y) :: E) (H2 y) (G2 y)) : OkT P ops Q tl n N base w0 HS GS (f + 1) listed E H G := fun a w hB hQ he hw hSw inv => by
  have hin' : i < n := by simpa [Nat.blt_eq] using hin
  have hkn' : k < n := by simpa [Nat.blt_eq] using hkn
  refine ⟨by rw [hr]; simp, fun j hj => ?_⟩
  have hjj : j = i ∨ j = k := by rw [hr] at hj; simpa using hj
  rcases hjj with rfl | rfl
  · refine ⟨hin', ?_⟩
    unfold wpOp
    simp only [hi]
    rw [if_pos (by simp [Region.wanted, hg])]
    refine .inl (hs N base w0 a w Q _ he hw fun y w' hF hw' => ?_)
    have h1 := hS y w' hF hw'
    exact ⟨h1, h y hF _ _ hB hQ (he.put' hdt hd _) hw' h1 (inv.set hj hin')⟩
  · refine ⟨hkn', ?_⟩
    unfold wpOp
    simp only [hk]
    rw [if_pos (by simp [Region.wanted, hg2])]
    refine .inl (hs2 N base w0 a w Q _ he hw fun y w' hF hw' => ?_)
    have h1 := hS2 y w' hF hw'
    exact ⟨h1, h2 y hF _ _ hB hQ (he.put' hdt2 hd2 _) hw' h1 (inv.set hj hkn')⟩
/-- A guarded one that does not run. -/
theorem okT_no {i j d : Nat} {o : Oper} {want c q : Bool} (hi : ops[i]? = some o) (ht : takeB ops n listed i = true) {td : Nat} (hdt : o.dst = some td) (hd : Nat.blt td N = true) (hg : o.guard = some (j, want)) (hj : (ops[j]?).bind (·.dst) = some d) (hv : look E d = some (gv q (.bool c))) (hp : (q && (c == want)) = false)
    (h : OkT P ops Q tl n N base w0 HS GS f (listed.setIfInBounds i true) ((td, undef) :: E) H G) : OkT P ops Q tl n N base w0 HS GS (f + 1) listed E H G := fun a w hB hQ he hw hS inv => by
  simp only [takeB, Bool.and_eq_true] at ht
  have hr' : i ∈ Region.ready .any ops listed := by simpa using ht.1.2
  have hin' : i < n := by simpa [Nat.blt_eq] using ht.1.1
  have hf := ht.2
  refine wpT_first hi hB hin' (v := undef) (fun c a w hh => hQ _ c a w _ hh) (fun listed a w hL => seqB_ready hL.1) f listed a w inv (Region.free_spec hi hf) hr' (.inr ⟨by rw [wanted_of he hg hj hv, hp], rfl⟩) hS ?_
  exact h _ _ hB hQ (he.put' hdt hd _) hw hS (inv.set hr' hin')
theorem okT_split (p : Bool) (h1 : p = true → OkT P ops Q tl n N base w0 HS GS f listed E H G) (h2 : p = false → OkT P ops Q tl n N base w0 HS GS f listed E H G) : OkT P ops Q tl n N base w0 HS GS f listed E H G := by
  cases p with
  | true => exact h1 rfl
  | false => exact h2 rfl
end
theorem WOk.tl {base : Nat} {w0 w : World} {x : HObj} {H : List HObj} {G : List World} (h : WOk base w0 (x :: H) G w) : WOk base w0 H G w :=
  ⟨h.below, h.le, fun y hy => h.own y (List.mem_cons_of_mem _ hy), (List.pairwise_cons.1 h.apart).2, fun m hm p u hp => ⟨(h.ref m hm p u hp).1, fun y hy => (h.ref m hm p u hp).2 y (List.mem_cons_of_mem _ hy)⟩⟩
theorem WOk.gtl {base : Nat} {w0 w m : World} {H : List HObj} {G : List World} (h : WOk base w0 H (m :: G) w) : WOk base w0 H G w :=
  ⟨h.below, h.le, h.own, h.apart, fun m' hm => h.ref m' (List.mem_cons_of_mem _ hm)⟩
/-- Data in a row: each a fixed number of cells. -/
class Dat (α : Type) where
  sz : Nat
  cells : α → List Value
  len : ∀ x, (cells x).length = sz
  dflt : α
def fl {α : Type} [Dat α] (l : List α) : List Value := l.flatMap Dat.cells
section
variable {α : Type} [Dat α]
def nth (l : List α) (i : Nat) : α := l.getD i Dat.dflt
theorem fl_len (l : List α) : (fl l).length = l.length * Dat.sz α := by
  induction l with
  | nil => simp [fl]
  | cons x l ih => simp only [fl, List.flatMap_cons, List.length_append, Dat.len, List.length_cons, Nat.add_mul] at *; omega
theorem fl_cons (x : α) (l : List α) : fl (x :: l) = Dat.cells x ++ fl l := rfl
theorem fl_app (a b : List α) : fl a ++ fl b = fl (a ++ b) := by simp [fl]
theorem fl_one (x : α) : fl [x] = Dat.cells x := by simp [fl]
theorem fl_at : ∀ (l : List α) (i off : Nat), i < l.length → off < Dat.sz α → (fl l)[i * Dat.sz α + off]? = (Dat.cells (nth l i))[off]?
  | [], i, off, h, _ => by simp at h
  | x :: l, 0, off, _, ho => by
    rw [fl_cons, Nat.zero_mul, Nat.zero_add, List.getElem?_append_left (by rw [Dat.len]; exact ho)]
    simp [nth]
  | x :: l, i + 1, off, h, ho => by
    rw [fl_cons, List.getElem?_append_right (by rw [Dat.len, Nat.add_mul]; omega), Dat.len]
    have := fl_at l i off (by simpa using h) ho
    rw [show (i + 1) * Dat.sz α + off - Dat.sz α = i * Dat.sz α + off by rw [Nat.add_mul]; omega, this]
    simp [nth]
theorem fl_at0 (l : List α) (i : Nat) (h : i < l.length) (ho : 0 < Dat.sz α) : (fl l)[i * Dat.sz α]? = (Dat.cells (nth l i))[0]? := fl_at l i 0 h ho
theorem fl_sub : ∀ (l : List α) (i : Nat), i < l.length → ((fl l).drop (i * Dat.sz α)).take (Dat.sz α) = Dat.cells (nth l i)
  | [], i, h => by simp at h
  | x :: l, 0, _ => by
    rw [fl_cons, Nat.zero_mul, List.drop_zero, List.take_append_of_le_length (by rw [Dat.len]; exact Nat.le_refl _), List.take_of_length_le (by rw [Dat.len]; exact Nat.le_refl _)]
    simp [nth]
  | x :: l, i + 1, h => by
    rw [fl_cons, show (i + 1) * Dat.sz α = (Dat.cells x).length + i * Dat.sz α by rw [Dat.len, Nat.add_mul]; omega, ← List.drop_drop, List.drop_left]
    have := fl_sub l i (by simpa using h)
    rw [this]; simp [nth]
end
instance : Dat Int := ⟨1, fun x => [.int .i64 x], fun _ => rfl, 0⟩
instance : Dat ByteArray := ⟨1, fun x => [.string x], fun _ => rfl, ⟨#[]⟩⟩
instance : Dat UInt8 := ⟨1, fun x => [.int .u8 (x.toNat : Int)], fun _ => rfl, 0⟩
instance : Dat Bool := ⟨1, fun x => [.bool x], fun _ => rfl, false⟩
theorem fl_bytes (l : List UInt8) : fl l = byteVs l := by
  induction l with
  | nil => rfl
  | cons x l ih => rw [fl_cons, ih]; rfl
end Go.Proofs.Ytfcnimglcialbaa
/- The engine: structs and rows that are built part by part; calls by their number of arguments. -/
namespace Go.Proofs.Ytfcnimglcialbaa
open Go.RowKit
set_option linter.unusedVariables false
set_option linter.unusedSimpArgs false
def Parts (E : Env) : List (Nat × Operand) → List (Nat × Value) → Prop
  | [], [] => True
  | q :: l, r :: m => q.1 = r.1 ∧ opd E q.2 = some r.2 ∧ Parts E l m
  | _, _ => False
theorem parts_nil {E : Env} : Parts E [] [] := trivial
theorem parts_cons {E : Env} {i : Nat} {x : Operand} {v : Value} {l : List (Nat × Operand)} {m : List (Nat × Value)} (h : opd E x = some v) (hm : Parts E l m) : Parts E ((i, x) :: l) ((i, v) :: m) := ⟨rfl, h, hm⟩
theorem parts_eval {N : Nat} {E : Env} {a : Act} (he : EnvOk N E a) : ∀ {l : List (Nat × Operand)} {vs : List (Nat × Value)}, Parts E l vs → l.map (fun q => (q.1, a.eval q.2)) = vs
  | [], [], _ => rfl
  | q :: l, r :: m, h => by
    rw [List.map_cons, parts_eval he h.2.2, he.eval h.2.1, h.1]
def bldL (pl : Nat → Option (Nat × Nat)) : List Value → List (Nat × Value) → Option (List Value)
  | cs, [] => some cs
  | cs, (i, v) :: rest => match pl i with
    | none => none
    | some (off, sz) => if v.cells.toList.length = sz ∧ off + sz ≤ cs.length then bldL pl (putC cs off v.cells.toList) rest else none
theorem foldl_put (vs : List Value) : ∀ (cs : List Value) (off k : Nat), off + k + vs.length ≤ cs.length → (vs.zipIdx k).foldl (fun (cs : Array Value) (p : Value × Nat) => cs.setIfInBounds (off + p.2) p.1) cs.toArray = (putC cs (off + k) vs).toArray := by
  induction vs with
  | nil => intro cs off k _; simp [putC]
  | cons v vs ih =>
    intro cs off k h
    simp only [List.zipIdx_cons, List.foldl_cons, List.length_cons] at h ⊢
    have h1 : (cs.toArray.setIfInBounds (off + k) v) = (cs.set (off + k) v).toArray := by simp
    rw [h1, ih _ _ _ (by simp; omega)]
    congr 1
    simp only [putC]
    apply List.ext_getElem?
    intro j
    simp only [List.getElem?_append, List.getElem?_take, List.getElem?_drop, List.length_append, List.length_take, List.length_set, List.length_cons, List.getElem?_set, List.getElem?_cons]
    repeat' split
    all_goals first | rfl | omega | (congr 1; omega) | skip
    all_goals simp_all <;> omega
theorem fill_bld (pl : Nat → Option (Nat × Nat)) : ∀ (vs : List (Nat × Value)) (cs r : List Value), bldL pl cs vs = some r → Instr.fill pl cs.toArray vs = some r.toArray
  | [], cs, r, h => by cases h; rfl
  | (i, v) :: rest, cs, r, h => by
    unfold bldL at h
    unfold Instr.fill
    cases hp : pl i with
    | none => simp [hp] at h
    | some p =>
      obtain ⟨off, sz⟩ := p
      simp only [hp] at h ⊢
      split at h
      case isFalse => cases h
      rename_i hc
      have hl : v.cells.size = sz := by simpa using hc.1
      have hle : off + v.cells.size ≤ cs.length := by omega
      rw [if_neg (by simp [hl]; omega)]
      have := foldl_put v.cells.toList cs off 0 (by simpa using hle)
      simp only [Nat.add_zero] at this
      have e : v.cells.zipIdx.foldl (fun cs x => match x with | (c, j) => cs.setIfInBounds (off + j) c) cs.toArray = (putC cs off v.cells.toList).toArray := by
        rw [← this, ← Array.foldl_toList, Array.toList_zipIdx]
      rw [e]
      exact fill_bld pl rest _ r h
def stB (P : Program) (t : TypeId) : Option (Array Value × List (Nat × Nat)) := match P.info? t, P.underlying t with
  | some it, some (.struct fields) => match it.zero, fields.toList.mapM (fun f => (P.info? f.type).map fun i => (f.offset, i.size)) with
    | some z, some pl => some (z.cells, pl)
    | _, _ => none
  | _, _ => none
class ST (P : Program) (t : TypeId) (zs : outParam (List Value)) (pl : outParam (List (Nat × Nat))) : Prop where h : stB P t = some (zs.toArray, pl)
section
variable {P : Program} {N base : Nat} {w0 : World} {E : Env} {H : List HObj} {G : List World} {Q : Exit → Act → World → Prop} {o : Oper} {F : Ys → Prop} {v : Ys → Value}
theorem ps_bld {t : TypeId} {parts : Array (Nat × Operand)} {vs : List (Nat × Value)} {zs cs : List Value} {pl : List (Nat × Nat)} [hst : ST P t zs pl] (ho : o.op = .build t parts) (hp : Parts E parts.toList vs) (hb : bldL (fun i => pl[i]?) zs vs = some cs) : PStep P E H G o (.agg cs.toArray) := fun N base w0 a w he hw => by
  have h := hst.h
  unfold stB at h
  split at h
  case h_2 => cases h
  rename_i it fields hit hu
  split at h
  case h_2 => cases h
  rename_i z pl' hz hpl
  injection h with h
  injection h with h1 h2
  have hf := fill_bld _ vs zs cs hb
  have hbt : P.built t vs = some cs.toArray := by
    simp only [Program.built, hit, hu, hz, hpl, h1, h2]
    rw [← hf]
    simp
  have hm : (parts.map fun q => (q.1, a.eval q.2)).toList = vs := by rw [Array.toList_map]; exact parts_eval he hp
  have := run_build (P := P) w t (parts.map fun q => (q.1, a.eval q.2)) cs.toArray (by rw [hm]; exact hbt)
  simp only [execOp, ho, Sem.run_bind, this, Result.andThen_ok, Sem.run_pure]
def zrow (zs : List Value) : Nat → List Value
  | 0 => []
  | n + 1 => zs ++ zrow zs n
theorem zrow_len (zs : List Value) (n : Nat) : (zrow zs n).length = n * zs.length := by
  induction n with
  | zero => simp [zrow]
  | succ n ih => simp only [zrow, List.length_append, ih, Nat.add_mul]; omega
theorem zrow_get (zs : List Value) : ∀ (n j : Nat), j < n * zs.length → (zrow zs n)[j]? = zs[j % zs.length]?
  | 0, j, h => by simp at h
  | n + 1, j, h => by
    simp only [zrow]
    by_cases hj : j < zs.length
    · rw [List.getElem?_append_left hj, Nat.mod_eq_of_lt hj]
    · have h2 : (n + 1) * zs.length = n * zs.length + zs.length := Nat.succ_mul _ _
      have h3 : j % zs.length = (j - zs.length) % zs.length := Nat.mod_eq_sub_mod (by omega)
      rw [List.getElem?_append_right (by omega), zrow_get zs n _ (by omega), h3]
theorem range_zrow (zs : List Value) (n : Nat) : ((Array.range (n * zs.length)).map (zs.toArray[· % zs.toArray.size]!)) = (zrow zs n).toArray := by
  apply Array.ext'
  apply List.ext_getElem?
  intro j
  simp only [Array.toList_map, Array.toList_range, List.getElem?_map]
  by_cases hj : j < n * zs.length
  · have hpos : 0 < zs.length := by
      rcases Nat.eq_zero_or_pos zs.length with h | h
      · rw [h] at hj; simp at hj
      · exact h
    have hlt : j % zs.length < zs.length := Nat.mod_lt _ hpos
    rw [zrow_get zs n j hj, List.getElem?_range hj]
    simp [hlt]
  · rw [List.getElem?_eq_none (by simp; omega), List.getElem?_eq_none (by rw [zrow_len]; omega)]
    rfl
theorem ms_lit {t e sz bytes len : Nat} {parts : Array (Nat × Operand)} {vs : List (Nat × Value)} {zs us : List Value} [ht : EL P t e sz bytes] [hz : ZV P e zs] (ho : o.op = .buildSlice t len parts) (hp : Parts E parts.toList vs)
    (hb : bldL (fun i => some (i * sz, sz)) (zrow zs len) vs = some us) (hl : us.length = len * sz) (hm : Nat.ble (len * sz) 16777216 = true) : MStep P E H G o (fun _ => True) (fun y => .slice (ga (y 0).c) len len) (fun y => .row e sz (ga (y 0).c) len len us :: H) (fun _ => G) := ms_of (v0 := undef) fun N base w0 a w he hw => by
  have hm' : len * sz ≤ 16777216 := Nat.le_of_ble_eq_true hm
  obtain ⟨hu, hpos, i, z, hi, hzz, hs, hby, hzs⟩ := ht.h
  have hlen : len ≤ len * sz := Nat.le_mul_of_pos_right _ hpos
  refine ⟨mkY none w.heap.size w, w.alloc (.cells us.toArray e), trivial, ?_, wok_new_row hw e sz len us hl (by simp only [maxLen]; omega)⟩
  have hm2 : (parts.map fun q => (q.1, a.eval q.2)).toList = vs := by rw [Array.toList_map]; exact parts_eval he hp
  have hz1 : z.cells = zs.toArray := by
    have := hz.h
    unfold zvB at this
    simpa [hi, hzz] using this
  have hzl : zs.length = sz := by rw [← hzs, hz1]; simp
  have hf := fill_bld _ vs _ us hb
  have hle : ¬ 2 ^ 24 < len * i.size := by rw [hs]; omega
  have hrz := range_zrow zs len
  rw [hzl] at hrz
  have hle' : ¬ len * i.size > 2 ^ 24 := hle
  simp only [execOp, ho, Instr.buildSlice, Sem.run_bind, run_underlying hu, Result.andThen_ok, sizeOf, typeInfo, run_program, hi, Sem.run_pure, if_neg hle', hm2]
  rw [hs]
  by_cases h0 : len * sz = 0
  · have hl0 : len = 0 := by
      rcases Nat.mul_eq_zero.1 h0 with h | h
      · exact h
      · omega
    subst hl0
    have hf' : Instr.fill (fun i => some (i * sz, sz)) #[] vs = some us.toArray := by simpa [zrow] using hf
    have hr0 : Array.range 0 = #[] := rfl
    simp [h0, hr0, hf', newRow, newObj, Sem.run, ga, mkY]
  · have hf' : Instr.fill (fun i => some (i * sz, sz)) (Array.map (fun x => zs.toArray[x % zs.toArray.size]!) (Array.range (len * sz))) vs = some us.toArray := by rw [hrz]; exact hf
    simp only [h0, if_false, zeroValue, typeInfo, Sem.run_bind, run_program, Result.andThen_ok, hi, hzz, Sem.run_pure, hz1, hf']
    simp [newRow, newObj, Sem.run, ga, mkY]
theorem ms_c0 {f : FuncId} {tys : Array TypeId} {Hn : Ys → List HObj} {Gn : Ys → List World} [hf : FN P f] (ho : o.op = .call { callee := .value (.func f), args := #[], argTypes := tys }) 
    (hc : ∀ base w0 w, WOk base w0 H G w → Calls P f #[] w (fun e w' => ∃ y, e = .returned (v y) ∧ F y ∧ Below w.heap.size w w' ∧ NewOk w.heap.size (Hn y) (Gn y) w')) :
    MStep P E H G o F v (fun y => Hn y ++ H) (fun y => Gn y ++ G)   := ms_call ho rfl rfl hc
theorem ms_s0 {f : FuncId} {tys : Array TypeId} {u : Value} [hf : FN P f] (ho : o.op = .call { callee := .value (.func f), args := #[], argTypes := tys }) 
    (hc : ∀ base w0 w, WOk base w0 H G w → Calls P f #[] w (fun e w' => e = .returned u ∧ Below w.heap.size w w')) :
    MStep P E H G o (fun _ => True) (fun _ => u) (fun _ => H) (fun _ => G) := ms_call0 ho rfl rfl hc
theorem ms_v0 {f : FuncId} {cl : Operand} {tys : Array TypeId} {u : Value} [hf : FN P f] (ho : o.op = .call { callee := .value cl, args := #[], argTypes := tys }) (hcl : opd E cl = some (.func (.func f) #[] #[])) 
    (hc : ∀ base w0 w, WOk base w0 H G w → Calls P f #[] w (fun e w' => e = .returned u ∧ Below w.heap.size w w')) :
    MStep P E H G o (fun _ => True) (fun _ => u) (fun _ => H) (fun _ => G) := ms_call0 ho hcl rfl hc
theorem ms_c1 {f : FuncId} {tys : Array TypeId} {x0 : Operand} {u0 : Value} {Hn : Ys → List HObj} {Gn : Ys → List World} [hf : FN P f] (ho : o.op = .call { callee := .value (.func f), args := #[x0], argTypes := tys }) (h0 : opd E x0 = some u0)
    (hc : ∀ base w0 w, WOk base w0 H G w → Calls P f #[u0] w (fun e w' => ∃ y, e = .returned (v y) ∧ F y ∧ Below w.heap.size w w' ∧ NewOk w.heap.size (Hn y) (Gn y) w')) :
    MStep P E H G o F v (fun y => Hn y ++ H) (fun y => Gn y ++ G)   := ms_call ho rfl (by simp [List.mapM_cons, h0]) hc
theorem ms_s1 {f : FuncId} {tys : Array TypeId} {x0 : Operand} {u0 : Value} {u : Value} [hf : FN P f] (ho : o.op = .call { callee := .value (.func f), args := #[x0], argTypes := tys }) (h0 : opd E x0 = some u0)
    (hc : ∀ base w0 w, WOk base w0 H G w → Calls P f #[u0] w (fun e w' => e = .returned u ∧ Below w.heap.size w w')) :
    MStep P E H G o (fun _ => True) (fun _ => u) (fun _ => H) (fun _ => G) := ms_call0 ho rfl (by simp [List.mapM_cons, h0]) hc
theorem ms_v1 {f : FuncId} {cl : Operand} {tys : Array TypeId} {x0 : Operand} {u0 : Value} {u : Value} [hf : FN P f] (ho : o.op = .call { callee := .value cl, args := #[x0], argTypes := tys }) (hcl : opd E cl = some (.func (.func f) #[] #[])) (h0 : opd E x0 = some u0)
    (hc : ∀ base w0 w, WOk base w0 H G w → Calls P f #[u0] w (fun e w' => e = .returned u ∧ Below w.heap.size w w')) :
    MStep P E H G o (fun _ => True) (fun _ => u) (fun _ => H) (fun _ => G) := ms_call0 ho hcl (by simp [List.mapM_cons, h0]) hc
theorem ms_c2 {f : FuncId} {tys : Array TypeId} {x0 x1 : Operand} {u0 u1 : Value} {Hn : Ys → List HObj} {Gn : Ys → List World} [hf : FN P f] (ho : o.op = .call { callee := .value (.func f), args := #[x0, x1], argTypes := tys }) (h0 : opd E x0 = some u0) (h1 : opd E x1 = some u1)
    (hc : ∀ base w0 w, WOk base w0 H G w → Calls P f #[u0, u1] w (fun e w' => ∃ y, e = .returned (v y) ∧ F y ∧ Below w.heap.size w w' ∧ NewOk w.heap.size (Hn y) (Gn y) w')) :
    MStep P E H G o F v (fun y => Hn y ++ H) (fun y => Gn y ++ G)   := ms_call ho rfl (by simp [List.mapM_cons, h0, h1]) hc
theorem ms_s2 {f : FuncId} {tys : Array TypeId} {x0 x1 : Operand} {u0 u1 : Value} {u : Value} [hf : FN P f] (ho : o.op = .call { callee := .value (.func f), args := #[x0, x1], argTypes := tys }) (h0 : opd E x0 = some u0) (h1 : opd E x1 = some u1)
    (hc : ∀ base w0 w, WOk base w0 H G w → Calls P f #[u0, u1] w (fun e w' => e = .returned u ∧ Below w.heap.size w w')) :
    MStep P E H G o (fun _ => True) (fun _ => u) (fun _ => H) (fun _ => G) := ms_call0 ho rfl (by simp [List.mapM_cons, h0, h1]) hc
theorem ms_v2 {f : FuncId} {cl : Operand} {tys : Array TypeId} {x0 x1 : Operand} {u0 u1 : Value} {u : Value} [hf : FN P f] (ho : o.op = .call { callee := .value cl, args := #[x0, x1], argTypes := tys }) (hcl : opd E cl = some (.func (.func f) #[] #[])) (h0 : opd E x0 = some u0) (h1 : opd E x1 = some u1)
    (hc : ∀ base w0 w, WOk base w0 H G w → Calls P f #[u0, u1] w (fun e w' => e = .returned u ∧ Below w.heap.size w w')) :
    MStep P E H G o (fun _ => True) (fun _ => u) (fun _ => H) (fun _ => G) := ms_call0 ho hcl (by simp [List.mapM_cons, h0, h1]) hc
theorem ms_c3 {f : FuncId} {tys : Array TypeId} {x0 x1 x2 : Operand} {u0 u1 u2 : Value} {Hn : Ys → List HObj} {Gn : Ys → List World} [hf : FN P f] (ho : o.op = .call { callee := .value (.func f), args := #[x0, x1, x2], argTypes := tys }) (h0 : opd E x0 = some u0) (h1 : opd E x1 = some u1) (h2 : opd E x2 = some u2)
    (hc : ∀ base w0 w, WOk base w0 H G w → Calls P f #[u0, u1, u2] w (fun e w' => ∃ y, e = .returned (v y) ∧ F y ∧ Below w.heap.size w w' ∧ NewOk w.heap.size (Hn y) (Gn y) w')) :
    MStep P E H G o F v (fun y => Hn y ++ H) (fun y => Gn y ++ G)   := ms_call ho rfl (by simp [List.mapM_cons, h0, h1, h2]) hc
theorem ms_s3 {f : FuncId} {tys : Array TypeId} {x0 x1 x2 : Operand} {u0 u1 u2 : Value} {u : Value} [hf : FN P f] (ho : o.op = .call { callee := .value (.func f), args := #[x0, x1, x2], argTypes := tys }) (h0 : opd E x0 = some u0) (h1 : opd E x1 = some u1) (h2 : opd E x2 = some u2)
    (hc : ∀ base w0 w, WOk base w0 H G w → Calls P f #[u0, u1, u2] w (fun e w' => e = .returned u ∧ Below w.heap.size w w')) :
    MStep P E H G o (fun _ => True) (fun _ => u) (fun _ => H) (fun _ => G) := ms_call0 ho rfl (by simp [List.mapM_cons, h0, h1, h2]) hc
theorem ms_v3 {f : FuncId} {cl : Operand} {tys : Array TypeId} {x0 x1 x2 : Operand} {u0 u1 u2 : Value} {u : Value} [hf : FN P f] (ho : o.op = .call { callee := .value cl, args := #[x0, x1, x2], argTypes := tys }) (hcl : opd E cl = some (.func (.func f) #[] #[])) (h0 : opd E x0 = some u0) (h1 : opd E x1 = some u1) (h2 : opd E x2 = some u2)
    (hc : ∀ base w0 w, WOk base w0 H G w → Calls P f #[u0, u1, u2] w (fun e w' => e = .returned u ∧ Below w.heap.size w w')) :
    MStep P E H G o (fun _ => True) (fun _ => u) (fun _ => H) (fun _ => G) := ms_call0 ho hcl (by simp [List.mapM_cons, h0, h1, h2]) hc
theorem ms_c4 {f : FuncId} {tys : Array TypeId} {x0 x1 x2 x3 : Operand} {u0 u1 u2 u3 : Value} {Hn : Ys → List HObj} {Gn : Ys → List World} [hf : FN P f] (ho : o.op = .call { callee := .value (.func f), args := #[x0, x1, x2, x3], argTypes := tys }) (h0 : opd E x0 = some u0) (h1 : opd E x1 = some u1) (h2 : opd E x2 = some u2) (h3 : opd E x3 = some u3)
    (hc : ∀ base w0 w, WOk base w0 H G w → Calls P f #[u0, u1, u2, u3] w (fun e w' => ∃ y, e = .returned (v y) ∧ F y ∧ Below w.heap.size w w' ∧ NewOk w.heap.size (Hn y) (Gn y) w')) :
    MStep P E H G o F v (fun y => Hn y ++ H) (fun y => Gn y ++ G)   := ms_call ho rfl (by simp [List.mapM_cons, h0, h1, h2, h3]) hc
theorem ms_s4 {f : FuncId} {tys : Array TypeId} {x0 x1 x2 x3 : Operand} {u0 u1 u2 u3 : Value} {u : Value} [hf : FN P f] (ho : o.op = .call { callee := .value (.func f), args := #[x0, x1, x2, x3], argTypes := tys }) (h0 : opd E x0 = some u0) (h1 : opd E x1 = some u1) (h2 : opd E x2 = some u2) (h3 : opd E x3 = some u3)
    (hc : ∀ base w0 w, WOk base w0 H G w → Calls P f #[u0, u1, u2, u3] w (fun e w' => e = .returned u ∧ Below w.heap.size w w')) :
    MStep P E H G o (fun _ => True) (fun _ => u) (fun _ => H) (fun _ => G) := ms_call0 ho rfl (by simp [List.mapM_cons, h0, h1, h2, h3]) hc
theorem ms_v4 {f : FuncId} {cl : Operand} {tys : Array TypeId} {x0 x1 x2 x3 : Operand} {u0 u1 u2 u3 : Value} {u : Value} [hf : FN P f] (ho : o.op = .call { callee := .value cl, args := #[x0, x1, x2, x3], argTypes := tys }) (hcl : opd E cl = some (.func (.func f) #[] #[])) (h0 : opd E x0 = some u0) (h1 : opd E x1 = some u1) (h2 : opd E x2 = some u2) (h3 : opd E x3 = some u3)
    (hc : ∀ base w0 w, WOk base w0 H G w → Calls P f #[u0, u1, u2, u3] w (fun e w' => e = .returned u ∧ Below w.heap.size w w')) :
    MStep P E H G o (fun _ => True) (fun _ => u) (fun _ => H) (fun _ => G) := ms_call0 ho hcl (by simp [List.mapM_cons, h0, h1, h2, h3]) hc
theorem ms_c5 {f : FuncId} {tys : Array TypeId} {x0 x1 x2 x3 x4 : Operand} {u0 u1 u2 u3 u4 : Value} {Hn : Ys → List HObj} {Gn : Ys → List World} [hf : FN P f] (ho : o.op = .call { callee := .value (.func f), args := #[x0, x1, x2, x3, x4], argTypes := tys }) (h0 : opd E x0 = some u0) (h1 : opd E x1 = some u1) (h2 : opd E x2 = some u2) (h3 : opd E x3 = some u3) (h4 : opd E x4 = some u4)
    (hc : ∀ base w0 w, WOk base w0 H G w → Calls P f #[u0, u1, u2, u3, u4] w (fun e w' => ∃ y, e = .returned (v y) ∧ F y ∧ Below w.heap.size w w' ∧ NewOk w.heap.size (Hn y) (Gn y) w')) :
    MStep P E H G o F v (fun y => Hn y ++ H) (fun y => Gn y ++ G)   := ms_call ho rfl (by simp [List.mapM_cons, h0, h1, h2, h3, h4]) hc
theorem ms_s5 {f : FuncId} {tys : Array TypeId} {x0 x1 x2 x3 x4 : Operand} {u0 u1 u2 u3 u4 : Value} {u : Value} [hf : FN P f] (ho : o.op = .call { callee := .value (.func f), args := #[x0, x1, x2, x3, x4], argTypes := tys }) (h0 : opd E x0 = some u0) (h1 : opd E x1 = some u1) (h2 : opd E x2 = some u2) (h3 : opd E x3 = some u3) (h4 : opd E x4 = some u4)
    (hc : ∀ base w0 w, WOk base w0 H G w → Calls P f #[u0, u1, u2, u3, u4] w (fun e w' => e = .returned u ∧ Below w.heap.size w w')) :
    MStep P E H G o (fun _ => True) (fun _ => u) (fun _ => H) (fun _ => G) := ms_call0 ho rfl (by simp [List.mapM_cons, h0, h1, h2, h3, h4]) hc
theorem ms_v5 {f : FuncId} {cl : Operand} {tys : Array TypeId} {x0 x1 x2 x3 x4 : Operand} {u0 u1 u2 u3 u4 : Value} {u : Value} [hf : FN P f] (ho : o.op = .call { callee := .value cl, args := #[x0, x1, x2, x3, x4], argTypes := tys }) (hcl : opd E cl = some (.func (.func f) #[] #[])) (h0 : opd E x0 = some u0) (h1 : opd E x1 = some u1) (h2 : opd E x2 = some u2) (h3 : opd E x3 = some u3) (h4 : opd E x4 = some u4)
    (hc : ∀ base w0 w, WOk base w0 H G w → Calls P f #[u0, u1, u2, u3, u4] w (fun e w' => e = .returned u ∧ Below w.heap.size w w')) :
    MStep P E H G o (fun _ => True) (fun _ => u) (fun _ => H) (fun _ => G) := ms_call0 ho hcl (by simp [List.mapM_cons, h0, h1, h2, h3, h4]) hc
theorem ms_c6 {f : FuncId} {tys : Array TypeId} {x0 x1 x2 x3 x4 x5 : Operand} {u0 u1 u2 u3 u4 u5 : Value} {Hn : Ys → List HObj} {Gn : Ys → List World} [hf : FN P f] (ho : o.op = .call { callee := .value (.func f), args := #[x0, x1, x2, x3, x4, x5], argTypes := tys }) (h0 : opd E x0 = some u0) (h1 : opd E x1 = some u1) (h2 : opd E x2 = some u2) (h3 : opd E x3 = some u3) (h4 : opd E x4 = some u4) (h5 : opd E x5 = some u5)
    (hc : ∀ base w0 w, WOk base w0 H G w → Calls P f #[u0, u1, u2, u3, u4, u5] w (fun e w' => ∃ y, e = .returned (v y) ∧ F y ∧ Below w.heap.size w w' ∧ NewOk w.heap.size (Hn y) (Gn y) w')) :
    MStep P E H G o F v (fun y => Hn y ++ H) (fun y => Gn y ++ G)   := ms_call ho rfl (by simp [List.mapM_cons, h0, h1, h2, h3, h4, h5]) hc
theorem ms_s6 {f : FuncId} {tys : Array TypeId} {x0 x1 x2 x3 x4 x5 : Operand} {u0 u1 u2 u3 u4 u5 : Value} {u : Value} [hf : FN P f] (ho : o.op = .call { callee := .value (.func f), args := #[x0, x1, x2, x3, x4, x5], argTypes := tys }) (h0 : opd E x0 = some u0) (h1 : opd E x1 = some u1) (h2 : opd E x2 = some u2) (h3 : opd E x3 = some u3) (h4 : opd E x4 = some u4) (h5 : opd E x5 = some u5)
    (hc : ∀ base w0 w, WOk base w0 H G w → Calls P f #[u0, u1, u2, u3, u4, u5] w (fun e w' => e = .returned u ∧ Below w.heap.size w w')) :
    MStep P E H G o (fun _ => True) (fun _ => u) (fun _ => H) (fun _ => G) := ms_call0 ho rfl (by simp [List.mapM_cons, h0, h1, h2, h3, h4, h5]) hc
theorem ms_v6 {f : FuncId} {cl : Operand} {tys : Array TypeId} {x0 x1 x2 x3 x4 x5 : Operand} {u0 u1 u2 u3 u4 u5 : Value} {u : Value} [hf : FN P f] (ho : o.op = .call { callee := .value cl, args := #[x0, x1, x2, x3, x4, x5], argTypes := tys }) (hcl : opd E cl = some (.func (.func f) #[] #[])) (h0 : opd E x0 = some u0) (h1 : opd E x1 = some u1) (h2 : opd E x2 = some u2) (h3 : opd E x3 = some u3) (h4 : opd E x4 = some u4) (h5 : opd E x5 = some u5)
    (hc : ∀ base w0 w, WOk base w0 H G w → Calls P f #[u0, u1, u2, u3, u4, u5] w (fun e w' => e = .returned u ∧ Below w.heap.size w w')) :
    MStep P E H G o (fun _ => True) (fun _ => u) (fun _ => H) (fun _ => G) := ms_call0 ho hcl (by simp [List.mapM_cons, h0, h1, h2, h3, h4, h5]) hc
theorem ms_c7 {f : FuncId} {tys : Array TypeId} {x0 x1 x2 x3 x4 x5 x6 : Operand} {u0 u1 u2 u3 u4 u5 u6 : Value} {Hn : Ys → List HObj} {Gn : Ys → List World} [hf : FN P f] (ho : o.op = .call { callee := .value (.func f), args := #[x0, x1, x2, x3, x4, x5, x6], argTypes := tys }) (h0 : opd E x0 = some u0) (h1 : opd E x1 = some u1) (h2 : opd E x2 = some u2) (h3 : opd E x3 = some u3) (h4 : opd E x4 = some u4) (h5 : opd E x5 = some u5) (h6 : opd E x6 = some u6)
    (hc : ∀ base w0 w, WOk base w0 H G w → Calls P f #[u0, u1, u2, u3, u4, u5, u6] w (fun e w' => ∃ y, e = .returned (v y) ∧ F y ∧ Below w.heap.size w w' ∧ NewOk w.heap.size (Hn y) (Gn y) w')) :
    MStep P E H G o F v (fun y => Hn y ++ H) (fun y => Gn y ++ G)   := ms_call ho rfl (by simp [List.mapM_cons, h0, h1, h2, h3, h4, h5, h6]) hc
theorem ms_s7 {f : FuncId} {tys : Array TypeId} {x0 x1 x2 x3 x4 x5 x6 : Operand} {u0 u1 u2 u3 u4 u5 u6 : Value} {u : Value} [hf : FN P f] (ho : o.op = .call { callee := .value (.func f), args := #[x0, x1, x2, x3, x4, x5, x6], argTypes := tys }) (h0 : opd E x0 = some u0) (h1 : opd E x1 = some u1) (h2 : opd E x2 = some u2) (h3 : opd E x3 = some u3) (h4 : opd E x4 = some u4) (h5 : opd E x5 = some u5) (h6 : opd E x6 = some u6)
    (hc : ∀ base w0 w, WOk base w0 H G w → Calls P f #[u0, u1, u2, u3, u4, u5, u6] w (fun e w' => e = .returned u ∧ Below w.heap.size w w')) :
    MStep P E H G o (fun _ => True) (fun _ => u) (fun _ => H) (fun _ => G) := ms_call0 ho rfl (by simp [List.mapM_cons, h0, h1, h2, h3, h4, h5, h6]) hc
theorem ms_v7 {f : FuncId} {cl : Operand} {tys : Array TypeId} {x0 x1 x2 x3 x4 x5 x6 : Operand} {u0 u1 u2 u3 u4 u5 u6 : Value} {u : Value} [hf : FN P f] (ho : o.op = .call { callee := .value cl, args := #[x0, x1, x2, x3, x4, x5, x6], argTypes := tys }) (hcl : opd E cl = some (.func (.func f) #[] #[])) (h0 : opd E x0 = some u0) (h1 : opd E x1 = some u1) (h2 : opd E x2 = some u2) (h3 : opd E x3 = some u3) (h4 : opd E x4 = some u4) (h5 : opd E x5 = some u5) (h6 : opd E x6 = some u6)
    (hc : ∀ base w0 w, WOk base w0 H G w → Calls P f #[u0, u1, u2, u3, u4, u5, u6] w (fun e w' => e = .returned u ∧ Below w.heap.size w w')) :
    MStep P E H G o (fun _ => True) (fun _ => u) (fun _ => H) (fun _ => G) := ms_call0 ho hcl (by simp [List.mapM_cons, h0, h1, h2, h3, h4, h5, h6]) hc
end
def inB (x a b : Int) : Bool := decide (a ≤ x) && decide (x ≤ b)
theorem inB_true (x a b : Int) : (inB x a b = true) = (a ≤ x ∧ x ≤ b) := by simp [inB]
theorem inB_false (x a b : Int) : (inB x a b = false) = (x < a ∨ b < x) := by simp [inB]; constructor <;> omega
theorem rds_rf {H : List HObj} {G : List World} {A : Option Addr} {us : List Value} {m : World} (h : Rd m A us) (hm : m ∈ G) : Rds H G A us := rds_ref hm h
theorem ps_indexN {P : Program} {E : Env} {H : List HObj} {G : List World} {o : Oper} {x y : Operand} {t e sz bytes : TypeId} {A : Option Addr} {n c i : Nat} {k : IntKind} [ht : EL P t e sz bytes] (ho : o.op = .indexAddr t x y) (hx : opd E x = some (.slice A n c)) (hy : opd E y = some (.int k (i : Int))) (h : i < n) (hA : IsSW H G A) : PStep P E H G o (pt A (i * sz)) := by
  have := ps_index (P := P) (H := H) (G := G) ho hx hy (by omega) hA
  rwa [Int.toNat_natCast] at this
theorem isS_fl {α : Type} [Dat α] {m : World} {A : Option Addr} {l : List α} (h : Rd m A (fl l)) (hl : 0 < l.length) (hz : 0 < Dat.sz α := by decide) : IsS A := isS_rd h (by rw [fl_len]; exact Nat.mul_pos hl hz)

end Go.Proofs.Ytfcnimglcialbaa
/- The engine: results, calls that write to what they are handed, rows that are filled. -/
namespace Go.Proofs.Ytfcnimglcialbaa
open Go.RowKit
set_option linter.unusedVariables false
set_option linter.unusedSimpArgs false
def ResL (P : Program) (E : Env) (H : List HObj) : List ResultVar → List Value → Prop
  | [], [] => True
  | .tmp t :: rs, v :: vs => look E t = some v ∧ ResL P E H rs vs
  | .cell a t :: rs, v :: vs => (∃ (g i e sz : Nat) (cs : List Value), look E a = some (pt (ga g) 0) ∧ H[i]? = some (.box g e cs) ∧ LD P t sz true ∧ cs.length = sz ∧ v = .agg cs.toArray) ∧ ResL P E H rs vs
  | _, _ => False
def retV : List Value → Value
  | [v] => v
  | vs => .tuple vs.toArray
section
variable {P : Program} {N base : Nat} {w0 : World} {E : Env} {H : List HObj} {G : List World} {Q : Exit → Act → World → Prop} {o : Oper} {ops : Array Oper} {rest : List Oper} {F : Ys → Prop} {v : Ys → Value} {H' : Ys → List HObj} {G' : Ys → List World}
theorem run_cell {a : Act} {w : World} {g e sz t : Nat} {cs : List Value} (hw : w.heap[g]? = some (.cells cs.toArray e (0, 0))) (hl : LD P t sz true) (hn : cs.length = sz) : (loadVar t ⟨g, 0, none⟩).run P w = .ok (.agg cs.toArray) w := by
  have h := hl.h
  have hi' : (P.info? t).map (·.size) = some cs.toArray.size := by
    unfold ldB at h
    split at h <;> first | (injection h with h; injection h with h1 h2; rename_i hi; simp [hi, h1, hn]) | cases h
  unfold ldB at h
  split at h
  · rename_i hu hi; exact run_loadVar_row w g e t cs.toArray (0, 0) _ hw hu rfl hi'
  · rename_i hu hi; exact run_loadVar_row w g e t cs.toArray (0, 0) _ hw hu rfl hi'
  · injection h with h; injection h with h1 h2; cases h2
  · cases h
def resF (tmps : Array Value) : ResultVar → Sem Value
  | .tmp t => pure (tmps.getD t undef)
  | .cell c t => do loadVar t (← asAddr (tmps.getD c undef))
theorem run_res {a : Act} {w : World} (he : EnvOk N E a) (hw : WOk base w0 H G w) : ∀ (rs : List ResultVar) (vs : List Value), ResL P E H rs vs → (rs.mapM (resF a.tmps)).run P w = .ok vs w
  | [], [], _ => by simp
  | .tmp t :: rs, v :: vs, h => by
    have h1 := he.at_ t v h.1
    have ih := run_res he hw rs vs h.2
    simp only [List.mapM_cons, Sem.run_bind, resF, Sem.run_pure, Result.andThen_ok, ih, Array.getD_eq_getD_getElem?, h1, Option.getD_some]
  | .cell c t :: rs, v :: vs, h => by
    obtain ⟨⟨g, i, e, sz, cs, h1, h2, h3, h4, rfl⟩, h5⟩ := h
    have h1 := he.at_ c _ h1
    have ih := run_res he hw rs vs h5
    have hh := (hw.own _ (List.mem_of_getElem? h2)).2
    have hl := run_cell (a := a) hh h3 h4
    simp only [List.mapM_cons, Sem.run_bind, resF, Sem.run_pure, Result.andThen_ok, ih, Array.getD_eq_getD_getElem?, h1, Option.getD_some, pt, ga, Option.map_some, asAddr, ga_add, hl]
theorem ok_endL {fn : Func} {R : Ending → World → Prop} {rs : List ResultVar} {vs : List Value} (hr : fn.results = rs.toArray) (hv : ResL P E H rs vs) (h : ∀ w, WOk base w0 H G w → R (.returned (retV vs)) w) : Ok N base w0 E H G (bodyPost P fn R .ret) := fun a w he hw => by
  have h1 := run_res (P := P) he hw rs vs hv
  refine ⟨he.defers, retV vs, ?_, h w hw⟩
  have h2 : (fn.results.mapM (resF a.tmps)).run P w = .ok vs.toArray w := by
    rw [hr, List.mapM_toArray]
    simp only [map_eq_pure_bind, Sem.run_bind, h1, Result.andThen_ok, Sem.run_pure]
  have h3 : results fn a.tmps = (do let vs ← fn.results.mapM (resF a.tmps); pure (if h : vs.size = 1 then vs[0] else .tuple vs)) := by
    unfold results
    congr 2
  rw [h3]
  simp only [Sem.run_bind, h2, Result.andThen_ok, Sem.run_pure]
  rcases vs with _ | ⟨u, _ | ⟨u', l⟩⟩
  · simp [retV]
  · simp [retV]
  · simp [retV]
theorem ok_enterW {f : FuncId} {fn : Func} {c : Code} {args : List Value} {w : World} {R : Ending → World → Prop} (N : Nat) (hf : P.funcs[f]? = some fn) (hb : fn.body = some c) (hn : fn.ntmps = N) (hl : Nat.ble args.length N = true)
    (hw : WOk base w0 H G w) (h : Ok N base w0 (initE 0 args) H G (c.wp P (bodyPost P fn R))) : Calls P f args.toArray w R := by
  have hl' : args.length ≤ N := Nat.le_of_ble_eq_true hl
  refine calls_of_wp hf hb (h _ _ ⟨rfl, ?_, ?_⟩ hw)
  · simp [hn]; omega
  · intro t v hv
    obtain ⟨_, h2⟩ := look_initE args 0 t v hv
    have hlt := (List.getElem?_eq_some_iff.1 h2).1
    simp only [Nat.sub_zero] at h2 hlt
    rw [Array.getElem?_append_left (by simpa using hlt)]
    simpa using h2
theorem ok_endN {fn : Func} {R : Ending → World → Prop} {K : Exit} (h : Ok N base w0 E H G (bodyPost P fn R .ret)) : Ok N base w0 E H G (bodyPost P fn R .normal) := h
theorem NewOk.of {w w' : World} (hw : WOk w.heap.size w0 H G w') : NewOk w.heap.size H [] w' := ⟨hw.own, hw.apart, fun m h => by cases h⟩
/-- A call that may write to some of the own objects: the contract tells the lists behind it. -/
theorem ms_callW {f : FuncId} {cl : Operand} {args : Array Operand} {tys : Array TypeId} {vs : List Value} {H1 : List HObj} (hsel : ∀ base w0 w, WOk base w0 H G w → WOk base w0 H1 G w) [hf : FN P f] (ho : o.op = .call { callee := .value cl, args := args, argTypes := tys }) (hcl : opd E cl = some (.func (.func f) #[] #[])) (ha : args.toList.mapM (opd E) = some vs)
    (hc : ∀ base w0 w, WOk base w0 H1 G w → Calls P f vs.toArray w (fun e w' => ∃ y, e = .returned (v y) ∧ F y ∧ WOk base w0 (H' y) (G' y) w')) :
    MStep P E H G o F v H' G' := fun N base w0 a w Q K he hw hK => by
  obtain ⟨fn, c, h1, h2, h3⟩ := hf.h
  have hev : args.map a.eval = vs.toArray := by
    apply Array.ext'
    rw [Array.toList_map]
    generalize args.toList = l at ha
    clear hc ho
    induction l generalizing vs with
    | nil => simp at ha; subst ha; rfl
    | cons q l ih =>
      simp only [List.mapM_cons, Option.bind_eq_bind] at ha
      cases hq : opd E q with
      | none => simp [hq] at ha
      | some u =>
        simp only [hq, Option.bind_some] at ha
        cases hr : l.mapM (opd E) with
        | none => simp [hr] at ha
        | some r =>
          simp only [hr, Option.bind_some] at ha
          cases ha
          simp [he.eval hq, ih hr]
  have hr : (execOp a.eval o).run P w = .ok (.enter f vs.toArray) w := by
    have hfe : a.eval cl = .func (.func f) #[] #[] := he.eval hcl
    have hname : fn.name ≠ "runtime.NumGoroutine" := by simpa using h2
    simp [execOp, ho, resolve, hev, hfe, Deferred.ofValue, invoke, callFunc, h1, hname, h3]
  unfold Oper.wp; rw [hr]
  refine (hc base w0 w (hsel base w0 w hw)).mono fun e w' ⟨y, he', hF, hw'⟩ => ?_
  subst he'
  exact hK y w' hF hw'
theorem ms_w0 {f : FuncId} {tys : Array TypeId} {H1 : List HObj} (hsel : ∀ base w0 w, WOk base w0 H G w → WOk base w0 H1 G w) [hf : FN P f] (ho : o.op = .call { callee := .value (.func f), args := #[], argTypes := tys }) 
    (hc : ∀ base w0 w, WOk base w0 H1 G w → Calls P f #[] w (fun e w' => ∃ y, e = .returned (v y) ∧ F y ∧ WOk base w0 (H' y) (G' y) w')) :
    MStep P E H G o F v H' G' := ms_callW hsel ho rfl rfl hc
theorem ms_w1 {f : FuncId} {tys : Array TypeId} {x0 : Operand} {u0 : Value} {H1 : List HObj} (hsel : ∀ base w0 w, WOk base w0 H G w → WOk base w0 H1 G w) [hf : FN P f] (ho : o.op = .call { callee := .value (.func f), args := #[x0], argTypes := tys }) (h0 : opd E x0 = some u0)
    (hc : ∀ base w0 w, WOk base w0 H1 G w → Calls P f #[u0] w (fun e w' => ∃ y, e = .returned (v y) ∧ F y ∧ WOk base w0 (H' y) (G' y) w')) :
    MStep P E H G o F v H' G' := ms_callW hsel ho rfl (by simp [List.mapM_cons, h0]) hc
theorem ms_w2 {f : FuncId} {tys : Array TypeId} {x0 x1 : Operand} {u0 u1 : Value} {H1 : List HObj} (hsel : ∀ base w0 w, WOk base w0 H G w → WOk base w0 H1 G w) [hf : FN P f] (ho : o.op = .call { callee := .value (.func f), args := #[x0, x1], argTypes := tys }) (h0 : opd E x0 = some u0) (h1 : opd E x1 = some u1)
    (hc : ∀ base w0 w, WOk base w0 H1 G w → Calls P f #[u0, u1] w (fun e w' => ∃ y, e = .returned (v y) ∧ F y ∧ WOk base w0 (H' y) (G' y) w')) :
    MStep P E H G o F v H' G' := ms_callW hsel ho rfl (by simp [List.mapM_cons, h0, h1]) hc
theorem ms_w3 {f : FuncId} {tys : Array TypeId} {x0 x1 x2 : Operand} {u0 u1 u2 : Value} {H1 : List HObj} (hsel : ∀ base w0 w, WOk base w0 H G w → WOk base w0 H1 G w) [hf : FN P f] (ho : o.op = .call { callee := .value (.func f), args := #[x0, x1, x2], argTypes := tys }) (h0 : opd E x0 = some u0) (h1 : opd E x1 = some u1) (h2 : opd E x2 = some u2)
    (hc : ∀ base w0 w, WOk base w0 H1 G w → Calls P f #[u0, u1, u2] w (fun e w' => ∃ y, e = .returned (v y) ∧ F y ∧ WOk base w0 (H' y) (G' y) w')) :
    MStep P E H G o F v H' G' := ms_callW hsel ho rfl (by simp [List.mapM_cons, h0, h1, h2]) hc
theorem ms_w4 {f : FuncId} {tys : Array TypeId} {x0 x1 x2 x3 : Operand} {u0 u1 u2 u3 : Value} {H1 : List HObj} (hsel : ∀ base w0 w, WOk base w0 H G w → WOk base w0 H1 G w) [hf : FN P f] (ho : o.op = .call { callee := .value (.func f), args := #[x0, x1, x2, x3], argTypes := tys }) (h0 : opd E x0 = some u0) (h1 : opd E x1 = some u1) (h2 : opd E x2 = some u2) (h3 : opd E x3 = some u3)
    (hc : ∀ base w0 w, WOk base w0 H1 G w → Calls P f #[u0, u1, u2, u3] w (fun e w' => ∃ y, e = .returned (v y) ∧ F y ∧ WOk base w0 (H' y) (G' y) w')) :
    MStep P E H G o F v H' G' := ms_callW hsel ho rfl (by simp [List.mapM_cons, h0, h1, h2, h3]) hc
theorem ms_w5 {f : FuncId} {tys : Array TypeId} {x0 x1 x2 x3 x4 : Operand} {u0 u1 u2 u3 u4 : Value} {H1 : List HObj} (hsel : ∀ base w0 w, WOk base w0 H G w → WOk base w0 H1 G w) [hf : FN P f] (ho : o.op = .call { callee := .value (.func f), args := #[x0, x1, x2, x3, x4], argTypes := tys }) (h0 : opd E x0 = some u0) (h1 : opd E x1 = some u1) (h2 : opd E x2 = some u2) (h3 : opd E x3 = some u3) (h4 : opd E x4 = some u4)
    (hc : ∀ base w0 w, WOk base w0 H1 G w → Calls P f #[u0, u1, u2, u3, u4] w (fun e w' => ∃ y, e = .returned (v y) ∧ F y ∧ WOk base w0 (H' y) (G' y) w')) :
    MStep P E H G o F v H' G' := ms_callW hsel ho rfl (by simp [List.mapM_cons, h0, h1, h2, h3, h4]) hc
end
/-- A row that is filled element by element. -/
theorem putC_len (cs : List Value) (k : Nat) (vs : List Value) (h : k + vs.length ≤ cs.length) : (putC cs k vs).length = cs.length := by simp [putC]; omega
theorem putC_fl {α : Type} [Dat α] : ∀ (l : List α) (i : Nat) (x : α), i < l.length → putC (fl l) (i * Dat.sz α) (Dat.cells x) = fl (l.set i x)
  | [], i, x, h => by simp at h
  | y :: l, 0, x, _ => by
    simp only [putC, Nat.zero_mul, List.take_zero, List.nil_append, Nat.zero_add, List.set_cons_zero, fl_cons]
    rw [List.drop_left' (by rw [Dat.len, Dat.len])]
  | y :: l, i + 1, x, h => by
    have ih := putC_fl l i x (by simpa using h)
    simp only [putC, List.set_cons_succ, fl_cons] at ih ⊢
    have e1 : (i + 1) * Dat.sz α = (Dat.cells y).length + i * Dat.sz α := by rw [Dat.len, Nat.add_mul]; omega
    rw [e1, List.take_length_add_append, Nat.add_assoc, List.drop_append, List.append_assoc, List.append_assoc, ← ih]
    simp
theorem putC_at {α : Type} [Dat α] (l : List α) (i off : Nat) (u : Value) (x : α) (h : i < l.length) (ho : off < Dat.sz α) (hx : (Dat.cells (nth l i)).set off u = Dat.cells x) : putC (fl l) (i * Dat.sz α + off) [u] = fl (l.set i x) := by
  rw [← putC_fl l i x h, ← hx]
  have hl := fl_len l
  have hlt : i * Dat.sz α + off < (fl l).length := by
    rw [hl]
    have : (i + 1) * Dat.sz α ≤ l.length * Dat.sz α := Nat.mul_le_mul_right _ h
    rw [Nat.add_mul] at this; omega
  have hle : i * Dat.sz α + Dat.sz α ≤ (fl l).length := by
    rw [hl]
    have : (i + 1) * Dat.sz α ≤ l.length * Dat.sz α := Nat.mul_le_mul_right _ h
    rw [Nat.add_mul] at this; omega
  have hcl : (Dat.cells (nth l i)).length = Dat.sz α := Dat.len _
  apply List.ext_getElem?
  intro j
  have hs := fl_sub l i h
  have hg : ∀ q, q < Dat.sz α → (Dat.cells (nth l i))[q]? = (fl l)[i * Dat.sz α + q]? := fun q hq => (fl_at l i q h hq).symm
  simp only [putC, List.getElem?_append, List.getElem?_take, List.getElem?_drop, List.length_append, List.length_take, List.length_set, List.length_cons, List.length_nil, hcl, List.getElem?_set]
  by_cases h1 : j < i * Dat.sz α
  · have a1 : j < min (i * Dat.sz α + off) (fl l).length := by omega
    have a2 : j < min (i * Dat.sz α) (fl l).length := by omega
    simp only [a1, a2, if_true, show j < min (i * Dat.sz α + off) (fl l).length + (0 + 1) from by omega, show j < min (i * Dat.sz α) (fl l).length + Dat.sz α from by omega, show j < i * Dat.sz α + off from by omega, h1]
  · by_cases h2 : j < i * Dat.sz α + Dat.sz α
    · have b2 : ¬ j < min (i * Dat.sz α) (fl l).length := by omega
      have b3 : j < min (i * Dat.sz α) (fl l).length + Dat.sz α := by omega
      simp only [b2, b3, if_true, if_false]
      have e : j - min (i * Dat.sz α) (fl l).length = j - i * Dat.sz α := by omega
      rw [e, hg (j - i * Dat.sz α) (by omega), show i * Dat.sz α + (j - i * Dat.sz α) = j from by omega]
      by_cases h3 : j < i * Dat.sz α + off
      · have c1 : j < min (i * Dat.sz α + off) (fl l).length := by omega
        simp only [c1, if_true, show j < min (i * Dat.sz α + off) (fl l).length + (0 + 1) from by omega, h3, show ¬ off = j - i * Dat.sz α from by omega, if_false]
      · by_cases h4 : j = i * Dat.sz α + off
        · subst h4
          have c1 : ¬ i * Dat.sz α + off < min (i * Dat.sz α + off) (fl l).length := by omega
          have c2 : i * Dat.sz α + off < min (i * Dat.sz α + off) (fl l).length + (0 + 1) := by omega
          have c3 : i * Dat.sz α + off - min (i * Dat.sz α + off) (fl l).length = 0 := by omega
          have c4 : off = i * Dat.sz α + off - i * Dat.sz α := by omega
          rw [if_pos c2, if_neg c1, c3, if_pos c4, if_pos ho]; rfl
        · have c1 : ¬ j < min (i * Dat.sz α + off) (fl l).length + (0 + 1) := by omega
          simp only [c1, if_false, show ¬ off = j - i * Dat.sz α from by omega]
          congr 1; omega
    · have b3 : ¬ j < min (i * Dat.sz α) (fl l).length + Dat.sz α := by omega
      have c1 : ¬ j < min (i * Dat.sz α + off) (fl l).length + (0 + 1) := by omega
      simp only [b3, c1, if_false]
      congr 1; omega
theorem made_fl {α : Type} [Dat α] (z : α) (n : Nat) : (madeCells (Dat.cells z).toArray (n * Dat.sz α)).toList = fl (List.replicate n z) := by
  have h := range_zrow (Dat.cells z) n
  rw [Dat.len] at h
  have e : madeCells (Dat.cells z).toArray (n * Dat.sz α) = (zrow (Dat.cells z) n).toArray := h
  rw [e]
  induction n with
  | zero => rfl
  | succ n ih => simp only [zrow, List.replicate_succ, fl_cons]; congr 1; exact ih (by have := range_zrow (Dat.cells z) n; rwa [Dat.len] at this) (by have := range_zrow (Dat.cells z) n; rwa [Dat.len] at this)
theorem fill_step {α : Type} [Dat α] (l : List α) (z : α) (i : Nat) (h : i < l.length) : (l.take i ++ List.replicate (l.length - i) z).set i (nth l i) = l.take (i + 1) ++ List.replicate (l.length - (i + 1)) z := by
  have h1 : (l.take i).length = i := by simp; omega
  obtain ⟨d, hd⟩ : ∃ d, l.length - i = d + 1 := ⟨l.length - i - 1, by omega⟩
  rw [hd, List.replicate_succ, List.set_append_right _ _ (by omega), h1, Nat.sub_self, List.set_cons_zero, List.take_succ_eq_append_getElem h, show l.length - (i + 1) = d from by omega, List.append_assoc]
  simp [nth, h]
section
variable {P : Program} {E : Env} {H : List HObj} {G : List World} {o : Oper}
theorem ps_loadsF {α : Type} [Dat α] {x : Operand} {t sz k i : Nat} {A : Option Addr} {l : List α} [hl : LD P t sz true] (ho : o.op = .load t x) (hx : opd E x = some (pt A k)) (hc : Rds H G A (fl l)) (hs : Dat.sz α = sz) (hk : k = i * sz) (hi : i < l.length) (hz : Nat.blt 0 sz = true) : PStep P E H G o (.agg (Dat.cells (nth l i)).toArray) := by
  subst hs; subst hk
  exact ps_loads ho hx hc (fl_sub l i hi) (Dat.len _) (by simpa [Nat.blt_eq] using hz)
theorem ms_setw {α : Type} [Dat α] {t e k sz rsz n c : Nat} {ag : Bool} {A : Option Addr} {x y : Operand} {u : Value} {L : List α} (i j : Nat) (v : α) [hl : LD P t sz ag] (ho : o.op = .store t x y) (hx : opd E x = some (pt A k)) (hy : opd E y = some u) (hi : H[i]? = some (.row e rsz A n c (fl L)))
    (hk : k = j * Dat.sz α) (hsz : Dat.sz α = sz) (h0 : Nat.blt 0 sz = true) (hv : u.cells = (Dat.cells v).toArray) (h1 : (Dat.cells v).all (·.oneCell') = true) (hj : j < L.length) :
    MStep P E H G o (fun _ => True) (fun _ => undef) (fun _ => H.set i (.row e rsz A n c (fl (L.set j v)))) (fun _ => G) := by
  have hle : j * Dat.sz α + Dat.sz α ≤ (fl L).length := by
    rw [fl_len]
    have : (j + 1) * Dat.sz α ≤ L.length * Dat.sz α := Nat.mul_le_mul_right _ hj
    rw [Nat.add_mul] at this; omega
  have := ms_store_row (g := 0) (P := P) (hl := hl) (G := G) (k := k) i ho hx hy hv (by rw [Dat.len, hsz]) h1 (by simpa [Nat.blt_eq] using h0) hi (by rw [Dat.len, hk]; exact hle)
  rwa [hk, putC_fl L j v hj] at this
theorem ms_setc {α : Type} [Dat α] {t e k rsz n c : Nat} {A : Option Addr} {x y : Operand} {u : Value} {L : List α} (i j off : Nat) (v : α) [hl : LD P t 1 false] (ho : o.op = .store t x y) (hx : opd E x = some (pt A k)) (hy : opd E y = some u) (hi : H[i]? = some (.row e rsz A n c (fl L)))
    (hk : k = j * Dat.sz α + off) (hoff : Nat.blt off (Dat.sz α) = true) (hv : u.cells = #[u]) (h1 : u.oneCell' = true) (hv2 : (Dat.cells (nth L j)).set off u = Dat.cells v) (hj : j < L.length) :
    MStep P E H G o (fun _ => True) (fun _ => undef) (fun _ => H.set i (.row e rsz A n c (fl (L.set j v)))) (fun _ => G) := by
  have ho' : off < Dat.sz α := by simpa [Nat.blt_eq] using hoff
  have hle : j * Dat.sz α + off + 1 ≤ (fl L).length := by
    rw [fl_len]
    have : (j + 1) * Dat.sz α ≤ L.length * Dat.sz α := Nat.mul_le_mul_right _ hj
    rw [Nat.add_mul] at this; omega
  have := ms_store_row (g := 0) (P := P) (hl := hl) (G := G) (k := k) (vs := [u]) i ho hx hy (by rw [hv]) rfl (by simpa using h1) (by omega) hi (by rw [hk]; exact hle)
  rwa [hk, putC_at L j off u v hj ho' hv2] at this
end
end Go.Proofs.Ytfcnimglcialbaa
/- The engine: regions where several makers may come up in any order; whole rows appended. -/
namespace Go.Proofs.Ytfcnimglcialbaa
open Go.RowKit
set_option linter.unusedVariables false
set_option linter.unusedSimpArgs false
def AtT (P : Program) (ops : Array Oper) (Q : Exit → Act → World → Prop) (tl : List Oper) (n : Nat) (N base : Nat) (w0 : World) (HS : List HObj) (GS : List World) (f : Nat) (listed : Array Bool) (E : Env) (H : List HObj) (G : List World) (i : Nat) : Prop :=
  ∀ a w, HeadB .any ops n = true → PQ Q → EnvOk N E a → WOk base w0 H G w → WOk base w0 HS GS w → HeadInv .any ops n listed → i ∈ Region.ready .any ops listed →
    i < n ∧ wpOp P ops Q i (fun a' w' => WOk base w0 HS GS w' ∧ wpT P .any ops Q (fun w => WOk base w0 HS GS w) n (fun listed a w => Region.seqB .any ops tl.length n listed = true ∧ wpList P ops Q tl a w) f (listed.setIfInBounds i true) a' w') a w
def AllT (P : Program) (ops : Array Oper) (Q : Exit → Act → World → Prop) (tl : List Oper) (n : Nat) (N base : Nat) (w0 : World) (HS : List HObj) (GS : List World) (f : Nat) (listed : Array Bool) (E : Env) (H : List HObj) (G : List World) : List Nat → Prop
  | [] => True
  | i :: is => AtT P ops Q tl n N base w0 HS GS f listed E H G i ∧ AllT P ops Q tl n N base w0 HS GS f listed E H G is
section
variable {P : Program} {N base : Nat} {w0 : World} {E : Env} {H HS : List HObj} {G GS : List World} {Q : Exit → Act → World → Prop} {K : Act → World → Prop} {ops : Array Oper} {tl : List Oper} {n f : Nat} {listed : Array Bool}
theorem all_nil : AllT P ops Q tl n N base w0 HS GS f listed E H G [] := trivial
theorem all_cons {i : Nat} {is : List Nat} (h : AtT P ops Q tl n N base w0 HS GS f listed E H G i) (hs : AllT P ops Q tl n N base w0 HS GS f listed E H G is) : AllT P ops Q tl n N base w0 HS GS f listed E H G (i :: is) := ⟨h, hs⟩
theorem AllT.mem : ∀ {is : List Nat}, AllT P ops Q tl n N base w0 HS GS f listed E H G is → ∀ i ∈ is, AtT P ops Q tl n N base w0 HS GS f listed E H G i
  | i :: is, h, j, hj => by
    cases hj with
    | head => exact h.1
    | tail _ hj => exact AllT.mem h.2 j hj
theorem okT_many {i : Nat} {is : List Nat} (hr : Region.ready .any ops listed = i :: is) (h : AllT P ops Q tl n N base w0 HS GS f listed E H G (i :: is)) : OkT P ops Q tl n N base w0 HS GS (f + 1) listed E H G := fun a w hB hQ he hw hSw inv =>
  ⟨by rw [hr]; simp, fun j hj => AllT.mem h j (hr ▸ hj) a w hB hQ he hw hSw inv hj⟩
theorem at_m {i : Nat} {o : Oper} {F : Ys → Prop} {v : Ys → Value} {H' : Ys → List HObj} {G' : Ys → List World} (hi : ops[i]? = some o) (hin : Nat.blt i n = true) {td : Nat} (hdt : o.dst = some td) (hd : Nat.blt td N = true) (hg : o.guard = none) (hs : MStep P E H G o F v H' G')
    (hS : ∀ y w, F y → WOk base w0 (H' y) (G' y) w → WOk base w0 HS GS w)
    (h : ∀ y, F y → OkT P ops Q tl n N base w0 HS GS f (listed.setIfInBounds i true) ((td, v y) :: E) (H' y) (G' y)) : AtT P ops Q tl n N base w0 HS GS f listed E H G i := fun a w hB hQ he hw hSw inv hr => by
  have hin' : i < n := by simpa [Nat.blt_eq] using hin
  refine ⟨hin', ?_⟩
  unfold wpOp
  simp only [hi]
  rw [if_pos (by simp [Region.wanted, hg])]
  refine .inl (hs N base w0 a w Q _ he hw fun y w' hF hw' => ?_)
  have h1 := hS y w' hF hw'
  exact ⟨h1, h y hF _ _ hB hQ (he.put' hdt hd _) hw' h1 (inv.set hr hin')⟩
theorem mrg1 {XE : Ys → Env} {XH : Ys → List HObj} {G' : List World} {K' : Act → World → Prop} (h1 : (∀ y0, Ok N base w0 (XE y0) (XH y0) G' K') → Ok N base w0 E H G K) (h2 : ∀ y0, Ok N base w0 (XE y0) (XH y0) G' K') : Ok N base w0 E H G K := h1 h2
theorem mrg2 {XE : Ys → Ys → Env} {XH : Ys → Ys → List HObj} {G' : List World} {K' : Act → World → Prop} (h1 : (∀ y0 y1, Ok N base w0 (XE y0 y1) (XH y0 y1) G' K') → Ok N base w0 E H G K) (h2 : ∀ y0 y1, Ok N base w0 (XE y0 y1) (XH y0 y1) G' K') : Ok N base w0 E H G K := h1 h2
theorem mrg3 {XE : Ys → Ys → Ys → Env} {XH : Ys → Ys → Ys → List HObj} {G' : List World} {K' : Act → World → Prop} (h1 : (∀ y0 y1 y2, Ok N base w0 (XE y0 y1 y2) (XH y0 y1 y2) G' K') → Ok N base w0 E H G K) (h2 : ∀ y0 y1 y2, Ok N base w0 (XE y0 y1 y2) (XH y0 y1 y2) G' K') : Ok N base w0 E H G K := h1 h2
theorem mrg4 {XE : Ys → Ys → Ys → Ys → Env} {XH : Ys → Ys → Ys → Ys → List HObj} {G' : List World} {K' : Act → World → Prop} (h1 : (∀ y0 y1 y2 y3, Ok N base w0 (XE y0 y1 y2 y3) (XH y0 y1 y2 y3) G' K') → Ok N base w0 E H G K) (h2 : ∀ y0 y1 y2 y3, Ok N base w0 (XE y0 y1 y2 y3) (XH y0 y1 y2 y3) G' K') : Ok N base w0 E H G K := h1 h2
theorem mrg5 {XE : Ys → Ys → Ys → Ys → Ys → Env} {XH : Ys → Ys → Ys → Ys → Ys → List HObj} {G' : List World} {K' : Act → World → Prop} (h1 : (∀ y0 y1 y2 y3 y4, Ok N base w0 (XE y0 y1 y2 y3 y4) (XH y0 y1 y2 y3 y4) G' K') → Ok N base w0 E H G K) (h2 : ∀ y0 y1 y2 y3 y4, Ok N base w0 (XE y0 y1 y2 y3 y4) (XH y0 y1 y2 y3 y4) G' K') : Ok N base w0 E H G K := h1 h2
theorem mrg6 {XE : Ys → Ys → Ys → Ys → Ys → Ys → Env} {XH : Ys → Ys → Ys → Ys → Ys → Ys → List HObj} {G' : List World} {K' : Act → World → Prop} (h1 : (∀ y0 y1 y2 y3 y4 y5, Ok N base w0 (XE y0 y1 y2 y3 y4 y5) (XH y0 y1 y2 y3 y4 y5) G' K') → Ok N base w0 E H G K) (h2 : ∀ y0 y1 y2 y3 y4 y5, Ok N base w0 (XE y0 y1 y2 y3 y4 y5) (XH y0 y1 y2 y3 y4 y5) G' K') : Ok N base w0 E H G K := h1 h2
theorem mrg7 {XE : Ys → Ys → Ys → Ys → Ys → Ys → Ys → Env} {XH : Ys → Ys → Ys → Ys → Ys → Ys → Ys → List HObj} {G' : List World} {K' : Act → World → Prop} (h1 : (∀ y0 y1 y2 y3 y4 y5 y6, Ok N base w0 (XE y0 y1 y2 y3 y4 y5 y6) (XH y0 y1 y2 y3 y4 y5 y6) G' K') → Ok N base w0 E H G K) (h2 : ∀ y0 y1 y2 y3 y4 y5 y6, Ok N base w0 (XE y0 y1 y2 y3 y4 y5 y6) (XH y0 y1 y2 y3 y4 y5 y6) G' K') : Ok N base w0 E H G K := h1 h2
theorem mrg8 {XE : Ys → Ys → Ys → Ys → Ys → Ys → Ys → Ys → Env} {XH : Ys → Ys → Ys → Ys → Ys → Ys → Ys → Ys → List HObj} {G' : List World} {K' : Act → World → Prop} (h1 : (∀ y0 y1 y2 y3 y4 y5 y6 y7, Ok N base w0 (XE y0 y1 y2 y3 y4 y5 y6 y7) (XH y0 y1 y2 y3 y4 y5 y6 y7) G' K') → Ok N base w0 E H G K) (h2 : ∀ y0 y1 y2 y3 y4 y5 y6 y7, Ok N base w0 (XE y0 y1 y2 y3 y4 y5 y6 y7) (XH y0 y1 y2 y3 y4 y5 y6 y7) G' K') : Ok N base w0 E H G K := h1 h2
end
class OneC (α : Type) [Dat α] : Prop where h : ∀ x : α, ∀ u ∈ Dat.cells x, u.oneCell' = true
instance : OneC Int := ⟨fun x u hu => by cases hu with | head => rfl | tail _ h => cases h⟩
instance : OneC ByteArray := ⟨fun x u hu => by cases hu with | head => rfl | tail _ h => cases h⟩
instance : OneC UInt8 := ⟨fun x u hu => by cases hu with | head => rfl | tail _ h => cases h⟩
instance : OneC Bool := ⟨fun x u hu => by cases hu with | head => rfl | tail _ h => cases h⟩
theorem fl_oneC {α : Type} [Dat α] [OneC α] (l : List α) : ∀ u ∈ fl l, u.oneCell' = true := fun u hu => by
  obtain ⟨x, _, hx⟩ := List.mem_flatMap.1 hu
  exact OneC.h x u hx
section
variable {P : Program} {E : Env} {H : List HObj} {G : List World} {o : Oper} {α : Type} [Dat α] [OneC α]
theorem ms_appF {t e sz bytes c c2 : Nat} {A A2 : Option Addr} {x y : Operand} {L M : List α} (i : Nat) [ht : EL P t e sz bytes] (ho : o.op = .call { callee := .builtin .append, args := #[x, y], argTypes := #[t, t] })
    (hx : opd E x = some (.slice A L.length c)) (hy : opd E y = some (.slice A2 M.length c2)) (hi : H[i]? = some (.row e sz A L.length c (fl L))) (hr : Rds H G A2 (fl M)) (hs : Dat.sz α = sz)
    (hb : (L.length + M.length) * bytes ≤ 140737488355328) (hm : L.length + M.length ≤ 140737488355328) :
    MStep P E H G o (fun _ => True) (fun y => .slice (y 0).A (L.length + M.length) (y 0).c) (fun y => H.set i (.row e sz (y 0).A (L.length + M.length) (y 0).c (fl (L ++ M)))) (fun _ => G) := by
  have := ms_app (P := P) i ho hx hy hi hr (by rw [fl_len, hs]) (fl_oneC M) hb hm
  simpa only [fl_app] using this
theorem ms_app0 {t e sz bytes c c2 : Nat} {A A2 : Option Addr} {x y : Operand} {M : List α} (i : Nat) [ht : EL P t e sz bytes] (ho : o.op = .call { callee := .builtin .append, args := #[x, y], argTypes := #[t, t] })
    (hx : opd E x = some (.slice A 0 c)) (hy : opd E y = some (.slice A2 M.length c2)) (hi : H[i]? = some (.row e sz A 0 c [])) (hr : Rds H G A2 (fl M)) (hs : Dat.sz α = sz)
    (hb : M.length * bytes ≤ 140737488355328) (hm : M.length ≤ 140737488355328) :
    MStep P E H G o (fun _ => True) (fun y => .slice (y 0).A M.length (y 0).c) (fun y => H.set i (.row e sz (y 0).A M.length (y 0).c (fl M))) (fun _ => G) := by
  have := ms_app (P := P) i ho hx hy hi hr (by rw [fl_len, hs]) (fl_oneC M) (by simpa using hb) (by simpa using hm)
  simpa only [Nat.zero_add, List.nil_append] using this
end
end Go.Proofs.Ytfcnimglcialbaa
/- The engine: functions with captured variables. -/
namespace Go.Proofs.Ytfcnimglcialbaa
open Go.RowKit
set_option linter.unusedVariables false
set_option linter.unusedSimpArgs false
theorem fl_take {α : Type} [Dat α] : ∀ (l : List α) (i : Nat), (fl l).take (i * Dat.sz α) = fl (l.take i)
  | [], i => by simp [fl]
  | x :: l, 0 => by simp [fl]
  | x :: l, i + 1 => by
    have ih := fl_take l i
    rw [List.take_succ_cons, fl_cons, fl_cons, ← ih]
    have : (i + 1) * Dat.sz α = (Dat.cells x).length + i * Dat.sz α := by rw [Dat.len, Nat.add_mul]; omega
    rw [this, List.take_length_add_append]
section
variable {P : Program} {N base : Nat} {w0 : World} {E : Env} {H : List HObj} {G : List World} {Q : Exit → Act → World → Prop} {o : Oper} {ops : Array Oper} {rest : List Oper} {F : Ys → Prop} {v : Ys → Value} {H' : Ys → List HObj} {G' : Ys → List World}
theorem evs_of {N : Nat} {E : Env} {a : Act} (he : EnvOk N E a) {args : Array Operand} {vs : List Value} (ha : args.toList.mapM (opd E) = some vs) : args.map a.eval = vs.toArray := by
  apply Array.ext'
  rw [Array.toList_map]
  generalize args.toList = l at ha
  induction l generalizing vs with
  | nil => simp at ha; subst ha; rfl
  | cons q l ih =>
    simp only [List.mapM_cons, Option.bind_eq_bind] at ha
    cases hq : opd E q with
    | none => simp [hq] at ha
    | some u =>
      simp only [hq, Option.bind_some] at ha
      cases hr : l.mapM (opd E) with
      | none => simp [hr] at ha
      | some r =>
        simp only [hr, Option.bind_some] at ha
        cases ha
        simp [he.eval hq, ih hr]
theorem ps_mkf {f : FuncId} {cap : Array Operand} {vs : List Value} (ho : o.op = .makeFunc (.func f) #[] cap) (ha : cap.toList.mapM (opd E) = some vs) : PStep P E H G o (.func (.func f) #[] vs.toArray) := fun N base w0 a w he hw => by
  simp [execOp, ho, Instr.makeFunc, evs_of he ha]
/-- A call of a function with captured variables. -/
theorem ms_k {f : FuncId} {cl : Operand} {args : Array Operand} {tys : Array TypeId} {vs cs : List Value} {H1 : List HObj} (hsel : ∀ base w0 w, WOk base w0 H G w → WOk base w0 H1 G w) [hf : FN P f] (ho : o.op = .call { callee := .value cl, args := args, argTypes := tys }) (hcl : opd E cl = some (.func (.func f) #[] cs.toArray)) (ha : args.toList.mapM (opd E) = some vs)
    (hc : ∀ base w0 w, WOk base w0 H1 G w → Calls P f (vs ++ cs).toArray w (fun e w' => ∃ y, e = .returned (v y) ∧ F y ∧ WOk base w0 (H' y) (G' y) w')) :
    MStep P E H G o F v H' G' := fun N base w0 a w Q K he hw hK => by
  obtain ⟨fn, c, h1, h2, h3⟩ := hf.h
  have hev := evs_of he ha
  have hr : (execOp a.eval o).run P w = .ok (.enter f (vs ++ cs).toArray) w := by
    have hfe : a.eval cl = .func (.func f) #[] cs.toArray := he.eval hcl
    have hname : fn.name ≠ "runtime.NumGoroutine" := by simpa using h2
    simp [execOp, ho, resolve, hev, hfe, Deferred.ofValue, invoke, callFunc, h1, hname, h3]
  unfold Oper.wp; rw [hr]
  refine (hc base w0 w (hsel base w0 w hw)).mono fun e w' ⟨y, he', hF, hw'⟩ => ?_
  subst he'
  exact hK y w' hF hw'
/-- With one argument, one scalar result. -/
theorem ms_k1 {f : FuncId} {cl x0 : Operand} {u0 : Value} {tys : Array TypeId} {cs : List Value} {u : Value} [hf : FN P f] (ho : o.op = .call { callee := .value cl, args := #[x0], argTypes := tys }) (hcl : opd E cl = some (.func (.func f) #[] cs.toArray)) (h0 : opd E x0 = some u0)
    (hc : ∀ base w0 w, WOk base w0 H G w → Calls P f (u0 :: cs).toArray w (fun e w' => e = .returned u ∧ Below w.heap.size w w')) :
    MStep P E H G o (fun _ => True) (fun _ => u) (fun _ => H) (fun _ => G) :=
  ms_k (H1 := H) (fun _ _ _ h => h) ho hcl (vs := [u0]) (by simp [List.mapM_cons, h0]) (fun base w0 w hw => (hc base w0 w hw).mono fun e w' ⟨he, hb⟩ => ⟨mkY none 0 w, he, trivial, hw.grow (Hn := []) (Gn := []) hb (NewOk.nil _ _)⟩)
theorem ps_slice3 {x lo hi mx : Operand} {t e sz bytes : TypeId} {A : Option Addr} {n c : Nat} {l h m : Nat} {k k' k'' : IntKind} [ht : EL P t e sz bytes] (ho : o.op = .slice t x (some lo) (some hi) (some mx)) (hx : opd E x = some (.slice A n c))
    (hlo : opd E lo = some (.int k (l : Int))) (hhi : opd E hi = some (.int k' (h : Int))) (hm : opd E mx = some (.int k'' (m : Int))) (h1 : l ≤ h) (h2 : h ≤ m) (h3 : m ≤ c) :
    PStep P E H G o (.slice (if m = l then A else A.map (·.add (l * sz))) (h - l) (m - l)) := fun N base w0 a w he hw => by
  obtain ⟨hu, _, i, z, hi', hz, hs, _, _⟩ := ht.h
  have hb : ∀ (k : IntKind) (q m : Nat) (cd : BoundsCode), q ≤ m → (Instr.sliceBound (.int k (q : Int)) m cd).run P w = .ok q w := fun k q m cd hq => by
    have : (0 : Int) ≤ q ∧ (q : Int) ≤ m := by omega
    simp [Instr.sliceBound, asIntOf, this]
  simp [execOp, ho, he.eval hx, he.eval hlo, he.eval hhi, he.eval hm, Instr.sliceAt, Instr.slice, Instr.sliceBounds, run_underlying hu, sizeOf, typeInfo, hi', hs, hb k'' m c _ h3, hb k' h m _ h2, hb k l h _ h1]
/-- Cells of an own row are written over, and the row is seen with another length. -/
theorem own_over {w : World} {base e sz c g q m : Nat} {cur : Array Value} {vs : List Value} (hb : base ≤ g) (hg : w.heap[g]? = some (.cells cur e (0, 0))) (hc : c ≤ maxLen) (hcs : cur.size = c * sz) (hk : q * sz + vs.length ≤ cur.size) (hm : m ≤ c) :
    Own (w.setRow g (putC cur.toList (q * sz) vs).toArray) base e sz (some ⟨g, 0, none⟩) m c ((putC cur.toList (q * sz) vs).take (m * sz)) ∧ w.grownBy (w.setRow g (putC cur.toList (q * sz) vs).toArray) (some g) := by
  have hl : (putC cur.toList (q * sz) vs).length = c * sz := by rw [putC_len _ _ _ (by simpa using hk)]; simpa using hcs
  have hms : m * sz ≤ c * sz := Nat.mul_le_mul_right _ hm
  refine ⟨⟨by rw [List.length_take, hl]; omega, .inr ⟨g, c, _, rfl, hb, setRow_heap w g _ _ e _ hg, hm, hc, by simpa using hl, by simp⟩⟩, ?_⟩
  exact ⟨rfl, rfl, rfl, by simp, fun j _ hj => setRow_other w g j _ (fun e => hj (by simp [e]))⟩
theorem putC_take {cs vs : List Value} {k m : Nat} (h : k + vs.length = m) (hm : m ≤ cs.length) : (putC cs k vs).take m = cs.take k ++ vs := by
  unfold putC
  rw [List.take_append_of_le_length (by simp; omega), List.take_of_length_le (by simp; omega)]
theorem putC_take0 {cs vs : List Value} {k m : Nat} (h : m ≤ k) (hk : k ≤ cs.length) : (putC cs k vs).take m = cs.take m := by
  unfold putC
  rw [List.append_assoc, List.take_append_of_le_length (by simp; omega), List.take_take]
  congr 1; omega
/-- append to a beginning of an own row, with room behind: in place. -/
theorem run_appin {t ty e sz bytes : Nat} (hT : SlP P t e sz bytes) {w : World} {c i m c2 g : Nat} {A2 : Option Addr} {news : List Value} {cur : Array Value} (hg : w.heap[g]? = some (.cells cur e (0, 0))) (hcs : cur.size = c * sz) (him : i + m ≤ c)
    (hl : news.length = m * sz) (hr : Rd w A2 news) (h1 : ∀ u ∈ news, u.oneCell' = true) :
    (Builtin.append_ #[t, t] ty #[.slice (some ⟨g, 0, none⟩) i c, .slice A2 m c2]).run P w = .ok (.slice (some ⟨g, 0, none⟩) (i + m) c) (w.setRow g (putC cur.toList (i * sz) news).toArray) := by
  obtain ⟨hu, hz0, inf, z, hi, hz, hs, hby, hzs⟩ := hT
  have hfit : i * sz + news.length ≤ cur.size := by rw [hl, hcs, ← Nat.add_mul]; exact Nat.mul_le_mul_right _ him
  have hst := run_storeCells_at P g (i * sz) e news 0 cur w hg (by simpa using hfit) h1
  have hfc : (Builtin.firstCells sz m (.slice A2 m c2)).run P w = .ok news.toArray w := by
    rcases A2 with _ | ad
    · have hn : news = [] := by
        rcases news with _ | ⟨u, l⟩
        · rfl
        · obtain ⟨ad, e, _⟩ := hr 0 u rfl; cases e
      subst hn; exact run_firstCells_none w sz m m c2
    · exact run_firstCells_some w sz m ad m c2 news hl (fun j v hv => by obtain ⟨ad', e, h⟩ := hr j v hv; cases e; exact h)
  simp only [Nat.add_zero] at hst
  simp [Builtin.append_, run_underlying hu, Builtin.lenOf, sizeOf, typeInfo, hi, hs, hfc, him, ga_add, hst, putC]
theorem ms_appin {α : Type} [Dat α] [OneC α] {t e sz bytes n c c2 i m : Nat} {A A2 : Option Addr} {x y : Operand} {L M : List α} (r : Nat) [ht : EL P t e sz bytes] (ho : o.op = .call { callee := .builtin .append, args := #[x, y], argTypes := #[t, t] })
    (hx : opd E x = some (.slice A i c)) (hy : opd E y = some (.slice A2 m c2)) (hi : H[r]? = some (.row e sz A n c (fl L))) (hr : Rds H G A2 (fl M)) (hs : Dat.sz α = sz) (hm : M.length = m) (hin : i ≤ L.length) (h0 : 0 < L.length) (him : i + m ≤ L.length) :
    MStep P E H G o (fun _ => True) (fun _ => .slice A (i + m) c) (fun _ => H.set r (.row e sz A (i + m) c (fl (L.take i ++ M)))) (fun _ => G) := fun N base w0 a w Q K he hw hK => by
  have hsz : 0 < sz := ht.h.2.1
  have hown := hw.own _ (List.mem_of_getElem? hi)
  obtain ⟨hlen, ⟨hA, hn0⟩ | ⟨g, cap, cur, hA, hb, hh, hnc, hcm, hcs, htk⟩⟩ := hown
  · subst hn0; rw [fl_len, hs, Nat.zero_mul] at hlen
    have := Nat.mul_pos h0 hsz; omega
  injection hA with hA hA2 hA3
  subst hA; subst hA3
  have hLn : L.length = n := by rw [fl_len, hs] at hlen; exact Nat.eq_of_mul_eq_mul_right hsz hlen
  have hrun := run_appin (ty := o.type) (c2 := c2) ht.h hh hcs (show i + m ≤ c by omega) (by rw [fl_len, hs, hm]) (hr base w0 w hw) (fl_oneC M)
  have hr' : (execOp a.eval o).run P w = .ok (.value (.slice (some ⟨g, 0, none⟩) (i + m) c)) (w.setRow g (putC cur.toList (i * sz) (fl M)).toArray) := by
    unfold execOp
    simp only [ho, resolve, invoke, builtin, Sem.run_bind, Sem.run_pure, Result.andThen_ok, List.map_toArray, List.map_cons, List.map_nil, he.eval hx, he.eval hy, hrun]
  unfold Oper.wp; rw [hr']
  have hfit : i * sz + (fl M).length ≤ cur.size := by rw [fl_len, hs, hm, hcs, ← Nat.add_mul]; exact Nat.mul_le_mul_right _ (by omega)
  obtain ⟨o1, o2⟩ := own_over (m := i + m) hb hh hcm hcs hfit (by omega)
  have e1 : (putC cur.toList (i * sz) (fl M)).take ((i + m) * sz) = fl (L.take i ++ M) := by
    rw [putC_take (by rw [fl_len, hs, hm, Nat.add_mul]) (by rw [Array.length_toList, hcs]; exact Nat.mul_le_mul_right _ (by omega)), ← fl_app]
    congr 1
    have h5 : cur.toList.take (i * sz) = (fl L).take (i * sz) := by
      rw [← htk, List.take_take]; congr 1
      have : i * sz ≤ n * sz := Nat.mul_le_mul_right _ (by omega)
      omega
    rw [h5, ← hs, fl_take]
  rw [e1] at o1
  refine hK (mkY none 0 w) _ trivial (hw.turn (x := .row e sz (some ⟨g, 0, none⟩) n c (fl L)) hi (r := some g) o2 (fun k hk => by cases hk; rfl) o1 (fun k hk => .inl hk))
theorem run_clear {t ty e sz bytes : Nat} (hT : SlP P t e sz bytes) {z : List Value} [hz : ZV P e z] {w : World} {c q m c2 g : Nat} {cur : Array Value} (hg : w.heap[g]? = some (.cells cur e (0, 0))) (hcs : cur.size = c * sz) (hqm : q + m ≤ c) (h1 : ∀ u ∈ z, u.oneCell' = true) (hm : 0 < m) :
    ∃ vs : List Value, vs.length = m * sz ∧ (Builtin.clear_ #[t] ty #[.slice (some ⟨g, q * sz, none⟩) m c2]).run P w = .ok (.tuple #[]) (w.setRow g (putC cur.toList (q * sz) vs).toArray) := by
  obtain ⟨hu, hz0, inf, zz, hi, hzz, hs, hby, hzs⟩ := hT
  have hz1 : zz.cells = z.toArray := by
    have := hz.h
    unfold zvB at this
    simpa [hi, hzz] using this
  have hzl : z.length = sz := by rw [← hzs, hz1]; simp
  refine ⟨(Builtin.zeroCells z.toArray m).toList, by simp [Builtin.zeroCells, hzl], ?_⟩
  have hvl : (Builtin.zeroCells z.toArray m).toList.length = m * sz := by simp [Builtin.zeroCells, hzl]
  have hfit : q * sz + (Builtin.zeroCells z.toArray m).toList.length ≤ cur.size := by rw [hvl, hcs, ← Nat.add_mul]; exact Nat.mul_le_mul_right _ hqm
  have hone : ∀ v ∈ (Builtin.zeroCells z.toArray m).toList, v.oneCell' = true := fun v hv => by
    simp only [Builtin.zeroCells, Array.toList_map, List.mem_map] at hv
    obtain ⟨i, hi, rfl⟩ := hv
    simp only [Array.toList_range, List.mem_range, List.size_toArray, hzl] at hi
    have hlt : i % z.toArray.size < z.toArray.size := Nat.mod_lt _ (by simp [hzl]; exact hz0)
    have hlt' : i % z.length < z.length := by simpa using hlt
    have e2 : z.toArray[i % z.toArray.size]! = z[i % z.length] := by simp [hlt']
    rw [e2]
    exact h1 _ (List.getElem_mem _)
  have hst := run_storeCells_at P g (q * sz) e (Builtin.zeroCells z.toArray m).toList 0 cur w hg (by simpa using hfit) hone
  simp only [Nat.add_zero] at hst
  obtain ⟨m', rfl⟩ : ∃ m', m = m' + 1 := ⟨m - 1, by omega⟩
  simp only [Builtin.clear_]
  simp [run_underlying hu, zeroValue, typeInfo, hi, hzz, hz1, hst, putC]
theorem ms_clear {α : Type} [Dat α] {t e sz bytes n c c2 q m : Nat} {A B : Option Addr} {x : Operand} {L : List α} {z : List Value} (r : Nat) [ht : EL P t e sz bytes] [hz : ZV P e z] (ho : o.op = .call { callee := .builtin .clear, args := #[x], argTypes := #[t] })
    (hx : opd E x = some (.slice B m c2)) (hB : 0 < m → B = A.map (·.add (q * sz))) (hi : H[r]? = some (.row e sz A n c (fl L))) (hs : Dat.sz α = sz) (hq : q ≤ L.length) (hqm : q + m ≤ c) (h1 : ∀ u ∈ z, u.oneCell' = true) :
    MStep P E H G o (fun _ => True) (fun _ => .tuple #[]) (fun _ => H.set r (.row e sz A q c (fl (L.take q)))) (fun _ => G) := fun N base w0 a w Q K he hw hK => by
  have hsz : 0 < sz := ht.h.2.1
  have hown := hw.own _ (List.mem_of_getElem? hi)
  have hown2 := hown
  have hLn : L.length = n := by have := hown.1; rw [fl_len, hs] at this; exact Nat.eq_of_mul_eq_mul_right hsz this
  have hexec : ∀ v w', (Builtin.clear_ #[t] o.type #[.slice B m c2]).run P w = .ok v w' → (execOp a.eval o).run P w = .ok (.value v) w' := fun v w' h => by
    unfold execOp
    simp only [ho, resolve, invoke, builtin, Sem.run_bind, Sem.run_pure, Result.andThen_ok, List.map_toArray, List.map_cons, List.map_nil, he.eval hx, h]
  obtain ⟨hlen, ⟨hA, hn0⟩ | ⟨g, cap, cur, hA, hb, hh, hnc, hcm, hcs, htk⟩⟩ := hown
  · injection hA with hA hA2 hA3
    subst hA; subst hA2; subst hA3
    have hq0 : q = 0 := by omega
    have hm0 : m = 0 := by omega
    subst hq0; subst hm0
    have hL : L = [] := List.eq_nil_of_length_eq_zero hLn
    subst hL
    have hrun : (Builtin.clear_ #[t] o.type #[.slice B 0 c2]).run P w = .ok (.tuple #[]) w := by
      obtain ⟨hu, _⟩ := ht.h
      simp only [Builtin.clear_]
      cases B <;> simp [run_underlying hu]
    unfold Oper.wp; rw [hexec _ _ hrun]
    exact hK (mkY none 0 w) _ trivial (hw.turn hi (r := none) (World.grownBy.refl w _) (fun k hk => by cases hk) (by simpa using hown2) (fun k hk => .inl hk))
  · injection hA with hA hA2 hA3
    subst hA; subst hA3
    have etake : ∀ cs : List Value, cs = cur.toList → cs.take (q * sz) = fl (L.take q) := fun cs e => by
      rw [e, ← fl_take, hs, ← htk, List.take_take]; congr 1
      have : q * sz ≤ n * sz := Nat.mul_le_mul_right _ (by omega)
      omega
    rcases Nat.eq_zero_or_pos m with hm | hm
    · subst hm
      have hrun : (Builtin.clear_ #[t] o.type #[.slice B 0 c2]).run P w = .ok (.tuple #[]) w := by
        obtain ⟨hu, _⟩ := ht.h
        simp only [Builtin.clear_]
        cases B <;> simp [run_underlying hu]
      unfold Oper.wp; rw [hexec _ _ hrun]
      refine hK (mkY none 0 w) _ trivial (hw.turn hi (r := none) (World.grownBy.refl w _) (fun k hk => by cases hk) (x' := .row e sz (some ⟨g, 0, none⟩) q c (fl (L.take q))) ?_ (fun k hk => .inl hk))
      refine ⟨by rw [fl_len, hs, List.length_take, Nat.min_eq_left hq], .inr ⟨g, c, cur, rfl, hb, hh, by omega, hcm, hcs, ?_⟩⟩
      exact etake _ rfl
    · have hB' := hB hm
      have e0 : B = some ⟨g, q * sz, none⟩ := by rw [hB']; simp [ga_add]
      subst e0
      obtain ⟨vs, hvl, hrun⟩ := run_clear (P := P) (ty := o.type) (c2 := c2) ht.h (z := z) hh hcs hqm h1 hm
      unfold Oper.wp; rw [hexec _ _ hrun]
      have hfit : q * sz + vs.length ≤ cur.size := by rw [hvl, hcs, ← Nat.add_mul]; exact Nat.mul_le_mul_right _ hqm
      obtain ⟨o1, o2⟩ := own_over (m := q) hb hh hcm hcs hfit (by omega)
      rw [putC_take0 (Nat.le_refl _) (by rw [Array.length_toList, hcs]; exact Nat.mul_le_mul_right _ (by omega)), etake _ rfl] at o1
      exact hK (mkY none 0 w) _ trivial (hw.turn (x := .row e sz (some ⟨g, 0, none⟩) n c (fl L)) hi (r := some g) o2 (fun k hk => by cases hk; rfl) o1 (fun k hk => .inl hk))
/-- copy of a row of equal length. -/
theorem ms_copy {α : Type} [Dat α] [OneC α] {t e sz bytes n n2 c c2 : Nat} {A A2 : Option Addr} {x y : Operand} {L M : List α} (r : Nat) [ht : EL P t e sz bytes] (ho : o.op = .call { callee := .builtin .copy, args := #[x, y], argTypes := #[t, t] })
    (hx : opd E x = some (.slice A n c)) (hy : opd E y = some (.slice A2 n2 c2)) (hi : H[r]? = some (.row e sz A n c (fl L))) (hr : Rds H G A2 (fl M)) (hs : Dat.sz α = sz) (hm : M.length = n) (h0 : 0 < n) (hn2 : n2 = n) :
    MStep P E H G o (fun _ => True) (fun _ => .int .i64 n) (fun _ => H.set r (.row e sz A n c (fl M))) (fun _ => G) := fun N base w0 a w Q K he hw hK => by
  have hn3 := hn2.symm
  subst hn3
  have hsz : 0 < sz := ht.h.2.1
  have hown := hw.own _ (List.mem_of_getElem? hi)
  obtain ⟨hlen, ⟨hA, hn0⟩ | ⟨g, cap, cur, hA, hb, hh, hnc, hcm, hcs, htk⟩⟩ := hown
  · omega
  injection hA with hA hA2 hA3
  subst hA; subst hA3
  obtain ⟨hu, hz0, inf, z, hii, hz, hss, hby, hzs⟩ := ht.h
  have hml : (fl M).length = n * sz := by rw [fl_len, hs, hm]
  have hfit : 0 * sz + (fl M).length ≤ cur.size := by rw [hml, hcs, Nat.zero_mul, Nat.zero_add]; exact Nat.mul_le_mul_right _ hnc
  have hst := run_storeCells_at P g 0 e (fl M) 0 cur w hh (by simpa using hfit) (fl_oneC M)
  have hRd := hr base w0 w hw
  have hfc : (Builtin.firstCells sz n (.slice A2 n c2)).run P w = .ok (fl M).toArray w := by
    rcases A2 with _ | ad
    · obtain ⟨u, l, e⟩ : ∃ u l, fl M = u :: l := by
        rcases h : fl M with _ | ⟨u, l⟩
        · rw [h] at hml; have := Nat.mul_pos h0 hsz; simp at hml; omega
        · exact ⟨u, l, rfl⟩
      obtain ⟨ad, e2, _⟩ := hRd 0 u (by rw [e]; rfl)
      cases e2
    · exact run_firstCells_some w sz n ad n c2 (fl M) hml (fun j v hv => by obtain ⟨ad', e, h⟩ := hRd j v hv; cases e; exact h)
  simp only [Nat.add_zero, Nat.zero_add] at hst
  have hmin : Nat.min n n = n := Nat.min_self n
  have hrun : (Builtin.copy_ #[t, t] o.type #[.slice (some ⟨g, 0, none⟩) n c, .slice A2 n c2]).run P w = .ok (.int .i64 n) (w.setRow g (putC cur.toList (0 * sz) (fl M)).toArray) := by
    simp [Builtin.copy_, run_underlying hu, Builtin.lenOf, sizeOf, typeInfo, hii, hss, hmin, hfc, hst, putC, goInt]
  have hr' : (execOp a.eval o).run P w = .ok (.value (.int .i64 n)) (w.setRow g (putC cur.toList (0 * sz) (fl M)).toArray) := by
    unfold execOp
    simp only [ho, resolve, invoke, builtin, Sem.run_bind, Sem.run_pure, Result.andThen_ok, List.map_toArray, List.map_cons, List.map_nil, he.eval hx, he.eval hy, hrun]
  unfold Oper.wp; rw [hr']
  obtain ⟨o1, o2⟩ := own_over (m := n) hb hh hcm hcs hfit hnc
  have e1 : (putC cur.toList (0 * sz) (fl M)).take (n * sz) = fl M := by
    rw [putC_take (by rw [hml]; omega) (by rw [Array.length_toList, hcs]; exact Nat.mul_le_mul_right _ hnc)]; simp
  rw [e1] at o1
  exact hK (mkY none 0 w) _ trivial (hw.turn (x := .row e sz (some ⟨g, 0, none⟩) n c (fl L)) hi (r := some g) o2 (fun k hk => by cases hk; rfl) o1 (fun k hk => .inl hk))
end
section
variable {P : Program} {N base : Nat} {w0 : World} {E : Env} {H HS : List HObj} {G GS : List World} {Q : Exit → Act → World → Prop} {ops : Array Oper} {tl : List Oper} {n f : Nat} {listed : Array Bool}
/-- A store within the open part of a region. -/
theorem okT_one0 {i : Nat} {o : Oper} {F : Ys → Prop} {v : Ys → Value} {H' : Ys → List HObj} {G' : Ys → List World} (hi : ops[i]? = some o) (hin : Nat.blt i n = true) (hr : Region.ready .any ops listed = [i]) (hdt : o.dst = none) (hg : o.guard = none) (hs : MStep P E H G o F v H' G')
    (hS : ∀ y w, F y → WOk base w0 (H' y) (G' y) w → WOk base w0 HS GS w)
    (h : ∀ y, F y → OkT P ops Q tl n N base w0 HS GS f (listed.setIfInBounds i true) E (H' y) (G' y)) : OkT P ops Q tl n N base w0 HS GS (f + 1) listed E H G := fun a w hB hQ he hw hSw inv => by
  have hin' : i < n := by simpa [Nat.blt_eq] using hin
  refine ⟨by rw [hr]; simp, fun j hj => ?_⟩
  have hji : j = i := by rw [hr] at hj; simpa using hj
  subst hji
  refine ⟨hin', ?_⟩
  unfold wpOp
  simp only [hi]
  rw [if_pos (by simp [Region.wanted, hg])]
  refine .inl (hs N base w0 a w Q _ he hw fun y w' hF hw' => ?_)
  have h1 := hS y w' hF hw'
  exact ⟨h1, h y hF _ _ hB hQ (he.put0 hdt _) hw' h1 (inv.set hj hin')⟩
end
end Go.Proofs.Ytfcnimglcialbaa
