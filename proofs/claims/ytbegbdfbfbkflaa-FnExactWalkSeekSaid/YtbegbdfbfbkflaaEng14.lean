/- The engine: arrays by a number that may be negative, makers on rows of a bag, objects let go. -/
import Derived.Test.YtbegbdfbfbkflaaEng11
import Derived.Test.YtbegbdfbfbkflaaNst
import Derived.Test.YtbegbdfbfbkflaaCch
namespace Go.Proofs.Ytbegbdfbfbkflaa
open Go.RowKit
set_option linter.unusedVariables false
set_option linter.unusedSimpArgs false
section
variable {P : Program} {N base : Nat} {w0 : World} {E : Env} {H : List HObj} {G : List World} {Q : Exit → Act → World → Prop} {o : Oper}
theorem ps_indexAE {x y : Operand} {t n e sz k : Nat} {z : Int} {A : Option Addr} {q : IntKind} [ht : AR P t n e sz] (ho : o.op = .indexAddr t x y) (hx : opd E x = some (pt A k)) (hy : opd E y = some (.int q z)) (h : 0 ≤ z ∧ z < (n : Int)) (hA : IsSW H G A) : PStep P E H G o (pt A (k + z.toNat * sz)) := by
  obtain ⟨i, rfl⟩ : ∃ i : Nat, z = (i : Int) := ⟨z.toNat, by omega⟩
  rw [Int.toNat_natCast]
  exact ps_indexA ho hx hy (by omega) hA
/-- A maker seen with its objects in another order, before and behind. -/
theorem ms_pre {F : Ys → Prop} {v : Ys → Value} {H1 : List HObj} {G1 : List World} {H1' H' : Ys → List HObj} {G1' G' : Ys → List World} (h1 : ∀ base w0 w, WOk base w0 H G w → WOk base w0 H1 G1 w) (h : MStep P E H1 G1 o F v H1' G1') (h2 : ∀ y base w0 w, F y → WOk base w0 (H1' y) (G1' y) w → WOk base w0 (H' y) (G' y) w) : MStep P E H G o F v H' G' := fun N base w0 a w Q K he hw hK =>
  h N base w0 a w Q K he (h1 _ _ _ hw) (fun y w' hF hw' => hK y w' hF (h2 y _ _ _ hF hw'))
theorem ps_subH {H1 : List HObj} {v : Value} (h1 : ∀ base w0 w, WOk base w0 H G w → WOk base w0 H1 G w) (h : PStep P E H1 G o v) : PStep P E H G o v := fun N base w0 a w he hw => h N base w0 a w he (h1 _ _ _ hw)
/-- append to a row of a bag. -/
theorem ms_appBag {α β : Type} [Dat β] [OneC β] [In α β] {t e sz bytes c c2 n m : Nat} {A A2 : Option Addr} {x y : Operand} {R : List (Lc α)} (M : List β) (i k : Nat) (d' : α) [ht : EL P t e sz bytes] (ho : o.op = .call { callee := .builtin .append, args := #[x, y], argTypes := #[t, t] })
    (hx : opd E x = some (.slice (nth R k).A n (nth R k).c)) (hy : opd E y = some (.slice A2 m c2)) (hi : H[i]? = some (.bag e sz (rowsOf R))) (hr : Rds (H.eraseIdx i) G A2 (fl M)) (hs : Dat.sz β = sz) (hk : k < R.length) (hn : (In.inn (nth R k).d).length = n) (hm : M.length = m)
    (hd : In.inn d' = In.inn (nth R k).d ++ M) (hb : (n + m) * bytes ≤ 140737488355328) (hm2 : n + m ≤ 140737488355328) :
    MStep P E H G o (fun _ => True) (fun y => .slice (y 0).A (n + m) (y 0).c) (fun y => H.set i (.bag e sz (rowsOf (R.set k ⟨d', (y 0).A, (y 0).c⟩)))) (fun _ => G) := by
  have hil : i < H.length := (List.getElem?_eq_some_iff.1 hi).1
  refine ms_pre (H1 := .row e sz (nth R k).A (In.inn (nth R k).d).length (nth R k).c (fl (In.inn (nth R k).d)) :: .bag e sz (rowsOf (R.take k) ++ rowsOf (R.drop (k + 1))) :: H.eraseIdx i) (G1 := G) (fun _ _ _ hw => WOk.bagPull k hk (hw.front i hi)) ?_ ?_ (H1' := fun y => .row e sz (y 0).A (n + m) (y 0).c (fl (In.inn (nth R k).d ++ M)) :: .bag e sz (rowsOf (R.take k) ++ rowsOf (R.drop (k + 1))) :: H.eraseIdx i) (G1' := fun _ => G)
  · have := ms_appN (P := P) (G := G) (H := .row e sz (nth R k).A (In.inn (nth R k).d).length (nth R k).c (fl (In.inn (nth R k).d)) :: .bag e sz (rowsOf (R.take k) ++ rowsOf (R.drop (k + 1))) :: H.eraseIdx i) (In.inn (nth R k).d) M 0 ho hx hy (by rw [hn]; rfl) (fun base w0 w hw => hr base w0 w hw.tl.tl) hs hn hm hb hm2
    exact this
  · intro y base w0 w _ hw
    have h1 := WOk.bagPush k (⟨d', (y 0).A, (y 0).c⟩ : Lc α) hk (R := R) (e := e) (sz := sz) (H := H.eraseIdx i) (by
      simp only
      rw [hd, List.length_append, hn, hm]
      exact hw)
    exact h1.perm (set_perm H i _ hil)
end
theorem mrg0 {N base : Nat} {w0 : World} {E E' : Env} {H H' : List HObj} {G G' : List World} {K K' : Act → World → Prop} (h1 : Ok N base w0 E' H' G' K' → Ok N base w0 E H G K) (h2 : Ok N base w0 E' H' G' K') : Ok N base w0 E H G K := h1 h2
/-- From here on all memory that stands is old: as at a call. -/
theorem ok_frame {N base : Nat} {w0 : World} {E : Env} {H : List HObj} {G : List World} {K : Act → World → Prop} (h : ∀ w1, WOk base w0 H G w1 → Ok N w1.heap.size w1 E [] [w1] K) : Ok N base w0 E H G K := fun a w he hw =>
  h w hw a w he ⟨Below.refl _ _, Nat.le_refl _, (fun x h => (by cases h)), List.Pairwise.nil, fun m hm p u hp => by
    cases hm with
    | head => exact ⟨hp, (fun x h => (by cases h))⟩
    | tail _ h => exact (by cases h)⟩
theorem WOk.framed {base : Nat} {w0 w1 w : World} {H H1 : List HObj} {G G1 : List World} (h1 : WOk base w0 H1 G1 w1) (h : WOk w1.heap.size w1 H G w) : Below base w0 w := h1.below.trans (h.below.mono h1.le)
/-- A row of a bag is let go. -/
theorem WOk.bagDrop {α β : Type} [Dat β] [In α β] {base : Nat} {w0 w : World} {H : List HObj} {G : List World} {e sz : Nat} {R : List (Lc α)} (k : Nat) (hk : k < R.length) (hw : WOk base w0 (.bag e sz (rowsOf R) :: H) G w) : WOk base w0 (.bag e sz (rowsOf (R.eraseIdx k)) :: H) G w := by
  have := (hw.bagPull k hk).tl
  rw [List.eraseIdx_eq_take_drop_succ]
  simpa [rowsOf] using this
end Go.Proofs.Ytbegbdfbfbkflaa
