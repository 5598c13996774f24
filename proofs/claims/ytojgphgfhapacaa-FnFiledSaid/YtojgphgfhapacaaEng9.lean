/- The engine: regions where several makers may come up in any order; whole rows appended. -/
import Derived.Test.YtojgphgfhapacaaEng8
namespace Go.Proofs.Ytojgphgfhapacaa
open Go.RowKit
set_option linter.unusedVariables false
set_option linter.unusedSimpArgs false
def AtT (P : Program) (ops : Array Oper) (Q : Exit → Act → World → Prop) (tl : List Oper) (n : Nat) (N base : Nat) (w0 : World) (HS : List HObj) (GS : List World) (f : Nat) (listed : Array Bool) (E : Env) (H : List HObj) (G : List World) (i : Nat) : Prop :=
  ∀ a w, HeadB .any ops n = true → PQ Q → EnvOk N E a → WOk base w0 H G w → WOk base w0 HS GS w → HeadInv .any ops n listed → i ∈ Region.ready .any ops listed →
    i < n ∧ wpOp P ops Q i (fun a' w' => WOk base w0 HS GS w' ∧ wpT P .any ops Q (fun w => WOk base w0 HS GS w) n (fun listed a w => Region.seqB .any ops tl.length n listed = true ∧ wpList P ops Q tl a w) f (listed.setIfInBounds i true) a' w') a w
def AllT (P : Program) (ops : Array Oper) (Q : Exit → Act → World → Prop) (tl : List Oper) (n : Nat) (N base : Nat) (w0 : World) (HS : List HObj) (GS : List World) (f : Nat) (listed : Array Bool) (E : Env) (H : List HObj) (G : List World) : List Nat → Prop
  | [] => True
  | i :: is => AtT P ops Q tl n N base w0 HS GS f listed E H G i ∧ AllT P ops Q tl n N base w0 HS GS f listed E H G is
section
variable {P : Program} {N base : Nat} {w0 : World} {E : Env} {H HS : List HObj} {G GS : List World} {Q : Exit → Act → World → Prop} {K : Act → World → Prop} {ops : Array Oper} {tl : List Oper} {n f : Nat} {listed : Array Bool}
theorem all_nil : AllT P ops Q tl n N base w0 HS GS f listed E H G [] := trivial
theorem all_cons {i : Nat} {is : List Nat} (h : AtT P ops Q tl n N base w0 HS GS f listed E H G i) (hs : AllT P ops Q tl n N base w0 HS GS f listed E H G is) : AllT P ops Q tl n N base w0 HS GS f listed E H G (i :: is) := ⟨h, hs⟩
theorem AllT.mem : ∀ {is : List Nat}, AllT P ops Q tl n N base w0 HS GS f listed E H G is → ∀ i ∈ is, AtT P ops Q tl n N base w0 HS GS f listed E H G i
  | i :: is, h, j, hj => by
    cases hj with
    | head => exact h.1
    | tail _ hj => exact AllT.mem h.2 j hj
theorem okT_many {i : Nat} {is : List Nat} (hr : Region.ready .any ops listed = i :: is) (h : AllT P ops Q tl n N base w0 HS GS f listed E H G (i :: is)) : OkT P ops Q tl n N base w0 HS GS (f + 1) listed E H G := fun a w hB hQ he hw hSw inv =>
  ⟨by rw [hr]; simp, fun j hj => AllT.mem h j (hr ▸ hj) a w hB hQ he hw hSw inv hj⟩
theorem at_m {i : Nat} {o : Oper} {F : Ys → Prop} {v : Ys → Value} {H' : Ys → List HObj} {G' : Ys → List World} (hi : ops[i]? = some o) (hin : Nat.blt i n = true) {td : Nat} (hdt : o.dst = some td) (hd : Nat.blt td N = true) (hg : o.guard = none) (hs : MStep P E H G o F v H' G')
    (hS : ∀ y w, F y → WOk base w0 (H' y) (G' y) w → WOk base w0 HS GS w)
    (h : ∀ y, F y → OkT P ops Q tl n N base w0 HS GS f (listed.setIfInBounds i true) ((td, v y) :: E) (H' y) (G' y)) : AtT P ops Q tl n N base w0 HS GS f listed E H G i := fun a w hB hQ he hw hSw inv hr => by
  have hin' : i < n := by simpa [Nat.blt_eq] using hin
  refine ⟨hin', ?_⟩
  unfold wpOp
  simp only [hi]
  rw [if_pos (by simp [Region.wanted, hg])]
  refine .inl (hs N base w0 a w Q _ he hw fun y w' hF hw' => ?_)
  have h1 := hS y w' hF hw'
  exact ⟨h1, h y hF _ _ hB hQ (he.put' hdt hd _) hw' h1 (inv.set hr hin')⟩
theorem mrg1 {XE : Ys → Env} {XH : Ys → List HObj} {G' : List World} {K' : Act → World → Prop} (h1 : (∀ y0, Ok N base w0 (XE y0) (XH y0) G' K') → Ok N base w0 E H G K) (h2 : ∀ y0, Ok N base w0 (XE y0) (XH y0) G' K') : Ok N base w0 E H G K := h1 h2
theorem mrg2 {XE : Ys → Ys → Env} {XH : Ys → Ys → List HObj} {G' : List World} {K' : Act → World → Prop} (h1 : (∀ y0 y1, Ok N base w0 (XE y0 y1) (XH y0 y1) G' K') → Ok N base w0 E H G K) (h2 : ∀ y0 y1, Ok N base w0 (XE y0 y1) (XH y0 y1) G' K') : Ok N base w0 E H G K := h1 h2
theorem mrg3 {XE : Ys → Ys → Ys → Env} {XH : Ys → Ys → Ys → List HObj} {G' : List World} {K' : Act → World → Prop} (h1 : (∀ y0 y1 y2, Ok N base w0 (XE y0 y1 y2) (XH y0 y1 y2) G' K') → Ok N base w0 E H G K) (h2 : ∀ y0 y1 y2, Ok N base w0 (XE y0 y1 y2) (XH y0 y1 y2) G' K') : Ok N base w0 E H G K := h1 h2
theorem mrg4 {XE : Ys → Ys → Ys → Ys → Env} {XH : Ys → Ys → Ys → Ys → List HObj} {G' : List World} {K' : Act → World → Prop} (h1 : (∀ y0 y1 y2 y3, Ok N base w0 (XE y0 y1 y2 y3) (XH y0 y1 y2 y3) G' K') → Ok N base w0 E H G K) (h2 : ∀ y0 y1 y2 y3, Ok N base w0 (XE y0 y1 y2 y3) (XH y0 y1 y2 y3) G' K') : Ok N base w0 E H G K := h1 h2
theorem mrg5 {XE : Ys → Ys → Ys → Ys → Ys → Env} {XH : Ys → Ys → Ys → Ys → Ys → List HObj} {G' : List World} {K' : Act → World → Prop} (h1 : (∀ y0 y1 y2 y3 y4, Ok N base w0 (XE y0 y1 y2 y3 y4) (XH y0 y1 y2 y3 y4) G' K') → Ok N base w0 E H G K) (h2 : ∀ y0 y1 y2 y3 y4, Ok N base w0 (XE y0 y1 y2 y3 y4) (XH y0 y1 y2 y3 y4) G' K') : Ok N base w0 E H G K := h1 h2
theorem mrg6 {XE : Ys → Ys → Ys → Ys → Ys → Ys → Env} {XH : Ys → Ys → Ys → Ys → Ys → Ys → List HObj} {G' : List World} {K' : Act → World → Prop} (h1 : (∀ y0 y1 y2 y3 y4 y5, Ok N base w0 (XE y0 y1 y2 y3 y4 y5) (XH y0 y1 y2 y3 y4 y5) G' K') → Ok N base w0 E H G K) (h2 : ∀ y0 y1 y2 y3 y4 y5, Ok N base w0 (XE y0 y1 y2 y3 y4 y5) (XH y0 y1 y2 y3 y4 y5) G' K') : Ok N base w0 E H G K := h1 h2
theorem mrg7 {XE : Ys → Ys → Ys → Ys → Ys → Ys → Ys → Env} {XH : Ys → Ys → Ys → Ys → Ys → Ys → Ys → List HObj} {G' : List World} {K' : Act → World → Prop} (h1 : (∀ y0 y1 y2 y3 y4 y5 y6, Ok N base w0 (XE y0 y1 y2 y3 y4 y5 y6) (XH y0 y1 y2 y3 y4 y5 y6) G' K') → Ok N base w0 E H G K) (h2 : ∀ y0 y1 y2 y3 y4 y5 y6, Ok N base w0 (XE y0 y1 y2 y3 y4 y5 y6) (XH y0 y1 y2 y3 y4 y5 y6) G' K') : Ok N base w0 E H G K := h1 h2
theorem mrg8 {XE : Ys → Ys → Ys → Ys → Ys → Ys → Ys → Ys → Env} {XH : Ys → Ys → Ys → Ys → Ys → Ys → Ys → Ys → List HObj} {G' : List World} {K' : Act → World → Prop} (h1 : (∀ y0 y1 y2 y3 y4 y5 y6 y7, Ok N base w0 (XE y0 y1 y2 y3 y4 y5 y6 y7) (XH y0 y1 y2 y3 y4 y5 y6 y7) G' K') → Ok N base w0 E H G K) (h2 : ∀ y0 y1 y2 y3 y4 y5 y6 y7, Ok N base w0 (XE y0 y1 y2 y3 y4 y5 y6 y7) (XH y0 y1 y2 y3 y4 y5 y6 y7) G' K') : Ok N base w0 E H G K := h1 h2
end
class OneC (α : Type) [Dat α] : Prop where h : ∀ x : α, ∀ u ∈ Dat.cells x, u.oneCell' = true
instance : OneC Int := ⟨fun x u hu => by cases hu with | head => rfl | tail _ h => cases h⟩
instance : OneC ByteArray := ⟨fun x u hu => by cases hu with | head => rfl | tail _ h => cases h⟩
instance : OneC UInt8 := ⟨fun x u hu => by cases hu with | head => rfl | tail _ h => cases h⟩
instance : OneC Bool := ⟨fun x u hu => by cases hu with | head => rfl | tail _ h => cases h⟩
theorem fl_oneC {α : Type} [Dat α] [OneC α] (l : List α) : ∀ u ∈ fl l, u.oneCell' = true := fun u hu => by
  obtain ⟨x, _, hx⟩ := List.mem_flatMap.1 hu
  exact OneC.h x u hx
section
variable {P : Program} {E : Env} {H : List HObj} {G : List World} {o : Oper} {α : Type} [Dat α] [OneC α]
theorem ms_appF {t e sz bytes c c2 : Nat} {A A2 : Option Addr} {x y : Operand} {L M : List α} (i : Nat) [ht : EL P t e sz bytes] (ho : o.op = .call { callee := .builtin .append, args := #[x, y], argTypes := #[t, t] })
    (hx : opd E x = some (.slice A L.length c)) (hy : opd E y = some (.slice A2 M.length c2)) (hi : H[i]? = some (.row e sz A L.length c (fl L))) (hr : Rds H G A2 (fl M)) (hs : Dat.sz α = sz)
    (hb : (L.length + M.length) * bytes ≤ 140737488355328) (hm : L.length + M.length ≤ 140737488355328) :
    MStep P E H G o (fun _ => True) (fun y => .slice (y 0).A (L.length + M.length) (y 0).c) (fun y => H.set i (.row e sz (y 0).A (L.length + M.length) (y 0).c (fl (L ++ M)))) (fun _ => G) := by
  have := ms_app (P := P) i ho hx hy hi hr (by rw [fl_len, hs]) (fl_oneC M) hb hm
  simpa only [fl_app] using this
theorem ms_app0 {t e sz bytes c c2 : Nat} {A A2 : Option Addr} {x y : Operand} {M : List α} (i : Nat) [ht : EL P t e sz bytes] (ho : o.op = .call { callee := .builtin .append, args := #[x, y], argTypes := #[t, t] })
    (hx : opd E x = some (.slice A 0 c)) (hy : opd E y = some (.slice A2 M.length c2)) (hi : H[i]? = some (.row e sz A 0 c [])) (hr : Rds H G A2 (fl M)) (hs : Dat.sz α = sz)
    (hb : M.length * bytes ≤ 140737488355328) (hm : M.length ≤ 140737488355328) :
    MStep P E H G o (fun _ => True) (fun y => .slice (y 0).A M.length (y 0).c) (fun y => H.set i (.row e sz (y 0).A M.length (y 0).c (fl M))) (fun _ => G) := by
  have := ms_app (P := P) i ho hx hy hi hr (by rw [fl_len, hs]) (fl_oneC M) (by simpa using hb) (by simpa using hm)
  simpa only [Nat.zero_add, List.nil_append] using this
end
end Go.Proofs.Ytojgphgfhapacaa
