/- A region that draws its order and whose operations leave the world alone: walked in the order of the text, one operation at a time, by the plain walk. -/
import Derived.Test.YtojgphgfhapacaaMem
namespace Go.Proofs.Ytojgphgfhapacaa
open Go.RowKit
set_option linter.unusedVariables false
set_option linter.unusedSimpArgs false

/-- Operations that hand back a value or nothing, and no call of a Go function. -/
def pk : Op → Bool
  | .move _ | .assign _ | .pick .. | .load .. | .binOp .. | .unOp .. | .convert .. | .slice .. | .fieldAddr .. | .field .. | .indexAddr .. | .index .. | .extract .. => true
  | .call { callee := .builtin b, .. } => match b with
    | .len | .cap | .min | .max => true
    | _ => false
  | _ => false
def isVal : Next → Prop
  | .value _ => True
  | _ => False
theorem vrun {P : Program} {s : Sem Value} {w w' : World} {n : Next} (h : (do let x ← s; pure (Next.value x) : Sem Next).run P w = .ok n w') : isVal n := by
  rw [Sem.run_bind] at h
  cases hr : s.run P w with
  | ok x w1 => rw [hr] at h; simp [Result.andThen] at h; rw [← h.1]; trivial
  | halt x w1 => rw [hr] at h; simp [Result.andThen] at h
theorem vrun' {s : Result Value} {w' : World} {n : Next} (h : (s.andThen fun a w' => Result.ok (Next.value a) w') = .ok n w') : isVal n := by
  cases s with
  | ok x w1 => simp [Result.andThen] at h; rw [← h.1]; trivial
  | halt x w1 => simp [Result.andThen] at h
theorem pk_val {P : Program} {ev : Operand → Value} {o : Oper} {w w' : World} {n : Next} (hp : pk o.op = true) (h : (execOp ev o).run P w = .ok n w') : isVal n := by
  unfold execOp at h
  cases ho : o.op with
  | call c =>
    rw [ho] at hp h
    rcases c with ⟨callee, args, tys⟩
    cases callee with
    | builtin b =>
      cases b <;> simp [pk] at hp
      all_goals
        simp only [resolve, invoke, builtin, Sem.run_bind, Sem.run_pure, Result.andThen_ok] at h
        exact vrun' h
    | value f => simp [pk] at hp
    | invoke r m => simp [pk] at hp
  | move x => rw [ho] at h; simp only [Sem.run_pure] at h; cases h; trivial
  | assign x => rw [ho] at h; simp only [Sem.run_pure] at h; cases h; trivial
  | pick c a b => rw [ho] at h; exact vrun (s := do pure (if ← asBool (ev c) then ev a else ev b)) (by simpa [Sem.run_bind] using h)
  | _ =>
    rw [ho] at hp h
    first
      | exact vrun h
      | simp [pk] at hp

def SeqQ (w : World) (Q : Act → Prop) : Exit → Act → World → Prop
  | .normal, a, w' => w' = w ∧ Q a
  | _, _, _ => False
/-- The walk in the order of the text: a plain operation by the plain walk, another as it stands. -/
def wpSeq (P : Program) (ops : Array Oper) (w : World) (Q : Act → Prop) : List Oper → Act → Prop
  | [], a => Q a
  | o :: rest, a => if pk o.op = true then wpList P ops (SeqQ w (wpSeq P ops w Q rest)) [o] a w else (if Region.wanted o (yielded ops a.tmps) then o.still P a w (wpSeq P ops w Q rest) else wpSeq P ops w Q rest (a.put o.dst undef))
section
variable {P : Program} {ops : Array Oper} {w : World} {Q : Act → Prop}
theorem wpSeq_nil {a : Act} (h : Q a) : wpSeq P ops w Q [] a := h
theorem wpSeq_plain {o : Oper} {rest : List Oper} {a : Act} (hp : pk o.op = true) (h : wpList P ops (SeqQ w (wpSeq P ops w Q rest)) [o] a w) : wpSeq P ops w Q (o :: rest) a := by
  unfold wpSeq; rw [if_pos hp]; exact h
theorem wpSeq_call {o : Oper} {rest : List Oper} {a : Act} (hp : pk o.op = false) (h : ∀ K : Act → Prop, (∀ a, wpSeq P ops w Q rest a → K a) → if Region.wanted o (yielded ops a.tmps) then o.still P a w K else K (a.put o.dst undef)) : wpSeq P ops w Q (o :: rest) a := by
  unfold wpSeq; rw [if_neg (by rw [hp]; exact Bool.false_ne_true)]; exact h _ fun _ h => h
theorem wpSeq_still : ∀ (l : List Oper) (a : Act), wpSeq P ops w Q l a → wpStill P ops w Q l a
  | [], a, h => h
  | o :: rest, a, h => by
    simp only [wpSeq] at h
    split at h
    case isFalse hp =>
      unfold wpStill
      split
      · rename_i hw; rw [if_pos hw] at h; exact Oper.still_mono (wpSeq_still rest) h
      · rename_i hw; rw [if_neg hw] at h; exact wpSeq_still rest _ h
    rename_i hp
    unfold wpList at h
    unfold wpStill
    have key : ∀ a' w', wpList P ops (SeqQ w (wpSeq P ops w Q rest)) [] a' w' → w' = w ∧ wpStill P ops w Q rest a' := fun a' w' h' => by
      unfold wpList at h'
      exact ⟨h'.1, wpSeq_still rest a' h'.2⟩
    split at h
    · rename_i hw
      rw [if_pos hw]
      rcases h with h | ⟨_, a0, w0, h⟩
      · unfold Oper.wp at h
        unfold Oper.still
        have hv := fun n w' => pk_val (P := P) (ev := a.eval) (w := w) (w' := w') (n := n) hp
        generalize (execOp a.eval o).run P w = r at *
        rcases r with ⟨n, w'⟩ | ⟨x, w'⟩
        · have hv' := hv n w' rfl
          cases n <;> simp only [Oper.upon] at h <;> simp only [Oper.stillUpon]
          case value v => exact key _ _ h
          all_goals exact hv'.elim
        · cases x <;> simp only [Oper.upon, SeqQ] at h
      · exact h.elim
    · rename_i hw
      rw [if_neg hw]
      exact (key _ _ h).2
/-- The whole region only reads. -/
theorem wp_region_seq {id : Nat} {Q : Exit → Act → World → Prop} {a : Act} {l : List Oper} (hm : P.follows .mixedOrders = true) (hB : Region.lexB .any l.toArray = true)
    (h : wpSeq P l.toArray w.drew (fun a' => Q .normal a' w.drew) l a) : (Code.region id l.toArray true).wp P Q a w :=
  wp_region_still_lit hm hB (wpSeq_still _ _ h)
/-- The first n operations only read; the rest is a chain. -/
theorem wp_region_seq_tail {id : Nat} {Q : Exit → Act → World → Prop} {a : Act} {l : List Oper} (n : Nat) (hm : P.follows .mixedOrders = true) (hB : Region.lexTailB .any l.toArray n = true)
    (h : wpSeq P l.toArray w.drew (fun a' => wpList P l.toArray Q (l.drop n) a' w.drew) (l.take n) a) : (Code.region id l.toArray true).wp P Q a w :=
  wp_region_still_tail n hm hB (wpSeq_still _ _ h)
end
end Go.Proofs.Ytojgphgfhapacaa
