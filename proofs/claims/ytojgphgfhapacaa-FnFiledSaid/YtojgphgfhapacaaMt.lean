/- The mark's text. -/
import Derived.Test.YtojgphgfhapacaaBi
namespace Go.Proofs.Ytojgphgfhapacaa
open Go.RowKit
set_option maxHeartbeats 1000000
set_option maxRecDepth 20000
set_option linter.unusedVariables false
set_option linter.unusedSimpArgs false
theorem ps_str1 {P : Program} {E : Env} {H : List HObj} {G : List World} {o : Oper} {x : Operand} {s t e : TypeId} {A : Option Addr} {c : Nat} {n : Int} {sz bytes : Nat} [hs' : EL P s e sz bytes] [he'' : IK P e .u8] [ht' : SS P t] (ho : o.op = .convert s t x) (hx : opd E x = some (.slice A 1 c)) (hr : Rds H G A [.int .u8 n]) : PStep P E H G o (.string (byteStr n)) := fun N base w0 a w he hw => by
  have h := hr base w0 w hw
  obtain ⟨ad, rfl, hc⟩ := h 0 (.int .u8 n) rfl
  have hrun : (convert s t (.slice (some ad) 1 c)).run P w = .ok (.string (byteStr n)) w := by
    rw [run_convert_bytes_string w _ _ e (some ad) 1 c hs'.h.1 he''.h ht'.h]
    rw [run_bytesToString w ad 1 c [n] (by
      have := run_loadCells_list (P := P) w ad [Value.int .u8 n] (fun j v hj => by
        rcases j with _ | j
        · simp at hj; subst hj; simpa [Addr.add] using hc
        · simp at hj)
      simpa using this)]
    simp [byteStr, ByteArray.empty, ByteArray.emptyWithCapacity, ByteArray.push]
    rfl
  simp [execOp, ho, he.eval hx, hrun]
def dig (k : Int) : ByteArray := byteStr (IntKind.u8.wrap (48 + k % 10))
def mtF : Nat → Int → ByteArray → ByteArray
  | 0, _, out => out
  | f + 1, k, out => if 0 < k then mtF f (k / 10) (dig k ++ out) else out
def mT (k : Int) : ByteArray := if 0 < k then ⟨#[109]⟩ ++ mtF k.toNat k ⟨#[]⟩ else ⟨#[109, 48]⟩
theorem mtF_done (f : Nat) (k : Int) (out : ByteArray) (h : ¬ 0 < k) : mtF f k out = out := by cases f <;> simp [mtF, h]
theorem mtF_size : ∀ (f : Nat) (k : Int) (out : ByteArray), (mtF f k out).size ≤ out.size + f
  | 0, k, out => by simp [mtF]
  | f + 1, k, out => by
    unfold mtF
    split
    · have := mtF_size f (k / 10) (dig k ++ out)
      rw [ByteArray.size_append] at this
      have h1 : (dig k).size = 1 := rfl
      omega
    · omega
end Go.Proofs.Ytojgphgfhapacaa
