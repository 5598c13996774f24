/- The engine: operations that only look. -/
import Derived.Test.YtojgphgfhapacaaEng2
import Derived.Conc.MuLone
namespace Go.Proofs.Ytojgphgfhapacaa
open Go.RowKit
set_option linter.unusedVariables false
set_option linter.unusedSimpArgs false
/-- Cells and shape of a type. -/
def ldB (P : Program) (t : TypeId) : Option (Nat × Bool) := match P.underlying t, P.info? t with
  | some (.struct _), some i => some (i.size, true)
  | some (.array _ _), some i => some (i.size, true)
  | some _, some i => some (i.size, false)
  | _, _ => none
def foB (P : Program) (s f : Nat) : Option Nat := match P.underlying s with
  | some (.struct fs) => match fs[f]? with
    | some fd => match P.info? fd.type with
      | some i => if i.size = 0 then none else some fd.offset
      | none => none
    | none => none
  | _ => none
def zvB (P : Program) (t : TypeId) : Option (Array Value) := match P.info? t with
  | some i => i.zero.map (·.cells)
  | none => none
class LD (P : Program) (t : TypeId) (sz : outParam Nat) (ag : outParam Bool) : Prop where h : ldB P t = some (sz, ag)
class FO (P : Program) (s f : Nat) (off : outParam Nat) : Prop where h : foB P s f = some off
class ZV (P : Program) (t : TypeId) (cs : outParam (List Value)) : Prop where h : zvB P t = some cs.toArray
def SlP (P : Program) (t e size bytes : Nat) : Prop := P.underlying t = some (.slice e) ∧ 0 < size ∧ ∃ i z, P.info? e = some i ∧ i.zero = some z ∧ i.size = size ∧ i.bytes = bytes ∧ z.cells.size = size
def elB (P : Program) (t : TypeId) : Option (Nat × Nat × Nat) := match P.underlying t with
  | some (.slice e) => match P.info? e with
    | some i => match i.zero with
      | some z => if z.cells.size = i.size ∧ 0 < i.size then some (e, i.size, i.bytes) else none
      | none => none
    | none => none
  | _ => none
class EL (P : Program) (t : TypeId) (e sz bytes : outParam Nat) : Prop where k : elB P t = some (e, sz, bytes)
theorem EL.h {P : Program} {t e sz bytes : Nat} (h : EL P t e sz bytes) : SlP P t e sz bytes := by
  have h := h.k
  unfold elB at h
  split at h
  case h_2 => cases h
  rename_i e' hu
  split at h
  case h_2 => cases h
  rename_i i hi
  split at h
  case h_2 => cases h
  rename_i z hz
  split at h
  case isFalse => cases h
  rename_i hc
  cases h
  exact ⟨hu, hc.2, i, z, hi, hz, rfl, rfl, hc.1⟩
class IK (P : Program) (t : TypeId) (k : outParam IntKind) : Prop where h : P.underlying t = some (.int k)
class SS (P : Program) (t : TypeId) : Prop where h : P.underlying t = some .string
class FN (P : Program) (f : FuncId) : Prop where h : ∃ fn c, P.funcs[f]? = some fn ∧ (fn.name == "runtime.NumGoroutine") = false ∧ fn.body = some c
@[irreducible] def pt (A : Option Addr) (k : Nat) : Value := .pointer (A.map (·.add k))
def ga (g : Nat) : Option Addr := some ⟨g, 0, none⟩
def IsS (A : Option Addr) : Prop := ∃ ad, A = some ad
theorem isS_ga (g : Nat) : IsS (ga g) := ⟨_, rfl⟩
theorem isS_some (a : Addr) : IsS (some a) := ⟨_, rfl⟩
theorem isS_rd {m : World} {A : Option Addr} {us : List Value} (h : Rd m A us) (hl : 0 < us.length) : IsS A := by
  obtain ⟨ad, e, _⟩ := h.at_ hl; exact ⟨ad, e⟩
theorem ga_add (g k : Nat) : (⟨g, 0, none⟩ : Addr).add k = ⟨g, k, none⟩ := by unfold Addr.add; split <;> simp_all

def IsSW (H : List HObj) (G : List World) (A : Option Addr) : Prop := ∀ base w0 w, WOk base w0 H G w → IsS A
theorem isw_ga {H : List HObj} {G : List World} (g : Nat) : IsSW H G (ga g) := fun _ _ _ _ => isS_ga g
theorem isw_some {H : List HObj} {G : List World} (a : Addr) : IsSW H G (some a) := fun _ _ _ _ => isS_some a
theorem isw_of {H : List HObj} {G : List World} {A : Option Addr} (h : IsS A) : IsSW H G A := fun _ _ _ _ => h
theorem isw_row {H : List HObj} {G : List World} {A : Option Addr} {e sz n c : Nat} {us : List Value} (i : Nat) (hi : H[i]? = some (.row e sz A n c us)) (hn : 0 < n) : IsSW H G A := fun base w0 w hw => by
  obtain ⟨_, ⟨_, h0⟩ | ⟨g, cap, cur, hv, _⟩⟩ := hw.own _ (List.mem_of_getElem? hi)
  · omega
  · injection hv with hA; exact ⟨_, hA⟩
def Cell (H : List HObj) (G : List World) (A : Option Addr) (k : Nat) (u : Value) : Prop := ∀ base w0 w, WOk base w0 H G w → ∃ ad, A = some ad ∧ w.cell? (ad.add k) = some u
def Rds (H : List HObj) (G : List World) (A : Option Addr) (us : List Value) : Prop := ∀ base w0 w, WOk base w0 H G w → Rd w A us
section
variable {H : List HObj} {G : List World} {A : Option Addr} {k : Nat} {u : Value} {us : List Value}
theorem Rds.cell (h : Rds H G A us) (hu : us[k]? = some u) : Cell H G A k u := fun base w0 w hw => h base w0 w hw k u hu
theorem rds_box {g e : Nat} {cs : List Value} (i : Nat) (hi : H[i]? = some (.box g e cs)) : Rds H G (ga g) cs := fun base w0 w hw j u hu => by
  have := (hw.own _ (List.mem_of_getElem? hi)).2
  refine ⟨_, rfl, ?_⟩
  rw [ga_add, cell_of_row _ _ j _ _ _ this]
  simpa using hu
theorem rds_row {e sz n c : Nat} (i : Nat) (hi : H[i]? = some (.row e sz A n c us)) : Rds H G A us := fun base w0 w hw => Rd.of_own (hw.own _ (List.mem_of_getElem? hi))
theorem rds_ref {m : World} (hm : m ∈ G) (h : Rd m A us) : Rds H G A us := fun base w0 w hw j u hu => by
  obtain ⟨ad, e, hc⟩ := h j u hu
  exact ⟨ad, e, (hw.ref m hm _ _ hc).1⟩
theorem Rds.sub {i n : Nat} (h : Rds H G A us) : Rds H G (A.map (·.add i)) ((us.drop i).take n) := fun base w0 w hw => by
  have := h base w0 w hw
  rcases A with _ | ad
  · have h0 : us = [] := by
      rcases us with _ | ⟨u, l⟩
      · rfl
      · obtain ⟨_, e, _⟩ := this 0 u rfl; cases e
    subst h0; simp; exact Rd.nil _ _
  · exact (this.drop i).take n
end

def PStep (P : Program) (E : Env) (H : List HObj) (G : List World) (o : Oper) (v : Value) : Prop := ∀ N base w0 a w, EnvOk N E a → WOk base w0 H G w → (execOp a.eval o).run P w = .ok (.value v) w
/-- A value under a guard. -/
def gv (p : Bool) (v : Value) : Value := match p with
  | true => v
  | false => undef
theorem og {E : Env} {x : Operand} {p : Bool} {v : Value} (h : opd E x = some (gv p v)) (hp : p = true) : opd E x = some v := by subst hp; exact h
section
variable {P : Program} {N base : Nat} {w0 : World} {E : Env} {H : List HObj} {G : List World} {Q : Exit → Act → World → Prop} {o : Oper} {rest : List Oper} {ops : Array Oper}
theorem ok_p {v : Value} (hg : o.guard = none) {td : Nat} (hdt : o.dst = some td) (hd : Nat.blt td N = true) (hs : PStep P E H G o v) (h : Ok N base w0 ((td, v) :: E) H G (wpList P ops Q rest)) :
    Ok N base w0 E H G (wpList P ops Q (o :: rest)) := fun a w he hw => by
  have hr := hs N base w0 a w he hw
  refine wpList_plain hg fun K hK => ?_
  unfold Oper.wp; rw [hr]; exact hK _ _ (h _ _ (he.put' hdt hd v) hw)
theorem yielded_of {a : Act} {j d : Nat} {v : Value} (he : EnvOk N E a) (hj : (ops[j]?).bind (·.dst) = some d) (hv : look E d = some v) : yielded ops a.tmps j = match v with | .bool b => some b | _ => none := by
  have h1 := he.at_ d v hv
  unfold yielded
  rw [hj]
  simp only [Option.bind_some, h1]
  cases v <;> rfl
theorem wanted_of {a : Act} {j d : Nat} {want p c : Bool} (he : EnvOk N E a) (hg : o.guard = some (j, want)) (hj : (ops[j]?).bind (·.dst) = some d) (hv : look E d = some (gv p (.bool c))) :
    Region.wanted o (yielded ops a.tmps) = (p && (c == want)) := by
  unfold Region.wanted
  rw [hg]
  simp only [yielded_of he hj hv]
  cases p <;> cases c <;> cases want <;> rfl
/-- An operation that runs only under a guard: what it yields, under that guard. -/
theorem ok_pg_at {v : Value} {p : Bool} (hw' : ∀ a, EnvOk N E a → Region.wanted o (yielded ops a.tmps) = p) {td : Nat} (hdt : o.dst = some td) (hd : Nat.blt td N = true) (hs : p = true → PStep P E H G o v)
    (h : Ok N base w0 ((td, (gv p v)) :: E) H G (wpList P ops Q rest)) : Ok N base w0 E H G (wpList P ops Q (o :: rest)) := fun a w he hw => by
  refine wpList_step fun K hK => ?_
  rw [hw' a he]
  cases p with
  | true =>
    have hr := hs rfl N base w0 a w he hw
    rw [if_pos rfl]
    unfold Oper.wp; rw [hr]; exact hK _ _ (h _ _ (he.put' hdt hd v) hw)
  | false => rw [if_neg (by simp)]; exact hK _ _ (h _ _ (he.put' hdt hd undef) hw)
theorem ok_pg {v : Value} {j d : Nat} {want c : Bool} (hg : o.guard = some (j, want)) (hj : (ops[j]?).bind (·.dst) = some d) (hv : look E d = some (.bool c)) {td : Nat} (hdt : o.dst = some td) (hd : Nat.blt td N = true)
    {p : Bool} (hp : (c == want) = p) (hs : p = true → PStep P E H G o v)
    (h : Ok N base w0 ((td, (gv p v)) :: E) H G (wpList P ops Q rest)) : Ok N base w0 E H G (wpList P ops Q (o :: rest)) :=
  ok_pg_at (fun a he => by rw [wanted_of (p := true) he hg hj hv, Bool.true_and, hp]) hdt hd hs h
theorem ok_pgg {v : Value} {j d : Nat} {want c q : Bool} (hg : o.guard = some (j, want)) (hj : (ops[j]?).bind (·.dst) = some d) (hv : look E d = some (gv q (.bool c))) {td : Nat} (hdt : o.dst = some td) (hd : Nat.blt td N = true)
    {p : Bool} (hp : (c == want) = p) (hs : q = true → p = true → (q && p) = true → PStep P E H G o v)
    (h : Ok N base w0 ((td, (gv (q && p) v)) :: E) H G (wpList P ops Q rest)) : Ok N base w0 E H G (wpList P ops Q (o :: rest)) :=
  ok_pg_at (fun a he => by rw [wanted_of (p := q) he hg hj hv, hp]) hdt hd (fun hqp => by
    have := (Bool.and_eq_true _ _).mp hqp
    exact hs this.1 this.2 hqp) h
theorem gF (c : Bool) : (c == false) = !c := by cases c <;> rfl
theorem gT (c : Bool) : (c == true) = c := by cases c <;> rfl
end
section
variable {P : Program} {E : Env} {H : List HObj} {G : List World} {o : Oper}
theorem ps_move {x : Operand} {v : Value} (ho : o.op = .move x) (hx : opd E x = some v) : PStep P E H G o v := fun N base w0 a w he hw => by
  simp [execOp, ho, he.eval hx]
theorem ps_assign {x : Operand} {v : Value} (ho : o.op = .assign x) (hx : opd E x = some v) : PStep P E H G o v := fun N base w0 a w he hw => by
  simp [execOp, ho, he.eval hx]
theorem ps_not {x : Operand} {t : TypeId} {b : Bool} (ho : o.op = .unOp .not t x) (hx : opd E x = some (.bool b)) : PStep P E H G o (.bool !b) := fun N base w0 a w he hw => by
  simp [execOp, ho, he.eval hx, Op.unary]
theorem ps_or {c x : Operand} {b y : Bool} (ho : o.op = .pick c (.const (.bool true)) x) (hc : opd E c = some (.bool b)) (hx : opd E x = some (gv (!b) (.bool y))) : PStep P E H G o (.bool (b || y)) := fun N base w0 a w he hw => by
  have : a.eval (.const (.bool true)) = .bool true := rfl
  cases b <;> simp [execOp, ho, he.eval hc, he.eval hx, this, asBool, gv]
theorem ps_or_in {c x : Operand} {q b y : Bool} (hq : q = true) (ho : o.op = .pick c (.const (.bool true)) x) (hc : opd E c = some (gv q (.bool b))) (hx : opd E x = some (gv (q && !b) (.bool y))) : PStep P E H G o (.bool (b || y)) := by
  subst hq; exact ps_or ho hc (by rw [hx, Bool.true_and])
theorem ps_and {c x : Operand} {b y : Bool} (ho : o.op = .pick c x (.const (.bool false))) (hc : opd E c = some (.bool b)) (hx : opd E x = some (gv b (.bool y))) : PStep P E H G o (.bool (b && y)) := fun N base w0 a w he hw => by
  have : a.eval (.const (.bool false)) = .bool false := rfl
  cases b <;> simp [execOp, ho, he.eval hc, he.eval hx, this, asBool, gv]
theorem ps_and_in {c x : Operand} {q b y : Bool} (hq : q = true) (ho : o.op = .pick c x (.const (.bool false))) (hc : opd E c = some (gv q (.bool b))) (hx : opd E x = some (gv (q && b) (.bool y))) : PStep P E H G o (.bool (b && y)) := by
  subst hq; exact ps_and ho hc (by rw [hx, Bool.true_and])
theorem ps_pick_t {c x y : Operand} {b : Bool} {v : Value} (ho : o.op = .pick c x y) (hc : opd E c = some (.bool b)) (hb : b = true) (hx : opd E x = some v) : PStep P E H G o v := fun N base w0 a w he hw => by
  subst hb; simp [execOp, ho, he.eval hc, he.eval hx, asBool]
theorem ps_pick_f {c x y : Operand} {b : Bool} {v : Value} (ho : o.op = .pick c x y) (hc : opd E c = some (.bool b)) (hb : b = false) (hy : opd E y = some v) : PStep P E H G o v := fun N base w0 a w he hw => by
  subst hb; simp [execOp, ho, he.eval hc, he.eval hy, asBool]
/-- Numbers. -/
def intOp : BinOp → IntKind → Int → Int → Option Value
  | .add, k, x, y => some (.int k (k.wrap (x + y)))
  | .sub, k, x, y => some (.int k (k.wrap (x - y)))
  | .mul, k, x, y => some (.int k (k.wrap (x * y)))
  | .eql, k, x, y => some (.bool (x == y))
  | .neq, k, x, y => some (.bool (x != y))
  | .lss, k, x, y => some (.bool (decide (x < y)))
  | .leq, k, x, y => some (.bool (decide (x ≤ y)))
  | .gtr, k, x, y => some (.bool (decide (y < x)))
  | .geq, k, x, y => some (.bool (decide (y ≤ x)))
  | .and, k, x, y => some (.int k (k.wrap (BitVec.ofInt k.bits x &&& BitVec.ofInt k.bits y).toNat))
  | .or, k, x, y => some (.int k (k.wrap (BitVec.ofInt k.bits x ||| BitVec.ofInt k.bits y).toNat))
  | .xor, k, x, y => some (.int k (k.wrap (BitVec.ofInt k.bits x ^^^ BitVec.ofInt k.bits y).toNat))
  | _, _, _, _ => none
theorem ps_int {p : BinOp} {x y : Operand} {t t' : TypeId} {k : IntKind} {m n : Int} {v : Value} (ho : o.op = .binOp p t x y t') (hx : opd E x = some (.int k m)) (hy : opd E y = some (.int k n)) (hv : intOp p k m n = some v) : PStep P E H G o v := fun N base w0 a w he hw => by
  cases p <;> simp only [intOp, Option.some.injEq, reduceCtorEq] at hv <;> subst hv <;>
    simp [execOp, ho, he.eval hx, he.eval hy, eqGuard, binOp, Op.intArith, Op.intCmp, Op.intBits]
theorem ps_add {x y : Operand} {t t' : TypeId} {m n : Int} (ho : o.op = .binOp .add t x y t') (hx : opd E x = some (.int .i64 m)) (hy : opd E y = some (.int .i64 n)) (h : -9223372036854775808 ≤ m + n ∧ m + n ≤ 9223372036854775807) : PStep P E H G o (.int .i64 (m + n)) :=
  ps_int ho hx hy (by rw [intOp, IntWalk.i64_in _ h])
theorem ps_sub {x y : Operand} {t t' : TypeId} {m n : Int} (ho : o.op = .binOp .sub t x y t') (hx : opd E x = some (.int .i64 m)) (hy : opd E y = some (.int .i64 n)) (h : -9223372036854775808 ≤ m - n ∧ m - n ≤ 9223372036854775807) : PStep P E H G o (.int .i64 (m - n)) :=
  ps_int ho hx hy (by rw [intOp, IntWalk.i64_in _ h])
theorem ps_mul {x y : Operand} {t t' : TypeId} {m n : Int} (ho : o.op = .binOp .mul t x y t') (hx : opd E x = some (.int .i64 m)) (hy : opd E y = some (.int .i64 n)) (h : -9223372036854775808 ≤ m * n ∧ m * n ≤ 9223372036854775807) : PStep P E H G o (.int .i64 (m * n)) :=
  ps_int ho hx hy (by rw [intOp, IntWalk.i64_in _ h])
theorem ps_rem {x y : Operand} {t t' : TypeId} {k : IntKind} {m n : Int} (ho : o.op = .binOp .rem t x y t') (hx : opd E x = some (.int k m)) (hy : opd E y = some (.int k n)) (hn : n ≠ 0) (hm : 0 ≤ m) : PStep P E H G o (.int k (m % n)) := fun N base w0 a w he hw => by
  simp [execOp, ho, he.eval hx, he.eval hy, eqGuard, binOp, Op.intDiv, hn, IntWalk.rem_in _ _ hm]
theorem ps_quo {x y : Operand} {t t' : TypeId} {m n : Int} (ho : o.op = .binOp .quo t x y t') (hx : opd E x = some (.int .i64 m)) (hy : opd E y = some (.int .i64 n)) (hn : 0 < n) (hm : 0 ≤ m ∧ m ≤ 9223372036854775807) : PStep P E H G o (.int .i64 (m / n)) := fun N base w0 a w he hw => by
  have h1 : m.tdiv n = m / n := Int.tdiv_eq_ediv_of_nonneg hm.1
  have h2 : 0 ≤ m / n := Int.ediv_nonneg hm.1 (by omega)
  have h3 : m / n ≤ m := Int.ediv_le_self _ hm.1
  have h0 : n ≠ 0 := by omega
  simp [execOp, ho, he.eval hx, he.eval hy, eqGuard, binOp, Op.intDiv, h0, h1, IntWalk.i64_in (m / n) (by omega)]
theorem ps_shr {x y : Operand} {t t' : TypeId} {k k' : IntKind} {m n : Int} (ho : o.op = .binOp .shr t x y t') (hx : opd E x = some (.int k m)) (hy : opd E y = some (.int k' n)) (hn : 0 ≤ n ∧ n < k.bits) : PStep P E H G o (.int k (m.fdiv (2 ^ n.toNat))) := fun N base w0 a w he hw => by
  have h0 : ¬ n < 0 := by omega
  have h1 : min n.toNat k.bits = n.toNat := by omega
  simp [execOp, ho, he.eval hx, he.eval hy, eqGuard, binOp, Op.shift, h0, h1]
theorem ps_shl {x y : Operand} {t t' : TypeId} {k k' : IntKind} {m n : Int} (ho : o.op = .binOp .shl t x y t') (hx : opd E x = some (.int k m)) (hy : opd E y = some (.int k' n)) (hn : 0 ≤ n ∧ n < k.bits) : PStep P E H G o (.int k (k.wrap (m * 2 ^ n.toNat))) := fun N base w0 a w he hw => by
  have h0 : ¬ n < 0 := by omega
  have h1 : min n.toNat k.bits = n.toNat := by omega
  simp [execOp, ho, he.eval hx, he.eval hy, eqGuard, binOp, Op.shift, h0, h1]
theorem ps_conv {x : Operand} {s t : TypeId} {k k' : IntKind} {n : Int} [hk : IK P t k] [hk' : IK P s k'] (ho : o.op = .convert s t x) (hx : opd E x = some (.int k' n)) : PStep P E H G o (.int k (k.wrap n)) := fun N base w0 a w he hw => by
  simp [execOp, ho, he.eval hx, convert, run_underlying hk.h, run_underlying hk'.h, Conv.intToInt]
theorem ps_conv_id {x : Operand} {s t : TypeId} {k k' : IntKind} {n : Int} [hk : IK P t k] [hk' : IK P s k'] (ho : o.op = .convert s t x) (hx : opd E x = some (.int k' n)) (hn : k.wrap n = n) : PStep P E H G o (.int k n) := fun N base w0 a w he hw => by
  rw [ps_conv ho hx N base w0 a w he hw, hn]
theorem run_eqGuard_bool (w : World) (p : BinOp) (t : TypeId) (x y : Operand) (b c : Bool) : (eqGuard p t x y (.bool b) (.bool c)).run P w = .ok () w := by
  unfold eqGuard
  cases p <;> rfl
theorem ps_bool_neq {x y : Operand} {t t' : TypeId} {b c : Bool} (ht : P.underlying t = some .bool) (ho : o.op = .binOp .neq t x y t') (hx : opd E x = some (.bool b)) (hy : opd E y = some (.bool c)) : PStep P E H G o (.bool (!(b == c))) := fun N base w0 a w he hw => by
  unfold execOp
  simp only [ho, he.eval hx, he.eval hy, Sem.run_bind, run_eqGuard_bool, Result.andThen_ok, run_neq_bool w t b c ht, Sem.run_pure]
theorem ps_bool_eql {x y : Operand} {t t' : TypeId} {b c : Bool} (ht : P.underlying t = some .bool) (ho : o.op = .binOp .eql t x y t') (hx : opd E x = some (.bool b)) (hy : opd E y = some (.bool c)) : PStep P E H G o (.bool (b == c)) := fun N base w0 a w he hw => by
  unfold execOp
  simp only [ho, he.eval hx, he.eval hy, Sem.run_bind, run_eqGuard_bool, Result.andThen_ok, run_eql_bool w t b c ht, Sem.run_pure]
/-- Strings. -/
theorem ps_sadd {x y : Operand} {t t' : TypeId} {s r : ByteArray} (ho : o.op = .binOp .add t x y t') (hx : opd E x = some (.string s)) (hy : opd E y = some (.string r)) (h : s.size + r.size ≤ 9223372036854775807) : PStep P E H G o (.string (s ++ r)) := fun N base w0 a w he hw => by
  have : ¬ (9223372036854775807 < (s.size : Int) + (r.size : Int)) := by omega
  simp [execOp, ho, he.eval hx, he.eval hy, eqGuard, binOp, Op.stringOp, IntKind.max, IntKind.bits, IntKind.signed, this]
def strOp : BinOp → ByteArray → ByteArray → Option Value
  | .eql, x, y => some (.bool (sEq x y))
  | .neq, x, y => some (.bool !(sEq x y))
  | .lss, x, y => some (.bool (sLt x y))
  | .leq, x, y => some (.bool !(sLt y x))
  | .gtr, x, y => some (.bool (sLt y x))
  | .geq, x, y => some (.bool !(sLt x y))
  | _, _, _ => none
theorem sLt_or_eq (x y : ByteArray) : (sLt x y || sEq x y) = !sLt y x := by
  rcases sLt_tri x y with h | h | h
  · rw [h, sLt_asymm h]; rfl
  · have := tl_inj h; subst this; simp [sLt_irrefl, sEq]
  · rw [h, sLt_asymm h]
    have : sEq x y = false := by
      cases he : sEq x y with
      | false => rfl
      | true =>
        have : x = y := tl_inj (by simpa [sEq] using he)
        subst this; rw [sLt_irrefl] at h; cases h
    rw [this]; rfl
theorem ps_str {p : BinOp} {x y : Operand} {t t' : TypeId} {s r : ByteArray} {v : Value} (ho : o.op = .binOp p t x y t') (hx : opd E x = some (.string s)) (hy : opd E y = some (.string r)) (hv : strOp p s r = some v) : PStep P E H G o v := fun N base w0 a w he hw => by
  have h1 := sLt_or_eq s r
  have h2 : (!(Op.bytesLess s.toList r.toList || s.toList == r.toList)) = sLt r s := by
    show (!(sLt s r || sEq s r)) = _
    rw [h1]; simp
  have h3 : (Op.bytesLess s.toList r.toList || s.toList == r.toList) = !sLt r s := h1
  cases p <;> simp only [strOp, Option.some.injEq, reduceCtorEq] at hv <;> subst hv <;>
    simp only [execOp, ho, he.eval hx, he.eval hy, eqGuard, binOp, Op.stringOp, Sem.run_bind, Sem.run_pure, Result.andThen_ok, h2, h3] <;> first | rfl | (simp only [Bool.not_not]; rfl)
theorem ps_sidx {x y : Operand} {t : TypeId} {s : ByteArray} {k : IntKind} {i : Int} [ht : SS P t] (ho : o.op = .index t x y) (hx : opd E x = some (.string s)) (hy : opd E y = some (.int k i)) (h : 0 ≤ i ∧ i < s.size) : PStep P E H G o (.int .u8 ((s[i.toNat]!).toNat : Int)) := fun N base w0 a w he hw => by
  have hlt : i.toNat < s.size := by omega
  have h1 : s[i.toNat]? = some s[i.toNat] := getElem?_pos s _ hlt
  have h2 : s[i.toNat]! = s[i.toNat] := getElem!_pos s _ hlt
  simp [execOp, ho, he.eval hx, he.eval hy, Instr.index, asIntOf, run_underlying ht.h, h.1, h1, h2]
theorem ps_slen {x : Operand} {t : TypeId} {s : ByteArray} [ht : SS P t] (ho : o.op = .call { callee := .builtin .len, args := #[x], argTypes := #[t] }) (hx : opd E x = some (.string s)) : PStep P E H G o (.int .i64 (s.size : Int)) := fun N base w0 a w he hw => by
  simp [execOp, ho, resolve, invoke, builtin, Builtin.len_, he.eval hx, run_underlying ht.h, goInt]
theorem ps_len {x : Operand} {t e sz bytes : TypeId} {A : Option Addr} {n c : Nat} [ht : EL P t e sz bytes] (ho : o.op = .call { callee := .builtin .len, args := #[x], argTypes := #[t] }) (hx : opd E x = some (.slice A n c)) : PStep P E H G o (.int .i64 (n : Int)) := fun N base w0 a w he hw => by
  simp [execOp, ho, resolve, invoke, builtin, Builtin.len_, he.eval hx, run_underlying ht.h.1, goInt]
theorem ps_min {x y : Operand} {tys : Array TypeId} {k : IntKind} {m n : Int} (ho : o.op = .call { callee := .builtin .min, args := #[x, y], argTypes := tys }) (hx : opd E x = some (.int k m)) (hy : opd E y = some (.int k n)) : PStep P E H G o (.int k (if n < m then n else m)) := fun N base w0 a w he hw => by
  simp [execOp, ho, resolve, invoke, builtin, Builtin.min_, Builtin.min2, he.eval hx, he.eval hy]
theorem ps_max {x y : Operand} {tys : Array TypeId} {k : IntKind} {m n : Int} (ho : o.op = .call { callee := .builtin .max, args := #[x, y], argTypes := tys }) (hx : opd E x = some (.int k m)) (hy : opd E y = some (.int k n)) : PStep P E H G o (.int k (if m < n then n else m)) := fun N base w0 a w he hw => by
  simp [execOp, ho, resolve, invoke, builtin, Builtin.max_, Builtin.max2, he.eval hx, he.eval hy]
theorem ps_extract {x : Operand} {i : Nat} {vs : List Value} {v : Value} (ho : o.op = .extract x i) (hx : opd E x = some (.tuple vs.toArray)) (hv : vs[i]? = some v) : PStep P E H G o v := fun N base w0 a w he hw => by
  have hv' : vs.toArray[i]? = some v := by simpa using hv
  simp only [execOp, ho, he.eval hx, Instr.extract, hv', Sem.run_bind, Sem.run_pure, Result.andThen_ok]
/-- Addresses and loads. -/
theorem ps_field {x : Operand} {s f off k : Nat} {A : Option Addr} [hf : FO P s f off] (ho : o.op = .fieldAddr s x f) (hx : opd E x = some (pt A k)) (hA : IsSW H G A) : PStep P E H G o (pt A (k + off)) := fun N base w0 a w he hw => by
  obtain ⟨ad, rfl⟩ := hA base w0 w hw
  have h := hf.h
  unfold foB at h
  split at h
  case h_2 => cases h
  rename_i fs hu
  split at h
  case h_2 => cases h
  rename_i fd hfd
  split at h
  case h_2 => cases h
  rename_i i hi
  split at h
  · cases h
  rename_i hsz
  cases h
  simp only [execOp, ho, he.eval hx, pt, Option.map_some, Instr.fieldAt, Sem.run_bind, run_underlying hu, Result.andThen_ok, hfd, Instr.sureAddr, Sem.run_pure, fieldPlace, sizeOf, typeInfo, run_program, hi, if_neg hsz, add_add']
theorem ps_index {x y : Operand} {t e sz bytes : TypeId} {A : Option Addr} {n c : Nat} {k : IntKind} {i : Int} [ht : EL P t e sz bytes] (ho : o.op = .indexAddr t x y) (hx : opd E x = some (.slice A n c)) (hy : opd E y = some (.int k i)) (h : 0 ≤ i ∧ i < n) (hA : IsSW H G A) : PStep P E H G o (pt A (i.toNat * sz)) := fun N base w0 a w he hw => by
  obtain ⟨ad, rfl⟩ := hA base w0 w hw
  obtain ⟨hu, _, inf, z, hi, _, hs, _⟩ := ht.h
  simp [execOp, ho, he.eval hx, he.eval hy, Instr.indexAt, asIntOf, run_underlying hu, h, sizeOf, typeInfo, hi, hs, pt]
theorem ps_load {x : Operand} {t sz k : Nat} {A : Option Addr} {u : Value} [hl : LD P t sz false] (ho : o.op = .load t x) (hx : opd E x = some (pt A k)) (hc : Cell H G A k u) : PStep P E H G o u := fun N base w0 a w he hw => by
  obtain ⟨ad, rfl, hcell⟩ := hc base w0 w hw
  have h := hl.h
  unfold ldB at h
  split at h
  · cases h
  · cases h
  · rename_i d i h1 h2 hu hi
    have : (isAgg t).run P w = .ok false w := by
      simp only [isAgg, Sem.run_bind, run_underlying hu, Result.andThen_ok]
      cases d <;> first | rfl | exact absurd rfl (h1 _) | exact absurd rfl (h2 _ _)
    simp [execOp, ho, he.eval hx, pt, Instr.loadAt, Instr.sureAddr, loadVar, this, load, Sem.run, hcell]
  · cases h
theorem ps_loads {x : Operand} {t sz k : Nat} {A : Option Addr} {us vs : List Value} [hl : LD P t sz true] (ho : o.op = .load t x) (hx : opd E x = some (pt A k)) (hc : Rds H G A us) (hv : (us.drop k).take sz = vs) (hn : vs.length = sz) (hz : 0 < sz) : PStep P E H G o (.agg vs.toArray) := fun N base w0 a w he hw => by
  have hr := hc base w0 w hw
  subst hv
  have hlen : 0 < us.length := by simp at hn; omega
  obtain ⟨ad, rfl, _⟩ := hr.at_ hlen
  have hr' := (hr.drop k).take sz
  have hls : (loadCells (ad.add k) sz).run P w = .ok ((us.drop k).take sz).toArray w := by
    have := run_loadCells_list (P := P) w (ad.add k) ((us.drop k).take sz) (fun j v hj => by
      obtain ⟨_, e, hcc⟩ := hr' j v hj; cases e; exact hcc)
    rwa [hn] at this
  have h := hl.h
  have key : ∀ i, P.info? t = some i → i.size = sz → (sizeOf t).run P w = .ok sz w := fun i hi hs => by
    simp [sizeOf, typeInfo, hi, hs]
  unfold ldB at h
  split at h
  · rename_i fs i hu hi
    injection h with h; injection h with h1 h2
    have : (isAgg t).run P w = .ok true w := by simp [isAgg, run_underlying hu]
    simp [execOp, ho, he.eval hx, pt, Instr.loadAt, Instr.sureAddr, loadVar, this, key i hi h1, hls]
  · rename_i n e i hu hi
    injection h with h; injection h with h1 h2
    have : (isAgg t).run P w = .ok true w := by simp [isAgg, run_underlying hu]
    simp [execOp, ho, he.eval hx, pt, Instr.loadAt, Instr.sureAddr, loadVar, this, key i hi h1, hls]
  · injection h with h; injection h with h1 h2; cases h2
  · cases h
theorem ps_nil {x : Operand} {A : Option Addr} {k : Nat} (ho : o.op = .nilCheck x) (hx : opd E x = some (pt A k)) (hA : IsSW H G A) : PStep P E H G o (pt A k) := fun N base w0 a w he hw => by
  obtain ⟨ad, rfl⟩ := hA base w0 w hw
  simp [execOp, ho, he.eval hx, pt]
theorem ps_nil_func {x : Operand} {f : FuncId} {l1 l2 : Array Value} (ho : o.op = .nilCheck x) (hx : opd E x = some (.func (.func f) l1 l2)) : PStep P E H G o (.func (.func f) l1 l2) := fun N base w0 a w he hw => by
  simp [execOp, ho, he.eval hx]
theorem ps_build {t : TypeId} {parts : Array (Nat × Operand)} {vs : List (Nat × Value)} {cs : List Value} (ho : o.op = .build t parts) (hp : parts.toList.mapM (fun q => (opd E q.2).map fun v => (q.1, v)) = some vs) (hb : P.built t vs = some cs.toArray) : PStep P E H G o (.agg cs.toArray) := fun N base w0 a w he hw => by
  have hm : (parts.map fun q => (q.1, a.eval q.2)).toList = vs := by
    rw [Array.toList_map]
    generalize parts.toList = l at hp
    clear hb ho
    induction l generalizing vs with
    | nil => simp at hp; subst hp; rfl
    | cons q l ih =>
      simp only [List.mapM_cons, Option.bind_eq_bind] at hp
      cases hq : opd E q.2 with
      | none => simp [hq] at hp
      | some v =>
        simp only [hq, Option.map_some, Option.bind_some] at hp
        cases hr : l.mapM (fun q => (opd E q.2).map fun v => (q.1, v)) with
        | none => simp [hr] at hp
        | some r =>
          simp only [hr, Option.bind_some] at hp
          cases hp
          rw [List.map_cons, he.eval hq, ih hr]
  have := run_build (P := P) w t (parts.map fun q => (q.1, a.eval q.2)) cs.toArray (by rw [hm]; exact hb)
  simp only [execOp, ho, Sem.run_bind, this, Result.andThen_ok, Sem.run_pure]
end
end Go.Proofs.Ytojgphgfhapacaa
