/- The engine: arrays, and words as naturals. -/
import Derived.Test.YtojgphgfhapacaaEng10
import Derived.Laws.BitsAllLaws
namespace Go.Proofs.Ytojgphgfhapacaa
open Go.RowKit
set_option linter.unusedVariables false
set_option linter.unusedSimpArgs false
class AR (P : Program) (t : TypeId) (n e sz : outParam Nat) : Prop where h : P.underlying t = some (.array n e) ∧ (P.info? e).map (·.size) = some sz ∧ Nat.blt 1 n = true
section
variable {P : Program} {N base : Nat} {w0 : World} {E : Env} {H : List HObj} {G : List World} {Q : Exit → Act → World → Prop} {o : Oper}
theorem ps_indexA {x y : Operand} {t n e sz i k : Nat} {A : Option Addr} {q : IntKind} [ht : AR P t n e sz] (ho : o.op = .indexAddr t x y) (hx : opd E x = some (pt A k)) (hy : opd E y = some (.int q (i : Int))) (h : i < n) (hA : IsSW H G A) : PStep P E H G o (pt A (k + i * sz)) := fun N base w0 a w he hw => by
  obtain ⟨ad, rfl⟩ := hA base w0 w hw
  obtain ⟨hu, hi, hn⟩ := ht.h
  obtain ⟨inf, hi, hs⟩ := Option.map_eq_some_iff.1 hi
  have hn1 : 1 < n := by simpa [Nat.blt_eq] using hn
  have h0 : (0 : Int) ≤ (i : Int) ∧ (i : Int) < (n : Int) := by omega
  have h2 : ¬ n ≤ 1 := by omega
  simp [execOp, ho, he.eval hx, he.eval hy, Instr.indexAt, Instr.sureAddr, asIntOf, run_underlying hu, h0, h2, h, sizeOf, typeInfo, hi, hs, pt, add_add']
/-- A store into a box that is a list of elements. -/
theorem ms_setb {α : Type} [Dat α] {t e g k sz : Nat} {ag : Bool} {x y : Operand} {u : Value} {L : List α} (i j : Nat) (v : α) [hl : LD P t sz ag] (ho : o.op = .store t x y) (hx : opd E x = some (pt (ga g) k)) (hy : opd E y = some u) (hi : H[i]? = some (.box g e (fl L)))
    (hk : k = j * Dat.sz α) (hsz : Dat.sz α = sz) (hv : u.cells = (Dat.cells v).toArray) (h1 : (Dat.cells v).all (·.oneCell') = true) (hj : j < L.length) :
    MStep P E H G o (fun _ => True) (fun _ => undef) (fun _ => H.set i (.box g e (fl (L.set j v)))) (fun _ => G) := by
  have hle : j * Dat.sz α + Dat.sz α ≤ (fl L).length := by
    rw [fl_len]
    have : (j + 1) * Dat.sz α ≤ L.length * Dat.sz α := Nat.mul_le_mul_right _ hj
    rw [Nat.add_mul] at this; omega
  have := ms_store (P := P) (hl := hl) (G := G) (k := k) i ho hx hy hv (by rw [Dat.len, hsz]) h1 hi (by rw [Nat.ble_eq, Dat.len, hk]; exact hle)
  rwa [hk, putC_fl L j v hj] at this
/-- Words as naturals. -/
theorem wrapU32 (n : Nat) : IntKind.u32.wrap (n : Int) = ((n % 4294967296 : Nat) : Int) := by rw [IntKind.wrap_u32]; omega
theorem wrapU8 (n : Nat) : IntKind.u8.wrap (n : Int) = ((n % 256 : Nat) : Int) := by rw [IntKind.wrap_u8]; omega
theorem ps_addU {x y : Operand} {t t' : TypeId} {m n : Nat} (ho : o.op = .binOp .add t x y t') (hx : opd E x = some (.int .u32 (m : Int))) (hy : opd E y = some (.int .u32 (n : Int))) : PStep P E H G o (.int .u32 (((m + n) % 4294967296 : Nat) : Int)) :=
  ps_int ho hx hy (by rw [intOp, show (m : Int) + n = ((m + n : Nat) : Int) by omega, wrapU32])
def kOk (k : IntKind) (m : Nat) : Prop := k = .u32 ∧ m < 4294967296 ∨ k = .i64 ∧ m < 9223372036854775808 ∨ k = .u8 ∧ m < 256 ∨ k = .u64 ∧ m < 18446744073709551616
theorem kOk.xor {k : IntKind} {m n : Nat} (hm : kOk k m) (hn : kOk k n) : k.wrap ((BitVec.ofInt k.bits (m : Int) ^^^ BitVec.ofInt k.bits (n : Int)).toNat : Int) = ((m ^^^ n : Nat) : Int) := by
  rcases hm with ⟨rfl, hm⟩ | ⟨rfl, hm⟩ | ⟨rfl, hm⟩ | ⟨rfl, hm⟩ <;> rcases hn with ⟨e, hn⟩ | ⟨e, hn⟩ | ⟨e, hn⟩ | ⟨e, hn⟩ <;> first | cases e | skip
  · exact u32_xor_nat m n hm hn
  · have hx : m ^^^ n < 2 ^ 63 := Nat.xor_lt_two_pow (by omega) (by omega)
    show IntKind.i64.wrap ((BitVec.ofInt 64 (m : Int) ^^^ BitVec.ofInt 64 (n : Int)).toNat : Int) = _
    rw [BitVec.toNat_xor, ofInt_u64 m (by omega), ofInt_u64 n (by omega), IntKind.wrap_i64]
    omega
  · exact u8_xor_nat m n hm hn
  · exact u64_xor_nat m n hm hn
theorem kOk.or {k : IntKind} {m n : Nat} (hm : kOk k m) (hn : kOk k n) : k.wrap ((BitVec.ofInt k.bits (m : Int) ||| BitVec.ofInt k.bits (n : Int)).toNat : Int) = ((m ||| n : Nat) : Int) := by
  rcases hm with ⟨rfl, hm⟩ | ⟨rfl, hm⟩ | ⟨rfl, hm⟩ | ⟨rfl, hm⟩ <;> rcases hn with ⟨e, hn⟩ | ⟨e, hn⟩ | ⟨e, hn⟩ | ⟨e, hn⟩ <;> first | cases e | skip
  · exact u32_or_nat m n hm hn
  · have hx : m ||| n < 2 ^ 63 := Nat.or_lt_two_pow (by omega) (by omega)
    show IntKind.i64.wrap ((BitVec.ofInt 64 (m : Int) ||| BitVec.ofInt 64 (n : Int)).toNat : Int) = _
    rw [BitVec.toNat_or, ofInt_u64 m (by omega), ofInt_u64 n (by omega), IntKind.wrap_i64]
    omega
  · exact u8_or_nat m n hm hn
  · exact u64_or_nat m n hm hn
theorem kOk.and {k : IntKind} {m n : Nat} (hm : kOk k m) (hn : kOk k n) : k.wrap ((BitVec.ofInt k.bits (m : Int) &&& BitVec.ofInt k.bits (n : Int)).toNat : Int) = ((m &&& n : Nat) : Int) := by
  rcases hm with ⟨rfl, hm⟩ | ⟨rfl, hm⟩ | ⟨rfl, hm⟩ | ⟨rfl, hm⟩ <;> rcases hn with ⟨e, hn⟩ | ⟨e, hn⟩ | ⟨e, hn⟩ | ⟨e, hn⟩ <;> first | cases e | skip
  · exact u32_and_nat m n hm hn
  · have hx : m &&& n < 2 ^ 63 := Nat.and_lt_two_pow m (by omega)
    show IntKind.i64.wrap ((BitVec.ofInt 64 (m : Int) &&& BitVec.ofInt 64 (n : Int)).toNat : Int) = _
    rw [BitVec.toNat_and, ofInt_u64 m (by omega), ofInt_u64 n (by omega), IntKind.wrap_i64]
    omega
  · exact u8_and_nat m n hm hn
  · exact u64_and_nat m n hm hn
theorem ps_xorN {x y : Operand} {t t' : TypeId} {k : IntKind} {m n : Nat} (ho : o.op = .binOp .xor t x y t') (hx : opd E x = some (.int k (m : Int))) (hy : opd E y = some (.int k (n : Int))) (hm : kOk k m) (hn : kOk k n) : PStep P E H G o (.int k ((m ^^^ n : Nat) : Int)) :=
  ps_int ho hx hy (by rw [intOp, hm.xor hn])
theorem ps_orN {x y : Operand} {t t' : TypeId} {k : IntKind} {m n : Nat} (ho : o.op = .binOp .or t x y t') (hx : opd E x = some (.int k (m : Int))) (hy : opd E y = some (.int k (n : Int))) (hm : kOk k m) (hn : kOk k n) : PStep P E H G o (.int k ((m ||| n : Nat) : Int)) :=
  ps_int ho hx hy (by rw [intOp, hm.or hn])
theorem ps_andN {x y : Operand} {t t' : TypeId} {k : IntKind} {m n : Nat} (ho : o.op = .binOp .and t x y t') (hx : opd E x = some (.int k (m : Int))) (hy : opd E y = some (.int k (n : Int))) (hm : kOk k m) (hn : kOk k n) : PStep P E H G o (.int k ((m &&& n : Nat) : Int)) :=
  ps_int ho hx hy (by rw [intOp, hm.and hn])
theorem ps_shlU {x y : Operand} {t t' : TypeId} {k' : IntKind} {m s : Nat} (ho : o.op = .binOp .shl t x y t') (hx : opd E x = some (.int .u32 (m : Int))) (hy : opd E y = some (.int k' (s : Int))) (hs : s < 32) : PStep P E H G o (.int .u32 ((m * 2 ^ s % 4294967296 : Nat) : Int)) := by
  have := ps_shl (P := P) (H := H) (G := G) ho hx hy ⟨by omega, show (s : Int) < ((32 : Nat) : Int) by omega⟩
  rw [show ((s : Int)).toNat = s by omega, show ((m : Int) * 2 ^ s) = ((m * 2 ^ s : Nat) : Int) by push_cast; rfl, wrapU32] at this
  exact this
theorem ps_shlI {x y : Operand} {t t' : TypeId} {k' : IntKind} {m s : Nat} (ho : o.op = .binOp .shl t x y t') (hx : opd E x = some (.int .i64 (m : Int))) (hy : opd E y = some (.int k' (s : Int))) (hs : s < 64) (hm : m * 2 ^ s < 9223372036854775808) : PStep P E H G o (.int .i64 ((m * 2 ^ s : Nat) : Int)) := by
  have := ps_shl (P := P) (H := H) (G := G) ho hx hy ⟨by omega, show (s : Int) < ((64 : Nat) : Int) by omega⟩
  rw [show ((s : Int)).toNat = s by omega, show ((m : Int) * 2 ^ s) = ((m * 2 ^ s : Nat) : Int) by push_cast; rfl, IntWalk.i64_in _ (by omega)] at this
  exact this
theorem ps_shrN {x y : Operand} {t t' : TypeId} {k k' : IntKind} {m s : Nat} (ho : o.op = .binOp .shr t x y t') (hx : opd E x = some (.int k (m : Int))) (hy : opd E y = some (.int k' (s : Int))) (hs : s < k.bits) : PStep P E H G o (.int k ((m / 2 ^ s : Nat) : Int)) := by
  have := ps_shr (P := P) (H := H) (G := G) ho hx hy ⟨by omega, by omega⟩
  rw [show ((s : Int)).toNat = s by omega, Int.fdiv_eq_ediv_of_nonneg _ (Int.le_of_lt (Int.pow_pos (by decide)))] at this
  have e : ((m / 2 ^ s : Nat) : Int) = (m : Int) / 2 ^ s := by push_cast; rfl
  rw [e]; exact this
theorem ps_conv32 {x : Operand} {s t : TypeId} {k' : IntKind} {n : Nat} [hk : IK P t .u32] [hk' : IK P s k'] (ho : o.op = .convert s t x) (hx : opd E x = some (.int k' (n : Int))) : PStep P E H G o (.int .u32 ((n % 4294967296 : Nat) : Int)) := by
  rw [← wrapU32]; exact ps_conv ho hx
theorem ps_conv8 {x : Operand} {s t : TypeId} {k' : IntKind} {n : Nat} [hk : IK P t .u8] [hk' : IK P s k'] (ho : o.op = .convert s t x) (hx : opd E x = some (.int k' (n : Int))) : PStep P E H G o (.int .u8 ((n % 256 : Nat) : Int)) := by
  rw [← wrapU8]; exact ps_conv ho hx
theorem ofNat_toNat8 (n : Nat) : ((UInt8.ofNat n).toNat : Int) = ((n % 256 : Nat) : Int) := by simp
theorem ps_convB {x : Operand} {s t : TypeId} {k' : IntKind} {n : Nat} [hk : IK P t .u8] [hk' : IK P s k'] (ho : o.op = .convert s t x) (hx : opd E x = some (.int k' (n : Int))) : PStep P E H G o (.int .u8 ((UInt8.ofNat n).toNat : Int)) := by
  rw [ofNat_toNat8]; exact ps_conv8 ho hx
/-- The same of a number that was cut to its lowest byte. -/
theorem ps_convM {x : Operand} {s t : TypeId} {k' : IntKind} {n : Nat} [hk : IK P t .u8] [hk' : IK P s k'] (ho : o.op = .convert s t x) (hx : opd E x = some (.int k' ((n % 256 : Nat) : Int))) : PStep P E H G o (.int .u8 ((UInt8.ofNat n).toNat : Int)) := by
  rw [ofNat_toNat8]
  have := ps_conv8 (P := P) (H := H) (G := G) ho hx
  rwa [Nat.mod_mod] at this
theorem ms_make0 {t e sz bytes : Nat} {x y : Operand} {n : Nat} {k k' : IntKind} {z : List Value} [ht : EL P t e sz bytes] [hz : ZV P e z] (ho : o.op = .makeSlice t x y) (hx : opd E x = some (.int k ((0 : Nat) : Int))) (hy : opd E y = some (.int k' (n : Int))) (hb : bytes * n ≤ 140737488355328) (hn : n ≤ 140737488355328) :
    MStep P E H G o (fun _ => True) (fun y => .slice (ga (y 0).c) 0 n) (fun y => .row e sz (ga (y 0).c) 0 n [] :: H) (fun _ => G) := ms_of (v0 := undef) fun N base w0 a w he hw => by
  obtain ⟨hu, _, i, zz, hi, hzz, hs, hby, hzc⟩ := ht.h
  have hb' : (i.bytes : Int) * (n : Int) ≤ 281474976710656 := by
    have h : ((i.bytes * n : Nat) : Int) ≤ 281474976710656 := by rw [hby]; omega
    rwa [Int.natCast_mul] at h
  have hr := run_make (P := P) w t e i zz hu hi hzz k k' ((0 : Nat) : Int) (n : Int) (by omega) (by omega) hb' (by omega)
  simp only [Int.toNat_natCast, hs] at hr
  refine ⟨mkY none w.heap.size w, w.alloc (.cells (madeCells zz.cells (n * sz)) e), trivial, ?_, ?_⟩
  · simp only [execOp, ho, he.eval hx, he.eval hy, Sem.run_bind, hr, Result.andThen_ok, Sem.run_pure]; rfl
  · refine hw.grow (Hn := [.row e sz (ga w.heap.size) 0 n []]) (Gn := []) ((Below.refl _ _).alloc (Nat.le_refl _) _) (NewOk.one ⟨by simp, .inr ⟨w.heap.size, n, _, rfl, Nat.le_refl _, heap_alloc_new _ _, Nat.zero_le _, by simp only [maxLen]; omega, ?_, by simp⟩⟩)
    rw [size_madeCells]
/-- An element of an array that is a value, of one cell. -/
theorem ps_indexV {α : Type} [Dat α] {x y : Operand} {t n e i : Nat} {L : List α} {u : Value} {q : IntKind} [ht : AR P t n e 1] [hl : LD P e 1 false] (ho : o.op = .index t x y) (hx : opd E x = some (.agg (fl L).toArray)) (hy : opd E y = some (.int q (i : Int))) (h : i < n) (hn : L.length = n) (h1 : Dat.sz α = 1) (hu : Dat.cells (nth L i) = [u]) : PStep P E H G o u := fun N base w0 a w he hw => by
  obtain ⟨hut, hi, _⟩ := ht.h
  obtain ⟨inf, hi, hs⟩ := Option.map_eq_some_iff.1 hi
  have h0 : (0 : Int) ≤ (i : Int) ∧ (i : Int) < (n : Int) := by omega
  have hc : (fl L)[i]? = some u := by
    have := fl_at L i 0 (by omega) (by omega)
    rw [h1, hu] at this
    simpa using this
  have hag : (isAgg e).run P w = .ok false w := by
    have h := hl.h
    unfold ldB at h
    split at h
    · exact absurd (congrArg (fun q => q.map Prod.snd) h) (by simp)
    · exact absurd (congrArg (fun q => q.map Prod.snd) h) (by simp)
    · rename_i d i h1 h2 hu hi
      simp only [isAgg, Sem.run_bind, run_underlying hu, Result.andThen_ok]
      cases d <;> first | rfl | exact absurd rfl (h1 _) | exact absurd rfl (h2 _ _)
    · cases h
  simp [execOp, ho, he.eval hx, he.eval hy, Instr.index, asIntOf, run_underlying hut, h0, h, sizeOf, typeInfo, hi, hs, part, hag, hc]
/-- A value told otherwise. -/
theorem ps_cast {v v' : Value} (h : PStep P E H G o v) (e : v = v') : PStep P E H G o v' := e ▸ h
theorem ps_subU64 {x y : Operand} {t t' : TypeId} {m n : Nat} (ho : o.op = .binOp .sub t x y t') (hx : opd E x = some (.int .u64 (m : Int))) (hy : opd E y = some (.int .u64 (n : Int))) (h : n ≤ m) (hm : m < 18446744073709551616) : PStep P E H G o (.int .u64 ((m - n : Nat) : Int)) :=
  ps_int ho hx hy (by rw [intOp, IntWalk.u64_in _ (by omega), show (m : Int) - n = ((m - n : Nat) : Int) by omega])
theorem ps_shlV {x y : Operand} {t t' : TypeId} {k' : IntKind} {m s : Nat} (ho : o.op = .binOp .shl t x y t') (hx : opd E x = some (.int .u32 (m : Int))) (hy : opd E y = some (.int k' (s : Int))) (hs : s < 32) (hm : m * 2 ^ s < 4294967296) : PStep P E H G o (.int .u32 ((m * 2 ^ s : Nat) : Int)) := by
  have := ps_shlU (P := P) (H := H) (G := G) ho hx hy hs
  rwa [Nat.mod_eq_of_lt hm] at this
/-- A whole array: looked at, stored. -/
theorem ps_loadsB {x : Operand} {t g e sz : Nat} {cs : List Value} (q : Nat) [hl : LD P t sz true] (ho : o.op = .load t x) (hx : opd E x = some (pt (ga g) 0)) (hi : H[q]? = some (.box g e cs)) (hn : cs.length = sz) (hz : Nat.blt 0 sz = true) : PStep P E H G o (.agg cs.toArray) :=
  ps_loads ho hx (rds_box q hi) (by rw [List.drop_zero, List.take_of_length_le (by omega)]) hn (by simpa [Nat.blt_eq] using hz)
theorem ms_storeB {x y : Operand} {t g e sz : Nat} {cs vs : List Value} (i : Nat) [hl : LD P t sz true] (ho : o.op = .store t x y) (hx : opd E x = some (pt (ga g) 0)) (hy : opd E y = some (.agg vs.toArray)) (hi : H[i]? = some (.box g e cs)) (hn : vs.length = sz) (hc : cs.length = sz) (h1 : ∀ u ∈ vs, u.oneCell' = true) :
    MStep P E H G o (fun _ => True) (fun _ => undef) (fun _ => H.set i (.box g e vs)) (fun _ => G) := by
  have := ms_store (P := P) (hl := hl) (G := G) (k := 0) (vs := vs) i ho hx hy rfl hn (by simpa using h1) hi (by rw [Nat.ble_eq]; omega)
  have e : putC cs 0 vs = vs := by unfold putC; rw [List.take_zero, List.nil_append, List.drop_of_length_le (by omega), List.append_nil]
  rwa [e] at this
/-- An element of an array in a box, of one cell. -/
theorem ps_loadA {α : Type} [Dat α] {x : Operand} {t g e i : Nat} {L : List α} {u : Value} (q : Nat) [hl : LD P t 1 false] (ho : o.op = .load t x) (hx : opd E x = some (pt (ga g) (0 + i * 1))) (hi : H[q]? = some (.box g e (fl L))) (hj : i < L.length) (hs : Dat.sz α = 1) (hu : Dat.cells (nth L i) = [u]) : PStep P E H G o u :=
  ps_load ho hx (Rds.cell (rds_box q hi) (by
    have := fl_at L i 0 hj (by omega)
    rw [hs, hu] at this
    rw [Nat.zero_add]; exact this))
theorem ms_setA {α : Type} [Dat α] {t e g j : Nat} {x y : Operand} {u : Value} {L : List α} (i : Nat) (v : α) [hl : LD P t 1 false] (ho : o.op = .store t x y) (hx : opd E x = some (pt (ga g) (0 + j * 1))) (hy : opd E y = some u) (hi : H[i]? = some (.box g e (fl L))) (hs : Dat.sz α = 1) (hu : Dat.cells v = [u]) (hc : u.cells = #[u]) (h1 : u.oneCell' = true) (hj : j < L.length) :
    MStep P E H G o (fun _ => True) (fun _ => undef) (fun _ => H.set i (.box g e (fl (L.set j v)))) (fun _ => G) :=
  ms_setb i j v ho hx hy hi (by rw [hs, Nat.zero_add]) hs (by rw [hc, hu]) (by rw [hu]; simp [h1]) hj
/-- The same of a row. -/
theorem ps_loadR {α : Type} [Dat α] {x : Operand} {t e sz n c i : Nat} {A : Option Addr} {L : List α} {u : Value} (q : Nat) [hl : LD P t 1 false] (ho : o.op = .load t x) (hx : opd E x = some (pt A (i * 1))) (hi : H[q]? = some (.row e sz A n c (fl L))) (hj : i < L.length) (hs : Dat.sz α = 1) (hu : Dat.cells (nth L i) = [u]) : PStep P E H G o u :=
  ps_load ho hx (Rds.cell (rds_row q hi) (by
    have := fl_at L i 0 hj (by omega)
    rw [hs, hu] at this
    exact this))
theorem ms_setR {α : Type} [Dat α] {t e sz n c j : Nat} {A : Option Addr} {x y : Operand} {u : Value} {L : List α} (i : Nat) (v : α) [hl : LD P t 1 false] (ho : o.op = .store t x y) (hx : opd E x = some (pt A (j * 1))) (hy : opd E y = some u) (hi : H[i]? = some (.row e sz A n c (fl L))) (hs : Dat.sz α = 1) (hu : Dat.cells v = [u]) (hc : u.cells = #[u]) (h1 : u.oneCell' = true) (hj : j < L.length) :
    MStep P E H G o (fun _ => True) (fun _ => undef) (fun _ => H.set i (.row e sz A n c (fl (L.set j v)))) (fun _ => G) :=
  ms_setw i j v ho hx hy hi (by rw [hs]) hs rfl (by rw [hc, hu]) (by rw [hu]; simp [h1]) hj
end
theorem WOk.cap {base : Nat} {w0 w : World} {H : List HObj} {G : List World} (hw : WOk base w0 H G w) {e sz n c : Nat} {A : Option Addr} {us : List Value} (i : Nat) (hi : H[i]? = some (.row e sz A n c us)) : n ≤ c := by
  obtain ⟨_, ⟨hv, hn⟩ | ⟨g, cap, cur, hv, _, _, hle, _⟩⟩ := hw.own _ (List.mem_of_getElem? hi)
  · omega
  · injection hv with _ _ h3; omega
theorem set_perm {α : Type} : ∀ (l : List α) (i : Nat) (x : α), i < l.length → (x :: l.eraseIdx i).Perm (l.set i x)
  | [], i, x, h => by simp at h
  | y :: l, 0, x, h => by simp
  | y :: l, i + 1, x, h => by
    have ih := set_perm l i x (by simpa using h)
    simp only [List.eraseIdx_cons_succ, List.set_cons_succ]
    exact (List.Perm.swap y x _).trans (List.Perm.cons y ih)
/-- A call that writes to one own object, which keeps its place. -/
theorem ms_wr {P : Program} {E : Env} {H : List HObj} {G : List World} {o : Oper} {F : Ys → Prop} {v : Ys → Value} {f : FuncId} {cl : Operand} {args : Array Operand} {tys : Array TypeId} {vs : List Value} {x : HObj} {x' : Ys → HObj} (r : Nat) (hi : H[r]? = some x) [hf : FN P f] (ho : o.op = .call { callee := .value cl, args := args, argTypes := tys }) (hcl : opd E cl = some (.func (.func f) #[] #[])) (ha : args.toList.mapM (opd E) = some vs)
    (hc : ∀ base w0 w, WOk base w0 (x :: H.eraseIdx r) G w → Calls P f vs.toArray w (fun e w' => ∃ y, e = .returned (v y) ∧ F y ∧ WOk base w0 (x' y :: H.eraseIdx r) G w')) :
    MStep P E H G o F v (fun y => H.set r (x' y)) (fun _ => G) := fun N base w0 a w Q K he hw hK =>
  ms_callW (H' := fun y => x' y :: H.eraseIdx r) (G' := fun _ => G) (fun _ _ _ h => h.front r hi) ho hcl ha hc N base w0 a w Q K he hw (fun y w' hF hw' => hK y w' hF (hw'.perm (set_perm H r (x' y) (List.getElem?_eq_some_iff.1 hi).1)))
theorem ms_appN {P : Program} {E : Env} {H : List HObj} {G : List World} {o : Oper} {α : Type} [Dat α] [OneC α] {t e sz bytes c c2 n m : Nat} {A A2 : Option Addr} {x y : Operand} (L M : List α) (i : Nat) [ht : EL P t e sz bytes] (ho : o.op = .call { callee := .builtin .append, args := #[x, y], argTypes := #[t, t] })
    (hx : opd E x = some (.slice A n c)) (hy : opd E y = some (.slice A2 m c2)) (hi : H[i]? = some (.row e sz A n c (fl L))) (hr : Rds H G A2 (fl M)) (hs : Dat.sz α = sz) (hn : L.length = n) (hm : M.length = m)
    (hb : (n + m) * bytes ≤ 140737488355328) (hm2 : n + m ≤ 140737488355328) :
    MStep P E H G o (fun _ => True) (fun y => .slice (y 0).A (n + m) (y 0).c) (fun y => H.set i (.row e sz (y 0).A (n + m) (y 0).c (fl (L ++ M)))) (fun _ => G) := by
  subst hn hm
  exact ms_appF i ho hx hy hi hr hs hb hm2
theorem ms_app0n {P : Program} {E : Env} {H : List HObj} {G : List World} {o : Oper} {α : Type} [Dat α] [OneC α] {t e sz bytes c c2 m : Nat} {A A2 : Option Addr} {x y : Operand} (M : List α) (i : Nat) [ht : EL P t e sz bytes] (ho : o.op = .call { callee := .builtin .append, args := #[x, y], argTypes := #[t, t] })
    (hx : opd E x = some (.slice A 0 c)) (hy : opd E y = some (.slice A2 m c2)) (hi : H[i]? = some (.row e sz A 0 c [])) (hr : Rds H G A2 (fl M)) (hs : Dat.sz α = sz) (hm : M.length = m)
    (hb : m * bytes ≤ 140737488355328) (hm2 : m ≤ 140737488355328) :
    MStep P E H G o (fun _ => True) (fun y => .slice (y 0).A m (y 0).c) (fun y => H.set i (.row e sz (y 0).A m (y 0).c (fl M))) (fun _ => G) := by
  subst hm
  exact ms_app0 i ho hx hy hi hr hs hb hm2
end Go.Proofs.Ytojgphgfhapacaa
