/- Texts of this claim, one behind the other: ChaS, Shf, Zer. -/
import Derived.Test.YtfcnimglcialbaaMg5
import Derived.Test.YtfcnimglcialbaaMg4
import Derived.Shelf.Strings.Repeat
import Derived.Test.YtfcnimglcialbaaProg
/- The reference's ChaCha block: one plain function. -/
namespace Go.Proofs.Ytfcnimglcialbaa
open Go.RowKit
set_option maxHeartbeats 4000000
set_option maxRecDepth 20000
set_option linter.unusedVariables false
set_option linter.unusedSimpArgs false
attribute [local irreducible] Calls
@[reducible] def datI : Dat Nat := ⟨1, fun x => [.int .i64 (x : Int)], fun _ => rfl, 0⟩
attribute [local instance] datI
theorem oneI : OneC Nat := ⟨fun x u hu => by cases hu with | head => rfl | tail _ h => cases h⟩
attribute [local instance] oneI
theorem word_c (x : Nat) (hx : x < 9223372036854775808) (w : World) : Calls Try.prog 252 #[.int .i64 (x : Int)] w fun e w' => e = .returned (.int .i64 ((x % 4294967296 : Nat) : Int)) ∧ Below w.heap.size w w' := by
  refine ok_enter 5 Try.func252 rfl rfl rfl ?_
  repeat' (first
    | refine ok_seq ?_
    | refine ok_then ?_
    | refine ok_ret ?_
    | (refine ok_region (i := 0) ?_; refine ok_p rfl rfl rfl (by exact ps_assign rfl rfl) ?_; refine ok_nil ?_; refine ok_env [(0, _)] ⟨rfl, trivial⟩ ?_)
    | (refine ok_region (i := 1) ?_; refine ok_p rfl rfl rfl (by exact ps_move rfl rfl) ?_; refine ok_p rfl rfl rfl (by exact ps_cast (v' := .int .i64 ((x % 4294967296 : Nat) : Int)) (ps_andN (n := 4294967295) rfl rfl rfl (.inr (.inl ⟨rfl, hx⟩)) (.inr (.inl ⟨rfl, by omega⟩))) (by rw [show x &&& 4294967295 = x % 4294967296 from Nat.and_two_pow_sub_one_eq_mod x 32])) ?_; refine ok_p rfl rfl rfl (by exact ps_assign rfl rfl) ?_; refine ok_nil ?_; refine ok_env [(2, _)] ⟨rfl, trivial⟩ ?_))
  exact ok_endL (vs := [_]) rfl ⟨rfl, trivial⟩ (fun w' hw => ⟨rfl, hw.below⟩)
theorem left_c (x n : Nat) (hx : x < 4294967296) (hn : n = 16 ∨ n = 12 ∨ n = 8 ∨ n = 7) (w : World) : Calls Try.prog 277 #[.int .i64 (x : Int), .int .u64 (n : Int)] w fun e w' => e = .returned (.int .i64 (rotN x n : Nat)) ∧ Below w.heap.size w w' := by
  have h1 : x / 2 ^ (32 - n) < 9223372036854775808 := Nat.lt_of_le_of_lt (Nat.div_le_self _ _) (by omega)
  have h2 : x * 2 ^ n < 9223372036854775808 := by rcases hn with rfl | rfl | rfl | rfl <;> omega
  have h3 : x * 2 ^ n ||| x / 2 ^ (32 - n) < 9223372036854775808 := Nat.or_lt_two_pow (n := 63) h2 h1
  have h4 := rotN_mask (n := n) hx
  refine ok_enter 14 Try.func277 rfl rfl rfl ?_
  repeat' (first
    | refine ok_seq ?_
    | refine ok_then ?_
    | refine ok_ret ?_
    | (refine ok_region (i := 0) ?_; refine ok_p rfl rfl rfl (by exact ps_assign rfl rfl) ?_; refine ok_nil ?_; refine ok_env [(0, _), (1, _)] ⟨rfl, rfl, trivial⟩ ?_)
    | (refine ok_region (i := 1) ?_; refine ok_p rfl rfl rfl (by exact ps_move rfl rfl) ?_; refine ok_p rfl rfl rfl (by exact ps_move rfl rfl) ?_; refine ok_p rfl rfl rfl (by exact ps_shlI rfl rfl rfl (by omega) h2) ?_; refine ok_p rfl rfl rfl (by exact ps_move rfl rfl) ?_; refine ok_p rfl rfl rfl (by exact ps_move rfl rfl) ?_; refine ok_p rfl rfl rfl (by exact ps_subU64 (m := 32) rfl rfl rfl (by omega) (by omega)) ?_; refine ok_p rfl rfl rfl (by exact ps_shrN rfl rfl rfl (show 32 - n < 64 by omega)) ?_; refine ok_p rfl rfl rfl (by exact ps_orN rfl rfl rfl (.inr (.inl ⟨rfl, h2⟩)) (.inr (.inl ⟨rfl, h1⟩))) ?_; refine ok_m rfl rfl rfl (by exact ms_s1 rfl rfl (fun _ _ w hw => word_c _ h3 w)) ?_; rintro y13 hy13; refine ok_p rfl rfl rfl (by exact ps_assign rfl rfl) ?_; refine ok_nil ?_; refine ok_env [(4, _)] ⟨rfl, trivial⟩ ?_))
  refine ok_endL (vs := [_]) rfl ⟨rfl, trivial⟩ (fun w' hw => ⟨?_, hw.below⟩)
  rw [h4]; rfl
theorem little2_c (s : ByteArray) (a : Nat) (h : a + 4 ≤ s.size) (hs : s.size ≤ 1048576) (w : World) : Calls Try.prog 250 #[.string s, .int .i64 (a : Int)] w fun e w' => e = .returned (.int .i64 (le4 s a : Nat)) ∧ Below w.heap.size w w' := by
  have h0 := bt_lt s a
  have h1 := bt_lt s (a + 1)
  have h2 := bt_lt s (a + 2)
  have h3 := bt_lt s (a + 3)
  have l1 := or_lt32 (a := bt s a) (b := bt s (a + 1) * 2 ^ 8) (by omega) (by omega)
  have l2 := or_lt32 (b := bt s (a + 2) * 2 ^ 16) l1 (by omega)
  refine ok_enter 30 Try.func250 rfl rfl rfl ?_
  repeat' (first
    | refine ok_seq ?_
    | refine ok_then ?_
    | refine ok_ret ?_
    | (refine ok_region (i := 0) ?_; refine ok_p rfl rfl rfl (by exact ps_assign rfl rfl) ?_; refine ok_nil ?_; refine ok_env [(0, _), (1, _)] ⟨rfl, rfl, trivial⟩ ?_)
    | (refine ok_draw (id := 1) 26 rfl (by kernel_rfl) (by kernel_rfl) rfl (by repeat (first | exact pq_body | refine pq_then ?_ | refine pq_in ?_)) [0, 1, 2, 3, 4, 5, 6, 7, 8, 9, 10, 11, 12, 13, 14, 15, 16, 17, 18, 19, 20, 21, 22, 23] (by decide) rfl ?_; refine okT_take (i := 0) rfl (by kernel_rfl) rfl rfl rfl (by exact ps_move rfl rfl) ?_; refine okT_take (i := 1) rfl (by kernel_rfl) rfl rfl rfl (by exact ps_move rfl rfl) ?_; refine okT_take (i := 2) rfl (by kernel_rfl) rfl rfl rfl (by exact ps_sidxE a rfl rfl rfl rfl (by omega)) ?_; refine okT_take (i := 3) rfl (by kernel_rfl) rfl rfl rfl (by exact ps_conv_id rfl rfl (IntWalk.i64_in _ (by omega))) ?_; refine okT_take (i := 4) rfl (by kernel_rfl) rfl rfl rfl (by exact ps_move rfl rfl) ?_; refine okT_take (i := 5) rfl (by kernel_rfl) rfl rfl rfl (by exact ps_move rfl rfl) ?_; refine okT_take (i := 6) rfl (by kernel_rfl) rfl rfl rfl (by exact ps_add rfl rfl rfl (by omega)) ?_; refine okT_take (i := 7) rfl (by kernel_rfl) rfl rfl rfl (by exact ps_sidxE (a + 1) rfl rfl rfl (by omega) (by omega)) ?_; refine okT_take (i := 8) rfl (by kernel_rfl) rfl rfl rfl (by exact ps_conv_id rfl rfl (IntWalk.i64_in _ (by omega))) ?_; refine okT_take (i := 9) rfl (by kernel_rfl) rfl rfl rfl (by exact ps_shlI (s := 8) rfl rfl rfl (by omega) (by omega)) ?_; refine okT_take (i := 10) rfl (by kernel_rfl) rfl rfl rfl (by exact ps_orN rfl rfl rfl (.inr (.inl ⟨rfl, by omega⟩)) (.inr (.inl ⟨rfl, by omega⟩))) ?_; refine okT_take (i := 11) rfl (by kernel_rfl) rfl rfl rfl (by exact ps_move rfl rfl) ?_; refine okT_take (i := 12) rfl (by kernel_rfl) rfl rfl rfl (by exact ps_move rfl rfl) ?_; refine okT_take (i := 13) rfl (by kernel_rfl) rfl rfl rfl (by exact ps_add rfl rfl rfl (by omega)) ?_; refine okT_take (i := 14) rfl (by kernel_rfl) rfl rfl rfl (by exact ps_sidxE (a + 2) rfl rfl rfl (by omega) (by omega)) ?_; refine okT_take (i := 15) rfl (by kernel_rfl) rfl rfl rfl (by exact ps_conv_id rfl rfl (IntWalk.i64_in _ (by omega))) ?_; refine okT_take (i := 16) rfl (by kernel_rfl) rfl rfl rfl (by exact ps_shlI (s := 16) rfl rfl rfl (by omega) (by omega)) ?_; refine okT_take (i := 17) rfl (by kernel_rfl) rfl rfl rfl (by exact ps_orN rfl rfl rfl (.inr (.inl ⟨rfl, by omega⟩)) (.inr (.inl ⟨rfl, by omega⟩))) ?_; refine okT_take (i := 18) rfl (by kernel_rfl) rfl rfl rfl (by exact ps_move rfl rfl) ?_; refine okT_take (i := 19) rfl (by kernel_rfl) rfl rfl rfl (by exact ps_move rfl rfl) ?_; refine okT_take (i := 20) rfl (by kernel_rfl) rfl rfl rfl (by exact ps_add rfl rfl rfl (by omega)) ?_; refine okT_take (i := 21) rfl (by kernel_rfl) rfl rfl rfl (by exact ps_sidxE (a + 3) rfl rfl rfl (by omega) (by omega)) ?_; refine okT_take (i := 22) rfl (by kernel_rfl) rfl rfl rfl (by exact ps_conv_id rfl rfl (IntWalk.i64_in _ (by omega))) ?_; refine okT_take (i := 23) rfl (by kernel_rfl) rfl rfl rfl (by exact ps_shlI (s := 24) rfl rfl rfl (by omega) (by omega)) ?_; refine okT_take (i := 24) rfl (by kernel_rfl) rfl rfl rfl (by exact ps_orN rfl rfl rfl (.inr (.inl ⟨rfl, by omega⟩)) (.inr (.inl ⟨rfl, by omega⟩))) ?_; refine okT_take (i := 25) rfl (by kernel_rfl) rfl rfl rfl (by exact ps_assign rfl rfl) ?_; refine okT_done (by kernel_rfl) ?_; refine ok_nil ?_; refine ok_env [(4, _)] ⟨rfl, trivial⟩ ?_))
  exact ok_endL (vs := [_]) rfl ⟨rfl, trivial⟩ (fun w' hw => ⟨rfl, hw.below⟩)
section
variable {P : Program} {E : Env} {H : List HObj} {G : List World} {o : Oper}
theorem ps_addI {x y : Operand} {t t' : TypeId} {m n : Nat} (ho : o.op = .binOp .add t x y t') (hx : opd E x = some (.int .i64 (m : Int))) (hy : opd E y = some (.int .i64 (n : Int))) (hm : m < 4294967296) (hn : n < 4294967296) : PStep P E H G o (.int .i64 ((m + n : Nat) : Int)) :=
  ps_cast (ps_add ho hx hy (by omega)) (by push_cast; rfl)
theorem ps_ldI {x : Operand} {t e sz n c i : Nat} {A : Option Addr} {L : List Nat} (q : Nat) [hl : LD P t 1 false] (ho : o.op = .load t x) (hx : opd E x = some (pt A (i * 1))) (hi : H[q]? = some (.row e sz A n c (fl L))) (hL : W16 L) (hj : i < 16) : PStep P E H G o (.int .i64 (wd L i : Int)) :=
  ps_loadR q ho hx hi (by rw [hL.len]; exact hj) rfl rfl
theorem ms_adI {x y : Operand} {t e sz n c a b : Nat} {A : Option Addr} {L : List Nat} (q : Nat) [hl : LD P t 1 false] (ho : o.op = .store t x y) (hx : opd E x = some (pt A (a * 1))) (hy : opd E y = some (.int .i64 (((wd L a + wd L b) % 4294967296 : Nat) : Int))) (hi : H[q]? = some (.row e sz A n c (fl L))) (hL : W16 L) (hj : a < 16) :
    MStep P E H G o (fun _ => True) (fun _ => undef) (fun _ => H.set q (.row e sz A n c (fl (sA L a b)))) (fun _ => G) :=
  ms_setR q ((wd L a + wd L b) % 4294967296) ho hx hy hi rfl rfl rfl rfl (by rw [hL.len]; exact hj)
theorem ms_roI {x y : Operand} {t e sz nn c d a n : Nat} {A : Option Addr} {L : List Nat} (q : Nat) [hl : LD P t 1 false] (ho : o.op = .store t x y) (hx : opd E x = some (pt A (d * 1))) (hy : opd E y = some (.int .i64 ((rotN (wd L d ^^^ wd L a) n : Nat) : Int))) (hi : H[q]? = some (.row e sz A nn c (fl L))) (hL : W16 L) (hj : d < 16) :
    MStep P E H G o (fun _ => True) (fun _ => undef) (fun _ => H.set q (.row e sz A nn c (fl (sR L d a n)))) (fun _ => G) :=
  ms_setR q (rotN (wd L d ^^^ wd L a) n) ho hx hy hi rfl rfl rfl rfl (by rw [hL.len]; exact hj)
end
theorem W16.lt63 {l : List Nat} (h : W16 l) (i : Nat) : wd l i < 9223372036854775808 := Nat.lt_trans (h.lt i) (by decide)
theorem quarter2_c (A : Option Addr) (cc a b c d : Nat) (l : List Nat) (hl : W16 l) (ha : a < 16) (hb : b < 16) (hc : c < 16) (hd : d < 16) {base : Nat} {w0 w : World} {H : List HObj} {G : List World} (hw : WOk base w0 (.row 3 1 A 16 cc (fl l) :: H) G w) :
    Calls Try.prog 251 #[.slice A 16 cc, .int .i64 (a : Int), .int .i64 (b : Int), .int .i64 (c : Int), .int .i64 (d : Int)] w fun e w' => ∃ y : Ys, e = .returned (.slice A 16 cc) ∧ True ∧ WOk base w0 (.row 3 1 A 16 cc (fl (qr l a b c d)) :: H) G w' := by
  have l1 := hl.sA a b
  have l2 := l1.sR d a 16
  have l3 := l2.sA c d
  have l4 := l3.sR b c 12
  have l5 := l4.sA a b
  have l6 := l5.sR d a 8
  have l7 := l6.sA c d
  refine ok_enterW 116 Try.func251 rfl rfl rfl hw ?_
  repeat' (first
    | refine ok_seq ?_
    | refine ok_then ?_
    | refine ok_ret ?_
    | (refine ok_region (i := 0) ?_; refine ok_p rfl rfl rfl (by exact ps_assign rfl rfl) ?_; refine ok_nil ?_; refine ok_env [(0, _), (1, _), (2, _), (3, _), (4, _)] ⟨rfl, rfl, rfl, rfl, rfl, trivial⟩ ?_)
    | (refine ok_draw (id := 1) 13 rfl (by kernel_rfl) (by kernel_rfl) rfl (by repeat (first | exact pq_body | refine pq_then ?_ | refine pq_in ?_)) [0] (by decide) rfl ?_; refine okT_take (i := 0) rfl (by kernel_rfl) rfl rfl rfl (by exact ps_move rfl rfl) ?_; refine okT_take (i := 1) rfl (by kernel_rfl) rfl rfl rfl (by exact ps_move rfl rfl) ?_; refine okT_take (i := 2) rfl (by kernel_rfl) rfl rfl rfl (by exact ps_move rfl rfl) ?_; refine okT_take (i := 3) rfl (by kernel_rfl) rfl rfl rfl (by exact ps_move rfl rfl) ?_; refine okT_take (i := 4) rfl (by kernel_rfl) rfl rfl rfl (by exact ps_indexN rfl rfl rfl (by omega) (isw_row 0 rfl (by omega))) ?_; refine okT_take (i := 5) rfl (by kernel_rfl) rfl rfl rfl (by exact ps_ldI 0 rfl rfl rfl (by assumption) (by omega)) ?_; refine okT_take (i := 6) rfl (by kernel_rfl) rfl rfl rfl (by exact ps_move rfl rfl) ?_; refine okT_take (i := 7) rfl (by kernel_rfl) rfl rfl rfl (by exact ps_move rfl rfl) ?_; refine okT_take (i := 8) rfl (by kernel_rfl) rfl rfl rfl (by exact ps_indexN rfl rfl rfl (by omega) (isw_row 0 rfl (by omega))) ?_; refine okT_take (i := 9) rfl (by kernel_rfl) rfl rfl rfl (by exact ps_ldI 0 rfl rfl rfl (by assumption) (by omega)) ?_; refine okT_take (i := 10) rfl (by kernel_rfl) rfl rfl rfl (by exact ps_addI rfl rfl rfl (W16.lt (by assumption) _) (W16.lt (by assumption) _)) ?_; refine okT_one (i := 11) rfl rfl (by kernel_rfl) rfl rfl rfl (by exact ms_s1 rfl rfl (fun _ _ w hw => word_c _ (add_lt63 (W16.lt (by assumption) _) (W16.lt (by assumption) _)) w)) (fun y w _ h => by exact h.sel [0] (by decide) rfl (fun _ h => h)) ?_; rintro y22 hy22; refine okT_take (i := 12) rfl (by kernel_rfl) rfl rfl rfl (by exact ps_indexN rfl rfl rfl (by omega) (isw_row 0 rfl (by omega))) ?_; refine okT_done (by kernel_rfl) ?_; refine ok_m_ rfl rfl (by exact ms_adI 0 rfl rfl rfl rfl (by assumption) (by omega)) ?_; rintro y_ hy_; refine ok_nil ?_; refine ok_env [(0, _), (1, _), (2, _), (3, _), (4, _)] ⟨rfl, rfl, rfl, rfl, rfl, trivial⟩ ?_)
    | (refine ok_draw (id := 2) 13 rfl (by kernel_rfl) (by kernel_rfl) rfl (by repeat (first | exact pq_body | refine pq_then ?_ | refine pq_in ?_)) [0] (by decide) rfl ?_; refine okT_take (i := 0) rfl (by kernel_rfl) rfl rfl rfl (by exact ps_move rfl rfl) ?_; refine okT_take (i := 1) rfl (by kernel_rfl) rfl rfl rfl (by exact ps_move rfl rfl) ?_; refine okT_take (i := 2) rfl (by kernel_rfl) rfl rfl rfl (by exact ps_move rfl rfl) ?_; refine okT_take (i := 3) rfl (by kernel_rfl) rfl rfl rfl (by exact ps_move rfl rfl) ?_; refine okT_take (i := 4) rfl (by kernel_rfl) rfl rfl rfl (by exact ps_indexN rfl rfl rfl (by omega) (isw_row 0 rfl (by omega))) ?_; refine okT_take (i := 5) rfl (by kernel_rfl) rfl rfl rfl (by exact ps_ldI 0 rfl rfl rfl (by assumption) (by omega)) ?_; refine okT_take (i := 6) rfl (by kernel_rfl) rfl rfl rfl (by exact ps_move rfl rfl) ?_; refine okT_take (i := 7) rfl (by kernel_rfl) rfl rfl rfl (by exact ps_move rfl rfl) ?_; refine okT_take (i := 8) rfl (by kernel_rfl) rfl rfl rfl (by exact ps_indexN rfl rfl rfl (by omega) (isw_row 0 rfl (by omega))) ?_; refine okT_take (i := 9) rfl (by kernel_rfl) rfl rfl rfl (by exact ps_ldI 0 rfl rfl rfl (by assumption) (by omega)) ?_; refine okT_take (i := 10) rfl (by kernel_rfl) rfl rfl rfl (by exact ps_xorN rfl rfl rfl (.inr (.inl ⟨rfl, W16.lt63 (by assumption) _⟩)) (.inr (.inl ⟨rfl, W16.lt63 (by assumption) _⟩))) ?_; refine okT_one (i := 11) rfl rfl (by kernel_rfl) rfl rfl rfl (by exact ms_s2 rfl rfl rfl (fun _ _ w hw => left_c _ 16 (W16.xor (by assumption) _ _) (by omega) w)) (fun y w _ h => by exact h.sel [0] (by decide) rfl (fun _ h => h)) ?_; rintro y35 hy35; refine okT_take (i := 12) rfl (by kernel_rfl) rfl rfl rfl (by exact ps_indexN rfl rfl rfl (by omega) (isw_row 0 rfl (by omega))) ?_; refine okT_done (by kernel_rfl) ?_; refine ok_m_ rfl rfl (by exact ms_roI 0 rfl rfl rfl rfl (by assumption) (by omega)) ?_; rintro y_ hy_; refine ok_nil ?_; refine ok_env [(0, _), (1, _), (2, _), (3, _), (4, _)] ⟨rfl, rfl, rfl, rfl, rfl, trivial⟩ ?_)
    | (refine ok_draw (id := 3) 13 rfl (by kernel_rfl) (by kernel_rfl) rfl (by repeat (first | exact pq_body | refine pq_then ?_ | refine pq_in ?_)) [0] (by decide) rfl ?_; refine okT_take (i := 0) rfl (by kernel_rfl) rfl rfl rfl (by exact ps_move rfl rfl) ?_; refine okT_take (i := 1) rfl (by kernel_rfl) rfl rfl rfl (by exact ps_move rfl rfl) ?_; refine okT_take (i := 2) rfl (by kernel_rfl) rfl rfl rfl (by exact ps_move rfl rfl) ?_; refine okT_take (i := 3) rfl (by kernel_rfl) rfl rfl rfl (by exact ps_move rfl rfl) ?_; refine okT_take (i := 4) rfl (by kernel_rfl) rfl rfl rfl (by exact ps_indexN rfl rfl rfl (by omega) (isw_row 0 rfl (by omega))) ?_; refine okT_take (i := 5) rfl (by kernel_rfl) rfl rfl rfl (by exact ps_ldI 0 rfl rfl rfl (by assumption) (by omega)) ?_; refine okT_take (i := 6) rfl (by kernel_rfl) rfl rfl rfl (by exact ps_move rfl rfl) ?_; refine okT_take (i := 7) rfl (by kernel_rfl) rfl rfl rfl (by exact ps_move rfl rfl) ?_; refine okT_take (i := 8) rfl (by kernel_rfl) rfl rfl rfl (by exact ps_indexN rfl rfl rfl (by omega) (isw_row 0 rfl (by omega))) ?_; refine okT_take (i := 9) rfl (by kernel_rfl) rfl rfl rfl (by exact ps_ldI 0 rfl rfl rfl (by assumption) (by omega)) ?_; refine okT_take (i := 10) rfl (by kernel_rfl) rfl rfl rfl (by exact ps_addI rfl rfl rfl (W16.lt (by assumption) _) (W16.lt (by assumption) _)) ?_; refine okT_one (i := 11) rfl rfl (by kernel_rfl) rfl rfl rfl (by exact ms_s1 rfl rfl (fun _ _ w hw => word_c _ (add_lt63 (W16.lt (by assumption) _) (W16.lt (by assumption) _)) w)) (fun y w _ h => by exact h.sel [0] (by decide) rfl (fun _ h => h)) ?_; rintro y48 hy48; refine okT_take (i := 12) rfl (by kernel_rfl) rfl rfl rfl (by exact ps_indexN rfl rfl rfl (by omega) (isw_row 0 rfl (by omega))) ?_; refine okT_done (by kernel_rfl) ?_; refine ok_m_ rfl rfl (by exact ms_adI 0 rfl rfl rfl rfl (by assumption) (by omega)) ?_; rintro y_ hy_; refine ok_nil ?_; refine ok_env [(0, _), (1, _), (2, _), (3, _), (4, _)] ⟨rfl, rfl, rfl, rfl, rfl, trivial⟩ ?_)
    | (refine ok_draw (id := 4) 13 rfl (by kernel_rfl) (by kernel_rfl) rfl (by repeat (first | exact pq_body | refine pq_then ?_ | refine pq_in ?_)) [0] (by decide) rfl ?_; refine okT_take (i := 0) rfl (by kernel_rfl) rfl rfl rfl (by exact ps_move rfl rfl) ?_; refine okT_take (i := 1) rfl (by kernel_rfl) rfl rfl rfl (by exact ps_move rfl rfl) ?_; refine okT_take (i := 2) rfl (by kernel_rfl) rfl rfl rfl (by exact ps_move rfl rfl) ?_; refine okT_take (i := 3) rfl (by kernel_rfl) rfl rfl rfl (by exact ps_move rfl rfl) ?_; refine okT_take (i := 4) rfl (by kernel_rfl) rfl rfl rfl (by exact ps_indexN rfl rfl rfl (by omega) (isw_row 0 rfl (by omega))) ?_; refine okT_take (i := 5) rfl (by kernel_rfl) rfl rfl rfl (by exact ps_ldI 0 rfl rfl rfl (by assumption) (by omega)) ?_; refine okT_take (i := 6) rfl (by kernel_rfl) rfl rfl rfl (by exact ps_move rfl rfl) ?_; refine okT_take (i := 7) rfl (by kernel_rfl) rfl rfl rfl (by exact ps_move rfl rfl) ?_; refine okT_take (i := 8) rfl (by kernel_rfl) rfl rfl rfl (by exact ps_indexN rfl rfl rfl (by omega) (isw_row 0 rfl (by omega))) ?_; refine okT_take (i := 9) rfl (by kernel_rfl) rfl rfl rfl (by exact ps_ldI 0 rfl rfl rfl (by assumption) (by omega)) ?_; refine okT_take (i := 10) rfl (by kernel_rfl) rfl rfl rfl (by exact ps_xorN rfl rfl rfl (.inr (.inl ⟨rfl, W16.lt63 (by assumption) _⟩)) (.inr (.inl ⟨rfl, W16.lt63 (by assumption) _⟩))) ?_; refine okT_one (i := 11) rfl rfl (by kernel_rfl) rfl rfl rfl (by exact ms_s2 rfl rfl rfl (fun _ _ w hw => left_c _ 12 (W16.xor (by assumption) _ _) (by omega) w)) (fun y w _ h => by exact h.sel [0] (by decide) rfl (fun _ h => h)) ?_; rintro y61 hy61; refine okT_take (i := 12) rfl (by kernel_rfl) rfl rfl rfl (by exact ps_indexN rfl rfl rfl (by omega) (isw_row 0 rfl (by omega))) ?_; refine okT_done (by kernel_rfl) ?_; refine ok_m_ rfl rfl (by exact ms_roI 0 rfl rfl rfl rfl (by assumption) (by omega)) ?_; rintro y_ hy_; refine ok_nil ?_; refine ok_env [(0, _), (1, _), (2, _), (3, _), (4, _)] ⟨rfl, rfl, rfl, rfl, rfl, trivial⟩ ?_)
    | (refine ok_draw (id := 5) 13 rfl (by kernel_rfl) (by kernel_rfl) rfl (by repeat (first | exact pq_body | refine pq_then ?_ | refine pq_in ?_)) [0] (by decide) rfl ?_; refine okT_take (i := 0) rfl (by kernel_rfl) rfl rfl rfl (by exact ps_move rfl rfl) ?_; refine okT_take (i := 1) rfl (by kernel_rfl) rfl rfl rfl (by exact ps_move rfl rfl) ?_; refine okT_take (i := 2) rfl (by kernel_rfl) rfl rfl rfl (by exact ps_move rfl rfl) ?_; refine okT_take (i := 3) rfl (by kernel_rfl) rfl rfl rfl (by exact ps_move rfl rfl) ?_; refine okT_take (i := 4) rfl (by kernel_rfl) rfl rfl rfl (by exact ps_indexN rfl rfl rfl (by omega) (isw_row 0 rfl (by omega))) ?_; refine okT_take (i := 5) rfl (by kernel_rfl) rfl rfl rfl (by exact ps_ldI 0 rfl rfl rfl (by assumption) (by omega)) ?_; refine okT_take (i := 6) rfl (by kernel_rfl) rfl rfl rfl (by exact ps_move rfl rfl) ?_; refine okT_take (i := 7) rfl (by kernel_rfl) rfl rfl rfl (by exact ps_move rfl rfl) ?_; refine okT_take (i := 8) rfl (by kernel_rfl) rfl rfl rfl (by exact ps_indexN rfl rfl rfl (by omega) (isw_row 0 rfl (by omega))) ?_; refine okT_take (i := 9) rfl (by kernel_rfl) rfl rfl rfl (by exact ps_ldI 0 rfl rfl rfl (by assumption) (by omega)) ?_; refine okT_take (i := 10) rfl (by kernel_rfl) rfl rfl rfl (by exact ps_addI rfl rfl rfl (W16.lt (by assumption) _) (W16.lt (by assumption) _)) ?_; refine okT_one (i := 11) rfl rfl (by kernel_rfl) rfl rfl rfl (by exact ms_s1 rfl rfl (fun _ _ w hw => word_c _ (add_lt63 (W16.lt (by assumption) _) (W16.lt (by assumption) _)) w)) (fun y w _ h => by exact h.sel [0] (by decide) rfl (fun _ h => h)) ?_; rintro y74 hy74; refine okT_take (i := 12) rfl (by kernel_rfl) rfl rfl rfl (by exact ps_indexN rfl rfl rfl (by omega) (isw_row 0 rfl (by omega))) ?_; refine okT_done (by kernel_rfl) ?_; refine ok_m_ rfl rfl (by exact ms_adI 0 rfl rfl rfl rfl (by assumption) (by omega)) ?_; rintro y_ hy_; refine ok_nil ?_; refine ok_env [(0, _), (1, _), (2, _), (3, _), (4, _)] ⟨rfl, rfl, rfl, rfl, rfl, trivial⟩ ?_)
    | (refine ok_draw (id := 6) 13 rfl (by kernel_rfl) (by kernel_rfl) rfl (by repeat (first | exact pq_body | refine pq_then ?_ | refine pq_in ?_)) [0] (by decide) rfl ?_; refine okT_take (i := 0) rfl (by kernel_rfl) rfl rfl rfl (by exact ps_move rfl rfl) ?_; refine okT_take (i := 1) rfl (by kernel_rfl) rfl rfl rfl (by exact ps_move rfl rfl) ?_; refine okT_take (i := 2) rfl (by kernel_rfl) rfl rfl rfl (by exact ps_move rfl rfl) ?_; refine okT_take (i := 3) rfl (by kernel_rfl) rfl rfl rfl (by exact ps_move rfl rfl) ?_; refine okT_take (i := 4) rfl (by kernel_rfl) rfl rfl rfl (by exact ps_indexN rfl rfl rfl (by omega) (isw_row 0 rfl (by omega))) ?_; refine okT_take (i := 5) rfl (by kernel_rfl) rfl rfl rfl (by exact ps_ldI 0 rfl rfl rfl (by assumption) (by omega)) ?_; refine okT_take (i := 6) rfl (by kernel_rfl) rfl rfl rfl (by exact ps_move rfl rfl) ?_; refine okT_take (i := 7) rfl (by kernel_rfl) rfl rfl rfl (by exact ps_move rfl rfl) ?_; refine okT_take (i := 8) rfl (by kernel_rfl) rfl rfl rfl (by exact ps_indexN rfl rfl rfl (by omega) (isw_row 0 rfl (by omega))) ?_; refine okT_take (i := 9) rfl (by kernel_rfl) rfl rfl rfl (by exact ps_ldI 0 rfl rfl rfl (by assumption) (by omega)) ?_; refine okT_take (i := 10) rfl (by kernel_rfl) rfl rfl rfl (by exact ps_xorN rfl rfl rfl (.inr (.inl ⟨rfl, W16.lt63 (by assumption) _⟩)) (.inr (.inl ⟨rfl, W16.lt63 (by assumption) _⟩))) ?_; refine okT_one (i := 11) rfl rfl (by kernel_rfl) rfl rfl rfl (by exact ms_s2 rfl rfl rfl (fun _ _ w hw => left_c _ 8 (W16.xor (by assumption) _ _) (by omega) w)) (fun y w _ h => by exact h.sel [0] (by decide) rfl (fun _ h => h)) ?_; rintro y87 hy87; refine okT_take (i := 12) rfl (by kernel_rfl) rfl rfl rfl (by exact ps_indexN rfl rfl rfl (by omega) (isw_row 0 rfl (by omega))) ?_; refine okT_done (by kernel_rfl) ?_; refine ok_m_ rfl rfl (by exact ms_roI 0 rfl rfl rfl rfl (by assumption) (by omega)) ?_; rintro y_ hy_; refine ok_nil ?_; refine ok_env [(0, _), (2, _), (3, _), (4, _)] ⟨rfl, rfl, rfl, rfl, trivial⟩ ?_)
    | (refine ok_draw (id := 7) 13 rfl (by kernel_rfl) (by kernel_rfl) rfl (by repeat (first | exact pq_body | refine pq_then ?_ | refine pq_in ?_)) [0] (by decide) rfl ?_; refine okT_take (i := 0) rfl (by kernel_rfl) rfl rfl rfl (by exact ps_move rfl rfl) ?_; refine okT_take (i := 1) rfl (by kernel_rfl) rfl rfl rfl (by exact ps_move rfl rfl) ?_; refine okT_take (i := 2) rfl (by kernel_rfl) rfl rfl rfl (by exact ps_move rfl rfl) ?_; refine okT_take (i := 3) rfl (by kernel_rfl) rfl rfl rfl (by exact ps_move rfl rfl) ?_; refine okT_take (i := 4) rfl (by kernel_rfl) rfl rfl rfl (by exact ps_indexN rfl rfl rfl (by omega) (isw_row 0 rfl (by omega))) ?_; refine okT_take (i := 5) rfl (by kernel_rfl) rfl rfl rfl (by exact ps_ldI 0 rfl rfl rfl (by assumption) (by omega)) ?_; refine okT_take (i := 6) rfl (by kernel_rfl) rfl rfl rfl (by exact ps_move rfl rfl) ?_; refine okT_take (i := 7) rfl (by kernel_rfl) rfl rfl rfl (by exact ps_move rfl rfl) ?_; refine okT_take (i := 8) rfl (by kernel_rfl) rfl rfl rfl (by exact ps_indexN rfl rfl rfl (by omega) (isw_row 0 rfl (by omega))) ?_; refine okT_take (i := 9) rfl (by kernel_rfl) rfl rfl rfl (by exact ps_ldI 0 rfl rfl rfl (by assumption) (by omega)) ?_; refine okT_take (i := 10) rfl (by kernel_rfl) rfl rfl rfl (by exact ps_addI rfl rfl rfl (W16.lt (by assumption) _) (W16.lt (by assumption) _)) ?_; refine okT_one (i := 11) rfl rfl (by kernel_rfl) rfl rfl rfl (by exact ms_s1 rfl rfl (fun _ _ w hw => word_c _ (add_lt63 (W16.lt (by assumption) _) (W16.lt (by assumption) _)) w)) (fun y w _ h => by exact h.sel [0] (by decide) rfl (fun _ h => h)) ?_; rintro y100 hy100; refine okT_take (i := 12) rfl (by kernel_rfl) rfl rfl rfl (by exact ps_indexN rfl rfl rfl (by omega) (isw_row 0 rfl (by omega))) ?_; refine okT_done (by kernel_rfl) ?_; refine ok_m_ rfl rfl (by exact ms_adI 0 rfl rfl rfl rfl (by assumption) (by omega)) ?_; rintro y_ hy_; refine ok_nil ?_; refine ok_env [(0, _), (2, _), (3, _)] ⟨rfl, rfl, rfl, trivial⟩ ?_)
    | (refine ok_draw (id := 8) 13 rfl (by kernel_rfl) (by kernel_rfl) rfl (by repeat (first | exact pq_body | refine pq_then ?_ | refine pq_in ?_)) [0] (by decide) rfl ?_; refine okT_take (i := 0) rfl (by kernel_rfl) rfl rfl rfl (by exact ps_move rfl rfl) ?_; refine okT_take (i := 1) rfl (by kernel_rfl) rfl rfl rfl (by exact ps_move rfl rfl) ?_; refine okT_take (i := 2) rfl (by kernel_rfl) rfl rfl rfl (by exact ps_move rfl rfl) ?_; refine okT_take (i := 3) rfl (by kernel_rfl) rfl rfl rfl (by exact ps_move rfl rfl) ?_; refine okT_take (i := 4) rfl (by kernel_rfl) rfl rfl rfl (by exact ps_indexN rfl rfl rfl (by omega) (isw_row 0 rfl (by omega))) ?_; refine okT_take (i := 5) rfl (by kernel_rfl) rfl rfl rfl (by exact ps_ldI 0 rfl rfl rfl (by assumption) (by omega)) ?_; refine okT_take (i := 6) rfl (by kernel_rfl) rfl rfl rfl (by exact ps_move rfl rfl) ?_; refine okT_take (i := 7) rfl (by kernel_rfl) rfl rfl rfl (by exact ps_move rfl rfl) ?_; refine okT_take (i := 8) rfl (by kernel_rfl) rfl rfl rfl (by exact ps_indexN rfl rfl rfl (by omega) (isw_row 0 rfl (by omega))) ?_; refine okT_take (i := 9) rfl (by kernel_rfl) rfl rfl rfl (by exact ps_ldI 0 rfl rfl rfl (by assumption) (by omega)) ?_; refine okT_take (i := 10) rfl (by kernel_rfl) rfl rfl rfl (by exact ps_xorN rfl rfl rfl (.inr (.inl ⟨rfl, W16.lt63 (by assumption) _⟩)) (.inr (.inl ⟨rfl, W16.lt63 (by assumption) _⟩))) ?_; refine okT_one (i := 11) rfl rfl (by kernel_rfl) rfl rfl rfl (by exact ms_s2 rfl rfl rfl (fun _ _ w hw => left_c _ 7 (W16.xor (by assumption) _ _) (by omega) w)) (fun y w _ h => by exact h.sel [0] (by decide) rfl (fun _ h => h)) ?_; rintro y113 hy113; refine okT_take (i := 12) rfl (by kernel_rfl) rfl rfl rfl (by exact ps_indexN rfl rfl rfl (by omega) (isw_row 0 rfl (by omega))) ?_; refine okT_done (by kernel_rfl) ?_; refine ok_m_ rfl rfl (by exact ms_roI 0 rfl rfl rfl rfl (by assumption) (by omega)) ?_; rintro y_ hy_; refine ok_nil ?_; refine ok_env [(0, _)] ⟨rfl, trivial⟩ ?_)
    | (refine ok_region (i := 9) ?_; refine ok_p rfl rfl rfl (by exact ps_move rfl rfl) ?_; refine ok_p rfl rfl rfl (by exact ps_assign rfl rfl) ?_; refine ok_nil ?_; refine ok_env [(10, _)] ⟨rfl, trivial⟩ ?_))
  exact ok_endL (vs := [_]) rfl ⟨rfl, trivial⟩ (fun w' hw => ⟨mkY none 0 w', rfl, trivial, hw⟩)
structure ChaK where
  i : Nat
  A : Option Addr
  c : Nat
  hi : i ≤ 8
structure ChaO2 where
  i : Nat
  A : Option Addr
  c : Nat
  hi : i ≤ 16
theorem fl_appN (a b : List Nat) : fl (a ++ b) = fl a ++ fl b := by simp [fl]
theorem s_block_c (key nonce : ByteArray) (m : Nat) (hk : key.size = 32) (hn : nonce.size = 12) (hcm : m < 4294967296) (w : World) :
    Calls Try.prog 218 #[.string key, .int .i64 (m : Int), .string nonce] w fun e w' => e = .returned (.string ⟨(blockL key m nonce).toArray⟩) ∧ Below w.heap.size w w' := by
  refine ok_enter 93 Try.func218 rfl rfl rfl ?_
  repeat' (first
    | refine ok_seq ?_
    | refine ok_then ?_
    | refine ok_block ?_
    | (refine ok_region (i := 0) ?_; refine ok_p rfl rfl rfl (by exact ps_assign rfl rfl) ?_; refine ok_nil ?_; refine ok_env [(0, _), (1, _), (2, _)] ⟨rfl, rfl, rfl, trivial⟩ ?_)
    | (refine ok_region (i := 1) ?_; refine ok_m rfl rfl rfl (by exact ms_lit rfl (parts_cons rfl (parts_cons rfl (parts_cons rfl (parts_cons rfl parts_nil)))) rfl rfl rfl) ?_; rintro y14 hy14; refine ok_p rfl rfl rfl (by exact ps_assign rfl rfl) ?_; refine ok_nil ?_; refine ok_env [(0, _), (1, _), (2, _), (7, _)] ⟨rfl, rfl, rfl, rfl, trivial⟩ ?_)
    | (refine ok_region (i := 2) ?_; refine ok_p rfl rfl rfl (by exact ps_assign rfl rfl) ?_; refine ok_nil ?_; refine ok_env [(0, _), (1, _), (2, _), (7, _), (8, _)] ⟨rfl, rfl, rfl, rfl, rfl, trivial⟩ ?_))
  refine ok_loop (ι := ChaK) (fun q => 8 - q.i) (fun q => ([(0, .string key), (1, .int .i64 (m : Int)), (2, .string nonce), (7, .slice q.A (4 + q.i) q.c), (8, .int .i64 q.i)], [.row 3 1 q.A (4 + q.i) q.c (fl (hdrW ++ keyTo key q.i))], _)) ⟨0, none, 0, by omega⟩ (fun a w he hw => ⟨⟨0, _, _, by omega⟩, he.sub ⟨rfl, rfl, rfl, rfl, rfl, trivial⟩, hw⟩) ?_
  rintro ⟨i, A', c', hi⟩
  simp only at hi ⊢
  repeat' (first
    | refine ok_seq ?_
    | refine ok_then ?_
    | refine ok_block ?_
    | refine ok_in_normal ?_
    | (refine ok_cond rfl (fun hc => ?_) (fun hc => ?_) <;> (have hd := hc; (try simp only [decide_eq_true_eq, decide_eq_false_iff_not, Bool.or_eq_true, Bool.or_eq_false_iff, Bool.and_eq_true, Bool.and_eq_false_iff, Bool.not_eq_true', Bool.not_eq_false', bne_iff_ne, beq_iff_eq, bne_eq_false_iff_eq, beq_eq_false_iff_ne, ne_eq, Bool.not_true, Bool.not_false, Bool.false_eq_true, Bool.true_eq_false, inB_true, inB_false] at hd)))
    | refine ok_exit ?_
    | refine ok_skip ?_
    | (refine ok_region (i := 3) ?_; refine ok_p rfl rfl rfl (by exact ps_move rfl rfl) ?_; refine ok_p rfl rfl rfl (by exact ps_int rfl rfl rfl rfl) ?_; refine ok_nil ?_; refine ok_env [(0, _), (1, _), (2, _), (7, _), (8, _), (16, _)] ⟨rfl, rfl, rfl, rfl, rfl, rfl, trivial⟩ ?_)
    | (refine ok_region (i := 4) ?_; refine ok_p rfl rfl rfl (by exact ps_move rfl rfl) ?_; refine ok_p rfl rfl rfl (by exact ps_add rfl rfl rfl (by omega)) ?_; refine ok_p rfl rfl rfl (by exact ps_assign rfl rfl) ?_; refine ok_nil ?_; refine ok_env [(0, _), (1, _), (2, _), (7, _), (8, _)] ⟨rfl, rfl, rfl, rfl, rfl, trivial⟩ ?_)
    | (refine ok_region (i := 5) ?_; refine ok_p rfl rfl rfl (by exact ps_move rfl rfl) ?_; refine ok_p rfl rfl rfl (by exact ps_move rfl rfl) ?_; refine ok_p rfl rfl rfl (by exact ps_move rfl rfl) ?_; refine ok_p rfl rfl rfl (by exact ps_cast (v' := .int .i64 ((4 * i : Nat) : Int)) (ps_mul rfl rfl rfl (by omega)) (by push_cast; rfl)) ?_; refine ok_m rfl rfl rfl (by exact ms_s2 rfl rfl rfl (fun _ _ w hw => little2_c key (4 * i) (by omega) (by omega) w)) ?_; rintro y23 hy23; refine ok_m rfl rfl rfl (by exact ms_lit rfl (parts_cons rfl parts_nil) rfl rfl rfl) ?_; rintro y24 hy24; refine ok_m rfl rfl rfl (by exact ms_appN (hdrW ++ keyTo key i) [le4 key (4 * i)] 1 rfl rfl rfl rfl (rds_row 0 rfl) rfl (by simp [hdrW, keyTo_len]; omega) rfl (by omega) (by omega)) ?_; rintro y25 hy25; refine ok_p rfl rfl rfl (by exact ps_assign rfl rfl) ?_; refine ok_nil ?_; refine ok_env [(0, _), (1, _), (2, _), (7, _), (8, _)] ⟨rfl, rfl, rfl, rfl, rfl, trivial⟩ ?_)
    | (refine ok_region (i := 6) ?_; refine ok_p rfl rfl rfl (by exact ps_move rfl rfl) ?_; refine ok_p rfl rfl rfl (by exact ps_move rfl rfl) ?_; refine ok_p rfl rfl rfl (by exact ps_move rfl rfl) ?_; refine ok_m rfl rfl rfl (by exact ms_s2 rfl rfl rfl (fun _ _ w hw => little2_c nonce 0 (by omega) (by omega) w)) ?_; rintro y29 hy29; refine ok_p rfl rfl rfl (by exact ps_move rfl rfl) ?_; refine ok_m rfl rfl rfl (by exact ms_s2 rfl rfl rfl (fun _ _ w hw => little2_c nonce 4 (by omega) (by omega) w)) ?_; rintro y31 hy31; refine ok_p rfl rfl rfl (by exact ps_move rfl rfl) ?_; refine ok_m rfl rfl rfl (by exact ms_s2 rfl rfl rfl (fun _ _ w hw => little2_c nonce 8 (by omega) (by omega) w)) ?_; rintro y33 hy33; refine ok_m rfl rfl rfl (by exact ms_lit rfl (parts_cons rfl (parts_cons rfl (parts_cons rfl (parts_cons rfl parts_nil)))) rfl rfl rfl) ?_; rintro y34 hy34; refine ok_m rfl rfl rfl (by exact ms_appN (hdrW ++ keyTo key i) [m, le4 nonce 0, le4 nonce 4, le4 nonce 8] 1 rfl rfl rfl rfl (rds_row 0 rfl) rfl (by simp [hdrW, keyTo_len]; omega) rfl (by omega) (by omega)) ?_; rintro y35 hy35; refine ok_p rfl rfl rfl (by exact ps_assign rfl rfl) ?_; refine ok_nil ?_; refine ok_env [(7, _)] ⟨rfl, trivial⟩ ?_)
    | (refine ok_region (i := 7) ?_; refine ok_m rfl rfl rfl (by exact ms_lit rfl parts_nil rfl rfl rfl) ?_; rintro y36 hy36; refine ok_p rfl rfl rfl (by exact ps_move rfl rfl) ?_; refine ok_m rfl rfl rfl (by exact ms_app0n (hdrW ++ keyTo key i ++ [m, le4 nonce 0, le4 nonce 4, le4 nonce 8]) 0 rfl rfl rfl rfl (rds_row 2 rfl) rfl (by simp [hdrW, keyTo_len]; omega) (by omega) (by omega)) ?_; rintro y38 hy38; refine ok_p rfl rfl rfl (by exact ps_assign rfl rfl) ?_; refine ok_nil ?_; refine ok_env [(7, _), (9, _)] ⟨rfl, rfl, trivial⟩ ?_)
    | (refine ok_region (i := 8) ?_; refine ok_p rfl rfl rfl (by exact ps_assign rfl rfl) ?_; refine ok_nil ?_; refine ok_env [(7, _), (9, _), (10, _)] ⟨rfl, rfl, rfl, trivial⟩ ?_))
  · refine fun a w' he hw => ⟨⟨i + 1, (y25 0).A, (y25 0).c, by omega⟩, by simp only; omega, he.sub ⟨rfl, rfl, rfl, rfl, rfl, trivial⟩, ?_⟩
    simp only [keyTo, ← List.append_assoc]
    exact hw.tl
  obtain rfl : i = 8 := by omega
  have hF : W16 (firstW key m nonce) := firstW_ok key hcm nonce
  have eF : hdrW ++ keyTo key 8 ++ [m, le4 nonce 0, le4 nonce 4, le4 nonce 8] = firstW key m nonce := by unfold firstW hdrW; simp [keyTo]
  rw [eF]
  unfold blockL
  generalize firstW key m nonce = F at hF eF ⊢
  refine ok_loop (ι := { k : Nat // k ≤ 10 }) (fun q => 10 - q.1) (fun q => ([(7, .slice (y35 0).A 16 (y35 0).c), (9, .slice (y38 0).A 16 (y38 0).c), (10, .int .i64 q.1)], [.row 3 1 (y38 0).A 16 (y38 0).c (fl (rnd F q.1)), _, .row 3 1 (y35 0).A 16 (y35 0).c (fl F)], _)) ⟨0, by omega⟩ (fun a w he hw => ⟨⟨0, by omega⟩, he.sub ⟨rfl, rfl, rfl, trivial⟩, hw⟩) ?_
  rintro ⟨k, hk10⟩
  simp only at hk10 ⊢
  have q0 := hF.rnd k
  have q1 := q0.qr 0 4 8 12
  have q2 := q1.qr 1 5 9 13
  have q3 := q2.qr 2 6 10 14
  have q4 := q3.qr 3 7 11 15
  have q5 := q4.qr 0 5 10 15
  have q6 := q5.qr 1 6 11 12
  have q7 := q6.qr 2 7 8 13
  repeat' (first
    | refine ok_seq ?_
    | refine ok_then ?_
    | refine ok_block ?_
    | refine ok_in_normal ?_
    | (refine ok_cond rfl (fun hc => ?_) (fun hc => ?_) <;> (have hd := hc; (try simp only [decide_eq_true_eq, decide_eq_false_iff_not, Bool.or_eq_true, Bool.or_eq_false_iff, Bool.and_eq_true, Bool.and_eq_false_iff, Bool.not_eq_true', Bool.not_eq_false', bne_iff_ne, beq_iff_eq, bne_eq_false_iff_eq, beq_eq_false_iff_ne, ne_eq, Bool.not_true, Bool.not_false, Bool.false_eq_true, Bool.true_eq_false, inB_true, inB_false] at hd)))
    | refine ok_exit ?_
    | refine ok_skip ?_
    | (refine ok_region (i := 9) ?_; refine ok_p rfl rfl rfl (by exact ps_move rfl rfl) ?_; refine ok_p rfl rfl rfl (by exact ps_int rfl rfl rfl rfl) ?_; refine ok_nil ?_; refine ok_env [(7, _), (9, _), (10, _), (40, _)] ⟨rfl, rfl, rfl, rfl, trivial⟩ ?_)
    | (refine ok_region (i := 10) ?_; refine ok_p rfl rfl rfl (by exact ps_move rfl rfl) ?_; refine ok_p rfl rfl rfl (by exact ps_add rfl rfl rfl (by omega)) ?_; refine ok_p rfl rfl rfl (by exact ps_assign rfl rfl) ?_; refine ok_nil ?_; refine ok_env [(7, _), (9, _), (10, _)] ⟨rfl, rfl, rfl, trivial⟩ ?_)
    | (refine ok_region (i := 11) ?_; refine ok_p rfl rfl rfl (by exact ps_move rfl rfl) ?_; refine ok_m rfl rfl rfl (by exact ms_wr 0 rfl rfl rfl rfl (fun _ _ w hw => quarter2_c _ _ 0 4 8 12 _ q0 (by omega) (by omega) (by omega) (by omega) hw)) ?_; rintro y44 hy44; refine ok_p rfl rfl rfl (by exact ps_assign rfl rfl) ?_; refine ok_nil ?_; refine ok_env [(7, _), (9, _), (10, _)] ⟨rfl, rfl, rfl, trivial⟩ ?_)
    | (refine ok_region (i := 12) ?_; refine ok_p rfl rfl rfl (by exact ps_move rfl rfl) ?_; refine ok_m rfl rfl rfl (by exact ms_wr 0 rfl rfl rfl rfl (fun _ _ w hw => quarter2_c _ _ 1 5 9 13 _ q1 (by omega) (by omega) (by omega) (by omega) hw)) ?_; rintro y46 hy46; refine ok_p rfl rfl rfl (by exact ps_assign rfl rfl) ?_; refine ok_nil ?_; refine ok_env [(7, _), (9, _), (10, _)] ⟨rfl, rfl, rfl, trivial⟩ ?_)
    | (refine ok_region (i := 13) ?_; refine ok_p rfl rfl rfl (by exact ps_move rfl rfl) ?_; refine ok_m rfl rfl rfl (by exact ms_wr 0 rfl rfl rfl rfl (fun _ _ w hw => quarter2_c _ _ 2 6 10 14 _ q2 (by omega) (by omega) (by omega) (by omega) hw)) ?_; rintro y48 hy48; refine ok_p rfl rfl rfl (by exact ps_assign rfl rfl) ?_; refine ok_nil ?_; refine ok_env [(7, _), (9, _), (10, _)] ⟨rfl, rfl, rfl, trivial⟩ ?_)
    | (refine ok_region (i := 14) ?_; refine ok_p rfl rfl rfl (by exact ps_move rfl rfl) ?_; refine ok_m rfl rfl rfl (by exact ms_wr 0 rfl rfl rfl rfl (fun _ _ w hw => quarter2_c _ _ 3 7 11 15 _ q3 (by omega) (by omega) (by omega) (by omega) hw)) ?_; rintro y50 hy50; refine ok_p rfl rfl rfl (by exact ps_assign rfl rfl) ?_; refine ok_nil ?_; refine ok_env [(7, _), (9, _), (10, _)] ⟨rfl, rfl, rfl, trivial⟩ ?_)
    | (refine ok_region (i := 15) ?_; refine ok_p rfl rfl rfl (by exact ps_move rfl rfl) ?_; refine ok_m rfl rfl rfl (by exact ms_wr 0 rfl rfl rfl rfl (fun _ _ w hw => quarter2_c _ _ 0 5 10 15 _ q4 (by omega) (by omega) (by omega) (by omega) hw)) ?_; rintro y52 hy52; refine ok_p rfl rfl rfl (by exact ps_assign rfl rfl) ?_; refine ok_nil ?_; refine ok_env [(7, _), (9, _), (10, _)] ⟨rfl, rfl, rfl, trivial⟩ ?_)
    | (refine ok_region (i := 16) ?_; refine ok_p rfl rfl rfl (by exact ps_move rfl rfl) ?_; refine ok_m rfl rfl rfl (by exact ms_wr 0 rfl rfl rfl rfl (fun _ _ w hw => quarter2_c _ _ 1 6 11 12 _ q5 (by omega) (by omega) (by omega) (by omega) hw)) ?_; rintro y54 hy54; refine ok_p rfl rfl rfl (by exact ps_assign rfl rfl) ?_; refine ok_nil ?_; refine ok_env [(7, _), (9, _), (10, _)] ⟨rfl, rfl, rfl, trivial⟩ ?_)
    | (refine ok_region (i := 17) ?_; refine ok_p rfl rfl rfl (by exact ps_move rfl rfl) ?_; refine ok_m rfl rfl rfl (by exact ms_wr 0 rfl rfl rfl rfl (fun _ _ w hw => quarter2_c _ _ 2 7 8 13 _ q6 (by omega) (by omega) (by omega) (by omega) hw)) ?_; rintro y56 hy56; refine ok_p rfl rfl rfl (by exact ps_assign rfl rfl) ?_; refine ok_nil ?_; refine ok_env [(7, _), (9, _), (10, _)] ⟨rfl, rfl, rfl, trivial⟩ ?_)
    | (refine ok_region (i := 18) ?_; refine ok_p rfl rfl rfl (by exact ps_move rfl rfl) ?_; refine ok_m rfl rfl rfl (by exact ms_wr 0 rfl rfl rfl rfl (fun _ _ w hw => quarter2_c _ _ 3 4 9 14 _ q7 (by omega) (by omega) (by omega) (by omega) hw)) ?_; rintro y58 hy58; refine ok_p rfl rfl rfl (by exact ps_assign rfl rfl) ?_; refine ok_nil ?_; refine ok_env [(7, _), (9, _), (10, _)] ⟨rfl, rfl, rfl, trivial⟩ ?_)
    | (refine ok_region (i := 19) ?_; refine ok_m rfl rfl rfl (by exact ms_lit rfl parts_nil rfl rfl rfl) ?_; rintro y59 hy59; refine ok_p rfl rfl rfl (by exact ps_assign rfl rfl) ?_; refine ok_nil ?_; refine ok_env [(7, _), (9, _), (11, _)] ⟨rfl, rfl, rfl, trivial⟩ ?_)
    | (refine ok_region (i := 20) ?_; refine ok_p rfl rfl rfl (by exact ps_assign rfl rfl) ?_; refine ok_nil ?_; refine ok_env [(7, _), (9, _), (11, _), (12, _)] ⟨rfl, rfl, rfl, rfl, trivial⟩ ?_))
  · exact fun a w' he hw => ⟨⟨k + 1, by omega⟩, by simp only; omega, he.sub ⟨rfl, rfl, rfl, trivial⟩, hw⟩
  obtain rfl : k = 10 := by omega
  clear q1 q2 q3 q4 q5 q6 q7
  generalize rnd F 10 = L at q0 ⊢
  refine ok_loop (ι := ChaO2) (fun q => 16 - q.i) (fun q => ([(7, .slice (y35 0).A 16 (y35 0).c), (9, .slice (y38 0).A 16 (y38 0).c), (11, .slice q.A (4 * q.i) q.c), (12, .int .i64 q.i)], [.row 5 1 q.A (4 * q.i) q.c (byteVs (outTo L F q.i)), .row 3 1 (y38 0).A 16 (y38 0).c (fl L), .row 3 1 (y35 0).A 16 (y35 0).c (fl F)], _)) ⟨0, none, 0, by omega⟩ (fun a w he hw => ⟨⟨0, _, _, by omega⟩, he.sub ⟨rfl, rfl, rfl, rfl, trivial⟩, hw.sel [0, 1, 3] (by decide) rfl (fun _ h => h)⟩) ?_
  rintro ⟨i, A', c', hi⟩
  simp only at hi ⊢
  have hol := outTo_len L F i
  have hx : wsum L F i < 4294967296 := Nat.mod_lt _ (by decide)
  repeat' (first
    | refine ok_seq ?_
    | refine ok_then ?_
    | refine ok_block ?_
    | refine ok_in_normal ?_
    | (refine ok_cond rfl (fun hc => ?_) (fun hc => ?_) <;> (have hd := hc; (try simp only [decide_eq_true_eq, decide_eq_false_iff_not, Bool.or_eq_true, Bool.or_eq_false_iff, Bool.and_eq_true, Bool.and_eq_false_iff, Bool.not_eq_true', Bool.not_eq_false', bne_iff_ne, beq_iff_eq, bne_eq_false_iff_eq, beq_eq_false_iff_ne, ne_eq, Bool.not_true, Bool.not_false, Bool.false_eq_true, Bool.true_eq_false, inB_true, inB_false] at hd)))
    | refine ok_ret ?_
    | refine ok_exit ?_
    | refine ok_skip ?_
    | (refine ok_region (i := 21) ?_; refine ok_p rfl rfl rfl (by exact ps_move rfl rfl) ?_; refine ok_p rfl rfl rfl (by exact ps_int rfl rfl rfl rfl) ?_; refine ok_nil ?_; refine ok_env [(7, _), (9, _), (11, _), (12, _), (61, _)] ⟨rfl, rfl, rfl, rfl, rfl, trivial⟩ ?_)
    | (refine ok_region (i := 22) ?_; refine ok_p rfl rfl rfl (by exact ps_move rfl rfl) ?_; refine ok_p rfl rfl rfl (by exact ps_add rfl rfl rfl (by omega)) ?_; refine ok_p rfl rfl rfl (by exact ps_assign rfl rfl) ?_; refine ok_nil ?_; refine ok_env [(7, _), (9, _), (11, _), (12, _)] ⟨rfl, rfl, rfl, rfl, trivial⟩ ?_)
    | (refine ok_draw (id := 23) 11 rfl (by kernel_rfl) (by kernel_rfl) rfl (by repeat (first | exact pq_body | refine pq_then ?_ | refine pq_in ?_)) [0, 1, 2, 3, 4, 5, 6, 7, 8, 9, 10, 11, 12, 13, 14, 15, 16, 17, 18, 19, 20, 21, 22, 23] (by decide) rfl ?_; refine okT_take (i := 0) rfl (by kernel_rfl) rfl rfl rfl (by exact ps_move rfl rfl) ?_; refine okT_take (i := 1) rfl (by kernel_rfl) rfl rfl rfl (by exact ps_move rfl rfl) ?_; refine okT_take (i := 2) rfl (by kernel_rfl) rfl rfl rfl (by exact ps_indexN rfl rfl rfl (by omega) (isw_row 1 rfl (by omega))) ?_; refine okT_take (i := 3) rfl (by kernel_rfl) rfl rfl rfl (by exact ps_ldI 1 rfl rfl rfl q0 (by omega)) ?_; refine okT_take (i := 4) rfl (by kernel_rfl) rfl rfl rfl (by exact ps_move rfl rfl) ?_; refine okT_take (i := 5) rfl (by kernel_rfl) rfl rfl rfl (by exact ps_move rfl rfl) ?_; refine okT_take (i := 6) rfl (by kernel_rfl) rfl rfl rfl (by exact ps_indexN rfl rfl rfl (by omega) (isw_row 2 rfl (by omega))) ?_; refine okT_take (i := 7) rfl (by kernel_rfl) rfl rfl rfl (by exact ps_ldI 2 rfl rfl rfl hF (by omega)) ?_; refine okT_take (i := 8) rfl (by kernel_rfl) rfl rfl rfl (by exact ps_addI rfl rfl rfl (q0.lt _) (hF.lt _)) ?_; refine okT_one (i := 9) rfl rfl (by kernel_rfl) rfl rfl rfl (by exact ms_s1 rfl rfl (fun _ _ w hw => word_c _ (add_lt63 (q0.lt _) (hF.lt _)) w)) (fun y w _ h => by exact h) ?_; rintro y73 hy73; refine okT_take (i := 10) rfl (by kernel_rfl) rfl rfl rfl (by exact ps_assign rfl rfl) ?_; refine okT_done (by kernel_rfl) ?_; refine ok_nil ?_; refine ok_env [(7, _), (9, _), (11, _), (12, _), (13, _)] ⟨rfl, rfl, rfl, rfl, rfl, trivial⟩ ?_)
    | (refine ok_region (i := 24) ?_; refine ok_p rfl rfl rfl (by exact ps_move rfl rfl) ?_; refine ok_p rfl rfl rfl (by exact ps_move rfl rfl) ?_; refine ok_p rfl rfl rfl (by exact ps_cast (v' := .int .i64 ((wsum L F i % 256 : Nat) : Int)) (ps_andN (n := 255) rfl rfl rfl (.inr (.inl ⟨rfl, by unfold wsum at hx; omega⟩)) (.inr (.inl ⟨rfl, by omega⟩))) (by rw [nat_mask8]; rfl)) ?_; refine ok_p rfl rfl rfl (by exact ps_convM rfl rfl) ?_; refine ok_p rfl rfl rfl (by exact ps_move rfl rfl) ?_; refine ok_p rfl rfl rfl (by exact ps_shrN (s := 8) rfl rfl rfl (by decide)) ?_; refine ok_p rfl rfl rfl (by exact ps_cast (v' := .int .i64 ((wsum L F i / 2 ^ 8 % 256 : Nat) : Int)) (ps_andN (n := 255) rfl rfl rfl (.inr (.inl ⟨rfl, by unfold wsum at hx; omega⟩)) (.inr (.inl ⟨rfl, by omega⟩))) (by rw [nat_mask8]; rfl)) ?_; refine ok_p rfl rfl rfl (by exact ps_convM rfl rfl) ?_; refine ok_p rfl rfl rfl (by exact ps_move rfl rfl) ?_; refine ok_p rfl rfl rfl (by exact ps_shrN (s := 16) rfl rfl rfl (by decide)) ?_; refine ok_p rfl rfl rfl (by exact ps_cast (v' := .int .i64 ((wsum L F i / 2 ^ 16 % 256 : Nat) : Int)) (ps_andN (n := 255) rfl rfl rfl (.inr (.inl ⟨rfl, by unfold wsum at hx; omega⟩)) (.inr (.inl ⟨rfl, by omega⟩))) (by rw [nat_mask8]; rfl)) ?_; refine ok_p rfl rfl rfl (by exact ps_convM rfl rfl) ?_; refine ok_p rfl rfl rfl (by exact ps_move rfl rfl) ?_; refine ok_p rfl rfl rfl (by exact ps_shrN (s := 24) rfl rfl rfl (by decide)) ?_; refine ok_p rfl rfl rfl (by exact ps_convB rfl rfl) ?_; refine ok_m rfl rfl rfl (by exact ms_lit rfl (parts_cons rfl (parts_cons rfl (parts_cons rfl (parts_cons rfl parts_nil)))) rfl rfl rfl) ?_; rintro y89 hy89; refine ok_m rfl rfl rfl (by exact ms_app (m := 4) 1 rfl rfl rfl rfl (rds_row 0 rfl) rfl (one4 rfl rfl rfl rfl) (by omega) (by omega)) ?_; rintro y90 hy90; refine ok_p rfl rfl rfl (by exact ps_assign rfl rfl) ?_; refine ok_nil ?_; refine ok_env [(7, _), (9, _), (11, _), (12, _)] ⟨rfl, rfl, rfl, rfl, trivial⟩ ?_)
    | (refine ok_region (i := 25) ?_; refine ok_p rfl rfl rfl (by exact ps_move rfl rfl) ?_; refine ok_p rfl rfl rfl (by exact ps_str_of rfl rfl (rds_row 0 rfl) (by omega)) ?_; refine ok_p rfl rfl rfl (by exact ps_assign rfl rfl) ?_; refine ok_nil ?_; refine ok_env [(6, _)] ⟨rfl, trivial⟩ ?_))
  · refine fun a w' he hw => ⟨⟨i + 1, (y90 0).A, (y90 0).c, by omega⟩, by simp only; omega, he.sub ⟨rfl, rfl, rfl, rfl, trivial⟩, ?_⟩
    have e2 : byteVs (outTo L F (i + 1)) = byteVs (outTo L F i) ++ byteVs (b4 (wsum L F i)) := by simp [outTo, byteVs]
    simp only [e2]
    exact hw.tl
  obtain rfl : i = 16 := by omega
  exact ok_endL (vs := [_]) rfl ⟨rfl, trivial⟩ (fun w' hw => ⟨rfl, hw.below⟩)
theorem in_s (x a b : Int) (w : World) : Calls Try.prog 104 #[.int .i64 x, .int .i64 a, .int .i64 b] w fun e w' => e = .returned (.bool (inB x a b)) ∧ Below w.heap.size w w' := by
  refine ok_enter 15 Try.func104 rfl rfl rfl ?_
  repeat' (first
    | refine ok_seq ?_
    | refine ok_then ?_
    | refine ok_ret ?_
    | (refine ok_region (i := 0) ?_; refine ok_p rfl rfl rfl (by exact ps_assign rfl rfl) ?_; refine ok_nil ?_; refine ok_env [(0, _), (1, _), (2, _)] ⟨rfl, rfl, rfl, trivial⟩ ?_)
    | (refine ok_region (i := 1) ?_; refine ok_p rfl rfl rfl (by exact ps_move rfl rfl) ?_; refine ok_p rfl rfl rfl (by exact ps_move rfl rfl) ?_; refine ok_p rfl rfl rfl (by exact ps_int rfl rfl rfl rfl) ?_; refine ok_p rfl rfl rfl (by exact ps_move rfl rfl) ?_; refine ok_pg rfl rfl rfl rfl rfl (gT _) (fun hp => by (have hpd := hp; (try simp only [decide_eq_true_eq, decide_eq_false_iff_not, Bool.or_eq_true, Bool.or_eq_false_iff, Bool.and_eq_true, Bool.and_eq_false_iff, Bool.not_eq_true', Bool.not_eq_false', bne_iff_ne, beq_iff_eq, bne_eq_false_iff_eq, beq_eq_false_iff_ne, ne_eq, Bool.not_true, Bool.not_false, Bool.false_eq_true, Bool.true_eq_false, inB_true, inB_false] at hpd); exact ps_move rfl (by exact rfl))) ?_; refine ok_pg rfl rfl rfl rfl rfl (gT _) (fun hp => by (have hpd := hp; (try simp only [decide_eq_true_eq, decide_eq_false_iff_not, Bool.or_eq_true, Bool.or_eq_false_iff, Bool.and_eq_true, Bool.and_eq_false_iff, Bool.not_eq_true', Bool.not_eq_false', bne_iff_ne, beq_iff_eq, bne_eq_false_iff_eq, beq_eq_false_iff_ne, ne_eq, Bool.not_true, Bool.not_false, Bool.false_eq_true, Bool.true_eq_false, inB_true, inB_false] at hpd); exact ps_move rfl (by exact rfl))) ?_; refine ok_pg rfl rfl rfl rfl rfl (gT _) (fun hp => by (have hpd := hp; (try simp only [decide_eq_true_eq, decide_eq_false_iff_not, Bool.or_eq_true, Bool.or_eq_false_iff, Bool.and_eq_true, Bool.and_eq_false_iff, Bool.not_eq_true', Bool.not_eq_false', bne_iff_ne, beq_iff_eq, bne_eq_false_iff_eq, beq_eq_false_iff_ne, ne_eq, Bool.not_true, Bool.not_false, Bool.false_eq_true, Bool.true_eq_false, inB_true, inB_false] at hpd); exact ps_int rfl (by (refine og rfl ?_; assumption)) (by (refine og rfl ?_; assumption)) rfl)) ?_; refine ok_p rfl rfl rfl (by exact ps_and rfl rfl rfl) ?_; refine ok_p rfl rfl rfl (by exact ps_assign rfl rfl) ?_; refine ok_nil ?_; refine ok_env [(6, _)] ⟨rfl, trivial⟩ ?_))
  exact ok_endL (vs := [_]) rfl ⟨rfl, trivial⟩ (fun w' hw => ⟨rfl, hw.below⟩)
theorem s_ChaBlock (key nonce : ByteArray) (c : Int) (w : World) :
    Calls Try.prog 148 #[.string key, .int .i64 c, .string nonce] w fun e w' => e = .returned (.string (chaF key c nonce)) ∧ Below w.heap.size w w' := by
  refine ok_enter 24 Try.func148 rfl rfl rfl ?_
  by_cases hok : isChaF key c nonce = true
  · obtain ⟨hk, hc, hn⟩ := isCha_iff.1 hok
    obtain ⟨m, rfl⟩ : ∃ m : Nat, c = m := ⟨c.toNat, by omega⟩
    have e : chaF key m nonce = ⟨(blockL key m nonce).toArray⟩ := by unfold chaF; rw [if_pos hok]; rfl
    rw [e]
    repeat' (first
      | refine ok_seq ?_
      | refine ok_then ?_
      | refine ok_then_ret ?_
      | (refine ok_cond rfl (fun hc => ?_) (fun hc => ?_) <;> (have hd := hc; (try simp only [decide_eq_true_eq, decide_eq_false_iff_not, Bool.or_eq_true, Bool.or_eq_false_iff, Bool.and_eq_true, Bool.and_eq_false_iff, Bool.not_eq_true', Bool.not_eq_false', bne_iff_ne, beq_iff_eq, bne_eq_false_iff_eq, beq_eq_false_iff_ne, ne_eq, Bool.not_true, Bool.not_false, Bool.false_eq_true, Bool.true_eq_false, inB_true, inB_false] at hd)))
      | refine ok_ret ?_
      | refine ok_skip ?_
      | (refine ok_region (i := 0) ?_; refine ok_p rfl rfl rfl (by exact ps_assign rfl rfl) ?_; refine ok_nil ?_; refine ok_env [(0, _), (1, _), (2, _)] ⟨rfl, rfl, rfl, trivial⟩ ?_)
      | (refine ok_region (i := 1) ?_; refine ok_p rfl rfl rfl (by exact ps_move rfl rfl) ?_; refine ok_p rfl rfl rfl (by exact ps_slen rfl rfl) ?_; refine ok_p rfl rfl rfl (by exact ps_int rfl rfl rfl rfl) ?_; refine ok_p rfl rfl rfl (by exact ps_move rfl rfl) ?_; refine ok_pg rfl rfl rfl rfl rfl (gF _) (fun hp => by (have hpd := hp; (try simp only [decide_eq_true_eq, decide_eq_false_iff_not, Bool.or_eq_true, Bool.or_eq_false_iff, Bool.and_eq_true, Bool.and_eq_false_iff, Bool.not_eq_true', Bool.not_eq_false', bne_iff_ne, beq_iff_eq, bne_eq_false_iff_eq, beq_eq_false_iff_ne, ne_eq, Bool.not_true, Bool.not_false, Bool.false_eq_true, Bool.true_eq_false, inB_true, inB_false] at hpd); exact ps_move rfl (by exact rfl))) ?_; refine ok_pg rfl rfl rfl rfl rfl (gF _) (fun hp => by (have hpd := hp; (try simp only [decide_eq_true_eq, decide_eq_false_iff_not, Bool.or_eq_true, Bool.or_eq_false_iff, Bool.and_eq_true, Bool.and_eq_false_iff, Bool.not_eq_true', Bool.not_eq_false', bne_iff_ne, beq_iff_eq, bne_eq_false_iff_eq, beq_eq_false_iff_ne, ne_eq, Bool.not_true, Bool.not_false, Bool.false_eq_true, Bool.true_eq_false, inB_true, inB_false] at hpd); exact ps_slen rfl (by (refine og rfl ?_; assumption)))) ?_; refine ok_pg rfl rfl rfl rfl rfl (gF _) (fun hp => by (have hpd := hp; (try simp only [decide_eq_true_eq, decide_eq_false_iff_not, Bool.or_eq_true, Bool.or_eq_false_iff, Bool.and_eq_true, Bool.and_eq_false_iff, Bool.not_eq_true', Bool.not_eq_false', bne_iff_ne, beq_iff_eq, bne_eq_false_iff_eq, beq_eq_false_iff_ne, ne_eq, Bool.not_true, Bool.not_false, Bool.false_eq_true, Bool.true_eq_false, inB_true, inB_false] at hpd); exact ps_int rfl (by (refine og rfl ?_; assumption)) (by exact rfl) rfl)) ?_; refine ok_p rfl rfl rfl (by exact ps_or rfl rfl rfl) ?_; refine ok_p rfl rfl rfl (by exact ps_move rfl rfl) ?_; refine ok_pg rfl rfl rfl rfl rfl (gF _) (fun hp => by (have hpd := hp; (try simp only [decide_eq_true_eq, decide_eq_false_iff_not, Bool.or_eq_true, Bool.or_eq_false_iff, Bool.and_eq_true, Bool.and_eq_false_iff, Bool.not_eq_true', Bool.not_eq_false', bne_iff_ne, beq_iff_eq, bne_eq_false_iff_eq, beq_eq_false_iff_ne, ne_eq, Bool.not_true, Bool.not_false, Bool.false_eq_true, Bool.true_eq_false, inB_true, inB_false] at hpd); exact ps_move rfl (by exact rfl))) ?_; refine ok_mg rfl rfl rfl rfl rfl (gF _) (fun hp => by (have hpd := hp; (try simp only [decide_eq_true_eq, decide_eq_false_iff_not, Bool.or_eq_true, Bool.or_eq_false_iff, Bool.and_eq_true, Bool.and_eq_false_iff, Bool.not_eq_true', Bool.not_eq_false', bne_iff_ne, beq_iff_eq, bne_eq_false_iff_eq, beq_eq_false_iff_ne, ne_eq, Bool.not_true, Bool.not_false, Bool.false_eq_true, Bool.true_eq_false, inB_true, inB_false] at hpd); exact ms_s3 rfl (by (refine og rfl ?_; assumption)) rfl rfl (fun _ _ w hw => in_s m _ _ w))) ?_; refine ok_pg rfl rfl rfl rfl rfl (gF _) (fun hp => by (have hpd := hp; (try simp only [decide_eq_true_eq, decide_eq_false_iff_not, Bool.or_eq_true, Bool.or_eq_false_iff, Bool.and_eq_true, Bool.and_eq_false_iff, Bool.not_eq_true', Bool.not_eq_false', bne_iff_ne, beq_iff_eq, bne_eq_false_iff_eq, beq_eq_false_iff_ne, ne_eq, Bool.not_true, Bool.not_false, Bool.false_eq_true, Bool.true_eq_false, inB_true, inB_false] at hpd); exact ps_not rfl (by (refine og rfl ?_; assumption)))) ?_; refine ok_p rfl rfl rfl (by exact ps_or rfl rfl rfl) ?_; refine ok_nil ?_; refine ok_env [(0, _), (1, _), (2, _), (19, _)] ⟨rfl, rfl, rfl, rfl, trivial⟩ ?_)
      | (refine ok_region (i := 2) ?_; refine ok_p rfl rfl rfl (by exact ps_assign rfl rfl) ?_; refine ok_nil ?_; refine ok_env [(6, _)] ⟨rfl, trivial⟩ ?_)
      | (refine ok_region (i := 3) ?_; refine ok_p rfl rfl rfl (by exact ps_move rfl rfl) ?_; refine ok_p rfl rfl rfl (by exact ps_move rfl rfl) ?_; refine ok_p rfl rfl rfl (by exact ps_move rfl rfl) ?_; refine ok_m rfl rfl rfl (by exact ms_s3 rfl rfl rfl rfl (fun _ _ w hw => s_block_c key nonce m hk hn (by omega) w)) ?_; rintro y23 hy23; refine ok_p rfl rfl rfl (by exact ps_assign rfl rfl) ?_; refine ok_nil ?_; refine ok_env [(6, _)] ⟨rfl, trivial⟩ ?_))
    · exfalso; omega
    exact ok_endL (vs := [_]) rfl ⟨rfl, trivial⟩ (fun w' hw => ⟨rfl, hw.below⟩)
  · have e : chaF key c nonce = ⟨#[]⟩ := by unfold chaF; rw [if_neg hok]
    have hf : ¬ (key.size = 32 ∧ (0 ≤ c ∧ c ≤ 4294967295) ∧ nonce.size = 12) := fun h => hok (isCha_iff.2 h)
    rw [e]
    repeat' (first
      | refine ok_seq ?_
      | refine ok_then ?_
      | refine ok_then_ret ?_
      | (refine ok_cond rfl (fun hc => ?_) (fun hc => ?_) <;> (have hd := hc; (try simp only [decide_eq_true_eq, decide_eq_false_iff_not, Bool.or_eq_true, Bool.or_eq_false_iff, Bool.and_eq_true, Bool.and_eq_false_iff, Bool.not_eq_true', Bool.not_eq_false', bne_iff_ne, beq_iff_eq, bne_eq_false_iff_eq, beq_eq_false_iff_ne, ne_eq, Bool.not_true, Bool.not_false, Bool.false_eq_true, Bool.true_eq_false, inB_true, inB_false] at hd)))
      | refine ok_ret ?_
      | refine ok_skip ?_
      | (refine ok_region (i := 0) ?_; refine ok_p rfl rfl rfl (by exact ps_assign rfl rfl) ?_; refine ok_nil ?_; refine ok_env [(0, _), (1, _), (2, _)] ⟨rfl, rfl, rfl, trivial⟩ ?_)
      | (refine ok_region (i := 1) ?_; refine ok_p rfl rfl rfl (by exact ps_move rfl rfl) ?_; refine ok_p rfl rfl rfl (by exact ps_slen rfl rfl) ?_; refine ok_p rfl rfl rfl (by exact ps_int rfl rfl rfl rfl) ?_; refine ok_p rfl rfl rfl (by exact ps_move rfl rfl) ?_; refine ok_pg rfl rfl rfl rfl rfl (gF _) (fun hp => by (have hpd := hp; (try simp only [decide_eq_true_eq, decide_eq_false_iff_not, Bool.or_eq_true, Bool.or_eq_false_iff, Bool.and_eq_true, Bool.and_eq_false_iff, Bool.not_eq_true', Bool.not_eq_false', bne_iff_ne, beq_iff_eq, bne_eq_false_iff_eq, beq_eq_false_iff_ne, ne_eq, Bool.not_true, Bool.not_false, Bool.false_eq_true, Bool.true_eq_false, inB_true, inB_false] at hpd); exact ps_move rfl (by exact rfl))) ?_; refine ok_pg rfl rfl rfl rfl rfl (gF _) (fun hp => by (have hpd := hp; (try simp only [decide_eq_true_eq, decide_eq_false_iff_not, Bool.or_eq_true, Bool.or_eq_false_iff, Bool.and_eq_true, Bool.and_eq_false_iff, Bool.not_eq_true', Bool.not_eq_false', bne_iff_ne, beq_iff_eq, bne_eq_false_iff_eq, beq_eq_false_iff_ne, ne_eq, Bool.not_true, Bool.not_false, Bool.false_eq_true, Bool.true_eq_false, inB_true, inB_false] at hpd); exact ps_slen rfl (by (refine og rfl ?_; assumption)))) ?_; refine ok_pg rfl rfl rfl rfl rfl (gF _) (fun hp => by (have hpd := hp; (try simp only [decide_eq_true_eq, decide_eq_false_iff_not, Bool.or_eq_true, Bool.or_eq_false_iff, Bool.and_eq_true, Bool.and_eq_false_iff, Bool.not_eq_true', Bool.not_eq_false', bne_iff_ne, beq_iff_eq, bne_eq_false_iff_eq, beq_eq_false_iff_ne, ne_eq, Bool.not_true, Bool.not_false, Bool.false_eq_true, Bool.true_eq_false, inB_true, inB_false] at hpd); exact ps_int rfl (by (refine og rfl ?_; assumption)) (by exact rfl) rfl)) ?_; refine ok_p rfl rfl rfl (by exact ps_or rfl rfl rfl) ?_; refine ok_p rfl rfl rfl (by exact ps_move rfl rfl) ?_; refine ok_pg rfl rfl rfl rfl rfl (gF _) (fun hp => by (have hpd := hp; (try simp only [decide_eq_true_eq, decide_eq_false_iff_not, Bool.or_eq_true, Bool.or_eq_false_iff, Bool.and_eq_true, Bool.and_eq_false_iff, Bool.not_eq_true', Bool.not_eq_false', bne_iff_ne, beq_iff_eq, bne_eq_false_iff_eq, beq_eq_false_iff_ne, ne_eq, Bool.not_true, Bool.not_false, Bool.false_eq_true, Bool.true_eq_false, inB_true, inB_false] at hpd); exact ps_move rfl (by exact rfl))) ?_; refine ok_mg rfl rfl rfl rfl rfl (gF _) (fun hp => by (have hpd := hp; (try simp only [decide_eq_true_eq, decide_eq_false_iff_not, Bool.or_eq_true, Bool.or_eq_false_iff, Bool.and_eq_true, Bool.and_eq_false_iff, Bool.not_eq_true', Bool.not_eq_false', bne_iff_ne, beq_iff_eq, bne_eq_false_iff_eq, beq_eq_false_iff_ne, ne_eq, Bool.not_true, Bool.not_false, Bool.false_eq_true, Bool.true_eq_false, inB_true, inB_false] at hpd); exact ms_s3 rfl (by (refine og rfl ?_; assumption)) rfl rfl (fun _ _ w hw => in_s c _ _ w))) ?_; refine ok_pg rfl rfl rfl rfl rfl (gF _) (fun hp => by (have hpd := hp; (try simp only [decide_eq_true_eq, decide_eq_false_iff_not, Bool.or_eq_true, Bool.or_eq_false_iff, Bool.and_eq_true, Bool.and_eq_false_iff, Bool.not_eq_true', Bool.not_eq_false', bne_iff_ne, beq_iff_eq, bne_eq_false_iff_eq, beq_eq_false_iff_ne, ne_eq, Bool.not_true, Bool.not_false, Bool.false_eq_true, Bool.true_eq_false, inB_true, inB_false] at hpd); exact ps_not rfl (by (refine og rfl ?_; assumption)))) ?_; refine ok_p rfl rfl rfl (by exact ps_or rfl rfl rfl) ?_; refine ok_nil ?_; refine ok_env [(0, _), (1, _), (2, _), (19, _)] ⟨rfl, rfl, rfl, rfl, trivial⟩ ?_)
      | (refine ok_region (i := 2) ?_; refine ok_p rfl rfl rfl (by exact ps_assign rfl rfl) ?_; refine ok_nil ?_; refine ok_env [(6, _)] ⟨rfl, trivial⟩ ?_))
    · exact ok_endL (vs := [_]) rfl ⟨rfl, trivial⟩ (fun w' hw => ⟨rfl, hw.below⟩)
    all_goals (exfalso; omega)
end Go.Proofs.Ytfcnimglcialbaa
/-
  DERIVED: THE SHELF's CONTRACTS AT THIS DUMP, IN PLAIN WORDS (tools/lay-plain.mjs out of 'TryShelf.lean', which tools/lay-shelf.mjs wrote): THE SAME DECLARATIONS UNDER THE SAME NAMES: 'import', 'namespace', 'open', 'def', 'theorem' AND NOTHING ELSE: no command of the shelf's: FOR A HAND-IN. Each laying: the table of numbers ('.._ren') and one theorem, a field a fact of the dump's own or the kernel's comparison; each contract: ONE APPLICATION.
-/
namespace Go.Proofs.Ytfcnimglcialbaa
open Go.Shelf
def sh_lays105_ren : Go.Shelf.Ren := ⟨fun | 105 => 219 | 212 => 253 | 99 => 254 | 165 => 255 | 166 => 135 | 170 => 256 | 169 => 138 | 263 => 278 | 264 => 279 | 206 => 280 | 240 => 215 | 241 => 281 | 276 => 248 | 277 => 291 | n => n, fun | 9 => 9 | 3 => 3 | 4 => 4 | 20 => 20 | 0 => 0 | 46 => 240 | 109 => 275 | 5 => 5 | 72 => 166 | 76 => 169 | 51 => 244 | 146 => 295 | 53 => 291 | 148 => 297 | 70 => 164 | 37 => 25 | 75 => 168 | 127 => 241 | 164 => 270 | 80 => 171 | n => n, fun | n => n⟩
theorem sh_lays105 : Go.Proofs.Lays.n105 Try.prog sh_lays105_ren := {
  mixed := by kernel_rfl
  f99 := Try.func254.trans (congrArg some (by kernel_rfl))
  f105 := Try.func219.trans (congrArg some (by kernel_rfl))
  f165 := Try.func255.trans (congrArg some (by kernel_rfl))
  f166 := Try.func135.trans (congrArg some (by kernel_rfl))
  f169 := Try.func138.trans (congrArg some (by kernel_rfl))
  f170 := Try.func256.trans (congrArg some (by kernel_rfl))
  f206 := Try.func280.trans (congrArg some (by kernel_rfl))
  f212 := Try.func253.trans (congrArg some (by kernel_rfl))
  f240 := Try.func215.trans (congrArg some (by kernel_rfl))
  f241 := Try.func281.trans (congrArg some (by kernel_rfl))
  f263 := Try.func278.trans (congrArg some (by kernel_rfl))
  f264 := Try.func279.trans (congrArg some (by kernel_rfl))
  f276 := Try.func248.trans (congrArg some (by kernel_rfl))
  f277 := Try.func291.trans (congrArg some (by kernel_rfl))
  t0 := Try.underlying0
  a0 := Try.isAgg0
  z0 := Try.sizeOf0
  v0 := Try.zeroValue0
  t3 := Try.underlying3
  a3 := Try.isAgg3
  z3 := Try.sizeOf3
  v3 := Try.zeroValue3
  t4 := Try.underlying4
  a4 := Try.isAgg4
  z4 := Try.sizeOf4
  v4 := Try.zeroValue4
  t5 := Try.underlying5
  a5 := Try.isAgg5
  z5 := Try.sizeOf5
  v5 := Try.zeroValue5
  t9 := Try.underlying9
  a9 := Try.isAgg9
  z9 := Try.sizeOf9
  v9 := Try.zeroValue9
  t20 := Try.underlying20
  a20 := Try.isAgg20
  z20 := Try.sizeOf20
  v20 := Try.zeroValue20
  t37 := Try.underlying25
  a37 := Try.isAgg25
  z37 := Try.sizeOf25
  v37 := Try.zeroValue25
  t46 := Try.underlying240
  a46 := Try.isAgg240
  z46 := Try.sizeOf240
  v46 := Try.zeroValue240
  t51 := Try.underlying244
  a51 := Try.isAgg244
  z51 := Try.sizeOf244
  v51 := Try.zeroValue244
  t53 := Try.underlying291
  a53 := Try.isAgg291
  z53 := Try.sizeOf291
  v53 := Try.zeroValue291
  t70 := Try.underlying164
  a70 := Try.isAgg164
  z70 := Try.sizeOf164
  v70 := Try.zeroValue164
  t72 := Try.underlying166
  a72 := Try.isAgg166
  z72 := Try.sizeOf166
  v72 := Try.zeroValue166
  t75 := Try.underlying168
  a75 := Try.isAgg168
  z75 := Try.sizeOf168
  v75 := Try.zeroValue168
  t76 := Try.underlying169
  a76 := Try.isAgg169
  z76 := Try.sizeOf169
  v76 := Try.zeroValue169
  t109 := Try.underlying275
  a109 := Try.isAgg275
  z109 := Try.sizeOf275
  v109 := Try.zeroValue275
  t127 := Try.underlying241
  a127 := Try.isAgg241
  z127 := Try.sizeOf241
  v127 := Try.zeroValue241
  t146 := Try.underlying295
  a146 := Try.isAgg295
  z146 := Try.sizeOf295
  v146 := Try.zeroValue295
  t148 := Try.underlying297
  a148 := Try.isAgg297
  z148 := Try.sizeOf297
  v148 := Try.zeroValue297
  t164 := Try.underlying270
  a164 := Try.isAgg270
  z164 := Try.sizeOf270
  v164 := Try.zeroValue270 }
theorem sh_Builder_Extra_105 : Builder.Extra Try.prog sh_lays105_ren := {
  sizeBuilder := by kernel_rfl
  liesBuilder := by kernel_rfl
  t5 := Try.underlying5
  a5 := Try.isAgg5
  z5 := Try.sizeOf5
  v5 := Try.zeroValue5
  infoByte := by kernel_rfl
  cellsByte := by kernel_rfl
  sizeByte := by kernel_rfl
  neB5 := by decide }
open Go.RowKit Go.Lib in
/-- THE MAIN CASE: at least two copies of a string that is not empty. (LAID: no walk: one application.) -/
theorem sh_strings_Repeat_main (s : ByteArray) (c : Nat) (w : World) (hc2 : 2 ≤ c) (hc : c ≤ 9223372036854775807) (hlen : s.size * c ≤ 140737488355328) (h0 : 0 < s.size) :
    Calls Try.prog 219 #[.string s, .int .i64 c] w fun e w' => e = .returned (.string ⟨(Lib.repeatL s.data.toList c).toArray⟩) ∧ Below w.heap.size w w' := Any.strings_Repeat_main sh_lays105 sh_Builder_Extra_105 s c w hc2 hc hlen h0
open Go.RowKit Go.Lib in
theorem sh_strings_Repeat_zero (s : ByteArray) (w : World) :
    Calls Try.prog 219 #[.string s, .int .i64 0] w fun e w' => e = .returned (.string ⟨#[]⟩) ∧ w' = w := Any.strings_Repeat_zero sh_lays105 s w
open Go.RowKit Go.Lib in
theorem sh_strings_Repeat_one (s : ByteArray) (w : World) :
    Calls Try.prog 219 #[.string s, .int .i64 1] w fun e w' => e = .returned (.string s) ∧ w' = w := Any.strings_Repeat_one sh_lays105 s w
open Go.RowKit Go.Lib in
/-- Copies of the empty string. (LAID: no walk: one application.) -/
theorem sh_strings_Repeat_empty (s : ByteArray) (c : Nat) (w : World) (hc2 : 2 ≤ c) (hc : c ≤ 9223372036854775807) (h0 : s.size = 0) :
    Calls Try.prog 219 #[.string s, .int .i64 c] w fun e w' => e = .returned (.string ⟨#[]⟩) ∧ w' = w := Any.strings_Repeat_empty sh_lays105 s c w hc2 hc h0
open Go.RowKit Go.Lib in
/-- count < 0: "It panics if count is negative". (LAID: no walk: one application.) -/
theorem sh_strings_Repeat_negative (s : ByteArray) (c : Int) (w : World) (hc : c < 0) :
    Calls Try.prog 219 #[.string s, .int .i64 c] w fun e w' => e = .panicked [{ v := repeatPanic sh_lays105_ren "strings: negative Repeat count", recovered := false }] ∧ w' = w := Any.strings_Repeat_negative sh_lays105 s c w hc
open Go.RowKit Go.Lib in
/-- len(s) * count is no int: ".. or if the result of (len(s) * count) overflows". (LAID: no walk: one application.) -/
theorem sh_strings_Repeat_overflow (s : ByteArray) (c : Nat) (w : World) (hc : c ≤ 9223372036854775807) (hs : s.size ≤ 9223372036854775807) (hbig : 9223372036854775807 < s.size * c) :
    Calls Try.prog 219 #[.string s, .int .i64 c] w fun e w' => e = .panicked [{ v := repeatPanic sh_lays105_ren "strings: Repeat output length overflow", recovered := false }] ∧ w' = w := Any.strings_Repeat_overflow sh_lays105 s c w hc hs hbig
open Go.RowKit Go.Lib in
/-- **strings.Repeat: count ≥ 0, the result within one allocation: count copies of s.** (LAID: no walk: one application.) -/
theorem sh_strings_Repeat (s : ByteArray) (c : Nat) (w : World) (hc : c ≤ 9223372036854775807) (hlen : s.size * c ≤ 140737488355328) :
    Calls Try.prog 219 #[.string s, .int .i64 c] w fun e w' => e = .returned (.string ⟨(Lib.repeatL s.data.toList c).toArray⟩) ∧ Below w.heap.size w w' := Any.strings_Repeat sh_lays105 sh_Builder_Extra_105 s c w hc hlen
end Go.Proofs.Ytfcnimglcialbaa
/- Zero bytes: the program's zeros, by the kit's contract of strings.Repeat. -/
namespace Go.Proofs.Ytfcnimglcialbaa
open Go.RowKit
set_option maxHeartbeats 4000000
set_option maxRecDepth 20000
set_option linter.unusedVariables false
set_option linter.unusedSimpArgs false
attribute [local irreducible] Calls
theorem rep_zero : ∀ n, Lib.repeatL [(0 : UInt8)] n = List.replicate n 0
  | 0 => rfl
  | n + 1 => by rw [Lib.repeatL, rep_zero n, List.replicate_succ]; rfl
theorem rep_c (n : Nat) (hn : n ≤ 64) (w : World) : Calls Try.prog 219 #[.string ⟨#[0]⟩, .int .i64 (n : Int)] w fun e w' => e = .returned (.string (zrs n)) ∧ Below w.heap.size w w' := by
  have h1 : (⟨#[0]⟩ : ByteArray).size = 1 := rfl
  have := sh_strings_Repeat ⟨#[0]⟩ n w (by omega) (by rw [h1]; omega)
  rw [show (⟨#[0]⟩ : ByteArray).data.toList = [(0 : UInt8)] from rfl, rep_zero] at this
  exact this
theorem zeros_c (n : Nat) (hn : n ≤ 64) (w : World) : Calls Try.prog 150 #[.int .i64 (n : Int)] w fun e w' => e = .returned (.string (zrs n)) ∧ Below w.heap.size w w' := by
  refine ok_enter 5 Try.func150 rfl rfl rfl ?_
  repeat' (first
    | refine ok_seq ?_
    | refine ok_then ?_
    | refine ok_then_ret ?_
    | refine ok_then_exit ?_
    | refine ok_block ?_
    | refine ok_in_normal ?_
    | refine ok_in_ret ?_
    | refine ok_in_exit ?_
    | refine ok_in_other rfl ?_
    | (refine ok_cond rfl (fun hc => ?_) (fun hc => ?_) <;> (have hd := hc; (try simp only [decide_eq_true_eq, decide_eq_false_iff_not, Bool.or_eq_true, Bool.or_eq_false_iff, Bool.and_eq_true, Bool.and_eq_false_iff, Bool.not_eq_true', Bool.not_eq_false', bne_iff_ne, beq_iff_eq, bne_eq_false_iff_eq, beq_eq_false_iff_ne, ne_eq, Bool.not_true, Bool.not_false, Bool.false_eq_true, Bool.true_eq_false, inB_true, inB_false] at hd)))
    | refine ok_ret ?_
    | refine ok_exit ?_
    | refine ok_skip ?_
    | (refine ok_region (i := 0) ?_; refine ok_p rfl rfl rfl (by exact ps_assign rfl rfl) ?_; refine ok_nil ?_; refine ok_env [(0, _)] ⟨rfl, trivial⟩ ?_)
    | (refine ok_region (i := 1) ?_; refine ok_p rfl rfl rfl (by exact ps_move rfl rfl) ?_; refine ok_m rfl rfl rfl (by exact ms_s2 rfl rfl rfl (fun _ _ w _ => rep_c n hn w)) ?_; rintro y4 hy4; refine ok_p rfl rfl rfl (by exact ps_assign rfl rfl) ?_; refine ok_nil ?_; refine ok_env [(2, _)] ⟨rfl, trivial⟩ ?_))
  exact ok_endL (vs := [_]) rfl ⟨rfl, trivial⟩ (fun w' hw => ⟨rfl, hw.below⟩)
end Go.Proofs.Ytfcnimglcialbaa
