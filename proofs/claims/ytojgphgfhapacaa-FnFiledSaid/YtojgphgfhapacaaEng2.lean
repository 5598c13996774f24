/- The engine: the ways of the code. -/
import Derived.Test.YtojgphgfhapacaaEng
namespace Go.Proofs.Ytojgphgfhapacaa
open Go.RowKit
set_option linter.unusedVariables false
set_option linter.unusedSimpArgs false
section
variable {P : Program} {N base : Nat} {w0 : World} {E : Env} {H : List HObj} {G : List World} {Q : Exit → Act → World → Prop} {K : Act → World → Prop}
theorem ok_seq {x y : Code} (h : Ok N base w0 E H G (x.wp P (Exit.then (y.wp P Q) Q))) : Ok N base w0 E H G ((Code.seq x y).wp P Q) := fun a w he hw => wp_seq (h a w he hw)
theorem ok_then {k : Act → World → Prop} (h : Ok N base w0 E H G k) : Ok N base w0 E H G (Exit.then k Q .normal) := h
theorem ok_then_exit {k : Act → World → Prop} {i : Nat} (h : Ok N base w0 E H G (Q (.exit i))) : Ok N base w0 E H G (Exit.then k Q (.exit i)) := h
theorem ok_then_ret {k : Act → World → Prop} (h : Ok N base w0 E H G (Q .ret)) : Ok N base w0 E H G (Exit.then k Q .ret) := h
theorem ok_block {i : Nat} {x : Code} (h : Ok N base w0 E H G (x.wp P (Exit.inBlock i Q))) : Ok N base w0 E H G ((Code.block i x).wp P Q) := fun a w he hw => wp_block (h a w he hw)
theorem ok_in_normal {i : Nat} (h : Ok N base w0 E H G (Q .normal)) : Ok N base w0 E H G (Exit.inBlock i Q .normal) := h
theorem ok_in_ret {i : Nat} (h : Ok N base w0 E H G (Q .ret)) : Ok N base w0 E H G (Exit.inBlock i Q .ret) := h
theorem ok_in_exit {i : Nat} (h : Ok N base w0 E H G (Q .normal)) : Ok N base w0 E H G (Exit.inBlock i Q (.exit i)) := fun a w he hw => by
  show (if i = i then Q .normal a w else _); rw [if_pos rfl]; exact h a w he hw
theorem ok_in_other {i j : Nat} (hij : Nat.beq j i = false) (h : Ok N base w0 E H G (Q (.exit j))) : Ok N base w0 E H G (Exit.inBlock i Q (.exit j)) := fun a w he hw => by
  have : j ≠ i := fun e => by subst e; simp [Nat.beq_refl] at hij
  show (if j = i then _ else Q (.exit j) a w); rw [if_neg this]; exact h a w he hw
theorem ok_exit {i : Nat} (h : Ok N base w0 E H G (Q (.exit i))) : Ok N base w0 E H G ((Code.exit i).wp P Q) := fun a w he hw => wp_exit (h a w he hw)
theorem ok_ret (h : Ok N base w0 E H G (Q .ret)) : Ok N base w0 E H G (Code.ret.wp P Q) := fun a w he hw => wp_ret (h a w he hw)
theorem ok_skip (h : Ok N base w0 E H G (Q .normal)) : Ok N base w0 E H G (Code.skip.wp P Q) := fun a w he hw => wp_skip (h a w he hw)
theorem ok_region {i : Nat} {l : List Oper} (h : Ok N base w0 E H G (wpList P l.toArray Q l)) : Ok N base w0 E H G ((Code.region i l.toArray false).wp P Q) := fun a w he hw => wp_region_lit (h a w he hw)
theorem ok_nil {ops : Array Oper} (h : Ok N base w0 E H G (Q .normal)) : Ok N base w0 E H G (wpList P ops Q []) := fun a w he hw => wpList_nil (h a w he hw)
theorem ok_cond {c : Operand} {x y : Code} {t : Bool} (hc : opd E c = some (.bool t)) (h1 : t = true → Ok N base w0 E H G (x.wp P Q)) (h2 : t = false → Ok N base w0 E H G (y.wp P Q)) : Ok N base w0 E H G ((Code.cond c x y).wp P Q) := fun a w he hw =>
  wp_cond_split (he.eval hc) (fun h => h1 h a w he hw) (fun h => h2 h a w he hw)
theorem ok_cond_t {c : Operand} {x y : Code} (hc : opd E c = some (.bool true)) (h1 : Ok N base w0 E H G (x.wp P Q)) : Ok N base w0 E H G ((Code.cond c x y).wp P Q) := fun a w he hw => wp_cond_true (he.eval hc) (h1 a w he hw)
theorem ok_cond_f {c : Operand} {x y : Code} (hc : opd E c = some (.bool false)) (h1 : Ok N base w0 E H G (y.wp P Q)) : Ok N base w0 E H G ((Code.cond c x y).wp P Q) := fun a w he hw => wp_cond_false (he.eval hc) (h1 a w he hw)
/-- Only some temporaries are looked at from here on. -/
def Sub : Env → Env → Prop
  | [], _ => True
  | p :: E', E => look E p.1 = some p.2 ∧ Sub E' E
theorem Sub.look : ∀ {E' E : Env}, Sub E' E → ∀ t v, look E' t = some v → Go.Proofs.Ytojgphgfhapacaa.look E t = some v
  | [], _, _, _, _, h => by cases h
  | (s, u) :: E', E, hs, t, v, h => by
    simp only [Go.Proofs.Ytojgphgfhapacaa.look] at h
    split at h
    · rename_i hb
      have : s = t := Nat.eq_of_beq_eq_true hb
      cases h; rw [← this]; exact hs.1
    · exact hs.2.look t v h
theorem EnvOk.sub {E' : Env} {a : Act} (h : EnvOk N E a) (hs : Sub E' E) : EnvOk N E' a := ⟨h.defers, h.size, fun t v hv => h.at_ t v (hs.look t v hv)⟩
theorem ok_env (E' : Env) (hs : Sub E' E) (h : Ok N base w0 E' H G K) : Ok N base w0 E H G K := fun a w he hw => h a w (he.sub hs) hw
theorem ok_sel (is : List Nat) (hn : is.Nodup) {H' : List HObj} (hs : H' = is.filterMap (fun i => H[i]?)) (h : Ok N base w0 E H' G K) : Ok N base w0 E H G K :=
  fun a w he hw => h a w he (hw.sel is hn hs (fun _ h => h))
def keepE (l : List Nat) (E : Env) : Env := l.filterMap fun t => (look E t).map fun v => (t, v)
theorem keepE_sub (E : Env) : ∀ l, Sub (keepE l E) E
  | [] => trivial
  | t :: l => by
    unfold keepE
    rw [List.filterMap_cons]
    split
    · exact keepE_sub E l
    · rename_i p hp
      cases hl : look E t with
      | none => rw [hl] at hp; cases hp
      | some v => rw [hl] at hp; cases hp; exact ⟨hl, keepE_sub E l⟩
theorem ok_keep (l : List Nat) {E' : Env} (hE : keepE l E = E') (h : Ok N base w0 E' H G K) : Ok N base w0 E H G K := ok_env E' (hE ▸ keepE_sub E l) h

theorem least (p : Nat → Prop) : ∀ n, p n → ∃ m, p m ∧ ∀ k, p k → m ≤ k := fun n => by
  induction n using Nat.strongRecOn with
  | _ n ih =>
    intro hn
    by_cases h : ∃ k, k < n ∧ p k
    · obtain ⟨k, hk, hp⟩ := h; exact ih k hk hp
    · exact ⟨n, hn, fun k hk => by
        rcases Nat.lt_or_ge k n with h' | h'
        · exact absurd ⟨k, h', hk⟩ h
        · exact h'⟩
/-- What a loop's head is told by: some state of the family. -/
structure Sat (N base : Nat) (w0 : World) (E : Env) (H : List HObj) (G : List World) (a : Act) (w : World) : Prop where
  env : EnvOk N E a
  mem : WOk base w0 H G w
theorem ok_loop {ι : Type} (μ : ι → Nat) (X : ι → Env × List HObj × List World) {body : Code} (i0 : ι)
    (h0 : ∀ a w, EnvOk N E a → WOk base w0 H G w → ∃ j, Sat N base w0 (X j).1 (X j).2.1 (X j).2.2 a w)
    (h : ∀ i, Ok N base w0 (X i).1 (X i).2.1 (X i).2.2 (body.wp P (Exit.then (fun a w => ∃ j, μ j < μ i ∧ Sat N base w0 (X j).1 (X j).2.1 (X j).2.2 a w) Q))) :
    Ok N base w0 E H G ((Code.loop body).wp P Q) := fun a w he hw => by
  classical
  let I : Act → World → Prop := fun a w => ∃ n, ∃ j, μ j = n ∧ Sat N base w0 (X j).1 (X j).2.1 (X j).2.2 a w
  have hm : ∀ a w, I a w → ∃ n, (∃ j, μ j = n ∧ Sat N base w0 (X j).1 (X j).2.1 (X j).2.2 a w) ∧ ∀ k, (∃ j, μ j = k ∧ Sat N base w0 (X j).1 (X j).2.1 (X j).2.2 a w) → n ≤ k := fun a w hI => by
    obtain ⟨n, hn⟩ := hI
    exact least _ n hn
  refine wp_loop I (fun a w => if hI : I a w then Classical.choose (hm a w hI) else 0) ?_ ?_
  · obtain ⟨j, hj⟩ := h0 a w he hw; exact ⟨_, j, rfl, hj⟩
  · intro a w hI
    obtain ⟨⟨j, hj, hs⟩, _⟩ := Classical.choose_spec (hm a w hI)
    refine Code.wp_mono ?_ (h j a w hs.env hs.mem)
    intro e a' w' hq
    cases e with
    | normal =>
      obtain ⟨j', hlt, hs'⟩ := hq
      have hI' : I a' w' := ⟨_, j', rfl, hs'⟩
      refine ⟨hI', ?_⟩
      simp only [dif_pos hI, dif_pos hI']
      have := (Classical.choose_spec (hm a' w' hI')).2 (μ j') ⟨j', rfl, hs'⟩
      omega
    | _ => exact hq
/-- The beginning of a call. -/
def initE : Nat → List Value → Env
  | _, [] => []
  | i, v :: l => (i, v) :: initE (i + 1) l
theorem look_initE : ∀ (l : List Value) (i t : Nat) (v : Value), look (initE i l) t = some v → i ≤ t ∧ l[t - i]? = some v
  | [], i, t, v, h => by cases h
  | u :: l, i, t, v, h => by
    simp only [initE, look] at h
    split at h
    · rename_i hb
      have : i = t := Nat.eq_of_beq_eq_true hb
      subst this; cases h; simp
    · rename_i hb
      have hne : i ≠ t := fun e => by subst e; simp [Nat.beq_refl] at hb
      obtain ⟨h1, h2⟩ := look_initE l (i + 1) t v h
      refine ⟨by omega, ?_⟩
      obtain ⟨d, hd⟩ : ∃ d, t - i = d + 1 := ⟨t - i - 1, by omega⟩
      rw [hd, List.getElem?_cons_succ, ← h2]; congr 1; omega
theorem ok_enter {f : FuncId} {fn : Func} {c : Code} {args : List Value} {w : World} {R : Ending → World → Prop} (N : Nat) (hf : P.funcs[f]? = some fn) (hb : fn.body = some c) (hn : fn.ntmps = N) (hl : Nat.ble args.length N = true)
    (h : Ok N w.heap.size w (initE 0 args) [] [w] (c.wp P (bodyPost P fn R))) : Calls P f args.toArray w R := by
  have hl' : args.length ≤ N := Nat.le_of_ble_eq_true hl
  refine calls_of_wp hf hb (h _ _ ⟨rfl, ?_, ?_⟩ ⟨Below.refl _ _, Nat.le_refl _, (fun x h => (by cases h)), List.Pairwise.nil, ?_⟩)
  · simp [hn]; omega
  · intro t v hv
    obtain ⟨_, h2⟩ := look_initE args 0 t v hv
    have hlt := (List.getElem?_eq_some_iff.1 h2).1
    simp only [Nat.sub_zero] at h2 hlt
    rw [Array.getElem?_append_left (by simpa using hlt)]
    simpa using h2
  · intro m hm p u hp
    cases hm with
    | head => exact ⟨hp, (fun x h => (by cases h))⟩
    | tail _ h => exact (by cases h)
/-- The end of a call: one result, two, three; a struct in memory. -/
theorem ok_end1 {fn : Func} {R : Ending → World → Prop} {t : Nat} {v : Value} (hr : fn.results = #[.tmp t]) (hv : look E t = some v) (h : ∀ w, WOk base w0 H G w → R (.returned v) w) : Ok N base w0 E H G (bodyPost P fn R .ret) := fun a w he hw => by
  have := he.at_ t v hv
  exact ⟨he.defers, v, by simp [results, hr, Array.getD_eq_getD_getElem?, this], h w hw⟩
theorem ok_end2 {fn : Func} {R : Ending → World → Prop} {t t' : Nat} {v v' : Value} (hr : fn.results = #[.tmp t, .tmp t']) (hv : look E t = some v) (hv' : look E t' = some v') (h : ∀ w, WOk base w0 H G w → R (.returned (.tuple #[v, v'])) w) : Ok N base w0 E H G (bodyPost P fn R .ret) := fun a w he hw => by
  have h1 := he.at_ t v hv
  have h2 := he.at_ t' v' hv'
  exact ⟨he.defers, .tuple #[v, v'], by simp [results, hr, Array.getD_eq_getD_getElem?, h1, h2], h w hw⟩
theorem ok_end3 {fn : Func} {R : Ending → World → Prop} {t t' t'' : Nat} {v v' v'' : Value} (hr : fn.results = #[.tmp t, .tmp t', .tmp t'']) (hv : look E t = some v) (hv' : look E t' = some v') (hv'' : look E t'' = some v'') (h : ∀ w, WOk base w0 H G w → R (.returned (.tuple #[v, v', v''])) w) : Ok N base w0 E H G (bodyPost P fn R .ret) := fun a w he hw => by
  have h1 := he.at_ t v hv
  have h2 := he.at_ t' v' hv'
  have h3 := he.at_ t'' v'' hv''
  exact ⟨he.defers, .tuple #[v, v', v''], by simp [results, hr, Array.getD_eq_getD_getElem?, h1, h2, h3], h w hw⟩
end
end Go.Proofs.Ytojgphgfhapacaa
