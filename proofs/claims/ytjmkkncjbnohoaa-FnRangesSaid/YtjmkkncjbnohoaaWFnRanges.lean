/- The walk of FnRanges. -/
import Derived.Test.YtjmkkncjbnohoaaRgL
import Derived.Test.YtjmkkncjbnohoaaSeq
import Derived.Test.YtjmkkncjbnohoaaTu
import Derived.Deep.DeepCutAuto
namespace Go.Proofs.Ytjmkkncjbnohoaa
open Go.RowKit
set_option maxHeartbeats 4000000
set_option maxRecDepth 20000
set_option linter.unusedVariables false
set_option linter.unusedSimpArgs false
theorem big_any (A : Option Addr) (n c : Nat) (w : World) (hn : n ≤ maxLen) :
    Calls Try.prog 38 #[.slice A n c] w fun e w' => e = .returned (.bool (decide ((n : Int) > 1048576))) ∧ w = w' := by
  unfold maxLen at hn
  go_enter Try.func38, Try.ntmps38
  go_wp2
  go_ret
  exact ⟨ret_bool (by simp), rfl⟩
theorem rgClip_open (a b c d : ByteArray) : ∃ p q is, rgClip a b c d = .tuple #[.string p, .string q, .bool is] ∧ rgOv a b c d = is ∧ ∀ s, rgIn a b c d s = (is && (!sLt s p && rgUp s q)) := by
  cases h : rgOv a b c d
  · exact ⟨⟨#[]⟩, ⟨#[]⟩, false, by simp [rgClip, h], rfl, fun s => rgIn_no h⟩
  · exact ⟨_, _, true, by simp only [rgClip, h, if_true], rfl, fun s => rgIn_ov a b c d s⟩
theorem FnRanges_core (w : World) (A : Option Addr) (cp : Nat) (x : List UInt8) (hr : Rd w A (byteVs x)) (hm : x.length ≤ maxLen) :
    Calls Try.prog 11 #[.slice A x.length cp] w fun e w' => e = .returned (.bool true) ∧ Below w.heap.size w w' := by
  have hm2 := hm
  unfold maxLen at hm2
  go_enter Try.func11, Try.ntmps11
  by_cases hbig : (x.length : Int) > 1048576
  · go_wp2
    go_ret
    exact ⟨rfl, Below.refl _ _⟩
  · go_wp2_with fail
    refine (big_any _ _ _ _ hm).mono ?_
    rintro e w' ⟨rfl, rfl⟩
    have hbig' : decide ((x.length : Int) > 1048576) = false := decide_eq_false (by omega)
    rw [hbig']
    go_wp2_with fail
    refine (DrawClip_any hr hm).mono ?_
    rintro e w1 ⟨⟨a, b, c, d, rfl, ma, mb, mc, md⟩, hb1⟩
    have l3a := List.all_eq_true.1 law3_all a ma
    have l3c := List.all_eq_true.1 law3_all c mc
    have l2 := fun k hk => List.all_eq_true.1 (List.all_eq_true.1 (List.all_eq_true.1 law2_all a ma) c mc) k hk
    simp only [law3, Bool.and_eq_true, Bool.or_eq_true, decide_eq_true_eq, Bool.not_eq_true'] at l3a l3c
    clear ma mb mc md
    obtain ⟨⟨⟨n3, e3⟩, za⟩, ze⟩ := l3a
    obtain ⟨⟨_, zc⟩, _⟩ := l3c
    obtain ⟨p, q, is, hcl, hov, L⟩ := rgClip_open a b c d
    go_wp2_with (first
        | (go_at_call 21; refine (sClip_any _ _ _ _ _).mono ?_; rintro e w' ⟨he, rfl⟩; rw [hcl] at he; subst he)
        | (go_at_call 22; refine (iClip_any _ _ _ _ _).mono ?_; rintro e w' ⟨he, rfl⟩; rw [hcl] at he; subst he)
        | (go_at_call 20; refine (iOverlap_any _ _ _ _ _).mono ?_; rintro e w' ⟨rfl, rfl⟩; rw [hov])
        | (go_at_call 16; fail))
    clear hov hcl
    have hL : Box (w1.alloc (.cells ((ks12 a c).map Value.string).toArray 9)) w1.heap.size 9 ((ks12 a c).map Value.string) := Box.new w1 _ _
    have hb2 : Below w.heap.size w (w1.alloc (.cells ((ks12 a c).map Value.string).toArray 9)) := hb1.alloc hb1.size _
    have hlen : (ks12 a c).length = 12 := rfl
    change Code.wp _ _ _ _ (w1.alloc (.cells ((ks12 a c).map Value.string).toArray 9))
    generalize ks12 a c = ks at *
    generalize (w1.alloc (.cells (ks.map Value.string).toArray 9)) = W2 at hL hb2 ⊢
    generalize w1.heap.size = g at hL ⊢
    clear hb1 w1 hr hm2 hm
    go_loop [14] (fun i => ∃ k : Nat, k ≤ 12 ∧ i = .int .i64 k) (fun i => 12 - (intOf i).toNat)
    case atStart => exact ⟨0, Nat.zero_le _, rfl⟩
    case round =>
      obtain ⟨k, hk, rfl⟩ := hrel
      by_cases hlt : k < 12
      · have hj : k < ks.length := by omega
        have c0 : W2.cell? ⟨g, k, none⟩ = some (.string ks[k]) := by
          rw [hL.cell, List.getElem?_map, List.getElem?_eq_getElem hj]; rfl
        have Ls := L ks[k]
        clear L l2 n3 e3
        generalize ks[k] = s at c0 Ls
        clear hL hb2 hlen
        have q4 : (k : Int) < 12 := by omega
        go_upto_region 13 with fail
        go_cut [16] (fun s16 wx => s16 = .bool (rgIn a b c d s) ∧ wx = W2)
        case first =>
          clear Ls
          go_wp2_with fail
          all_goals go_meet
          all_goals refine ⟨?_, rfl⟩
          all_goals simp_all [rgIn, rgUp, sLt, sEmp]
        case rest =>
          obtain ⟨rfl, rfl⟩ := hcut
          generalize rgIn a b c d s = bi at Ls
          simp only [rgUp, sLt, sEmp] at Ls
          cases hi : is
          · subst hi
            have hbi : bi = false := by simpa using Ls
            subst hbi
            clear Ls
            go_wp2
            exact ⟨⟨k + 1, by omega, by go_num⟩, by simp [intOf]; omega⟩
          · subst hi
            cases hp : Op.bytesLess s.toList p.toList
            · by_cases hq : q.toList = []
              · have hbi : bi = true := by simpa [hp, hq] using Ls
                subst hbi
                clear Ls
                go_wp2
                exact ⟨⟨k + 1, by omega, by go_num⟩, by simp [intOf]; omega⟩
              · have hq2 : q.toList.isEmpty = false := by simp [hq]
                cases hs : Op.bytesLess s.toList q.toList
                · have hbi : bi = false := by simpa [hp, hq2, hs] using Ls
                  subst hbi
                  clear Ls
                  go_wp2
                  exact ⟨⟨k + 1, by omega, by go_num⟩, by simp [intOf]; omega⟩
                · have hbi : bi = true := by simpa [hp, hq2, hs] using Ls
                  subst hbi
                  clear Ls
                  go_wp2
                  exact ⟨⟨k + 1, by omega, by go_num⟩, by simp [intOf]; omega⟩
            · have hbi : bi = false := by simpa [hp] using Ls
              subst hbi
              clear Ls
              go_wp2
              exact ⟨⟨k + 1, by omega, by go_num⟩, by simp [intOf]; omega⟩
      · obtain rfl : k = 12 := by omega
        clear L
        go_wp2_with (first
          | (go_at_call 16; refine (keyNext_any _ za _).mono ?_; rintro e w' ⟨rfl, rfl⟩))
        refine (xi_PrefixEnd_any _ (by omega) _).mono ?_
        rintro e w3 ⟨rfl, hb3⟩
        replace hL := hL.ext hb3
        replace hb2 := hb2.trans (hb3.mono hb2.size)
        clear hb3
        have hw3 := hb2
        generalize hpe : pe a = e at *
        generalize a ++ ⟨#[0]⟩ = n at n3 ⊢
        have q1 : Op.bytesLess n.toList a.toList = false := sLt_asymm n3
        have q2 : ¬ n.toList = a.toList := fun h => by rw [tl_inj h, sLt_irrefl] at n3; cases n3
        have q3 : (n.toList == a.toList) = false := by simp [q2]
        clear n3
        rcases e3 with he | ⟨he1, he2⟩
        · have he' : e.toList = [] := by simpa [sEmp] using he
          clear he
          go_wp2_with fail
          refine (xs_PrefixEnd_any _ (by omega) _).mono ?_
          rintro e' w4 ⟨rfl, hb4⟩
          rw [hpe]
          replace hL := hL.ext hb4
          replace hb2 := hb2.trans (hb4.mono hb2.size)
          go_wp2
          have L2 : ∀ s, s ∈ ks → s.size ≤ 10 ∧ bgn a s = (!Op.bytesLess s.toList a.toList && bgn a s) := fun s hs => by
            have := l2 s hs
            simp only [law2, hpe, sEmp, sLt, he', List.isEmpty_nil, Bool.and_eq_true, decide_eq_true_eq, beq_iff_eq, Bool.true_and, Bool.not_true, Bool.false_and, Bool.or_false] at this
            exact this
          clear l2 hpe
          go_loopw [19] (fun i wr => ∃ k : Nat, k ≤ 12 ∧ i = .int .i64 k ∧ ∃ m, wr = w4.drewN m) (fun i _ => 12 - (intOf i).toNat)
          case atStart => exact ⟨0, Nat.zero_le _, rfl, 0, rfl⟩
          case round =>
            obtain ⟨k, hk, rfl, m, rfl⟩ := hrel
            by_cases hlt : k < 12
            · have hj : k < ks.length := by omega
              have c0 : w4.cell? ⟨g, k, none⟩ = some (.string ks[k]) := by
                rw [hL.cell, List.getElem?_map, List.getElem?_eq_getElem hj]; rfl
              obtain ⟨hss, Ls⟩ := L2 ks[k] (List.getElem_mem hj)
              clear L2
              generalize ks[k] = s at c0 Ls hss
              have hsa : a.size ≤ maxLen := by unfold maxLen; omega
              have hss' : s.size ≤ maxLen := by unfold maxLen; omega
              have q4 : (k : Int) < 12 := by omega
              have hkn : (0 : Int) ≤ (k : Int) := by omega
              have hcall : ∀ W, Calls Try.prog 40 #[.string a, .string s] W fun e w' => e = .returned (.bool (bgn a s)) ∧ w' = W := fun W => same_r (begins_any a s hsa hss' W)
              generalize bgn a s = bb at hcall Ls
              cases bb <;> cases h2 : Op.bytesLess s.toList a.toList
              all_goals first
                | (exfalso; rw [h2] at Ls; cases Ls; done)
                | skip
              all_goals clear Ls
              all_goals go_wp2_with fail
              all_goals refine wp_region_seq (by kernel_rfl) (by kernel_rfl) ?_
              repeat' (first | (refine wpSeq_plain rfl ?_; go_wp2 <;> refine ⟨rfl, ?_⟩) | (refine wpSeq_call rfl (fun K hK => ?_); go_simp; first | refine ⟨_, (hcall _), hK _ ?_⟩ | refine hK _ ?_))
              all_goals refine wpSeq_nil ?_
              all_goals go_wp2
              all_goals exact ⟨⟨k + 1, by omega, by go_num, m + 1, rfl⟩, by simp [intOf]; omega⟩
            · obtain rfl : k = 12 := by omega
              go_wp2
              go_ret
              exact ⟨rfl, below_drewN hb2 _⟩
        · have he' : ¬ e.toList = [] := fun h => by rw [not_sLt_nil _ _ h] at he1; cases he1
          have heb : e.toList.isEmpty = false := by simp [he']
          have r1 : Op.bytesLess e.toList a.toList = false := sLt_asymm he1
          have r2 : ¬ e.toList = a.toList := fun h => by rw [tl_inj h, sLt_irrefl] at he1; cases he1
          have r3 : (e.toList == a.toList) = false := by simp [r2]
          have hsa : a.size ≤ maxLen := by unfold maxLen; omega
          have hse : e.size ≤ maxLen := by unfold maxLen; omega
          clear he1
          go_wp2_with fail
          refine (xs_PrefixEnd_any _ (by omega) _).mono ?_
          rintro e' w4 ⟨rfl, hb4⟩
          rw [hpe]
          replace hL := hL.ext hb4
          replace hb2 := hb2.trans (hb4.mono hb2.size)
          go_wp2_with (go_at_call 40; refine (begins_any _ _ hsa hse _).mono ?_; rintro e' w' ⟨rfl, rfl⟩; rw [he2])
          have L2 : ∀ s, s ∈ ks → s.size ≤ 10 ∧ bgn a s = (!Op.bytesLess s.toList a.toList && Op.bytesLess s.toList e.toList) := fun s hs => by
            have := l2 s hs
            simp only [law2, hpe, sEmp, sLt, heb, Bool.and_eq_true, decide_eq_true_eq, beq_iff_eq, Bool.true_and, Bool.not_true, Bool.not_false, Bool.false_and, Bool.or_false, Bool.false_or] at this
            exact this
          clear l2 hpe
          go_loopw [19] (fun i wr => ∃ k : Nat, k ≤ 12 ∧ i = .int .i64 k ∧ ∃ m, wr = w4.drewN m) (fun i _ => 12 - (intOf i).toNat)
          case atStart => exact ⟨0, Nat.zero_le _, rfl, 0, rfl⟩
          case round =>
            obtain ⟨k, hk, rfl, m, rfl⟩ := hrel
            by_cases hlt : k < 12
            · have hj : k < ks.length := by omega
              have c0 : w4.cell? ⟨g, k, none⟩ = some (.string ks[k]) := by
                rw [hL.cell, List.getElem?_map, List.getElem?_eq_getElem hj]; rfl
              obtain ⟨hss, Ls⟩ := L2 ks[k] (List.getElem_mem hj)
              clear L2
              generalize ks[k] = s at c0 Ls hss
              have hsa : a.size ≤ maxLen := by unfold maxLen; omega
              have hss' : s.size ≤ maxLen := by unfold maxLen; omega
              have q4 : (k : Int) < 12 := by omega
              have hkn : (0 : Int) ≤ (k : Int) := by omega
              have hcall : ∀ W, Calls Try.prog 40 #[.string a, .string s] W fun e w' => e = .returned (.bool (bgn a s)) ∧ w' = W := fun W => same_r (begins_any a s hsa hss' W)
              generalize bgn a s = bb at hcall Ls
              cases bb <;> cases h2 : Op.bytesLess s.toList a.toList <;> cases h3 : Op.bytesLess s.toList e.toList
              all_goals first
                | (exfalso; rw [h2, h3] at Ls; cases Ls; done)
                | skip
              all_goals clear Ls
              all_goals go_wp2_with fail
              all_goals refine wp_region_seq (by kernel_rfl) (by kernel_rfl) ?_
              repeat' (first | (refine wpSeq_plain rfl ?_; go_wp2 <;> refine ⟨rfl, ?_⟩) | (refine wpSeq_call rfl (fun K hK => ?_); go_simp; first | refine ⟨_, (hcall _), hK _ ?_⟩ | refine hK _ ?_))
              all_goals refine wpSeq_nil ?_
              all_goals go_wp2
              all_goals exact ⟨⟨k + 1, by omega, by go_num, m + 1, rfl⟩, by simp [intOf]; omega⟩
            · obtain rfl : k = 12 := by omega
              go_wp2
              go_ret
              exact ⟨rfl, below_drewN hb2 _⟩
theorem FnRanges_walk (w : World) (v : Value) (x : (GT.sl 5 .u8).den) (hx : RdT w (GT.sl 5 .u8) x [v]) :
    Calls Try.prog 11 #[v] w fun e w' => e = .returned (.bool true) ∧ Below w.heap.size w w' := by
  obtain ⟨A, cp, us, hv, hlc, hcm, hr, ht⟩ := RdT.sl.1 hx
  obtain rfl := RdTs_u8 ht
  simp only [List.cons.injEq, and_true] at hv
  subst hv
  exact FnRanges_core w A cp x hr (Nat.le_trans hlc hcm)
end Go.Proofs.Ytjmkkncjbnohoaa
