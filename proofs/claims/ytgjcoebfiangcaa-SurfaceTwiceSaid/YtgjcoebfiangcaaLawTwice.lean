/- SurfaceTwice: descending twice is descending once with the sum of both numbers, for all surfaces that are right (at most 80). No condition. -/
import Derived.Test.YtgjcoebfiangcaaArgs
import Derived.Test.YtgjcoebfiangcaaLaw2
namespace Go.Proofs.Ytgjcoebfiangcaa.lawTwice
open Go.ChangeShapes Go.WideShapes Go.ChangeAt Go.RowKit
set_option linter.unusedVariables false

set_option maxHeartbeats 1000000 in
theorem walk (v : Value) (xs : List Surf) (run a b : Int) (w : World) (hwf : ∀ x ∈ xs, wfS x) (hv : Row encS 3 w v xs) (hrun : (Lit.int .i64 run).wf = true) (ha : (Lit.int .u16 a).wf = true) (hb : (Lit.int .u16 b).wf = true) :
    Calls Try.prog 10 #[v, .int .i64 run, .int .u16 a, .int .u16 b] w fun e w' => e = .returned (.bool true) ∧ Below w.heap.size w w' := by
  have HV := Lib.hid hv; clear hwf
  obtain ⟨a1, a2⟩ := bounds_u16 ha
  obtain ⟨b1, b2⟩ := bounds_u16 hb
  clear ha hb hrun
  obtain ⟨A, c, rfl, hc1, hc2, hcells⟩ := hv
  clear hcells
  by_cases h80 : 80 < xs.length
  · go_enter Try.func10, Try.ntmps10
    go_wp2_with (go_at_call 11; refine (alive_any _).mono ?_; rintro e w1 ⟨rfl, b1'⟩)
    go_ret
    exact ⟨rfl, b1'⟩
  · have hd : decide (80 < xs.length) = false := by simpa using h80
    by_cases hr : right xs = 0
    · obtain ⟨hl0, hok, hpw⟩ := right_ok hr
      have hl : xs.length ≤ 1000 := by omega
      have HK := Lib.hid hok; have HR := Lib.hid hr
      have rr := Lib.hid fun W h => right_any xs (.slice A xs.length c) W h
      simp only [hr] at rr
      have hlaw := Lib.hid (twice_law hr run (a % 5001) (b % 5001) (by omega) (by omega) (by omega) (by omega))
      clear hok hpw hr hl0
      rcases idx_some xs run with hi | ⟨i, x, h1, h2, h3⟩
      · have d1 := Lib.hid fun W h => descend_any xs (.slice A xs.length c) run (a % 5001) W h hl HK.out
        simp only [descend_none hi] at d1
        clear hi
        go_enter Try.func10, Try.ntmps10
        go_wp2_with (first | (go_at_call 11; refine (alive_any _).mono ?_; rintro e w1 ⟨rfl, b1'⟩) | (go_at_call 12; refine (rr.out _ (HV.out.below b1')).mono ?_; rintro e w2 ⟨rfl, b2'⟩) | (go_at_call 17; refine (d1.out _ (HV.out.below (Below.step b1' b2'))).mono ?_; rintro e w3 ⟨v3, rfl, r3, b3'⟩; obtain ⟨A3, c3, rfl, _, _, _⟩ := r3))
        go_ret
        exact ⟨by simp, Below.step (Below.step b1' b2') b3'⟩
      · obtain ⟨hx1, hx2, hx3⟩ := hlaw.out ⟨i, x, h1, h2⟩
        have HX := Lib.hid hx1; have HX2 := Lib.hid hx2; have HX3 := Lib.hid hx3
        clear h1 h2 h3 hx1 hx2 hx3 hlaw
        go_enter Try.func10, Try.ntmps10
        go_wp2_with fail
        refine (alive_any _).mono ?_
        rintro e w1 ⟨rfl, b1'⟩
        go_wp2_with fail
        refine (rr.out _ (HV.out.below b1')).mono ?_
        rintro e w2 ⟨rfl, b2'⟩
        have b20 := Below.step b1' b2'
        go_wp2_with fail
        have d1 := descend_any xs (.slice A xs.length c) run (a % 5001) w2 (HV.out.below b20) hl HK.out
        rw [HX.out] at d1; dsimp only at d1
        refine d1.mono ?_
        rintro e w3 ⟨v3, rfl, r3, b3'⟩
        have R3 := Lib.hid r3; clear r3 d1
        have b30 := Below.step b20 b3'
        go_wp2_with fail
        have d2 := descend_any (descend xs run (a % 5001)).1 v3 run (b % 5001) w3 R3.out (Nat.le_trans (descend_length_le _ _ _) hl) HX2.out.1
        rw [HX2.out.2] at d2; dsimp only at d2
        refine d2.mono ?_
        rintro e w4 ⟨v4, rfl, r4, b4'⟩
        have R4 := Lib.hid r4; clear r4 d2
        have b40 := Below.step b30 b4'
        go_wp2_with fail
        have d3 := descend_any xs (.slice A xs.length c) run (a % 5001 + b % 5001) w4 (HV.out.below b40) hl HK.out
        rw [HX3.out] at d3; dsimp only at d3
        refine d3.mono ?_
        rintro e w5 ⟨v5, rfl, r5, b5'⟩
        have R5 := Lib.hid r5; clear r5 d3
        go_wp2_with (go_at_call 16; refine (same_true _ _ _ _ (R4.out.below b5') R5.out).mono ?_; rintro e w6 ⟨rfl, n6, rfl⟩)
        go_ret
        exact ⟨by simp, below_drewN (Below.step b40 b5') _⟩
    · have hq : (right xs != 0) = true := by simpa using hr
      have HR := Lib.hid hr; clear hr
      go_enter Try.func10, Try.ntmps10
      go_wp2_with (first | (go_at_call 11; refine (alive_any _).mono ?_; rintro e w1 ⟨rfl, b1'⟩) | (go_at_call 12; refine (right_any xs _ _ (HV.out.below b1')).mono ?_; rintro e w2 ⟨rfl, b2'⟩))
      go_ret
      exact ⟨rfl, Below.step b1' b2'⟩

/-! ### THE ROW's STEP -/
theorem own : ownKnob Try.prog.godebug = none := by kernel_rfl
theorem laidOut : laidOutB Try.prog = true := by kernel_rfl
set_option maxRecDepth 100000 in
theorem lifted (os : Os) (started : os.Started) (H : Type) (enc : TypeId × Value → H) :
    ReturnsInHanded {} Try.checked os 10 .any (Rows.surfaceTwiceSpec.pre6 enc Try.prog Try.f10 Rows.surfaceTwiceRow.domain false) (Rows.surfaceTwiceSpec.post enc Try.prog Try.f10 false true false false) := by
  refine returnsInHanded_of_change (C := Try.checked) own started (by kernel_rfl) Try.func10
    (ChangeSpec.witness6 (enc := enc) (C := Try.checked) false ⟨#[], #[.slice none 0 0, .int .i64 0, .int .u16 0, .int .u16 0], []⟩ 8 (by kernel_rfl) (by kernel_rfl) (by kernel_rfl) (by kernel_rfl)) ?_
  intro W base args ds gs before hval0 hW hcnd _
  have hval : ∀ (j : Nat) t v, Try.f10.params[j]? = some t → args[j]? = some v → Value.okWide Try.prog W .any base t v := hval0
  have hW' := hW
  obtain ⟨p, q, hA0, hV, rfl, hfz, hnd⟩ := hW
  have hA : DataW.TrodAll enc Try.prog W 0 (fun _ => true) true Try.f10.params.toList args.toList ds p := hA0
  rw [Try.params10] at hA hval
  obtain ⟨v0, vs0, d0, ds0, p0, q0, hargs, rfl, rfl, h0, r0⟩ := trodAll_cons hA
  obtain ⟨v1, vs1, d1, ds1, p1, q1, rfl, rfl, rfl, h1, r1⟩ := trodAll_cons r0
  obtain ⟨v2, vs2, d2, ds2, p2, q2, rfl, rfl, rfl, h2, r2⟩ := trodAll_cons r1
  obtain ⟨v3, vs3, d3, ds3, p3, q3, rfl, rfl, rfl, h3, r3⟩ := trodAll_cons r2
  obtain ⟨rfl, rfl, rfl⟩ := trodAll_nil r3
  obtain rfl : args = #[v0, v1, v2, v3] := by cases args; simp_all
  obtain ⟨rfl, rfl⟩ := trodVars_none hV
  have k0 := h0
  have lt0 : ∀ x ∈ p0, x.block < W.heap.size := by obtain ⟨m, hm⟩ := k0; exact DataW.trod_lt m _ _ _ hm
  obtain ⟨a0, len0, cap0, e0⟩ := okWide_slice Try.underlying22 (hval 0 22 v0 rfl rfl)
  obtain ⟨z0, w0, x0⟩ := openS e0 h0
  have k1 := h1
  have lt1 : ∀ x ∈ p1, x.block < W.heap.size := by obtain ⟨m, hm⟩ := k1; exact DataW.trod_lt m _ _ _ hm
  obtain ⟨a1, rfl, rfl, rfl, w1⟩ := open_int Try.underlying3 (hval 1 3 v1 rfl rfl) h1
  have k2 := h2
  have lt2 : ∀ x ∈ p2, x.block < W.heap.size := by obtain ⟨m, hm⟩ := k2; exact DataW.trod_lt m _ _ _ hm
  obtain ⟨a2, rfl, rfl, rfl, w2⟩ := open_int Try.underlying40 (hval 2 40 v2 rfl rfl) h2
  have k3 := h3
  have lt3 : ∀ x ∈ p3, x.block < W.heap.size := by obtain ⟨m, hm⟩ := k3; exact DataW.trod_lt m _ _ _ hm
  obtain ⟨a3, rfl, rfl, rfl, w3⟩ := open_int Try.underlying40 (hval 3 40 v3 rfl rfl) h3
  clear hA0 hval0
  refine (walk v0 z0 a1 a2 a3 W w0 x0 w1 w2 w3).mono fun e W' ⟨he, bel⟩ => ?_
  subst he
  exact ⟨_, rfl, _, _, _, [], _, [], hW', trodAll_mk1 (shut_bool Try.underlying4 _), (trodAll_cons_mk (Below.trod laidOut (by kernel_rfl) (of_decide_eq_true (by kernel_rfl)) k0 bel lt0) (trodAll_cons_mk (Below.trod laidOut (by kernel_rfl) (of_decide_eq_true (by kernel_rfl)) k1 bel lt1) (trodAll_cons_mk (Below.trod laidOut (by kernel_rfl) (of_decide_eq_true (by kernel_rfl)) k2 bel lt2) (trodAll_cons_mk (Below.trod laidOut (by kernel_rfl) (of_decide_eq_true (by kernel_rfl)) k3 bel lt3) trodAll_mk0)))), rfl, bel.frame _, fun h => by cases h⟩

theorem over : Rows.surfaceTwiceRow.holds Try.pinned (OpenSpec.ofChange Rows.surfaceTwiceSpec) :=
  OpenClaim.holds_of_wide 10 Try.f10 rfl rfl rfl rfl rfl rfl rfl ⟨rfl, rfl, rfl, rfl, rfl⟩ rfl rfl rfl rfl rfl (by kernel_rfl) Try.func10 (by kernel_rfl)
    (of_decide_eq_true (by kernel_rfl)) (by unfold Func.isWrapper; first | (rw [if_pos (by decide +kernel)]; kernel_rfl) | (rw [if_neg (by decide +kernel)]; exact ⟨rfl, rfl⟩))
    (fun os started H enc _ => lifted os started H enc)

theorem proved : Rows.SurfaceTwiceSaid := over
end Go.Proofs.Ytgjcoebfiangcaa.lawTwice
