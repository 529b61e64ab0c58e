/- SurfaceWorsts: surface.Worst returns what the reference's Worst returns, for all surfaces that are right, any time and any quality. No condition. -/
import Derived.Test.YtgjcoebfiangcaaArgs
namespace Go.Proofs.Ytgjcoebfiangcaa.lawWorsts
open Go.ChangeShapes Go.WideShapes Go.ChangeAt Go.RowKit
set_option linter.unusedVariables false

set_option maxHeartbeats 1000000 in
theorem walk (v : Value) (xs : List Surf) (a b : Int) (w : World) (hwf : ∀ x ∈ xs, wfS x) (hv : Row encS 3 w v xs) (ha : (Lit.int .i64 a).wf = true) (hb : (Lit.int .i64 b).wf = true) :
    Calls Try.prog 7 #[v, .int .i64 a, .int .i64 b] w fun e w' => e = .returned (.bool true) ∧ Below w.heap.size w w' := by
  have HV := Lib.hid hv; clear hwf hv
  have ha2 : a ≤ 9223372036854775807 := (bounds_i64 ha).2
  clear ha hb
  by_cases hr : right xs = 0
  · obtain ⟨hl0, hok, hpw⟩ := right_ok hr
    have hl : xs.length ≤ 1000 := by omega
    have HK := Lib.hid hok; have HR := Lib.hid hr
    have rr := Lib.hid fun W h => refRight_any xs v W h
    simp only [hr] at rr
    clear hok hpw hr hl0
    go_enter Try.func7, Try.ntmps7
    go_wp2_with (first | (go_at_call 11; refine (alive_any _).mono ?_; rintro e w1 ⟨rfl, b1⟩) | (go_at_call 13; refine (rr.out _ (HV.out.below b1)).mono ?_; rintro e w2 ⟨rfl, b2⟩) | (go_at_call 22; refine (worst_any xs _ a b _ (HV.out.below (Below.step b1 b2)) hl HK.out ha2).mono ?_; rintro e w3 ⟨v3, ys, rfl, r3, hp3, hs3, b3⟩; rw [worst_eq HR.out hp3 hs3] at r3; have R3 := Lib.hid r3; clear r3 hp3 hs3) | (go_at_call 23; refine (refWorst_any xs _ a b _ (HV.out.below (Below.step (Below.step b1 b2) b3)) hl HK.out ha2).mono ?_; rintro e w4 ⟨v4, rfl, r4, b4⟩; have R4 := Lib.hid r4; clear r4) | (go_at_call 21; refine (sameInts_true (worst xs a b) _ _ _ (R3.out.below b4) R4.out).mono ?_; rintro e w5 ⟨rfl, n5, rfl⟩))
    go_ret
    exact ⟨by simp, below_drewN (Below.step (Below.step (Below.step b1 b2) b3) b4) _⟩
  · have hq : (right xs != 0) = true := by simpa using hr
    have HR := Lib.hid hr; clear hr
    go_enter Try.func7, Try.ntmps7
    go_wp2_with (first | (go_at_call 11; refine (alive_any _).mono ?_; rintro e w1 ⟨rfl, b1⟩) | (go_at_call 13; refine (refRight_any xs _ _ (HV.out.below b1)).mono ?_; rintro e w2 ⟨rfl, b2⟩))
    go_ret
    exact ⟨rfl, Below.step b1 b2⟩

/-! ### THE ROW's STEP -/
theorem own : ownKnob Try.prog.godebug = none := by kernel_rfl
theorem laidOut : laidOutB Try.prog = true := by kernel_rfl
set_option maxRecDepth 100000 in
theorem lifted (os : Os) (started : os.Started) (H : Type) (enc : TypeId × Value → H) :
    ReturnsInHanded {} Try.checked os 7 .any (Rows.surfaceWorstsSpec.pre6 enc Try.prog Try.f7 Rows.surfaceWorstsRow.domain false) (Rows.surfaceWorstsSpec.post enc Try.prog Try.f7 false true false false) := by
  refine returnsInHanded_of_change (C := Try.checked) own started (by kernel_rfl) Try.func7
    (ChangeSpec.witness6 (enc := enc) (C := Try.checked) false ⟨#[], #[.slice none 0 0, .int .i64 0, .int .i64 0], []⟩ 8 (by kernel_rfl) (by kernel_rfl) (by kernel_rfl) (by kernel_rfl)) ?_
  intro W base args ds gs before hval0 hW hcnd _
  have hval : ∀ (j : Nat) t v, Try.f7.params[j]? = some t → args[j]? = some v → Value.okWide Try.prog W .any base t v := hval0
  have hW' := hW
  obtain ⟨p, q, hA0, hV, rfl, hfz, hnd⟩ := hW
  have hA : DataW.TrodAll enc Try.prog W 0 (fun _ => true) true Try.f7.params.toList args.toList ds p := hA0
  rw [Try.params7] at hA hval
  obtain ⟨v0, vs0, d0, ds0, p0, q0, hargs, rfl, rfl, h0, r0⟩ := trodAll_cons hA
  obtain ⟨v1, vs1, d1, ds1, p1, q1, rfl, rfl, rfl, h1, r1⟩ := trodAll_cons r0
  obtain ⟨v2, vs2, d2, ds2, p2, q2, rfl, rfl, rfl, h2, r2⟩ := trodAll_cons r1
  obtain ⟨rfl, rfl, rfl⟩ := trodAll_nil r2
  obtain rfl : args = #[v0, v1, v2] := by cases args; simp_all
  obtain ⟨rfl, rfl⟩ := trodVars_none hV
  have k0 := h0
  have lt0 : ∀ x ∈ p0, x.block < W.heap.size := by obtain ⟨m, hm⟩ := k0; exact DataW.trod_lt m _ _ _ hm
  obtain ⟨a0, len0, cap0, e0⟩ := okWide_slice Try.underlying22 (hval 0 22 v0 rfl rfl)
  obtain ⟨z0, w0, x0⟩ := openS e0 h0
  have k1 := h1
  have lt1 : ∀ x ∈ p1, x.block < W.heap.size := by obtain ⟨m, hm⟩ := k1; exact DataW.trod_lt m _ _ _ hm
  obtain ⟨a1, rfl, rfl, rfl, w1⟩ := open_int Try.underlying3 (hval 1 3 v1 rfl rfl) h1
  have k2 := h2
  have lt2 : ∀ x ∈ p2, x.block < W.heap.size := by obtain ⟨m, hm⟩ := k2; exact DataW.trod_lt m _ _ _ hm
  obtain ⟨a2, rfl, rfl, rfl, w2⟩ := open_int Try.underlying3 (hval 2 3 v2 rfl rfl) h2
  clear hA0 hval0
  refine (walk v0 z0 a1 a2 W w0 x0 w1 w2).mono fun e W' ⟨he, bel⟩ => ?_
  subst he
  exact ⟨_, rfl, _, _, _, [], _, [], hW', trodAll_mk1 (shut_bool Try.underlying4 _), (trodAll_cons_mk (Below.trod laidOut (by kernel_rfl) (of_decide_eq_true (by kernel_rfl)) k0 bel lt0) (trodAll_cons_mk (Below.trod laidOut (by kernel_rfl) (of_decide_eq_true (by kernel_rfl)) k1 bel lt1) (trodAll_cons_mk (Below.trod laidOut (by kernel_rfl) (of_decide_eq_true (by kernel_rfl)) k2 bel lt2) trodAll_mk0))), rfl, bel.frame _, fun h => by cases h⟩

theorem over : Rows.surfaceWorstsRow.holds Try.pinned (OpenSpec.ofChange Rows.surfaceWorstsSpec) :=
  OpenClaim.holds_of_wide 7 Try.f7 rfl rfl rfl rfl rfl rfl rfl ⟨rfl, rfl, rfl, rfl, rfl⟩ rfl rfl rfl rfl rfl (by kernel_rfl) Try.func7 (by kernel_rfl)
    (of_decide_eq_true (by kernel_rfl)) (by unfold Func.isWrapper; first | (rw [if_pos (by decide +kernel)]; kernel_rfl) | (rw [if_neg (by decide +kernel)]; exact ⟨rfl, rfl⟩))
    (fun os started H enc _ => lifted os started H enc)

theorem proved : Rows.SurfaceWorstsSaid := over
end Go.Proofs.Ytgjcoebfiangcaa.lawWorsts
