/- SurfaceQualities: surface.Quality returns what the reference's Quality returns, for every surface that is right and any time. No condition. -/
import Derived.Test.YtgjcoebfiangcaaArgs
namespace Go.Proofs.Ytgjcoebfiangcaa.lawQualities
open Go.ChangeShapes Go.WideShapes Go.ChangeAt Go.RowKit
set_option linter.unusedVariables false

set_option maxHeartbeats 1000000 in
theorem walk (x : Surf) (a : Int) (w : World) (hwf : wfS x) (ha : (Lit.int .i64 a).wf = true) :
    Calls Try.prog 6 #[.agg #[.int .i64 x.run, .int .i64 x.groomed, .int .i64 x.traffic], .int .i64 a] w fun e w' => e = .returned (.bool true) ∧ Below w.heap.size w w' := by
  clear hwf
  have ha2 : a ≤ 9223372036854775807 := (bounds_i64 ha).2
  clear ha
  have b0 : Below w.heap.size w (w.alloc (.cells #[.int .i64 x.run, .int .i64 x.groomed, .int .i64 x.traffic] 32)) := (Below.refl _ w).alloc (Nat.le_refl _) _
  have al := Lib.hid (alive_any (w.alloc (.cells #[.int .i64 x.run, .int .i64 x.groomed, .int .i64 x.traffic] 32)))
  have rx := Lib.hid fun W : World => refRight_any [x] (.slice (some ⟨W.heap.size, 0, none⟩) 1 1) (W.alloc (.cells #[.int .i64 x.run, .int .i64 x.groomed, .int .i64 x.traffic] 32)).drew (Row.drew (row_lit_at encS_len W 32 W.heap.size [x] (by simp) rfl))
  by_cases hr : right [x] = 0
  · have hok := (right_ok hr).2.1 x (by simp)
    have q1 := Lib.hid fun W => quality_any x a W hok ha2
    have q2 := Lib.hid fun W => refQuality_any x a W hok ha2
    simp only [hr] at rx
    clear hr hok
    go_enter Try.func6, Try.ntmps6
    go_wp2_with (go_at_call 11; refine al.out.mono ?_; rintro e w1 ⟨rfl, b1⟩)
    have hz : w.heap.size + 1 ≤ w1.heap.size := by simpa using b1.size
    have hne : w.heap.size ≠ w1.heap.size := by omega
    have c0 := (b1.cell (p := ⟨w.heap.size, 0, none⟩) (by simp; try omega)).trans (by simp : _ = some (.int .i64 x.run)); have c1 := (b1.cell (p := ⟨w.heap.size, 1, none⟩) (by simp; try omega)).trans (by simp : _ = some (.int .i64 x.groomed)); have c2 := (b1.cell (p := ⟨w.heap.size, 2, none⟩) (by simp; try omega)).trans (by simp : _ = some (.int .i64 x.traffic))
    go_region_held3 (fun w' => w'.cell? ⟨w.heap.size, 0, none⟩ = some (.int .i64 x.run) ∧ w'.cell? ⟨w.heap.size, 1, none⟩ = some (.int .i64 x.groomed) ∧ w'.cell? ⟨w.heap.size, 2, none⟩ = some (.int .i64 x.traffic)) (((try dsimp only); (repeat' apply And.intro) <;> ((try simp only [World.cell?_drew]); first | assumption | (simp; done) | (apply cell_lt_alloc; first | assumption | (apply cell_lt_alloc; first | assumption | (apply cell_lt_alloc; assumption))))))
      (first | (go_at_call 13; refine Calls.mono (rx.out _) ?_; rintro e w2 ⟨rfl, b2⟩; have d0 := (b2.cell (p := ⟨w.heap.size, 0, none⟩) (by simp; omega)).trans ((World.cell?_alloc_lt w1 _ ⟨w.heap.size, 0, none⟩ (by show w.heap.size < _; omega)).trans c0); have d1 := (b2.cell (p := ⟨w.heap.size, 1, none⟩) (by simp; omega)).trans ((World.cell?_alloc_lt w1 _ ⟨w.heap.size, 1, none⟩ (by show w.heap.size < _; omega)).trans c1); have d2 := (b2.cell (p := ⟨w.heap.size, 2, none⟩) (by simp; omega)).trans ((World.cell?_alloc_lt w1 _ ⟨w.heap.size, 2, none⟩ (by show w.heap.size < _; omega)).trans c2)) | (go_at_call 19; refine Calls.mono (q1.out _) ?_; rintro e w' ⟨rfl, rfl⟩) | (go_at_call 20; refine Calls.mono (q2.out _) ?_; rintro e w' ⟨rfl, rfl⟩))
    go_wp2
    go_ret
    exact ⟨by simp, Below.step b0 (Below.step b1 (((Below.refl _ _).alloc (Nat.le_refl _) _).drew.trans ((b2.trans (Lays.below (by repeat (first | exact Lays.refl _ | apply Lays.alloc | apply Lays.drew | apply Lays.drewN)) |>.mono b2.size)).mono (by simp))))⟩
  · have h2 := right_one x hr
    simp only [h2] at rx
    clear hr h2
    go_enter Try.func6, Try.ntmps6
    go_wp2_with (go_at_call 11; refine al.out.mono ?_; rintro e w1 ⟨rfl, b1⟩)
    have hz : w.heap.size + 1 ≤ w1.heap.size := by simpa using b1.size
    have c0 := (b1.cell (p := ⟨w.heap.size, 0, none⟩) (by simp; try omega)).trans (by simp : _ = some (.int .i64 x.run)); have c1 := (b1.cell (p := ⟨w.heap.size, 1, none⟩) (by simp; try omega)).trans (by simp : _ = some (.int .i64 x.groomed)); have c2 := (b1.cell (p := ⟨w.heap.size, 2, none⟩) (by simp; try omega)).trans (by simp : _ = some (.int .i64 x.traffic))
    first
      | (go_region_with (go_at_call 13; refine Calls.mono (rx.out _) ?_; rintro e w2 ⟨rfl, b2⟩))
      | fail
    all_goals
      go_wp2
      go_ret
      exact ⟨by first | rfl | simp, Below.step b0 (Below.step b1 (((Below.refl _ _).alloc (Nat.le_refl _) _).drew.trans (b2.mono (by simp))))⟩

/-! ### THE ROW's STEP -/
theorem own : ownKnob Try.prog.godebug = none := by kernel_rfl
theorem laidOut : laidOutB Try.prog = true := by kernel_rfl
set_option maxRecDepth 100000 in
theorem lifted (os : Os) (started : os.Started) (H : Type) (enc : TypeId × Value → H) :
    ReturnsInHanded {} Try.checked os 6 .any (Rows.surfaceQualitiesSpec.pre6 enc Try.prog Try.f6 Rows.surfaceQualitiesRow.domain false) (Rows.surfaceQualitiesSpec.post enc Try.prog Try.f6 false true false false) := by
  refine returnsInHanded_of_change (C := Try.checked) own started (by kernel_rfl) Try.func6
    (ChangeSpec.witness6 (enc := enc) (C := Try.checked) false ⟨#[], #[.agg #[.int .i64 0, .int .i64 0, .int .i64 0], .int .i64 0], []⟩ 8 (by kernel_rfl) (by kernel_rfl) (by kernel_rfl) (by kernel_rfl)) ?_
  intro W base args ds gs before hval0 hW hcnd _
  have hval : ∀ (j : Nat) t v, Try.f6.params[j]? = some t → args[j]? = some v → Value.okWide Try.prog W .any base t v := hval0
  have hW' := hW
  obtain ⟨p, q, hA0, hV, rfl, hfz, hnd⟩ := hW
  have hA : DataW.TrodAll enc Try.prog W 0 (fun _ => true) true Try.f6.params.toList args.toList ds p := hA0
  rw [Try.params6] at hA hval
  obtain ⟨v0, vs0, d0, ds0, p0, q0, hargs, rfl, rfl, h0, r0⟩ := trodAll_cons hA
  obtain ⟨v1, vs1, d1, ds1, p1, q1, rfl, rfl, rfl, h1, r1⟩ := trodAll_cons r0
  obtain ⟨rfl, rfl, rfl⟩ := trodAll_nil r1
  obtain rfl : args = #[v0, v1] := by cases args; simp_all
  obtain ⟨rfl, rfl⟩ := trodVars_none hV
  have k0 := h0
  have lt0 : ∀ x ∈ p0, x.block < W.heap.size := by obtain ⟨m, hm⟩ := k0; exact DataW.trod_lt m _ _ _ hm
  obtain ⟨z0, e0, w0⟩ := openA (hval 0 32 v0 rfl rfl) h0
  subst e0
  have k1 := h1
  have lt1 : ∀ x ∈ p1, x.block < W.heap.size := by obtain ⟨m, hm⟩ := k1; exact DataW.trod_lt m _ _ _ hm
  obtain ⟨a1, rfl, rfl, rfl, w1⟩ := open_int Try.underlying3 (hval 1 3 v1 rfl rfl) h1
  clear hA0 hval0
  refine (walk z0 a1 W w0 w1).mono fun e W' ⟨he, bel⟩ => ?_
  subst he
  exact ⟨_, rfl, _, _, _, [], _, [], hW', trodAll_mk1 (shut_bool Try.underlying4 _), (trodAll_cons_mk (Below.trod laidOut (by kernel_rfl) (of_decide_eq_true (by kernel_rfl)) k0 bel lt0) (trodAll_cons_mk (Below.trod laidOut (by kernel_rfl) (of_decide_eq_true (by kernel_rfl)) k1 bel lt1) trodAll_mk0)), rfl, bel.frame _, fun h => by cases h⟩

theorem over : Rows.surfaceQualitiesRow.holds Try.pinned (OpenSpec.ofChange Rows.surfaceQualitiesSpec) :=
  OpenClaim.holds_of_wide 6 Try.f6 rfl rfl rfl rfl rfl rfl rfl ⟨rfl, rfl, rfl, rfl, rfl⟩ rfl rfl rfl rfl rfl (by kernel_rfl) Try.func6 (by kernel_rfl)
    (of_decide_eq_true (by kernel_rfl)) (by unfold Func.isWrapper; first | (rw [if_pos (by decide +kernel)]; kernel_rfl) | (rw [if_neg (by decide +kernel)]; exact ⟨rfl, rfl⟩))
    (fun os started H enc _ => lifted os started H enc)

theorem proved : Rows.SurfaceQualitiesSaid := over
end Go.Proofs.Ytgjcoebfiangcaa.lawQualities
