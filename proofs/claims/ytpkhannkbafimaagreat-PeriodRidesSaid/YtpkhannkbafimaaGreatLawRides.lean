/- PeriodRides: Rides returns the rides of any period, in order. No condition. -/
import Derived.Test.YtpkhannkbafimaaGreatArg
import Derived.Test.YtpkhannkbafimaaGreatRJ
namespace Go.Proofs.YtpkhannkbafimaaGreat.lawRides
open Go.ChangeShapes Go.WideShapes Go.ChangeAt Go.RowKit Go.Deep Go.Joins
set_option linter.unusedVariables false
set_option maxRecDepth 20000

/-! skiarea/skiarealaw38.PeriodRides -/
def lawIr : IFn := ⟨24, [.tmp 4],
  (.seq (.ops [
    ⟨(some 2), .box, [.tmp 0], none⟩,
    ⟨(some 4), .mov, [.const (.bool false)], none⟩] false)
  (.seq (.seq (.ops [
    ⟨(some 5), .call 11, [], none⟩,
    ⟨(some 6), .not, [.tmp 5], none⟩] false)
  (.cond (.tmp 6)
    (.seq (.ops [
      ⟨(some 4), .mov, [.const (.bool false)], none⟩] false)
    .ret)
    .skip))
  (.seq (.ops [
    ⟨(some 7), .load 3 true, [.tmp 2], none⟩,
    ⟨(some 8), .call 12, [.tmp 7], none⟩,
    ⟨(some 9), .not, [.tmp 8], none⟩,
    ⟨(some 10), .mov, [.tmp 9], none⟩,
    ⟨(some 11), .load 3 true, [.tmp 2], (some (10, false))⟩,
    ⟨(some 12), .call 14, [.tmp 11], (some (10, false))⟩,
    ⟨(some 13), .cmp .neq, [.tmp 12, .const (.int .i64 0)], (some (10, false))⟩,
    ⟨(some 14), .pick, [.tmp 10, .const (.bool true), .tmp 13], none⟩,
    ⟨(some 15), .mov, [.tmp 14], none⟩,
    ⟨(some 16), .load 3 true, [.tmp 2], (some (15, false))⟩,
    ⟨(some 17), .mov, [.tmp 1], (some (15, false))⟩,
    ⟨(some 18), .call 23, [.tmp 16, .tmp 17], (some (15, false))⟩,
    ⟨(some 19), .load 3 true, [.tmp 2], (some (15, false))⟩,
    ⟨(some 20), .mov, [.tmp 1], (some (15, false))⟩,
    ⟨(some 21), .call 24, [.tmp 19, .tmp 20], (some (15, false))⟩,
    ⟨(some 22), .call 22, [.tmp 18, .tmp 21], (some (15, false))⟩,
    ⟨(some 23), .pick, [.tmp 15, .const (.bool true), .tmp 22], none⟩,
    ⟨(some 4), .mov, [.tmp 23], none⟩] true)
  .ret)))⟩
theorem lawLow : lowF Tryz.prog {} Tryz.f6 = some lawIr := by kernel_rfl
def lawS : Spec := spec (Bk × Int) (fun p => [aB p.1, I p.2]) (fun p => okB p.1) (fun _ => B true)
set_option maxHeartbeats 1000000 in
theorem lawV : fnV Tryz.prog lawIr lawS := by
  intro ⟨(b : Bk), (n : Int)⟩ ho
  replace ho : okB b := ho
  have hlp : (b.ps.map encP).length = b.ps.length := List.length_map ..
  have hlo : (b.po.map encO).length = b.po.length := List.length_map ..
  have hlr : (b.rs.map encC).length = b.rs.length := List.length_map ..
  show vc _ _ _ _ ⟨argEnv 0 [aB b, I n], [], 0⟩
  by_cases hd : FewB b ∧ rightB b = 0
  · have hr := rb_of hd.2
    obtain ⟨x, hX⟩ : ∃ x, ridesOf b n = x := ⟨_, rfl⟩
    have hxo : x.length ≤ 9223372036854775807 := by have := ridesOf_len b n; have := hr.r2000; rw [← hX]; omega
    repeat' ((conv => whnf); first | (refine ⟨fun h => ?_, fun h => ?_⟩ <;> try (exfalso; first | omega | exact absurd h (by decide) | exact h rfl | exact absurd (show true = false from h) (by decide) | exact absurd (show false = true from h) (by decide))) | (refine ⟨_, alive_h, (), trivial, leVs_of_eq rfl, .inl rfl, rfl, ?_⟩; show norm (B true) _) | (refine ⟨_, few_h, b, ho, leVs_of_eq rfl, .inl rfl, rfl, ?_⟩; show norm (B (decide (FewB b))) _; rw [decide_eq_true hd.1]) | (refine ⟨_, rRight_h, b, ho, leVs_of_eq rfl, .inl rfl, rfl, ?_⟩; show norm (I (rightB b)) _; rw [hd.2]) | (refine ⟨_, rides_h, (b, n), hr.rid, leVs_of_eq rfl, .inl rfl, rfl, ?_⟩; show norm (L 7 ((ridesOf b n).map encD)) _; rw [hX]) | (refine ⟨_, rrides_h, (b, n), hr.rid, leVs_of_eq rfl, .inl rfl, rfl, ?_⟩; show norm (L 7 ((ridesOf b n).map encD)) _; rw [hX]) | (refine ⟨_, sameD_h, (x, x), hxo, leVs_of_eq rfl, .inl rfl, rfl, ?_⟩; show norm (B (decide (x = x))) _; rw [decide_eq_true rfl]) | exact ⟨[], rfl, trivial, rfl⟩ | fail)
  · cases d : decide (FewB b) with
    | false => repeat' ((conv => whnf); first | (refine ⟨fun h => ?_, fun h => ?_⟩ <;> try (exfalso; first | omega | exact absurd h (by decide) | exact h rfl | exact absurd (show true = false from h) (by decide) | exact absurd (show false = true from h) (by decide))) | (refine ⟨_, alive_h, (), trivial, leVs_of_eq rfl, .inl rfl, rfl, ?_⟩; show norm (B true) _) | (refine ⟨_, few_h, b, ho, leVs_of_eq rfl, .inl rfl, rfl, ?_⟩; show norm (B (decide (FewB b))) _; rw [d]) | exact ⟨[], rfl, trivial, rfl⟩ | fail)
    | true =>
      have hne : rightB b ≠ 0 := fun h => hd ⟨of_decide_eq_true d, h⟩
      repeat' ((conv => whnf); first | (refine ⟨fun h => ?_, fun h => ?_⟩ <;> try (exfalso; first | omega | exact absurd h (by decide) | exact h rfl | exact absurd (show true = false from h) (by decide) | exact absurd (show false = true from h) (by decide))) | (refine ⟨_, alive_h, (), trivial, leVs_of_eq rfl, .inl rfl, rfl, ?_⟩; show norm (B true) _) | (refine ⟨_, few_h, b, ho, leVs_of_eq rfl, .inl rfl, rfl, ?_⟩; show norm (B (decide (FewB b))) _; rw [d]) | (refine ⟨_, rRight_h, b, ho, leVs_of_eq rfl, .inl rfl, rfl, ?_⟩; show norm (I (rightB b)) _) | exact ⟨[], rfl, trivial, rfl⟩ | fail)
theorem law_h : Holds Tryz.prog 6 lawS := holds_of mix Tryz.func6 lawLow (fun _ => rfl) lawV

/-! ### THE ROW's STEP -/
theorem own : ownKnob Tryz.prog.godebug = none := by kernel_rfl
theorem laidOut : laidOutB Tryz.prog = true := by kernel_rfl
set_option maxRecDepth 100000 in
theorem lifted (os : Os) (started : os.Started) (H : Type) (enc : TypeId × Value → H) :
    ReturnsInHanded {} Tryz.checked os 6 .any (Rows.periodRidesSpec.pre6 enc Tryz.prog Tryz.f6 Rows.periodRidesRow.domain false) (Rows.periodRidesSpec.post enc Tryz.prog Tryz.f6 false true false false) := by
  refine returnsInHanded_of_change (C := Tryz.checked) own started (by kernel_rfl) Tryz.func6
    (ChangeSpec.witness6 (enc := enc) (C := Tryz.checked) false ⟨#[], #[.agg #[.slice none 0 0, .slice none 0 0, .slice none 0 0], .int .i64 0], []⟩ 8 (by kernel_rfl) (by kernel_rfl) (by kernel_rfl) (by kernel_rfl)) ?_
  intro W base args ds gs before hval0 hW hcnd _
  have hval : ∀ (j : Nat) t v, Tryz.f6.params[j]? = some t → args[j]? = some v → Value.okWide Tryz.prog W .any base t v := hval0
  have hW' := hW
  obtain ⟨p, q, hA0, hV, rfl, hfz, hnd⟩ := hW
  have hA : DataW.TrodAll enc Tryz.prog W 0 (fun _ => true) true Tryz.f6.params.toList args.toList ds p := hA0
  rw [Tryz.params6] at hA hval
  obtain ⟨v0, vs0, d0, ds0, p0, q0, hargs, rfl, rfl, h0, r0⟩ := trodAll_cons hA
  obtain ⟨v1, vs1, d1, ds1, p1, q1, rfl, rfl, rfl, h1, r1⟩ := trodAll_cons r0
  obtain ⟨rfl, rfl, rfl⟩ := trodAll_nil r1
  obtain rfl : args = #[v0, v1] := by cases args; simp_all
  obtain ⟨rfl, rfl⟩ := trodVars_none hV
  have lt0 : ∀ x ∈ p0, x.block < W.heap.size := by obtain ⟨m, hm⟩ := h0; exact DataW.trod_lt m _ _ _ hm
  obtain ⟨z0, w0, x0⟩ := openB (hval 0 26 v0 rfl rfl) h0
  have lt1 : ∀ x ∈ p1, x.block < W.heap.size := by obtain ⟨m, hm⟩ := h1; exact DataW.trod_lt m _ _ _ hm
  obtain ⟨z1, w1, x1⟩ := open_i Tryz.underlying3 (hval 1 3 v1 rfl rfl) h1
  clear hA0 hval0
  refine Calls.mono (law_calls law_h (z0, z1) w0 rfl (vs := [v0, v1]) (replist_mk x0 (replist_mk x1 replist_mk0))) fun e W' ⟨he, bel⟩ => ?_
  subst he
  exact ⟨_, rfl, _, _, _, [], _, [], hW', trodAll_mk1 (shut_bool Tryz.underlying4 _), (trodAll_cons_mk (Below.trod laidOut (by kernel_rfl) (of_decide_eq_true (by kernel_rfl)) h0 bel lt0) (trodAll_cons_mk (Below.trod laidOut (by kernel_rfl) (of_decide_eq_true (by kernel_rfl)) h1 bel lt1) trodAll_mk0)), rfl, bel.frame _, fun h => by cases h⟩

theorem over : Rows.periodRidesRow.holds Tryz.pinned (OpenSpec.ofChange Rows.periodRidesSpec) :=
  OpenClaim.holds_of_wide 6 Tryz.f6 rfl rfl rfl rfl rfl rfl rfl ⟨rfl, rfl, rfl, rfl, rfl⟩ rfl rfl rfl rfl rfl (by kernel_rfl) Tryz.func6 (by kernel_rfl)
    (of_decide_eq_true (by kernel_rfl)) (by unfold Func.isWrapper; first | (rw [if_pos (by decide +kernel)]; kernel_rfl) | (rw [if_neg (by decide +kernel)]; exact ⟨rfl, rfl⟩))
    (fun os started H enc _ => lifted os started H enc)

theorem proved : Rows.PeriodRidesSaid := over
end Go.Proofs.YtpkhannkbafimaaGreat.lawRides
