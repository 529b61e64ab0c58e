/- PeriodEnters: Enter returns the books after any ride was entered, and its period, or the first error. No condition. -/
import Derived.Test.YtpkhannkbafimaaGreatArg
import Derived.Test.YtpkhannkbafimaaGreatRJ
import Derived.Test.YtpkhannkbafimaaGreatR9
namespace Go.Proofs.YtpkhannkbafimaaGreat.lawEnters
open Go.ChangeShapes Go.WideShapes Go.ChangeAt Go.RowKit Go.Deep Go.Joins
set_option linter.unusedVariables false
set_option maxRecDepth 20000

/-! skiarea/skiarealaw38.PeriodEnters -/
def lawIr : IFn := ⟨48, [.tmp 4],
  (.seq (.ops [
    ⟨(some 2), .box, [.tmp 0], none⟩,
    ⟨(some 3), .box, [.tmp 1], none⟩,
    ⟨(some 4), .mov, [.const (.bool false)], none⟩] false)
  (.seq (.seq (.ops [
    ⟨(some 11), .call 11, [], none⟩,
    ⟨(some 12), .not, [.tmp 11], none⟩] false)
  (.cond (.tmp 12)
    (.seq (.ops [
      ⟨(some 4), .mov, [.const (.bool false)], none⟩] false)
    .ret)
    .skip))
  (.seq (.seq (.ops [
    ⟨(some 13), .load 3 true, [.tmp 2], none⟩,
    ⟨(some 14), .call 12, [.tmp 13], none⟩,
    ⟨(some 15), .not, [.tmp 14], none⟩,
    ⟨(some 16), .mov, [.tmp 15], none⟩,
    ⟨(some 17), .load 3 true, [.tmp 2], (some (16, false))⟩,
    ⟨(some 18), .call 14, [.tmp 17], (some (16, false))⟩,
    ⟨(some 19), .cmp .neq, [.tmp 18, .const (.int .i64 0)], (some (16, false))⟩,
    ⟨(some 20), .pick, [.tmp 16, .const (.bool true), .tmp 19], none⟩] false)
  (.cond (.tmp 20)
    (.seq (.ops [
      ⟨(some 4), .mov, [.const (.bool true)], none⟩] false)
    .ret)
    .skip))
  (.seq (.ops [
    ⟨(some 22), .load 3 true, [.tmp 2], none⟩,
    ⟨(some 23), .load 7 true, [.tmp 3], none⟩,
    ⟨(some 24), .call 20, [.tmp 22, .tmp 23], none⟩,
    ⟨(some 21), .mov, [.tmp 24], none⟩,
    ⟨(some 25), .extract 0, [.tmp 21], none⟩,
    ⟨(some 26), .extract 1, [.tmp 21], none⟩,
    ⟨(some 27), .extract 2, [.tmp 21], none⟩,
    ⟨(some 5), .alloc [.nil, .nil, .nil], [], none⟩,
    ⟨none, .store 3, [.tmp 5, .tmp 25], none⟩,
    ⟨(some 6), .mov, [.tmp 26], none⟩,
    ⟨(some 7), .mov, [.tmp 27], none⟩] false)
  (.seq (.ops [
    ⟨(some 29), .load 3 true, [.tmp 2], none⟩,
    ⟨(some 30), .load 7 true, [.tmp 3], none⟩,
    ⟨(some 31), .call 21, [.tmp 29, .tmp 30], none⟩,
    ⟨(some 28), .mov, [.tmp 31], none⟩,
    ⟨(some 32), .extract 0, [.tmp 28], none⟩,
    ⟨(some 33), .extract 1, [.tmp 28], none⟩,
    ⟨(some 34), .extract 2, [.tmp 28], none⟩,
    ⟨(some 8), .alloc [.nil, .nil, .nil], [], none⟩,
    ⟨none, .store 3, [.tmp 8, .tmp 32], none⟩,
    ⟨(some 9), .mov, [.tmp 33], none⟩,
    ⟨(some 10), .mov, [.tmp 34], none⟩] false)
  (.seq (.ops [
    ⟨(some 35), .load 3 true, [.tmp 5], none⟩,
    ⟨(some 36), .load 3 true, [.tmp 8], none⟩,
    ⟨(some 37), .call 17, [.tmp 35, .tmp 36], none⟩,
    ⟨(some 38), .mov, [.tmp 37], none⟩,
    ⟨(some 39), .mov, [.tmp 6], (some (38, true))⟩,
    ⟨(some 40), .mov, [.tmp 9], (some (38, true))⟩,
    ⟨(some 41), .cmp .eql, [.tmp 39, .tmp 40], (some (38, true))⟩,
    ⟨(some 42), .pick, [.tmp 38, .tmp 41, .const (.bool false)], none⟩,
    ⟨(some 43), .mov, [.tmp 42], none⟩,
    ⟨(some 44), .mov, [.tmp 7], (some (43, true))⟩,
    ⟨(some 45), .mov, [.tmp 10], (some (43, true))⟩,
    ⟨(some 46), .cmp .eql, [.tmp 44, .tmp 45], (some (43, true))⟩,
    ⟨(some 47), .pick, [.tmp 43, .tmp 46, .const (.bool false)], none⟩,
    ⟨(some 4), .mov, [.tmp 47], none⟩] false)
  .ret))))))⟩
theorem lawLow : lowF Tryz.prog {} Tryz.f5 = some lawIr := by kernel_rfl
def lawS : Spec := spec (Bk × Ride) (fun p => [aB p.1, aD p.2]) (fun p => okB p.1) (fun _ => B true)
set_option maxHeartbeats 1000000 in
theorem lawV : fnV Tryz.prog lawIr lawS := by
  intro ⟨(b : Bk), (r : Ride)⟩ ho
  replace ho : okB b := ho
  have hlp : (b.ps.map encP).length = b.ps.length := List.length_map ..
  have hlo : (b.po.map encO).length = b.po.length := List.length_map ..
  have hlr : (b.rs.map encC).length = b.rs.length := List.length_map ..
  show vc _ _ _ _ ⟨argEnv 0 [aB b, aD r], [], 0⟩
  by_cases hd : FewB b ∧ rightB b = 0
  · have hr := rb_of hd.2
    obtain ⟨e, hE⟩ : ∃ e, entE b r = e := ⟨_, rfl⟩
    obtain ⟨n, hN⟩ : ∃ n, entN b r = n := ⟨_, rfl⟩
    obtain ⟨x, hX⟩ : ∃ x, entB b r = x := ⟨_, rfl⟩
    have hxx : entX b r = .tup [aB x, I n, I e] := by unfold entX; rw [hE, hN, hX]
    have hxo : okB x := hX ▸ okB_ent hr.sm r
    repeat' ((conv => whnf); first | (refine ⟨fun h => ?_, fun h => ?_⟩ <;> try (exfalso; first | omega | exact absurd h (by decide) | exact h rfl | exact absurd (show true = false from h) (by decide) | exact absurd (show false = true from h) (by decide))) | (refine ⟨_, alive_h, (), trivial, leVs_of_eq rfl, .inl rfl, rfl, ?_⟩; show norm (B true) _) | (refine ⟨_, few_h, b, ho, leVs_of_eq rfl, .inl rfl, rfl, ?_⟩; show norm (B (decide (FewB b))) _; rw [decide_eq_true hd.1]) | (refine ⟨_, rRight_h, b, ho, leVs_of_eq rfl, .inl rfl, rfl, ?_⟩; show norm (I (rightB b)) _; rw [hd.2]) | (refine ⟨_, enter_h, (b, r), hr.ent, leVs_of_eq rfl, .inl rfl, rfl, ?_⟩; show norm (entX b r) _; rw [hxx]) | (refine ⟨_, renter_h, (b, r), hr.ent, leVs_of_eq rfl, .inl rfl, rfl, ?_⟩; show norm (entX b r) _; rw [hxx]) | (refine ⟨_, same_h, (x, x), hxo, leVs_of_eq rfl, .inl rfl, rfl, ?_⟩; show norm (B (decide (x = x))) _; rw [decide_eq_true rfl]) | exact ⟨[], rfl, trivial, rfl⟩ | fail)
  · cases d : decide (FewB b) with
    | false => repeat' ((conv => whnf); first | (refine ⟨fun h => ?_, fun h => ?_⟩ <;> try (exfalso; first | omega | exact absurd h (by decide) | exact h rfl | exact absurd (show true = false from h) (by decide) | exact absurd (show false = true from h) (by decide))) | (refine ⟨_, alive_h, (), trivial, leVs_of_eq rfl, .inl rfl, rfl, ?_⟩; show norm (B true) _) | (refine ⟨_, few_h, b, ho, leVs_of_eq rfl, .inl rfl, rfl, ?_⟩; show norm (B (decide (FewB b))) _; rw [d]) | exact ⟨[], rfl, trivial, rfl⟩ | fail)
    | true =>
      have hne : rightB b ≠ 0 := fun h => hd ⟨of_decide_eq_true d, h⟩
      repeat' ((conv => whnf); first | (refine ⟨fun h => ?_, fun h => ?_⟩ <;> try (exfalso; first | omega | exact absurd h (by decide) | exact h rfl | exact absurd (show true = false from h) (by decide) | exact absurd (show false = true from h) (by decide))) | (refine ⟨_, alive_h, (), trivial, leVs_of_eq rfl, .inl rfl, rfl, ?_⟩; show norm (B true) _) | (refine ⟨_, few_h, b, ho, leVs_of_eq rfl, .inl rfl, rfl, ?_⟩; show norm (B (decide (FewB b))) _; rw [d]) | (refine ⟨_, rRight_h, b, ho, leVs_of_eq rfl, .inl rfl, rfl, ?_⟩; show norm (I (rightB b)) _) | exact ⟨[], rfl, trivial, rfl⟩ | fail)
theorem law_h : Holds Tryz.prog 5 lawS := holds_of mix Tryz.func5 lawLow (fun _ => rfl) lawV

/-! ### THE ROW's STEP -/
theorem own : ownKnob Tryz.prog.godebug = none := by kernel_rfl
theorem laidOut : laidOutB Tryz.prog = true := by kernel_rfl
set_option maxRecDepth 100000 in
theorem lifted (os : Os) (started : os.Started) (H : Type) (enc : TypeId × Value → H) :
    ReturnsInHanded {} Tryz.checked os 5 .any (Rows.periodEntersSpec.pre6 enc Tryz.prog Tryz.f5 Rows.periodEntersRow.domain false) (Rows.periodEntersSpec.post enc Tryz.prog Tryz.f5 false true false false) := by
  refine returnsInHanded_of_change (C := Tryz.checked) own started (by kernel_rfl) Tryz.func5
    (ChangeSpec.witness6 (enc := enc) (C := Tryz.checked) false ⟨#[], #[.agg #[.slice none 0 0, .slice none 0 0, .slice none 0 0], .agg #[.int .i64 0, .int .i64 0, .int .i64 0, .int .i64 0, .int .i64 0, .int .i64 0, .int .i64 0]], []⟩ 8 (by kernel_rfl) (by kernel_rfl) (by kernel_rfl) (by kernel_rfl)) ?_
  intro W base args ds gs before hval0 hW hcnd _
  have hval : ∀ (j : Nat) t v, Tryz.f5.params[j]? = some t → args[j]? = some v → Value.okWide Tryz.prog W .any base t v := hval0
  have hW' := hW
  obtain ⟨p, q, hA0, hV, rfl, hfz, hnd⟩ := hW
  have hA : DataW.TrodAll enc Tryz.prog W 0 (fun _ => true) true Tryz.f5.params.toList args.toList ds p := hA0
  rw [Tryz.params5] at hA hval
  obtain ⟨v0, vs0, d0, ds0, p0, q0, hargs, rfl, rfl, h0, r0⟩ := trodAll_cons hA
  obtain ⟨v1, vs1, d1, ds1, p1, q1, rfl, rfl, rfl, h1, r1⟩ := trodAll_cons r0
  obtain ⟨rfl, rfl, rfl⟩ := trodAll_nil r1
  obtain rfl : args = #[v0, v1] := by cases args; simp_all
  obtain ⟨rfl, rfl⟩ := trodVars_none hV
  have lt0 : ∀ x ∈ p0, x.block < W.heap.size := by obtain ⟨m, hm⟩ := h0; exact DataW.trod_lt m _ _ _ hm
  obtain ⟨z0, w0, x0⟩ := openB (hval 0 26 v0 rfl rfl) h0
  have lt1 : ∀ x ∈ p1, x.block < W.heap.size := by obtain ⟨m, hm⟩ := h1; exact DataW.trod_lt m _ _ _ hm
  obtain ⟨z1, w1, x1⟩ := openD (hval 1 37 v1 rfl rfl) h1
  clear hA0 hval0
  refine Calls.mono (law_calls law_h (z0, z1) w0 rfl (vs := [v0, v1]) (replist_mk x0 (replist_mk x1 replist_mk0))) fun e W' ⟨he, bel⟩ => ?_
  subst he
  exact ⟨_, rfl, _, _, _, [], _, [], hW', trodAll_mk1 (shut_bool Tryz.underlying4 _), (trodAll_cons_mk (Below.trod laidOut (by kernel_rfl) (of_decide_eq_true (by kernel_rfl)) h0 bel lt0) (trodAll_cons_mk (Below.trod laidOut (by kernel_rfl) (of_decide_eq_true (by kernel_rfl)) h1 bel lt1) trodAll_mk0)), rfl, bel.frame _, fun h => by cases h⟩

theorem over : Rows.periodEntersRow.holds Tryz.pinned (OpenSpec.ofChange Rows.periodEntersSpec) :=
  OpenClaim.holds_of_wide 5 Tryz.f5 rfl rfl rfl rfl rfl rfl rfl ⟨rfl, rfl, rfl, rfl, rfl⟩ rfl rfl rfl rfl rfl (by kernel_rfl) Tryz.func5 (by kernel_rfl)
    (of_decide_eq_true (by kernel_rfl)) (by unfold Func.isWrapper; first | (rw [if_pos (by decide +kernel)]; kernel_rfl) | (rw [if_neg (by decide +kernel)]; exact ⟨rfl, rfl⟩))
    (fun os started H enc _ => lifted os started H enc)

theorem proved : Rows.PeriodEntersSaid := over
end Go.Proofs.YtpkhannkbafimaaGreat.lawEnters
