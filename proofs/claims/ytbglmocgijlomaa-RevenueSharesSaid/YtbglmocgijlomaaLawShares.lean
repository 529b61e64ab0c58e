/- RevenueShares: Of returns the shares of any sale. No condition. -/
import Derived.Test.YtbglmocgijlomaaArg
namespace Go.Proofs.Ytbglmocgijlomaa.lawShares
open Go.ChangeShapes Go.WideShapes Go.ChangeAt Go.RowKit Go.Deep Go.Joins
set_option linter.unusedVariables false
set_option maxRecDepth 20000

/-! skiarea/skiarealaw35.RevenueShares -/
def lawIr : IFn := ⟨33, [.tmp 4],
  (.seq (.ops [
    ⟨(some 2), .box, [.tmp 0], none⟩,
    ⟨(some 3), .box, [.tmp 1], none⟩,
    ⟨(some 4), .mov, [.const (.bool false)], none⟩] false)
  (.seq (.seq (.ops [
    ⟨(some 5), .call 10, [], none⟩,
    ⟨(some 6), .not, [.tmp 5], none⟩] false)
  (.cond (.tmp 6)
    (.seq (.ops [
      ⟨(some 4), .mov, [.const (.bool false)], none⟩] false)
    .ret)
    .skip))
  (.seq (.seq (.ops [
    ⟨(some 7), .load 6 true, [.tmp 2], none⟩,
    ⟨(some 8), .call 13, [.tmp 7], none⟩,
    ⟨(some 9), .not, [.tmp 8], none⟩,
    ⟨(some 10), .mov, [.tmp 9], none⟩,
    ⟨(some 11), .load 6 true, [.tmp 3], (some (10, false))⟩,
    ⟨(some 12), .buildSl 42 6, [.tmp 11], (some (10, false))⟩,
    ⟨(some 13), .call 12, [.tmp 12], (some (10, false))⟩,
    ⟨(some 14), .cmp .neq, [.tmp 13, .const (.int .i64 0)], (some (10, false))⟩,
    ⟨(some 15), .pick, [.tmp 10, .const (.bool true), .tmp 14], none⟩] false)
  (.cond (.tmp 15)
    (.seq (.ops [
      ⟨(some 4), .mov, [.const (.bool true)], none⟩] false)
    .ret)
    .skip))
  (.seq (.ops [
    ⟨(some 16), .faddr 0, [.tmp 2], none⟩,
    ⟨(some 17), .load 4 true, [.tmp 16], none⟩,
    ⟨(some 18), .faddr 4, [.tmp 2], none⟩,
    ⟨(some 19), .load 1 false, [.tmp 18], none⟩,
    ⟨(some 20), .faddr 5, [.tmp 2], none⟩,
    ⟨(some 21), .load 1 false, [.tmp 20], none⟩,
    ⟨(some 22), .load 6 true, [.tmp 3], none⟩,
    ⟨(some 23), .call 18, [.tmp 17, .tmp 19, .tmp 21, .tmp 22], none⟩,
    ⟨(some 24), .faddr 0, [.tmp 2], none⟩,
    ⟨(some 25), .load 4 true, [.tmp 24], none⟩,
    ⟨(some 26), .faddr 4, [.tmp 2], none⟩,
    ⟨(some 27), .load 1 false, [.tmp 26], none⟩,
    ⟨(some 28), .faddr 5, [.tmp 2], none⟩,
    ⟨(some 29), .load 1 false, [.tmp 28], none⟩,
    ⟨(some 30), .load 6 true, [.tmp 3], none⟩,
    ⟨(some 31), .call 19, [.tmp 25, .tmp 27, .tmp 29, .tmp 30], none⟩,
    ⟨(some 32), .call 17, [.tmp 23, .tmp 31], none⟩,
    ⟨(some 4), .mov, [.tmp 32], none⟩] true)
  .ret))))⟩
theorem lawLow : lowF Try.prog {} Try.f5 = some lawIr := by kernel_rfl
def lawS : Spec := spec (Book × Sale) (fun p => [aB p.1, aE p.2]) (fun p => okB p.1) (fun _ => B true)
set_option maxHeartbeats 1000000 in
theorem lawV : fnV Try.prog lawIr lawS := by
  intro ⟨(b : Book), (s : Sale)⟩ (ho : okB b)
  show vc _ _ _ _ ⟨argEnv 0 [aB b, aE s], [], 0⟩
  by_cases hd : defP b
  · have hk := hd.bk ho
    have h1 := hk.hr
    by_cases hE0 : salesE [s] = 0
    · have hE := hE0
      have hs : SaP s := sale_ok hE s (by simp)
      have hof := hk.of hs
      obtain ⟨P, hP⟩ : ∃ P, ofL b.m b.l b.rides s = P := ⟨_, rfl⟩
      have hPl : P.length ≤ 100 := by rw [← hP]; exact of_len hof
      repeat' ((conv => whnf); first | (refine ⟨fun h => ?_, fun h => ?_⟩ <;> try (exfalso; first | omega | exact absurd h (by decide) | exact h rfl)) | (refine ⟨_, alive_h, (), trivial, leVs_of_eq rfl, .inl rfl, rfl, ?_⟩; show norm (B true) _) | (refine ⟨_, defined_h, b, ho, leVs_of_eq rfl, .inl rfl, rfl, ?_⟩; show norm (B (decide (defP b))) _; rw [decide_eq_true hd]) | (refine ⟨_, rsright_h, [s], (by show [s].length ≤ 1000000; simp), leVs_of_eq rfl, .inl rfl, rfl, ?_⟩; show norm (I (salesE [s])) _; rw [hE]) | (refine ⟨_, of_h, (b.m, b.l, b.rides, s), hof, leVs_of_eq rfl, .inl rfl, rfl, ?_⟩; show norm (L 2 ((ofL b.m b.l b.rides s).map encS)) _; rw [hP]) | (refine ⟨_, rof_h, (b.m, b.l, b.rides, s), hof, leVs_of_eq rfl, .inl rfl, rfl, ?_⟩; show norm (L 2 ((ofL b.m b.l b.rides s).map encS)) _; rw [hP]) | (refine ⟨_, sameS_h, (P, P), (by show (P).length ≤ 9223372036854775807; omega), leVs_of_eq rfl, .inl rfl, rfl, ?_⟩; show norm (B (decide (P = P))) _; rw [decide_eq_true rfl]) | exact ⟨[], rfl, trivial, rfl⟩ | fail)
    · obtain ⟨e, hE⟩ : ∃ e, salesE [s] = e := ⟨_, rfl⟩
      rw [hE] at hE0
      repeat' ((conv => whnf); first | (refine ⟨fun h => ?_, fun h => ?_⟩ <;> try (exfalso; first | omega | exact absurd h (by decide) | exact h rfl)) | (refine ⟨_, alive_h, (), trivial, leVs_of_eq rfl, .inl rfl, rfl, ?_⟩; show norm (B true) _) | (refine ⟨_, defined_h, b, ho, leVs_of_eq rfl, .inl rfl, rfl, ?_⟩; show norm (B (decide (defP b))) _; rw [decide_eq_true hd]) | (refine ⟨_, rsright_h, [s], (by show [s].length ≤ 1000000; simp), leVs_of_eq rfl, .inl rfl, rfl, ?_⟩; show norm (I (salesE [s])) _; rw [hE]) | exact ⟨[], rfl, trivial, rfl⟩ | fail)
  · repeat' ((conv => whnf); first | (refine ⟨fun h => ?_, fun h => ?_⟩ <;> try (exfalso; first | omega | exact absurd h (by decide) | exact h rfl)) | (refine ⟨_, alive_h, (), trivial, leVs_of_eq rfl, .inl rfl, rfl, ?_⟩; show norm (B true) _) | (refine ⟨_, defined_h, b, ho, leVs_of_eq rfl, .inl rfl, rfl, ?_⟩; show norm (B (decide (defP b))) _; rw [decide_eq_false hd]) | exact ⟨[], rfl, trivial, rfl⟩ | fail)
theorem law_h : Holds Try.prog 5 lawS := holds_of mix Try.func5 lawLow (fun _ => rfl) lawV

/-! ### THE ROW's STEP -/
theorem own : ownKnob Try.prog.godebug = none := by kernel_rfl
theorem laidOut : laidOutB Try.prog = true := by kernel_rfl
set_option maxRecDepth 100000 in
theorem lifted (os : Os) (started : os.Started) (H : Type) (enc : TypeId × Value → H) :
    ReturnsInHanded {} Try.checked os 5 .any (Rows.revenueSharesSpec.pre6 enc Try.prog Try.f5 Rows.revenueSharesRow.domain false) (Rows.revenueSharesSpec.post enc Try.prog Try.f5 false true false false) := by
  refine returnsInHanded_of_change (C := Try.checked) own started (by kernel_rfl) Try.func5
    (ChangeSpec.witness6 (enc := enc) (C := Try.checked) false ⟨#[], #[.agg #[.slice none 0 0, .slice none 0 0, .slice none 0 0, .slice none 0 0, .slice none 0 0, .slice none 0 0], .agg #[.int .i64 0, .int .i64 0, .int .i64 0, .int .i64 0, .int .i64 0, .int .i64 0]], []⟩ 8 (by kernel_rfl) (by kernel_rfl) (by kernel_rfl) (by kernel_rfl)) ?_
  intro W base args ds gs before hval0 hW hcnd _
  have hval : ∀ (j : Nat) t v, Try.f5.params[j]? = some t → args[j]? = some v → Value.okWide Try.prog W .any base t v := hval0
  have hW' := hW
  obtain ⟨p, q, hA0, hV, rfl, hfz, hnd⟩ := hW
  have hA : DataW.TrodAll enc Try.prog W 0 (fun _ => true) true Try.f5.params.toList args.toList ds p := hA0
  rw [Try.params5] at hA hval
  obtain ⟨v0, vs0, d0, ds0, p0, q0, hargs, rfl, rfl, h0, r0⟩ := trodAll_cons hA
  obtain ⟨v1, vs1, d1, ds1, p1, q1, rfl, rfl, rfl, h1, r1⟩ := trodAll_cons r0
  obtain ⟨rfl, rfl, rfl⟩ := trodAll_nil r1
  obtain rfl : args = #[v0, v1] := by cases args; simp_all
  obtain ⟨rfl, rfl⟩ := trodVars_none hV
  have lt0 : ∀ x ∈ p0, x.block < W.heap.size := by obtain ⟨m, hm⟩ := h0; exact DataW.trod_lt m _ _ _ hm
  obtain ⟨z0, w0, x0⟩ := openB (hval 0 36 v0 rfl rfl) h0
  have lt1 : ∀ x ∈ p1, x.block < W.heap.size := by obtain ⟨m, hm⟩ := h1; exact DataW.trod_lt m _ _ _ hm
  obtain ⟨z1, w1, x1⟩ := openSa (hval 1 42 v1 rfl rfl) h1
  clear hA0 hval0
  refine Calls.mono (law_calls law_h (z0, z1) w0 rfl (vs := [v0, v1]) (replist_mk x0 (replist_mk x1 replist_mk0))) fun e W' ⟨he, bel⟩ => ?_
  subst he
  exact ⟨_, rfl, _, _, _, [], _, [], hW', trodAll_mk1 (shut_bool Try.underlying4 _), (trodAll_cons_mk (Below.trod laidOut (by kernel_rfl) (of_decide_eq_true (by kernel_rfl)) h0 bel lt0) (trodAll_cons_mk (Below.trod laidOut (by kernel_rfl) (of_decide_eq_true (by kernel_rfl)) h1 bel lt1) trodAll_mk0)), rfl, bel.frame _, fun h => by cases h⟩

theorem over : Rows.revenueSharesRow.holds Try.pinned (OpenSpec.ofChange Rows.revenueSharesSpec) :=
  OpenClaim.holds_of_wide 5 Try.f5 rfl rfl rfl rfl rfl rfl rfl ⟨rfl, rfl, rfl, rfl, rfl⟩ rfl rfl rfl rfl rfl (by kernel_rfl) Try.func5 (by kernel_rfl)
    (of_decide_eq_true (by kernel_rfl)) (by unfold Func.isWrapper; first | (rw [if_pos (by decide +kernel)]; kernel_rfl) | (rw [if_neg (by decide +kernel)]; exact ⟨rfl, rfl⟩))
    (fun os started H enc _ => lifted os started H enc)

theorem proved : Rows.RevenueSharesSaid := over
end Go.Proofs.Ytbglmocgijlomaa.lawShares
