/- PeriodBegins: Begin returns the books with another period, or the first error, and First the first period that is not closed. No condition. -/
import Derived.Test.YtpkhannkbafimaaGreatArg
import Derived.Test.YtpkhannkbafimaaGreatRJ
namespace Go.Proofs.YtpkhannkbafimaaGreat.lawBegins
open Go.ChangeShapes Go.WideShapes Go.ChangeAt Go.RowKit Go.Deep Go.Joins
set_option linter.unusedVariables false
set_option maxRecDepth 20000

/-! skiarea/skiarealaw38.PeriodBegins -/
def lawIr : IFn := ⟨46, [.tmp 4],
  (.seq (.ops [
    ⟨(some 2), .box, [.tmp 0], none⟩,
    ⟨(some 4), .mov, [.const (.bool false)], none⟩] false)
  (.seq (.seq (.ops [
    ⟨(some 9), .call 11, [], none⟩,
    ⟨(some 10), .not, [.tmp 9], none⟩] false)
  (.cond (.tmp 10)
    (.seq (.ops [
      ⟨(some 4), .mov, [.const (.bool false)], none⟩] false)
    .ret)
    .skip))
  (.seq (.seq (.ops [
    ⟨(some 11), .load 3 true, [.tmp 2], none⟩,
    ⟨(some 12), .call 12, [.tmp 11], none⟩,
    ⟨(some 13), .not, [.tmp 12], none⟩,
    ⟨(some 14), .mov, [.tmp 13], none⟩,
    ⟨(some 15), .load 3 true, [.tmp 2], (some (14, false))⟩,
    ⟨(some 16), .call 14, [.tmp 15], (some (14, false))⟩,
    ⟨(some 17), .cmp .neq, [.tmp 16, .const (.int .i64 0)], (some (14, false))⟩,
    ⟨(some 18), .pick, [.tmp 14, .const (.bool true), .tmp 17], none⟩] false)
  (.cond (.tmp 18)
    (.seq (.ops [
      ⟨(some 4), .mov, [.const (.bool true)], none⟩] false)
    .ret)
    .skip))
  (.seq (.ops [
    ⟨(some 20), .load 3 true, [.tmp 2], none⟩,
    ⟨(some 21), .mov, [.tmp 1], none⟩,
    ⟨(some 22), .call 15, [.tmp 20, .tmp 21], none⟩,
    ⟨(some 19), .mov, [.tmp 22], none⟩,
    ⟨(some 23), .extract 0, [.tmp 19], none⟩,
    ⟨(some 24), .extract 1, [.tmp 19], none⟩,
    ⟨(some 5), .alloc [.nil, .nil, .nil], [], none⟩,
    ⟨none, .store 3, [.tmp 5, .tmp 23], none⟩,
    ⟨(some 6), .mov, [.tmp 24], none⟩] false)
  (.seq (.ops [
    ⟨(some 26), .load 3 true, [.tmp 2], none⟩,
    ⟨(some 27), .mov, [.tmp 1], none⟩,
    ⟨(some 28), .call 16, [.tmp 26, .tmp 27], none⟩,
    ⟨(some 25), .mov, [.tmp 28], none⟩,
    ⟨(some 29), .extract 0, [.tmp 25], none⟩,
    ⟨(some 30), .extract 1, [.tmp 25], none⟩,
    ⟨(some 7), .alloc [.nil, .nil, .nil], [], none⟩,
    ⟨none, .store 3, [.tmp 7, .tmp 29], none⟩,
    ⟨(some 8), .mov, [.tmp 30], none⟩] false)
  (.seq (.ops [
    ⟨(some 31), .load 3 true, [.tmp 5], none⟩,
    ⟨(some 32), .load 3 true, [.tmp 7], none⟩,
    ⟨(some 33), .call 17, [.tmp 31, .tmp 32], none⟩,
    ⟨(some 34), .mov, [.tmp 33], none⟩,
    ⟨(some 35), .mov, [.tmp 6], (some (34, true))⟩,
    ⟨(some 36), .mov, [.tmp 8], (some (34, true))⟩,
    ⟨(some 37), .cmp .eql, [.tmp 35, .tmp 36], (some (34, true))⟩,
    ⟨(some 38), .pick, [.tmp 34, .tmp 37, .const (.bool false)], none⟩,
    ⟨(some 39), .mov, [.tmp 38], none⟩,
    ⟨(some 40), .load 3 true, [.tmp 2], (some (39, true))⟩,
    ⟨(some 41), .call 18, [.tmp 40], (some (39, true))⟩,
    ⟨(some 42), .load 3 true, [.tmp 2], (some (39, true))⟩,
    ⟨(some 43), .call 19, [.tmp 42], (some (39, true))⟩,
    ⟨(some 44), .cmp .eql, [.tmp 41, .tmp 43], (some (39, true))⟩,
    ⟨(some 45), .pick, [.tmp 39, .tmp 44, .const (.bool false)], none⟩,
    ⟨(some 4), .mov, [.tmp 45], none⟩] true)
  .ret))))))⟩
theorem lawLow : lowF Tryz.prog {} Tryz.f4 = some lawIr := by kernel_rfl
def lawS : Spec := spec (Bk × Int) (fun p => [aB p.1, I p.2]) (fun p => okB p.1) (fun _ => B true)
set_option maxHeartbeats 1000000 in
theorem lawV : fnV Tryz.prog lawIr lawS := by
  intro ⟨(b : Bk), (to : Int)⟩ ho
  replace ho : okB b := ho
  have hlp : (b.ps.map encP).length = b.ps.length := List.length_map ..
  have hlo : (b.po.map encO).length = b.po.length := List.length_map ..
  have hlr : (b.rs.map encC).length = b.rs.length := List.length_map ..
  show vc _ _ _ _ ⟨argEnv 0 [aB b, I to], [], 0⟩
  by_cases hd : FewB b ∧ rightB b = 0
  · have hr := rb_of hd.2
    obtain ⟨e, hE⟩ : ∃ e, beginE b to = e := ⟨_, rfl⟩
    obtain ⟨x, hX⟩ : ∃ x, beginB b to = x := ⟨_, rfl⟩
    obtain ⟨f, hF⟩ : ∃ f, firstN b.ps = f := ⟨_, rfl⟩
    have hF2 : firstC b.ps = f := (first_eq hr.pers).trans hF
    have hxo : okB x := hX ▸ okB_beg hr.sm to
    repeat' ((conv => whnf); first | (refine ⟨fun h => ?_, fun h => ?_⟩ <;> try (exfalso; first | omega | exact absurd h (by decide) | exact h rfl | exact absurd (show true = false from h) (by decide) | exact absurd (show false = true from h) (by decide))) | (refine ⟨_, alive_h, (), trivial, leVs_of_eq rfl, .inl rfl, rfl, ?_⟩; show norm (B true) _) | (refine ⟨_, few_h, b, ho, leVs_of_eq rfl, .inl rfl, rfl, ?_⟩; show norm (B (decide (FewB b))) _; rw [decide_eq_true hd.1]) | (refine ⟨_, rRight_h, b, ho, leVs_of_eq rfl, .inl rfl, rfl, ?_⟩; show norm (I (rightB b)) _; rw [hd.2]) | (refine ⟨_, begin_h, (b, to), hr.sm, leVs_of_eq rfl, .inl rfl, rfl, ?_⟩; show norm (.tup [aB (beginB b to), I (beginE b to)]) _; rw [hE, hX]) | (refine ⟨_, rbegin_h, (b, to), ⟨hr.sm, hr.p64⟩, leVs_of_eq rfl, .inl rfl, rfl, ?_⟩; show norm (.tup [aB (beginB b to), I (beginE b to)]) _; rw [hE, hX]) | (refine ⟨_, same_h, (x, x), hxo, leVs_of_eq rfl, .inl rfl, rfl, ?_⟩; show norm (B (decide (x = x))) _; rw [decide_eq_true rfl]) | (refine ⟨_, First_h, b, ho, leVs_of_eq rfl, .inl rfl, rfl, ?_⟩; show norm (I (firstC b.ps)) _; rw [hF2]) | (refine ⟨_, rFirst_h, b, ho, leVs_of_eq rfl, .inl rfl, rfl, ?_⟩; show norm (I (firstN b.ps)) _; rw [hF]) | exact ⟨[], rfl, trivial, rfl⟩ | fail)
  · cases d : decide (FewB b) with
    | false => repeat' ((conv => whnf); first | (refine ⟨fun h => ?_, fun h => ?_⟩ <;> try (exfalso; first | omega | exact absurd h (by decide) | exact h rfl | exact absurd (show true = false from h) (by decide) | exact absurd (show false = true from h) (by decide))) | (refine ⟨_, alive_h, (), trivial, leVs_of_eq rfl, .inl rfl, rfl, ?_⟩; show norm (B true) _) | (refine ⟨_, few_h, b, ho, leVs_of_eq rfl, .inl rfl, rfl, ?_⟩; show norm (B (decide (FewB b))) _; rw [d]) | exact ⟨[], rfl, trivial, rfl⟩ | fail)
    | true =>
      have hne : rightB b ≠ 0 := fun h => hd ⟨of_decide_eq_true d, h⟩
      repeat' ((conv => whnf); first | (refine ⟨fun h => ?_, fun h => ?_⟩ <;> try (exfalso; first | omega | exact absurd h (by decide) | exact h rfl | exact absurd (show true = false from h) (by decide) | exact absurd (show false = true from h) (by decide))) | (refine ⟨_, alive_h, (), trivial, leVs_of_eq rfl, .inl rfl, rfl, ?_⟩; show norm (B true) _) | (refine ⟨_, few_h, b, ho, leVs_of_eq rfl, .inl rfl, rfl, ?_⟩; show norm (B (decide (FewB b))) _; rw [d]) | (refine ⟨_, rRight_h, b, ho, leVs_of_eq rfl, .inl rfl, rfl, ?_⟩; show norm (I (rightB b)) _) | exact ⟨[], rfl, trivial, rfl⟩ | fail)
theorem law_h : Holds Tryz.prog 4 lawS := holds_of mix Tryz.func4 lawLow (fun _ => rfl) lawV

/-! ### THE ROW's STEP -/
theorem own : ownKnob Tryz.prog.godebug = none := by kernel_rfl
theorem laidOut : laidOutB Tryz.prog = true := by kernel_rfl
set_option maxRecDepth 100000 in
theorem lifted (os : Os) (started : os.Started) (H : Type) (enc : TypeId × Value → H) :
    ReturnsInHanded {} Tryz.checked os 4 .any (Rows.periodBeginsSpec.pre6 enc Tryz.prog Tryz.f4 Rows.periodBeginsRow.domain false) (Rows.periodBeginsSpec.post enc Tryz.prog Tryz.f4 false true false false) := by
  refine returnsInHanded_of_change (C := Tryz.checked) own started (by kernel_rfl) Tryz.func4
    (ChangeSpec.witness6 (enc := enc) (C := Tryz.checked) false ⟨#[], #[.agg #[.slice none 0 0, .slice none 0 0, .slice none 0 0], .int .i64 0], []⟩ 8 (by kernel_rfl) (by kernel_rfl) (by kernel_rfl) (by kernel_rfl)) ?_
  intro W base args ds gs before hval0 hW hcnd _
  have hval : ∀ (j : Nat) t v, Tryz.f4.params[j]? = some t → args[j]? = some v → Value.okWide Tryz.prog W .any base t v := hval0
  have hW' := hW
  obtain ⟨p, q, hA0, hV, rfl, hfz, hnd⟩ := hW
  have hA : DataW.TrodAll enc Tryz.prog W 0 (fun _ => true) true Tryz.f4.params.toList args.toList ds p := hA0
  rw [Tryz.params4] at hA hval
  obtain ⟨v0, vs0, d0, ds0, p0, q0, hargs, rfl, rfl, h0, r0⟩ := trodAll_cons hA
  obtain ⟨v1, vs1, d1, ds1, p1, q1, rfl, rfl, rfl, h1, r1⟩ := trodAll_cons r0
  obtain ⟨rfl, rfl, rfl⟩ := trodAll_nil r1
  obtain rfl : args = #[v0, v1] := by cases args; simp_all
  obtain ⟨rfl, rfl⟩ := trodVars_none hV
  have lt0 : ∀ x ∈ p0, x.block < W.heap.size := by obtain ⟨m, hm⟩ := h0; exact DataW.trod_lt m _ _ _ hm
  obtain ⟨z0, w0, x0⟩ := openB (hval 0 26 v0 rfl rfl) h0
  have lt1 : ∀ x ∈ p1, x.block < W.heap.size := by obtain ⟨m, hm⟩ := h1; exact DataW.trod_lt m _ _ _ hm
  obtain ⟨z1, w1, x1⟩ := open_i Tryz.underlying3 (hval 1 3 v1 rfl rfl) h1
  clear hA0 hval0
  refine Calls.mono (law_calls law_h (z0, z1) w0 rfl (vs := [v0, v1]) (replist_mk x0 (replist_mk x1 replist_mk0))) fun e W' ⟨he, bel⟩ => ?_
  subst he
  exact ⟨_, rfl, _, _, _, [], _, [], hW', trodAll_mk1 (shut_bool Tryz.underlying4 _), (trodAll_cons_mk (Below.trod laidOut (by kernel_rfl) (of_decide_eq_true (by kernel_rfl)) h0 bel lt0) (trodAll_cons_mk (Below.trod laidOut (by kernel_rfl) (of_decide_eq_true (by kernel_rfl)) h1 bel lt1) trodAll_mk0)), rfl, bel.frame _, fun h => by cases h⟩

theorem over : Rows.periodBeginsRow.holds Tryz.pinned (OpenSpec.ofChange Rows.periodBeginsSpec) :=
  OpenClaim.holds_of_wide 4 Tryz.f4 rfl rfl rfl rfl rfl rfl rfl ⟨rfl, rfl, rfl, rfl, rfl⟩ rfl rfl rfl rfl rfl (by kernel_rfl) Tryz.func4 (by kernel_rfl)
    (of_decide_eq_true (by kernel_rfl)) (by unfold Func.isWrapper; first | (rw [if_pos (by decide +kernel)]; kernel_rfl) | (rw [if_neg (by decide +kernel)]; exact ⟨rfl, rfl⟩))
    (fun os started H enc _ => lifted os started H enc)

theorem proved : Rows.PeriodBeginsSaid := over
end Go.Proofs.YtpkhannkbafimaaGreat.lawBegins
