/- RidesLists: Of, Gaps and Upto return what is specified. No condition. -/
import Derived.Test.YtfghmpfiemmbgaaH3
namespace Go.Proofs.Ytfghmpfiemmbgaa.lawLists
open Go.ChangeShapes Go.WideShapes Go.ChangeAt Go.RowKit Go.Deep Go.Joins
set_option linter.unusedVariables false

/-! skiarea/skiarealaw31.RidesLists -/
def lawIr : IFn := ⟨37, [.tmp 6],
  (.seq (.ops [
    ⟨(some 6), .mov, [.const (.bool false)], none⟩] false)
  (.seq (.seq (.ops [
    ⟨(some 7), .call 11, [], none⟩,
    ⟨(some 8), .not, [.tmp 7], none⟩] false)
  (.cond (.tmp 8)
    (.seq (.ops [
      ⟨(some 6), .mov, [.const (.bool false)], none⟩] false)
    .ret)
    .skip))
  (.seq (.seq (.ops [
    ⟨(some 9), .mov, [.tmp 0], none⟩,
    ⟨(some 10), .call 14, [.tmp 9], none⟩,
    ⟨(some 11), .not, [.tmp 10], none⟩] false)
  (.cond (.tmp 11)
    (.seq (.ops [
      ⟨(some 6), .mov, [.const (.bool true)], none⟩] false)
    .ret)
    .skip))
  (.seq (.ops [
    ⟨(some 12), .mov, [.tmp 0], none⟩,
    ⟨(some 13), .mov, [.tmp 1], none⟩,
    ⟨(some 14), .call 23, [.tmp 12, .tmp 13], none⟩,
    ⟨(some 15), .mov, [.tmp 0], none⟩,
    ⟨(some 16), .mov, [.tmp 1], none⟩,
    ⟨(some 17), .call 24, [.tmp 15, .tmp 16], none⟩,
    ⟨(some 18), .call 17, [.tmp 14, .tmp 17], none⟩,
    ⟨(some 19), .mov, [.tmp 18], none⟩,
    ⟨(some 20), .mov, [.tmp 0], (some (19, true))⟩,
    ⟨(some 21), .mov, [.tmp 2], (some (19, true))⟩,
    ⟨(some 22), .call 21, [.tmp 20, .tmp 21], (some (19, true))⟩,
    ⟨(some 23), .mov, [.tmp 0], (some (19, true))⟩,
    ⟨(some 24), .mov, [.tmp 2], (some (19, true))⟩,
    ⟨(some 25), .call 26, [.tmp 23, .tmp 24], (some (19, true))⟩,
    ⟨(some 26), .call 25, [.tmp 22, .tmp 25], (some (19, true))⟩,
    ⟨(some 27), .pick, [.tmp 19, .tmp 26, .const (.bool false)], none⟩,
    ⟨(some 28), .mov, [.tmp 27], none⟩,
    ⟨(some 29), .mov, [.tmp 0], (some (28, true))⟩,
    ⟨(some 30), .mov, [.tmp 2], (some (28, true))⟩,
    ⟨(some 31), .call 22, [.tmp 29, .tmp 30], (some (28, true))⟩,
    ⟨(some 32), .mov, [.tmp 0], (some (28, true))⟩,
    ⟨(some 33), .mov, [.tmp 2], (some (28, true))⟩,
    ⟨(some 34), .call 27, [.tmp 32, .tmp 33], (some (28, true))⟩,
    ⟨(some 35), .cmp .eql, [.tmp 31, .tmp 34], (some (28, true))⟩,
    ⟨(some 36), .pick, [.tmp 28, .tmp 35, .const (.bool false)], none⟩,
    ⟨(some 6), .mov, [.tmp 36], none⟩] false)
  .ret))))⟩
theorem lawLow : lowF Try.prog {} Try.f10 = some lawIr := by kernel_rfl
def lawS : Spec := spec (List Ride × Int × Int) (fun p => [L 7 (p.1.map encR), I p.2.1, I p.2.2]) (fun _ => True) (fun _ => B true)
theorem lawV : fnV Try.prog lawIr lawS := by
  intro ⟨(l : List Ride), (s : Int), (g : Int)⟩ hx
  show vc _ _ _ ⟨argEnv 0 [L 7 (l.map encR), I s, I g], [], 0⟩
  by_cases hr : rightB l = true
  · obtain ⟨⟨h1, _⟩, lok, ls⟩ := rightB_ok hr
    have pg : l.length ≤ 3000 ∧ ∀ x ∈ l, okR x := ⟨by omega, lok⟩
    have po : l.length ≤ 3000 ∧ Sorted l := ⟨by omega, ls⟩
    have pu : l.length ≤ 3000 := by omega
    have h100 : (gaps l g).length ≤ 9223372036854775807 := Nat.le_trans (by rw [gaps_eq]; exact gS_len _ _ _ : (gaps l g).length ≤ 100) (by decide)
    have hof : (ofF l s).length ≤ 9223372036854775807 := by rw [(ofF_perm l s).length_eq]; have := List.length_filter_le (mine s) l; omega
    repeat' ((conv => whnf); first | (refine ⟨fun h => ?_, fun h => ?_⟩ <;> try (exfalso; first | omega | exact absurd h (by decide) | exact h rfl | (simp at h; done) | (rw [hr] at h; exact absurd h (by decide)))) | refine ⟨_, alive_h, (), trivial, leVs_of_eq rfl, .inr rfl, rfl, ?_⟩ | refine ⟨_, lright_h, _, trivial, leVs_of_eq rfl, .inr rfl, rfl, ?_⟩ | (refine ⟨_, of_h, (l, s), po, leVs_of_eq rfl, .inl rfl, rfl, ?_⟩; show norm (L 7 ((ofF l s).map encR)) _) | (refine ⟨_, refOf_h, (l, s), po, leVs_of_eq rfl, .inl rfl, rfl, ?_⟩; show norm (L 7 ((ofF l s).map encR)) _) | (refine ⟨_, gaps_h, (l, g), pg, leVs_of_eq rfl, .inl rfl, rfl, ?_⟩; show norm (L 1 ((gaps l g).map cI)) _) | (refine ⟨_, refGaps_h, (l, g), pg, leVs_of_eq rfl, .inl rfl, rfl, ?_⟩; show norm (L 1 ((gaps l g).map cI)) _) | (refine ⟨_, upto_h, (l, g), pu, leVs_of_eq rfl, .inl rfl, rfl, ?_⟩; show norm (I (upto l g)) _) | (refine ⟨_, refUpto_h, (l, g), pu, leVs_of_eq rfl, .inl rfl, rfl, ?_⟩; show norm (I (upto l g)) _) | (refine ⟨_, same_h, (ofF l s, ofF l s), hof, leVs_of_eq rfl, .inl rfl, rfl, ?_⟩; show norm (B (decide (_ = _))) _; rw [decide_eq_true rfl]) | (refine ⟨_, sameInts_h, (gaps l g, gaps l g), h100, leVs_of_eq rfl, .inl rfl, rfl, ?_⟩; show norm (B (decide (_ = _))) _; rw [decide_eq_true rfl]) | exact ⟨[], rfl, trivial, rfl⟩ | fail)
  · repeat' ((conv => whnf); first | (refine ⟨fun h => ?_, fun h => ?_⟩ <;> try (exfalso; first | omega | exact absurd h (by decide) | exact h rfl | (simp at h; done) | (exact hr h))) | refine ⟨_, alive_h, (), trivial, leVs_of_eq rfl, .inr rfl, rfl, ?_⟩ | refine ⟨_, lright_h, _, trivial, leVs_of_eq rfl, .inr rfl, rfl, ?_⟩ | exact ⟨[], rfl, trivial, rfl⟩ | fail)
theorem law_h : Holds Try.prog 10 lawS := holds_of mix Try.func10 lawLow (fun _ => rfl) lawV

/-! ### THE ROW's STEP -/
theorem own : ownKnob Try.prog.godebug = none := by kernel_rfl
theorem laidOut : laidOutB Try.prog = true := by kernel_rfl
set_option maxRecDepth 100000 in
theorem lifted (os : Os) (started : os.Started) (H : Type) (enc : TypeId × Value → H) :
    ReturnsInHanded {} Try.checked os 10 .any (Rows.ridesListsSpec.pre6 enc Try.prog Try.f10 Rows.ridesListsRow.domain false) (Rows.ridesListsSpec.post enc Try.prog Try.f10 false true false false) := by
  refine returnsInHanded_of_change (C := Try.checked) own started (by kernel_rfl) Try.func10
    (ChangeSpec.witness6 (enc := enc) (C := Try.checked) false ⟨#[], #[.slice none 0 0, .int .i64 0, .int .i64 0], []⟩ 8 (by kernel_rfl) (by kernel_rfl) (by kernel_rfl) (by kernel_rfl)) ?_
  intro W base args ds gs before hval0 hW hcnd _
  have hval : ∀ (j : Nat) t v, Try.f10.params[j]? = some t → args[j]? = some v → Value.okWide Try.prog W .any base t v := hval0
  have hW' := hW
  obtain ⟨p, q, hA0, hV, rfl, hfz, hnd⟩ := hW
  have hA : DataW.TrodAll enc Try.prog W 0 (fun _ => true) true Try.f10.params.toList args.toList ds p := hA0
  rw [Try.params10] at hA hval
  obtain ⟨v0, vs0, d0, ds0, p0, q0, hargs, rfl, rfl, h0, r0⟩ := trodAll_cons hA
  obtain ⟨v1, vs1, d1, ds1, p1, q1, rfl, rfl, rfl, h1, r1⟩ := trodAll_cons r0
  obtain ⟨v2, vs2, d2, ds2, p2, q2, rfl, rfl, rfl, h2, r2⟩ := trodAll_cons r1
  obtain ⟨rfl, rfl, rfl⟩ := trodAll_nil r2
  obtain rfl : args = #[v0, v1, v2] := by cases args; simp_all
  obtain ⟨rfl, rfl⟩ := trodVars_none hV
  have lt0 : ∀ x ∈ p0, x.block < W.heap.size := by obtain ⟨m, hm⟩ := h0; exact DataW.trod_lt m _ _ _ hm
  obtain ⟨z0, w0, x0⟩ := openRides (hval 0 22 v0 rfl rfl) h0
  have lt1 : ∀ x ∈ p1, x.block < W.heap.size := by obtain ⟨m, hm⟩ := h1; exact DataW.trod_lt m _ _ _ hm
  obtain ⟨z1, w1, x1⟩ := open_i Try.underlying3 (hval 1 3 v1 rfl rfl) h1
  have lt2 : ∀ x ∈ p2, x.block < W.heap.size := by obtain ⟨m, hm⟩ := h2; exact DataW.trod_lt m _ _ _ hm
  obtain ⟨z2, w2, x2⟩ := open_i Try.underlying3 (hval 2 3 v2 rfl rfl) h2
  clear hA0 hval0
  refine Calls.mono (law_calls law_h (z0, z1, z2) trivial rfl (vs := [v0, v1, v2]) (replist_mk x0 (replist_mk x1 (replist_mk x2 replist_mk0)))) fun e W' ⟨he, bel⟩ => ?_
  subst he
  exact ⟨_, rfl, _, _, _, [], _, [], hW', trodAll_mk1 (shut_bool Try.underlying4 _), (trodAll_cons_mk (Below.trod laidOut (by kernel_rfl) (of_decide_eq_true (by kernel_rfl)) h0 bel lt0) (trodAll_cons_mk (Below.trod laidOut (by kernel_rfl) (of_decide_eq_true (by kernel_rfl)) h1 bel lt1) (trodAll_cons_mk (Below.trod laidOut (by kernel_rfl) (of_decide_eq_true (by kernel_rfl)) h2 bel lt2) trodAll_mk0))), rfl, bel.frame _, fun h => by cases h⟩

theorem over : Rows.ridesListsRow.holds Try.pinned (OpenSpec.ofChange Rows.ridesListsSpec) :=
  OpenClaim.holds_of_wide 10 Try.f10 rfl rfl rfl rfl rfl rfl rfl ⟨rfl, rfl, rfl, rfl, rfl⟩ rfl rfl rfl rfl rfl (by kernel_rfl) Try.func10 (by kernel_rfl)
    (of_decide_eq_true (by kernel_rfl)) (by unfold Func.isWrapper; first | (rw [if_pos (by decide +kernel)]; kernel_rfl) | (rw [if_neg (by decide +kernel)]; exact ⟨rfl, rfl⟩))
    (fun os started H enc _ => lifted os started H enc)

theorem proved : Rows.RidesListsSaid := over
end Go.Proofs.Ytfghmpfiemmbgaa.lawLists
