/- SplitFair: Fair reports whether parts are a division. No condition. -/
import Derived.Test.YtepacknnggnifaaArg
namespace Go.Proofs.Ytepacknnggnifaa.lawFair
open Go.ChangeShapes Go.WideShapes Go.ChangeAt Go.RowKit Go.Deep Go.Joins
set_option linter.unusedVariables false

/-! skiarea/skiarealaw34.SplitFair -/
def lawIr : IFn := ⟨36, [.tmp 6],
  (.seq (.ops [
    ⟨(some 6), .mov, [.const (.bool false)], none⟩] false)
  (.seq (.seq (.ops [
    ⟨(some 9), .call 10, [], none⟩,
    ⟨(some 10), .not, [.tmp 9], none⟩] false)
  (.cond (.tmp 10)
    (.seq (.ops [
      ⟨(some 6), .mov, [.const (.bool false)], none⟩] false)
    .ret)
    .skip))
  (.seq (.seq (.ops [
    ⟨(some 11), .mov, [.tmp 1], none⟩,
    ⟨(some 12), .len, [.tmp 11], none⟩,
    ⟨(some 13), .cmp .gtr, [.tmp 12, .const (.int .i64 64)], none⟩,
    ⟨(some 14), .mov, [.tmp 13], none⟩,
    ⟨(some 15), .mov, [.tmp 2], (some (14, false))⟩,
    ⟨(some 16), .len, [.tmp 15], (some (14, false))⟩,
    ⟨(some 17), .cmp .gtr, [.tmp 16, .const (.int .i64 100)], (some (14, false))⟩,
    ⟨(some 18), .pick, [.tmp 14, .const (.bool true), .tmp 17], none⟩] false)
  (.cond (.tmp 18)
    (.seq (.ops [
      ⟨(some 6), .mov, [.const (.bool true)], none⟩] false)
    .ret)
    .skip))
  (.seq (.seq (.ops [
    ⟨(some 20), .mov, [.tmp 0], none⟩,
    ⟨(some 21), .mov, [.tmp 1], none⟩,
    ⟨(some 22), .call 12, [.tmp 20, .tmp 21], none⟩,
    ⟨(some 19), .mov, [.tmp 22], none⟩,
    ⟨(some 23), .extract 0, [.tmp 19], none⟩,
    ⟨(some 24), .extract 1, [.tmp 19], none⟩,
    ⟨(some 7), .mov, [.tmp 23], none⟩,
    ⟨(some 8), .mov, [.tmp 24], none⟩] false)
  (.seq (.ops [
    ⟨(some 25), .mov, [.tmp 8], none⟩,
    ⟨(some 26), .cmp .neq, [.tmp 25, .const (.int .i64 0)], none⟩] false)
  (.cond (.tmp 26)
    (.seq (.ops [
      ⟨(some 6), .mov, [.const (.bool true)], none⟩] false)
    .ret)
    .skip)))
  (.seq (.ops [
    ⟨(some 27), .mov, [.tmp 0], none⟩,
    ⟨(some 28), .mov, [.tmp 1], none⟩,
    ⟨(some 29), .mov, [.tmp 2], none⟩,
    ⟨(some 30), .call 16, [.tmp 27, .tmp 28, .tmp 29], none⟩,
    ⟨(some 31), .mov, [.tmp 0], none⟩,
    ⟨(some 32), .mov, [.tmp 1], none⟩,
    ⟨(some 33), .mov, [.tmp 2], none⟩,
    ⟨(some 34), .call 17, [.tmp 31, .tmp 32, .tmp 33], none⟩,
    ⟨(some 35), .eqb false, [.tmp 30, .tmp 34], none⟩,
    ⟨(some 6), .mov, [.tmp 35], none⟩] false)
  .ret)))))⟩
theorem lawLow : lowF Try.prog {} Try.f5 = some lawIr := by kernel_rfl
def lawS : Spec := spec (Int × List Int × List Int) (fun p => [I p.1, L 1 (p.2.1.map e1), L 1 (p.2.2.map e1)]) (fun _ => True) (fun _ => B true)
theorem lawV : fnV Try.prog lawIr lawS := by
  intro ⟨(a : Int), (ws : List Int), (ps : List Int)⟩ _
  show vc _ _ _ _ ⟨argEnv 0 [I a, L 1 (ws.map e1), L 1 (ps.map e1)], [], 0⟩
  have hl : (ws.map e1).length = ws.length := List.length_map ..
  have hl2 : (ps.map e1).length = ps.length := List.length_map ..
  by_cases h8 : 64 < ws.length ∨ 100 < ps.length
  · repeat' ((conv => whnf); first | (refine ⟨fun h => ?_, fun h => ?_⟩ <;> try (exfalso; first | omega | exact absurd h (by decide) | exact h rfl)) | (refine ⟨_, alive_h, (), trivial, leVs_of_eq rfl, .inl rfl, rfl, ?_⟩; show norm (B true) _) | exact ⟨[], rfl, trivial, rfl⟩ | fail)
  obtain ⟨P, hP⟩ : ∃ P, P = if chkF a ws = 0 then partsL a ws else [] := ⟨_, rfl⟩
  have hPl : P.length ≤ ws.length := by rw [hP]; split; rw [partsL_len]; exact Nat.le_refl _; exact Nat.zero_le _
  have hsp : splT a ws = .tup [L 1 (P.map e1), I (chkF a ws)] := by rw [hP]; rfl
  by_cases hc : chkF a ws = 0
  · rw [hc] at hsp
    have g := good_of hc
    have hbb : (chkF a ws = 0 ∧ fairP a ws ps) = fairP a ws ps := by simp [hc]
    have hpa : ws.length ≤ 1000000 ∧ ps.length ≤ 1000000 := by omega
    have hpb : Good a ws ∧ ps.length ≤ 1000000 := ⟨g, by omega⟩
    cases hd : decide (fairP a ws ps) with
    | true =>
      have hd' : decide (chkF a ws = 0 ∧ fairP a ws ps) = true := decide_eq_true ⟨hc, of_decide_eq_true hd⟩
      repeat' ((conv => whnf); first | (refine ⟨fun h => ?_, fun h => ?_⟩ <;> try (exfalso; first | omega | exact absurd h (by decide) | exact h rfl)) | (refine ⟨_, alive_h, (), trivial, leVs_of_eq rfl, .inl rfl, rfl, ?_⟩; show norm (B true) _) | (refine ⟨_, rsplit_h, (a, ws), (by show ws.length ≤ 1000000; omega), leVs_of_eq rfl, .inl rfl, rfl, ?_⟩; show norm (splT a ws) _; rw [hsp]) | (refine ⟨_, fair_h, (a, ws, ps), hpa, leVs_of_eq rfl, .inl rfl, rfl, ?_⟩; show norm (B (decide (chkF a ws = 0 ∧ fairP a ws ps))) _; rw [hd']) | (refine ⟨_, rfair_h, (a, ws, ps), hpb, leVs_of_eq rfl, .inl rfl, rfl, ?_⟩; show norm (B (decide (fairP a ws ps))) _; rw [hd]) | exact ⟨[], rfl, trivial, rfl⟩ | fail)
    | false =>
      have hd' : decide (chkF a ws = 0 ∧ fairP a ws ps) = false := decide_eq_false fun h => of_decide_eq_false hd h.2
      repeat' ((conv => whnf); first | (refine ⟨fun h => ?_, fun h => ?_⟩ <;> try (exfalso; first | omega | exact absurd h (by decide) | exact h rfl)) | (refine ⟨_, alive_h, (), trivial, leVs_of_eq rfl, .inl rfl, rfl, ?_⟩; show norm (B true) _) | (refine ⟨_, rsplit_h, (a, ws), (by show ws.length ≤ 1000000; omega), leVs_of_eq rfl, .inl rfl, rfl, ?_⟩; show norm (splT a ws) _; rw [hsp]) | (refine ⟨_, fair_h, (a, ws, ps), hpa, leVs_of_eq rfl, .inl rfl, rfl, ?_⟩; show norm (B (decide (chkF a ws = 0 ∧ fairP a ws ps))) _; rw [hd']) | (refine ⟨_, rfair_h, (a, ws, ps), hpb, leVs_of_eq rfl, .inl rfl, rfl, ?_⟩; show norm (B (decide (fairP a ws ps))) _; rw [hd]) | exact ⟨[], rfl, trivial, rfl⟩ | fail)
  · repeat' ((conv => whnf); first | (refine ⟨fun h => ?_, fun h => ?_⟩ <;> try (exfalso; first | omega | exact absurd h (by decide) | exact h rfl)) | (refine ⟨_, alive_h, (), trivial, leVs_of_eq rfl, .inl rfl, rfl, ?_⟩; show norm (B true) _) | (refine ⟨_, rsplit_h, (a, ws), (by show ws.length ≤ 1000000; omega), leVs_of_eq rfl, .inl rfl, rfl, ?_⟩; show norm (splT a ws) _; rw [hsp]) | exact ⟨[], rfl, trivial, rfl⟩ | fail)
theorem law_h : Holds Try.prog 5 lawS := holds_of mix Try.func5 lawLow (fun _ => rfl) lawV

/-! ### THE ROW's STEP -/
theorem own : ownKnob Try.prog.godebug = none := by kernel_rfl
theorem laidOut : laidOutB Try.prog = true := by kernel_rfl
set_option maxRecDepth 100000 in
theorem lifted (os : Os) (started : os.Started) (H : Type) (enc : TypeId × Value → H) :
    ReturnsInHanded {} Try.checked os 5 .any (Rows.splitFairSpec.pre6 enc Try.prog Try.f5 Rows.splitFairRow.domain false) (Rows.splitFairSpec.post enc Try.prog Try.f5 false true false false) := by
  refine returnsInHanded_of_change (C := Try.checked) own started (by kernel_rfl) Try.func5
    (ChangeSpec.witness6 (enc := enc) (C := Try.checked) false ⟨#[], #[.int .i64 0, .slice none 0 0, .slice none 0 0], []⟩ 8 (by kernel_rfl) (by kernel_rfl) (by kernel_rfl) (by kernel_rfl)) ?_
  intro W base args ds gs before hval0 hW hcnd _
  have hval : ∀ (j : Nat) t v, Try.f5.params[j]? = some t → args[j]? = some v → Value.okWide Try.prog W .any base t v := hval0
  have hW' := hW
  obtain ⟨p, q, hA0, hV, rfl, hfz, hnd⟩ := hW
  have hA : DataW.TrodAll enc Try.prog W 0 (fun _ => true) true Try.f5.params.toList args.toList ds p := hA0
  rw [Try.params5] at hA hval
  obtain ⟨v0, vs0, d0, ds0, p0, q0, hargs, rfl, rfl, h0, r0⟩ := trodAll_cons hA
  obtain ⟨v1, vs1, d1, ds1, p1, q1, rfl, rfl, rfl, h1, r1⟩ := trodAll_cons r0
  obtain ⟨v2, vs2, d2, ds2, p2, q2, rfl, rfl, rfl, h2, r2⟩ := trodAll_cons r1
  obtain ⟨rfl, rfl, rfl⟩ := trodAll_nil r2
  obtain rfl : args = #[v0, v1, v2] := by cases args; simp_all
  obtain ⟨rfl, rfl⟩ := trodVars_none hV
  have lt0 : ∀ x ∈ p0, x.block < W.heap.size := by obtain ⟨m, hm⟩ := h0; exact DataW.trod_lt m _ _ _ hm
  obtain ⟨z0, w0, x0⟩ := open_i Try.underlying3 (hval 0 3 v0 rfl rfl) h0
  have lt1 : ∀ x ∈ p1, x.block < W.heap.size := by obtain ⟨m, hm⟩ := h1; exact DataW.trod_lt m _ _ _ hm
  obtain ⟨z1, w1, x1⟩ := openI (hval 1 22 v1 rfl rfl) h1
  have lt2 : ∀ x ∈ p2, x.block < W.heap.size := by obtain ⟨m, hm⟩ := h2; exact DataW.trod_lt m _ _ _ hm
  obtain ⟨z2, w2, x2⟩ := openI (hval 2 22 v2 rfl rfl) h2
  clear hA0 hval0
  refine Calls.mono (law_calls law_h (z0, z1, z2) trivial rfl (vs := [v0, v1, v2]) (replist_mk x0 (replist_mk x1 (replist_mk x2 replist_mk0)))) fun e W' ⟨he, bel⟩ => ?_
  subst he
  exact ⟨_, rfl, _, _, _, [], _, [], hW', trodAll_mk1 (shut_bool Try.underlying4 _), (trodAll_cons_mk (Below.trod laidOut (by kernel_rfl) (of_decide_eq_true (by kernel_rfl)) h0 bel lt0) (trodAll_cons_mk (Below.trod laidOut (by kernel_rfl) (of_decide_eq_true (by kernel_rfl)) h1 bel lt1) (trodAll_cons_mk (Below.trod laidOut (by kernel_rfl) (of_decide_eq_true (by kernel_rfl)) h2 bel lt2) trodAll_mk0))), rfl, bel.frame _, fun h => by cases h⟩

theorem over : Rows.splitFairRow.holds Try.pinned (OpenSpec.ofChange Rows.splitFairSpec) :=
  OpenClaim.holds_of_wide 5 Try.f5 rfl rfl rfl rfl rfl rfl rfl ⟨rfl, rfl, rfl, rfl, rfl⟩ rfl rfl rfl rfl rfl (by kernel_rfl) Try.func5 (by kernel_rfl)
    (of_decide_eq_true (by kernel_rfl)) (by unfold Func.isWrapper; first | (rw [if_pos (by decide +kernel)]; kernel_rfl) | (rw [if_neg (by decide +kernel)]; exact ⟨rfl, rfl⟩))
    (fun os started H enc _ => lifted os started H enc)

theorem proved : Rows.SplitFairSaid := over
end Go.Proofs.Ytepacknnggnifaa.lawFair
