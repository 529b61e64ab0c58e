/- RevenueAll: All returns the shares of any sales together, or the first error. No condition. -/
import Derived.Test.YtbglmocgijlomaaArg
namespace Go.Proofs.Ytbglmocgijlomaa.lawAll
open Go.ChangeShapes Go.WideShapes Go.ChangeAt Go.RowKit Go.Deep Go.Joins
set_option linter.unusedVariables false
set_option maxRecDepth 20000

/-! skiarea/skiarealaw35.RevenueAll -/
def lawIr : IFn := ⟨49, [.tmp 4],
  (.seq (.ops [
    ⟨(some 2), .box, [.tmp 0], none⟩,
    ⟨(some 4), .mov, [.const (.bool false)], none⟩] false)
  (.seq (.seq (.ops [
    ⟨(some 9), .call 10, [], none⟩,
    ⟨(some 10), .not, [.tmp 9], none⟩] false)
  (.cond (.tmp 10)
    (.seq (.ops [
      ⟨(some 4), .mov, [.const (.bool false)], none⟩] false)
    .ret)
    .skip))
  (.seq (.seq (.ops [
    ⟨(some 11), .load 6 true, [.tmp 2], none⟩,
    ⟨(some 12), .call 13, [.tmp 11], none⟩,
    ⟨(some 13), .not, [.tmp 12], none⟩,
    ⟨(some 14), .mov, [.tmp 13], none⟩,
    ⟨(some 15), .mov, [.tmp 1], (some (14, false))⟩,
    ⟨(some 16), .len, [.tmp 15], (some (14, false))⟩,
    ⟨(some 17), .cmp .gtr, [.tmp 16, .const (.int .i64 40)], (some (14, false))⟩,
    ⟨(some 18), .pick, [.tmp 14, .const (.bool true), .tmp 17], none⟩] false)
  (.cond (.tmp 18)
    (.seq (.ops [
      ⟨(some 4), .mov, [.const (.bool true)], none⟩] false)
    .ret)
    .skip))
  (.seq (.ops [
    ⟨(some 20), .faddr 0, [.tmp 2], none⟩,
    ⟨(some 21), .load 4 true, [.tmp 20], none⟩,
    ⟨(some 22), .faddr 4, [.tmp 2], none⟩,
    ⟨(some 23), .load 1 false, [.tmp 22], none⟩,
    ⟨(some 24), .faddr 5, [.tmp 2], none⟩,
    ⟨(some 25), .load 1 false, [.tmp 24], none⟩,
    ⟨(some 26), .mov, [.tmp 1], none⟩,
    ⟨(some 27), .call 20, [.tmp 21, .tmp 23, .tmp 25, .tmp 26], none⟩,
    ⟨(some 19), .mov, [.tmp 27], none⟩,
    ⟨(some 28), .extract 0, [.tmp 19], none⟩,
    ⟨(some 29), .extract 1, [.tmp 19], none⟩,
    ⟨(some 5), .mov, [.tmp 28], none⟩,
    ⟨(some 6), .mov, [.tmp 29], none⟩] false)
  (.seq (.ops [
    ⟨(some 31), .faddr 0, [.tmp 2], none⟩,
    ⟨(some 32), .load 4 true, [.tmp 31], none⟩,
    ⟨(some 33), .faddr 4, [.tmp 2], none⟩,
    ⟨(some 34), .load 1 false, [.tmp 33], none⟩,
    ⟨(some 35), .faddr 5, [.tmp 2], none⟩,
    ⟨(some 36), .load 1 false, [.tmp 35], none⟩,
    ⟨(some 37), .mov, [.tmp 1], none⟩,
    ⟨(some 38), .call 21, [.tmp 32, .tmp 34, .tmp 36, .tmp 37], none⟩,
    ⟨(some 30), .mov, [.tmp 38], none⟩,
    ⟨(some 39), .extract 0, [.tmp 30], none⟩,
    ⟨(some 40), .extract 1, [.tmp 30], none⟩,
    ⟨(some 7), .mov, [.tmp 39], none⟩,
    ⟨(some 8), .mov, [.tmp 40], none⟩] false)
  (.seq (.ops [
    ⟨(some 41), .mov, [.tmp 5], none⟩,
    ⟨(some 42), .mov, [.tmp 7], none⟩,
    ⟨(some 43), .call 17, [.tmp 41, .tmp 42], none⟩,
    ⟨(some 44), .mov, [.tmp 43], none⟩,
    ⟨(some 45), .mov, [.tmp 6], (some (44, true))⟩,
    ⟨(some 46), .mov, [.tmp 8], (some (44, true))⟩,
    ⟨(some 47), .cmp .eql, [.tmp 45, .tmp 46], (some (44, true))⟩,
    ⟨(some 48), .pick, [.tmp 44, .tmp 47, .const (.bool false)], none⟩,
    ⟨(some 4), .mov, [.tmp 48], none⟩] false)
  .ret))))))⟩
theorem lawLow : lowF Try.prog {} Try.f6 = some lawIr := by kernel_rfl
def lawS : Spec := spec (Book × List Sale) (fun p => [aB p.1, L 6 (p.2.map encE)]) (fun p => okB p.1) (fun _ => B true)
set_option maxHeartbeats 1000000 in
theorem lawV : fnV Try.prog lawIr lawS := by
  intro ⟨(b : Book), (l : List Sale)⟩ (ho : okB b)
  show vc _ _ _ _ ⟨argEnv 0 [aB b, L 6 (l.map encE)], [], 0⟩
  have hl : (l.map encE).length = l.length := List.length_map ..
  by_cases hd : defP b
  · have hk := hd.bk ho
    by_cases h40 : l.length ≤ 40
    · obtain ⟨P, hP⟩ : ∃ P, allR b.m b.l b.rides l = P := ⟨_, rfl⟩
      obtain ⟨e, hE⟩ : ∃ e, salesE l = e := ⟨_, rfl⟩
      have hPl : P.length ≤ 4000 := by
        rw [← hP, allR]
        split
        · rename_i h0
          have := (all_good hk (sale_ok h0)).len
          have := few_len (allL b.m b.l b.rides l)
          omega
        · exact Nat.zero_le _
      repeat' ((conv => whnf); first | (refine ⟨fun h => ?_, fun h => ?_⟩ <;> try (exfalso; first | omega | exact absurd h (by decide) | exact h rfl)) | (refine ⟨_, alive_h, (), trivial, leVs_of_eq rfl, .inl rfl, rfl, ?_⟩; show norm (B true) _) | (refine ⟨_, defined_h, b, ho, leVs_of_eq rfl, .inl rfl, rfl, ?_⟩; show norm (B (decide (defP b))) _; rw [decide_eq_true hd]) | (refine ⟨_, allS_h, (b.m, b.l, b.rides, l), ⟨hk, (by show l.length ≤ 40; omega)⟩, leVs_of_eq rfl, .inl rfl, rfl, ?_⟩; show norm (.tup [L 2 ((allR b.m b.l b.rides l).map encS), I (salesE l)]) _; rw [hP, hE]) | (refine ⟨_, rallS_h, (b.m, b.l, b.rides, l), ⟨hk, (by show l.length ≤ 40; omega)⟩, leVs_of_eq rfl, .inl rfl, rfl, ?_⟩; show norm (.tup [L 2 ((allR b.m b.l b.rides l).map encS), I (salesE l)]) _; rw [hP, hE]) | (refine ⟨_, sameS_h, (P, P), (by show (P).length ≤ 9223372036854775807; omega), leVs_of_eq rfl, .inl rfl, rfl, ?_⟩; show norm (B (decide (P = P))) _; rw [decide_eq_true rfl]) | exact ⟨[], rfl, trivial, rfl⟩ | fail)
    · repeat' ((conv => whnf); first | (refine ⟨fun h => ?_, fun h => ?_⟩ <;> try (exfalso; first | omega | exact absurd h (by decide) | exact h rfl)) | (refine ⟨_, alive_h, (), trivial, leVs_of_eq rfl, .inl rfl, rfl, ?_⟩; show norm (B true) _) | (refine ⟨_, defined_h, b, ho, leVs_of_eq rfl, .inl rfl, rfl, ?_⟩; show norm (B (decide (defP b))) _; rw [decide_eq_true hd]) | exact ⟨[], rfl, trivial, rfl⟩ | fail)
  · repeat' ((conv => whnf); first | (refine ⟨fun h => ?_, fun h => ?_⟩ <;> try (exfalso; first | omega | exact absurd h (by decide) | exact h rfl)) | (refine ⟨_, alive_h, (), trivial, leVs_of_eq rfl, .inl rfl, rfl, ?_⟩; show norm (B true) _) | (refine ⟨_, defined_h, b, ho, leVs_of_eq rfl, .inl rfl, rfl, ?_⟩; show norm (B (decide (defP b))) _; rw [decide_eq_false hd]) | exact ⟨[], rfl, trivial, rfl⟩ | fail)
theorem law_h : Holds Try.prog 6 lawS := holds_of mix Try.func6 lawLow (fun _ => rfl) lawV

/-! ### THE ROW's STEP -/
theorem own : ownKnob Try.prog.godebug = none := by kernel_rfl
theorem laidOut : laidOutB Try.prog = true := by kernel_rfl
set_option maxRecDepth 100000 in
theorem lifted (os : Os) (started : os.Started) (H : Type) (enc : TypeId × Value → H) :
    ReturnsInHanded {} Try.checked os 6 .any (Rows.revenueAllSpec.pre6 enc Try.prog Try.f6 Rows.revenueAllRow.domain false) (Rows.revenueAllSpec.post enc Try.prog Try.f6 false true false false) := by
  refine returnsInHanded_of_change (C := Try.checked) own started (by kernel_rfl) Try.func6
    (ChangeSpec.witness6 (enc := enc) (C := Try.checked) false ⟨#[], #[.agg #[.slice none 0 0, .slice none 0 0, .slice none 0 0, .slice none 0 0, .slice none 0 0, .slice none 0 0], .slice none 0 0], []⟩ 8 (by kernel_rfl) (by kernel_rfl) (by kernel_rfl) (by kernel_rfl)) ?_
  intro W base args ds gs before hval0 hW hcnd _
  have hval : ∀ (j : Nat) t v, Try.f6.params[j]? = some t → args[j]? = some v → Value.okWide Try.prog W .any base t v := hval0
  have hW' := hW
  obtain ⟨p, q, hA0, hV, rfl, hfz, hnd⟩ := hW
  have hA : DataW.TrodAll enc Try.prog W 0 (fun _ => true) true Try.f6.params.toList args.toList ds p := hA0
  rw [Try.params6] at hA hval
  obtain ⟨v0, vs0, d0, ds0, p0, q0, hargs, rfl, rfl, h0, r0⟩ := trodAll_cons hA
  obtain ⟨v1, vs1, d1, ds1, p1, q1, rfl, rfl, rfl, h1, r1⟩ := trodAll_cons r0
  obtain ⟨rfl, rfl, rfl⟩ := trodAll_nil r1
  obtain rfl : args = #[v0, v1] := by cases args; simp_all
  obtain ⟨rfl, rfl⟩ := trodVars_none hV
  have lt0 : ∀ x ∈ p0, x.block < W.heap.size := by obtain ⟨m, hm⟩ := h0; exact DataW.trod_lt m _ _ _ hm
  obtain ⟨z0, w0, x0⟩ := openB (hval 0 36 v0 rfl rfl) h0
  have lt1 : ∀ x ∈ p1, x.block < W.heap.size := by obtain ⟨m, hm⟩ := h1; exact DataW.trod_lt m _ _ _ hm
  obtain ⟨z1, w1, x1⟩ := openE (hval 1 22 v1 rfl rfl) h1
  clear hA0 hval0
  refine Calls.mono (law_calls law_h (z0, z1) w0 rfl (vs := [v0, v1]) (replist_mk x0 (replist_mk x1 replist_mk0))) fun e W' ⟨he, bel⟩ => ?_
  subst he
  exact ⟨_, rfl, _, _, _, [], _, [], hW', trodAll_mk1 (shut_bool Try.underlying4 _), (trodAll_cons_mk (Below.trod laidOut (by kernel_rfl) (of_decide_eq_true (by kernel_rfl)) h0 bel lt0) (trodAll_cons_mk (Below.trod laidOut (by kernel_rfl) (of_decide_eq_true (by kernel_rfl)) h1 bel lt1) trodAll_mk0)), rfl, bel.frame _, fun h => by cases h⟩

theorem over : Rows.revenueAllRow.holds Try.pinned (OpenSpec.ofChange Rows.revenueAllSpec) :=
  OpenClaim.holds_of_wide 6 Try.f6 rfl rfl rfl rfl rfl rfl rfl ⟨rfl, rfl, rfl, rfl, rfl⟩ rfl rfl rfl rfl rfl (by kernel_rfl) Try.func6 (by kernel_rfl)
    (of_decide_eq_true (by kernel_rfl)) (by unfold Func.isWrapper; first | (rw [if_pos (by decide +kernel)]; kernel_rfl) | (rw [if_neg (by decide +kernel)]; exact ⟨rfl, rfl⟩))
    (fun os started H enc _ => lifted os started H enc)

theorem proved : Rows.RevenueAllSaid := over
end Go.Proofs.Ytbglmocgijlomaa.lawAll
