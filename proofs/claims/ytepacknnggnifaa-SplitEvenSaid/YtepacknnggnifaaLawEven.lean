/- SplitEven: Even returns the specified parts, as Split with equal weights does. No condition. -/
import Derived.Test.YtepacknnggnifaaArg
import Derived.Test.YtepacknnggnifaaPC
namespace Go.Proofs.Ytepacknnggnifaa.lawEven
open Go.ChangeShapes Go.WideShapes Go.ChangeAt Go.RowKit Go.Deep Go.Joins
set_option linter.unusedVariables false

/-! skiarea/skiarealaw34.SplitEven -/
def lawIr : IFn := ⟨70, [.tmp 6],
  (.seq (.ops [
    ⟨(some 6), .mov, [.const (.bool false)], none⟩] false)
  (.seq (.seq (.ops [
    ⟨(some 15), .call 10, [], none⟩,
    ⟨(some 16), .not, [.tmp 15], none⟩] false)
  (.cond (.tmp 16)
    (.seq (.ops [
      ⟨(some 6), .mov, [.const (.bool false)], none⟩] false)
    .ret)
    .skip))
  (.seq (.ops [
    ⟨(some 18), .mov, [.tmp 0], none⟩,
    ⟨(some 19), .mov, [.tmp 1], none⟩,
    ⟨(some 20), .call 14, [.tmp 18, .tmp 19], none⟩,
    ⟨(some 17), .mov, [.tmp 20], none⟩,
    ⟨(some 21), .extract 0, [.tmp 17], none⟩,
    ⟨(some 22), .extract 1, [.tmp 17], none⟩,
    ⟨(some 7), .mov, [.tmp 21], none⟩,
    ⟨(some 8), .mov, [.tmp 22], none⟩] false)
  (.seq (.ops [
    ⟨(some 24), .mov, [.tmp 0], none⟩,
    ⟨(some 25), .mov, [.tmp 1], none⟩,
    ⟨(some 26), .call 15, [.tmp 24, .tmp 25], none⟩,
    ⟨(some 23), .mov, [.tmp 26], none⟩,
    ⟨(some 27), .extract 0, [.tmp 23], none⟩,
    ⟨(some 28), .extract 1, [.tmp 23], none⟩,
    ⟨(some 9), .mov, [.tmp 27], none⟩,
    ⟨(some 10), .mov, [.tmp 28], none⟩] false)
  (.seq (.seq (.ops [
    ⟨(some 29), .mov, [.tmp 7], none⟩,
    ⟨(some 30), .mov, [.tmp 9], none⟩,
    ⟨(some 31), .call 13, [.tmp 29, .tmp 30], none⟩,
    ⟨(some 32), .not, [.tmp 31], none⟩,
    ⟨(some 33), .mov, [.tmp 32], none⟩,
    ⟨(some 34), .mov, [.tmp 8], (some (33, false))⟩,
    ⟨(some 35), .mov, [.tmp 10], (some (33, false))⟩,
    ⟨(some 36), .cmp .neq, [.tmp 34, .tmp 35], (some (33, false))⟩,
    ⟨(some 37), .pick, [.tmp 33, .const (.bool true), .tmp 36], none⟩] false)
  (.cond (.tmp 37)
    (.seq (.ops [
      ⟨(some 6), .mov, [.const (.bool false)], none⟩] false)
    .ret)
    .skip))
  (.seq (.seq (.ops [
    ⟨(some 38), .mov, [.tmp 8], none⟩,
    ⟨(some 39), .cmp .neq, [.tmp 38, .const (.int .i64 0)], none⟩,
    ⟨(some 40), .mov, [.tmp 39], none⟩,
    ⟨(some 41), .mov, [.tmp 2], (some (40, false))⟩,
    ⟨(some 42), .cmp .lss, [.tmp 41, .const (.int .i64 1)], (some (40, false))⟩,
    ⟨(some 43), .pick, [.tmp 40, .const (.bool true), .tmp 42], none⟩,
    ⟨(some 44), .mov, [.tmp 43], none⟩,
    ⟨(some 45), .mov, [.tmp 2], (some (44, false))⟩,
    ⟨(some 46), .cmp .gtr, [.tmp 45, .const (.int .i64 1000000000)], (some (44, false))⟩,
    ⟨(some 47), .pick, [.tmp 44, .const (.bool true), .tmp 46], none⟩] false)
  (.cond (.tmp 47)
    (.seq (.ops [
      ⟨(some 6), .mov, [.const (.bool true)], none⟩] false)
    .ret)
    .skip))
  (.seq (.ops [
    ⟨(some 11), .nilOwn 3 1, [], none⟩] false)
  (.seq (.seq (.ops [
    ⟨(some 12), .mov, [.const (.int .i64 0)], none⟩] false)
  (.block 0
    (.loop
      (.seq (.seq (.ops [
        ⟨(some 48), .mov, [.tmp 12], none⟩,
        ⟨(some 49), .mov, [.tmp 1], none⟩,
        ⟨(some 50), .cmp .lss, [.tmp 48, .tmp 49], none⟩] false)
      (.cond (.tmp 50)
        .skip
        (.exit 0)))
      (.seq (.block 1
        (.ops [
          ⟨(some 53), .mov, [.tmp 11], none⟩,
          ⟨(some 54), .mov, [.tmp 2], none⟩,
          ⟨(some 55), .buildSl 3 1, [.tmp 54], none⟩,
          ⟨(some 56), .append 3 1 8, [.tmp 53, .tmp 55], none⟩,
          ⟨(some 11), .mov, [.tmp 56], none⟩] false))
      (.ops [
        ⟨(some 51), .mov, [.tmp 12], none⟩,
        ⟨(some 52), .bin .add .i64 false, [.tmp 51, .const (.int .i64 1)], none⟩,
        ⟨(some 12), .mov, [.tmp 52], none⟩] false))))))
  (.seq (.ops [
    ⟨(some 58), .mov, [.tmp 0], none⟩,
    ⟨(some 59), .mov, [.tmp 11], none⟩,
    ⟨(some 60), .callo 11, [.tmp 58, .tmp 59], none⟩,
    ⟨(some 57), .mov, [.tmp 60], none⟩,
    ⟨(some 61), .extract 0, [.tmp 57], none⟩,
    ⟨(some 62), .extract 1, [.tmp 57], none⟩,
    ⟨(some 13), .mov, [.tmp 61], none⟩,
    ⟨(some 14), .mov, [.tmp 62], none⟩] false)
  (.seq (.ops [
    ⟨(some 63), .mov, [.tmp 14], none⟩,
    ⟨(some 64), .cmp .eql, [.tmp 63, .const (.int .i64 0)], none⟩,
    ⟨(some 65), .mov, [.tmp 64], none⟩,
    ⟨(some 66), .mov, [.tmp 7], (some (65, true))⟩,
    ⟨(some 67), .mov, [.tmp 13], (some (65, true))⟩,
    ⟨(some 68), .call 13, [.tmp 66, .tmp 67], (some (65, true))⟩,
    ⟨(some 69), .pick, [.tmp 65, .tmp 68, .const (.bool false)], none⟩,
    ⟨(some 6), .mov, [.tmp 69], none⟩] false)
  .ret))))))))))⟩
theorem lawLow : lowF Try.prog { owns := [(11, 3)], gives := [60] } Try.f4 = some lawIr := by kernel_rfl
def lawS : Spec := spec (Int × Int × Int) (fun p => [I p.1, I p.2.1, I p.2.2]) (fun _ => True) (fun _ => B true)
theorem lawV : fnV Try.prog lawIr lawS := by
  intro ⟨(a : Int), (n : Int), (w : Int)⟩ _
  show vc _ _ _ _ ⟨argEnv 0 [I a, I n, I w], [], 0⟩
  by_cases he : evErr a n = 0
  · have hev : evT a n = .tup [L 1 ((evenL a n n.toNat).map e1), I 0] := by unfold evT; rw [if_pos he, he]
    have hn : 1 ≤ n ∧ n ≤ 64 := by
      unfold evErr at he
      split at he
      · omega
      split at he
      · omega
      omega
    have hle : (evenL a n n.toNat).length = n.toNat := evenL_len _ _ _
    by_cases hw : w < 1 ∨ 1000000000 < w
    · repeat' ((conv => whnf); first | (refine ⟨fun h => ?_, fun h => ?_⟩ <;> try (exfalso; first | omega | exact absurd h (by decide) | exact h rfl)) | (refine ⟨_, alive_h, (), trivial, leVs_of_eq rfl, .inl rfl, rfl, ?_⟩; show norm (B true) _) | (refine ⟨_, even_h, (a, n), trivial, leVs_of_eq rfl, .inl rfl, rfl, ?_⟩; show norm (evT a n) _; rw [hev]) | (refine ⟨_, reven_h, (a, n), trivial, leVs_of_eq rfl, .inl rfl, rfl, ?_⟩; show norm (evT a n) _; rw [hev]) | (refine ⟨_, same_h, (evenL a n n.toNat, evenL a n n.toNat), (by show (evenL a n n.toNat).length ≤ 9223372036854775807; omega), leVs_of_eq rfl, .inl rfl, rfl, ?_⟩; show norm (B (decide (evenL a n n.toNat = evenL a n n.toNat))) _; rw [decide_eq_true rfl]) | exact ⟨[], rfl, trivial, rfl⟩ | fail)
    have hes := even_split he (by omega : 1 ≤ w) (by omega)
    repeat' ((conv => whnf); first | (refine ⟨fun h => ?_, fun h => ?_⟩ <;> try (exfalso; first | omega | exact absurd h (by decide) | exact h rfl)) | (refine ⟨_, alive_h, (), trivial, leVs_of_eq rfl, .inl rfl, rfl, ?_⟩; show norm (B true) _) | (refine ⟨_, even_h, (a, n), trivial, leVs_of_eq rfl, .inl rfl, rfl, ?_⟩; show norm (evT a n) _; rw [hev]) | (refine ⟨_, reven_h, (a, n), trivial, leVs_of_eq rfl, .inl rfl, rfl, ?_⟩; show norm (evT a n) _; rw [hev]) | (refine ⟨_, same_h, (evenL a n n.toNat, evenL a n n.toNat), (by show (evenL a n n.toNat).length ≤ 9223372036854775807; omega), leVs_of_eq rfl, .inl rfl, rfl, ?_⟩; show norm (B (decide (evenL a n n.toNat = evenL a n n.toNat))) _; rw [decide_eq_true rfl]) | fail | fail)
    refine ⟨Nat × (List (List CV)), fun xq => ⟨[(0, I a), (1, I n), (2, I w), (7, L 1 ((evenL a n n.toNat).map e1)), (11, .osl 0), (12, I xq.1)], [(0, .row 3 1 xq.2)], 1⟩, fun xq => xq.1 ≤ n.toNat ∧ xq.2 = (List.replicate xq.1 w).map e1, fun xq => n.toNat - xq.1, ⟨(0, _), ?_, [(0, 0)], ⟨⟨rfl, rfl⟩, ⟨⟨rfl, rfl⟩, ⟨⟨rfl, rfl⟩, ⟨⟨rfl, rfl⟩, ⟨⟨rfl, rfl⟩, ⟨⟨rfl, rfl⟩, trivial⟩⟩⟩⟩⟩⟩, ⟨⟨rfl, rfl, rfl⟩, trivial⟩, rfl, rfl, rfl⟩, ?_⟩
    · (try dsimp only); exact ⟨Nat.zero_le _, rfl⟩
    rintro ⟨k, es⟩ hk
    obtain ⟨hk, rfl⟩ : k ≤ n.toNat ∧ es = (List.replicate k w).map e1 := hk
    (try dsimp only)
    have hrl : ((List.replicate k w).map e1).length = k := by rw [List.length_map, List.length_replicate]
    by_cases hkn : (k : Int) < n
    · repeat' ((conv => whnf); first | (refine ⟨fun h => ?_, fun h => ?_⟩ <;> try (exfalso; first | omega | exact absurd h (by decide) | exact h rfl)) | (refine ⟨(k + 1, _), ⟨?_, by (try dsimp only); omega⟩, [(0, 1)], ⟨⟨rfl, rfl⟩, ⟨⟨rfl, rfl⟩, ⟨⟨rfl, rfl⟩, ⟨⟨rfl, rfl⟩, ⟨⟨rfl, rfl⟩, ⟨⟨rfl, rfl⟩, trivial⟩⟩⟩⟩⟩⟩, ⟨⟨rfl, rfl, rfl⟩, trivial⟩, rfl, rfl, rfl⟩; (try dsimp only); exact ⟨by omega, by rw [List.replicate_succ', List.map_append]; rfl⟩) | refine ⟨⟨by omega, by omega⟩, ?_⟩ | (refine ⟨⟨by simp only [List.length_cons, List.length_nil]; omega, by simp only [List.length_cons, List.length_nil]; omega⟩, ?_⟩) | fail)
    · have hkk : k = n.toNat := by omega
      subst hkk
      have hnn : ((n.toNat : Nat) : Int) = n := Int.toNat_of_nonneg (by omega)
      repeat' ((conv => whnf); first | (refine ⟨fun h => ?_, fun h => ?_⟩ <;> try (exfalso; first | omega | exact absurd h (by decide) | exact h rfl)) | (refine ⟨rfl, _, split_h, (a, List.replicate n.toNat w), (by show (List.replicate n.toNat w).length ≤ 1000000; rw [List.length_replicate]; omega), leVs_of_eq rfl, trivial, ?_⟩; show norm (shift _ (splT a (List.replicate n.toNat w))) _; rw [hes]) | (refine ⟨_, same_h, (evenL a n n.toNat, evenL a n n.toNat), (by show (evenL a n n.toNat).length ≤ 9223372036854775807; omega), leVs_of_eq rfl, .inl rfl, rfl, ?_⟩; show norm (B (decide (evenL a n n.toNat = evenL a n n.toNat))) _; rw [decide_eq_true rfl]) | exact ⟨[], rfl, trivial, rfl⟩ | fail)
  · have hev : evT a n = .tup [L 1 (([] : List Int).map e1), I (evErr a n)] := by unfold evT; rw [if_neg he]
    repeat' ((conv => whnf); first | (refine ⟨fun h => ?_, fun h => ?_⟩ <;> try (exfalso; first | omega | exact absurd h (by decide) | exact h rfl)) | (refine ⟨_, alive_h, (), trivial, leVs_of_eq rfl, .inl rfl, rfl, ?_⟩; show norm (B true) _) | (refine ⟨_, even_h, (a, n), trivial, leVs_of_eq rfl, .inl rfl, rfl, ?_⟩; show norm (evT a n) _; rw [hev]) | (refine ⟨_, reven_h, (a, n), trivial, leVs_of_eq rfl, .inl rfl, rfl, ?_⟩; show norm (evT a n) _; rw [hev]) | (refine ⟨_, same_h, ([], []), (by show ([] : List Int).length ≤ 9223372036854775807; decide), leVs_of_eq rfl, .inl rfl, rfl, ?_⟩; show norm (B (decide (([] : List Int) = []))) _; rw [decide_eq_true rfl]) | exact ⟨[], rfl, trivial, rfl⟩ | fail)
theorem law_h : Holds Try.prog 4 lawS := holds_of mix Try.func4 lawLow (fun _ => rfl) lawV

/-! ### THE ROW's STEP -/
theorem own : ownKnob Try.prog.godebug = none := by kernel_rfl
theorem laidOut : laidOutB Try.prog = true := by kernel_rfl
set_option maxRecDepth 100000 in
theorem lifted (os : Os) (started : os.Started) (H : Type) (enc : TypeId × Value → H) :
    ReturnsInHanded {} Try.checked os 4 .any (Rows.splitEvenSpec.pre6 enc Try.prog Try.f4 Rows.splitEvenRow.domain false) (Rows.splitEvenSpec.post enc Try.prog Try.f4 false true false false) := by
  refine returnsInHanded_of_change (C := Try.checked) own started (by kernel_rfl) Try.func4
    (ChangeSpec.witness6 (enc := enc) (C := Try.checked) false ⟨#[], #[.int .i64 0, .int .i64 0, .int .i64 0], []⟩ 8 (by kernel_rfl) (by kernel_rfl) (by kernel_rfl) (by kernel_rfl)) ?_
  intro W base args ds gs before hval0 hW hcnd _
  have hval : ∀ (j : Nat) t v, Try.f4.params[j]? = some t → args[j]? = some v → Value.okWide Try.prog W .any base t v := hval0
  have hW' := hW
  obtain ⟨p, q, hA0, hV, rfl, hfz, hnd⟩ := hW
  have hA : DataW.TrodAll enc Try.prog W 0 (fun _ => true) true Try.f4.params.toList args.toList ds p := hA0
  rw [Try.params4] at hA hval
  obtain ⟨v0, vs0, d0, ds0, p0, q0, hargs, rfl, rfl, h0, r0⟩ := trodAll_cons hA
  obtain ⟨v1, vs1, d1, ds1, p1, q1, rfl, rfl, rfl, h1, r1⟩ := trodAll_cons r0
  obtain ⟨v2, vs2, d2, ds2, p2, q2, rfl, rfl, rfl, h2, r2⟩ := trodAll_cons r1
  obtain ⟨rfl, rfl, rfl⟩ := trodAll_nil r2
  obtain rfl : args = #[v0, v1, v2] := by cases args; simp_all
  obtain ⟨rfl, rfl⟩ := trodVars_none hV
  have lt0 : ∀ x ∈ p0, x.block < W.heap.size := by obtain ⟨m, hm⟩ := h0; exact DataW.trod_lt m _ _ _ hm
  obtain ⟨z0, w0, x0⟩ := open_i Try.underlying3 (hval 0 3 v0 rfl rfl) h0
  have lt1 : ∀ x ∈ p1, x.block < W.heap.size := by obtain ⟨m, hm⟩ := h1; exact DataW.trod_lt m _ _ _ hm
  obtain ⟨z1, w1, x1⟩ := open_i Try.underlying3 (hval 1 3 v1 rfl rfl) h1
  have lt2 : ∀ x ∈ p2, x.block < W.heap.size := by obtain ⟨m, hm⟩ := h2; exact DataW.trod_lt m _ _ _ hm
  obtain ⟨z2, w2, x2⟩ := open_i Try.underlying3 (hval 2 3 v2 rfl rfl) h2
  clear hA0 hval0
  refine Calls.mono (law_calls law_h (z0, z1, z2) trivial rfl (vs := [v0, v1, v2]) (replist_mk x0 (replist_mk x1 (replist_mk x2 replist_mk0)))) fun e W' ⟨he, bel⟩ => ?_
  subst he
  exact ⟨_, rfl, _, _, _, [], _, [], hW', trodAll_mk1 (shut_bool Try.underlying4 _), (trodAll_cons_mk (Below.trod laidOut (by kernel_rfl) (of_decide_eq_true (by kernel_rfl)) h0 bel lt0) (trodAll_cons_mk (Below.trod laidOut (by kernel_rfl) (of_decide_eq_true (by kernel_rfl)) h1 bel lt1) (trodAll_cons_mk (Below.trod laidOut (by kernel_rfl) (of_decide_eq_true (by kernel_rfl)) h2 bel lt2) trodAll_mk0))), rfl, bel.frame _, fun h => by cases h⟩

theorem over : Rows.splitEvenRow.holds Try.pinned (OpenSpec.ofChange Rows.splitEvenSpec) :=
  OpenClaim.holds_of_wide 4 Try.f4 rfl rfl rfl rfl rfl rfl rfl ⟨rfl, rfl, rfl, rfl, rfl⟩ rfl rfl rfl rfl rfl (by kernel_rfl) Try.func4 (by kernel_rfl)
    (of_decide_eq_true (by kernel_rfl)) (by unfold Func.isWrapper; first | (rw [if_pos (by decide +kernel)]; kernel_rfl) | (rw [if_neg (by decide +kernel)]; exact ⟨rfl, rfl⟩))
    (fun os started H enc _ => lifted os started H enc)

theorem proved : Rows.SplitEvenSaid := over
end Go.Proofs.Ytepacknnggnifaa.lawEven
