/- NettingNets: Net returns as many transfers as the reference counts, which settle the positions, in order. No condition. -/
import Derived.Test.YtdkkblcninogdaaArg
namespace Go.Proofs.Ytdkkblcninogdaa.lawNets
open Go.ChangeShapes Go.WideShapes Go.ChangeAt Go.RowKit Go.Deep Go.Joins
set_option linter.unusedVariables false

/-! skiarea/skiarealaw37.NettingNets -/
def lawIr : IFn := ⟨73, [.tmp 2],
  (.seq (.ops [
    ⟨(some 2), .mov, [.const (.bool false)], none⟩] false)
  (.seq (.seq (.ops [
    ⟨(some 5), .call 10, [], none⟩,
    ⟨(some 6), .not, [.tmp 5], none⟩] false)
  (.cond (.tmp 6)
    (.seq (.ops [
      ⟨(some 2), .mov, [.const (.bool false)], none⟩] false)
    .ret)
    .skip))
  (.seq (.seq (.ops [
    ⟨(some 7), .mov, [.tmp 0], none⟩,
    ⟨(some 8), .len, [.tmp 7], none⟩,
    ⟨(some 9), .cmp .gtr, [.tmp 8, .const (.int .i64 8)], none⟩,
    ⟨(some 10), .mov, [.tmp 9], none⟩,
    ⟨(some 11), .mov, [.tmp 0], (some (10, false))⟩,
    ⟨(some 12), .call 12, [.tmp 11], (some (10, false))⟩,
    ⟨(some 13), .cmp .neq, [.tmp 12, .const (.int .i64 0)], (some (10, false))⟩,
    ⟨(some 14), .pick, [.tmp 10, .const (.bool true), .tmp 13], none⟩] false)
  (.cond (.tmp 14)
    (.seq (.ops [
      ⟨(some 2), .mov, [.const (.bool true)], none⟩] false)
    .ret)
    .skip))
  (.seq (.ops [
    ⟨(some 15), .mov, [.tmp 0], none⟩,
    ⟨(some 16), .call 17, [.tmp 15], none⟩,
    ⟨(some 3), .mov, [.tmp 16], none⟩] false)
  (.seq (.seq (.ops [
    ⟨(some 4), .mov, [.const (.int .i64 1)], none⟩] false)
  (.block 0
    (.loop
      (.seq (.seq (.ops [
        ⟨(some 17), .mov, [.tmp 4], none⟩,
        ⟨(some 18), .mov, [.tmp 3], none⟩,
        ⟨(some 19), .len, [.tmp 18], none⟩,
        ⟨(some 20), .cmp .lss, [.tmp 17, .tmp 19], none⟩] false)
      (.cond (.tmp 20)
        .skip
        (.exit 0)))
      (.seq (.block 1
        (.seq (.ops [
          ⟨(some 23), .mov, [.tmp 3], none⟩,
          ⟨(some 24), .mov, [.tmp 4], none⟩,
          ⟨(some 25), .idx 3, [.tmp 23, .tmp 24], none⟩,
          ⟨(some 26), .faddr 0, [.tmp 25], none⟩,
          ⟨(some 27), .load 1 false, [.tmp 26], none⟩,
          ⟨(some 28), .mov, [.tmp 3], none⟩,
          ⟨(some 29), .mov, [.tmp 4], none⟩,
          ⟨(some 30), .bin .sub .i64 false, [.tmp 29, .const (.int .i64 1)], none⟩,
          ⟨(some 31), .idx 3, [.tmp 28, .tmp 30], none⟩,
          ⟨(some 32), .faddr 0, [.tmp 31], none⟩,
          ⟨(some 33), .load 1 false, [.tmp 32], none⟩,
          ⟨(some 34), .cmp .lss, [.tmp 27, .tmp 33], none⟩,
          ⟨(some 35), .mov, [.tmp 34], none⟩,
          ⟨(some 36), .mov, [.tmp 3], (some (35, false))⟩,
          ⟨(some 37), .mov, [.tmp 4], (some (35, false))⟩,
          ⟨(some 38), .idx 3, [.tmp 36, .tmp 37], (some (35, false))⟩,
          ⟨(some 39), .faddr 0, [.tmp 38], (some (35, false))⟩,
          ⟨(some 40), .load 1 false, [.tmp 39], (some (35, false))⟩,
          ⟨(some 41), .mov, [.tmp 3], (some (35, false))⟩,
          ⟨(some 42), .mov, [.tmp 4], (some (35, false))⟩,
          ⟨(some 43), .bin .sub .i64 false, [.tmp 42, .const (.int .i64 1)], (some (35, false))⟩,
          ⟨(some 44), .idx 3, [.tmp 41, .tmp 43], (some (35, false))⟩,
          ⟨(some 45), .faddr 0, [.tmp 44], (some (35, false))⟩,
          ⟨(some 46), .load 1 false, [.tmp 45], (some (35, false))⟩,
          ⟨(some 47), .cmp .eql, [.tmp 40, .tmp 46], (some (35, false))⟩,
          ⟨(some 48), .mov, [.tmp 47], (some (35, false))⟩,
          ⟨(some 49), .mov, [.tmp 3], (some (48, true))⟩,
          ⟨(some 50), .mov, [.tmp 4], (some (48, true))⟩,
          ⟨(some 51), .idx 3, [.tmp 49, .tmp 50], (some (48, true))⟩,
          ⟨(some 52), .faddr 1, [.tmp 51], (some (48, true))⟩,
          ⟨(some 53), .load 1 false, [.tmp 52], (some (48, true))⟩,
          ⟨(some 54), .mov, [.tmp 3], (some (48, true))⟩,
          ⟨(some 55), .mov, [.tmp 4], (some (48, true))⟩,
          ⟨(some 56), .bin .sub .i64 false, [.tmp 55, .const (.int .i64 1)], (some (48, true))⟩,
          ⟨(some 57), .idx 3, [.tmp 54, .tmp 56], (some (48, true))⟩,
          ⟨(some 58), .faddr 1, [.tmp 57], (some (48, true))⟩,
          ⟨(some 59), .load 1 false, [.tmp 58], (some (48, true))⟩,
          ⟨(some 60), .cmp .leq, [.tmp 53, .tmp 59], (some (48, true))⟩,
          ⟨(some 61), .pick, [.tmp 48, .tmp 60, .const (.bool false)], (some (35, false))⟩,
          ⟨(some 62), .pick, [.tmp 35, .const (.bool true), .tmp 61], none⟩] true)
        (.cond (.tmp 62)
          (.seq (.ops [
            ⟨(some 2), .mov, [.const (.bool false)], none⟩] false)
          .ret)
          .skip)))
      (.ops [
        ⟨(some 21), .mov, [.tmp 4], none⟩,
        ⟨(some 22), .bin .add .i64 false, [.tmp 21, .const (.int .i64 1)], none⟩,
        ⟨(some 4), .mov, [.tmp 22], none⟩] false))))))
  (.seq (.ops [
    ⟨(some 63), .mov, [.tmp 3], none⟩,
    ⟨(some 64), .len, [.tmp 63], none⟩,
    ⟨(some 65), .mov, [.tmp 0], none⟩,
    ⟨(some 66), .call 16, [.tmp 65], none⟩,
    ⟨(some 67), .cmp .eql, [.tmp 64, .tmp 66], none⟩,
    ⟨(some 68), .mov, [.tmp 67], none⟩,
    ⟨(some 69), .mov, [.tmp 0], (some (68, true))⟩,
    ⟨(some 70), .mov, [.tmp 3], (some (68, true))⟩,
    ⟨(some 71), .call 14, [.tmp 69, .tmp 70], (some (68, true))⟩,
    ⟨(some 72), .pick, [.tmp 68, .tmp 71, .const (.bool false)], none⟩,
    ⟨(some 2), .mov, [.tmp 72], none⟩] false)
  .ret))))))⟩
theorem lawLow : lowF Try.prog {} Try.f6 = some lawIr := by kernel_rfl
def lawS : Spec := spec (List Share) (fun l => [L 2 (l.map encS)]) (fun _ => True) (fun _ => B true)
set_option maxHeartbeats 1000000 in
theorem lawV : fnV Try.prog lawIr lawS := by
  intro (l : List Share) _
  show vc _ _ _ _ ⟨argEnv 0 [L 2 (l.map encS)], [], 0⟩
  have hl : (l.map encS).length = l.length := List.length_map ..
  by_cases h8 : 8 < l.length
  · repeat' ((conv => whnf); first | (refine ⟨fun h => ?_, fun h => ?_⟩ <;> try (exfalso; first | omega | exact absurd h (by decide) | exact h rfl)) | (refine ⟨_, alive_h, (), trivial, leVs_of_eq rfl, .inl rfl, rfl, ?_⟩; show norm (B true) _) | exact ⟨[], rfl, trivial, rfl⟩ | fail)
  by_cases hr0 : rightF l = 0
  · have hr := right_iff.1 hr0
    have hrl := hr.len
    have hN := netF_spec hr
    repeat' ((conv => whnf); first | (refine ⟨fun h => ?_, fun h => ?_⟩ <;> try (exfalso; first | omega | exact absurd h (by decide) | exact h rfl)) | (refine ⟨_, alive_h, (), trivial, leVs_of_eq rfl, .inl rfl, rfl, ?_⟩; show norm (B true) _) | (refine ⟨_, rright_h, l, (by show l.length ≤ _; omega), leVs_of_eq rfl, .inl rfl, rfl, ?_⟩; show norm (I (rightF l)) _; rw [hr0]) | fail)
    (refine ⟨_, net_h, l, hr, leVs_of_eq rfl, .inl rfl, rfl, ?_⟩; show norm (L 3 ((netF l).map encT)) _)
    have hlb : leastF l ≤ 8 := by unfold leastF; have := List.length_filter_le (fun x : Share => decide (x.a ≠ 0)) l; have : (nzl l).length ≤ l.length := this; omega
    generalize netF l = t at *
    have htl : (t.map encT).length = t.length := List.length_map ..
    have htn := hN.len
    have hv : validB l t = true := validB_iff.2 hN.valid
    conv => whnf
    refine ⟨Nat, fun xq => ⟨[(0, L 2 (l.map encS)), (3, L 3 (t.map encT)), (4, I (((xq : Nat) : Int) + 1))], [], 0⟩, fun xq => xq ≤ t.length, fun xq => t.length - xq, ⟨0, ?_, [], ⟨⟨rfl, rfl⟩, ⟨⟨rfl, rfl⟩, ⟨⟨rfl, rfl⟩, trivial⟩⟩⟩, trivial, rfl, rfl, rfl⟩, ?_⟩
    · (try dsimp only); exact Nat.zero_le _
    rintro k hk
    obtain hk : k ≤ t.length := hk
    (try dsimp only)
    by_cases hkl : k + 1 < t.length
    · obtain ⟨y, hy⟩ := getElem_some hkl
      obtain ⟨x, hx⟩ := getElem_some (show k < t.length by omega)
      have hinc : keyLt x y := by
        have := List.pairwise_iff_getElem.1 hN.inc k (k + 1) (by omega) hkl (by omega)
        rw [List.getElem?_eq_getElem hkl] at hy
        rw [List.getElem?_eq_getElem (by omega)] at hx
        rw [← Option.some.inj hy, ← Option.some.inj hx]; exact this
      unfold keyLt at hinc
      repeat' ((conv => whnf); first | (refine ⟨k + 1, ⟨?_, by (try dsimp only); omega⟩, [], ⟨⟨rfl, rfl⟩, ⟨⟨rfl, rfl⟩, ⟨⟨rfl, rfl⟩, trivial⟩⟩⟩, trivial, rfl, rfl, rfl⟩; (try dsimp only); omega) | (refine ⟨fun h => ?_, fun h => ?_⟩ <;> try (exfalso; first | omega | exact absurd h (by decide) | exact h rfl)) | refine idx_ati (j := k + 1) (by omega) hy ?_ | refine idx_ati (j := k) (by omega) hx ?_ | refine ⟨⟨by omega, by omega⟩, ?_⟩ | fail)
    · repeat' ((conv => whnf); first | (refine ⟨fun h => ?_, fun h => ?_⟩ <;> try (exfalso; first | omega | exact absurd h (by decide) | exact h rfl)) | (refine ⟨_, rleast_h, l, hr, leVs_of_eq rfl, .inl rfl, rfl, ?_⟩; show norm (I ((leastF l : Nat) : Int)) _) | (refine ⟨_, rvalid_h, (l, t), (by show RightP l ∧ t.length ≤ 1000; exact ⟨hr, by omega⟩), leVs_of_eq rfl, .inl rfl, rfl, ?_⟩; show norm (B (validB l t)) _; rw [hv]) | exact ⟨[], rfl, trivial, rfl⟩ | fail)
  · repeat' ((conv => whnf); first | (refine ⟨_, rright_h, l, (by show l.length ≤ _; omega), leVs_of_eq rfl, .inl rfl, rfl, ?_⟩; show norm (I (rightF l)) _) | (refine ⟨fun h => ?_, fun h => ?_⟩ <;> try (exfalso; first | omega | exact absurd h (by decide) | exact h rfl)) | (refine ⟨_, alive_h, (), trivial, leVs_of_eq rfl, .inl rfl, rfl, ?_⟩; show norm (B true) _) | exact ⟨[], rfl, trivial, rfl⟩ | fail)
theorem law_h : Holds Try.prog 6 lawS := holds_of mix Try.func6 lawLow (fun _ => rfl) lawV

/-! ### THE ROW's STEP -/
theorem own : ownKnob Try.prog.godebug = none := by kernel_rfl
theorem laidOut : laidOutB Try.prog = true := by kernel_rfl
set_option maxRecDepth 100000 in
theorem lifted (os : Os) (started : os.Started) (H : Type) (enc : TypeId × Value → H) :
    ReturnsInHanded {} Try.checked os 6 .any (Rows.nettingNetsSpec.pre6 enc Try.prog Try.f6 Rows.nettingNetsRow.domain false) (Rows.nettingNetsSpec.post enc Try.prog Try.f6 false true false false) := by
  refine returnsInHanded_of_change (C := Try.checked) own started (by kernel_rfl) Try.func6
    (ChangeSpec.witness6 (enc := enc) (C := Try.checked) false ⟨#[], #[.slice none 0 0], []⟩ 8 (by kernel_rfl) (by kernel_rfl) (by kernel_rfl) (by kernel_rfl)) ?_
  intro W base args ds gs before hval0 hW hcnd _
  have hval : ∀ (j : Nat) t v, Try.f6.params[j]? = some t → args[j]? = some v → Value.okWide Try.prog W .any base t v := hval0
  have hW' := hW
  obtain ⟨p, q, hA0, hV, rfl, hfz, hnd⟩ := hW
  have hA : DataW.TrodAll enc Try.prog W 0 (fun _ => true) true Try.f6.params.toList args.toList ds p := hA0
  rw [Try.params6] at hA hval
  obtain ⟨v0, vs0, d0, ds0, p0, q0, hargs, rfl, rfl, h0, r0⟩ := trodAll_cons hA
  obtain ⟨rfl, rfl, rfl⟩ := trodAll_nil r0
  obtain rfl : args = #[v0] := by cases args; simp_all
  obtain ⟨rfl, rfl⟩ := trodVars_none hV
  have lt0 : ∀ x ∈ p0, x.block < W.heap.size := by obtain ⟨m, hm⟩ := h0; exact DataW.trod_lt m _ _ _ hm
  obtain ⟨z0, w0, x0⟩ := openS (hval 0 22 v0 rfl rfl) h0
  clear hA0 hval0
  refine Calls.mono (law_calls law_h z0 trivial rfl (vs := [v0]) (replist_mk x0 replist_mk0)) fun e W' ⟨he, bel⟩ => ?_
  subst he
  exact ⟨_, rfl, _, _, _, [], _, [], hW', trodAll_mk1 (shut_bool Try.underlying4 _), (trodAll_cons_mk (Below.trod laidOut (by kernel_rfl) (of_decide_eq_true (by kernel_rfl)) h0 bel lt0) trodAll_mk0), rfl, bel.frame _, fun h => by cases h⟩

theorem over : Rows.nettingNetsRow.holds Try.pinned (OpenSpec.ofChange Rows.nettingNetsSpec) :=
  OpenClaim.holds_of_wide 6 Try.f6 rfl rfl rfl rfl rfl rfl rfl ⟨rfl, rfl, rfl, rfl, rfl⟩ rfl rfl rfl rfl rfl (by kernel_rfl) Try.func6 (by kernel_rfl)
    (of_decide_eq_true (by kernel_rfl)) (by unfold Func.isWrapper; first | (rw [if_pos (by decide +kernel)]; kernel_rfl) | (rw [if_neg (by decide +kernel)]; exact ⟨rfl, rfl⟩))
    (fun os started H enc _ => lifted os started H enc)

theorem proved : Rows.NettingNetsSaid := over
end Go.Proofs.Ytdkkblcninogdaa.lawNets
