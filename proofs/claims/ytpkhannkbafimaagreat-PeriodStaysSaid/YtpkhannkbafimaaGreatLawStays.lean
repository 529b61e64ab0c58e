/- PeriodStays: books that are returned are valid, and with an error they are empty. No condition. -/
import Derived.Test.YtpkhannkbafimaaGreatRM
namespace Go.Proofs.YtpkhannkbafimaaGreat.lawStays
open Go.ChangeShapes Go.WideShapes Go.ChangeAt Go.RowKit Go.Deep Go.Joins
set_option linter.unusedVariables false
set_option maxRecDepth 20000

/-! skiarea/skiarealaw38.PeriodStays -/
def lawIr : IFn := ⟨66, [.tmp 4],
  (.seq (.ops [
    ⟨(some 2), .box, [.tmp 0], none⟩,
    ⟨(some 4), .mov, [.const (.bool false)], none⟩] false)
  (.seq (.seq (.ops [
    ⟨(some 9), .call 11, [], none⟩,
    ⟨(some 10), .not, [.tmp 9], none⟩] false)
  (.cond (.tmp 10)
    (.seq (.ops [
      ⟨(some 4), .mov, [.const (.bool false)], none⟩] false)
    .ret)
    .skip))
  (.seq (.seq (.ops [
    ⟨(some 11), .load 3 true, [.tmp 2], none⟩,
    ⟨(some 12), .call 12, [.tmp 11], none⟩,
    ⟨(some 13), .not, [.tmp 12], none⟩,
    ⟨(some 14), .mov, [.tmp 13], none⟩,
    ⟨(some 15), .faddr 0, [.tmp 2], (some (14, false))⟩,
    ⟨(some 16), .load 1 false, [.tmp 15], (some (14, false))⟩,
    ⟨(some 17), .len, [.tmp 16], (some (14, false))⟩,
    ⟨(some 18), .cmp .gtr, [.tmp 17, .const (.int .i64 10)], (some (14, false))⟩,
    ⟨(some 19), .pick, [.tmp 14, .const (.bool true), .tmp 18], none⟩,
    ⟨(some 20), .mov, [.tmp 19], none⟩,
    ⟨(some 21), .faddr 2, [.tmp 2], (some (20, false))⟩,
    ⟨(some 22), .load 1 false, [.tmp 21], (some (20, false))⟩,
    ⟨(some 23), .len, [.tmp 22], (some (20, false))⟩,
    ⟨(some 24), .cmp .gtr, [.tmp 23, .const (.int .i64 40)], (some (20, false))⟩,
    ⟨(some 25), .pick, [.tmp 20, .const (.bool true), .tmp 24], none⟩,
    ⟨(some 26), .mov, [.tmp 25], none⟩,
    ⟨(some 27), .mov, [.tmp 1], (some (26, false))⟩,
    ⟨(some 28), .len, [.tmp 27], (some (26, false))⟩,
    ⟨(some 29), .cmp .gtr, [.tmp 28, .const (.int .i64 20)], (some (26, false))⟩,
    ⟨(some 30), .pick, [.tmp 26, .const (.bool true), .tmp 29], none⟩,
    ⟨(some 31), .mov, [.tmp 30], none⟩,
    ⟨(some 32), .load 3 true, [.tmp 2], (some (31, false))⟩,
    ⟨(some 33), .call 13, [.tmp 32], (some (31, false))⟩,
    ⟨(some 34), .cmp .neq, [.tmp 33, .const (.int .i64 0)], (some (31, false))⟩,
    ⟨(some 35), .pick, [.tmp 31, .const (.bool true), .tmp 34], none⟩] false)
  (.cond (.tmp 35)
    (.seq (.ops [
      ⟨(some 4), .mov, [.const (.bool true)], none⟩] false)
    .ret)
    .skip))
  (.seq (.ops [
    ⟨(some 36), .load 3 true, [.tmp 2], none⟩,
    ⟨(some 5), .alloc [.nil, .nil, .nil], [], none⟩,
    ⟨none, .store 3, [.tmp 5, .tmp 36], none⟩] false)
  (.seq (.seq (.ops [
    ⟨(some 6), .mov, [.const (.int .i64 0)], none⟩] false)
  (.block 0
    (.loop
      (.seq (.seq (.ops [
        ⟨(some 37), .mov, [.tmp 6], none⟩,
        ⟨(some 38), .mov, [.tmp 1], none⟩,
        ⟨(some 39), .len, [.tmp 38], none⟩,
        ⟨(some 40), .cmp .lss, [.tmp 37, .tmp 39], none⟩] false)
      (.cond (.tmp 40)
        .skip
        (.exit 0)))
      (.seq (.block 1
        (.seq (.ops [
          ⟨(some 44), .load 3 true, [.tmp 5], none⟩,
          ⟨(some 45), .mov, [.tmp 1], none⟩,
          ⟨(some 46), .mov, [.tmp 6], none⟩,
          ⟨(some 47), .idx 12, [.tmp 45, .tmp 46], none⟩,
          ⟨(some 48), .load 12 true, [.tmp 47], none⟩,
          ⟨(some 49), .call 25, [.tmp 44, .tmp 48], none⟩,
          ⟨(some 43), .mov, [.tmp 49], none⟩,
          ⟨(some 50), .extract 0, [.tmp 43], none⟩,
          ⟨(some 51), .extract 1, [.tmp 43], none⟩,
          ⟨(some 7), .alloc [.nil, .nil, .nil], [], none⟩,
          ⟨none, .store 3, [.tmp 7, .tmp 50], none⟩,
          ⟨(some 8), .mov, [.tmp 51], none⟩] true)
        (.seq (.seq (.ops [
          ⟨(some 52), .load 3 true, [.tmp 7], none⟩,
          ⟨(some 53), .call 13, [.tmp 52], none⟩,
          ⟨(some 54), .cmp .neq, [.tmp 53, .const (.int .i64 0)], none⟩,
          ⟨(some 55), .mov, [.tmp 54], none⟩,
          ⟨(some 56), .mov, [.tmp 8], (some (55, false))⟩,
          ⟨(some 57), .not, [.tmp 56], (some (55, false))⟩,
          ⟨(some 58), .mov, [.tmp 57], (some (55, false))⟩,
          ⟨(some 59), .load 3 true, [.tmp 7], (some (58, true))⟩,
          ⟨(some 60), .load 3 true, [.tmp 5], (some (58, true))⟩,
          ⟨(some 61), .call 17, [.tmp 59, .tmp 60], (some (58, true))⟩,
          ⟨(some 62), .not, [.tmp 61], (some (58, true))⟩,
          ⟨(some 63), .pick, [.tmp 58, .tmp 62, .const (.bool false)], (some (55, false))⟩,
          ⟨(some 64), .pick, [.tmp 55, .const (.bool true), .tmp 63], none⟩] false)
        (.cond (.tmp 64)
          (.seq (.ops [
            ⟨(some 4), .mov, [.const (.bool false)], none⟩] false)
          .ret)
          .skip))
        (.ops [
          ⟨(some 65), .load 3 true, [.tmp 7], none⟩,
          ⟨none, .store 3, [.tmp 5, .tmp 65], none⟩] false))))
      (.ops [
        ⟨(some 41), .mov, [.tmp 6], none⟩,
        ⟨(some 42), .bin .add .i64 false, [.tmp 41, .const (.int .i64 1)], none⟩,
        ⟨(some 6), .mov, [.tmp 42], none⟩] false))))))
  (.seq (.ops [
    ⟨(some 4), .mov, [.const (.bool true)], none⟩] false)
  .ret))))))⟩
theorem lawLow : lowF Tryz.prog {} Tryz.f8 = some lawIr := by kernel_rfl
def lawS : Spec := spec (Bk × List Opp) (fun p => [aB p.1, L 12 (p.2.map encOp)]) (fun p => okB p.1 ∧ ∀ x ∈ p.2, okOp x) (fun _ => B true)
set_option maxHeartbeats 2000000 in
theorem lawV : fnV Tryz.prog lawIr lawS := by
  intro ⟨(b : Bk), (l : List Opp)⟩ hp
  obtain ⟨ho, hop⟩ : okB b ∧ ∀ x ∈ l, okOp x := hp
  have hlp : (b.ps.map encP).length = b.ps.length := List.length_map ..
  have hlo : (b.po.map encO).length = b.po.length := List.length_map ..
  have hlr : (b.rs.map encC).length = b.rs.length := List.length_map ..
  have hll : (l.map encOp).length = l.length := List.length_map ..
  show vc _ _ _ _ ⟨argEnv 0 [aB b, L 12 (l.map encOp)], [], 0⟩
  by_cases hd : (FewB b ∧ b.ps.length ≤ 10 ∧ b.rs.length ≤ 40 ∧ l.length ≤ 20) ∧ rightB b = 0
  · obtain ⟨⟨hf, h10, h40, h20⟩, hr0⟩ := hd
    have hr := rb_of hr0
    repeat' ((conv => whnf); first | (refine ⟨fun h => ?_, fun h => ?_⟩ <;> try (exfalso; first | omega | exact absurd h (by decide) | exact h rfl | exact absurd (show true = false from h) (by decide) | exact absurd (show false = true from h) (by decide))) | (refine ⟨_, alive_h, (), trivial, leVs_of_eq rfl, .inl rfl, rfl, ?_⟩; show norm (B true) _) | (refine ⟨_, few_h, b, ho, leVs_of_eq rfl, .inl rfl, rfl, ?_⟩; show norm (B (decide (FewB b))) _; rw [decide_eq_true hf]) | (refine ⟨_, Right_h, b, ho, leVs_of_eq rfl, .inl rfl, rfl, ?_⟩; show norm (I (rightB b)) _; rw [hr0]) | fail | fail)
    refine ⟨Nat × Bk, fun xq => ⟨[(1, L 12 (l.map encOp)), (5, .bp 0 0), (6, I xq.1)], [(0, bB' xq.2)], 1⟩, fun xq => xq.1 ≤ l.length ∧ RB xq.2, fun xq => l.length - xq.1, ⟨(0, b), ?_, [(0, 1)], ⟨⟨rfl, rfl⟩, ⟨⟨rfl, rfl⟩, ⟨⟨rfl, rfl⟩, trivial⟩⟩⟩, ⟨⟨rfl, rfl, rfl⟩, trivial⟩, rfl, rfl, rfl⟩, ?_⟩
    · (try dsimp only); exact ⟨Nat.zero_le _, hr⟩
    rintro ⟨k, c⟩ hk
    obtain ⟨hk, hc⟩ : k ≤ l.length ∧ RB c := hk
    (try dsimp only)
    by_cases hkl : k < l.length
    · obtain ⟨x, hx⟩ := getElem_some hkl
      have hox := hop x (List.mem_of_getElem? hx)
      obtain ⟨y, hY⟩ : ∃ y, doB c x = y := ⟨_, rfl⟩
      have hy : RB y := hY ▸ hc.doit x
      cases hK : doK c x with
      | true => repeat' ((conv => whnf); first | (refine ⟨fun h => ?_, fun h => ?_⟩ <;> try (exfalso; first | omega | exact absurd h (by decide) | exact h rfl | exact absurd (show true = false from h) (by decide) | exact absurd (show false = true from h) (by decide))) | (refine ⟨by omega, fun r hrr => ?_⟩; first | ((have hre : r = encOp x := by (first | exact get_row hrr hx | fail)); subst hre)) | (refine ⟨_, do_h, (c, x), ⟨hc, hox⟩, leVs_of_eq rfl, .inl rfl, rfl, ?_⟩; show norm (.tup [aB (doB c x), B (doK c x)]) _; rw [hY, hK]) | (refine ⟨_, Right_h, y, hy.ok, leVs_of_eq rfl, .inl rfl, rfl, ?_⟩; show norm (I (rightB y)) _; rw [hy.right]) | (refine ⟨(k + 1, y), ⟨?_, by (try dsimp only); omega⟩, [], ⟨⟨rfl, rfl⟩, ⟨⟨rfl, rfl⟩, ⟨⟨rfl, rfl⟩, trivial⟩⟩⟩, ⟨⟨rfl, rfl, rfl⟩, trivial⟩, rfl, rfl, rfl⟩; (try dsimp only); exact ⟨by omega, hy⟩) | refine ⟨⟨by omega, by omega⟩, ?_⟩ | fail)
      | false =>
        have hyc : y = c := hY.symm.trans (do_no hK)
        repeat' ((conv => whnf); first | (refine ⟨fun h => ?_, fun h => ?_⟩ <;> try (exfalso; first | omega | exact absurd h (by decide) | exact h rfl | exact absurd (show true = false from h) (by decide) | exact absurd (show false = true from h) (by decide))) | (refine ⟨by omega, fun r hrr => ?_⟩; first | ((have hre : r = encOp x := by (first | exact get_row hrr hx | fail)); subst hre)) | (refine ⟨_, do_h, (c, x), ⟨hc, hox⟩, leVs_of_eq rfl, .inl rfl, rfl, ?_⟩; show norm (.tup [aB (doB c x), B (doK c x)]) _; rw [hY, hK]) | (refine ⟨_, Right_h, y, hy.ok, leVs_of_eq rfl, .inl rfl, rfl, ?_⟩; show norm (I (rightB y)) _; rw [hy.right]) | (refine ⟨_, same_h, (y, c), hy.ok, leVs_of_eq rfl, .inl rfl, rfl, ?_⟩; show norm (B (decide (y = c))) _; rw [decide_eq_true hyc]) | (refine ⟨(k + 1, y), ⟨?_, by (try dsimp only); omega⟩, [], ⟨⟨rfl, rfl⟩, ⟨⟨rfl, rfl⟩, ⟨⟨rfl, rfl⟩, trivial⟩⟩⟩, ⟨⟨rfl, rfl, rfl⟩, trivial⟩, rfl, rfl, rfl⟩; (try dsimp only); exact ⟨by omega, hy⟩) | refine ⟨⟨by omega, by omega⟩, ?_⟩ | fail)
    · repeat' ((conv => whnf); first | (refine ⟨fun h => ?_, fun h => ?_⟩ <;> try (exfalso; first | omega | exact absurd h (by decide) | exact h rfl | exact absurd (show true = false from h) (by decide) | exact absurd (show false = true from h) (by decide))) | exact ⟨[], rfl, trivial, rfl⟩ | fail)
  · cases d : decide (FewB b) with
    | false => repeat' ((conv => whnf); first | (refine ⟨fun h => ?_, fun h => ?_⟩ <;> try (exfalso; first | omega | exact absurd h (by decide) | exact h rfl | exact absurd (show true = false from h) (by decide) | exact absurd (show false = true from h) (by decide))) | (refine ⟨_, alive_h, (), trivial, leVs_of_eq rfl, .inl rfl, rfl, ?_⟩; show norm (B true) _) | (refine ⟨_, few_h, b, ho, leVs_of_eq rfl, .inl rfl, rfl, ?_⟩; show norm (B (decide (FewB b))) _; rw [d]) | exact ⟨[], rfl, trivial, rfl⟩ | fail)
    | true =>
      by_cases hd1 : b.ps.length ≤ 10 ∧ b.rs.length ≤ 40 ∧ l.length ≤ 20
      · have hne : rightB b ≠ 0 := fun h => hd ⟨⟨of_decide_eq_true d, hd1⟩, h⟩
        repeat' ((conv => whnf); first | (refine ⟨fun h => ?_, fun h => ?_⟩ <;> try (exfalso; first | omega | exact absurd h (by decide) | exact h rfl | exact absurd (show true = false from h) (by decide) | exact absurd (show false = true from h) (by decide))) | (refine ⟨_, alive_h, (), trivial, leVs_of_eq rfl, .inl rfl, rfl, ?_⟩; show norm (B true) _) | (refine ⟨_, few_h, b, ho, leVs_of_eq rfl, .inl rfl, rfl, ?_⟩; show norm (B (decide (FewB b))) _; rw [d]) | (refine ⟨_, Right_h, b, ho, leVs_of_eq rfl, .inl rfl, rfl, ?_⟩; show norm (I (rightB b)) _) | exact ⟨[], rfl, trivial, rfl⟩ | fail)
      · repeat' ((conv => whnf); first | (refine ⟨fun h => ?_, fun h => ?_⟩ <;> try (exfalso; first | omega | exact absurd h (by decide) | exact h rfl | exact absurd (show true = false from h) (by decide) | exact absurd (show false = true from h) (by decide))) | (refine ⟨_, alive_h, (), trivial, leVs_of_eq rfl, .inl rfl, rfl, ?_⟩; show norm (B true) _) | (refine ⟨_, few_h, b, ho, leVs_of_eq rfl, .inl rfl, rfl, ?_⟩; show norm (B (decide (FewB b))) _; rw [d]) | (refine ⟨_, Right_h, b, ho, leVs_of_eq rfl, .inl rfl, rfl, ?_⟩; show norm (I (rightB b)) _) | exact ⟨[], rfl, trivial, rfl⟩ | fail)
theorem law_h : Holds Tryz.prog 8 lawS := holds_of mix Tryz.func8 lawLow (fun _ => rfl) lawV

/-! ### THE ROW's STEP -/
theorem own : ownKnob Tryz.prog.godebug = none := by kernel_rfl
theorem laidOut : laidOutB Tryz.prog = true := by kernel_rfl
set_option maxRecDepth 100000 in
theorem lifted (os : Os) (started : os.Started) (H : Type) (enc : TypeId × Value → H) :
    ReturnsInHanded {} Tryz.checked os 8 .any (Rows.periodStaysSpec.pre6 enc Tryz.prog Tryz.f8 Rows.periodStaysRow.domain false) (Rows.periodStaysSpec.post enc Tryz.prog Tryz.f8 false true false false) := by
  refine returnsInHanded_of_change (C := Tryz.checked) own started (by kernel_rfl) Tryz.func8
    (ChangeSpec.witness6 (enc := enc) (C := Tryz.checked) false ⟨#[], #[.agg #[.slice none 0 0, .slice none 0 0, .slice none 0 0], .slice none 0 0], []⟩ 8 (by kernel_rfl) (by kernel_rfl) (by kernel_rfl) (by kernel_rfl)) ?_
  intro W base args ds gs before hval0 hW hcnd _
  have hval : ∀ (j : Nat) t v, Tryz.f8.params[j]? = some t → args[j]? = some v → Value.okWide Tryz.prog W .any base t v := hval0
  have hW' := hW
  obtain ⟨p, q, hA0, hV, rfl, hfz, hnd⟩ := hW
  have hA : DataW.TrodAll enc Tryz.prog W 0 (fun _ => true) true Tryz.f8.params.toList args.toList ds p := hA0
  rw [Tryz.params8] at hA hval
  obtain ⟨v0, vs0, d0, ds0, p0, q0, hargs, rfl, rfl, h0, r0⟩ := trodAll_cons hA
  obtain ⟨v1, vs1, d1, ds1, p1, q1, rfl, rfl, rfl, h1, r1⟩ := trodAll_cons r0
  obtain ⟨rfl, rfl, rfl⟩ := trodAll_nil r1
  obtain rfl : args = #[v0, v1] := by cases args; simp_all
  obtain ⟨rfl, rfl⟩ := trodVars_none hV
  have lt0 : ∀ x ∈ p0, x.block < W.heap.size := by obtain ⟨m, hm⟩ := h0; exact DataW.trod_lt m _ _ _ hm
  obtain ⟨z0, w0, x0⟩ := openB (hval 0 26 v0 rfl rfl) h0
  have lt1 : ∀ x ∈ p1, x.block < W.heap.size := by obtain ⟨m, hm⟩ := h1; exact DataW.trod_lt m _ _ _ hm
  obtain ⟨z1, w1, x1⟩ := openOp (hval 1 44 v1 rfl rfl) h1
  clear hA0 hval0
  refine Calls.mono (law_calls law_h (z0, z1) ⟨w0, w1.2⟩ rfl (vs := [v0, v1]) (replist_mk x0 (replist_mk x1 replist_mk0))) fun e W' ⟨he, bel⟩ => ?_
  subst he
  exact ⟨_, rfl, _, _, _, [], _, [], hW', trodAll_mk1 (shut_bool Tryz.underlying4 _), (trodAll_cons_mk (Below.trod laidOut (by kernel_rfl) (of_decide_eq_true (by kernel_rfl)) h0 bel lt0) (trodAll_cons_mk (Below.trod laidOut (by kernel_rfl) (of_decide_eq_true (by kernel_rfl)) h1 bel lt1) trodAll_mk0)), rfl, bel.frame _, fun h => by cases h⟩

theorem over : Rows.periodStaysRow.holds Tryz.pinned (OpenSpec.ofChange Rows.periodStaysSpec) :=
  OpenClaim.holds_of_wide 8 Tryz.f8 rfl rfl rfl rfl rfl rfl rfl ⟨rfl, rfl, rfl, rfl, rfl⟩ rfl rfl rfl rfl rfl (by kernel_rfl) Tryz.func8 (by kernel_rfl)
    (of_decide_eq_true (by kernel_rfl)) (by unfold Func.isWrapper; first | (rw [if_pos (by decide +kernel)]; kernel_rfl) | (rw [if_neg (by decide +kernel)]; exact ⟨rfl, rfl⟩))
    (fun os started H enc _ => lifted os started H enc)

theorem proved : Rows.PeriodStaysSaid := over
end Go.Proofs.YtpkhannkbafimaaGreat.lawStays
