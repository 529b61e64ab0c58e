/- RevenueOthers: rides of other media do not change the shares of a sale. No condition. -/
import Derived.Test.YtbglmocgijlomaaArg
import Derived.Test.YtbglmocgijlomaaTU
namespace Go.Proofs.Ytbglmocgijlomaa.lawOthers
open Go.ChangeShapes Go.WideShapes Go.ChangeAt Go.RowKit Go.Deep Go.Joins
set_option linter.unusedVariables false
set_option maxRecDepth 20000

/-! skiarea/skiarealaw35.RevenueOthers -/
def lawIr : IFn := ⟨58, [.tmp 4],
  (.seq (.ops [
    ⟨(some 2), .box, [.tmp 0], none⟩,
    ⟨(some 3), .box, [.tmp 1], none⟩,
    ⟨(some 4), .mov, [.const (.bool false)], none⟩] false)
  (.seq (.seq (.ops [
    ⟨(some 7), .call 10, [], none⟩,
    ⟨(some 8), .not, [.tmp 7], none⟩] false)
  (.cond (.tmp 8)
    (.seq (.ops [
      ⟨(some 4), .mov, [.const (.bool false)], none⟩] false)
    .ret)
    .skip))
  (.seq (.seq (.ops [
    ⟨(some 9), .load 6 true, [.tmp 2], none⟩,
    ⟨(some 10), .call 13, [.tmp 9], none⟩,
    ⟨(some 11), .not, [.tmp 10], none⟩,
    ⟨(some 12), .mov, [.tmp 11], none⟩,
    ⟨(some 13), .load 6 true, [.tmp 3], (some (12, false))⟩,
    ⟨(some 14), .buildSl 42 6, [.tmp 13], (some (12, false))⟩,
    ⟨(some 15), .call 11, [.tmp 14], (some (12, false))⟩,
    ⟨(some 16), .cmp .neq, [.tmp 15, .const (.int .i64 0)], (some (12, false))⟩,
    ⟨(some 17), .pick, [.tmp 12, .const (.bool true), .tmp 16], none⟩] false)
  (.cond (.tmp 17)
    (.seq (.ops [
      ⟨(some 4), .mov, [.const (.bool true)], none⟩] false)
    .ret)
    .skip))
  (.seq (.ops [
    ⟨(some 5), .nilOwn 51 7, [], none⟩] false)
  (.seq (.seq (.ops [
    ⟨(some 6), .mov, [.const (.int .i64 0)], none⟩] false)
  (.block 0
    (.loop
      (.seq (.seq (.ops [
        ⟨(some 18), .mov, [.tmp 6], none⟩,
        ⟨(some 19), .faddr 5, [.tmp 2], none⟩,
        ⟨(some 20), .load 1 false, [.tmp 19], none⟩,
        ⟨(some 21), .len, [.tmp 20], none⟩,
        ⟨(some 22), .cmp .lss, [.tmp 18, .tmp 21], none⟩] false)
      (.cond (.tmp 22)
        .skip
        (.exit 0)))
      (.seq (.block 1
        (.seq (.ops [
          ⟨(some 25), .faddr 5, [.tmp 2], none⟩,
          ⟨(some 26), .load 1 false, [.tmp 25], none⟩,
          ⟨(some 27), .mov, [.tmp 6], none⟩,
          ⟨(some 28), .idx 7, [.tmp 26, .tmp 27], none⟩,
          ⟨(some 29), .faddr 2, [.tmp 28], none⟩,
          ⟨(some 30), .load 1 false, [.tmp 29], none⟩,
          ⟨(some 31), .faddr 0, [.tmp 3], none⟩,
          ⟨(some 32), .load 1 false, [.tmp 31], none⟩,
          ⟨(some 33), .cmp .eql, [.tmp 30, .tmp 32], none⟩] true)
        (.cond (.tmp 33)
          (.ops [
            ⟨(some 34), .mov, [.tmp 5], none⟩,
            ⟨(some 35), .faddr 5, [.tmp 2], none⟩,
            ⟨(some 36), .load 1 false, [.tmp 35], none⟩,
            ⟨(some 37), .mov, [.tmp 6], none⟩,
            ⟨(some 38), .idx 7, [.tmp 36, .tmp 37], none⟩,
            ⟨(some 39), .load 7 true, [.tmp 38], none⟩,
            ⟨(some 40), .buildSl 51 7, [.tmp 39], none⟩,
            ⟨(some 41), .append 51 7 56, [.tmp 34, .tmp 40], none⟩,
            ⟨(some 5), .mov, [.tmp 41], none⟩] false)
          .skip)))
      (.ops [
        ⟨(some 23), .mov, [.tmp 6], none⟩,
        ⟨(some 24), .bin .add .i64 false, [.tmp 23, .const (.int .i64 1)], none⟩,
        ⟨(some 6), .mov, [.tmp 24], none⟩] false))))))
  (.seq (.ops [
    ⟨(some 42), .faddr 0, [.tmp 2], none⟩,
    ⟨(some 43), .load 4 true, [.tmp 42], none⟩,
    ⟨(some 44), .faddr 4, [.tmp 2], none⟩,
    ⟨(some 45), .load 1 false, [.tmp 44], none⟩,
    ⟨(some 46), .faddr 5, [.tmp 2], none⟩,
    ⟨(some 47), .load 1 false, [.tmp 46], none⟩,
    ⟨(some 48), .load 6 true, [.tmp 3], none⟩,
    ⟨(some 49), .call 18, [.tmp 43, .tmp 45, .tmp 47, .tmp 48], none⟩,
    ⟨(some 50), .faddr 0, [.tmp 2], none⟩,
    ⟨(some 51), .load 4 true, [.tmp 50], none⟩,
    ⟨(some 52), .faddr 4, [.tmp 2], none⟩,
    ⟨(some 53), .load 1 false, [.tmp 52], none⟩,
    ⟨(some 54), .mov, [.tmp 5], none⟩,
    ⟨(some 55), .load 6 true, [.tmp 3], none⟩,
    ⟨(some 56), .callo 18, [.tmp 51, .tmp 53, .tmp 54, .tmp 55], none⟩,
    ⟨(some 57), .call 17, [.tmp 49, .tmp 56], none⟩,
    ⟨(some 4), .mov, [.tmp 57], none⟩] true)
  .ret))))))⟩
theorem lawLow : lowF Try.prog { owns := [(5, 51)], gives := [56] } Try.f7 = some lawIr := by kernel_rfl
def lawS : Spec := spec (Book × Sale) (fun p => [aB p.1, aE p.2]) (fun p => okB p.1) (fun _ => B true)
set_option maxHeartbeats 2000000 in
theorem lawV : fnV Try.prog lawIr lawS := by
  intro ⟨(b : Book), (s : Sale)⟩ (ho : okB b)
  show vc _ _ _ _ ⟨argEnv 0 [aB b, aE s], [], 0⟩
  by_cases hd : defP b
  · have hk := hd.bk ho
    have h1 := hk.hr
    by_cases hE0 : salesE [s] = 0
    · have hE := hE0
      have hs : SaP s := sale_ok hE s (by simp)
      have hof := hk.of hs
      obtain ⟨P, hP⟩ : ∃ P, ofL b.m b.l b.rides s = P := ⟨_, rfl⟩
      have hPl : P.length ≤ 100 := by rw [← hP]; exact of_len hof
      have hof2 := (own_bk hk s.serial).of hs
      have hP2 : ofL b.m b.l (ownR b.rides s.serial) s = P := by rw [own_of, hP]
      have hl : (b.rides.map encD).length = b.rides.length := List.length_map ..
      repeat' ((conv => whnf); first | (refine ⟨fun h => ?_, fun h => ?_⟩ <;> try (exfalso; first | omega | exact absurd h (by decide) | exact h rfl)) | (refine ⟨_, alive_h, (), trivial, leVs_of_eq rfl, .inl rfl, rfl, ?_⟩; show norm (B true) _) | (refine ⟨_, defined_h, b, ho, leVs_of_eq rfl, .inl rfl, rfl, ?_⟩; show norm (B (decide (defP b))) _; rw [decide_eq_true hd]) | (refine ⟨_, sright_h, [s], (by show [s].length ≤ 1000000; simp), leVs_of_eq rfl, .inl rfl, rfl, ?_⟩; show norm (I (salesE [s])) _; rw [hE]) | fail | fail)
      refine ⟨Nat × (List (List CV)), fun xq => ⟨[(2, .bp 0 0), (3, .bp 1 0), (5, .osl 2), (6, I xq.1)], [(0, .box [L 2 (b.m.nodes.map encN), L 8 (b.m.lifts.map encL), L 7 (b.m.runs.map encU), L 1 (b.m.bases.map e1), L 2 (b.l.map encT), L 7 (b.rides.map encD)]), (1, .box ((encE s).map .c)), (2, .row 51 7 xq.2)], 3⟩, fun xq => xq.1 ≤ b.rides.length ∧ xq.2 = (ownR (b.rides.take xq.1) s.serial).map encD, fun xq => b.rides.length - xq.1, ⟨(0, _), ?_, [], ⟨⟨rfl, rfl⟩, ⟨⟨rfl, rfl⟩, ⟨⟨rfl, rfl⟩, ⟨⟨rfl, rfl⟩, trivial⟩⟩⟩⟩, ⟨⟨rfl, rfl, rfl⟩, ⟨⟨rfl, rfl, rfl⟩, ⟨⟨rfl, rfl, rfl⟩, trivial⟩⟩⟩, rfl, rfl, rfl⟩, ?_⟩
      · (try dsimp only); exact ⟨Nat.zero_le _, rfl⟩
      rintro ⟨k, es⟩ hk
      obtain ⟨hkk, rfl⟩ : k ≤ b.rides.length ∧ es = (ownR (b.rides.take k) s.serial).map encD := hk
      (try dsimp only)
      have hel : (ownR (b.rides.take k) s.serial).length ≤ 100 := by
        have := own_len (b.rides.take k) s.serial
        rw [List.length_take] at this
        omega
      by_cases hkl : k < b.rides.length
      · obtain ⟨x, hx⟩ := getElem_some hkl
        have hst := own_snoc (serial := s.serial) hx
        by_cases he : x.serial = s.serial
        · rw [if_pos he] at hst
          repeat' ((conv => whnf); first | (refine ⟨fun h => ?_, fun h => ?_⟩ <;> try (exfalso; first | omega | exact absurd h (by decide) | exact h rfl)) | (refine ⟨by omega, fun r hrr => ?_⟩; first | ((have hre : r = encD x := by (first | exact get_row hrr hx | fail)); subst hre)) | (refine ⟨(k + 1, _), ⟨?_, by (try dsimp only); omega⟩, [(0, 0), (1, 1), (2, 3)], ⟨⟨rfl, rfl⟩, ⟨⟨rfl, rfl⟩, ⟨⟨rfl, rfl⟩, ⟨⟨rfl, rfl⟩, trivial⟩⟩⟩⟩, ⟨⟨rfl, rfl, rfl⟩, ⟨⟨rfl, rfl, rfl⟩, ⟨⟨rfl, rfl, rfl⟩, trivial⟩⟩⟩, rfl, rfl, rfl⟩; (try dsimp only); exact ⟨by omega, by rw [hst, List.map_append]; rfl⟩) | (refine ⟨⟨by simp only [List.length_map, List.length_cons, List.length_nil]; omega, by simp only [List.length_map, List.length_cons, List.length_nil]; omega⟩, ?_⟩) | refine ⟨⟨by omega, by omega⟩, ?_⟩ | fail | fail)
        · rw [if_neg he] at hst
          repeat' ((conv => whnf); first | (refine ⟨fun h => ?_, fun h => ?_⟩ <;> try (exfalso; first | omega | exact absurd h (by decide) | exact h rfl)) | (refine ⟨by omega, fun r hrr => ?_⟩; first | ((have hre : r = encD x := by (first | exact get_row hrr hx | fail)); subst hre)) | (refine ⟨(k + 1, _), ⟨?_, by (try dsimp only); omega⟩, [], ⟨⟨rfl, rfl⟩, ⟨⟨rfl, rfl⟩, ⟨⟨rfl, rfl⟩, ⟨⟨rfl, rfl⟩, trivial⟩⟩⟩⟩, ⟨⟨rfl, rfl, rfl⟩, ⟨⟨rfl, rfl, rfl⟩, ⟨⟨rfl, rfl, rfl⟩, trivial⟩⟩⟩, rfl, rfl, rfl⟩; (try dsimp only); exact ⟨by omega, by rw [hst]⟩) | refine ⟨⟨by omega, by omega⟩, ?_⟩ | fail | fail)
      · rw [take_end hkl]
        repeat' ((conv => whnf); first | (refine ⟨fun h => ?_, fun h => ?_⟩ <;> try (exfalso; first | omega | exact absurd h (by decide) | exact h rfl)) | (refine ⟨_, of_h, (b.m, b.l, b.rides, s), hof, leVs_of_eq rfl, .inl rfl, rfl, ?_⟩; show norm (L 2 ((ofL b.m b.l b.rides s).map encS)) _; rw [hP]) | (refine ⟨rfl, _, of_h, (b.m, b.l, ownR b.rides s.serial, s), hof2, leVs_of_eq rfl, trivial, ?_⟩; show norm (shift _ (L 2 ((ofL b.m b.l (ownR b.rides s.serial) s).map encS))) _; rw [hP2]) | (refine ⟨_, sameS_h, (P, P), (by show (P).length ≤ 9223372036854775807; omega), leVs_of_eq rfl, .inl rfl, rfl, ?_⟩; show norm (B (decide (P = P))) _; rw [decide_eq_true rfl]) | exact ⟨[], rfl, trivial, rfl⟩ | fail)
    · obtain ⟨e, hE⟩ : ∃ e, salesE [s] = e := ⟨_, rfl⟩
      rw [hE] at hE0
      repeat' ((conv => whnf); first | (refine ⟨fun h => ?_, fun h => ?_⟩ <;> try (exfalso; first | omega | exact absurd h (by decide) | exact h rfl)) | (refine ⟨_, alive_h, (), trivial, leVs_of_eq rfl, .inl rfl, rfl, ?_⟩; show norm (B true) _) | (refine ⟨_, defined_h, b, ho, leVs_of_eq rfl, .inl rfl, rfl, ?_⟩; show norm (B (decide (defP b))) _; rw [decide_eq_true hd]) | (refine ⟨_, sright_h, [s], (by show [s].length ≤ 1000000; simp), leVs_of_eq rfl, .inl rfl, rfl, ?_⟩; show norm (I (salesE [s])) _; rw [hE]) | exact ⟨[], rfl, trivial, rfl⟩ | fail)
  · repeat' ((conv => whnf); first | (refine ⟨fun h => ?_, fun h => ?_⟩ <;> try (exfalso; first | omega | exact absurd h (by decide) | exact h rfl)) | (refine ⟨_, alive_h, (), trivial, leVs_of_eq rfl, .inl rfl, rfl, ?_⟩; show norm (B true) _) | (refine ⟨_, defined_h, b, ho, leVs_of_eq rfl, .inl rfl, rfl, ?_⟩; show norm (B (decide (defP b))) _; rw [decide_eq_false hd]) | exact ⟨[], rfl, trivial, rfl⟩ | fail)
theorem law_h : Holds Try.prog 7 lawS := holds_of mix Try.func7 lawLow (fun _ => rfl) lawV

/-! ### THE ROW's STEP -/
theorem own : ownKnob Try.prog.godebug = none := by kernel_rfl
theorem laidOut : laidOutB Try.prog = true := by kernel_rfl
set_option maxRecDepth 100000 in
theorem lifted (os : Os) (started : os.Started) (H : Type) (enc : TypeId × Value → H) :
    ReturnsInHanded {} Try.checked os 7 .any (Rows.revenueOthersSpec.pre6 enc Try.prog Try.f7 Rows.revenueOthersRow.domain false) (Rows.revenueOthersSpec.post enc Try.prog Try.f7 false true false false) := by
  refine returnsInHanded_of_change (C := Try.checked) own started (by kernel_rfl) Try.func7
    (ChangeSpec.witness6 (enc := enc) (C := Try.checked) false ⟨#[], #[.agg #[.slice none 0 0, .slice none 0 0, .slice none 0 0, .slice none 0 0, .slice none 0 0, .slice none 0 0], .agg #[.int .i64 0, .int .i64 0, .int .i64 0, .int .i64 0, .int .i64 0, .int .i64 0]], []⟩ 8 (by kernel_rfl) (by kernel_rfl) (by kernel_rfl) (by kernel_rfl)) ?_
  intro W base args ds gs before hval0 hW hcnd _
  have hval : ∀ (j : Nat) t v, Try.f7.params[j]? = some t → args[j]? = some v → Value.okWide Try.prog W .any base t v := hval0
  have hW' := hW
  obtain ⟨p, q, hA0, hV, rfl, hfz, hnd⟩ := hW
  have hA : DataW.TrodAll enc Try.prog W 0 (fun _ => true) true Try.f7.params.toList args.toList ds p := hA0
  rw [Try.params7] at hA hval
  obtain ⟨v0, vs0, d0, ds0, p0, q0, hargs, rfl, rfl, h0, r0⟩ := trodAll_cons hA
  obtain ⟨v1, vs1, d1, ds1, p1, q1, rfl, rfl, rfl, h1, r1⟩ := trodAll_cons r0
  obtain ⟨rfl, rfl, rfl⟩ := trodAll_nil r1
  obtain rfl : args = #[v0, v1] := by cases args; simp_all
  obtain ⟨rfl, rfl⟩ := trodVars_none hV
  have lt0 : ∀ x ∈ p0, x.block < W.heap.size := by obtain ⟨m, hm⟩ := h0; exact DataW.trod_lt m _ _ _ hm
  obtain ⟨z0, w0, x0⟩ := openB (hval 0 36 v0 rfl rfl) h0
  have lt1 : ∀ x ∈ p1, x.block < W.heap.size := by obtain ⟨m, hm⟩ := h1; exact DataW.trod_lt m _ _ _ hm
  obtain ⟨z1, w1, x1⟩ := openSa (hval 1 42 v1 rfl rfl) h1
  clear hA0 hval0
  refine Calls.mono (law_calls law_h (z0, z1) w0 rfl (vs := [v0, v1]) (replist_mk x0 (replist_mk x1 replist_mk0))) fun e W' ⟨he, bel⟩ => ?_
  subst he
  exact ⟨_, rfl, _, _, _, [], _, [], hW', trodAll_mk1 (shut_bool Try.underlying4 _), (trodAll_cons_mk (Below.trod laidOut (by kernel_rfl) (of_decide_eq_true (by kernel_rfl)) h0 bel lt0) (trodAll_cons_mk (Below.trod laidOut (by kernel_rfl) (of_decide_eq_true (by kernel_rfl)) h1 bel lt1) trodAll_mk0)), rfl, bel.frame _, fun h => by cases h⟩

theorem over : Rows.revenueOthersRow.holds Try.pinned (OpenSpec.ofChange Rows.revenueOthersSpec) :=
  OpenClaim.holds_of_wide 7 Try.f7 rfl rfl rfl rfl rfl rfl rfl ⟨rfl, rfl, rfl, rfl, rfl⟩ rfl rfl rfl rfl rfl (by kernel_rfl) Try.func7 (by kernel_rfl)
    (of_decide_eq_true (by kernel_rfl)) (by unfold Func.isWrapper; first | (rw [if_pos (by decide +kernel)]; kernel_rfl) | (rw [if_neg (by decide +kernel)]; exact ⟨rfl, rfl⟩))
    (fun os started H enc _ => lifted os started H enc)

theorem proved : Rows.RevenueOthersSaid := over
end Go.Proofs.Ytbglmocgijlomaa.lawOthers
