/- RevenueSum: the shares of all sales are what was paid for them, in whatever order. No condition. -/
import Derived.Test.YtbglmocgijlomaaArg
import Derived.Test.YtbglmocgijlomaaTU
namespace Go.Proofs.Ytbglmocgijlomaa.lawSum
open Go.ChangeShapes Go.WideShapes Go.ChangeAt Go.RowKit Go.Deep Go.Joins
set_option linter.unusedVariables false
set_option maxRecDepth 20000

/-! skiarea/skiarealaw35.RevenueSum -/
def lawIr : IFn := ⟨105, [.tmp 6],
  (.seq (.ops [
    ⟨(some 3), .box, [.tmp 0], none⟩,
    ⟨(some 6), .mov, [.const (.bool false)], none⟩] false)
  (.seq (.seq (.ops [
    ⟨(some 16), .call 10, [], none⟩,
    ⟨(some 17), .not, [.tmp 16], none⟩] false)
  (.cond (.tmp 17)
    (.seq (.ops [
      ⟨(some 6), .mov, [.const (.bool false)], none⟩] false)
    .ret)
    .skip))
  (.seq (.seq (.ops [
    ⟨(some 18), .load 6 true, [.tmp 3], none⟩,
    ⟨(some 19), .call 13, [.tmp 18], none⟩,
    ⟨(some 20), .not, [.tmp 19], none⟩,
    ⟨(some 21), .mov, [.tmp 20], none⟩,
    ⟨(some 22), .mov, [.tmp 1], (some (21, false))⟩,
    ⟨(some 23), .len, [.tmp 22], (some (21, false))⟩,
    ⟨(some 24), .cmp .gtr, [.tmp 23, .const (.int .i64 40)], (some (21, false))⟩,
    ⟨(some 25), .pick, [.tmp 21, .const (.bool true), .tmp 24], none⟩] false)
  (.cond (.tmp 25)
    (.seq (.ops [
      ⟨(some 6), .mov, [.const (.bool true)], none⟩] false)
    .ret)
    .skip))
  (.seq (.ops [
    ⟨(some 27), .faddr 0, [.tmp 3], none⟩,
    ⟨(some 28), .load 4 true, [.tmp 27], none⟩,
    ⟨(some 29), .faddr 4, [.tmp 3], none⟩,
    ⟨(some 30), .load 1 false, [.tmp 29], none⟩,
    ⟨(some 31), .faddr 5, [.tmp 3], none⟩,
    ⟨(some 32), .load 1 false, [.tmp 31], none⟩,
    ⟨(some 33), .mov, [.tmp 1], none⟩,
    ⟨(some 34), .call 20, [.tmp 28, .tmp 30, .tmp 32, .tmp 33], none⟩,
    ⟨(some 26), .mov, [.tmp 34], none⟩,
    ⟨(some 35), .extract 0, [.tmp 26], none⟩,
    ⟨(some 36), .extract 1, [.tmp 26], none⟩,
    ⟨(some 7), .mov, [.tmp 35], none⟩,
    ⟨(some 8), .mov, [.tmp 36], none⟩] false)
  (.seq (.seq (.ops [
    ⟨(some 37), .mov, [.tmp 8], none⟩,
    ⟨(some 38), .cmp .neq, [.tmp 37, .const (.int .i64 0)], none⟩] false)
  (.cond (.tmp 38)
    (.seq (.ops [
      ⟨(some 39), .mov, [.tmp 7], none⟩,
      ⟨(some 40), .len, [.tmp 39], none⟩,
      ⟨(some 41), .cmp .eql, [.tmp 40, .const (.int .i64 0)], none⟩,
      ⟨(some 42), .mov, [.tmp 41], none⟩,
      ⟨(some 43), .mov, [.tmp 8], (some (42, true))⟩,
      ⟨(some 44), .mov, [.tmp 1], (some (42, true))⟩,
      ⟨(some 45), .call 11, [.tmp 44], (some (42, true))⟩,
      ⟨(some 46), .cmp .eql, [.tmp 43, .tmp 45], (some (42, true))⟩,
      ⟨(some 47), .pick, [.tmp 42, .tmp 46, .const (.bool false)], none⟩,
      ⟨(some 6), .mov, [.tmp 47], none⟩] false)
    .ret)
    .skip))
  (.seq (.ops [
    ⟨(some 9), .mov, [.const (.int .i64 0)], none⟩] false)
  (.seq (.seq (.ops [
    ⟨(some 10), .mov, [.const (.int .i64 0)], none⟩] false)
  (.block 0
    (.loop
      (.seq (.seq (.ops [
        ⟨(some 48), .mov, [.tmp 10], none⟩,
        ⟨(some 49), .mov, [.tmp 1], none⟩,
        ⟨(some 50), .len, [.tmp 49], none⟩,
        ⟨(some 51), .cmp .lss, [.tmp 48, .tmp 50], none⟩] false)
      (.cond (.tmp 51)
        .skip
        (.exit 0)))
      (.seq (.block 1
        (.ops [
          ⟨(some 54), .mov, [.tmp 9], none⟩,
          ⟨(some 55), .mov, [.tmp 1], none⟩,
          ⟨(some 56), .mov, [.tmp 10], none⟩,
          ⟨(some 57), .idx 6, [.tmp 55, .tmp 56], none⟩,
          ⟨(some 58), .faddr 4, [.tmp 57], none⟩,
          ⟨(some 59), .load 1 false, [.tmp 58], none⟩,
          ⟨(some 60), .bin .add .i64 false, [.tmp 54, .tmp 59], none⟩,
          ⟨(some 9), .mov, [.tmp 60], none⟩] false))
      (.ops [
        ⟨(some 52), .mov, [.tmp 10], none⟩,
        ⟨(some 53), .bin .add .i64 false, [.tmp 52, .const (.int .i64 1)], none⟩,
        ⟨(some 10), .mov, [.tmp 53], none⟩] false))))))
  (.seq (.ops [
    ⟨(some 62), .mov, [.tmp 7], none⟩,
    ⟨(some 63), .call 22, [.tmp 62], none⟩,
    ⟨(some 61), .mov, [.tmp 63], none⟩,
    ⟨(some 64), .extract 0, [.tmp 61], none⟩,
    ⟨(some 65), .extract 1, [.tmp 61], none⟩,
    ⟨(some 11), .mov, [.tmp 64], none⟩,
    ⟨(some 12), .mov, [.tmp 65], none⟩] false)
  (.seq (.seq (.ops [
    ⟨(some 66), .mov, [.tmp 12], none⟩,
    ⟨(some 67), .not, [.tmp 66], none⟩,
    ⟨(some 68), .mov, [.tmp 67], none⟩,
    ⟨(some 69), .mov, [.tmp 11], (some (68, false))⟩,
    ⟨(some 70), .mov, [.tmp 9], (some (68, false))⟩,
    ⟨(some 71), .cmp .neq, [.tmp 69, .tmp 70], (some (68, false))⟩,
    ⟨(some 72), .pick, [.tmp 68, .const (.bool true), .tmp 71], none⟩] false)
  (.cond (.tmp 72)
    (.seq (.ops [
      ⟨(some 6), .mov, [.const (.bool false)], none⟩] false)
    .ret)
    .skip))
  (.seq (.ops [
    ⟨(some 73), .mov, [.tmp 2], none⟩,
    ⟨(some 74), .conv .i64, [.tmp 73], none⟩,
    ⟨(some 75), .mov, [.tmp 1], none⟩,
    ⟨(some 76), .len, [.tmp 75], none⟩,
    ⟨(some 77), .bin .add .i64 false, [.tmp 76, .const (.int .i64 1)], none⟩,
    ⟨(some 78), .bin .rem .i64 false, [.tmp 74, .tmp 77], none⟩,
    ⟨(some 13), .mov, [.tmp 78], none⟩] false)
  (.seq (.ops [
    ⟨(some 80), .faddrB 0, [.tmp 3], none⟩,
    ⟨(some 81), .loadB 4 true, [.tmp 80], none⟩,
    ⟨(some 82), .faddrB 4, [.tmp 3], none⟩,
    ⟨(some 83), .loadB 1 false, [.tmp 82], none⟩,
    ⟨(some 84), .faddrB 5, [.tmp 3], none⟩,
    ⟨(some 85), .loadB 1 false, [.tmp 84], none⟩,
    ⟨(some 86), .buildOwn 42 6, [], none⟩,
    ⟨(some 87), .mov, [.tmp 1], none⟩,
    ⟨(some 88), .mov, [.tmp 13], none⟩,
    ⟨(some 89), .slice 6 true false, [.tmp 87, .tmp 88], none⟩,
    ⟨(some 90), .append 42 6 48, [.tmp 86, .tmp 89], none⟩,
    ⟨(some 91), .mov, [.tmp 1], none⟩,
    ⟨(some 92), .mov, [.tmp 13], none⟩,
    ⟨(some 93), .slice 6 false true, [.tmp 91, .tmp 92], none⟩,
    ⟨(some 94), .append 42 6 48, [.tmp 90, .tmp 93], none⟩,
    ⟨(some 95), .callo 20, [.tmp 81, .tmp 83, .tmp 85, .tmp 94], none⟩,
    ⟨(some 79), .mov, [.tmp 95], none⟩,
    ⟨(some 96), .extract 0, [.tmp 79], none⟩,
    ⟨(some 97), .extract 1, [.tmp 79], none⟩,
    ⟨(some 14), .mov, [.tmp 96], none⟩,
    ⟨(some 15), .mov, [.tmp 97], none⟩] true)
  (.seq (.ops [
    ⟨(some 98), .mov, [.tmp 15], none⟩,
    ⟨(some 99), .cmp .eql, [.tmp 98, .const (.int .i64 0)], none⟩,
    ⟨(some 100), .mov, [.tmp 99], none⟩,
    ⟨(some 101), .mov, [.tmp 7], (some (100, true))⟩,
    ⟨(some 102), .mov, [.tmp 14], (some (100, true))⟩,
    ⟨(some 103), .call 17, [.tmp 101, .tmp 102], (some (100, true))⟩,
    ⟨(some 104), .pick, [.tmp 100, .tmp 103, .const (.bool false)], none⟩,
    ⟨(some 6), .mov, [.tmp 104], none⟩] false)
  .ret))))))))))))⟩
theorem lawLow : lowF Try.prog { bxs := [80, 81, 82, 83, 84, 85], owns := [(86, 42)], gives := [95] } Try.f8 = some lawIr := by kernel_rfl
def lawS : Spec := spec (Book × List Sale × Int) (fun p => [aB p.1, L 6 (p.2.1.map encE), .c (.int .u8 p.2.2)]) (fun p => okB p.1 ∧ (Lit.int .u8 p.2.2).wf = true) (fun _ => B true)
set_option maxHeartbeats 4000000 in
theorem lawV : fnV Try.prog lawIr lawS := by
  intro ⟨(b : Book), (l : List Sale), (a : Int)⟩ ⟨(ho : okB b), hw⟩
  replace hw : (Lit.int .u8 a).wf = true := hw
  have ha : 0 ≤ a ∧ a ≤ 255 := by
    simp [Lit.wf, IntKind.min, IntKind.max, IntKind.signed, IntKind.bits] at hw
    omega
  show vc _ _ _ _ ⟨argEnv 0 [aB b, L 6 (l.map encE), .c (.int .u8 a)], [], 0⟩
  have hl : (l.map encE).length = l.length := List.length_map ..
  by_cases hd : defP b
  · have hk := hd.bk ho
    by_cases h40 : l.length ≤ 40
    · obtain ⟨P, hP⟩ : ∃ P, allR b.m b.l b.rides l = P := ⟨_, rfl⟩
      by_cases hE0 : salesE l = 0
      · obtain ⟨hf0, hsum⟩ := all_sum hk hE0 h40
        have hrP0 := rot_all b.m b.l b.rides hE0
        have hbn := fun k => paid_bnd (sales := l.take k) fun x hx => sale_ok hE0 x (List.mem_of_mem_take hx)
        rw [hP] at hf0 hsum
        have hPl := hf0.len
        repeat' ((conv => whnf); first | (refine ⟨fun h => ?_, fun h => ?_⟩ <;> try (exfalso; first | omega | exact absurd h (by decide) | exact h rfl)) | (refine ⟨_, alive_h, (), trivial, leVs_of_eq rfl, .inl rfl, rfl, ?_⟩; show norm (B true) _) | (refine ⟨_, defined_h, b, ho, leVs_of_eq rfl, .inl rfl, rfl, ?_⟩; show norm (B (decide (defP b))) _; rw [decide_eq_true hd]) | (refine ⟨_, allS_h, (b.m, b.l, b.rides, l), ⟨hk, (by show l.length ≤ 40; omega)⟩, leVs_of_eq rfl, .inl rfl, rfl, ?_⟩; show norm (.tup [L 2 ((allR b.m b.l b.rides l).map encS), I (salesE l)]) _; rw [hP, hE0]) | fail | fail)
        refine ⟨Nat × Int, fun xq => ⟨[(1, L 6 (l.map encE)), (2, .c (.int .u8 a)), (3, .bp 0 0), (7, L 2 (P.map encS)), (9, I xq.2), (10, I xq.1)], [(0, .box [L 2 (b.m.nodes.map encN), L 8 (b.m.lifts.map encL), L 7 (b.m.runs.map encU), L 1 (b.m.bases.map e1), L 2 (b.l.map encT), L 7 (b.rides.map encD)])], 1⟩, fun xq => xq.1 ≤ l.length ∧ xq.2 = paidL (l.take xq.1), fun xq => l.length - xq.1, ⟨(0, 0), ?_, [], ⟨⟨rfl, rfl⟩, ⟨⟨rfl, rfl⟩, ⟨⟨rfl, rfl⟩, ⟨⟨rfl, rfl⟩, ⟨⟨rfl, rfl⟩, ⟨⟨rfl, rfl⟩, trivial⟩⟩⟩⟩⟩⟩, ⟨⟨rfl, rfl, rfl⟩, trivial⟩, rfl, rfl, rfl⟩, ?_⟩
        · (try dsimp only); exact ⟨Nat.zero_le _, rfl⟩
        rintro ⟨k, n⟩ hk
        obtain ⟨hkl0, rfl⟩ : k ≤ l.length ∧ n = paidL (l.take k) := hk
        (try dsimp only)
        have hb1 := hbn k
        rw [List.length_take] at hb1
        by_cases hkl : k < l.length
        · obtain ⟨x, hx⟩ := getElem_some hkl
          have hst : paidL (l.take (k + 1)) = paidL (l.take k) + x.paid := by rw [take_snoc l k x hx]; simp [paidL]
          have hb2 := hbn (k + 1)
          rw [List.length_take] at hb2
          repeat' ((conv => whnf); first | (refine ⟨fun h => ?_, fun h => ?_⟩ <;> try (exfalso; first | omega | exact absurd h (by decide) | exact h rfl)) | (refine ⟨by omega, fun r hrr => ?_⟩; first | ((have hre : r = encE x := by (first | exact get_row hrr hx | fail)); subst hre)) | (refine ⟨(k + 1, _), ⟨?_, by (try dsimp only); omega⟩, [], ⟨⟨rfl, rfl⟩, ⟨⟨rfl, rfl⟩, ⟨⟨rfl, rfl⟩, ⟨⟨rfl, rfl⟩, ⟨⟨rfl, rfl⟩, ⟨⟨rfl, rfl⟩, trivial⟩⟩⟩⟩⟩⟩, ⟨⟨rfl, rfl, rfl⟩, trivial⟩, rfl, rfl, rfl⟩; (try dsimp only); exact ⟨by omega, hst.symm⟩) | refine ⟨⟨by omega, by omega⟩, ?_⟩ | fail | fail)
        rw [take_end hkl] at hb1 ⊢
        obtain ⟨r, hr, hrl⟩ : ∃ r : Nat, a.tmod (((l.map encE).length : Int) + 1) = (r : Int) ∧ r ≤ l.length := by
          have e1 := Int.tmod_eq_emod_of_nonneg (b := ((l.map encE).length : Int) + 1) ha.1
          have e2 := Int.emod_nonneg a (show (((l.map encE).length : Int) + 1) ≠ 0 by omega)
          have e3 := Int.emod_lt_of_pos a (show (0 : Int) < ((l.map encE).length : Int) + 1 by omega)
          exact ⟨(a % (((l.map encE).length : Int) + 1)).toNat, by omega, by omega⟩
        have hrot : [] ++ ((l.map encE).take (l.map encE).length).drop r ++ ((l.map encE).take r).drop 0 = (rotL l r).map encE := by
          unfold rotL
          rw [List.take_length, List.drop_zero, List.nil_append, List.map_append, List.map_drop, List.map_take]
        have hrP : allR b.m b.l b.rides (rotL l r) = P := by rw [hrP0 r, hP]
        have hrE := rot_ok hE0 r
        repeat' ((conv => whnf); first | (refine ⟨fun h => ?_, fun h => ?_⟩ <;> try (exfalso; first | omega | exact absurd h (by decide) | exact h rfl)) | (refine ⟨_, total_h, P, hf0, leVs_of_eq rfl, .inl rfl, rfl, ?_⟩; show norm (.tup [I (sumA P), B true]) _; rw [hsum]) | (refine ⟨by omega, ?_⟩; rw [hr]) | (refine ⟨⟨by simp only [List.length_append, List.length_drop, List.length_take, List.length_map, List.length_nil, Int.toNat_natCast]; omega, by simp only [List.length_append, List.length_drop, List.length_take, List.length_map, List.length_nil, Int.toNat_natCast]; omega⟩, ?_⟩) | (refine ⟨⟨by omega, by omega, by omega⟩, ?_⟩) | (refine ⟨by omega, ?_⟩) | refine ⟨⟨by omega, by omega⟩, ?_⟩ | (refine ⟨rfl, _, allS_h, (b.m, b.l, b.rides, rotL l r), ⟨hk, (by show (rotL l r).length ≤ 40; rw [rot_len]; omega)⟩, ⟨leV_refl _, leV_refl _, leV_refl _, (by show leV (L 6 ([] ++ ((l.map encE).take (l.map encE).length).drop r ++ ((l.map encE).take r).drop 0)) (L 6 ((rotL l r).map encE)); rw [hrot]; exact leV_refl _), trivial⟩, trivial, ?_⟩; show norm (shift _ (.tup [L 2 ((allR b.m b.l b.rides (rotL l r)).map encS), I (salesE (rotL l r))])) _; rw [hrP, hrE]) | (refine ⟨_, sameS_h, (P, P), (by show (P).length ≤ 9223372036854775807; omega), leVs_of_eq rfl, .inl rfl, rfl, ?_⟩; show norm (B (decide (P = P))) _; rw [decide_eq_true rfl]) | exact ⟨[], rfl, trivial, rfl⟩ | fail)
      · have hPn : P = [] := by rw [← hP]; exact if_neg hE0
        obtain ⟨e, hE⟩ : ∃ e, salesE l = e := ⟨_, rfl⟩
        rw [hE] at hE0
        subst hPn
        repeat' ((conv => whnf); first | (refine ⟨fun h => ?_, fun h => ?_⟩ <;> try (exfalso; first | omega | exact absurd h (by decide) | exact h rfl)) | (refine ⟨_, alive_h, (), trivial, leVs_of_eq rfl, .inl rfl, rfl, ?_⟩; show norm (B true) _) | (refine ⟨_, defined_h, b, ho, leVs_of_eq rfl, .inl rfl, rfl, ?_⟩; show norm (B (decide (defP b))) _; rw [decide_eq_true hd]) | (refine ⟨_, allS_h, (b.m, b.l, b.rides, l), ⟨hk, (by show l.length ≤ 40; omega)⟩, leVs_of_eq rfl, .inl rfl, rfl, ?_⟩; show norm (.tup [L 2 ((allR b.m b.l b.rides l).map encS), I (salesE l)]) _; rw [hP, hE]) | (refine ⟨_, sright_h, l, (by show l.length ≤ 1000000; omega), leVs_of_eq rfl, .inl rfl, rfl, ?_⟩; show norm (I (salesE l)) _; rw [hE]) | exact ⟨[], rfl, trivial, rfl⟩ | fail)
    · repeat' ((conv => whnf); first | (refine ⟨fun h => ?_, fun h => ?_⟩ <;> try (exfalso; first | omega | exact absurd h (by decide) | exact h rfl)) | (refine ⟨_, alive_h, (), trivial, leVs_of_eq rfl, .inl rfl, rfl, ?_⟩; show norm (B true) _) | (refine ⟨_, defined_h, b, ho, leVs_of_eq rfl, .inl rfl, rfl, ?_⟩; show norm (B (decide (defP b))) _; rw [decide_eq_true hd]) | exact ⟨[], rfl, trivial, rfl⟩ | fail)
  · repeat' ((conv => whnf); first | (refine ⟨fun h => ?_, fun h => ?_⟩ <;> try (exfalso; first | omega | exact absurd h (by decide) | exact h rfl)) | (refine ⟨_, alive_h, (), trivial, leVs_of_eq rfl, .inl rfl, rfl, ?_⟩; show norm (B true) _) | (refine ⟨_, defined_h, b, ho, leVs_of_eq rfl, .inl rfl, rfl, ?_⟩; show norm (B (decide (defP b))) _; rw [decide_eq_false hd]) | exact ⟨[], rfl, trivial, rfl⟩ | fail)
theorem law_h : Holds Try.prog 8 lawS := holds_of mix Try.func8 lawLow (fun _ => rfl) lawV

/-! ### THE ROW's STEP -/
theorem own : ownKnob Try.prog.godebug = none := by kernel_rfl
theorem laidOut : laidOutB Try.prog = true := by kernel_rfl
set_option maxRecDepth 100000 in
theorem lifted (os : Os) (started : os.Started) (H : Type) (enc : TypeId × Value → H) :
    ReturnsInHanded {} Try.checked os 8 .any (Rows.revenueSumSpec.pre6 enc Try.prog Try.f8 Rows.revenueSumRow.domain false) (Rows.revenueSumSpec.post enc Try.prog Try.f8 false true false false) := by
  refine returnsInHanded_of_change (C := Try.checked) own started (by kernel_rfl) Try.func8
    (ChangeSpec.witness6 (enc := enc) (C := Try.checked) false ⟨#[], #[.agg #[.slice none 0 0, .slice none 0 0, .slice none 0 0, .slice none 0 0, .slice none 0 0, .slice none 0 0], .slice none 0 0, .int .u8 0], []⟩ 8 (by kernel_rfl) (by kernel_rfl) (by kernel_rfl) (by kernel_rfl)) ?_
  intro W base args ds gs before hval0 hW hcnd _
  have hval : ∀ (j : Nat) t v, Try.f8.params[j]? = some t → args[j]? = some v → Value.okWide Try.prog W .any base t v := hval0
  have hW' := hW
  obtain ⟨p, q, hA0, hV, rfl, hfz, hnd⟩ := hW
  have hA : DataW.TrodAll enc Try.prog W 0 (fun _ => true) true Try.f8.params.toList args.toList ds p := hA0
  rw [Try.params8] at hA hval
  obtain ⟨v0, vs0, d0, ds0, p0, q0, hargs, rfl, rfl, h0, r0⟩ := trodAll_cons hA
  obtain ⟨v1, vs1, d1, ds1, p1, q1, rfl, rfl, rfl, h1, r1⟩ := trodAll_cons r0
  obtain ⟨v2, vs2, d2, ds2, p2, q2, rfl, rfl, rfl, h2, r2⟩ := trodAll_cons r1
  obtain ⟨rfl, rfl, rfl⟩ := trodAll_nil r2
  obtain rfl : args = #[v0, v1, v2] := by cases args; simp_all
  obtain ⟨rfl, rfl⟩ := trodVars_none hV
  have lt0 : ∀ x ∈ p0, x.block < W.heap.size := by obtain ⟨m, hm⟩ := h0; exact DataW.trod_lt m _ _ _ hm
  obtain ⟨z0, w0, x0⟩ := openB (hval 0 36 v0 rfl rfl) h0
  have lt1 : ∀ x ∈ p1, x.block < W.heap.size := by obtain ⟨m, hm⟩ := h1; exact DataW.trod_lt m _ _ _ hm
  obtain ⟨z1, w1, x1⟩ := openE (hval 1 22 v1 rfl rfl) h1
  have lt2 : ∀ x ∈ p2, x.block < W.heap.size := by obtain ⟨m, hm⟩ := h2; exact DataW.trod_lt m _ _ _ hm
  obtain ⟨z2, w2, x2⟩ := open_i Try.underlying5 (hval 2 5 v2 rfl rfl) h2
  clear hA0 hval0
  refine Calls.mono (law_calls law_h (z0, z1, z2) ⟨w0, w2⟩ rfl (vs := [v0, v1, v2]) (replist_mk x0 (replist_mk x1 (replist_mk x2 replist_mk0)))) fun e W' ⟨he, bel⟩ => ?_
  subst he
  exact ⟨_, rfl, _, _, _, [], _, [], hW', trodAll_mk1 (shut_bool Try.underlying4 _), (trodAll_cons_mk (Below.trod laidOut (by kernel_rfl) (of_decide_eq_true (by kernel_rfl)) h0 bel lt0) (trodAll_cons_mk (Below.trod laidOut (by kernel_rfl) (of_decide_eq_true (by kernel_rfl)) h1 bel lt1) (trodAll_cons_mk (Below.trod laidOut (by kernel_rfl) (of_decide_eq_true (by kernel_rfl)) h2 bel lt2) trodAll_mk0))), rfl, bel.frame _, fun h => by cases h⟩

theorem over : Rows.revenueSumRow.holds Try.pinned (OpenSpec.ofChange Rows.revenueSumSpec) :=
  OpenClaim.holds_of_wide 8 Try.f8 rfl rfl rfl rfl rfl rfl rfl ⟨rfl, rfl, rfl, rfl, rfl⟩ rfl rfl rfl rfl rfl (by kernel_rfl) Try.func8 (by kernel_rfl)
    (of_decide_eq_true (by kernel_rfl)) (by unfold Func.isWrapper; first | (rw [if_pos (by decide +kernel)]; kernel_rfl) | (rw [if_neg (by decide +kernel)]; exact ⟨rfl, rfl⟩))
    (fun os started H enc _ => lifted os started H enc)

theorem proved : Rows.RevenueSumSaid := over
end Go.Proofs.Ytbglmocgijlomaa.lawSum
