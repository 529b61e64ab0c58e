/- SplitAlone: a weight of 0 changes nothing, and a single weight has everything. No condition. -/
import Derived.Test.YtepacknnggnifaaArg
import Derived.Test.YtepacknnggnifaaPC
namespace Go.Proofs.Ytepacknnggnifaa.lawAlone
open Go.ChangeShapes Go.WideShapes Go.ChangeAt Go.RowKit Go.Deep Go.Joins
set_option linter.unusedVariables false
theorem u8_of {n : Int} (h : (Lit.int .u8 n).wf = true) : 0 ≤ n ∧ n ≤ 255 := by
  simp [Lit.wf, IntKind.min, IntKind.max, IntKind.signed, IntKind.bits] at h
  omega

/-! skiarea/skiarealaw34.SplitAlone -/
def lawIr : IFn := ⟨137, [.tmp 6],
  (.seq (.ops [
    ⟨(some 6), .mov, [.const (.bool false)], none⟩] false)
  (.seq (.seq (.ops [
    ⟨(some 16), .call 10, [], none⟩,
    ⟨(some 17), .not, [.tmp 16], none⟩] false)
  (.cond (.tmp 17)
    (.seq (.ops [
      ⟨(some 6), .mov, [.const (.bool false)], none⟩] false)
    .ret)
    .skip))
  (.seq (.seq (.ops [
    ⟨(some 18), .mov, [.tmp 1], none⟩,
    ⟨(some 19), .len, [.tmp 18], none⟩,
    ⟨(some 20), .cmp .eql, [.tmp 19, .const (.int .i64 0)], none⟩,
    ⟨(some 21), .mov, [.tmp 20], none⟩,
    ⟨(some 22), .mov, [.tmp 1], (some (21, false))⟩,
    ⟨(some 23), .len, [.tmp 22], (some (21, false))⟩,
    ⟨(some 24), .cmp .gtr, [.tmp 23, .const (.int .i64 63)], (some (21, false))⟩,
    ⟨(some 25), .pick, [.tmp 21, .const (.bool true), .tmp 24], none⟩] false)
  (.cond (.tmp 25)
    (.seq (.ops [
      ⟨(some 6), .mov, [.const (.bool true)], none⟩] false)
    .ret)
    .skip))
  (.seq (.ops [
    ⟨(some 27), .mov, [.tmp 0], none⟩,
    ⟨(some 28), .mov, [.tmp 1], none⟩,
    ⟨(some 29), .call 11, [.tmp 27, .tmp 28], none⟩,
    ⟨(some 26), .mov, [.tmp 29], none⟩,
    ⟨(some 30), .extract 0, [.tmp 26], none⟩,
    ⟨(some 31), .extract 1, [.tmp 26], none⟩,
    ⟨(some 7), .mov, [.tmp 30], none⟩,
    ⟨(some 8), .mov, [.tmp 31], none⟩] false)
  (.seq (.ops [
    ⟨(some 33), .mov, [.tmp 0], none⟩,
    ⟨(some 34), .buildOwn 3 1, [], none⟩,
    ⟨(some 35), .mov, [.tmp 1], none⟩,
    ⟨(some 36), .append 3 1 8, [.tmp 34, .tmp 35], none⟩,
    ⟨(some 37), .buildSl 3 1, [.const (.int .i64 0)], none⟩,
    ⟨(some 38), .append 3 1 8, [.tmp 36, .tmp 37], none⟩,
    ⟨(some 39), .callo 11, [.tmp 33, .tmp 38], none⟩,
    ⟨(some 32), .mov, [.tmp 39], none⟩,
    ⟨(some 40), .extract 0, [.tmp 32], none⟩,
    ⟨(some 41), .extract 1, [.tmp 32], none⟩,
    ⟨(some 9), .mov, [.tmp 40], none⟩,
    ⟨(some 10), .mov, [.tmp 41], none⟩] false)
  (.seq (.seq (.ops [
    ⟨(some 42), .mov, [.tmp 8], none⟩,
    ⟨(some 43), .mov, [.tmp 10], none⟩,
    ⟨(some 44), .cmp .neq, [.tmp 42, .tmp 43], none⟩,
    ⟨(some 45), .mov, [.tmp 44], none⟩,
    ⟨(some 46), .mov, [.tmp 8], (some (45, false))⟩,
    ⟨(some 47), .cmp .eql, [.tmp 46, .const (.int .i64 0)], (some (45, false))⟩,
    ⟨(some 48), .mov, [.tmp 47], (some (45, false))⟩,
    ⟨(some 49), .mov, [.tmp 9], (some (48, true))⟩,
    ⟨(some 50), .len, [.tmp 49], (some (48, true))⟩,
    ⟨(some 51), .mov, [.tmp 7], (some (48, true))⟩,
    ⟨(some 52), .len, [.tmp 51], (some (48, true))⟩,
    ⟨(some 53), .bin .add .i64 false, [.tmp 52, .const (.int .i64 1)], (some (48, true))⟩,
    ⟨(some 54), .cmp .neq, [.tmp 50, .tmp 53], (some (48, true))⟩,
    ⟨(some 55), .mov, [.tmp 54], (some (48, true))⟩,
    ⟨(some 56), .mov, [.tmp 9], (some (55, false))⟩,
    ⟨(some 57), .mov, [.tmp 7], (some (55, false))⟩,
    ⟨(some 58), .len, [.tmp 57], (some (55, false))⟩,
    ⟨(some 59), .idx 1, [.tmp 56, .tmp 58], (some (55, false))⟩,
    ⟨(some 60), .load 1 false, [.tmp 59], (some (55, false))⟩,
    ⟨(some 61), .cmp .neq, [.tmp 60, .const (.int .i64 0)], (some (55, false))⟩,
    ⟨(some 62), .pick, [.tmp 55, .const (.bool true), .tmp 61], (some (48, true))⟩,
    ⟨(some 63), .mov, [.tmp 62], (some (48, true))⟩,
    ⟨(some 64), .mov, [.tmp 9], (some (63, false))⟩,
    ⟨(some 65), .mov, [.tmp 7], (some (63, false))⟩,
    ⟨(some 66), .len, [.tmp 65], (some (63, false))⟩,
    ⟨(some 67), .slice 1 false true, [.tmp 64, .tmp 66], (some (63, false))⟩,
    ⟨(some 68), .mov, [.tmp 7], (some (63, false))⟩,
    ⟨(some 69), .call 13, [.tmp 67, .tmp 68], (some (63, false))⟩,
    ⟨(some 70), .not, [.tmp 69], (some (63, false))⟩,
    ⟨(some 71), .pick, [.tmp 63, .const (.bool true), .tmp 70], (some (48, true))⟩,
    ⟨(some 72), .pick, [.tmp 48, .tmp 71, .const (.bool false)], (some (45, false))⟩,
    ⟨(some 73), .pick, [.tmp 45, .const (.bool true), .tmp 72], none⟩] false)
  (.cond (.tmp 73)
    (.seq (.ops [
      ⟨(some 6), .mov, [.const (.bool false)], none⟩] false)
    .ret)
    .skip))
  (.seq (.seq (.ops [
    ⟨(some 74), .mov, [.tmp 8], none⟩,
    ⟨(some 75), .cmp .neq, [.tmp 74, .const (.int .i64 0)], none⟩] false)
  (.cond (.tmp 75)
    (.seq (.ops [
      ⟨(some 6), .mov, [.const (.bool true)], none⟩] false)
    .ret)
    .skip))
  (.seq (.ops [
    ⟨(some 76), .mov, [.tmp 2], none⟩,
    ⟨(some 77), .conv .i64, [.tmp 76], none⟩,
    ⟨(some 78), .mov, [.tmp 1], none⟩,
    ⟨(some 79), .len, [.tmp 78], none⟩,
    ⟨(some 80), .bin .rem .i64 false, [.tmp 77, .tmp 79], none⟩,
    ⟨(some 11), .mov, [.tmp 80], none⟩] false)
  (.seq (.ops [
    ⟨(some 81), .mov, [.tmp 1], none⟩,
    ⟨(some 82), .len, [.tmp 81], none⟩,
    ⟨(some 83), .mksl 3 1 8 [.int .i64 0], [.tmp 82, .tmp 82], none⟩,
    ⟨(some 12), .mov, [.tmp 83], none⟩] false)
  (.seq (.ops [
    ⟨(some 84), .mov, [.tmp 12], none⟩,
    ⟨(some 85), .mov, [.tmp 11], none⟩,
    ⟨(some 86), .mov, [.tmp 1], none⟩,
    ⟨(some 87), .mov, [.tmp 11], none⟩,
    ⟨(some 88), .idx 1, [.tmp 86, .tmp 87], none⟩,
    ⟨(some 89), .load 1 false, [.tmp 88], none⟩,
    ⟨(some 90), .bin .quo .i64 false, [.tmp 89, .const (.int .i64 2)], none⟩,
    ⟨(some 91), .bin .add .i64 false, [.const (.int .i64 1), .tmp 90], none⟩,
    ⟨(some 92), .idx 1, [.tmp 84, .tmp 85], none⟩,
    ⟨none, .store 1, [.tmp 92, .tmp 91], none⟩] false)
  (.seq (.ops [
    ⟨(some 94), .mov, [.tmp 0], none⟩,
    ⟨(some 95), .mov, [.tmp 12], none⟩,
    ⟨(some 96), .callo 11, [.tmp 94, .tmp 95], none⟩,
    ⟨(some 93), .mov, [.tmp 96], none⟩,
    ⟨(some 97), .extract 0, [.tmp 93], none⟩,
    ⟨(some 98), .extract 1, [.tmp 93], none⟩,
    ⟨(some 13), .mov, [.tmp 97], none⟩,
    ⟨(some 14), .mov, [.tmp 98], none⟩] false)
  (.seq (.seq (.ops [
    ⟨(some 99), .mov, [.tmp 14], none⟩,
    ⟨(some 100), .cmp .neq, [.tmp 99, .const (.int .i64 0)], none⟩,
    ⟨(some 101), .mov, [.tmp 100], none⟩,
    ⟨(some 102), .mov, [.tmp 13], (some (101, false))⟩,
    ⟨(some 103), .len, [.tmp 102], (some (101, false))⟩,
    ⟨(some 104), .mov, [.tmp 1], (some (101, false))⟩,
    ⟨(some 105), .len, [.tmp 104], (some (101, false))⟩,
    ⟨(some 106), .cmp .neq, [.tmp 103, .tmp 105], (some (101, false))⟩,
    ⟨(some 107), .pick, [.tmp 101, .const (.bool true), .tmp 106], none⟩] false)
  (.cond (.tmp 107)
    (.seq (.ops [
      ⟨(some 6), .mov, [.const (.bool false)], none⟩] false)
    .ret)
    .skip))
  (.seq (.seq (.ops [
    ⟨(some 15), .mov, [.const (.int .i64 0)], none⟩] false)
  (.block 0
    (.loop
      (.seq (.seq (.ops [
        ⟨(some 108), .mov, [.tmp 15], none⟩,
        ⟨(some 109), .mov, [.tmp 13], none⟩,
        ⟨(some 110), .len, [.tmp 109], none⟩,
        ⟨(some 111), .cmp .lss, [.tmp 108, .tmp 110], none⟩] false)
      (.cond (.tmp 111)
        .skip
        (.exit 0)))
      (.seq (.block 1
        (.seq (.ops [
          ⟨(some 114), .mov, [.tmp 15], none⟩,
          ⟨(some 115), .mov, [.tmp 11], none⟩,
          ⟨(some 116), .cmp .eql, [.tmp 114, .tmp 115], none⟩,
          ⟨(some 117), .mov, [.tmp 116], none⟩,
          ⟨(some 118), .mov, [.tmp 13], (some (117, true))⟩,
          ⟨(some 119), .mov, [.tmp 15], (some (117, true))⟩,
          ⟨(some 120), .idx 1, [.tmp 118, .tmp 119], (some (117, true))⟩,
          ⟨(some 121), .load 1 false, [.tmp 120], (some (117, true))⟩,
          ⟨(some 122), .mov, [.tmp 0], (some (117, true))⟩,
          ⟨(some 123), .cmp .neq, [.tmp 121, .tmp 122], (some (117, true))⟩,
          ⟨(some 124), .pick, [.tmp 117, .tmp 123, .const (.bool false)], none⟩,
          ⟨(some 125), .mov, [.tmp 124], none⟩,
          ⟨(some 126), .mov, [.tmp 15], (some (125, false))⟩,
          ⟨(some 127), .mov, [.tmp 11], (some (125, false))⟩,
          ⟨(some 128), .cmp .neq, [.tmp 126, .tmp 127], (some (125, false))⟩,
          ⟨(some 129), .mov, [.tmp 128], (some (125, false))⟩,
          ⟨(some 130), .mov, [.tmp 13], (some (129, true))⟩,
          ⟨(some 131), .mov, [.tmp 15], (some (129, true))⟩,
          ⟨(some 132), .idx 1, [.tmp 130, .tmp 131], (some (129, true))⟩,
          ⟨(some 133), .load 1 false, [.tmp 132], (some (129, true))⟩,
          ⟨(some 134), .cmp .neq, [.tmp 133, .const (.int .i64 0)], (some (129, true))⟩,
          ⟨(some 135), .pick, [.tmp 129, .tmp 134, .const (.bool false)], (some (125, false))⟩,
          ⟨(some 136), .pick, [.tmp 125, .const (.bool true), .tmp 135], none⟩] false)
        (.cond (.tmp 136)
          (.seq (.ops [
            ⟨(some 6), .mov, [.const (.bool false)], none⟩] false)
          .ret)
          .skip)))
      (.ops [
        ⟨(some 112), .mov, [.tmp 15], none⟩,
        ⟨(some 113), .bin .add .i64 false, [.tmp 112, .const (.int .i64 1)], none⟩,
        ⟨(some 15), .mov, [.tmp 113], none⟩] false))))))
  (.seq (.ops [
    ⟨(some 6), .mov, [.const (.bool true)], none⟩] false)
  .ret))))))))))))))⟩
theorem lawLow : lowF Try.prog { owns := [(34, 3)], gives := [39, 96] } Try.f9 = some lawIr := by kernel_rfl
def lawS : Spec := spec (Int × List Int × Int) (fun p => [I p.1, L 1 (p.2.1.map e1), .c (.int .u8 p.2.2)]) (fun p => 0 ≤ p.2.2 ∧ p.2.2 ≤ 255) (fun _ => B true)
set_option maxHeartbeats 4000000 in
theorem lawV : fnV Try.prog lawIr lawS := by
  intro ⟨(a : Int), (ws : List Int), (c : Int)⟩ hx
  obtain ⟨c1, c2⟩ : 0 ≤ c ∧ c ≤ 255 := hx
  show vc _ _ _ _ ⟨argEnv 0 [I a, L 1 (ws.map e1), .c (.int .u8 c)], [], 0⟩
  have hl : (ws.map e1).length = ws.length := List.length_map ..
  by_cases h8 : ws.length = 0 ∨ 63 < ws.length
  · repeat' ((conv => whnf); first | (refine ⟨fun h => ?_, fun h => ?_⟩ <;> try (exfalso; first | omega | exact absurd h (by decide) | exact h rfl)) | (refine ⟨_, alive_h, (), trivial, leVs_of_eq rfl, .inl rfl, rfl, ?_⟩; show norm (B true) _) | exact ⟨[], rfl, trivial, rfl⟩ | fail)
  have eN : [] ++ ws.map e1 ++ [[CV.int .i64 0]] = (ws ++ [0]).map e1 := by rw [List.nil_append, List.map_append]; rfl
  have hchk := alone_chk (a := a) (ws := ws) (by omega)
  have hla : (ws ++ [0]).length ≤ 1000000 := by rw [List.length_append]; show ws.length + 1 ≤ 1000000; omega
  by_cases hc : chkF a ws = 0
  · have g := good_of hc
    have hsp : splT a ws = .tup [L 1 ((partsL a ws).map e1), I 0] := by unfold splT; rw [if_pos hc, hc]
    have hsq : splT a (ws ++ [0]) = .tup [L 1 ((partsL a ws ++ [0]).map e1), I 0] := by unfold splT; rw [hchk, if_pos hc, hc, alone_parts g]
    have hpl := partsL_len a ws
    have hpl1 : ((partsL a ws).map e1).length = (partsL a ws).length := List.length_map ..
    have hql1 : ((partsL a ws ++ [0]).map e1).length = ws.length + 1 := by rw [List.length_map, List.length_append, hpl]; rfl
    have hlast : (partsL a ws ++ [0])[ws.length]? = some 0 := by rw [List.getElem?_append_right (by omega), hpl, Nat.sub_self]; rfl
    have eS : List.drop (0 : Int).toNat (List.take ((((partsL a ws).map e1).length : Nat) : Int).toNat ((partsL a ws ++ [0]).map e1)) = (partsL a ws).map e1 := by
      rw [Int.toNat_natCast, show (0 : Int).toNat = 0 from rfl, List.drop_zero, hpl1, ← List.map_take, List.take_left' rfl]
    generalize hPg : partsL a ws = P at *
    have hmod : c.tmod ((ws.map e1).length : Int) = c % (ws.length : Int) := by rw [hl]; exact Int.tmod_eq_emod_of_nonneg c1
    have hm1 := Int.emod_nonneg c (b := (ws.length : Int)) (by omega)
    have hm2 := Int.emod_lt_of_pos c (b := (ws.length : Int)) (by omega)
    obtain ⟨i, hi⟩ := Int.eq_ofNat_of_zero_le hm1
    rw [hi] at hmod hm2
    have hin : i < ws.length := by omega
    obtain ⟨w, hw⟩ := getElem_some hin
    obtain ⟨w0, w1⟩ := g.wOk w (List.mem_of_getElem? hw)
    have hdiv : w.tdiv 2 = w / 2 := Int.tdiv_eq_ediv_of_nonneg w0
    obtain ⟨go, ho⟩ := only_parts (a := a) (v := 1 + w / 2) (n := ws.length) (i := i) g.a0 g.a1 (by omega) hin (by omega) (by omega)
    have eO : (List.replicate ((((ws.map e1).length : Nat) : Int)).toNat [CV.int .i64 0]).set ((i : Int)).toNat [CV.int .i64 (1 + w / 2)] = ((List.replicate ws.length (0 : Int)).set i (1 + w / 2)).map e1 := by
      rw [Int.toNat_natCast, Int.toNat_natCast, hl, List.map_set, List.map_replicate]
    have hrl : (List.replicate ((((ws.map e1).length : Nat) : Int)).toNat [CV.int .i64 0]).length = ws.length := by rw [List.length_replicate, Int.toNat_natCast, hl]
    have gr : (List.replicate ((((ws.map e1).length : Nat) : Int)).toNat [CV.int .i64 0])[((i : Int)).toNat]? = some [CV.int .i64 0] := by rw [Int.toNat_natCast, Int.toNat_natCast, List.getElem?_replicate, if_pos (by rw [hl]; exact hin)]
    have hso : splT a ((List.replicate ws.length (0 : Int)).set i (1 + w / 2)) = .tup [L 1 (((List.replicate ws.length (0 : Int)).set i a).map e1), I 0] := by unfold splT; rw [go.chk, if_pos rfl, ho]
    have hz : ∀ k : Nat, k < ws.length → ((List.replicate ws.length (0 : Int)).set i a)[k]? = some (if k = i then a else 0) := fun k hk => only_get hk
    have hzl : ((List.replicate ws.length (0 : Int)).set i a).length = ws.length := by rw [List.length_set, List.length_replicate]
    have hol : ((List.replicate ws.length (0 : Int)).set i (1 + w / 2)).length ≤ 1000000 := by rw [List.length_set, List.length_replicate]; omega
    generalize hZ : (List.replicate ws.length (0 : Int)).set i a = Z at *
    have hzl1 : (Z.map e1).length = Z.length := List.length_map ..
    repeat' ((conv => whnf); first | (refine ⟨fun h => ?_, fun h => ?_⟩ <;> try (exfalso; first | omega | exact absurd h (by decide) | exact h rfl)) | (refine ⟨_, alive_h, (), trivial, leVs_of_eq rfl, .inl rfl, rfl, ?_⟩; show norm (B true) _) | (refine ⟨_, split_h, (a, ws), (by show ws.length ≤ 1000000; omega), leVs_of_eq rfl, .inl rfl, rfl, ?_⟩; show norm (splT a ws) _; rw [hsp]) | (refine ⟨rfl, _, split_h, (a, (ws ++ [0])), hla, leVs_of_eq rfl, trivial, ?_⟩; show norm (shift _ (splT a (ws ++ [0]))) _; rw [hsq]) | (refine ⟨by omega, fun r hrr => ?_⟩; (have hre : r = e1 0 := by (first | exact get_rowi (j := ws.length) hrr (by omega) hlast | fail)); subst hre) | (refine ⟨⟨by omega, by omega, by omega⟩, ?_⟩; rw [eS]) | (refine ⟨_, same_h, (P, P), (by show (P).length ≤ 9223372036854775807; omega), leVs_of_eq rfl, .inl rfl, rfl, ?_⟩; show norm (B (decide (P = P))) _; rw [decide_eq_true rfl]) | (refine ⟨by omega, ?_⟩; rw [hmod]) | (refine ⟨by omega, fun r hrr => ?_⟩; first | ((have hre : r = e1 w := by (first | exact get_row hrr hw | fail)); subst hre)) | (refine ⟨⟨by decide, by rw [hdiv]; constructor <;> omega⟩, ?_⟩; rw [hdiv]) | refine get_at gr ?_ | (refine ⟨rfl, _, split_h, (a, ((List.replicate ws.length (0 : Int)).set i (1 + w / 2))), hol, ⟨leV_refl _, (show leV (L 1 ((List.replicate ((((ws.map e1).length : Nat) : Int)).toNat [CV.int .i64 0]).set ((i : Int)).toNat [CV.int .i64 (1 + w / 2)])) (L 1 (((List.replicate ws.length (0 : Int)).set i (1 + w / 2)).map e1)) from by rw [eO]; exact leV_refl _), trivial⟩, trivial, ?_⟩; show norm (shift _ (splT a ((List.replicate ws.length (0 : Int)).set i (1 + w / 2)))) _; rw [hso]) | (refine ⟨⟨by (simp only [List.length_map, List.length_append, List.length_nil, List.length_cons]; omega), by (simp only [List.length_map, List.length_append, List.length_nil, List.length_cons]; omega)⟩, ?_⟩; try rw [eN]) | refine ⟨⟨by omega, by omega⟩, ?_⟩ | (refine ⟨⟨by omega, by (rw [hrl]; omega)⟩, ?_⟩) | fail | fail)
    refine ⟨Nat, fun xq => ⟨[(0, I a), (11, I i), (13, L 1 (Z.map e1)), (15, I xq)], [], 0⟩, fun xq => xq ≤ ws.length, fun xq => ws.length - xq, ⟨0, ?_, [], ⟨⟨rfl, rfl⟩, ⟨⟨rfl, rfl⟩, ⟨⟨rfl, rfl⟩, ⟨⟨rfl, rfl⟩, trivial⟩⟩⟩⟩, trivial, rfl, rfl, rfl⟩, ?_⟩
    · (try dsimp only); exact Nat.zero_le _
    rintro k hk
    obtain hk : k ≤ ws.length := hk
    (try dsimp only)
    by_cases hkl : k < ws.length
    · have hzk := hz k hkl
      by_cases hki : k = i
      · rw [if_pos hki] at hzk
        repeat' ((conv => whnf); first | (refine ⟨fun h => ?_, fun h => ?_⟩ <;> try (exfalso; first | omega | exact absurd h (by decide) | exact h rfl)) | (refine ⟨by omega, fun r hrr => ?_⟩; first | ((have hre : r = e1 a := by (first | exact get_row hrr hzk | fail)); subst hre)) | (refine ⟨k + 1, ⟨?_, by (try dsimp only); omega⟩, [], ⟨⟨rfl, rfl⟩, ⟨⟨rfl, rfl⟩, ⟨⟨rfl, rfl⟩, ⟨⟨rfl, rfl⟩, trivial⟩⟩⟩⟩, trivial, rfl, rfl, rfl⟩; (try dsimp only); omega) | refine ⟨⟨by omega, by omega⟩, ?_⟩ | fail)
      · rw [if_neg hki] at hzk
        repeat' ((conv => whnf); first | (refine ⟨fun h => ?_, fun h => ?_⟩ <;> try (exfalso; first | omega | exact absurd h (by decide) | exact h rfl)) | (refine ⟨by omega, fun r hrr => ?_⟩; first | ((have hre : r = e1 0 := by (first | exact get_row hrr hzk | fail)); subst hre)) | (refine ⟨k + 1, ⟨?_, by (try dsimp only); omega⟩, [], ⟨⟨rfl, rfl⟩, ⟨⟨rfl, rfl⟩, ⟨⟨rfl, rfl⟩, ⟨⟨rfl, rfl⟩, trivial⟩⟩⟩⟩, trivial, rfl, rfl, rfl⟩; (try dsimp only); omega) | refine ⟨⟨by omega, by omega⟩, ?_⟩ | fail)
    · repeat' ((conv => whnf); first | (refine ⟨fun h => ?_, fun h => ?_⟩ <;> try (exfalso; first | omega | exact absurd h (by decide) | exact h rfl)) | exact ⟨[], rfl, trivial, rfl⟩ | fail)
  · have hsp : splT a ws = .tup [L 1 [], I (chkF a ws)] := by unfold splT; rw [if_neg hc]; rfl
    have hsq : splT a (ws ++ [0]) = .tup [L 1 [], I (chkF a ws)] := by unfold splT; rw [hchk, if_neg hc]; rfl
    repeat' ((conv => whnf); first | (refine ⟨fun h => ?_, fun h => ?_⟩ <;> try (exfalso; first | omega | exact absurd h (by decide) | exact h rfl)) | (refine ⟨_, alive_h, (), trivial, leVs_of_eq rfl, .inl rfl, rfl, ?_⟩; show norm (B true) _) | (refine ⟨_, split_h, (a, ws), (by show ws.length ≤ 1000000; omega), leVs_of_eq rfl, .inl rfl, rfl, ?_⟩; show norm (splT a ws) _; rw [hsp]) | (refine ⟨rfl, _, split_h, (a, (ws ++ [0])), hla, leVs_of_eq rfl, trivial, ?_⟩; show norm (shift _ (splT a (ws ++ [0]))) _; rw [hsq]) | (refine ⟨⟨by (simp only [List.length_map, List.length_append, List.length_nil, List.length_cons]; omega), by (simp only [List.length_map, List.length_append, List.length_nil, List.length_cons]; omega)⟩, ?_⟩; try rw [eN]) | exact ⟨[], rfl, trivial, rfl⟩ | fail)
theorem law_h : Holds Try.prog 9 lawS := holds_of mix Try.func9 lawLow (fun _ => rfl) lawV

/-! ### THE ROW's STEP -/
theorem own : ownKnob Try.prog.godebug = none := by kernel_rfl
theorem laidOut : laidOutB Try.prog = true := by kernel_rfl
set_option maxRecDepth 100000 in
theorem lifted (os : Os) (started : os.Started) (H : Type) (enc : TypeId × Value → H) :
    ReturnsInHanded {} Try.checked os 9 .any (Rows.splitAloneSpec.pre6 enc Try.prog Try.f9 Rows.splitAloneRow.domain false) (Rows.splitAloneSpec.post enc Try.prog Try.f9 false true false false) := by
  refine returnsInHanded_of_change (C := Try.checked) own started (by kernel_rfl) Try.func9
    (ChangeSpec.witness6 (enc := enc) (C := Try.checked) false ⟨#[], #[.int .i64 0, .slice none 0 0, .int .u8 0], []⟩ 8 (by kernel_rfl) (by kernel_rfl) (by kernel_rfl) (by kernel_rfl)) ?_
  intro W base args ds gs before hval0 hW hcnd _
  have hval : ∀ (j : Nat) t v, Try.f9.params[j]? = some t → args[j]? = some v → Value.okWide Try.prog W .any base t v := hval0
  have hW' := hW
  obtain ⟨p, q, hA0, hV, rfl, hfz, hnd⟩ := hW
  have hA : DataW.TrodAll enc Try.prog W 0 (fun _ => true) true Try.f9.params.toList args.toList ds p := hA0
  rw [Try.params9] at hA hval
  obtain ⟨v0, vs0, d0, ds0, p0, q0, hargs, rfl, rfl, h0, r0⟩ := trodAll_cons hA
  obtain ⟨v1, vs1, d1, ds1, p1, q1, rfl, rfl, rfl, h1, r1⟩ := trodAll_cons r0
  obtain ⟨v2, vs2, d2, ds2, p2, q2, rfl, rfl, rfl, h2, r2⟩ := trodAll_cons r1
  obtain ⟨rfl, rfl, rfl⟩ := trodAll_nil r2
  obtain rfl : args = #[v0, v1, v2] := by cases args; simp_all
  obtain ⟨rfl, rfl⟩ := trodVars_none hV
  have lt0 : ∀ x ∈ p0, x.block < W.heap.size := by obtain ⟨m, hm⟩ := h0; exact DataW.trod_lt m _ _ _ hm
  obtain ⟨z0, w0, x0⟩ := open_i Try.underlying3 (hval 0 3 v0 rfl rfl) h0
  have lt1 : ∀ x ∈ p1, x.block < W.heap.size := by obtain ⟨m, hm⟩ := h1; exact DataW.trod_lt m _ _ _ hm
  obtain ⟨z1, w1, x1⟩ := openI (hval 1 22 v1 rfl rfl) h1
  have lt2 : ∀ x ∈ p2, x.block < W.heap.size := by obtain ⟨m, hm⟩ := h2; exact DataW.trod_lt m _ _ _ hm
  obtain ⟨z2, w2, x2⟩ := open_i Try.underlying5 (hval 2 5 v2 rfl rfl) h2
  clear hA0 hval0
  refine Calls.mono (law_calls law_h (z0, z1, z2) (u8_of w2) rfl (vs := [v0, v1, v2]) (replist_mk x0 (replist_mk x1 (replist_mk x2 replist_mk0)))) fun e W' ⟨he, bel⟩ => ?_
  subst he
  exact ⟨_, rfl, _, _, _, [], _, [], hW', trodAll_mk1 (shut_bool Try.underlying4 _), (trodAll_cons_mk (Below.trod laidOut (by kernel_rfl) (of_decide_eq_true (by kernel_rfl)) h0 bel lt0) (trodAll_cons_mk (Below.trod laidOut (by kernel_rfl) (of_decide_eq_true (by kernel_rfl)) h1 bel lt1) (trodAll_cons_mk (Below.trod laidOut (by kernel_rfl) (of_decide_eq_true (by kernel_rfl)) h2 bel lt2) trodAll_mk0))), rfl, bel.frame _, fun h => by cases h⟩

theorem over : Rows.splitAloneRow.holds Try.pinned (OpenSpec.ofChange Rows.splitAloneSpec) :=
  OpenClaim.holds_of_wide 9 Try.f9 rfl rfl rfl rfl rfl rfl rfl ⟨rfl, rfl, rfl, rfl, rfl⟩ rfl rfl rfl rfl rfl (by kernel_rfl) Try.func9 (by kernel_rfl)
    (of_decide_eq_true (by kernel_rfl)) (by unfold Func.isWrapper; first | (rw [if_pos (by decide +kernel)]; kernel_rfl) | (rw [if_neg (by decide +kernel)]; exact ⟨rfl, rfl⟩))
    (fun os started H enc _ => lifted os started H enc)

theorem proved : Rows.SplitAloneSaid := over
end Go.Proofs.Ytepacknnggnifaa.lawAlone
