/- Split: Split. -/
import Derived.Test.YtepacknnggnifaaFJ
import Derived.Test.YtepacknnggnifaaF8
namespace Go.Proofs.Ytepacknnggnifaa
open Go.RowKit
/-- What Split answers. -/
def splT (a : Int) (ws : List Int) : SV := .tup [L 1 ((if chkF a ws = 0 then partsL a ws else []).map e1), I (chkF a ws)]
theorem qL_get {a : Int} {ws : List Int} {k : Nat} {w : Int} (h : ws[k]? = some w) : (qL a ws)[k]? = some (a * w / ws.sum) := by rw [qL, List.getElem?_map, h]; rfl
theorem rL_get {a : Int} {ws : List Int} {k : Nat} {w : Int} (h : ws[k]? = some w) : (rL a ws)[k]? = some (a * w % ws.sum) := by rw [rL, List.getElem?_map, h]; rfl
theorem Good.st {a : Int} {ws : List Int} (g : Good a ws) : stP ⟨rL a ws, idxL ws.length, ordL (rL a ws)⟩ := by
  have hl := g.len
  refine ⟨⟨fun y hy => ?_, by rw [rL_len]; omega⟩, ⟨idxL_stb _ _, by have := ordL_sorted (rL a ws); rw [rL_len] at this; exact this⟩, by rw [idxL_len]; omega⟩
  obtain ⟨i, hi, rfl⟩ := idxL_mem.1 hy
  rw [rL_len]; omega
theorem Good.incB {a : Int} {ws : List Int} (g : Good a ws) {is : List Int} (hn : is.Nodup) (h0 : ∀ i ∈ is, 0 ≤ i) {c : Nat} (hc : c < ws.length) : ∃ v, (incs (qL a ws) is)[c]? = some v ∧ 0 ≤ v ∧ v ≤ 1099511627777 := by
  obtain ⟨w, hw⟩ := getElem_some hc
  obtain ⟨q0, q1⟩ := g.q (List.mem_of_getElem? hw)
  have := g.a1
  refine ⟨_, incs_get is _ c _ hn h0 (qL_get hw), ?_⟩
  split <;> omega
theorem incr_eq {l : List Int} {c : Nat} {v : Int} (h : l[c]? = some v) : incr l c = l.set c (v + 1) := by rw [incr, Int.toNat_natCast, List.getD, h]; rfl

/-! skiarea/split.Split -/
def splitIr : IFn := ⟨85, [.tmp 4, .tmp 5],
  (.seq (.ops [
    ⟨(some 4), .mov, [.const (.slice none 0 0)], none⟩,
    ⟨(some 5), .mov, [.const (.int .i64 0)], none⟩] false)
  (.seq (.ops [
    ⟨(some 17), .mov, [.tmp 0], none⟩,
    ⟨(some 18), .mov, [.tmp 1], none⟩,
    ⟨(some 19), .call 24, [.tmp 17, .tmp 18], none⟩,
    ⟨(some 16), .mov, [.tmp 19], none⟩,
    ⟨(some 20), .extract 0, [.tmp 16], none⟩,
    ⟨(some 21), .extract 1, [.tmp 16], none⟩,
    ⟨(some 6), .mov, [.tmp 20], none⟩,
    ⟨(some 7), .mov, [.tmp 21], none⟩] false)
  (.seq (.seq (.ops [
    ⟨(some 22), .mov, [.tmp 7], none⟩,
    ⟨(some 23), .cmp .neq, [.tmp 22, .const (.int .i64 0)], none⟩] false)
  (.cond (.tmp 23)
    (.seq (.ops [
      ⟨(some 24), .mov, [.tmp 7], none⟩,
      ⟨(some 4), .mov, [.const (.slice none 0 0)], none⟩,
      ⟨(some 5), .mov, [.tmp 24], none⟩] false)
    .ret)
    .skip))
  (.seq (.ops [
    ⟨(some 25), .mov, [.tmp 1], none⟩,
    ⟨(some 26), .len, [.tmp 25], none⟩,
    ⟨(some 27), .mksl 3 1 8 [.int .i64 0], [.tmp 26, .tmp 26], none⟩,
    ⟨(some 8), .mov, [.tmp 27], none⟩] false)
  (.seq (.ops [
    ⟨(some 28), .mov, [.tmp 1], none⟩,
    ⟨(some 29), .len, [.tmp 28], none⟩,
    ⟨(some 30), .mksl 3 1 8 [.int .i64 0], [.tmp 29, .tmp 29], none⟩,
    ⟨(some 9), .alloc [.nil], [], none⟩,
    ⟨none, .store 1, [.tmp 9, .tmp 30], none⟩] false)
  (.seq (.ops [
    ⟨(some 31), .mov, [.tmp 1], none⟩,
    ⟨(some 32), .len, [.tmp 31], none⟩,
    ⟨(some 33), .mksl 3 1 8 [.int .i64 0], [.tmp 32, .tmp 32], none⟩,
    ⟨(some 10), .mov, [.tmp 33], none⟩] false)
  (.seq (.ops [
    ⟨(some 34), .mov, [.tmp 0], none⟩,
    ⟨(some 11), .mov, [.tmp 34], none⟩] false)
  (.seq (.seq (.ops [
    ⟨(some 35), .mov, [.tmp 1], none⟩,
    ⟨(some 36), .len, [.tmp 35], none⟩,
    ⟨(some 37), .mov, [.const (.int .i64 0)], none⟩] false)
  (.block 0
    (.loop
      (.seq (.ops [
        ⟨(some 38), .cmp .lss, [.tmp 37, .tmp 36], none⟩] false)
      (.seq (.cond (.tmp 38)
        .skip
        (.exit 0))
      (.seq (.block 1
        (.seq (.ops [
          ⟨(some 39), .mov, [.tmp 37], none⟩,
          ⟨(some 40), .idx 1, [.tmp 35, .tmp 37], none⟩,
          ⟨(some 41), .load 1 false, [.tmp 40], none⟩,
          ⟨(some 12), .mov, [.tmp 39], none⟩,
          ⟨(some 13), .mov, [.tmp 41], none⟩] false)
        (.seq (.ops [
          ⟨(some 43), .mov, [.tmp 8], none⟩,
          ⟨(some 44), .mov, [.tmp 12], none⟩,
          ⟨(some 45), .loadB 1 false, [.tmp 9], none⟩,
          ⟨(some 46), .mov, [.tmp 12], none⟩,
          ⟨(some 47), .mov, [.tmp 0], none⟩,
          ⟨(some 48), .mov, [.tmp 13], none⟩,
          ⟨(some 49), .mov, [.tmp 6], none⟩,
          ⟨(some 50), .call 25, [.tmp 47, .tmp 48, .tmp 49], none⟩,
          ⟨(some 42), .mov, [.tmp 50], none⟩,
          ⟨(some 51), .extract 0, [.tmp 42], none⟩,
          ⟨(some 52), .extract 1, [.tmp 42], none⟩,
          ⟨(some 53), .idx 1, [.tmp 43, .tmp 44], none⟩,
          ⟨none, .storeE 1, [.tmp 53, .tmp 51], none⟩,
          ⟨(some 54), .idx 1, [.tmp 45, .tmp 46], none⟩,
          ⟨none, .store 1, [.tmp 54, .tmp 52], none⟩] true)
        (.seq (.ops [
          ⟨(some 55), .mov, [.tmp 10], none⟩,
          ⟨(some 56), .mov, [.tmp 12], none⟩,
          ⟨(some 57), .mov, [.tmp 12], none⟩,
          ⟨(some 58), .idx 1, [.tmp 55, .tmp 56], none⟩,
          ⟨none, .store 1, [.tmp 58, .tmp 57], none⟩] false)
        (.ops [
          ⟨(some 59), .mov, [.tmp 11], none⟩,
          ⟨(some 60), .mov, [.tmp 8], none⟩,
          ⟨(some 61), .mov, [.tmp 12], none⟩,
          ⟨(some 62), .idx 1, [.tmp 60, .tmp 61], none⟩,
          ⟨(some 63), .load 1 false, [.tmp 62], none⟩,
          ⟨(some 64), .bin .sub .i64 false, [.tmp 59, .tmp 63], none⟩,
          ⟨(some 11), .mov, [.tmp 64], none⟩] false)))))
      (.ops [
        ⟨(some 65), .bin .add .i64 false, [.tmp 37, .const (.int .i64 1)], none⟩,
        ⟨(some 37), .mov, [.tmp 65], none⟩] false)))))))
  (.seq (.ops [
    ⟨(some 66), .mov, [.tmp 10], none⟩,
    ⟨(some 67), .fn 27, [.tmp 9], none⟩,
    ⟨(some 68), .callg 26, [.tmp 66, .tmp 67], none⟩] false)
  (.seq (.seq (.ops [
    ⟨(some 69), .mov, [.tmp 10], none⟩,
    ⟨(some 70), .mov, [.tmp 11], none⟩,
    ⟨(some 71), .sliceF 1 false true, [.tmp 69, .tmp 70], none⟩,
    ⟨(some 72), .len, [.tmp 71], none⟩,
    ⟨(some 73), .mov, [.const (.int .i64 0)], none⟩] false)
  (.block 2
    (.loop
      (.seq (.ops [
        ⟨(some 74), .cmp .lss, [.tmp 73, .tmp 72], none⟩] false)
      (.seq (.cond (.tmp 74)
        .skip
        (.exit 2))
      (.seq (.block 3
        (.seq (.ops [
          ⟨(some 75), .idx 1, [.tmp 71, .tmp 73], none⟩,
          ⟨(some 76), .load 1 false, [.tmp 75], none⟩,
          ⟨(some 15), .mov, [.tmp 76], none⟩] false)
        (.ops [
          ⟨(some 77), .mov, [.tmp 8], none⟩,
          ⟨(some 78), .mov, [.tmp 15], none⟩,
          ⟨(some 79), .idx 1, [.tmp 77, .tmp 78], none⟩,
          ⟨(some 80), .load 1 false, [.tmp 79], none⟩,
          ⟨(some 81), .bin .add .i64 false, [.tmp 80, .const (.int .i64 1)], none⟩,
          ⟨(some 82), .idx 1, [.tmp 77, .tmp 78], none⟩,
          ⟨none, .store 1, [.tmp 82, .tmp 81], none⟩] false)))
      (.ops [
        ⟨(some 83), .bin .add .i64 false, [.tmp 73, .const (.int .i64 1)], none⟩,
        ⟨(some 73), .mov, [.tmp 83], none⟩] false)))))))
  (.seq (.ops [
    ⟨(some 84), .mov, [.tmp 8], none⟩,
    ⟨(some 4), .mov, [.tmp 84], none⟩,
    ⟨(some 5), .mov, [.const (.int .i64 0)], none⟩] false)
  .ret)))))))))))⟩
theorem splitLow : lowF Try.prog { bxs := [45], eps := [53], gvs := [68], frz := [71] } Try.f11 = some splitIr := by kernel_rfl
def splitS : Spec := spec (Int × List Int) (fun p => [I p.1, L 1 (p.2.map e1)]) (fun p => p.2.length ≤ 1000000) (fun p => splT p.1 p.2)
theorem splitV : fnV Try.prog splitIr splitS := by
  intro ⟨(a : Int), (ws : List Int)⟩ hx
  replace hx : ws.length ≤ 1000000 := hx
  have hl : (ws.map e1).length = ws.length := List.length_map ..
  show vc _ _ _ _ ⟨argEnv 0 [I a, L 1 (ws.map e1)], [], 0⟩
  by_cases hc : chkF a ws = 0
  · have hct : chkT a ws = .tup [I ws.sum, I 0] := by unfold chkT; rw [hc, if_pos rfl]
    have g := good_of hc
    repeat' ((conv => whnf); first | (refine ⟨fun h => ?_, fun h => ?_⟩ <;> try (exfalso; first | omega | exact absurd h (by decide) | exact h rfl)) | (refine ⟨_, check_h, (a, ws), hx, leVs_of_eq rfl, .inl rfl, rfl, ?_⟩; show norm (chkT a ws) _; rw [hct]) | refine ⟨⟨by omega, by omega⟩, ?_⟩ | fail | fail)
    refine ⟨Nat × Int × (List (List CV)) × (List (List CV)) × (List (List CV)), fun xq => ⟨[(0, I a), (1, L 1 (ws.map e1)), (6, I ws.sum), (8, .osl 0), (9, .bp 2 0), (10, .osl 3), (11, I xq.2.1), (35, L 1 (ws.map e1)), (36, I (ws.map e1).length), (37, I xq.1)], [(0, .row 3 1 xq.2.2.1), (1, .row 3 1 xq.2.2.2.1), (2, .box [.osl 1]), (3, .row 3 1 xq.2.2.2.2)], 4⟩, fun xq => ((xq.1 ≤ ws.length ∧ xq.2.1 = a - ((qL a ws).take xq.1).sum) ∧ a - 1099511627776 * (xq.1 : Int) ≤ xq.2.1 ∧ xq.2.1 ≤ a) ∧ xq.2.2.1 = (upTo (qL a ws) ws.length xq.1).map e1 ∧ xq.2.2.2.1 = (upTo (rL a ws) ws.length xq.1).map e1 ∧ xq.2.2.2.2 = (upTo (idxL ws.length) ws.length xq.1).map e1, fun xq => ws.length - xq.1, ⟨(0, _, _, _, _), ?_, [], ⟨⟨rfl, rfl⟩, ⟨⟨rfl, rfl⟩, ⟨⟨rfl, rfl⟩, ⟨⟨rfl, rfl⟩, ⟨⟨rfl, rfl⟩, ⟨⟨rfl, rfl⟩, ⟨⟨rfl, rfl⟩, ⟨⟨rfl, rfl⟩, ⟨⟨rfl, rfl⟩, ⟨⟨rfl, rfl⟩, trivial⟩⟩⟩⟩⟩⟩⟩⟩⟩⟩, ⟨⟨rfl, rfl, rfl⟩, ⟨⟨rfl, rfl, rfl⟩, ⟨⟨rfl, rfl, rfl⟩, ⟨⟨rfl, rfl, rfl⟩, trivial⟩⟩⟩⟩, rfl, rfl, rfl⟩, ?_⟩
    · (try dsimp only); exact ⟨⟨⟨Nat.zero_le _, by simp⟩, by omega, by omega⟩, by rw [upTo_start]; simp, by rw [upTo_start]; simp, by rw [upTo_start]; simp⟩
    rintro ⟨k, m, ps, rs, os⟩ hk
    obtain ⟨⟨⟨hk, hm⟩, m0, m1⟩, rfl, rfl, rfl⟩ : ((k ≤ ws.length ∧ m = a - ((qL a ws).take k).sum) ∧ a - 1099511627776 * (k : Int) ≤ m ∧ m ≤ a) ∧ ps = (upTo (qL a ws) ws.length k).map e1 ∧ rs = (upTo (rL a ws) ws.length k).map e1 ∧ os = (upTo (idxL ws.length) ws.length k).map e1 := hk
    (try dsimp only)
    have hlp : ((upTo (qL a ws) ws.length k).map e1).length = ws.length := by rw [List.length_map, upTo_len hk (qL_len a ws)]
    have hlr : ((upTo (rL a ws) ws.length k).map e1).length = ws.length := by rw [List.length_map, upTo_len hk (rL_len a ws)]
    have hlo : ((upTo (idxL ws.length) ws.length k).map e1).length = ws.length := by rw [List.length_map, upTo_len hk (idxL_len _)]
    by_cases hkl : k < ws.length
    · obtain ⟨w, hw⟩ := getElem_some hkl
      obtain ⟨w0, w1⟩ := g.wOk w (List.mem_of_getElem? hw)
      have hws := le_sum (fun w hw => (g.wOk w hw).1) w (List.mem_of_getElem? hw)
      have hs0 := g.s0
      have hs1 := g.s1
      have ha0 := g.a0
      have ha1 := g.a1
      have hn64 := g.len
      obtain ⟨q0, q1⟩ := g.q (List.mem_of_getElem? hw)
      have gp : ((upTo (qL a ws) ws.length k).map e1)[(k : Int).toNat]? = some [.int .i64 0] := get_e1 (upTo_get (qL_get hw) (qL_len a ws))
      have gr : ((upTo (rL a ws) ws.length k).map e1)[(k : Int).toNat]? = some [.int .i64 0] := get_e1 (upTo_get (rL_get hw) (rL_len a ws))
      have go : ((upTo (idxL ws.length) ws.length k).map e1)[(k : Int).toNat]? = some [.int .i64 0] := get_e1 (upTo_get (idxL_get hkl) (idxL_len _))
      have gq : (((upTo (qL a ws) ws.length k).map e1).set (k : Int).toNat [.int .i64 (a * w / ws.sum)])[(k : Int).toNat]? = some [.int .i64 (a * w / ws.sum)] := List.getElem?_set_self (by rw [hlp]; exact hkl)
      have hps : ((upTo (qL a ws) ws.length k).map e1).set (k : Int).toNat [.int .i64 (a * w / ws.sum)] = (upTo (qL a ws) ws.length (k + 1)).map e1 := by rw [map_set1, Int.toNat_natCast, upTo_set (qL_get hw) (qL_len a ws)]
      have hrs : ((upTo (rL a ws) ws.length k).map e1).set (k : Int).toNat [.int .i64 (a * w % ws.sum)] = (upTo (rL a ws) ws.length (k + 1)).map e1 := by rw [map_set1, Int.toNat_natCast, upTo_set (rL_get hw) (rL_len a ws)]
      have hos : ((upTo (idxL ws.length) ws.length k).map e1).set (k : Int).toNat [.int .i64 (k : Int)] = (upTo (idxL ws.length) ws.length (k + 1)).map e1 := by rw [map_set1, Int.toNat_natCast, upTo_set (idxL_get hkl) (idxL_len _)]
      repeat' ((conv => whnf); first | (refine ⟨fun h => ?_, fun h => ?_⟩ <;> try (exfalso; first | omega | exact absurd h (by decide) | exact h rfl)) | (refine ⟨_, exact_h, (a, w, ws.sum), (by show (0 ≤ a ∧ a ≤ 1099511627776) ∧ (0 ≤ w ∧ w ≤ 1000000000) ∧ (1 ≤ ws.sum ∧ ws.sum ≤ 64000000000) ∧ w ≤ ws.sum; omega), leVs_of_eq rfl, .inl rfl, rfl, ?_⟩; show norm (.tup [I (a * w / ws.sum), I (a * w % ws.sum)]) _) | refine get_at gp ?_ | refine get_at gr ?_ | refine get_at go ?_ | refine get_at gq ?_ | (refine ⟨(k + 1, _, _, _, _), ⟨?_, by (try dsimp only); omega⟩, [], ⟨⟨rfl, rfl⟩, ⟨⟨rfl, rfl⟩, ⟨⟨rfl, rfl⟩, ⟨⟨rfl, rfl⟩, ⟨⟨rfl, rfl⟩, ⟨⟨rfl, rfl⟩, ⟨⟨rfl, rfl⟩, ⟨⟨rfl, rfl⟩, ⟨⟨rfl, rfl⟩, ⟨⟨rfl, rfl⟩, trivial⟩⟩⟩⟩⟩⟩⟩⟩⟩⟩, ⟨⟨rfl, rfl, rfl⟩, ⟨⟨rfl, rfl, rfl⟩, ⟨⟨rfl, rfl, rfl⟩, ⟨⟨rfl, rfl, rfl⟩, trivial⟩⟩⟩⟩, rfl, rfl, rfl⟩; (try dsimp only); exact ⟨⟨⟨by omega, by rw [sum_take (qL_get hw)]; omega⟩, by omega, by omega⟩, hps, hrs, hos⟩) | (refine ⟨by omega, fun r hrr => ?_⟩; (have hre : r = e1 w := by (first | exact get_row hrr hw | fail)); subst hre) | refine ⟨⟨by omega, by omega⟩, ?_⟩ | refine ⟨⟨by omega, by (rw [List.length_set]; omega)⟩, ?_⟩ | fail)
    · have hkn : k = ws.length := by omega
      subst hkn
      have hol : ((ordL (rL a ws)).map e1).length = ws.length := by rw [List.length_map, ordL_len, rL_len]
      obtain ⟨hle, hlt⟩ := g.left
      rw [List.take_of_length_le (by rw [qL_len]; omega)] at hm
      have hmt : m.toNat = leftN a ws := by omega
      rw [upTo_end (qL_len a ws), upTo_end (rL_len a ws), upTo_end (idxL_len _)]
      repeat' ((conv => whnf); first | (refine ⟨fun h => ?_, fun h => ?_⟩ <;> try (exfalso; first | omega | exact absurd h (by decide) | exact h rfl)) | (refine ⟨[3], _, sort_g, ⟨rL a ws, idxL ws.length, ordL (rL a ws)⟩, g.st, ⟨⟨⟨rfl, rfl, rfl⟩, trivial⟩, rfl, rfl, rfl⟩, ⟨⟨rfl, rfl⟩, rfl, trivial⟩, .inr ⟨rfl, ⟨cln1 _, trivial⟩, trivial⟩, ⟨⟨⟨⟨rfl, rfl⟩, by (show ((ordL (rL a ws)).map e1).length = ((idxL ws.length).map e1).length; rw [hol, List.length_map, idxL_len])⟩, trivial⟩, trivial⟩, ?_⟩) | (refine ⟨(by show (0 : Int) ≤ 0 ∧ 0 ≤ m ∧ m ≤ (((ordL (rL a ws)).map e1).length : Int); omega), ?_⟩) | fail | fail)
      refine ⟨Nat × (List (List CV)) × (List (List CV)), fun xq => ⟨[(8, .osl 0), (71, L 1 xq.2.1), (72, I xq.2.1.length), (73, I xq.1)], [(0, .row 3 1 xq.2.2)], 1⟩, fun xq => xq.1 ≤ leftN a ws ∧ xq.2.1 = ((ordL (rL a ws)).take (leftN a ws)).map e1 ∧ xq.2.2 = (incs (qL a ws) (((ordL (rL a ws)).take (leftN a ws)).take xq.1)).map e1, fun xq => leftN a ws - xq.1, ⟨(0, _, _), ?_, [], ⟨⟨rfl, rfl⟩, ⟨⟨rfl, rfl⟩, ⟨⟨rfl, rfl⟩, ⟨⟨rfl, rfl⟩, trivial⟩⟩⟩⟩, ⟨⟨rfl, rfl, rfl⟩, trivial⟩, rfl, rfl, rfl⟩, ?_⟩
      · (try dsimp only); exact ⟨Nat.zero_le _, by show List.drop 0 (((ordL (rL a ws)).map e1).take m.toNat) = _; rw [List.drop_zero, ← List.map_take, hmt], rfl⟩
      rintro ⟨k, ts, ps⟩ hk
      obtain ⟨hk2, rfl, rfl⟩ : k ≤ leftN a ws ∧ ts = ((ordL (rL a ws)).take (leftN a ws)).map e1 ∧ ps = (incs (qL a ws) (((ordL (rL a ws)).take (leftN a ws)).take k)).map e1 := hk
      (try dsimp only)
      have hTl : ((ordL (rL a ws)).take (leftN a ws)).length = leftN a ws := by rw [List.length_take, ordL_len, rL_len]; omega
      have hTn : ((ordL (rL a ws)).take (leftN a ws)).Nodup := (ordL_nodup _).sublist (List.take_sublist _ _)
      have hTm : ∀ i ∈ (ordL (rL a ws)).take (leftN a ws), ∃ c : Nat, c < ws.length ∧ i = c := fun i hi => by have := ordL_mem (List.mem_of_mem_take hi); rw [rL_len] at this; exact this
      have hfin : partsL a ws = incs (qL a ws) ((ordL (rL a ws)).take (leftN a ws)) := rfl
      generalize (ordL (rL a ws)).take (leftN a ws) = T at *
      have hml : (T.map e1).length = T.length := List.length_map ..
      have hpl : ((incs (qL a ws) (T.take k)).map e1).length = ws.length := by rw [List.length_map, incs_len, qL_len]
      by_cases hkT : k < T.length
      · obtain ⟨w, hw⟩ := getElem_some hkT
        obtain ⟨c, hcn, hwc⟩ := hTm w (List.mem_of_getElem? hw)
        subst hwc
        obtain ⟨v, hv, v0, v1⟩ := g.incB (is := T.take k) (hTn.sublist (List.take_sublist _ _)) (fun i hi => by obtain ⟨j, _, rfl⟩ := hTm i (List.mem_of_mem_take hi); omega) hcn
        have gp : ((incs (qL a ws) (T.take k)).map e1)[(c : Int).toNat]? = some [.int .i64 v] := get_e1 hv
        have hps : ((incs (qL a ws) (T.take k)).map e1).set (c : Int).toNat [.int .i64 (v + 1)] = (incs (qL a ws) (T.take (k + 1))).map e1 := by rw [map_set1, Int.toNat_natCast, take_snoc T k _ hw, incs_snoc, incr_eq hv]
        repeat' ((conv => whnf); first | (refine ⟨fun h => ?_, fun h => ?_⟩ <;> try (exfalso; first | omega | exact absurd h (by decide) | exact h rfl)) | refine get_at gp ?_ | (refine ⟨(k + 1, _, _), ⟨?_, by (try dsimp only); omega⟩, [], ⟨⟨rfl, rfl⟩, ⟨⟨rfl, rfl⟩, ⟨⟨rfl, rfl⟩, ⟨⟨rfl, rfl⟩, trivial⟩⟩⟩⟩, ⟨⟨rfl, rfl, rfl⟩, trivial⟩, rfl, rfl, rfl⟩; (try dsimp only); exact ⟨by omega, rfl, hps⟩) | (refine ⟨by omega, fun r hrr => ?_⟩; (have hre : r = e1 (c : Int) := by (first | exact get_row hrr hw | fail)); subst hre) | refine ⟨⟨by omega, by omega⟩, ?_⟩ | refine ⟨⟨by omega, by (rw [List.length_set]; omega)⟩, ?_⟩ | fail)
      · rw [take_end hkT]
        repeat' ((conv => whnf); first | (refine ⟨fun h => ?_, fun h => ?_⟩ <;> try (exfalso; first | omega | exact absurd h (by decide) | exact h rfl)) | fail | fail)
        all_goals (refine ⟨[], rfl, trivial, ?_⟩; show leR _ (splT a ws); unfold splT; rw [if_pos hc, hc, hfin]; exact ⟨rfl, rfl, trivial⟩)
  · have hct : chkT a ws = .tup [I 0, I (chkF a ws)] := by unfold chkT; rw [if_neg hc]
    repeat' ((conv => whnf); first | (refine ⟨fun h => ?_, fun h => ?_⟩ <;> try (exfalso; first | omega | exact absurd h (by decide) | exact h rfl)) | (refine ⟨_, check_h, (a, ws), hx, leVs_of_eq rfl, .inl rfl, rfl, ?_⟩; show norm (chkT a ws) _; rw [hct]) | fail | fail)
    all_goals (refine ⟨[], rfl, trivial, ?_⟩; show leR _ (splT a ws); unfold splT; rw [if_neg hc]; exact ⟨rfl, rfl, trivial⟩)
theorem split_h : Holds Try.prog 11 splitS := holds_of mix Try.func11 splitLow (fun _ => rfl) splitV

end Go.Proofs.Ytepacknnggnifaa
