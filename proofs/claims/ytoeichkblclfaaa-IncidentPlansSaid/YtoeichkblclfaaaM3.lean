/- Plans: the reference's. -/
import Derived.Test.YtoeichkblclfaaaM2
namespace Go.Proofs.Ytoeichkblclfaaa
open Go.RowKit
theorem good_ref {c : Nat} {M : List (List Int)} (h : GoodM c M) : ∃ d, GoodR d M ∧ greedy d M 0 = greedy c M 0 := by
  cases M with
  | nil => exact ⟨0, ⟨⟨⟨Nat.le_refl _, Nat.zero_le _⟩, fun r hr => by cases hr⟩, fun _ => rfl⟩, rfl⟩
  | cons a b => exact ⟨c, ⟨h, fun e => by cases e⟩, rfl⟩

/-! skiarea/skiarearef57.Plan -/
def rplanIr : IFn := ⟨126, [.tmp 6, .tmp 7],
  (.seq (.ops [
    ⟨(some 3), .box, [.tmp 0], none⟩,
    ⟨(some 6), .mov, [.const (.slice none 0 0)], none⟩,
    ⟨(some 7), .mov, [.const (.int .i64 0)], none⟩] false)
  (.seq (.seq (.ops [
    ⟨(some 26), .mov, [.tmp 2], none⟩,
    ⟨(some 27), .len, [.tmp 26], none⟩,
    ⟨(some 28), .cmp .gtr, [.tmp 27, .const (.int .i64 8)], none⟩] false)
  (.cond (.tmp 28)
    (.seq (.ops [
      ⟨(some 6), .mov, [.const (.slice none 0 0)], none⟩,
      ⟨(some 7), .mov, [.const (.int .i64 4)], none⟩] false)
    .ret)
    .skip))
  (.seq (.ops [
    ⟨(some 29), .mov, [.tmp 1], none⟩,
    ⟨(some 30), .call 18, [.tmp 29], none⟩,
    ⟨(some 8), .mov, [.tmp 30], none⟩] false)
  (.seq (.ops [
    ⟨(some 31), .mov, [.tmp 2], none⟩,
    ⟨(some 32), .len, [.tmp 31], none⟩,
    ⟨(some 33), .mov, [.tmp 8], none⟩,
    ⟨(some 34), .len, [.tmp 33], none⟩,
    ⟨(some 35), .min, [.tmp 32, .tmp 34, .const (.int .i64 8)], none⟩,
    ⟨(some 9), .mov, [.tmp 35], none⟩] false)
  (.seq (.ops [
    ⟨(some 10), .nilOwn 33 1, [], none⟩] false)
  (.seq (.seq (.ops [
    ⟨(some 11), .mov, [.const (.int .i64 0)], none⟩] false)
  (.block 0
    (.loop
      (.seq (.seq (.ops [
        ⟨(some 36), .mov, [.tmp 11], none⟩,
        ⟨(some 37), .mov, [.tmp 9], none⟩,
        ⟨(some 38), .cmp .lss, [.tmp 36, .tmp 37], none⟩] false)
      (.cond (.tmp 38)
        .skip
        (.exit 0)))
      (.seq (.block 1
        (.seq (.ops [
          ⟨(some 12), .nilOwn 3 1, [], none⟩] false)
        (.seq (.seq (.ops [
          ⟨(some 13), .mov, [.const (.int .i64 0)], none⟩] false)
        (.block 2
          (.loop
            (.seq (.seq (.ops [
              ⟨(some 41), .mov, [.tmp 13], none⟩,
              ⟨(some 42), .mov, [.tmp 2], none⟩,
              ⟨(some 43), .len, [.tmp 42], none⟩,
              ⟨(some 44), .cmp .lss, [.tmp 41, .tmp 43], none⟩] false)
            (.cond (.tmp 44)
              .skip
              (.exit 2)))
            (.seq (.block 3
              (.ops [
                ⟨(some 47), .mov, [.tmp 12], none⟩,
                ⟨(some 48), .load 4 true, [.tmp 3], none⟩,
                ⟨(some 49), .mov, [.tmp 2], none⟩,
                ⟨(some 50), .mov, [.tmp 13], none⟩,
                ⟨(some 51), .idx 1, [.tmp 49, .tmp 50], none⟩,
                ⟨(some 52), .load 1 false, [.tmp 51], none⟩,
                ⟨(some 53), .mov, [.tmp 1], none⟩,
                ⟨(some 54), .mov, [.tmp 1], none⟩,
                ⟨(some 55), .mov, [.tmp 8], none⟩,
                ⟨(some 56), .mov, [.tmp 11], none⟩,
                ⟨(some 57), .idx 1, [.tmp 55, .tmp 56], none⟩,
                ⟨(some 58), .load 1 false, [.tmp 57], none⟩,
                ⟨(some 59), .call 19, [.tmp 54, .tmp 58], none⟩,
                ⟨(some 60), .idx 6, [.tmp 53, .tmp 59], none⟩,
                ⟨(some 61), .faddr 1, [.tmp 60], none⟩,
                ⟨(some 62), .load 1 false, [.tmp 61], none⟩,
                ⟨(some 63), .call 52, [.tmp 48, .tmp 52, .tmp 62], none⟩,
                ⟨(some 64), .buildSl 3 1, [.tmp 63], none⟩,
                ⟨(some 65), .append 3 1 8, [.tmp 47, .tmp 64], none⟩,
                ⟨(some 12), .mov, [.tmp 65], none⟩] true))
            (.ops [
              ⟨(some 45), .mov, [.tmp 13], none⟩,
              ⟨(some 46), .bin .add .i64 false, [.tmp 45, .const (.int .i64 1)], none⟩,
              ⟨(some 13), .mov, [.tmp 46], none⟩] false))))))
        (.seq (.sealc 12)
        (.ops [
          ⟨(some 66), .mov, [.tmp 10], none⟩,
          ⟨(some 67), .mov, [.tmp 12], none⟩,
          ⟨(some 68), .buildSl 33 1, [.tmp 67], none⟩,
          ⟨(some 69), .append 33 1 24, [.tmp 66, .tmp 68], none⟩,
          ⟨(some 10), .mov, [.tmp 69], none⟩] false)))))
      (.ops [
        ⟨(some 39), .mov, [.tmp 11], none⟩,
        ⟨(some 40), .bin .add .i64 false, [.tmp 39, .const (.int .i64 1)], none⟩,
        ⟨(some 11), .mov, [.tmp 40], none⟩] false))))))
  (.seq (.seq (.seq (.sealc 10)
  (.ops [
    ⟨(some 70), .mov, [.tmp 2], none⟩,
    ⟨(some 71), .len, [.tmp 70], none⟩,
    ⟨(some 72), .mov, [.tmp 9], none⟩,
    ⟨(some 73), .cmp .gtr, [.tmp 71, .tmp 72], none⟩] false))
  (.cond (.tmp 73)
    (.seq (.ops [
      ⟨(some 75), .mov, [.tmp 10], none⟩,
      ⟨(some 76), .call 53, [.tmp 75], none⟩,
      ⟨(some 74), .mov, [.tmp 76], none⟩,
      ⟨(some 77), .extract 0, [.tmp 74], none⟩,
      ⟨(some 78), .extract 1, [.tmp 74], none⟩,
      ⟨(some 79), .extract 2, [.tmp 74], none⟩,
      ⟨(some 14), .mov, [.tmp 77], none⟩,
      ⟨(some 15), .mov, [.tmp 78], none⟩,
      ⟨(some 16), .mov, [.tmp 79], none⟩] false)
    (.seq (.ops [
      ⟨(some 80), .mov, [.tmp 14], none⟩,
      ⟨(some 6), .mov, [.tmp 80], none⟩,
      ⟨(some 7), .mov, [.const (.int .i64 0)], none⟩] false)
    .ret))
    .skip))
  (.seq (.ops [
    ⟨(some 17), .nilOwn 33 1, [], none⟩] false)
  (.seq (.seq (.ops [
    ⟨(some 18), .mov, [.const (.int .i64 0)], none⟩] false)
  (.block 4
    (.loop
      (.seq (.seq (.ops [
        ⟨(some 81), .mov, [.tmp 18], none⟩,
        ⟨(some 82), .mov, [.tmp 9], none⟩,
        ⟨(some 83), .cmp .lss, [.tmp 81, .tmp 82], none⟩] false)
      (.cond (.tmp 83)
        .skip
        (.exit 4)))
      (.seq (.block 5
        (.seq (.ops [
          ⟨(some 19), .nilOwn 3 1, [], none⟩] false)
        (.seq (.seq (.ops [
          ⟨(some 20), .mov, [.const (.int .i64 0)], none⟩] false)
        (.block 6
          (.loop
            (.seq (.seq (.ops [
              ⟨(some 86), .mov, [.tmp 20], none⟩,
              ⟨(some 87), .mov, [.tmp 9], none⟩,
              ⟨(some 88), .cmp .lss, [.tmp 86, .tmp 87], none⟩] false)
            (.cond (.tmp 88)
              .skip
              (.exit 6)))
            (.seq (.block 7
              (.ops [
                ⟨(some 91), .mov, [.tmp 19], none⟩,
                ⟨(some 92), .mov, [.tmp 10], none⟩,
                ⟨(some 93), .mov, [.tmp 20], none⟩,
                ⟨(some 94), .idx 1, [.tmp 92, .tmp 93], none⟩,
                ⟨(some 95), .load 1 false, [.tmp 94], none⟩,
                ⟨(some 96), .mov, [.tmp 18], none⟩,
                ⟨(some 97), .idx 1, [.tmp 95, .tmp 96], none⟩,
                ⟨(some 98), .load 1 false, [.tmp 97], none⟩,
                ⟨(some 99), .buildSl 3 1, [.tmp 98], none⟩,
                ⟨(some 100), .append 3 1 8, [.tmp 91, .tmp 99], none⟩,
                ⟨(some 19), .mov, [.tmp 100], none⟩] false))
            (.ops [
              ⟨(some 89), .mov, [.tmp 20], none⟩,
              ⟨(some 90), .bin .add .i64 false, [.tmp 89, .const (.int .i64 1)], none⟩,
              ⟨(some 20), .mov, [.tmp 90], none⟩] false))))))
        (.seq (.sealc 19)
        (.ops [
          ⟨(some 101), .mov, [.tmp 17], none⟩,
          ⟨(some 102), .mov, [.tmp 19], none⟩,
          ⟨(some 103), .buildSl 33 1, [.tmp 102], none⟩,
          ⟨(some 104), .append 33 1 24, [.tmp 101, .tmp 103], none⟩,
          ⟨(some 17), .mov, [.tmp 104], none⟩] false)))))
      (.ops [
        ⟨(some 84), .mov, [.tmp 18], none⟩,
        ⟨(some 85), .bin .add .i64 false, [.tmp 84, .const (.int .i64 1)], none⟩,
        ⟨(some 18), .mov, [.tmp 85], none⟩] false))))))
  (.seq (.seq (.sealc 17)
  (.ops [
    ⟨(some 106), .mov, [.tmp 17], none⟩,
    ⟨(some 107), .call 53, [.tmp 106], none⟩,
    ⟨(some 105), .mov, [.tmp 107], none⟩,
    ⟨(some 108), .extract 0, [.tmp 105], none⟩,
    ⟨(some 109), .extract 1, [.tmp 105], none⟩,
    ⟨(some 110), .extract 2, [.tmp 105], none⟩,
    ⟨(some 21), .mov, [.tmp 108], none⟩,
    ⟨(some 22), .mov, [.tmp 109], none⟩,
    ⟨(some 23), .mov, [.tmp 110], none⟩] false))
  (.seq (.ops [
    ⟨(some 111), .mov, [.tmp 9], none⟩,
    ⟨(some 112), .mksl 3 1 8 [.int .i64 0], [.tmp 111, .tmp 111], none⟩,
    ⟨(some 24), .mov, [.tmp 112], none⟩] false)
  (.seq (.seq (.ops [
    ⟨(some 25), .mov, [.const (.int .i64 0)], none⟩] false)
  (.block 8
    (.loop
      (.seq (.seq (.ops [
        ⟨(some 113), .mov, [.tmp 25], none⟩,
        ⟨(some 114), .mov, [.tmp 9], none⟩,
        ⟨(some 115), .cmp .lss, [.tmp 113, .tmp 114], none⟩] false)
      (.cond (.tmp 115)
        .skip
        (.exit 8)))
      (.seq (.block 9
        (.ops [
          ⟨(some 118), .mov, [.tmp 24], none⟩,
          ⟨(some 119), .mov, [.tmp 21], none⟩,
          ⟨(some 120), .mov, [.tmp 25], none⟩,
          ⟨(some 121), .idx 1, [.tmp 119, .tmp 120], none⟩,
          ⟨(some 122), .load 1 false, [.tmp 121], none⟩,
          ⟨(some 123), .mov, [.tmp 25], none⟩,
          ⟨(some 124), .idx 1, [.tmp 118, .tmp 122], none⟩,
          ⟨none, .store 1, [.tmp 124, .tmp 123], none⟩] false))
      (.ops [
        ⟨(some 116), .mov, [.tmp 25], none⟩,
        ⟨(some 117), .bin .add .i64 false, [.tmp 116, .const (.int .i64 1)], none⟩,
        ⟨(some 25), .mov, [.tmp 117], none⟩] false))))))
  (.seq (.ops [
    ⟨(some 125), .mov, [.tmp 24], none⟩,
    ⟨(some 6), .mov, [.tmp 125], none⟩,
    ⟨(some 7), .mov, [.const (.int .i64 0)], none⟩] false)
  .ret)))))))))))))⟩
theorem rplanLow : lowF Try.prog { owns := [(10, 33), (12, 3), (17, 33), (19, 3)], seals := [(66, 12), (70, 10), (101, 19), (106, 17)] } Try.f22 = some rplanIr := by kernel_rfl
def rplanS : Spec := spec (Mp × List Inc × List Int) (fun p => [aM p.1, L 6 (p.2.1.map encI), L 1 (p.2.2.map e1)]) (fun p => MapOk p.1 ∧ IdsN p.2.1 ∧ p.2.1.length ≤ 1000000) (fun p => .tup [L 1 ((planF p.1 p.2.1 p.2.2).1.map e1), I (planF p.1 p.2.1 p.2.2).2])
set_option maxHeartbeats 4000000 in
theorem rplanV : fnV Try.prog rplanIr rplanS := by
  intro ⟨(m : Mp), (l : List Inc), (nodes : List Int)⟩ hx
  obtain ⟨hm, hid, hll⟩ : MapOk m ∧ IdsN l ∧ l.length ≤ 1000000 := hx
  have hl : (l.map encI).length = l.length := List.length_map ..
  have hln : (nodes.map e1).length = nodes.length := List.length_map ..
  show vc _ _ _ _ ⟨argEnv 0 [aM m, L 6 (l.map encI), L 1 (nodes.map e1)], [], 0⟩
  by_cases h8 : 8 < nodes.length
  · have hP : planF m l nodes = ([], 4) := if_pos h8
    repeat' ((conv => whnf); first | (refine ⟨fun h => ?_, fun h => ?_⟩ <;> try (exfalso; first | omega | exact absurd h (by decide) | exact h rfl | exact absurd (show true = false from h) (by decide) | exact absurd (show false = true from h) (by decide))) | fail | fail)
    refine ⟨[], rfl, trivial, ?_⟩
    show leR _ (.tup [L 1 ((planF m l nodes).1.map e1), I (planF m l nodes).2])
    rw [hP]
    exact ⟨rfl, leV_refl _, trivial⟩
  obtain ⟨U, hU⟩ : ∃ U, urgF l = U := ⟨_, rfl⟩
  obtain ⟨K, hK⟩ : ∃ K, kOf l nodes = K := ⟨_, rfl⟩
  have hK' : K = min nodes.length U.length := by rw [← hK]; unfold kOf; rw [hU]
  have hlu : (U.map e1).length = U.length := List.length_map ..
  obtain ⟨R, hR0⟩ : ∃ R, runsF l nodes = R := ⟨_, rfl⟩
  have hR : R = (U.take K).map (runId l) := by rw [← hR0]; unfold runsF; rw [hU, hK]
  have hRl : R.length = K := by rw [← hR0, runs_len, hK]
  have hq : (Min.min (Min.min ((nodes.map e1).length : Int) ((U.map e1).length : Int)) 8) = (K : Int) := by rw [hln, hlu]; omega
  repeat' ((conv => whnf); first | (refine ⟨fun h => ?_, fun h => ?_⟩ <;> try (exfalso; first | omega | exact absurd h (by decide) | exact h rfl | exact absurd (show true = false from h) (by decide) | exact absurd (show false = true from h) (by decide))) | (refine ⟨_, rurgent_h, l, ⟨hid, hll⟩, leVs_of_eq rfl, .inl rfl, rfl, ?_⟩; show norm (L 1 ((urgF l).map e1)) _; rw [hU]) | fail | fail)
  refine ⟨Nat × (List (List Int)) × Int, fun xq => ⟨[(1, L 6 (l.map encI)), (2, L 1 (nodes.map e1)), (3, .bp 0 0), (8, L 1 (U.map e1)), (9, I xq.2.2), (10, .osl 1), (11, I xq.1)], [(0, .box [L 2 (m.nodes.map encN), L 8 (m.lifts.map encL), L 7 (m.runs.map encU), L 1 (m.bases.map e1)]), (1, .row 33 1 ((xq.2.1).map encR))], 2⟩, fun xq => (xq.1 ≤ K ∧ xq.2.1 = matR m (R.take xq.1) nodes) ∧ xq.2.2 = (K : Int), fun xq => K - xq.1, ⟨(0, [], _), ?_, [], ⟨⟨rfl, rfl⟩, ⟨⟨rfl, rfl⟩, ⟨⟨rfl, rfl⟩, ⟨⟨rfl, rfl⟩, ⟨⟨rfl, rfl⟩, ⟨⟨rfl, rfl⟩, ⟨⟨rfl, rfl⟩, trivial⟩⟩⟩⟩⟩⟩⟩, ⟨⟨rfl, rfl, rfl⟩, ⟨⟨rfl, rfl, rfl⟩, trivial⟩⟩, rfl, rfl, rfl⟩, ?_⟩
  · (try dsimp only); exact ⟨⟨Nat.zero_le _, rfl⟩, hq⟩
  rintro ⟨i, E, q⟩ hk
  obtain ⟨⟨hi, hE⟩, rfl⟩ : (i ≤ K ∧ E = matR m (R.take i) nodes) ∧ q = (K : Int) := hk
  (try dsimp only)
  have hEl : E.length = i := by rw [hE]; unfold matR matF; rw [List.length_map, List.length_take]; omega
  by_cases hiK : i < K
  · obtain ⟨u, hu⟩ := getElem_some (show i < U.length by omega)
    obtain ⟨ix, x, hix, hx, _⟩ := urg_find (l := l) (i := u) (by rw [hU]; exact List.mem_of_getElem? hu)
    have hru := runId_at hix hx
    have hixl := (List.getElem?_eq_some_iff.1 hx).1
    have hRi : R[i]? = some x.run := by rw [hR, List.getElem?_map, List.getElem?_take, if_pos hiK, hu, ← hru]; rfl
    repeat' ((conv => whnf); first | (refine ⟨fun h => ?_, fun h => ?_⟩ <;> try (exfalso; first | omega | exact absurd h (by decide) | exact h rfl | exact absurd (show true = false from h) (by decide) | exact absurd (show false = true from h) (by decide))) | fail | fail)
    refine ⟨Nat × (List Int), fun xq => ⟨[(1, L 6 (l.map encI)), (2, L 1 (nodes.map e1)), (3, .bp 0 0), (8, L 1 (U.map e1)), (9, I (K : Int)), (10, .osl 1), (11, I i), (12, .osl 2), (13, I xq.1)], [(0, .box [L 2 (m.nodes.map encN), L 8 (m.lifts.map encL), L 7 (m.runs.map encU), L 1 (m.bases.map e1)]), (1, .row 33 1 (E.map encR)), (2, .row 3 1 ((xq.2).map e1))], 3⟩, fun xq => xq.1 ≤ nodes.length ∧ xq.2 = (nodes.take xq.1).map fun n => costF m n x.run, fun xq => nodes.length - xq.1, ⟨(0, []), ?_, [], ⟨⟨rfl, rfl⟩, ⟨⟨rfl, rfl⟩, ⟨⟨rfl, rfl⟩, ⟨⟨rfl, rfl⟩, ⟨⟨rfl, rfl⟩, ⟨⟨rfl, rfl⟩, ⟨⟨rfl, rfl⟩, ⟨⟨rfl, rfl⟩, ⟨⟨rfl, rfl⟩, trivial⟩⟩⟩⟩⟩⟩⟩⟩⟩, ⟨⟨rfl, rfl, rfl⟩, ⟨⟨rfl, rfl, rfl⟩, ⟨⟨rfl, rfl, rfl⟩, trivial⟩⟩⟩, rfl, rfl, rfl⟩, ?_⟩
    · (try dsimp only); exact ⟨Nat.zero_le _, rfl⟩
    rintro ⟨j, G⟩ hk
    obtain ⟨hj, hG⟩ : j ≤ nodes.length ∧ G = (nodes.take j).map fun n => costF m n x.run := hk
    (try dsimp only)
    have hGl : G.length ≤ 1000 := by rw [hG, List.length_map, List.length_take]; omega
    by_cases hjl : j < nodes.length
    · obtain ⟨n, hn⟩ := getElem_some hjl
      have hst : G ++ [costF m n x.run] = (nodes.take (j + 1)).map fun n => costF m n x.run := by rw [take_snoc _ j n hn, List.map_append, ← hG]; rfl
      have hap : (G.map e1) ++ [[CV.int .i64 (costF m n x.run)]] = (G ++ [costF m n x.run]).map e1 := (List.map_append (f := e1) (l₁ := G) (l₂ := [costF m n x.run])).symm
      repeat' ((conv => whnf); first | (refine ⟨fun h => ?_, fun h => ?_⟩ <;> try (exfalso; first | omega | exact absurd h (by decide) | exact h rfl | exact absurd (show true = false from h) (by decide) | exact absurd (show false = true from h) (by decide))) | (refine ⟨by omega, fun r2 hrr => ?_⟩; first | ((have hre : r2 = e1 n := by (first | exact get_row hrr hn | fail)); subst hre) | ((have hre : r2 = e1 u := by (first | exact get_row hrr hu | fail)); subst hre) | ((have hre : r2 = encI x := by (first | exact get_row hrr hx | fail)); subst hre)) | (refine ⟨_, rfind_h, (l, u), (by show l.length ≤ 9223372036854775807; omega), leVs_of_eq rfl, .inl rfl, rfl, ?_⟩; show norm (I (ixF (idB u) l)) _; rw [hix]) | (refine ⟨_, rcost_h, (m, n, x.run), hm, leVs_of_eq rfl, .inl rfl, rfl, ?_⟩; show norm (I (costF m n x.run)) _) | (refine ⟨(j + 1, G ++ [costF m n x.run]), ⟨?_, by (try dsimp only); omega⟩, [(2, 3)], ⟨⟨rfl, rfl⟩, ⟨⟨rfl, rfl⟩, ⟨⟨rfl, rfl⟩, ⟨⟨rfl, rfl⟩, ⟨⟨rfl, rfl⟩, ⟨⟨rfl, rfl⟩, ⟨⟨rfl, rfl⟩, ⟨⟨rfl, rfl⟩, ⟨⟨rfl, rfl⟩, trivial⟩⟩⟩⟩⟩⟩⟩⟩⟩, ⟨⟨rfl, rfl, rfl⟩, ⟨⟨rfl, rfl, rfl⟩, ⟨⟨congrArg (fun es => some (Ob.row 3 1 es)) hap, rfl, rfl⟩, trivial⟩⟩⟩, rfl, rfl, rfl⟩; (try dsimp only); exact ⟨by omega, hst⟩) | (refine And.intro (And.intro (by simp; omega) (by simp; omega)) ?_) | (refine And.intro (And.intro (by omega) (by omega)) ?_) | fail | fail)
    · rw [take_end hjl] at hG
      have hst : E ++ [G] = matR m (R.take (i + 1)) nodes := by unfold matR matF; rw [take_snoc R i x.run hRi, List.map_append, hE, hG]; rfl
      have hap : (E.map encR) ++ [[CV.sl 1 (G.map e1)]] = (E ++ [G]).map encR := (List.map_append (f := encR) (l₁ := E) (l₂ := [G])).symm
      repeat' ((conv => whnf); first | (refine ⟨fun h => ?_, fun h => ?_⟩ <;> try (exfalso; first | omega | exact absurd h (by decide) | exact h rfl | exact absurd (show true = false from h) (by decide) | exact absurd (show false = true from h) (by decide))) | (refine ⟨(i + 1, E ++ [G], _), ⟨?_, by (try dsimp only); omega⟩, [(1, 3)], ⟨⟨rfl, rfl⟩, ⟨⟨rfl, rfl⟩, ⟨⟨rfl, rfl⟩, ⟨⟨rfl, rfl⟩, ⟨⟨rfl, rfl⟩, ⟨⟨rfl, rfl⟩, ⟨⟨rfl, rfl⟩, trivial⟩⟩⟩⟩⟩⟩⟩, ⟨⟨rfl, rfl, rfl⟩, ⟨⟨congrArg (fun es => some (Ob.row 33 1 es)) hap, rfl, rfl⟩, trivial⟩⟩, rfl, rfl, rfl⟩; (try dsimp only); exact ⟨⟨by omega, hst⟩, rfl⟩) | (refine And.intro (And.intro (by simp; omega) (by simp; omega)) ?_) | (refine And.intro (And.intro (by omega) (by omega)) ?_) | fail | fail)
  · have hiK' : i = K := by omega
    subst hiK'
    rw [List.take_of_length_le (by omega)] at hE
    by_cases hkn : i < nodes.length
    · have hP : planF m l nodes = (greedy nodes.length E 0, 0) := by unfold planF; rw [if_neg h8, hK, if_pos hkn, hR0, hE]
      have hgood : GoodM nodes.length E := by rw [hE]; exact matR_good hm (by omega) (by omega)
      obtain ⟨d, hgR, hd⟩ := good_ref hgood
      obtain ⟨G, hG⟩ : ∃ G, greedy nodes.length E 0 = G := ⟨_, rfl⟩
      repeat' ((conv => whnf); first | (refine ⟨fun h => ?_, fun h => ?_⟩ <;> try (exfalso; first | omega | exact absurd h (by decide) | exact h rfl | exact absurd (show true = false from h) (by decide) | exact absurd (show false = true from h) (by decide))) | (refine ⟨_, rasg_h, (d, E), hgR, leVs_of_eq rfl, .inl rfl, rfl, ?_⟩; show norm (.tup [L 1 ((greedy (d) (E) 0).map e1), I (minF (d) (E) 0), I 0]) _; rw [hd, hG]) | fail | fail)
      refine ⟨[], rfl, trivial, ?_⟩
      show leR _ (.tup [L 1 ((planF m l nodes).1.map e1), I (planF m l nodes).2])
      rw [hP, hG]
      exact ⟨leV_refl _, leV_refl _, trivial⟩
    · have hin : i = nodes.length := by omega
      subst hE
      repeat' ((conv => whnf); first | (refine ⟨fun h => ?_, fun h => ?_⟩ <;> try (exfalso; first | omega | exact absurd h (by decide) | exact h rfl | exact absurd (show true = false from h) (by decide) | exact absurd (show false = true from h) (by decide))) | fail | fail)
      refine ⟨Nat × (List (List Int)), fun xq => ⟨[(9, I (i : Int)), (10, L 1 ((matR m R nodes).map encR)), (17, .osl 2), (18, I xq.1)], [(2, .row 33 1 ((xq.2).map encR))], 3⟩, fun xq => xq.1 ≤ nodes.length ∧ xq.2 = matN m (nodes.take xq.1) R, fun xq => nodes.length - xq.1, ⟨(0, []), ?_, [], ⟨⟨rfl, rfl⟩, ⟨⟨rfl, rfl⟩, ⟨⟨rfl, rfl⟩, ⟨⟨rfl, rfl⟩, trivial⟩⟩⟩⟩, ⟨⟨rfl, rfl, rfl⟩, trivial⟩, rfl, rfl, rfl⟩, ?_⟩
      · (try dsimp only); exact ⟨Nat.zero_le _, rfl⟩
      rintro ⟨j, F⟩ hk
      obtain ⟨hj, hF⟩ : j ≤ nodes.length ∧ F = matN m (nodes.take j) R := hk
      (try dsimp only)
      have hFl : F.length = j := by rw [hF]; unfold matN matF; rw [List.length_map, List.length_take]; omega
      by_cases hjl : j < nodes.length
      · obtain ⟨n, hn⟩ := getElem_some hjl
        repeat' ((conv => whnf); first | (refine ⟨fun h => ?_, fun h => ?_⟩ <;> try (exfalso; first | omega | exact absurd h (by decide) | exact h rfl | exact absurd (show true = false from h) (by decide) | exact absurd (show false = true from h) (by decide))) | fail | fail)
        refine ⟨Nat × (List Int), fun xq => ⟨[(9, I (i : Int)), (10, L 1 ((matR m R nodes).map encR)), (17, .osl 2), (18, I j), (19, .osl 3), (20, I xq.1)], [(2, .row 33 1 (F.map encR)), (3, .row 3 1 ((xq.2).map e1))], 4⟩, fun xq => xq.1 ≤ R.length ∧ xq.2 = (R.take xq.1).map fun r => costF m n r, fun xq => R.length - xq.1, ⟨(0, []), ?_, [], ⟨⟨rfl, rfl⟩, ⟨⟨rfl, rfl⟩, ⟨⟨rfl, rfl⟩, ⟨⟨rfl, rfl⟩, ⟨⟨rfl, rfl⟩, ⟨⟨rfl, rfl⟩, trivial⟩⟩⟩⟩⟩⟩, ⟨⟨rfl, rfl, rfl⟩, ⟨⟨rfl, rfl, rfl⟩, trivial⟩⟩, rfl, rfl, rfl⟩, ?_⟩
        · (try dsimp only); exact ⟨Nat.zero_le _, rfl⟩
        rintro ⟨a, H⟩ hk
        obtain ⟨ha, hH⟩ : a ≤ R.length ∧ H = (R.take a).map fun r => costF m n r := hk
        (try dsimp only)
        have hHl : H.length ≤ 1000 := by rw [hH, List.length_map, List.length_take]; omega
        by_cases hal : a < R.length
        · obtain ⟨r, hr⟩ := getElem_some hal
          obtain ⟨row, hrow0⟩ : ∃ row, (nodes.map fun n => costF m n r) = row := ⟨_, rfl⟩
          have hrow : (matR m R nodes)[a]? = some row := by unfold matR matF; rw [List.getElem?_map, hr, ← hrow0]; rfl
          have hcell : row[j]? = some (costF m n r) := by rw [← hrow0, List.getElem?_map, hn]; rfl
          have hml : ((matR m R nodes).map encR).length = R.length := by unfold matR matF; rw [List.length_map, List.length_map]
          have hrwl : (row.map e1).length = nodes.length := by rw [← hrow0, List.length_map, List.length_map]
          have hst : H ++ [costF m n r] = (R.take (a + 1)).map fun r => costF m n r := by rw [take_snoc _ a r hr, List.map_append, ← hH]; rfl
          have hap : (H.map e1) ++ [[CV.int .i64 (costF m n r)]] = (H ++ [costF m n r]).map e1 := (List.map_append (f := e1) (l₁ := H) (l₂ := [costF m n r])).symm
          repeat' ((conv => whnf); first | (refine ⟨fun h => ?_, fun h => ?_⟩ <;> try (exfalso; first | omega | exact absurd h (by decide) | exact h rfl | exact absurd (show true = false from h) (by decide) | exact absurd (show false = true from h) (by decide))) | (refine ⟨by omega, fun r2 hrr => ?_⟩; first | ((have hre : r2 = encR row := by (first | exact get_row hrr hrow | fail)); subst hre) | ((have hre : r2 = e1 (costF m n r) := by (first | exact get_row hrr hcell | fail)); subst hre)) | (refine ⟨(a + 1, H ++ [costF m n r]), ⟨?_, by (try dsimp only); omega⟩, [(3, 4)], ⟨⟨rfl, rfl⟩, ⟨⟨rfl, rfl⟩, ⟨⟨rfl, rfl⟩, ⟨⟨rfl, rfl⟩, ⟨⟨rfl, rfl⟩, ⟨⟨rfl, rfl⟩, trivial⟩⟩⟩⟩⟩⟩, ⟨⟨rfl, rfl, rfl⟩, ⟨⟨congrArg (fun es => some (Ob.row 3 1 es)) hap, rfl, rfl⟩, trivial⟩⟩, rfl, rfl, rfl⟩; (try dsimp only); exact ⟨by omega, hst⟩) | (refine And.intro (And.intro (by simp; omega) (by simp; omega)) ?_) | (refine And.intro (And.intro (by omega) (by omega)) ?_) | fail | fail)
        · rw [take_end hal] at hH
          have hst : F ++ [H] = matN m (nodes.take (j + 1)) R := by unfold matN matF; rw [take_snoc _ j n hn, List.map_append, hF, hH]; rfl
          have hap : (F.map encR) ++ [[CV.sl 1 (H.map e1)]] = (F ++ [H]).map encR := (List.map_append (f := encR) (l₁ := F) (l₂ := [H])).symm
          repeat' ((conv => whnf); first | (refine ⟨fun h => ?_, fun h => ?_⟩ <;> try (exfalso; first | omega | exact absurd h (by decide) | exact h rfl | exact absurd (show true = false from h) (by decide) | exact absurd (show false = true from h) (by decide))) | (refine ⟨(j + 1, F ++ [H]), ⟨?_, by (try dsimp only); omega⟩, [(2, 4)], ⟨⟨rfl, rfl⟩, ⟨⟨rfl, rfl⟩, ⟨⟨rfl, rfl⟩, ⟨⟨rfl, rfl⟩, trivial⟩⟩⟩⟩, ⟨⟨congrArg (fun es => some (Ob.row 33 1 es)) hap, rfl, rfl⟩, trivial⟩, rfl, rfl, rfl⟩; (try dsimp only); exact ⟨by omega, hst⟩) | (refine And.intro (And.intro (by simp; omega) (by simp; omega)) ?_) | (refine And.intro (And.intro (by omega) (by omega)) ?_) | fail | fail)
      · rw [take_end hjl] at hF
        have hP : planF m l nodes = (fillT (greedy i F 0) i i, 0) := by unfold planF; rw [if_neg h8, hK, if_neg hkn, hR0, hF]
        have hgood : GoodM i F := by rw [hF, ← hRl]; exact matN_good hm (by omega) (by omega)
        obtain ⟨d, hgR, hd⟩ := good_ref hgood
        obtain ⟨⟨hg1, _⟩, hg2⟩ := good_greedy hgood
        obtain ⟨B, hB⟩ : ∃ B, greedy i F 0 = B := ⟨_, rfl⟩
        rw [hB] at hg1 hg2 hP
        have hBl : (B.map e1).length = i := by rw [List.length_map, hg1]; omega
        repeat' ((conv => whnf); first | (refine ⟨fun h => ?_, fun h => ?_⟩ <;> try (exfalso; first | omega | exact absurd h (by decide) | exact h rfl | exact absurd (show true = false from h) (by decide) | exact absurd (show false = true from h) (by decide))) | (refine ⟨_, rasg_h, (d, F), hgR, leVs_of_eq rfl, .inl rfl, rfl, ?_⟩; show norm (.tup [L 1 ((greedy (d) (F) 0).map e1), I (minF (d) (F) 0), I 0]) _; rw [hd, hB]) | (refine And.intro (And.intro (by omega) (And.intro (by omega) (And.intro (by omega) (by omega)))) ?_) | fail | fail)
        refine ⟨Nat × (List (List CV)), fun xq => ⟨[(9, I (i : Int)), (21, L 1 (B.map e1)), (24, .osl 3), (25, I xq.1)], [(3, .row 3 1 xq.2)], 4⟩, fun xq => xq.1 ≤ i ∧ xq.2 = (fillT B i xq.1).map e1, fun xq => i - xq.1, ⟨(0, _), ?_, [], ⟨⟨rfl, rfl⟩, ⟨⟨rfl, rfl⟩, ⟨⟨rfl, rfl⟩, ⟨⟨rfl, rfl⟩, trivial⟩⟩⟩⟩, ⟨⟨rfl, rfl, rfl⟩, trivial⟩, rfl, rfl, rfl⟩, ?_⟩
        · (try dsimp only); exact ⟨Nat.zero_le _, by rw [Int.toNat_natCast]; simp [fillT]⟩
        rintro ⟨t, es⟩ hk
        obtain ⟨ht, hes⟩ : t ≤ i ∧ es = (fillT B i t).map e1 := hk
        (try dsimp only)
        have hel : es.length = i := by rw [hes, List.length_map, fillT_len]
        by_cases hti : t < i
        · obtain ⟨b, hb⟩ := getElem_some (show t < B.length by rw [List.length_map] at hBl; omega)
          obtain ⟨hb0, hb1⟩ := hg2 b (List.mem_of_getElem? hb)
          obtain ⟨r0, hget⟩ := getElem_some (show b.toNat < es.length by omega)
          have hgr : ∃ z, r0 = [z] := by rw [hes] at hget; obtain ⟨z, _, rfl⟩ := map_get hget; exact ⟨_, rfl⟩
          obtain ⟨z, rfl⟩ := hgr
          have hst : es.set b.toNat [CV.int .i64 (t : Int)] = (fillT B i (t + 1)).map e1 := by rw [hes, fillT, List.getD_eq_getElem?_getD, hb, List.map_set]; rfl
          repeat' ((conv => whnf); first | (refine ⟨fun h => ?_, fun h => ?_⟩ <;> try (exfalso; first | omega | exact absurd h (by decide) | exact h rfl | exact absurd (show true = false from h) (by decide) | exact absurd (show false = true from h) (by decide))) | (refine ⟨by omega, fun r2 hrr => ?_⟩; first | ((have hre : r2 = e1 b := by (first | exact get_row hrr hb | fail)); subst hre)) | refine get_at hget ?_ | (refine ⟨(t + 1, _), ⟨?_, by (try dsimp only); omega⟩, [], ⟨⟨rfl, rfl⟩, ⟨⟨rfl, rfl⟩, ⟨⟨rfl, rfl⟩, ⟨⟨rfl, rfl⟩, trivial⟩⟩⟩⟩, ⟨⟨rfl, rfl, rfl⟩, trivial⟩, rfl, rfl, rfl⟩; (try dsimp only); exact ⟨by omega, hst⟩) | (refine And.intro (And.intro (by omega) (by omega)) ?_) | fail | fail)
        · have hti' : t = i := by omega
          subst hti'
          repeat' ((conv => whnf); first | (refine ⟨fun h => ?_, fun h => ?_⟩ <;> try (exfalso; first | omega | exact absurd h (by decide) | exact h rfl | exact absurd (show true = false from h) (by decide) | exact absurd (show false = true from h) (by decide))) | fail | fail)
          refine ⟨[], rfl, trivial, ?_⟩
          show leR _ (.tup [L 1 ((planF m l nodes).1.map e1), I (planF m l nodes).2])
          rw [hP]
          refine ⟨?_, leV_refl _, trivial⟩
          show leV (L 1 es) (L 1 ((fillT B t t).map e1))
          rw [hes]; exact leV_refl _
theorem rplan_h : Holds Try.prog 22 rplanS := holds_of mix Try.func22 rplanLow (fun _ => rfl) rplanV

end Go.Proofs.Ytoeichkblclfaaa
