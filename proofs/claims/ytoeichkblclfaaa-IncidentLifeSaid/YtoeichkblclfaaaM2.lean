/- Plans: the program's. -/
import Derived.Test.YtoeichkblclfaaaM1
namespace Go.Proofs.Ytoeichkblclfaaa
open Go.RowKit

/-! skiarea/incident.Plan -/
def planIr : IFn := ⟨93, [.tmp 6, .tmp 7],
  (.seq (.ops [
    ⟨(some 3), .box, [.tmp 0], none⟩,
    ⟨(some 6), .mov, [.const (.slice none 0 0)], none⟩,
    ⟨(some 7), .mov, [.const (.int .i64 0)], none⟩] false)
  (.seq (.seq (.seq (.sealc 3)
  (.ops [
    ⟨(some 22), .mov, [.tmp 2], none⟩,
    ⟨(some 23), .len, [.tmp 22], none⟩,
    ⟨(some 24), .cmp .gtr, [.tmp 23, .const (.int .i64 8)], none⟩] false))
  (.cond (.tmp 24)
    (.seq (.ops [
      ⟨(some 6), .mov, [.const (.slice none 0 0)], none⟩,
      ⟨(some 7), .mov, [.const (.int .i64 4)], none⟩] false)
    .ret)
    .skip))
  (.seq (.ops [
    ⟨(some 25), .mov, [.tmp 1], none⟩,
    ⟨(some 26), .call 16, [.tmp 25], none⟩,
    ⟨(some 8), .mov, [.tmp 26], none⟩] false)
  (.seq (.ops [
    ⟨(some 27), .mov, [.tmp 2], none⟩,
    ⟨(some 28), .len, [.tmp 27], none⟩,
    ⟨(some 29), .mov, [.tmp 8], none⟩,
    ⟨(some 30), .len, [.tmp 29], none⟩,
    ⟨(some 31), .min, [.tmp 28, .tmp 30], none⟩,
    ⟨(some 9), .mov, [.tmp 31], none⟩] false)
  (.seq (.ops [
    ⟨(some 10), .nilOwn 3 1, [], none⟩] false)
  (.seq (.seq (.ops [
    ⟨(some 32), .mov, [.tmp 8], none⟩,
    ⟨(some 33), .mov, [.tmp 9], none⟩,
    ⟨(some 34), .slice 1 false true, [.tmp 32, .tmp 33], none⟩,
    ⟨(some 35), .len, [.tmp 34], none⟩,
    ⟨(some 36), .mov, [.const (.int .i64 0)], none⟩] false)
  (.block 0
    (.loop
      (.seq (.ops [
        ⟨(some 37), .cmp .lss, [.tmp 36, .tmp 35], none⟩] false)
      (.seq (.cond (.tmp 37)
        .skip
        (.exit 0))
      (.seq (.block 1
        (.seq (.ops [
          ⟨(some 38), .idx 1, [.tmp 34, .tmp 36], none⟩,
          ⟨(some 39), .load 1 false, [.tmp 38], none⟩,
          ⟨(some 12), .mov, [.tmp 39], none⟩] false)
        (.ops [
          ⟨(some 40), .mov, [.tmp 10], none⟩,
          ⟨(some 41), .mov, [.tmp 1], none⟩,
          ⟨(some 42), .mov, [.tmp 1], none⟩,
          ⟨(some 43), .mov, [.tmp 12], none⟩,
          ⟨(some 44), .call 30, [.tmp 42, .tmp 43], none⟩,
          ⟨(some 45), .idx 6, [.tmp 41, .tmp 44], none⟩,
          ⟨(some 46), .faddr 1, [.tmp 45], none⟩,
          ⟨(some 47), .load 1 false, [.tmp 46], none⟩,
          ⟨(some 48), .buildSl 3 1, [.tmp 47], none⟩,
          ⟨(some 49), .append 3 1 8, [.tmp 40, .tmp 48], none⟩,
          ⟨(some 10), .mov, [.tmp 49], none⟩] false)))
      (.ops [
        ⟨(some 50), .bin .add .i64 false, [.tmp 36, .const (.int .i64 1)], none⟩,
        ⟨(some 36), .mov, [.tmp 50], none⟩] false)))))))
  (.seq (.seq (.seq (.sealc 10)
  (.ops [
    ⟨(some 51), .mov, [.tmp 2], none⟩,
    ⟨(some 52), .len, [.tmp 51], none⟩,
    ⟨(some 53), .mov, [.tmp 9], none⟩,
    ⟨(some 54), .cmp .gtr, [.tmp 52, .tmp 53], none⟩] false))
  (.cond (.tmp 54)
    (.seq (.ops [
      ⟨(some 56), .mov, [.tmp 10], none⟩,
      ⟨(some 57), .mov, [.tmp 2], none⟩,
      ⟨(some 58), .fn 49, [.tmp 3], none⟩,
      ⟨(some 59), .call 48, [.tmp 56, .tmp 57, .tmp 58], none⟩,
      ⟨(some 60), .call 47, [.tmp 59], none⟩,
      ⟨(some 55), .mov, [.tmp 60], none⟩,
      ⟨(some 61), .extract 0, [.tmp 55], none⟩,
      ⟨(some 62), .extract 1, [.tmp 55], none⟩,
      ⟨(some 63), .extract 2, [.tmp 55], none⟩,
      ⟨(some 13), .mov, [.tmp 61], none⟩,
      ⟨(some 14), .mov, [.tmp 62], none⟩,
      ⟨(some 15), .mov, [.tmp 63], none⟩] false)
    (.seq (.ops [
      ⟨(some 64), .mov, [.tmp 13], none⟩,
      ⟨(some 65), .mov, [.tmp 15], none⟩,
      ⟨(some 6), .mov, [.tmp 64], none⟩,
      ⟨(some 7), .mov, [.tmp 65], none⟩] false)
    .ret))
    .skip))
  (.seq (.ops [
    ⟨(some 67), .mov, [.tmp 2], none⟩,
    ⟨(some 68), .mov, [.tmp 10], none⟩,
    ⟨(some 69), .fn 51, [.tmp 3], none⟩,
    ⟨(some 70), .call 48, [.tmp 67, .tmp 68, .tmp 69], none⟩,
    ⟨(some 71), .call 47, [.tmp 70], none⟩,
    ⟨(some 66), .mov, [.tmp 71], none⟩,
    ⟨(some 72), .extract 0, [.tmp 66], none⟩,
    ⟨(some 73), .extract 1, [.tmp 66], none⟩,
    ⟨(some 74), .extract 2, [.tmp 66], none⟩,
    ⟨(some 16), .mov, [.tmp 72], none⟩,
    ⟨(some 17), .mov, [.tmp 73], none⟩,
    ⟨(some 18), .mov, [.tmp 74], none⟩] false)
  (.seq (.seq (.ops [
    ⟨(some 75), .mov, [.tmp 18], none⟩,
    ⟨(some 76), .cmp .neq, [.tmp 75, .const (.int .i64 0)], none⟩] false)
  (.cond (.tmp 76)
    (.seq (.ops [
      ⟨(some 77), .mov, [.tmp 18], none⟩,
      ⟨(some 6), .mov, [.const (.slice none 0 0)], none⟩,
      ⟨(some 7), .mov, [.tmp 77], none⟩] false)
    .ret)
    .skip))
  (.seq (.ops [
    ⟨(some 78), .mov, [.tmp 9], none⟩,
    ⟨(some 79), .mksl 3 1 8 [.int .i64 0], [.tmp 78, .tmp 78], none⟩,
    ⟨(some 19), .mov, [.tmp 79], none⟩] false)
  (.seq (.seq (.ops [
    ⟨(some 80), .mov, [.tmp 16], none⟩,
    ⟨(some 81), .len, [.tmp 80], none⟩,
    ⟨(some 82), .mov, [.const (.int .i64 0)], none⟩] false)
  (.block 2
    (.loop
      (.seq (.ops [
        ⟨(some 83), .cmp .lss, [.tmp 82, .tmp 81], none⟩] false)
      (.seq (.cond (.tmp 83)
        .skip
        (.exit 2))
      (.seq (.block 3
        (.seq (.ops [
          ⟨(some 84), .mov, [.tmp 82], none⟩,
          ⟨(some 85), .idx 1, [.tmp 80, .tmp 82], none⟩,
          ⟨(some 86), .load 1 false, [.tmp 85], none⟩,
          ⟨(some 20), .mov, [.tmp 84], none⟩,
          ⟨(some 21), .mov, [.tmp 86], none⟩] false)
        (.ops [
          ⟨(some 87), .mov, [.tmp 19], none⟩,
          ⟨(some 88), .mov, [.tmp 21], none⟩,
          ⟨(some 89), .mov, [.tmp 20], none⟩,
          ⟨(some 90), .idx 1, [.tmp 87, .tmp 88], none⟩,
          ⟨none, .store 1, [.tmp 90, .tmp 89], none⟩] false)))
      (.ops [
        ⟨(some 91), .bin .add .i64 false, [.tmp 82, .const (.int .i64 1)], none⟩,
        ⟨(some 82), .mov, [.tmp 91], none⟩] false)))))))
  (.seq (.ops [
    ⟨(some 92), .mov, [.tmp 19], none⟩,
    ⟨(some 6), .mov, [.tmp 92], none⟩,
    ⟨(some 7), .mov, [.const (.int .i64 0)], none⟩] false)
  .ret))))))))))))⟩
theorem planLow : lowF Try.prog { owns := [(10, 3)], seals := [(22, 3), (51, 10)] } Try.f21 = some planIr := by kernel_rfl
def planS : Spec := spec (Mp × List Inc × List Int) (fun p => [aM p.1, L 6 (p.2.1.map encI), L 1 (p.2.2.map e1)]) (fun p => MapOk p.1 ∧ IdsN p.2.1 ∧ p.2.1.length ≤ 1000000) (fun p => .tup [L 1 ((planF p.1 p.2.1 p.2.2).1.map e1), I (planF p.1 p.2.1 p.2.2).2])
set_option maxHeartbeats 4000000 in
theorem planV : fnV Try.prog planIr planS := by
  intro ⟨(m : Mp), (l : List Inc), (nodes : List Int)⟩ hx
  obtain ⟨hm, hid, hll⟩ : MapOk m ∧ IdsN l ∧ l.length ≤ 1000000 := hx
  have hl : (l.map encI).length = l.length := List.length_map ..
  have hln : (nodes.map e1).length = nodes.length := List.length_map ..
  show vc _ _ _ _ ⟨argEnv 0 [aM m, L 6 (l.map encI), L 1 (nodes.map e1)], [], 0⟩
  by_cases h8 : 8 < nodes.length
  · have hP : planF m l nodes = ([], 4) := if_pos h8
    repeat' ((conv => whnf); first | (refine ⟨fun h => ?_, fun h => ?_⟩ <;> try (exfalso; first | omega | exact absurd h (by decide) | exact h rfl | exact absurd (show true = false from h) (by decide) | exact absurd (show false = true from h) (by decide))) | fail | fail)
    refine ⟨[], rfl, trivial, ?_⟩
    show leR _ (.tup [L 1 ((planF m l nodes).1.map e1), I (planF m l nodes).2])
    rw [hP]
    exact ⟨rfl, leV_refl _, trivial⟩
  obtain ⟨U, hU⟩ : ∃ U, urgF l = U := ⟨_, rfl⟩
  obtain ⟨K, hK⟩ : ∃ K, kOf l nodes = K := ⟨_, rfl⟩
  have hK' : K = min nodes.length U.length := by rw [← hK]; unfold kOf; rw [hU]
  have hlu : (U.map e1).length = U.length := List.length_map ..
  have hR : runsF l nodes = (U.take K).map (runId l) := by unfold runsF; rw [hU, hK]
  have hRl : (runsF l nodes).length = K := by rw [runs_len, hK]
  have hq : (Min.min ((nodes.map e1).length : Int) ((U.map e1).length : Int)) = (K : Int) := by rw [hln, hlu]; omega
  repeat' ((conv => whnf); first | (refine ⟨fun h => ?_, fun h => ?_⟩ <;> try (exfalso; first | omega | exact absurd h (by decide) | exact h rfl | exact absurd (show true = false from h) (by decide) | exact absurd (show false = true from h) (by decide))) | (refine ⟨_, urgent_h, l, ⟨hid, hll⟩, leVs_of_eq rfl, .inl rfl, rfl, ?_⟩; show norm (L 1 ((urgF l).map e1)) _; rw [hU]) | (refine And.intro ⟨by omega, by omega, by omega⟩ ?_) | fail | fail)
  refine ⟨Nat × (List Int) × Int × (List (List CV)), fun xq => ⟨[(1, L 6 (l.map encI)), (2, L 1 (nodes.map e1)), (3, .rp (cellsM m)), (9, I xq.2.2.1), (10, .osl 1), (34, .c (.sl 1 xq.2.2.2)), (35, I (xq.2.2.2).length), (36, I xq.1)], [(1, .row 3 1 ((xq.2.1).map e1))], 2⟩, fun xq => ((xq.1 ≤ K ∧ xq.2.1 = ((U.take K).take xq.1).map (runId l)) ∧ xq.2.2.1 = (K : Int)) ∧ xq.2.2.2 = (U.take K).map e1, fun xq => K - xq.1, ⟨(0, [], _, _), ?_, [], ⟨⟨rfl, rfl⟩, ⟨⟨rfl, rfl⟩, ⟨⟨rfl, rfl⟩, ⟨⟨rfl, rfl⟩, ⟨⟨rfl, rfl⟩, ⟨⟨rfl, rfl⟩, ⟨⟨rfl, rfl⟩, ⟨⟨rfl, rfl⟩, trivial⟩⟩⟩⟩⟩⟩⟩⟩, ⟨⟨rfl, rfl, rfl⟩, trivial⟩, rfl, rfl, rfl⟩, ?_⟩
  · (try dsimp only); exact ⟨⟨⟨Nat.zero_le _, rfl⟩, hq⟩, by rw [hq]; simp [List.map_take]⟩
  rintro ⟨i, r, q, vs⟩ hk
  obtain ⟨⟨⟨hi, hr⟩, rfl⟩, rfl⟩ : ((i ≤ K ∧ r = ((U.take K).take i).map (runId l)) ∧ q = (K : Int)) ∧ vs = (U.take K).map e1 := hk
  (try dsimp only)
  have hUl : ((U.take K).map e1).length = K := by rw [List.length_map, List.length_take]; omega
  have hrl : r.length = i := by rw [hr, List.length_map, List.length_take, List.length_take]; omega
  by_cases hiK : i < K
  · obtain ⟨u, hu⟩ := getElem_some (show i < (U.take K).length by rw [List.length_take]; omega)
    obtain ⟨j, x, hix, hx, _⟩ := urg_find (l := l) (i := u) (by rw [hU]; exact List.mem_of_mem_take (List.mem_of_getElem? hu))
    have hru := runId_at hix hx
    have hjl := (List.getElem?_eq_some_iff.1 hx).1
    have hst : r ++ [x.run] = ((U.take K).take (i + 1)).map (runId l) := by rw [take_snoc _ i u hu, List.map_append, ← hr, List.map_singleton, hru]
    have hap : (r.map e1) ++ [[CV.int .i64 x.run]] = (r ++ [x.run]).map e1 := (List.map_append (f := e1) (l₁ := r) (l₂ := [x.run])).symm
    repeat' ((conv => whnf); first | (refine ⟨fun h => ?_, fun h => ?_⟩ <;> try (exfalso; first | omega | exact absurd h (by decide) | exact h rfl | exact absurd (show true = false from h) (by decide) | exact absurd (show false = true from h) (by decide))) | (refine ⟨by omega, fun r2 hrr => ?_⟩; first | ((have hre : r2 = e1 u := by (first | exact get_row hrr hu | fail)); subst hre) | ((have hre : r2 = encI x := by (first | exact get_row hrr hx | fail)); subst hre)) | (refine ⟨_, find_h, (l, u), (by show l.length ≤ 9223372036854775807; omega), leVs_of_eq rfl, .inl rfl, rfl, ?_⟩; show norm (I (ixF (idB u) l)) _; rw [hix]) | (refine ⟨(i + 1, r ++ [x.run], _, _), ⟨?_, by (try dsimp only); omega⟩, [(1, 2)], ⟨⟨rfl, rfl⟩, ⟨⟨rfl, rfl⟩, ⟨⟨rfl, rfl⟩, ⟨⟨rfl, rfl⟩, ⟨⟨rfl, rfl⟩, ⟨⟨rfl, rfl⟩, ⟨⟨rfl, rfl⟩, ⟨⟨rfl, rfl⟩, trivial⟩⟩⟩⟩⟩⟩⟩⟩, ⟨⟨congrArg (fun es => some (Ob.row 3 1 es)) hap, rfl, rfl⟩, trivial⟩, rfl, rfl, rfl⟩; (try dsimp only); exact ⟨⟨⟨by omega, hst⟩, rfl⟩, rfl⟩) | (refine And.intro (And.intro (by simp; omega) (by simp; omega)) ?_) | (refine And.intro (And.intro (by omega) (by omega)) ?_) | fail | fail)
  · have hiK' : i = K := by omega
    subst hiK'
    rw [List.take_take, Nat.min_self, ← hR] at hr
    by_cases hkn : i < nodes.length
    · have hP : planF m l nodes = (greedy nodes.length (matR m r nodes) 0, 0) := by unfold planF; rw [if_neg h8, hK, if_pos hkn, hr]
      have hgood : GoodM nodes.length (matR m r nodes) := matR_good hm (by omega) (by omega)
      obtain ⟨G, hG⟩ : ∃ G, greedy nodes.length (matR m r nodes) 0 = G := ⟨_, rfl⟩
      repeat' ((conv => whnf); first | (refine ⟨fun h => ?_, fun h => ?_⟩ <;> try (exfalso; first | omega | exact absurd h (by decide) | exact h rfl | exact absurd (show true = false from h) (by decide) | exact absurd (show false = true from h) (by decide))) | (refine ⟨_, matrix_h, ⟨r, nodes, 49, m, fun a b => costF m b a⟩, ⟨⟨by show r.length ≤ 1000; omega, by show nodes.length ≤ 1000; omega⟩, hm, byrun_c, byrun_p m⟩, leVs_of_eq rfl, .inl rfl, rfl, ?_⟩; show norm (L 1 ((matF (fun a b => costF m b a) (r) (nodes)).map encR)) _) | (refine ⟨_, asg_h, (nodes.length, matR m r nodes), hgood, leVs_of_eq rfl, .inl rfl, rfl, ?_⟩; show norm (.tup [L 1 ((greedy (nodes.length) (matR m r nodes) 0).map e1), I (minF (nodes.length) (matR m r nodes) 0), I 0]) _; rw [hG]) | fail | fail)
      refine ⟨[], rfl, trivial, ?_⟩
      show leR _ (.tup [L 1 ((planF m l nodes).1.map e1), I (planF m l nodes).2])
      rw [hP, hG]
      exact ⟨leV_refl _, leV_refl _, trivial⟩
    · have hin : i = nodes.length := by omega
      have hP : planF m l nodes = (fillT (greedy i (matN m nodes r) 0) i i, 0) := by unfold planF; rw [if_neg h8, hK, if_neg hkn, hr]
      have hgood : GoodM i (matN m nodes r) := by rw [← hrl]; exact matN_good hm (by omega) (by omega)
      obtain ⟨⟨hg1, _⟩, hg2⟩ := good_greedy hgood
      have hml : (matN m nodes r).length = i := by unfold matN matF; rw [List.length_map]; exact hin.symm
      obtain ⟨B, hB⟩ : ∃ B, greedy i (matN m nodes r) 0 = B := ⟨_, rfl⟩
      rw [hB] at hg1 hg2 hP
      have hBl : (B.map e1).length = i := by rw [List.length_map, hg1, hml]
      repeat' ((conv => whnf); first | (refine ⟨fun h => ?_, fun h => ?_⟩ <;> try (exfalso; first | omega | exact absurd h (by decide) | exact h rfl | exact absurd (show true = false from h) (by decide) | exact absurd (show false = true from h) (by decide))) | (refine ⟨_, matrix_h, ⟨nodes, r, 51, m, fun a b => costF m a b⟩, ⟨⟨by show nodes.length ≤ 1000; omega, by show r.length ≤ 1000; omega⟩, hm, bynode_c, bynode_p m⟩, leVs_of_eq rfl, .inl rfl, rfl, ?_⟩; show norm (L 1 ((matF (fun a b => costF m a b) (nodes) (r)).map encR)) _) | (refine ⟨_, asg_h, (i, matN m nodes r), hgood, leVs_of_eq rfl, .inl rfl, rfl, ?_⟩; show norm (.tup [L 1 ((greedy (i) (matN m nodes r) 0).map e1), I (minF (i) (matN m nodes r) 0), I 0]) _; rw [hB]) | (refine And.intro (And.intro (by omega) (And.intro (by omega) (And.intro (by omega) (by omega)))) ?_) | fail | fail)
      refine ⟨Nat × (List (List CV)), fun xq => ⟨[(19, .osl 2), (80, L 1 (B.map e1)), (81, I (B.map e1).length), (82, I xq.1)], [(2, .row 3 1 xq.2)], 3⟩, fun xq => xq.1 ≤ i ∧ xq.2 = (fillT B i xq.1).map e1, fun xq => i - xq.1, ⟨(0, _), ?_, [], ⟨⟨rfl, rfl⟩, ⟨⟨rfl, rfl⟩, ⟨⟨rfl, rfl⟩, ⟨⟨rfl, rfl⟩, trivial⟩⟩⟩⟩, ⟨⟨rfl, rfl, rfl⟩, trivial⟩, rfl, rfl, rfl⟩, ?_⟩
      · (try dsimp only); exact ⟨Nat.zero_le _, by rw [Int.toNat_natCast]; simp [fillT]⟩
      rintro ⟨t, es⟩ hk
      obtain ⟨ht, hes⟩ : t ≤ i ∧ es = (fillT B i t).map e1 := hk
      (try dsimp only)
      have hel : es.length = i := by rw [hes, List.length_map, fillT_len]
      by_cases hti : t < i
      · obtain ⟨b, hb⟩ := getElem_some (show t < B.length by omega)
        obtain ⟨hb0, hb1⟩ := hg2 b (List.mem_of_getElem? hb)
        obtain ⟨r0, hget⟩ := getElem_some (show b.toNat < es.length by omega)
        have hgr : ∃ z, r0 = [z] := by rw [hes] at hget; obtain ⟨z, _, rfl⟩ := map_get hget; exact ⟨_, rfl⟩
        obtain ⟨z, rfl⟩ := hgr
        have hst : es.set b.toNat [CV.int .i64 (t : Int)] = (fillT B i (t + 1)).map e1 := by rw [hes, fillT, List.getD_eq_getElem?_getD, hb, List.map_set]; rfl
        repeat' ((conv => whnf); first | (refine ⟨fun h => ?_, fun h => ?_⟩ <;> try (exfalso; first | omega | exact absurd h (by decide) | exact h rfl | exact absurd (show true = false from h) (by decide) | exact absurd (show false = true from h) (by decide))) | (refine ⟨by omega, fun r2 hrr => ?_⟩; first | ((have hre : r2 = e1 b := by (first | exact get_row hrr hb | fail)); subst hre)) | refine get_at hget ?_ | (refine ⟨(t + 1, _), ⟨?_, by (try dsimp only); omega⟩, [], ⟨⟨rfl, rfl⟩, ⟨⟨rfl, rfl⟩, ⟨⟨rfl, rfl⟩, ⟨⟨rfl, rfl⟩, trivial⟩⟩⟩⟩, ⟨⟨rfl, rfl, rfl⟩, trivial⟩, rfl, rfl, rfl⟩; (try dsimp only); exact ⟨by omega, hst⟩) | (refine And.intro (And.intro (by omega) (by omega)) ?_) | fail | fail)
      · have hti' : t = i := by omega
        subst hti'
        repeat' ((conv => whnf); first | (refine ⟨fun h => ?_, fun h => ?_⟩ <;> try (exfalso; first | omega | exact absurd h (by decide) | exact h rfl | exact absurd (show true = false from h) (by decide) | exact absurd (show false = true from h) (by decide))) | fail | fail)
        refine ⟨[], rfl, trivial, ?_⟩
        show leR _ (.tup [L 1 ((planF m l nodes).1.map e1), I (planF m l nodes).2])
        rw [hP]
        refine ⟨?_, leV_refl _, trivial⟩
        show leV (L 1 es) (L 1 ((fillT B t t).map e1))
        rw [hes]; exact leV_refl _
theorem plan_h : Holds Try.prog 21 planS := holds_of mix Try.func21 planLow (fun _ => rfl) planV

end Go.Proofs.Ytoeichkblclfaaa
