/- Plans: the sum of costs. -/
import Derived.Test.YtoeichkblclfaaaO2
import Derived.Test.YtoeichkblclfaaaArg
namespace Go.Proofs.Ytoeichkblclfaaa
open Go.RowKit
abbrev aSc (x : Scn) : SV := .agg ((encSc x).map .c)
def okTo (x : Scn) (q : List Int) : Prop := q.length ≤ (urgF x.l).length ∧ q.Nodup ∧ ∀ t ∈ q, 0 ≤ t ∧ t < x.nodes.length
instance (x : Scn) (q : List Int) : Decidable (okTo x q) := by unfold okTo; infer_instance
def totF (x : Scn) (q : List Int) : Int × Bool := if okTo x q then (sumR (cst x.m x.l x.nodes q) q.length, true) else (0, false)
theorem tot_no {x : Scn} {q : List Int} (h : ¬ okTo x q) : totF x q = (0, false) := if_neg h
theorem tot_yes {x : Scn} {q : List Int} (h : okTo x q) : totF x q = (sumR (cst x.m x.l x.nodes q) q.length, true) := if_pos h
theorem dup_not {q : List Int} {j i : Nat} {t : Int} (hj : q[j]? = some t) (hi : q[i]? = some t) (h : j < i) : ¬ q.Nodup := by
  intro hn
  obtain ⟨h1, h2⟩ := List.getElem?_eq_some_iff.1 hj
  obtain ⟨h3, h4⟩ := List.getElem?_eq_some_iff.1 hi
  have := (List.getElem_inj hn).1 (h2.trans h4.symm)
  omega

/-! skiarea/skiarealaw57.total -/
def totalIr : IFn := ⟨78, [.tmp 6, .tmp 7],
  (.seq (.ops [
    ⟨(some 3), .box, [.tmp 0], none⟩,
    ⟨(some 6), .mov, [.const (.int .i64 0)], none⟩,
    ⟨(some 7), .mov, [.const (.bool false)], none⟩] false)
  (.seq (.ops [
    ⟨(some 8), .mov, [.const (.int .i64 0)], none⟩] false)
  (.seq (.seq (.ops [
    ⟨(some 9), .mov, [.const (.int .i64 0)], none⟩] false)
  (.block 0
    (.loop
      (.seq (.seq (.ops [
        ⟨(some 11), .mov, [.tmp 9], none⟩,
        ⟨(some 12), .mov, [.tmp 2], none⟩,
        ⟨(some 13), .len, [.tmp 12], none⟩,
        ⟨(some 14), .cmp .lss, [.tmp 11, .tmp 13], none⟩] false)
      (.cond (.tmp 14)
        .skip
        (.exit 0)))
      (.seq (.block 1
        (.seq (.seq (.ops [
          ⟨(some 17), .mov, [.tmp 9], none⟩,
          ⟨(some 18), .mov, [.tmp 1], none⟩,
          ⟨(some 19), .len, [.tmp 18], none⟩,
          ⟨(some 20), .cmp .geq, [.tmp 17, .tmp 19], none⟩,
          ⟨(some 21), .mov, [.tmp 20], none⟩,
          ⟨(some 22), .mov, [.tmp 2], (some (21, false))⟩,
          ⟨(some 23), .mov, [.tmp 9], (some (21, false))⟩,
          ⟨(some 24), .idx 1, [.tmp 22, .tmp 23], (some (21, false))⟩,
          ⟨(some 25), .load 1 false, [.tmp 24], (some (21, false))⟩,
          ⟨(some 26), .cmp .lss, [.tmp 25, .const (.int .i64 0)], (some (21, false))⟩,
          ⟨(some 27), .pick, [.tmp 21, .const (.bool true), .tmp 26], none⟩,
          ⟨(some 28), .mov, [.tmp 27], none⟩,
          ⟨(some 29), .mov, [.tmp 2], (some (28, false))⟩,
          ⟨(some 30), .mov, [.tmp 9], (some (28, false))⟩,
          ⟨(some 31), .idx 1, [.tmp 29, .tmp 30], (some (28, false))⟩,
          ⟨(some 32), .load 1 false, [.tmp 31], (some (28, false))⟩,
          ⟨(some 33), .faddr 5, [.tmp 3], (some (28, false))⟩,
          ⟨(some 34), .load 1 false, [.tmp 33], (some (28, false))⟩,
          ⟨(some 35), .len, [.tmp 34], (some (28, false))⟩,
          ⟨(some 36), .cmp .geq, [.tmp 32, .tmp 35], (some (28, false))⟩,
          ⟨(some 37), .pick, [.tmp 28, .const (.bool true), .tmp 36], none⟩] true)
        (.cond (.tmp 37)
          (.seq (.ops [
            ⟨(some 6), .mov, [.const (.int .i64 0)], none⟩,
            ⟨(some 7), .mov, [.const (.bool false)], none⟩] false)
          .ret)
          .skip))
        (.seq (.seq (.ops [
          ⟨(some 10), .mov, [.const (.int .i64 0)], none⟩] false)
        (.block 2
          (.loop
            (.seq (.seq (.ops [
              ⟨(some 38), .mov, [.tmp 10], none⟩,
              ⟨(some 39), .mov, [.tmp 9], none⟩,
              ⟨(some 40), .cmp .lss, [.tmp 38, .tmp 39], none⟩] false)
            (.cond (.tmp 40)
              .skip
              (.exit 2)))
            (.seq (.block 3
              (.seq (.ops [
                ⟨(some 43), .mov, [.tmp 2], none⟩,
                ⟨(some 44), .mov, [.tmp 10], none⟩,
                ⟨(some 45), .idx 1, [.tmp 43, .tmp 44], none⟩,
                ⟨(some 46), .load 1 false, [.tmp 45], none⟩,
                ⟨(some 47), .mov, [.tmp 2], none⟩,
                ⟨(some 48), .mov, [.tmp 9], none⟩,
                ⟨(some 49), .idx 1, [.tmp 47, .tmp 48], none⟩,
                ⟨(some 50), .load 1 false, [.tmp 49], none⟩,
                ⟨(some 51), .cmp .eql, [.tmp 46, .tmp 50], none⟩] true)
              (.cond (.tmp 51)
                (.seq (.ops [
                  ⟨(some 6), .mov, [.const (.int .i64 0)], none⟩,
                  ⟨(some 7), .mov, [.const (.bool false)], none⟩] false)
                .ret)
                .skip)))
            (.ops [
              ⟨(some 41), .mov, [.tmp 10], none⟩,
              ⟨(some 42), .bin .add .i64 false, [.tmp 41, .const (.int .i64 1)], none⟩,
              ⟨(some 10), .mov, [.tmp 42], none⟩] false))))))
        (.ops [
          ⟨(some 52), .mov, [.tmp 8], none⟩,
          ⟨(some 53), .faddr 0, [.tmp 3], none⟩,
          ⟨(some 54), .load 4 true, [.tmp 53], none⟩,
          ⟨(some 55), .faddr 5, [.tmp 3], none⟩,
          ⟨(some 56), .load 1 false, [.tmp 55], none⟩,
          ⟨(some 57), .mov, [.tmp 2], none⟩,
          ⟨(some 58), .mov, [.tmp 9], none⟩,
          ⟨(some 59), .idx 1, [.tmp 57, .tmp 58], none⟩,
          ⟨(some 60), .load 1 false, [.tmp 59], none⟩,
          ⟨(some 61), .idx 1, [.tmp 56, .tmp 60], none⟩,
          ⟨(some 62), .load 1 false, [.tmp 61], none⟩,
          ⟨(some 63), .faddr 4, [.tmp 3], none⟩,
          ⟨(some 64), .load 1 false, [.tmp 63], none⟩,
          ⟨(some 65), .faddr 4, [.tmp 3], none⟩,
          ⟨(some 66), .load 1 false, [.tmp 65], none⟩,
          ⟨(some 67), .mov, [.tmp 1], none⟩,
          ⟨(some 68), .mov, [.tmp 9], none⟩,
          ⟨(some 69), .idx 1, [.tmp 67, .tmp 68], none⟩,
          ⟨(some 70), .load 1 false, [.tmp 69], none⟩,
          ⟨(some 71), .call 19, [.tmp 66, .tmp 70], none⟩,
          ⟨(some 72), .idx 6, [.tmp 64, .tmp 71], none⟩,
          ⟨(some 73), .faddr 1, [.tmp 72], none⟩,
          ⟨(some 74), .load 1 false, [.tmp 73], none⟩,
          ⟨(some 75), .call 52, [.tmp 54, .tmp 62, .tmp 74], none⟩,
          ⟨(some 76), .bin .add .i64 false, [.tmp 52, .tmp 75], none⟩,
          ⟨(some 8), .mov, [.tmp 76], none⟩] true))))
      (.ops [
        ⟨(some 15), .mov, [.tmp 9], none⟩,
        ⟨(some 16), .bin .add .i64 false, [.tmp 15, .const (.int .i64 1)], none⟩,
        ⟨(some 9), .mov, [.tmp 16], none⟩] false))))))
  (.seq (.ops [
    ⟨(some 77), .mov, [.tmp 8], none⟩,
    ⟨(some 6), .mov, [.tmp 77], none⟩,
    ⟨(some 7), .mov, [.const (.bool true)], none⟩] false)
  .ret))))⟩
theorem totalLow : lowF Try.prog {} Try.f23 = some totalIr := by kernel_rfl
def totalS : Spec := spec (Scn × List Int) (fun p => [aSc p.1, L 1 ((urgF p.1.l).map e1), L 1 (p.2.map e1)]) (fun p => MapOk p.1.m ∧ p.1.l.length ≤ 1000) (fun p => .tup [I (totF p.1 p.2).1, B (totF p.1 p.2).2])
set_option maxHeartbeats 2000000 in
theorem totalV : fnV Try.prog totalIr totalS := by
  intro ⟨⟨(m : Mp), (l : List Inc), (nodes : List Int)⟩, (q : List Int)⟩ hx
  obtain ⟨hm, hll⟩ : MapOk m ∧ l.length ≤ 1000 := hx
  have hl : (l.map encI).length = l.length := List.length_map ..
  have hln : (nodes.map e1).length = nodes.length := List.length_map ..
  have hlq : (q.map e1).length = q.length := List.length_map ..
  show vc _ _ _ _ ⟨argEnv 0 [aSc ⟨m, l, nodes⟩, L 1 ((urgF l).map e1), L 1 (q.map e1)], [], 0⟩
  obtain ⟨U, hU⟩ : ∃ U, urgF l = U := ⟨_, rfl⟩
  rw [hU]
  have hlu : (U.map e1).length = U.length := List.length_map ..
  have hUl : U.length ≤ 1000 := by
    rw [← hU]; unfold urgF; rw [List.length_map, (urgL_perm l).length_eq]; have := wait_len l; omega
  conv => whnf
  refine ⟨Nat × Int, fun xq => ⟨[(1, L 1 (U.map e1)), (2, L 1 (q.map e1)), (3, .bp 0 0), (8, I xq.2), (9, I xq.1)], [(0, .box [L 2 (m.nodes.map encN), L 8 (m.lifts.map encL), L 7 (m.runs.map encU), L 1 (m.bases.map e1), L 6 (l.map encI), L 1 (nodes.map e1)])], 1⟩, fun xq => (((xq.1 ≤ q.length ∧ xq.1 ≤ U.length) ∧ ((q.take xq.1).Nodup ∧ ∀ t ∈ q.take xq.1, 0 ≤ t ∧ t < nodes.length)) ∧ xq.2 = sumR (cst m l nodes q) xq.1) ∧ 0 ≤ xq.2 ∧ xq.2 ≤ 1000000 * xq.1, fun xq => q.length - xq.1, ⟨(0, 0), ?_, [], ⟨⟨rfl, rfl⟩, ⟨⟨rfl, rfl⟩, ⟨⟨rfl, rfl⟩, ⟨⟨rfl, rfl⟩, ⟨⟨rfl, rfl⟩, trivial⟩⟩⟩⟩⟩, ⟨⟨rfl, rfl, rfl⟩, trivial⟩, rfl, rfl, rfl⟩, ?_⟩
  · (try dsimp only); exact ⟨⟨⟨⟨Nat.zero_le _, Nat.zero_le _⟩, List.nodup_nil, fun t ht => by cases ht⟩, rfl⟩, Int.le_refl _, by simp⟩
  rintro ⟨i, n⟩ hk
  obtain ⟨⟨⟨⟨hi, hi2⟩, hnd, hrg⟩, hn⟩, hn0, hn1⟩ : (((i ≤ q.length ∧ i ≤ U.length) ∧ ((q.take i).Nodup ∧ ∀ t ∈ q.take i, 0 ≤ t ∧ t < nodes.length)) ∧ n = sumR (cst m l nodes q) i) ∧ 0 ≤ n ∧ n ≤ 1000000 * i := hk
  (try dsimp only)
  by_cases hiq : i < q.length
  · obtain ⟨t, ht⟩ := getElem_some hiq
    by_cases hiU : i < U.length
    · by_cases htr : 0 ≤ t ∧ t < nodes.length
      · obtain ⟨u, hu⟩ := getElem_some hiU
        obtain ⟨nd, hnd2⟩ := getElem_some (show t.toNat < nodes.length by omega)
        obtain ⟨ix, x, hix, hx, _⟩ := urg_find (l := l) (i := u) (by rw [hU]; exact List.mem_of_getElem? hu)
        have hru := runId_at hix hx
        have hixl := (List.getElem?_eq_some_iff.1 hx).1
        have hcs : cst m l nodes q i = costF m nd x.run := by
          have f1 : q.getD i 0 = t := by rw [List.getD_eq_getElem?_getD, ht]; rfl
          have f2 : nodes.getD t.toNat 0 = nd := by rw [List.getD_eq_getElem?_getD, hnd2]; rfl
          have f3 : (urgF l).getD i 0 = u := by rw [hU, List.getD_eq_getElem?_getD, hu]; rfl
          unfold cst; rw [f1, f2, f3, hru]
        obtain ⟨c0, c1⟩ := cost_bnd hm nd x.run
        repeat' ((conv => whnf); first | (refine ⟨fun h => ?_, fun h => ?_⟩ <;> try (exfalso; first | omega | exact absurd h (by decide) | exact h rfl | exact absurd (show true = false from h) (by decide) | exact absurd (show false = true from h) (by decide))) | (refine ⟨by omega, fun r hrr => ?_⟩; first | ((have hre : r = e1 t := by (first | exact get_row hrr ht | fail)); subst hre)) | fail | fail)
        refine ⟨Nat, fun xq => ⟨[(1, L 1 (U.map e1)), (2, L 1 (q.map e1)), (3, .bp 0 0), (8, I n), (9, I i), (10, I xq)], [(0, .box [L 2 (m.nodes.map encN), L 8 (m.lifts.map encL), L 7 (m.runs.map encU), L 1 (m.bases.map e1), L 6 (l.map encI), L 1 (nodes.map e1)])], 1⟩, fun xq => xq ≤ i ∧ ∀ y ∈ q.take xq, y ≠ t, fun xq => i - xq, ⟨0, ?_, [], ⟨⟨rfl, rfl⟩, ⟨⟨rfl, rfl⟩, ⟨⟨rfl, rfl⟩, ⟨⟨rfl, rfl⟩, ⟨⟨rfl, rfl⟩, ⟨⟨rfl, rfl⟩, trivial⟩⟩⟩⟩⟩⟩, ⟨⟨rfl, rfl, rfl⟩, trivial⟩, rfl, rfl, rfl⟩, ?_⟩
        · (try dsimp only); exact ⟨Nat.zero_le _, fun y hy => by cases hy⟩
        rintro j hk
        obtain ⟨hj, hj0⟩ : j ≤ i ∧ ∀ y ∈ q.take j, y ≠ t := hk
        (try dsimp only)
        by_cases hji : j < i
        · obtain ⟨y, hy⟩ := getElem_some (show j < q.length by omega)
          by_cases hyt : y = t
          · subst hyt
            repeat' ((conv => whnf); first | (refine ⟨fun h => ?_, fun h => ?_⟩ <;> try (exfalso; first | omega | exact absurd h (by decide) | exact h rfl | exact absurd (show true = false from h) (by decide) | exact absurd (show false = true from h) (by decide))) | (refine ⟨by omega, fun r hrr => ?_⟩; first | ((have hre : r = e1 y := by (first | exact get_row hrr hy | fail)); subst hre) | ((have hre : r = e1 y := by (first | exact get_row hrr ht | fail)); subst hre)) | fail | fail)
            refine ⟨[], rfl, trivial, ?_⟩
            show leR _ (.tup [I (totF ⟨m, l, nodes⟩ q).1, B (totF ⟨m, l, nodes⟩ q).2])
            rw [tot_no (fun h => dup_not hy ht hji h.2.1)]
            exact ⟨rfl, rfl, trivial⟩
          · have hj1 : ∀ z ∈ q.take (j + 1), z ≠ t := by
              rw [take_snoc q j y hy]; intro z hz
              rcases List.mem_append.1 hz with hz | hz
              · exact hj0 z hz
              · rw [List.mem_singleton] at hz; subst hz; exact hyt
            repeat' ((conv => whnf); first | (refine ⟨fun h => ?_, fun h => ?_⟩ <;> try (exfalso; first | omega | exact absurd h (by decide) | exact h rfl | exact absurd (show true = false from h) (by decide) | exact absurd (show false = true from h) (by decide))) | (refine And.intro (And.intro (by omega) (by omega)) ?_; intro r hrr; have hre : r = e1 y := (by first | exact get_row hrr hy | fail); subst hre) | (refine And.intro (And.intro (by omega) (by omega)) ?_; intro r hrr; have hre : r = e1 t := (by first | exact get_row hrr ht | fail); subst hre) | (refine ⟨j + 1, ⟨?_, by (try dsimp only); omega⟩, [], ⟨⟨rfl, rfl⟩, ⟨⟨rfl, rfl⟩, ⟨⟨rfl, rfl⟩, ⟨⟨rfl, rfl⟩, ⟨⟨rfl, rfl⟩, ⟨⟨rfl, rfl⟩, trivial⟩⟩⟩⟩⟩⟩, ⟨⟨rfl, rfl, rfl⟩, trivial⟩, rfl, rfl, rfl⟩; (try dsimp only); exact ⟨by omega, hj1⟩) | (refine And.intro (And.intro (by omega) (by omega)) ?_) | fail | fail)
        · have hji' : j = i := by omega
          subst hji'
          have hnd3 : (q.take (j + 1)).Nodup := by
            rw [take_snoc q j t ht, List.nodup_append]
            refine ⟨hnd, by simp, fun a ha b hb => ?_⟩
            rw [List.mem_singleton] at hb; subst hb; exact hj0 a ha
          have hrg3 : ∀ z ∈ q.take (j + 1), 0 ≤ z ∧ z < nodes.length := by
            rw [take_snoc q j t ht]; intro z hz
            rcases List.mem_append.1 hz with hz | hz
            · exact hrg z hz
            · rw [List.mem_singleton] at hz; subst hz; exact htr
          have hsum : n + costF m nd x.run = sumR (cst m l nodes q) (j + 1) := by rw [sumR, hcs, hn]
          repeat' ((conv => whnf); first | (refine ⟨fun h => ?_, fun h => ?_⟩ <;> try (exfalso; first | omega | exact absurd h (by decide) | exact h rfl | exact absurd (show true = false from h) (by decide) | exact absurd (show false = true from h) (by decide))) | (refine ⟨_, rfind_h, (l, u), (by show l.length ≤ 9223372036854775807; omega), leVs_of_eq rfl, .inl rfl, rfl, ?_⟩; show norm (I (ixF (idB u) l)) _; rw [hix]) | (refine ⟨_, rcost_h, (m, nd, x.run), hm, leVs_of_eq rfl, .inl rfl, rfl, ?_⟩; show norm (I (costF m nd x.run)) _) | (refine And.intro (And.intro (by omega) (by omega)) ?_; intro r hrr; have hre : r = e1 t := (by first | exact get_row hrr ht | fail); subst hre) | (refine And.intro (And.intro (by omega) (by omega)) ?_; intro r hrr; have hre : r = e1 nd := (by first | exact get_rowi (j := t.toNat) hrr (by omega) hnd2 | fail); subst hre) | (refine And.intro (And.intro (by omega) (by omega)) ?_; intro r hrr; have hre : r = e1 u := (by first | exact get_row hrr hu | fail); subst hre) | (refine And.intro (And.intro (by omega) (by omega)) ?_; intro r hrr; have hre : r = encI x := (by first | exact get_row hrr hx | fail); subst hre) | (refine ⟨(j + 1, n + costF m nd x.run), ⟨?_, by (try dsimp only); omega⟩, [], ⟨⟨rfl, rfl⟩, ⟨⟨rfl, rfl⟩, ⟨⟨rfl, rfl⟩, ⟨⟨rfl, rfl⟩, ⟨⟨rfl, rfl⟩, trivial⟩⟩⟩⟩⟩, ⟨⟨rfl, rfl, rfl⟩, trivial⟩, rfl, rfl, rfl⟩; (try dsimp only); exact ⟨⟨⟨⟨by omega, by omega⟩, hnd3, hrg3⟩, hsum⟩, by omega, by omega⟩) | (refine And.intro (And.intro (by omega) (by omega)) ?_) | fail | fail)
      · repeat' ((conv => whnf); first | (refine ⟨fun h => ?_, fun h => ?_⟩ <;> try (exfalso; first | omega | exact absurd h (by decide) | exact h rfl | exact absurd (show true = false from h) (by decide) | exact absurd (show false = true from h) (by decide))) | (refine ⟨by omega, fun r hrr => ?_⟩; first | ((have hre : r = e1 t := by (first | exact get_row hrr ht | fail)); subst hre)) | fail | fail)
        all_goals (refine ⟨[], rfl, trivial, ?_⟩; show leR _ (.tup [I (totF ⟨m, l, nodes⟩ q).1, B (totF ⟨m, l, nodes⟩ q).2]); rw [tot_no (fun h => htr (h.2.2 t (List.mem_of_getElem? ht)))]; exact ⟨rfl, rfl, trivial⟩)
    · repeat' ((conv => whnf); first | (refine ⟨fun h => ?_, fun h => ?_⟩ <;> try (exfalso; first | omega | exact absurd h (by decide) | exact h rfl | exact absurd (show true = false from h) (by decide) | exact absurd (show false = true from h) (by decide))) | fail | fail)
      refine ⟨[], rfl, trivial, ?_⟩
      show leR _ (.tup [I (totF ⟨m, l, nodes⟩ q).1, B (totF ⟨m, l, nodes⟩ q).2])
      rw [tot_no (fun h => hiU (by have := h.1; rw [← hU]; dsimp only at this; omega))]
      exact ⟨rfl, rfl, trivial⟩
  · have hiq' : i = q.length := by omega
    subst hiq'
    rw [List.take_length] at hnd hrg
    repeat' ((conv => whnf); first | (refine ⟨fun h => ?_, fun h => ?_⟩ <;> try (exfalso; first | omega | exact absurd h (by decide) | exact h rfl | exact absurd (show true = false from h) (by decide) | exact absurd (show false = true from h) (by decide))) | fail | fail)
    refine ⟨[], rfl, trivial, ?_⟩
    show leR _ (.tup [I (totF ⟨m, l, nodes⟩ q).1, B (totF ⟨m, l, nodes⟩ q).2])
    rw [tot_yes (show okTo ⟨m, l, nodes⟩ q from ⟨by show q.length ≤ (urgF l).length; rw [hU]; exact hi2, hnd, hrg⟩), hn]
    exact ⟨rfl, rfl, trivial⟩
theorem total_h : Holds Try.prog 23 totalS := holds_of mix Try.func23 totalLow (fun _ => rfl) totalV

end Go.Proofs.Ytoeichkblclfaaa
