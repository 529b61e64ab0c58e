/- Shortest paths, the reference's: the table of the labels. -/
import Derived.Test.YtoeichkblclfaaaL2
namespace Go.Proofs.Ytoeichkblclfaaa
open Go.RowKit
theorem lab0 (t n : Int) : labOf n (getM [(t, ⟨0, 0⟩)] n) = ⟨n, 0, 0, decide (n = t)⟩ := by
  by_cases h : n = t
  · rw [getM, if_pos h, decide_eq_true h]; rfl
  · rw [getM, if_neg h, decide_eq_false h]; rfl
theorem supp0 {N : List Int} {t : Int} (h : t ∈ N) : Supp N (getM [(t, ⟨0, 0⟩)]) := by
  intro n v hv
  rw [getM] at hv
  split at hv
  · rename_i e; rw [e]; exact h
  · cases hv
theorem thr_n (e : Ed) (x : Lb) : (thrP e x).n = e.fr := rfl
theorem step_none {ms : List (Int × Lab)} {e : Ed} (h : betterO (getM ms) e = none) : stepT ms e = ms := by unfold stepT; rw [h]
theorem step_some {ms : List (Int × Lab)} {e : Ed} {v : Lab} (h : betterO (getM ms) e = some v) : stepT ms e = putM e.fr v ms := by unfold stepT; rw [h]
theorem mem_take {N : List Int} {k : Nat} {n a : Int} (h : N[k]? = some n) : a ∈ N.take (k + 1) ↔ a ∈ N.take k ∨ a = n := by rw [take_snoc N k n h]; simp
theorem lab_bnd {D : DM} {B : Int} (hB : Bnd D B) (hB2 : 0 ≤ B ∧ B ≤ 1000000000) (n : Int) : (0 ≤ (labOf n (D n)).c ∧ (labOf n (D n)).c ≤ 1000000000000000) ∧ 0 ≤ (labOf n (D n)).k ∧ (labOf n (D n)).k ≤ 1000000000 := by
  cases h : D n with
  | none => exact ⟨⟨Int.le_refl _, by show (0 : Int) ≤ _; omega⟩, Int.le_refl _, by show (0 : Int) ≤ _; omega⟩
  | some v =>
    obtain ⟨⟨h1, h2⟩, h3, h4⟩ := hB n v h
    exact ⟨⟨h3, by show v.c ≤ _; omega⟩, h1, by show v.k ≤ _; omega⟩

/-! skiarea/skiarearef05.labels -/
def labelsIr : IFn := ⟨82, [.tmp 4],
  (.seq (.ops [
    ⟨(some 4), .mov, [.const (.slice none 0 0)], none⟩] false)
  (.seq (.ops [
    ⟨(some 12), .mov, [.tmp 0], none⟩,
    ⟨(some 13), .call 112, [.tmp 12], none⟩,
    ⟨(some 14), .mov, [.tmp 1], none⟩,
    ⟨(some 15), .call 111, [.tmp 13, .tmp 14], none⟩,
    ⟨(some 5), .mov, [.tmp 15], none⟩] false)
  (.seq (.ops [
    ⟨(some 6), .nilOwn 126 4, [], none⟩] false)
  (.seq (.seq (.ops [
    ⟨(some 7), .mov, [.const (.int .i64 0)], none⟩] false)
  (.block 0
    (.loop
      (.seq (.seq (.ops [
        ⟨(some 16), .mov, [.tmp 7], none⟩,
        ⟨(some 17), .mov, [.tmp 5], none⟩,
        ⟨(some 18), .len, [.tmp 17], none⟩,
        ⟨(some 19), .cmp .lss, [.tmp 16, .tmp 18], none⟩] false)
      (.cond (.tmp 19)
        .skip
        (.exit 0)))
      (.seq (.block 1
        (.ops [
          ⟨(some 22), .mov, [.tmp 6], none⟩,
          ⟨(some 23), .mov, [.tmp 5], none⟩,
          ⟨(some 24), .mov, [.tmp 7], none⟩,
          ⟨(some 25), .idx 1, [.tmp 23, .tmp 24], none⟩,
          ⟨(some 26), .load 1 false, [.tmp 25], none⟩,
          ⟨(some 27), .mov, [.tmp 5], none⟩,
          ⟨(some 28), .mov, [.tmp 7], none⟩,
          ⟨(some 29), .idx 1, [.tmp 27, .tmp 28], none⟩,
          ⟨(some 30), .load 1 false, [.tmp 29], none⟩,
          ⟨(some 31), .mov, [.tmp 1], none⟩,
          ⟨(some 32), .cmp .eql, [.tmp 30, .tmp 31], none⟩,
          ⟨(some 33), .build [.int .i64 0, .int .i64 0, .int .i64 0, .bool false] [(0, 1), (3, 1)], [.tmp 26, .tmp 32], none⟩,
          ⟨(some 34), .buildSl 126 4, [.tmp 33], none⟩,
          ⟨(some 35), .append 126 4 32, [.tmp 22, .tmp 34], none⟩,
          ⟨(some 6), .mov, [.tmp 35], none⟩] true))
      (.ops [
        ⟨(some 20), .mov, [.tmp 7], none⟩,
        ⟨(some 21), .bin .add .i64 false, [.tmp 20, .const (.int .i64 1)], none⟩,
        ⟨(some 7), .mov, [.tmp 21], none⟩] false))))))
  (.seq (.seq (.ops [
    ⟨(some 8), .mov, [.const (.bool true)], none⟩] false)
  (.block 2
    (.loop
      (.seq (.seq (.ops [
        ⟨(some 36), .mov, [.tmp 8], none⟩] false)
      (.cond (.tmp 36)
        .skip
        (.exit 2)))
      (.block 3
        (.seq (.ops [
          ⟨(some 8), .mov, [.const (.bool false)], none⟩] false)
        (.seq (.ops [
          ⟨(some 9), .mov, [.const (.int .i64 0)], none⟩] false)
        (.block 4
          (.loop
            (.seq (.seq (.ops [
              ⟨(some 37), .mov, [.tmp 9], none⟩,
              ⟨(some 38), .mov, [.tmp 0], none⟩,
              ⟨(some 39), .len, [.tmp 38], none⟩,
              ⟨(some 40), .cmp .lss, [.tmp 37, .tmp 39], none⟩] false)
            (.cond (.tmp 40)
              .skip
              (.exit 4)))
            (.seq (.block 5
              (.seq (.ops [
                ⟨(some 43), .mov, [.tmp 0], none⟩,
                ⟨(some 44), .mov, [.tmp 9], none⟩,
                ⟨(some 45), .idx 4, [.tmp 43, .tmp 44], none⟩,
                ⟨(some 46), .load 4 true, [.tmp 45], none⟩,
                ⟨(some 47), .mov, [.tmp 6], none⟩,
                ⟨(some 48), .mov, [.tmp 0], none⟩,
                ⟨(some 49), .mov, [.tmp 9], none⟩,
                ⟨(some 50), .idx 4, [.tmp 48, .tmp 49], none⟩,
                ⟨(some 51), .faddr 2, [.tmp 50], none⟩,
                ⟨(some 52), .load 1 false, [.tmp 51], none⟩,
                ⟨(some 53), .call 99, [.tmp 47, .tmp 52], none⟩,
                ⟨(some 54), .call 100, [.tmp 46, .tmp 53], none⟩,
                ⟨(some 10), .alloc [.int .i64 0, .int .i64 0, .int .i64 0, .bool false], [], none⟩,
                ⟨none, .store 4, [.tmp 10, .tmp 54], none⟩] true)
              (.seq (.ops [
                ⟨(some 11), .mov, [.const (.int .i64 0)], none⟩] false)
              (.block 6
                (.loop
                  (.seq (.seq (.ops [
                    ⟨(some 55), .mov, [.tmp 11], none⟩,
                    ⟨(some 56), .mov, [.tmp 6], none⟩,
                    ⟨(some 57), .len, [.tmp 56], none⟩,
                    ⟨(some 58), .cmp .lss, [.tmp 55, .tmp 57], none⟩] false)
                  (.cond (.tmp 58)
                    .skip
                    (.exit 6)))
                  (.seq (.block 7
                    (.seq (.ops [
                      ⟨(some 61), .mov, [.tmp 6], none⟩,
                      ⟨(some 62), .mov, [.tmp 11], none⟩,
                      ⟨(some 63), .idx 4, [.tmp 61, .tmp 62], none⟩,
                      ⟨(some 64), .faddr 0, [.tmp 63], none⟩,
                      ⟨(some 65), .load 1 false, [.tmp 64], none⟩,
                      ⟨(some 66), .faddr 0, [.tmp 10], none⟩,
                      ⟨(some 67), .load 1 false, [.tmp 66], none⟩,
                      ⟨(some 68), .cmp .eql, [.tmp 65, .tmp 67], none⟩,
                      ⟨(some 69), .mov, [.tmp 68], none⟩,
                      ⟨(some 70), .load 4 true, [.tmp 10], (some (69, true))⟩,
                      ⟨(some 71), .mov, [.tmp 6], (some (69, true))⟩,
                      ⟨(some 72), .mov, [.tmp 11], (some (69, true))⟩,
                      ⟨(some 73), .idx 4, [.tmp 71, .tmp 72], (some (69, true))⟩,
                      ⟨(some 74), .load 4 true, [.tmp 73], (some (69, true))⟩,
                      ⟨(some 75), .call 113, [.tmp 70, .tmp 74], (some (69, true))⟩,
                      ⟨(some 76), .pick, [.tmp 69, .tmp 75, .const (.bool false)], none⟩] true)
                    (.cond (.tmp 76)
                      (.seq (.ops [
                        ⟨(some 77), .mov, [.tmp 6], none⟩,
                        ⟨(some 78), .mov, [.tmp 11], none⟩,
                        ⟨(some 79), .load 4 true, [.tmp 10], none⟩,
                        ⟨(some 80), .idx 4, [.tmp 77, .tmp 78], none⟩,
                        ⟨none, .store 4, [.tmp 80, .tmp 79], none⟩] false)
                      (.ops [
                        ⟨(some 8), .mov, [.const (.bool true)], none⟩] false))
                      .skip)))
                  (.ops [
                    ⟨(some 59), .mov, [.tmp 11], none⟩,
                    ⟨(some 60), .bin .add .i64 false, [.tmp 59, .const (.int .i64 1)], none⟩,
                    ⟨(some 11), .mov, [.tmp 60], none⟩] false))))))))
            (.ops [
              ⟨(some 41), .mov, [.tmp 9], none⟩,
              ⟨(some 42), .bin .add .i64 false, [.tmp 41, .const (.int .i64 1)], none⟩,
              ⟨(some 9), .mov, [.tmp 42], none⟩] false))))))))))))
  (.seq (.ops [
    ⟨(some 81), .mov, [.tmp 6], none⟩,
    ⟨(some 4), .mov, [.tmp 81], none⟩] false)
  .ret))))))⟩
theorem labelsLow : lowF Try.prog { owns := [(6, 126)] } Try.f98 = some labelsIr := by kernel_rfl
def labelsS : Spec := spec (List Ed × Int) (fun p => [L 4 (p.1.map encD), I p.2]) (fun p => p.1.length ≤ 1000 ∧ OkE p.1) (fun p => L 4 ((tabP (putF p.2 (nodesF p.1)) (getM (lengthsF p.1 p.2))).map encP))
set_option maxHeartbeats 4000000 in
theorem labelsV : fnV Try.prog labelsIr labelsS := by
  intro ⟨(l : List Ed), (t : Int)⟩ hx
  obtain ⟨hl0, hE⟩ : l.length ≤ 1000 ∧ OkE l := hx
  have hl : (l.map encD).length = l.length := List.length_map ..
  obtain ⟨N, hN⟩ : ∃ N, putF t (nodesF l) = N := ⟨_, rfl⟩
  have hnl := nodes_len l
  have hNl : N.length ≤ 2001 := by rw [← hN]; have := put_len t (nodesF l); omega
  have hNm : ∀ e ∈ l, e.fr ∈ N := fun e he => by rw [← hN, put_mem]; exact .inr (nodes_mem he).1
  have hNt : t ∈ N := by rw [← hN, put_mem]; exact .inl rfl
  have hl1 : (N.map e1).length = N.length := List.length_map ..
  show vc _ _ _ _ ⟨argEnv 0 [L 4 (l.map encD), I t], [], 0⟩
  repeat' ((conv => whnf); first | (refine ⟨fun h => ?_, fun h => ?_⟩ <;> try (exfalso; first | omega | exact absurd h (by decide) | exact h rfl | exact absurd (show true = false from h) (by decide) | exact absurd (show false = true from h) (by decide))) | (refine ⟨_, rnodes5_h, l, hl0, leVs_of_eq rfl, .inl rfl, rfl, ?_⟩; show norm (L 1 ((nodesF l).map e1)) _) | (refine ⟨_, rput_h, (nodesF l, t), (by show (nodesF l).length ≤ 1000000; omega), leVs_of_eq rfl, .inl rfl, rfl, ?_⟩; show norm (L 1 ((putF t (nodesF l)).map e1)) _; rw [hN]) | fail | fail)
  refine ⟨Nat × (List (List CV)), fun xq => ⟨[(0, L 4 (l.map encD)), (1, I t), (5, L 1 (N.map e1)), (6, .osl 0), (7, I xq.1)], [(0, .row 126 4 xq.2)], 1⟩, fun xq => xq.1 ≤ N.length ∧ xq.2 = (tabP (N.take xq.1) (getM [(t, ⟨0, 0⟩)])).map encP, fun xq => N.length - xq.1, ⟨(0, []), ?_, [], ⟨⟨rfl, rfl⟩, ⟨⟨rfl, rfl⟩, ⟨⟨rfl, rfl⟩, ⟨⟨rfl, rfl⟩, ⟨⟨rfl, rfl⟩, trivial⟩⟩⟩⟩⟩, ⟨⟨rfl, rfl, rfl⟩, trivial⟩, rfl, rfl, rfl⟩, ?_⟩
  · (try dsimp only); exact ⟨Nat.zero_le _, rfl⟩
  rintro ⟨k, es⟩ hk
  obtain ⟨hk, hes⟩ : k ≤ N.length ∧ es = (tabP (N.take k) (getM [(t, ⟨0, 0⟩)])).map encP := hk
  (try dsimp only)
  have hel : es.length ≤ 3000 := by rw [hes]; unfold tabP; rw [List.length_map, List.length_map, List.length_take]; omega
  by_cases hkl : k < N.length
  · obtain ⟨n, hn⟩ := getElem_some hkl
    have hst : ∀ b : Bool, b = decide (n = t) → es ++ [[CV.int .i64 n, .int .i64 0, .int .i64 0, .bool b]] = (tabP (N.take (k + 1)) (getM [(t, ⟨0, 0⟩)])).map encP := by
      intro b hb
      have h0 := lab0 t n
      unfold tabP at hes ⊢
      rw [take_snoc N k n hn, List.map_append, List.map_append, ← hes, hb, List.map_singleton, List.map_singleton, h0]
    by_cases hnt : n = t
    · repeat' ((conv => whnf); first | (refine ⟨fun h => ?_, fun h => ?_⟩ <;> try (exfalso; first | omega | exact absurd h (by decide) | exact h rfl | exact absurd (show true = false from h) (by decide) | exact absurd (show false = true from h) (by decide))) | (refine ⟨by omega, fun r hrr => ?_⟩; first | ((have hre : r = e1 n := by (first | exact get_row hrr hn | fail)); subst hre)) | (refine ⟨(k + 1, _), ⟨?_, by (try dsimp only); omega⟩, [(0, 1)], ⟨⟨rfl, rfl⟩, ⟨⟨rfl, rfl⟩, ⟨⟨rfl, rfl⟩, ⟨⟨rfl, rfl⟩, ⟨⟨rfl, rfl⟩, trivial⟩⟩⟩⟩⟩, ⟨⟨rfl, rfl, rfl⟩, trivial⟩, rfl, rfl, rfl⟩; (try dsimp only); exact ⟨by omega, hst true (decide_eq_true hnt).symm⟩) | (refine And.intro (And.intro (by simp; omega) (by simp; omega)) ?_) | (refine And.intro (And.intro (by omega) (by omega)) ?_) | fail | fail)
    · repeat' ((conv => whnf); first | (refine ⟨fun h => ?_, fun h => ?_⟩ <;> try (exfalso; first | omega | exact absurd h (by decide) | exact h rfl | exact absurd (show true = false from h) (by decide) | exact absurd (show false = true from h) (by decide))) | (refine ⟨by omega, fun r hrr => ?_⟩; first | ((have hre : r = e1 n := by (first | exact get_row hrr hn | fail)); subst hre)) | (refine ⟨(k + 1, _), ⟨?_, by (try dsimp only); omega⟩, [(0, 1)], ⟨⟨rfl, rfl⟩, ⟨⟨rfl, rfl⟩, ⟨⟨rfl, rfl⟩, ⟨⟨rfl, rfl⟩, ⟨⟨rfl, rfl⟩, trivial⟩⟩⟩⟩⟩, ⟨⟨rfl, rfl, rfl⟩, trivial⟩, rfl, rfl, rfl⟩; (try dsimp only); exact ⟨by omega, hst false (decide_eq_false hnt).symm⟩) | (refine And.intro (And.intro (by simp; omega) (by simp; omega)) ?_) | (refine And.intro (And.intro (by omega) (by omega)) ?_) | fail | fail)
  rw [take_end hkl] at hes
  repeat' ((conv => whnf); first | (refine ⟨fun h => ?_, fun h => ?_⟩ <;> try (exfalso; first | omega | exact absurd h (by decide) | exact h rfl | exact absurd (show true = false from h) (by decide) | exact absurd (show false = true from h) (by decide))) | fail | fail)
  refine ⟨Nat × (List (Int × Lab)) × Bool × (List (List CV)), fun xq => ⟨[(0, L 4 (l.map encD)), (6, .osl 0), (8, B xq.2.2.1)], [(0, .row 126 4 xq.2.2.2)], 1⟩, fun xq => ((xq.2.2.1 = true → RndI l t xq.1 xq.2.1) ∧ (xq.2.2.1 = false → xq.2.1 = lengthsF l t)) ∧ Supp N (getM xq.2.1) ∧ xq.2.2.2 = (tabP N (getM xq.2.1)).map encP, fun xq => (if xq.2.2.1 = true then l.length + 1 - xq.1 else 0), ⟨(0, [(t, ⟨0, 0⟩)], true, es), ?_, [], ⟨⟨rfl, rfl⟩, ⟨⟨rfl, rfl⟩, ⟨⟨rfl, rfl⟩, trivial⟩⟩⟩, ⟨⟨rfl, rfl, rfl⟩, trivial⟩, rfl, rfl, rfl⟩, ?_⟩
  · (try dsimp only); exact ⟨⟨fun _ => ⟨Nat.zero_le _, rfl, bnd_start t⟩, fun h => by cases h⟩, supp0 hNt, hes⟩
  clear hes hel; rintro ⟨i, ms, b, es⟩ hk
  obtain ⟨⟨hr1, hr2⟩, hS, rfl⟩ : ((b = true → RndI l t i ms) ∧ (b = false → ms = lengthsF l t)) ∧ Supp N (getM ms) ∧ es = (tabP N (getM ms)).map encP := hk
  (try dsimp only)
  cases b with
  | false =>
    repeat' ((conv => whnf); first | (refine ⟨fun h => ?_, fun h => ?_⟩ <;> try (exfalso; first | omega | exact absurd h (by decide) | exact h rfl | exact absurd (show true = false from h) (by decide) | exact absurd (show false = true from h) (by decide))) | fail | fail)
    refine ⟨[], rfl, trivial, ?_⟩
    show leV (L 4 ((tabP N (getM ms)).map encP)) (L 4 ((tabP (putF t (nodesF l)) (getM (lengthsF l t))).map encP))
    rw [hN, hr2 rfl]; exact leV_refl _
  | true =>
    have hr := hr1 rfl
    have hi := hr.le
    repeat' ((conv => whnf); first | (refine ⟨fun h => ?_, fun h => ?_⟩ <;> try (exfalso; first | omega | exact absurd h (by decide) | exact h rfl | exact absurd (show true = false from h) (by decide) | exact absurd (show false = true from h) (by decide))) | fail | fail)
    refine ⟨Nat × (List (Int × Lab)) × Bool × (List (List CV)), fun xq => ⟨[(0, L 4 (l.map encD)), (6, .osl 0), (8, B xq.2.2.1), (9, I xq.1)], [(0, .row 126 4 xq.2.2.2)], 1⟩, fun xq => PassI l ms (1000 * i) xq.1 xq.2.1 xq.2.2.1 ∧ Supp N (getM xq.2.1) ∧ xq.2.2.2 = (tabP N (getM xq.2.1)).map encP, fun xq => l.length - xq.1, ⟨(0, ms, false, _), ?_, [], ⟨⟨rfl, rfl⟩, ⟨⟨rfl, rfl⟩, ⟨⟨rfl, rfl⟩, ⟨⟨rfl, rfl⟩, trivial⟩⟩⟩⟩, ⟨⟨rfl, rfl, rfl⟩, trivial⟩, rfl, rfl, rfl⟩, ?_⟩
    · (try dsimp only); exact ⟨hr.start, hS, rfl⟩
    rintro ⟨j, ms2, ch, es⟩ hk
    obtain ⟨hp, hS2, rfl⟩ : PassI l ms (1000 * i) j ms2 ch ∧ Supp N (getM ms2) ∧ es = (tabP N (getM ms2)).map encP := hk
    (try dsimp only)
    have hj := hp.le
    have htl : (tabP N (getM ms2)).length = N.length := by unfold tabP; rw [List.length_map]
    have htl2 : ((tabP N (getM ms2)).map encP).length = N.length := by rw [List.length_map, htl]
    by_cases hjl : j < l.length
    · obtain ⟨e, hx⟩ := getElem_some hjl
      have he := List.mem_of_getElem? hx
      obtain ⟨hc0, hc1⟩ := hE e he
      obtain ⟨Z, hZ⟩ : ∃ Z, labOf e.to (getM ms2 e.to) = Z := ⟨_, rfl⟩
      have hZb := lab_bnd hp.bnd (by omega) e.to
      rw [hZ] at hZb
      obtain ⟨X, hX⟩ : ∃ X, thrP e Z = X := ⟨_, rfl⟩
      have hXn : X.n = e.fr := by rw [← hX]; rfl
      repeat' ((conv => whnf); first | (refine ⟨fun h => ?_, fun h => ?_⟩ <;> try (exfalso; first | omega | exact absurd h (by decide) | exact h rfl | exact absurd (show true = false from h) (by decide) | exact absurd (show false = true from h) (by decide))) | (refine ⟨by omega, fun r hrr => ?_⟩; first | ((have hre : r = encD e := by (first | exact get_row hrr hx | fail)); subst hre)) | (refine ⟨_, rfind5_h, (tabP N (getM ms2), e.to), (by show (tabP N (getM ms2)).length ≤ 1000000; rw [htl]; omega), leVs_of_eq rfl, .inr rfl, rfl, ?_⟩; show norm (aP (findP (tabP N (getM ms2)) e.to)) _; rw [find_tab hS2, hZ]) | (refine ⟨_, rthr_h, (e, Z), ⟨hZb, hc0, hc1⟩, leVs_of_eq rfl, .inl rfl, rfl, ?_⟩; show norm (aP (thrP e Z)) _; rw [hX]) | (refine And.intro (And.intro (by omega) (by omega)) ?_) | fail | fail)
      refine ⟨Nat × Bool × (List (List CV)), fun xq => ⟨[(0, L 4 (l.map encD)), (6, .osl 0), (8, B xq.2.1), (9, I j), (10, .bp 1 0), (11, I xq.1)], [(0, .row 126 4 xq.2.2), (1, .box ((encP X).map .c))], 2⟩, fun xq => (xq.1 ≤ N.length ∧ xq.2.1 = (ch || ((betterO (getM ms2) e).isSome && decide (e.fr ∈ N.take xq.1)))) ∧ xq.2.2 = (mixP N (getM (stepT ms2 e)) (getM ms2) xq.1).map encP, fun xq => N.length - xq.1, ⟨(0, ch, _), ?_, [], ⟨⟨rfl, rfl⟩, ⟨⟨rfl, rfl⟩, ⟨⟨rfl, rfl⟩, ⟨⟨rfl, rfl⟩, ⟨⟨rfl, rfl⟩, ⟨⟨rfl, rfl⟩, trivial⟩⟩⟩⟩⟩⟩, ⟨⟨rfl, rfl, rfl⟩, ⟨⟨rfl, rfl, rfl⟩, trivial⟩⟩, rfl, rfl, rfl⟩, ?_⟩
      · (try dsimp only); exact ⟨⟨Nat.zero_le _, by simp⟩, rfl⟩
      rintro ⟨k, b3, es⟩ hk
      obtain ⟨⟨hk, hb3⟩, hes⟩ : (k ≤ N.length ∧ b3 = (ch || ((betterO (getM ms2) e).isSome && decide (e.fr ∈ N.take k)))) ∧ es = (mixP N (getM (stepT ms2 e)) (getM ms2) k).map encP := hk
      (try dsimp only)
      have hes4 : es.length = N.length := by rw [hes, List.length_map, mix_len _ _ _ hk]
      by_cases hkl : k < N.length
      · obtain ⟨n, hn⟩ := getElem_some hkl
        obtain ⟨Y, hY⟩ : ∃ Y, labOf n (getM ms2 n) = Y := ⟨_, rfl⟩
        have hYn : Y.n = n := by rw [← hY]; exact labOf_n _ _
        have hget : es[(k : Int).toNat]? = some (encP Y) := by rw [hes, Int.toNat_natCast, List.getElem?_map, mix_get hn, hY]; rfl
        have hmt := mem_take (a := e.fr) hn
        obtain ⟨bo, hb⟩ : ∃ bo, betterO (getM ms2) e = bo := ⟨_, rfl⟩
        cases bo with
        | none =>
          have hsm := step_none hb
          have hes2 : es = (mixP N (getM (stepT ms2 e)) (getM ms2) (k + 1)).map encP := by rw [hes, mix_same hn (by rw [hsm])]
          have hb4 : b3 = (ch || ((betterO (getM ms2) e).isSome && decide (e.fr ∈ N.take (k + 1)))) := by rw [hb3, hb]; simp
          by_cases hne : n = e.fr
          · have hlf : lessP X Y = false := by rw [← hX, ← hZ, ← hY, hne]; exact less_none hb
            repeat' ((conv => whnf); first | (refine ⟨fun h => ?_, fun h => ?_⟩ <;> try (exfalso; first | omega | exact absurd h (by decide) | exact h rfl | exact absurd (show true = false from h) (by decide) | exact absurd (show false = true from h) (by decide))) | refine get_at hget ?_ | (refine And.intro (And.intro (by omega) (by rw [hes4]; omega)) ?_) | (refine ⟨_, rless5_h, (X, Y), trivial, leVs_of_eq rfl, .inl rfl, rfl, ?_⟩; show norm (B (lessP X Y)) _; rw [hlf]) | (refine ⟨(k + 1, b3, _), ⟨?_, by (try dsimp only); omega⟩, [], ⟨⟨rfl, rfl⟩, ⟨⟨rfl, rfl⟩, ⟨⟨rfl, rfl⟩, ⟨⟨rfl, rfl⟩, ⟨⟨rfl, rfl⟩, ⟨⟨rfl, rfl⟩, trivial⟩⟩⟩⟩⟩⟩, ⟨⟨rfl, rfl, rfl⟩, ⟨⟨rfl, rfl, rfl⟩, trivial⟩⟩, rfl, rfl, rfl⟩; (try dsimp only); exact ⟨⟨by omega, hb4⟩, hes2⟩) | (refine And.intro (And.intro (by omega) (by omega)) ?_) | fail | fail)
          · repeat' ((conv => whnf); first | (refine ⟨fun h => ?_, fun h => ?_⟩ <;> try (exfalso; first | omega | exact absurd h (by decide) | exact h rfl | exact absurd (show true = false from h) (by decide) | exact absurd (show false = true from h) (by decide))) | refine get_at hget ?_ | (refine And.intro (And.intro (by omega) (by rw [hes4]; omega)) ?_) | (refine ⟨(k + 1, b3, _), ⟨?_, by (try dsimp only); omega⟩, [], ⟨⟨rfl, rfl⟩, ⟨⟨rfl, rfl⟩, ⟨⟨rfl, rfl⟩, ⟨⟨rfl, rfl⟩, ⟨⟨rfl, rfl⟩, ⟨⟨rfl, rfl⟩, trivial⟩⟩⟩⟩⟩⟩, ⟨⟨rfl, rfl, rfl⟩, ⟨⟨rfl, rfl, rfl⟩, trivial⟩⟩, rfl, rfl, rfl⟩; (try dsimp only); exact ⟨⟨by omega, hb4⟩, hes2⟩) | (refine And.intro (And.intro (by omega) (by omega)) ?_) | fail | fail)
        | some v =>
          have hsm := step_some hb
          obtain ⟨hX2, hlt⟩ := less_some hb
          by_cases hne : n = e.fr
          · have hlf : lessP X Y = true := by rw [← hX, ← hZ, ← hY, hne]; exact hlt
            have hXe : X = labOf n (getM (stepT ms2 e) n) := by rw [← hX, ← hZ, hX2, hsm, hne, getM_same]
            have hes2 : es.set (k : Int).toNat (encP X) = (mixP N (getM (stepT ms2 e)) (getM ms2) (k + 1)).map encP := by rw [hes, mix_next hn, List.map_set, ← hXe, Int.toNat_natCast]
            have hb4 : true = (ch || ((betterO (getM ms2) e).isSome && decide (e.fr ∈ N.take (k + 1)))) := by rw [hb, decide_eq_true (hmt.2 (.inr hne.symm))]; simp
            repeat' ((conv => whnf); first | (refine ⟨fun h => ?_, fun h => ?_⟩ <;> try (exfalso; first | omega | exact absurd h (by decide) | exact h rfl | exact absurd (show true = false from h) (by decide) | exact absurd (show false = true from h) (by decide))) | refine get_at hget ?_ | (refine And.intro (And.intro (by omega) (by rw [hes4]; omega)) ?_) | (refine ⟨_, rless5_h, (X, Y), trivial, leVs_of_eq rfl, .inl rfl, rfl, ?_⟩; show norm (B (lessP X Y)) _; rw [hlf]) | (refine ⟨(k + 1, true, _), ⟨?_, by (try dsimp only); omega⟩, [], ⟨⟨rfl, rfl⟩, ⟨⟨rfl, rfl⟩, ⟨⟨rfl, rfl⟩, ⟨⟨rfl, rfl⟩, ⟨⟨rfl, rfl⟩, ⟨⟨rfl, rfl⟩, trivial⟩⟩⟩⟩⟩⟩, ⟨⟨rfl, rfl, rfl⟩, ⟨⟨rfl, rfl, rfl⟩, trivial⟩⟩, rfl, rfl, rfl⟩; (try dsimp only); exact ⟨⟨by omega, hb4⟩, hes2⟩) | (refine And.intro (And.intro (by omega) (by omega)) ?_) | fail | fail)
          · have hes2 : es = (mixP N (getM (stepT ms2 e)) (getM ms2) (k + 1)).map encP := by rw [hes, mix_same hn (by rw [hsm, getM_other hne])]
            have hb4 : b3 = (ch || ((betterO (getM ms2) e).isSome && decide (e.fr ∈ N.take (k + 1)))) := by
              rw [hb3]
              have : (e.fr ∈ N.take (k + 1)) = (e.fr ∈ N.take k) := propext ⟨fun h => (hmt.1 h).resolve_right fun q => hne q.symm, fun h => hmt.2 (.inl h)⟩
              simp only [this]
            repeat' ((conv => whnf); first | (refine ⟨fun h => ?_, fun h => ?_⟩ <;> try (exfalso; first | omega | exact absurd h (by decide) | exact h rfl | exact absurd (show true = false from h) (by decide) | exact absurd (show false = true from h) (by decide))) | refine get_at hget ?_ | (refine And.intro (And.intro (by omega) (by rw [hes4]; omega)) ?_) | (refine ⟨(k + 1, b3, _), ⟨?_, by (try dsimp only); omega⟩, [], ⟨⟨rfl, rfl⟩, ⟨⟨rfl, rfl⟩, ⟨⟨rfl, rfl⟩, ⟨⟨rfl, rfl⟩, ⟨⟨rfl, rfl⟩, ⟨⟨rfl, rfl⟩, trivial⟩⟩⟩⟩⟩⟩, ⟨⟨rfl, rfl, rfl⟩, ⟨⟨rfl, rfl, rfl⟩, trivial⟩⟩, rfl, rfl, rfl⟩; (try dsimp only); exact ⟨⟨by omega, hb4⟩, hes2⟩) | (refine And.intro (And.intro (by omega) (by omega)) ?_) | fail | fail)
      · have hkN : k = N.length := by omega
        subst hkN
        rw [mix_all] at hes
        rw [List.take_length, decide_eq_true (hNm e he), Bool.and_true] at hb3
        obtain ⟨bo, hb⟩ : ∃ bo, betterO (getM ms2) e = bo := ⟨_, rfl⟩
        cases bo with
        | none =>
          have hsm := step_none hb
          rw [hb, Option.isSome_none, Bool.or_false] at hb3
          rw [hsm] at hes
          subst hb3
          repeat' ((conv => whnf); first | (refine ⟨fun h => ?_, fun h => ?_⟩ <;> try (exfalso; first | omega | exact absurd h (by decide) | exact h rfl | exact absurd (show true = false from h) (by decide) | exact absurd (show false = true from h) (by decide))) | (refine And.intro (And.intro (by omega) (by omega)) ?_) | (refine ⟨(j + 1, ms2, _, es), ⟨?_, by (try dsimp only); omega⟩, [], ⟨⟨rfl, rfl⟩, ⟨⟨rfl, rfl⟩, ⟨⟨rfl, rfl⟩, ⟨⟨rfl, rfl⟩, trivial⟩⟩⟩⟩, ⟨⟨rfl, rfl, rfl⟩, trivial⟩, rfl, rfl, rfl⟩; (try dsimp only); exact ⟨hp.same hx hb, hS2, hes⟩) | fail | fail)
        | some v =>
          have hsm := step_some hb
          rw [hb, Option.isSome_some, Bool.or_true] at hb3
          rw [hsm] at hes
          subst hb3
          repeat' ((conv => whnf); first | (refine ⟨fun h => ?_, fun h => ?_⟩ <;> try (exfalso; first | omega | exact absurd h (by decide) | exact h rfl | exact absurd (show true = false from h) (by decide) | exact absurd (show false = true from h) (by decide))) | (refine And.intro (And.intro (by omega) (by omega)) ?_) | (refine ⟨(j + 1, putM e.fr v ms2, true, es), ⟨?_, by (try dsimp only); omega⟩, [], ⟨⟨rfl, rfl⟩, ⟨⟨rfl, rfl⟩, ⟨⟨rfl, rfl⟩, ⟨⟨rfl, rfl⟩, trivial⟩⟩⟩⟩, ⟨⟨rfl, rfl, rfl⟩, trivial⟩, rfl, rfl, rfl⟩; (try dsimp only); exact ⟨hp.put hE hx hb, hS2.put (hNm e he), hes⟩) | fail | fail)
    · have hjl' : j = l.length := by omega
      subst hjl'
      have hfin : (ch = false → ms2 = lengthsF l t) ∧ (ch = true → RndI l t (i + 1) ms2) := by
        by_cases hil : i < l.length
        · exact hr.next hl0 hil hp
        · have hil' : i = l.length := by omega
          subst hil'
          obtain ⟨q1, q2⟩ := hr.last hE hp
          exact ⟨fun _ => q2, fun h => by rw [q1] at h; cases h⟩
      cases ch with
      | true => repeat' ((conv => whnf); first | (refine ⟨fun h => ?_, fun h => ?_⟩ <;> try (exfalso; first | omega | exact absurd h (by decide) | exact h rfl | exact absurd (show true = false from h) (by decide) | exact absurd (show false = true from h) (by decide))) | (refine ⟨(i + 1, ms2, true, _), ⟨?_, by (simp; omega)⟩, [], ⟨⟨rfl, rfl⟩, ⟨⟨rfl, rfl⟩, ⟨⟨rfl, rfl⟩, trivial⟩⟩⟩, ⟨⟨rfl, rfl, rfl⟩, trivial⟩, rfl, rfl, rfl⟩; (try dsimp only); exact ⟨⟨hfin.2, fun h => by cases h⟩, hS2, rfl⟩) | fail | fail)
      | false => repeat' ((conv => whnf); first | (refine ⟨fun h => ?_, fun h => ?_⟩ <;> try (exfalso; first | omega | exact absurd h (by decide) | exact h rfl | exact absurd (show true = false from h) (by decide) | exact absurd (show false = true from h) (by decide))) | (refine ⟨(i, ms2, false, _), ⟨?_, by (show 0 < l.length + 1 - i; omega)⟩, [], ⟨⟨rfl, rfl⟩, ⟨⟨rfl, rfl⟩, ⟨⟨rfl, rfl⟩, trivial⟩⟩⟩, ⟨⟨rfl, rfl, rfl⟩, trivial⟩, rfl, rfl, rfl⟩; (try dsimp only); exact ⟨⟨fun h => (by cases h), hfin.1⟩, hS2, rfl⟩) | fail | fail)
theorem labels_h : Holds Try.prog 98 labelsS := holds_of mix Try.func98 labelsLow (fun _ => rfl) labelsV

end Go.Proofs.Ytoeichkblclfaaa
