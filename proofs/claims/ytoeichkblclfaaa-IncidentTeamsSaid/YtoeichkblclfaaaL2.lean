/- Shortest paths, the reference's: nodes, labels. -/
import Derived.Test.YtoeichkblclfaaaL1
namespace Go.Proofs.Ytoeichkblclfaaa
open Go.RowKit

/-! skiarea/skiarearef05.put -/
def rputIr : IFn := ⟨48, [.tmp 4],
  (.seq (.ops [
    ⟨(some 4), .mov, [.const (.slice none 0 0)], none⟩] false)
  (.seq (.ops [
    ⟨(some 5), .nilOwn 3 1, [], none⟩] false)
  (.seq (.ops [
    ⟨(some 6), .mov, [.const (.bool false)], none⟩] false)
  (.seq (.seq (.ops [
    ⟨(some 7), .mov, [.const (.int .i64 0)], none⟩] false)
  (.block 0
    (.loop
      (.seq (.seq (.ops [
        ⟨(some 8), .mov, [.tmp 7], none⟩,
        ⟨(some 9), .mov, [.tmp 0], none⟩,
        ⟨(some 10), .len, [.tmp 9], none⟩,
        ⟨(some 11), .cmp .lss, [.tmp 8, .tmp 10], none⟩] false)
      (.cond (.tmp 11)
        .skip
        (.exit 0)))
      (.seq (.block 1
        (.seq (.seq (.ops [
          ⟨(some 14), .mov, [.tmp 6], none⟩,
          ⟨(some 15), .not, [.tmp 14], none⟩,
          ⟨(some 16), .mov, [.tmp 15], none⟩,
          ⟨(some 17), .mov, [.tmp 0], (some (16, true))⟩,
          ⟨(some 18), .mov, [.tmp 7], (some (16, true))⟩,
          ⟨(some 19), .idx 1, [.tmp 17, .tmp 18], (some (16, true))⟩,
          ⟨(some 20), .load 1 false, [.tmp 19], (some (16, true))⟩,
          ⟨(some 21), .mov, [.tmp 1], (some (16, true))⟩,
          ⟨(some 22), .cmp .geq, [.tmp 20, .tmp 21], (some (16, true))⟩,
          ⟨(some 23), .pick, [.tmp 16, .tmp 22, .const (.bool false)], none⟩] false)
        (.cond (.tmp 23)
          (.seq (.seq (.ops [
            ⟨(some 24), .mov, [.tmp 0], none⟩,
            ⟨(some 25), .mov, [.tmp 7], none⟩,
            ⟨(some 26), .idx 1, [.tmp 24, .tmp 25], none⟩,
            ⟨(some 27), .load 1 false, [.tmp 26], none⟩,
            ⟨(some 28), .mov, [.tmp 1], none⟩,
            ⟨(some 29), .cmp .gtr, [.tmp 27, .tmp 28], none⟩] false)
          (.cond (.tmp 29)
            (.ops [
              ⟨(some 30), .mov, [.tmp 5], none⟩,
              ⟨(some 31), .mov, [.tmp 1], none⟩,
              ⟨(some 32), .buildSl 3 1, [.tmp 31], none⟩,
              ⟨(some 33), .append 3 1 8, [.tmp 30, .tmp 32], none⟩,
              ⟨(some 5), .mov, [.tmp 33], none⟩] false)
            .skip))
          (.ops [
            ⟨(some 6), .mov, [.const (.bool true)], none⟩] false))
          .skip))
        (.ops [
          ⟨(some 34), .mov, [.tmp 5], none⟩,
          ⟨(some 35), .mov, [.tmp 0], none⟩,
          ⟨(some 36), .mov, [.tmp 7], none⟩,
          ⟨(some 37), .idx 1, [.tmp 35, .tmp 36], none⟩,
          ⟨(some 38), .load 1 false, [.tmp 37], none⟩,
          ⟨(some 39), .buildSl 3 1, [.tmp 38], none⟩,
          ⟨(some 40), .append 3 1 8, [.tmp 34, .tmp 39], none⟩,
          ⟨(some 5), .mov, [.tmp 40], none⟩] false)))
      (.ops [
        ⟨(some 12), .mov, [.tmp 7], none⟩,
        ⟨(some 13), .bin .add .i64 false, [.tmp 12, .const (.int .i64 1)], none⟩,
        ⟨(some 7), .mov, [.tmp 13], none⟩] false))))))
  (.seq (.seq (.ops [
    ⟨(some 41), .mov, [.tmp 6], none⟩,
    ⟨(some 42), .not, [.tmp 41], none⟩] false)
  (.cond (.tmp 42)
    (.ops [
      ⟨(some 43), .mov, [.tmp 5], none⟩,
      ⟨(some 44), .mov, [.tmp 1], none⟩,
      ⟨(some 45), .buildSl 3 1, [.tmp 44], none⟩,
      ⟨(some 46), .append 3 1 8, [.tmp 43, .tmp 45], none⟩,
      ⟨(some 5), .mov, [.tmp 46], none⟩] false)
    .skip))
  (.seq (.ops [
    ⟨(some 47), .mov, [.tmp 5], none⟩,
    ⟨(some 4), .mov, [.tmp 47], none⟩] false)
  .ret))))))⟩
theorem rputLow : lowF Try.prog { owns := [(5, 3)] } Try.f111 = some rputIr := by kernel_rfl
def rputS : Spec := spec (List Int × Int) (fun p => [L 1 (p.1.map e1), I p.2]) (fun p => p.1.length ≤ 1000000) (fun p => L 1 ((putF p.2 p.1).map e1))
theorem rputV : fnV Try.prog rputIr rputS := by
  intro ⟨(l : List Int), (n : Int)⟩ hx
  replace hx : l.length ≤ 1000000 := hx
  have hl : (l.map e1).length = l.length := List.length_map ..
  show vc _ _ _ _ ⟨argEnv 0 [L 1 (l.map e1), I n], [], 0⟩
  conv => whnf
  refine ⟨Nat × (List Int) × Bool × (List (List CV)), fun xq => ⟨[(0, L 1 (l.map e1)), (1, I n), (5, .osl 0), (6, B xq.2.2.1), (7, I xq.1)], [(0, .row 3 1 xq.2.2.2)], 1⟩, fun xq => ((xq.1 ≤ l.length) ∧ (xq.2.1).length ≤ 2 * xq.1 ∧ xq.2.2.2 = (xq.2.1).map e1) ∧ (xq.2.2.1 = true → xq.2.1 ++ l.drop xq.1 = putF n l) ∧ (xq.2.2.1 = false → xq.2.1 ++ putF n (l.drop xq.1) = putF n l), fun xq => l.length - xq.1, ⟨(0, [], false, []), ?_, [], ⟨⟨rfl, rfl⟩, ⟨⟨rfl, rfl⟩, ⟨⟨rfl, rfl⟩, ⟨⟨rfl, rfl⟩, ⟨⟨rfl, rfl⟩, trivial⟩⟩⟩⟩⟩, ⟨⟨rfl, rfl, rfl⟩, trivial⟩, rfl, rfl, rfl⟩, ?_⟩
  · (try dsimp only); exact ⟨⟨Nat.zero_le _, Nat.zero_le _, rfl⟩, fun h => (by cases h), fun _ => rfl⟩
  rintro ⟨k, o, d, es⟩ hk
  obtain ⟨⟨hk, ho, hes⟩, hd1, hd2⟩ : ((k ≤ l.length) ∧ (o).length ≤ 2 * k ∧ es = (o).map e1) ∧ (d = true → o ++ l.drop k = putF n l) ∧ (d = false → o ++ putF n (l.drop k) = putF n l) := hk
  (try dsimp only)
  have hel : es.length = o.length := by rw [hes, List.length_map]
  by_cases hkl : k < l.length
  · obtain ⟨x, hx2⟩ := getElem_some hkl
    have hdr : l.drop k = x :: l.drop (k + 1) := by
      rw [← (List.getElem?_eq_some_iff.1 hx2).2]; exact List.drop_eq_getElem_cons hkl
    cases d with
    | true =>
      have h1 := hd1 rfl
      rw [hdr] at h1
      repeat' ((conv => whnf); first | (refine ⟨fun h => ?_, fun h => ?_⟩ <;> try (exfalso; first | omega | exact absurd h (by decide) | exact h rfl | exact absurd (show true = false from h) (by decide) | exact absurd (show false = true from h) (by decide))) | (refine ⟨by omega, fun r hrr => ?_⟩; first | ((have hre : r = e1 x := by (first | exact get_row hrr hx2 | fail)); subst hre)) | (refine ⟨(k + 1, o ++ [x], true, _), ⟨?_, by (try dsimp only); omega⟩, [(0, 1)], ⟨⟨rfl, rfl⟩, ⟨⟨rfl, rfl⟩, ⟨⟨rfl, rfl⟩, ⟨⟨rfl, rfl⟩, ⟨⟨rfl, rfl⟩, trivial⟩⟩⟩⟩⟩, ⟨⟨rfl, rfl, rfl⟩, trivial⟩, rfl, rfl, rfl⟩; (try dsimp only); exact ⟨⟨by omega, by simp; omega, by rw [hes]; simp⟩, fun _ => (by rw [← h1]; simp), fun h => (by cases h)⟩) | (refine And.intro (And.intro (by simp; omega) (by simp; omega)) ?_) | (refine And.intro (And.intro (by omega) (by omega)) ?_) | fail | fail)
    | false =>
      have h1 := hd2 rfl
      rw [hdr, putF] at h1
      by_cases hnx : n ≤ x
      · rw [if_pos hnx] at h1
        by_cases hlt : n < x
        · rw [if_pos hlt] at h1
          repeat' ((conv => whnf); first | (refine ⟨fun h => ?_, fun h => ?_⟩ <;> try (exfalso; first | omega | exact absurd h (by decide) | exact h rfl | exact absurd (show true = false from h) (by decide) | exact absurd (show false = true from h) (by decide))) | (refine ⟨by omega, fun r hrr => ?_⟩; first | ((have hre : r = e1 x := by (first | exact get_row hrr hx2 | fail)); subst hre)) | (refine ⟨(k + 1, o ++ [n] ++ [x], true, _), ⟨?_, by (try dsimp only); omega⟩, [(0, 2)], ⟨⟨rfl, rfl⟩, ⟨⟨rfl, rfl⟩, ⟨⟨rfl, rfl⟩, ⟨⟨rfl, rfl⟩, ⟨⟨rfl, rfl⟩, trivial⟩⟩⟩⟩⟩, ⟨⟨rfl, rfl, rfl⟩, trivial⟩, rfl, rfl, rfl⟩; (try dsimp only); exact ⟨⟨by omega, by simp; omega, by rw [hes]; simp⟩, fun _ => (by rw [← h1]; simp), fun h => (by cases h)⟩) | (refine And.intro (And.intro (by simp; omega) (by simp; omega)) ?_) | (refine And.intro (And.intro (by omega) (by omega)) ?_) | fail | fail)
        · rw [if_neg hlt] at h1
          repeat' ((conv => whnf); first | (refine ⟨fun h => ?_, fun h => ?_⟩ <;> try (exfalso; first | omega | exact absurd h (by decide) | exact h rfl | exact absurd (show true = false from h) (by decide) | exact absurd (show false = true from h) (by decide))) | (refine ⟨by omega, fun r hrr => ?_⟩; first | ((have hre : r = e1 x := by (first | exact get_row hrr hx2 | fail)); subst hre)) | (refine ⟨(k + 1, o ++ [x], true, _), ⟨?_, by (try dsimp only); omega⟩, [(0, 1)], ⟨⟨rfl, rfl⟩, ⟨⟨rfl, rfl⟩, ⟨⟨rfl, rfl⟩, ⟨⟨rfl, rfl⟩, ⟨⟨rfl, rfl⟩, trivial⟩⟩⟩⟩⟩, ⟨⟨rfl, rfl, rfl⟩, trivial⟩, rfl, rfl, rfl⟩; (try dsimp only); exact ⟨⟨by omega, by simp; omega, by rw [hes]; simp⟩, fun _ => (by rw [← h1]; simp), fun h => (by cases h)⟩) | (refine And.intro (And.intro (by simp; omega) (by simp; omega)) ?_) | (refine And.intro (And.intro (by omega) (by omega)) ?_) | fail | fail)
      · rw [if_neg hnx] at h1
        repeat' ((conv => whnf); first | (refine ⟨fun h => ?_, fun h => ?_⟩ <;> try (exfalso; first | omega | exact absurd h (by decide) | exact h rfl | exact absurd (show true = false from h) (by decide) | exact absurd (show false = true from h) (by decide))) | (refine ⟨by omega, fun r hrr => ?_⟩; first | ((have hre : r = e1 x := by (first | exact get_row hrr hx2 | fail)); subst hre)) | (refine ⟨(k + 1, o ++ [x], false, _), ⟨?_, by (try dsimp only); omega⟩, [(0, 1)], ⟨⟨rfl, rfl⟩, ⟨⟨rfl, rfl⟩, ⟨⟨rfl, rfl⟩, ⟨⟨rfl, rfl⟩, ⟨⟨rfl, rfl⟩, trivial⟩⟩⟩⟩⟩, ⟨⟨rfl, rfl, rfl⟩, trivial⟩, rfl, rfl, rfl⟩; (try dsimp only); exact ⟨⟨by omega, by simp; omega, by rw [hes]; simp⟩, fun h => (by cases h), fun _ => (by rw [← h1]; simp)⟩) | (refine And.intro (And.intro (by simp; omega) (by simp; omega)) ?_) | (refine And.intro (And.intro (by omega) (by omega)) ?_) | fail | fail)
  · rw [List.drop_of_length_le (by omega)] at hd1 hd2
    cases d with
    | true =>
      have h1 := hd1 rfl
      rw [List.append_nil] at h1
      repeat' ((conv => whnf); first | (refine ⟨fun h => ?_, fun h => ?_⟩ <;> try (exfalso; first | omega | exact absurd h (by decide) | exact h rfl | exact absurd (show true = false from h) (by decide) | exact absurd (show false = true from h) (by decide))) | fail | fail)
      refine ⟨[], rfl, trivial, ?_⟩
      show leV (L 1 es) (L 1 ((putF n l).map e1))
      rw [← h1, hes]; exact leV_refl _
    | false =>
      have h1 := hd2 rfl
      repeat' ((conv => whnf); first | (refine ⟨fun h => ?_, fun h => ?_⟩ <;> try (exfalso; first | omega | exact absurd h (by decide) | exact h rfl | exact absurd (show true = false from h) (by decide) | exact absurd (show false = true from h) (by decide))) | (refine And.intro (And.intro (by simp; omega) (by simp; omega)) ?_) | fail | fail)
      refine ⟨[], rfl, trivial, ?_⟩
      show leV (L 1 (es ++ [[CV.int .i64 n]])) (L 1 ((putF n l).map e1))
      rw [← h1, hes, putF, List.map_append]; exact leV_refl _
theorem rput_h : Holds Try.prog 111 rputS := holds_of mix Try.func111 rputLow (fun _ => rfl) rputV
/-- A list that may be nil. -/
def NilOr (v : CV) (l : List Int) : Prop := v = .sl 1 (l.map e1) ∨ (v = .nil ∧ l = [])
theorem NilOr.le {v : CV} {l : List Int} (h : NilOr v l) : leV (.c v) (L 1 (l.map e1)) := by
  rcases h with rfl | ⟨rfl, rfl⟩
  · exact leV_refl _
  · show leC .nil (.sl 1 []); rfl

/-! skiarea/skiarearef05.Nodes -/
def rnodes5Ir : IFn := ⟨25, [.tmp 2],
  (.seq (.ops [
    ⟨(some 2), .mov, [.const (.slice none 0 0)], none⟩] false)
  (.seq (.ops [
    ⟨(some 3), .mov, [.const (.slice none 0 0)], none⟩] false)
  (.seq (.seq (.ops [
    ⟨(some 4), .mov, [.const (.int .i64 0)], none⟩] false)
  (.block 0
    (.loop
      (.seq (.seq (.ops [
        ⟨(some 5), .mov, [.tmp 4], none⟩,
        ⟨(some 6), .mov, [.tmp 0], none⟩,
        ⟨(some 7), .len, [.tmp 6], none⟩,
        ⟨(some 8), .cmp .lss, [.tmp 5, .tmp 7], none⟩] false)
      (.cond (.tmp 8)
        .skip
        (.exit 0)))
      (.seq (.block 1
        (.ops [
          ⟨(some 11), .mov, [.tmp 3], none⟩,
          ⟨(some 12), .mov, [.tmp 0], none⟩,
          ⟨(some 13), .mov, [.tmp 4], none⟩,
          ⟨(some 14), .idx 4, [.tmp 12, .tmp 13], none⟩,
          ⟨(some 15), .faddr 1, [.tmp 14], none⟩,
          ⟨(some 16), .load 1 false, [.tmp 15], none⟩,
          ⟨(some 17), .call 111, [.tmp 11, .tmp 16], none⟩,
          ⟨(some 18), .mov, [.tmp 0], none⟩,
          ⟨(some 19), .mov, [.tmp 4], none⟩,
          ⟨(some 20), .idx 4, [.tmp 18, .tmp 19], none⟩,
          ⟨(some 21), .faddr 2, [.tmp 20], none⟩,
          ⟨(some 22), .load 1 false, [.tmp 21], none⟩,
          ⟨(some 23), .call 111, [.tmp 17, .tmp 22], none⟩,
          ⟨(some 3), .mov, [.tmp 23], none⟩] true))
      (.ops [
        ⟨(some 9), .mov, [.tmp 4], none⟩,
        ⟨(some 10), .bin .add .i64 false, [.tmp 9, .const (.int .i64 1)], none⟩,
        ⟨(some 4), .mov, [.tmp 10], none⟩] false))))))
  (.seq (.ops [
    ⟨(some 24), .mov, [.tmp 3], none⟩,
    ⟨(some 2), .mov, [.tmp 24], none⟩] false)
  .ret))))⟩
theorem rnodes5Low : lowF Try.prog {} Try.f112 = some rnodes5Ir := by kernel_rfl
def rnodes5S : Spec := spec (List Ed) (fun l => [L 4 (l.map encD)]) (fun l => l.length ≤ 1000) (fun l => L 1 ((nodesF l).map e1))
theorem rnodes5V : fnV Try.prog rnodes5Ir rnodes5S := by
  intro (l : List Ed) (hx : l.length ≤ 1000)
  have hl : (l.map encD).length = l.length := List.length_map ..
  show vc _ _ _ _ ⟨argEnv 0 [L 4 (l.map encD)], [], 0⟩
  conv => whnf
  refine ⟨Nat × CV, fun xq => ⟨[(0, L 4 (l.map encD)), (3, .c xq.2), (4, I xq.1)], [], 0⟩, fun xq => xq.1 ≤ l.length ∧ NilOr xq.2 (nodesF (l.take xq.1)), fun xq => l.length - xq.1, ⟨(0, _), ?_, [], ⟨⟨rfl, rfl⟩, ⟨⟨rfl, rfl⟩, ⟨⟨rfl, rfl⟩, trivial⟩⟩⟩, trivial, rfl, rfl, rfl⟩, ?_⟩
  · (try dsimp only); exact ⟨Nat.zero_le _, .inr ⟨rfl, rfl⟩⟩
  rintro ⟨k, v⟩ hk
  obtain ⟨hk, hv⟩ : k ≤ l.length ∧ NilOr v (nodesF (l.take k)) := hk
  (try dsimp only)
  by_cases hkl : k < l.length
  · obtain ⟨e, hx2⟩ := getElem_some hkl
    have hn1 := nodes_len (l.take k)
    rw [List.length_take, Nat.min_eq_left (by omega)] at hn1
    have hn2 := put_len e.fr (nodesF (l.take k))
    have hst : putF e.to (putF e.fr (nodesF (l.take k))) = nodesF (l.take (k + 1)) := by unfold nodesF; rw [take_snoc l k e hx2, List.foldl_append]; rfl
    repeat' ((conv => whnf); first | (refine ⟨fun h => ?_, fun h => ?_⟩ <;> try (exfalso; first | omega | exact absurd h (by decide) | exact h rfl | exact absurd (show true = false from h) (by decide) | exact absurd (show false = true from h) (by decide))) | (refine ⟨by omega, fun r hrr => ?_⟩; first | ((have hre : r = encD e := by (first | exact get_row hrr hx2 | fail)); subst hre)) | (refine ⟨_, rput_h, (nodesF (l.take k), e.fr), (by show (nodesF (l.take k)).length ≤ 1000000; omega), ⟨hv.le, rfl, trivial⟩, .inl rfl, rfl, ?_⟩; show norm (L 1 ((putF (e.fr) (nodesF (l.take k))).map e1)) _) | (refine ⟨_, rput_h, (putF e.fr (nodesF (l.take k)), e.to), (by show (putF e.fr (nodesF (l.take k))).length ≤ 1000000; omega), leVs_of_eq rfl, .inl rfl, rfl, ?_⟩; show norm (L 1 ((putF (e.to) (putF e.fr (nodesF (l.take k)))).map e1)) _) | (refine ⟨(k + 1, _), ⟨?_, by (try dsimp only); omega⟩, [], ⟨⟨rfl, rfl⟩, ⟨⟨rfl, rfl⟩, ⟨⟨rfl, rfl⟩, trivial⟩⟩⟩, trivial, rfl, rfl, rfl⟩; (try dsimp only); exact ⟨by omega, .inl (by rw [← hst])⟩) | (refine And.intro (And.intro (by omega) (by omega)) ?_) | fail | fail)
  · rw [take_end hkl] at hv
    repeat' ((conv => whnf); first | (refine ⟨fun h => ?_, fun h => ?_⟩ <;> try (exfalso; first | omega | exact absurd h (by decide) | exact h rfl | exact absurd (show true = false from h) (by decide) | exact absurd (show false = true from h) (by decide))) | fail | fail)
    exact ⟨[], rfl, trivial, hv.le⟩
theorem rnodes5_h : Holds Try.prog 112 rnodes5S := holds_of mix Try.func112 rnodes5Low (fun _ => rfl) rnodes5V

/-! skiarea/skiarearef05.through -/
def rthrIr : IFn := ⟨18, [.cell 4 4 true],
  (.seq (.ops [
    ⟨(some 2), .box, [.tmp 0], none⟩,
    ⟨(some 3), .box, [.tmp 1], none⟩,
    ⟨(some 4), .alloc [.int .i64 0, .int .i64 0, .int .i64 0, .bool false], [], none⟩] false)
  (.seq (.ops [
    ⟨(some 5), .faddr 1, [.tmp 2], none⟩,
    ⟨(some 6), .load 1 false, [.tmp 5], none⟩,
    ⟨(some 7), .faddr 1, [.tmp 3], none⟩,
    ⟨(some 8), .load 1 false, [.tmp 7], none⟩,
    ⟨(some 9), .faddr 3, [.tmp 2], none⟩,
    ⟨(some 10), .load 1 false, [.tmp 9], none⟩,
    ⟨(some 11), .bin .add .i64 false, [.tmp 8, .tmp 10], none⟩,
    ⟨(some 12), .faddr 2, [.tmp 3], none⟩,
    ⟨(some 13), .load 1 false, [.tmp 12], none⟩,
    ⟨(some 14), .bin .add .i64 false, [.tmp 13, .const (.int .i64 1)], none⟩,
    ⟨(some 15), .faddr 3, [.tmp 3], none⟩,
    ⟨(some 16), .load 1 false, [.tmp 15], none⟩,
    ⟨(some 17), .build [.int .i64 0, .int .i64 0, .int .i64 0, .bool false] [(0, 1), (1, 1), (2, 1), (3, 1)], [.tmp 6, .tmp 11, .tmp 14, .tmp 16], none⟩,
    ⟨none, .store 4, [.tmp 4, .tmp 17], none⟩] false)
  .ret))⟩
theorem rthrLow : lowF Try.prog {} Try.f100 = some rthrIr := by kernel_rfl
def rthrS : Spec := spec (Ed × Lb) (fun p => [aD p.1, aP p.2]) (fun p => ((0 ≤ p.2.c ∧ p.2.c ≤ 1000000000000000) ∧ 0 ≤ p.2.k ∧ p.2.k ≤ 1000000000) ∧ 0 ≤ p.1.cost ∧ p.1.cost ≤ 1000000) (fun p => aP (thrP p.1 p.2))
theorem rthrV : fnV Try.prog rthrIr rthrS := by
  intro ⟨⟨(i : Int), (a : Int), (b : Int), (w : Int)⟩, ⟨(n : Int), (c : Int), (k : Int), (ok : Bool)⟩⟩ hx
  obtain ⟨⟨⟨a1, a2⟩, a3, a4⟩, a5, a6⟩ : ((0 ≤ c ∧ c ≤ 1000000000000000) ∧ 0 ≤ k ∧ k ≤ 1000000000) ∧ 0 ≤ w ∧ w ≤ 1000000 := hx
  show vc _ _ _ _ ⟨argEnv 0 [aD ⟨i, a, b, w⟩, aP ⟨n, c, k, ok⟩], [], 0⟩
  cases ok
  all_goals
    repeat' ((conv => whnf); first | (refine ⟨fun h => ?_, fun h => ?_⟩ <;> try (exfalso; first | omega | exact absurd h (by decide) | exact h rfl | exact absurd (show true = false from h) (by decide) | exact absurd (show false = true from h) (by decide))) | (refine And.intro (And.intro (by dsimp only; omega) (by dsimp only; omega)) ?_) | fail | fail)
    exact ⟨[], rfl, trivial, ⟨rfl, rfl, rfl, rfl, trivial⟩⟩
theorem rthr_h : Holds Try.prog 100 rthrS := holds_of mix Try.func100 rthrLow (fun _ => rfl) rthrV

/-! skiarea/skiarearef05.less -/
def rless5Ir : IFn := ⟨39, [.tmp 4],
  (.seq (.ops [
    ⟨(some 2), .box, [.tmp 0], none⟩,
    ⟨(some 3), .box, [.tmp 1], none⟩,
    ⟨(some 4), .mov, [.const (.bool false)], none⟩] false)
  (.seq (.seq (.ops [
    ⟨(some 5), .faddr 3, [.tmp 2], none⟩,
    ⟨(some 6), .load 1 false, [.tmp 5], none⟩,
    ⟨(some 7), .not, [.tmp 6], none⟩,
    ⟨(some 8), .mov, [.tmp 7], none⟩,
    ⟨(some 9), .faddr 3, [.tmp 3], (some (8, false))⟩,
    ⟨(some 10), .load 1 false, [.tmp 9], (some (8, false))⟩,
    ⟨(some 11), .not, [.tmp 10], (some (8, false))⟩,
    ⟨(some 12), .pick, [.tmp 8, .const (.bool true), .tmp 11], none⟩] false)
  (.cond (.tmp 12)
    (.seq (.ops [
      ⟨(some 13), .faddr 3, [.tmp 2], none⟩,
      ⟨(some 14), .load 1 false, [.tmp 13], none⟩,
      ⟨(some 15), .mov, [.tmp 14], none⟩,
      ⟨(some 16), .faddr 3, [.tmp 3], (some (15, true))⟩,
      ⟨(some 17), .load 1 false, [.tmp 16], (some (15, true))⟩,
      ⟨(some 18), .not, [.tmp 17], (some (15, true))⟩,
      ⟨(some 19), .pick, [.tmp 15, .tmp 18, .const (.bool false)], none⟩,
      ⟨(some 4), .mov, [.tmp 19], none⟩] false)
    .ret)
    .skip))
  (.seq (.ops [
    ⟨(some 20), .faddr 1, [.tmp 2], none⟩,
    ⟨(some 21), .load 1 false, [.tmp 20], none⟩,
    ⟨(some 22), .faddr 1, [.tmp 3], none⟩,
    ⟨(some 23), .load 1 false, [.tmp 22], none⟩,
    ⟨(some 24), .cmp .lss, [.tmp 21, .tmp 23], none⟩,
    ⟨(some 25), .mov, [.tmp 24], none⟩,
    ⟨(some 26), .faddr 1, [.tmp 2], (some (25, false))⟩,
    ⟨(some 27), .load 1 false, [.tmp 26], (some (25, false))⟩,
    ⟨(some 28), .faddr 1, [.tmp 3], (some (25, false))⟩,
    ⟨(some 29), .load 1 false, [.tmp 28], (some (25, false))⟩,
    ⟨(some 30), .cmp .eql, [.tmp 27, .tmp 29], (some (25, false))⟩,
    ⟨(some 31), .mov, [.tmp 30], (some (25, false))⟩,
    ⟨(some 32), .faddr 2, [.tmp 2], (some (31, true))⟩,
    ⟨(some 33), .load 1 false, [.tmp 32], (some (31, true))⟩,
    ⟨(some 34), .faddr 2, [.tmp 3], (some (31, true))⟩,
    ⟨(some 35), .load 1 false, [.tmp 34], (some (31, true))⟩,
    ⟨(some 36), .cmp .lss, [.tmp 33, .tmp 35], (some (31, true))⟩,
    ⟨(some 37), .pick, [.tmp 31, .tmp 36, .const (.bool false)], (some (25, false))⟩,
    ⟨(some 38), .pick, [.tmp 25, .const (.bool true), .tmp 37], none⟩,
    ⟨(some 4), .mov, [.tmp 38], none⟩] false)
  .ret)))⟩
theorem rless5Low : lowF Try.prog {} Try.f113 = some rless5Ir := by kernel_rfl
def rless5S : Spec := spec (Lb × Lb) (fun p => [aP p.1, aP p.2]) (fun _ => True) (fun p => B (lessP p.1 p.2))
theorem rless5V : fnV Try.prog rless5Ir rless5S := by
  intro ⟨⟨(n1 : Int), (x1 : Int), (k1 : Int), (o1 : Bool)⟩, ⟨(n2 : Int), (x2 : Int), (k2 : Int), (o2 : Bool)⟩⟩ hx
  show vc _ _ _ _ ⟨argEnv 0 [aP ⟨n1, x1, k1, o1⟩, aP ⟨n2, x2, k2, o2⟩], [], 0⟩
  cases o1 <;> cases o2
  · repeat' ((conv => whnf); first | (refine ⟨fun h => ?_, fun h => ?_⟩ <;> try (exfalso; first | omega | exact absurd h (by decide) | exact h rfl | exact absurd (show true = false from h) (by decide) | exact absurd (show false = true from h) (by decide))) | refine ⟨[], rfl, trivial, congrArg CV.bool ?_⟩ | fail)
    all_goals rfl
  · repeat' ((conv => whnf); first | (refine ⟨fun h => ?_, fun h => ?_⟩ <;> try (exfalso; first | omega | exact absurd h (by decide) | exact h rfl | exact absurd (show true = false from h) (by decide) | exact absurd (show false = true from h) (by decide))) | refine ⟨[], rfl, trivial, congrArg CV.bool ?_⟩ | fail)
    all_goals rfl
  · repeat' ((conv => whnf); first | (refine ⟨fun h => ?_, fun h => ?_⟩ <;> try (exfalso; first | omega | exact absurd h (by decide) | exact h rfl | exact absurd (show true = false from h) (by decide) | exact absurd (show false = true from h) (by decide))) | refine ⟨[], rfl, trivial, congrArg CV.bool ?_⟩ | fail)
    all_goals rfl
  · have hR : lessP ⟨n1, x1, k1, true⟩ ⟨n2, x2, k2, true⟩ = decide (x1 < x2 ∨ (x1 = x2 ∧ k1 < k2)) := by unfold lessP; rw [if_pos ⟨rfl, rfl⟩]
    repeat' ((conv => whnf); first | (refine ⟨fun h => ?_, fun h => ?_⟩ <;> try (exfalso; first | omega | exact absurd h (by decide) | exact h rfl | exact absurd (show true = false from h) (by decide) | exact absurd (show false = true from h) (by decide))) | refine ⟨[], rfl, trivial, congrArg CV.bool ?_⟩ | fail)
    all_goals (show _ = lessP _ _; rw [hR]; (try dsimp only at *))
    all_goals first | exact (decide_eq_true (by omega)).symm | exact (decide_eq_false (by omega)).symm
theorem rless5_h : Holds Try.prog 113 rless5S := holds_of mix Try.func113 rless5Low (fun _ => rfl) rless5V

/-! skiarea/skiarearef05.find -/
def rfind5Ir : IFn := ⟨25, [.cell 4 4 true],
  (.seq (.ops [
    ⟨(some 4), .alloc [.int .i64 0, .int .i64 0, .int .i64 0, .bool false], [], none⟩] false)
  (.seq (.seq (.ops [
    ⟨(some 5), .mov, [.const (.int .i64 0)], none⟩] false)
  (.block 0
    (.loop
      (.seq (.seq (.ops [
        ⟨(some 6), .mov, [.tmp 5], none⟩,
        ⟨(some 7), .mov, [.tmp 0], none⟩,
        ⟨(some 8), .len, [.tmp 7], none⟩,
        ⟨(some 9), .cmp .lss, [.tmp 6, .tmp 8], none⟩] false)
      (.cond (.tmp 9)
        .skip
        (.exit 0)))
      (.seq (.block 1
        (.seq (.ops [
          ⟨(some 12), .mov, [.tmp 0], none⟩,
          ⟨(some 13), .mov, [.tmp 5], none⟩,
          ⟨(some 14), .idx 4, [.tmp 12, .tmp 13], none⟩,
          ⟨(some 15), .faddr 0, [.tmp 14], none⟩,
          ⟨(some 16), .load 1 false, [.tmp 15], none⟩,
          ⟨(some 17), .mov, [.tmp 1], none⟩,
          ⟨(some 18), .cmp .eql, [.tmp 16, .tmp 17], none⟩] false)
        (.cond (.tmp 18)
          (.seq (.ops [
            ⟨(some 19), .mov, [.tmp 0], none⟩,
            ⟨(some 20), .mov, [.tmp 5], none⟩,
            ⟨(some 21), .idx 4, [.tmp 19, .tmp 20], none⟩,
            ⟨(some 22), .load 4 true, [.tmp 21], none⟩,
            ⟨none, .store 4, [.tmp 4, .tmp 22], none⟩] false)
          .ret)
          .skip)))
      (.ops [
        ⟨(some 10), .mov, [.tmp 5], none⟩,
        ⟨(some 11), .bin .add .i64 false, [.tmp 10, .const (.int .i64 1)], none⟩,
        ⟨(some 5), .mov, [.tmp 11], none⟩] false))))))
  (.seq (.ops [
    ⟨(some 23), .mov, [.tmp 1], none⟩,
    ⟨(some 24), .build [.int .i64 0, .int .i64 0, .int .i64 0, .bool false] [(0, 1)], [.tmp 23], none⟩,
    ⟨none, .store 4, [.tmp 4, .tmp 24], none⟩] false)
  .ret)))⟩
theorem rfind5Low : lowF Try.prog {} Try.f99 = some rfind5Ir := by kernel_rfl
def rfind5S : Spec := spec (List Lb × Int) (fun p => [L 4 (p.1.map encP), I p.2]) (fun p => p.1.length ≤ 1000000) (fun p => aP (findP p.1 p.2))
theorem rfind5V : fnV Try.prog rfind5Ir rfind5S := by
  intro ⟨(l : List Lb), (n : Int)⟩ hx
  replace hx : l.length ≤ 1000000 := hx
  have hl : (l.map encP).length = l.length := List.length_map ..
  show vc _ _ _ _ ⟨argEnv 0 [L 4 (l.map encP), I n], [], 0⟩
  conv => whnf
  refine ⟨Nat, fun xq => ⟨[(0, L 4 (l.map encP)), (1, I n), (4, .bp 0 0), (5, I xq)], [(0, .box [.c (.int .i64 0), .c (.int .i64 0), .c (.int .i64 0), .c (.bool false)])], 1⟩, fun xq => xq ≤ l.length ∧ ∀ y ∈ l.take xq, decide (y.n = n) = false, fun xq => l.length - xq, ⟨0, ?_, [], ⟨⟨rfl, rfl⟩, ⟨⟨rfl, rfl⟩, ⟨⟨rfl, rfl⟩, ⟨⟨rfl, rfl⟩, trivial⟩⟩⟩⟩, ⟨⟨rfl, rfl, rfl⟩, trivial⟩, rfl, rfl, rfl⟩, ?_⟩
  · (try dsimp only); exact ⟨Nat.zero_le _, by simp⟩
  rintro k hk
  obtain ⟨hk, hn⟩ : k ≤ l.length ∧ ∀ y ∈ l.take k, decide (y.n = n) = false := hk
  (try dsimp only)
  by_cases hkl : k < l.length
  · obtain ⟨x, hx2⟩ := getElem_some hkl
    by_cases hxn : x.n = n
    · have hf : findP l n = x := by unfold findP; rw [first_at hx2 hn (decide_eq_true hxn)]; rfl
      repeat' ((conv => whnf); first | (refine ⟨fun h => ?_, fun h => ?_⟩ <;> try (exfalso; first | omega | exact absurd h (by decide) | exact h rfl | exact absurd (show true = false from h) (by decide) | exact absurd (show false = true from h) (by decide))) | (refine ⟨by omega, fun r hrr => ?_⟩; first | ((have hre : r = encP x := by (first | exact get_row hrr hx2 | fail)); subst hre)) | fail | fail)
      refine ⟨[], rfl, trivial, ?_⟩
      show leR _ (aP (findP l n))
      rw [hf]; exact (show leV (aP x) (aP x) from leV_refl _)
    · repeat' ((conv => whnf); first | (refine ⟨fun h => ?_, fun h => ?_⟩ <;> try (exfalso; first | omega | exact absurd h (by decide) | exact h rfl | exact absurd (show true = false from h) (by decide) | exact absurd (show false = true from h) (by decide))) | (refine ⟨by omega, fun r hrr => ?_⟩; first | ((have hre : r = encP x := by (first | exact get_row hrr hx2 | fail)); subst hre)) | (refine ⟨k + 1, ⟨?_, by (try dsimp only); omega⟩, [], ⟨⟨rfl, rfl⟩, ⟨⟨rfl, rfl⟩, ⟨⟨rfl, rfl⟩, ⟨⟨rfl, rfl⟩, trivial⟩⟩⟩⟩, ⟨⟨rfl, rfl, rfl⟩, trivial⟩, rfl, rfl, rfl⟩; (try dsimp only); exact ⟨by omega, first_step hx2 hn (decide_eq_false hxn)⟩) | (refine And.intro (And.intro (by omega) (by omega)) ?_) | fail | fail)
  · rw [take_end hkl] at hn
    have hf : findP l n = ⟨n, 0, 0, false⟩ := by unfold findP; rw [first_none hn]; rfl
    repeat' ((conv => whnf); first | (refine ⟨fun h => ?_, fun h => ?_⟩ <;> try (exfalso; first | omega | exact absurd h (by decide) | exact h rfl | exact absurd (show true = false from h) (by decide) | exact absurd (show false = true from h) (by decide))) | fail | fail)
    refine ⟨[], rfl, trivial, ?_⟩
    show leR _ (aP (findP l n))
    rw [hf]; exact (show leV (aP ⟨n, 0, 0, false⟩) (aP ⟨n, 0, 0, false⟩) from leV_refl _)
theorem rfind5_h : Holds Try.prog 99 rfind5S := holds_of mix Try.func99 rfind5Low (fun _ => rfl) rfind5V

/-! skiarea/skiarearef57.both -/
def bothIr : IFn := ⟨81, [.tmp 2],
  (.seq (.ops [
    ⟨(some 1), .box, [.tmp 0], none⟩,
    ⟨(some 2), .mov, [.const (.slice none 0 0)], none⟩] false)
  (.seq (.ops [
    ⟨(some 3), .nilOwn 129 4, [], none⟩] false)
  (.seq (.seq (.ops [
    ⟨(some 4), .mov, [.const (.int .i64 0)], none⟩] false)
  (.block 0
    (.loop
      (.seq (.seq (.ops [
        ⟨(some 8), .mov, [.tmp 4], none⟩,
        ⟨(some 9), .faddr 2, [.tmp 1], none⟩,
        ⟨(some 10), .load 1 false, [.tmp 9], none⟩,
        ⟨(some 11), .len, [.tmp 10], none⟩,
        ⟨(some 12), .cmp .lss, [.tmp 8, .tmp 11], none⟩] false)
      (.cond (.tmp 12)
        .skip
        (.exit 0)))
      (.seq (.block 1
        (.seq (.ops [
          ⟨(some 15), .faddr 2, [.tmp 1], none⟩,
          ⟨(some 16), .load 1 false, [.tmp 15], none⟩,
          ⟨(some 17), .mov, [.tmp 4], none⟩,
          ⟨(some 18), .idx 7, [.tmp 16, .tmp 17], none⟩,
          ⟨(some 19), .load 7 true, [.tmp 18], none⟩,
          ⟨(some 5), .alloc [.int .i64 0, .int .i64 0, .int .i64 0, .int .i64 0, .int .i64 0, .int .i64 0, .int .i64 0], [], none⟩,
          ⟨none, .store 7, [.tmp 5, .tmp 19], none⟩] false)
        (.seq (.ops [
          ⟨(some 20), .mov, [.tmp 3], none⟩,
          ⟨(some 21), .mov, [.tmp 3], none⟩,
          ⟨(some 22), .len, [.tmp 21], none⟩,
          ⟨(some 23), .faddr 2, [.tmp 5], none⟩,
          ⟨(some 24), .load 1 false, [.tmp 23], none⟩,
          ⟨(some 25), .faddr 3, [.tmp 5], none⟩,
          ⟨(some 26), .load 1 false, [.tmp 25], none⟩,
          ⟨(some 27), .faddr 6, [.tmp 5], none⟩,
          ⟨(some 28), .load 1 false, [.tmp 27], none⟩,
          ⟨(some 29), .build [.int .i64 0, .int .i64 0, .int .i64 0, .int .i64 0] [(0, 1), (1, 1), (2, 1), (3, 1)], [.tmp 22, .tmp 24, .tmp 26, .tmp 28], none⟩,
          ⟨(some 30), .buildSl 129 4, [.tmp 29], none⟩,
          ⟨(some 31), .append 129 4 32, [.tmp 20, .tmp 30], none⟩,
          ⟨(some 3), .mov, [.tmp 31], none⟩] false)
        (.ops [
          ⟨(some 32), .mov, [.tmp 3], none⟩,
          ⟨(some 33), .mov, [.tmp 3], none⟩,
          ⟨(some 34), .len, [.tmp 33], none⟩,
          ⟨(some 35), .faddr 3, [.tmp 5], none⟩,
          ⟨(some 36), .load 1 false, [.tmp 35], none⟩,
          ⟨(some 37), .faddr 2, [.tmp 5], none⟩,
          ⟨(some 38), .load 1 false, [.tmp 37], none⟩,
          ⟨(some 39), .faddr 6, [.tmp 5], none⟩,
          ⟨(some 40), .load 1 false, [.tmp 39], none⟩,
          ⟨(some 41), .build [.int .i64 0, .int .i64 0, .int .i64 0, .int .i64 0] [(0, 1), (1, 1), (2, 1), (3, 1)], [.tmp 34, .tmp 36, .tmp 38, .tmp 40], none⟩,
          ⟨(some 42), .buildSl 129 4, [.tmp 41], none⟩,
          ⟨(some 43), .append 129 4 32, [.tmp 32, .tmp 42], none⟩,
          ⟨(some 3), .mov, [.tmp 43], none⟩] false))))
      (.ops [
        ⟨(some 13), .mov, [.tmp 4], none⟩,
        ⟨(some 14), .bin .add .i64 false, [.tmp 13, .const (.int .i64 1)], none⟩,
        ⟨(some 4), .mov, [.tmp 14], none⟩] false))))))
  (.seq (.seq (.ops [
    ⟨(some 6), .mov, [.const (.int .i64 0)], none⟩] false)
  (.block 2
    (.loop
      (.seq (.seq (.ops [
        ⟨(some 44), .mov, [.tmp 6], none⟩,
        ⟨(some 45), .faddr 1, [.tmp 1], none⟩,
        ⟨(some 46), .load 1 false, [.tmp 45], none⟩,
        ⟨(some 47), .len, [.tmp 46], none⟩,
        ⟨(some 48), .cmp .lss, [.tmp 44, .tmp 47], none⟩] false)
      (.cond (.tmp 48)
        .skip
        (.exit 2)))
      (.seq (.block 3
        (.seq (.ops [
          ⟨(some 51), .faddr 1, [.tmp 1], none⟩,
          ⟨(some 52), .load 1 false, [.tmp 51], none⟩,
          ⟨(some 53), .mov, [.tmp 6], none⟩,
          ⟨(some 54), .idx 8, [.tmp 52, .tmp 53], none⟩,
          ⟨(some 55), .load 8 true, [.tmp 54], none⟩,
          ⟨(some 7), .alloc [.int .i64 0, .int .i64 0, .int .i64 0, .int .i64 0, .int .i64 0, .int .i64 0, .int .i64 0, .int .i64 0], [], none⟩,
          ⟨none, .store 8, [.tmp 7, .tmp 55], none⟩] false)
        (.seq (.ops [
          ⟨(some 56), .mov, [.tmp 3], none⟩,
          ⟨(some 57), .mov, [.tmp 3], none⟩,
          ⟨(some 58), .len, [.tmp 57], none⟩,
          ⟨(some 59), .faddr 2, [.tmp 7], none⟩,
          ⟨(some 60), .load 1 false, [.tmp 59], none⟩,
          ⟨(some 61), .faddr 3, [.tmp 7], none⟩,
          ⟨(some 62), .load 1 false, [.tmp 61], none⟩,
          ⟨(some 63), .faddr 4, [.tmp 7], none⟩,
          ⟨(some 64), .load 1 false, [.tmp 63], none⟩,
          ⟨(some 65), .build [.int .i64 0, .int .i64 0, .int .i64 0, .int .i64 0] [(0, 1), (1, 1), (2, 1), (3, 1)], [.tmp 58, .tmp 60, .tmp 62, .tmp 64], none⟩,
          ⟨(some 66), .buildSl 129 4, [.tmp 65], none⟩,
          ⟨(some 67), .append 129 4 32, [.tmp 56, .tmp 66], none⟩,
          ⟨(some 3), .mov, [.tmp 67], none⟩] false)
        (.ops [
          ⟨(some 68), .mov, [.tmp 3], none⟩,
          ⟨(some 69), .mov, [.tmp 3], none⟩,
          ⟨(some 70), .len, [.tmp 69], none⟩,
          ⟨(some 71), .faddr 3, [.tmp 7], none⟩,
          ⟨(some 72), .load 1 false, [.tmp 71], none⟩,
          ⟨(some 73), .faddr 2, [.tmp 7], none⟩,
          ⟨(some 74), .load 1 false, [.tmp 73], none⟩,
          ⟨(some 75), .faddr 4, [.tmp 7], none⟩,
          ⟨(some 76), .load 1 false, [.tmp 75], none⟩,
          ⟨(some 77), .build [.int .i64 0, .int .i64 0, .int .i64 0, .int .i64 0] [(0, 1), (1, 1), (2, 1), (3, 1)], [.tmp 70, .tmp 72, .tmp 74, .tmp 76], none⟩,
          ⟨(some 78), .buildSl 129 4, [.tmp 77], none⟩,
          ⟨(some 79), .append 129 4 32, [.tmp 68, .tmp 78], none⟩,
          ⟨(some 3), .mov, [.tmp 79], none⟩] false))))
      (.ops [
        ⟨(some 49), .mov, [.tmp 6], none⟩,
        ⟨(some 50), .bin .add .i64 false, [.tmp 49, .const (.int .i64 1)], none⟩,
        ⟨(some 6), .mov, [.tmp 50], none⟩] false))))))
  (.seq (.ops [
    ⟨(some 80), .mov, [.tmp 3], none⟩,
    ⟨(some 2), .mov, [.tmp 80], none⟩] false)
  .ret)))))⟩
theorem bothLow : lowF Try.prog { owns := [(3, 129)] } Try.f80 = some bothIr := by kernel_rfl
def bothS : Spec := spec Mp (fun m => [aM m]) MapOk (fun m => L 4 ((bothF m).map encD))
set_option maxHeartbeats 2000000 in
theorem bothV : fnV Try.prog bothIr bothS := by
  intro (m : Mp) (hm : MapOk m)
  obtain ⟨⟨⟨n1, n2⟩, n3, n4⟩, hn1, hn2, _⟩ := hm
  have hl : (m.lifts.map encL).length = m.lifts.length := List.length_map ..
  have hr : (m.runs.map encU).length = m.runs.length := List.length_map ..
  have hlm : (m.runs.map runT).length = m.runs.length := List.length_map ..
  show vc _ _ _ _ ⟨argEnv 0 [aM m], [], 0⟩
  conv => whnf
  refine ⟨Nat × (List Ed) × (List (List CV)), fun xq => ⟨[(1, .bp 0 0), (3, .osl 1), (4, I xq.1)], [(0, .box [L 2 (m.nodes.map encN), L 8 (m.lifts.map encL), L 7 (m.runs.map encU), L 1 (m.bases.map e1)]), (1, .row 129 4 xq.2.2)], 2⟩, fun xq => (xq.1 ≤ m.runs.length ∧ xq.2.1 = edgesT ([] ++ (m.runs.take xq.1).map runT)) ∧ xq.2.2 = (xq.2.1).map encD, fun xq => m.runs.length - xq.1, ⟨(0, [], []), ?_, [], ⟨⟨rfl, rfl⟩, ⟨⟨rfl, rfl⟩, ⟨⟨rfl, rfl⟩, trivial⟩⟩⟩, ⟨⟨rfl, rfl, rfl⟩, ⟨⟨rfl, rfl, rfl⟩, trivial⟩⟩, rfl, rfl, rfl⟩, ?_⟩
  · (try dsimp only); exact ⟨⟨Nat.zero_le _, rfl⟩, rfl⟩
  rintro ⟨k, E, es⟩ hk
  obtain ⟨⟨hk, hE⟩, hes⟩ : (k ≤ m.runs.length ∧ E = edgesT ([] ++ (m.runs.take k).map runT)) ∧ es = (E).map encD := hk
  (try dsimp only)
  have hel : es.length = E.length := by rw [hes, List.length_map]
  by_cases hkl : k < m.runs.length
  · obtain ⟨x, hx2⟩ := getElem_some hkl
    have hE0 : E.length ≤ 1000 := by
      have := tr_len (f := runT) (us := []) (l := m.runs) (k := k) (n := 96) (by simp; omega)
      rw [hE]; omega
    repeat' ((conv => whnf); first | (refine ⟨fun h => ?_, fun h => ?_⟩ <;> try (exfalso; first | omega | exact absurd h (by decide) | exact h rfl | exact absurd (show true = false from h) (by decide) | exact absurd (show false = true from h) (by decide))) | (refine ⟨by omega, fun r hrr => ?_⟩; first | ((have hre : r = encU x := by (first | exact get_row hrr hx2 | fail)); subst hre)) | (refine ⟨(k + 1, addT E (runT x), _), ⟨?_, by (try dsimp only); omega⟩, [(1, 4)], ⟨⟨rfl, rfl⟩, ⟨⟨rfl, rfl⟩, ⟨⟨rfl, rfl⟩, trivial⟩⟩⟩, ⟨⟨rfl, rfl, rfl⟩, ⟨⟨rfl, rfl, rfl⟩, trivial⟩⟩, rfl, rfl, rfl⟩; (try dsimp only); exact ⟨⟨by omega, by rw [tr_step (f := runT) hx2, hE]⟩, by rw [hes]; simp [addT, encD]⟩) | (refine And.intro (And.intro (by simp; omega) (by simp; omega)) ?_) | (refine And.intro (And.intro (by omega) (by omega)) ?_) | fail | fail)
  · rw [take_end hkl] at hE
    repeat' ((conv => whnf); first | (refine ⟨fun h => ?_, fun h => ?_⟩ <;> try (exfalso; first | omega | exact absurd h (by decide) | exact h rfl | exact absurd (show true = false from h) (by decide) | exact absurd (show false = true from h) (by decide))) | fail | fail)
    refine ⟨Nat × (List Ed) × (List (List CV)), fun xq => ⟨[(1, .bp 0 0), (3, .osl 1), (6, I xq.1)], [(0, .box [L 2 (m.nodes.map encN), L 8 (m.lifts.map encL), L 7 (m.runs.map encU), L 1 (m.bases.map e1)]), (1, .row 129 4 xq.2.2)], 2⟩, fun xq => (xq.1 ≤ m.lifts.length ∧ xq.2.1 = edgesT (m.runs.map runT ++ (m.lifts.take xq.1).map liftT)) ∧ xq.2.2 = (xq.2.1).map encD, fun xq => m.lifts.length - xq.1, ⟨(0, E, es), ?_, [], ⟨⟨rfl, rfl⟩, ⟨⟨rfl, rfl⟩, ⟨⟨rfl, rfl⟩, trivial⟩⟩⟩, ⟨⟨rfl, rfl, rfl⟩, ⟨⟨rfl, rfl, rfl⟩, trivial⟩⟩, rfl, rfl, rfl⟩, ?_⟩
    · (try dsimp only); exact ⟨⟨Nat.zero_le _, hE.trans (by simp)⟩, hes⟩
    clear hes hel; rintro ⟨k, F, es⟩ hk
    obtain ⟨⟨hk2, hE⟩, hes⟩ : (k ≤ m.lifts.length ∧ F = edgesT (m.runs.map runT ++ (m.lifts.take k).map liftT)) ∧ es = (F).map encD := hk
    (try dsimp only)
    have hel : es.length = F.length := by rw [hes, List.length_map]
    by_cases hkl : k < m.lifts.length
    · obtain ⟨x, hx2⟩ := getElem_some hkl
      have hE0 : F.length ≤ 1000 := by
        have := tr_len (f := liftT) (us := m.runs.map runT) (l := m.lifts) (k := k) (n := 96) (by omega)
        rw [hE]; omega
      repeat' ((conv => whnf); first | (refine ⟨fun h => ?_, fun h => ?_⟩ <;> try (exfalso; first | omega | exact absurd h (by decide) | exact h rfl | exact absurd (show true = false from h) (by decide) | exact absurd (show false = true from h) (by decide))) | (refine ⟨by omega, fun r hrr => ?_⟩; first | ((have hre : r = encL x := by (first | exact get_row hrr hx2 | fail)); subst hre)) | (refine ⟨(k + 1, addT F (liftT x), _), ⟨?_, by (try dsimp only); omega⟩, [(1, 4)], ⟨⟨rfl, rfl⟩, ⟨⟨rfl, rfl⟩, ⟨⟨rfl, rfl⟩, trivial⟩⟩⟩, ⟨⟨rfl, rfl, rfl⟩, ⟨⟨rfl, rfl, rfl⟩, trivial⟩⟩, rfl, rfl, rfl⟩; (try dsimp only); exact ⟨⟨by omega, by rw [tr_step (f := liftT) hx2, hE]⟩, by rw [hes]; simp [addT, encD]⟩) | (refine And.intro (And.intro (by simp; omega) (by simp; omega)) ?_) | (refine And.intro (And.intro (by omega) (by omega)) ?_) | fail | fail)
    · rw [take_end hkl] at hE
      repeat' ((conv => whnf); first | (refine ⟨fun h => ?_, fun h => ?_⟩ <;> try (exfalso; first | omega | exact absurd h (by decide) | exact h rfl | exact absurd (show true = false from h) (by decide) | exact absurd (show false = true from h) (by decide))) | fail | fail)
      refine ⟨[], rfl, trivial, ?_⟩
      show leV (L 4 es) (L 4 ((bothF m).map encD))
      unfold bothF
      rw [hes, hE]
      exact leV_refl _
theorem both_h : Holds Try.prog 80 bothS := holds_of mix Try.func80 bothLow (fun _ => rfl) bothV

end Go.Proofs.Ytoeichkblclfaaa
