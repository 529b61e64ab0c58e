/- The clock: Length and Minus. -/
import Derived.Test.YtmehmnlhnbeeeaaF4
import Derived.Test.YtmehmnlhnbeeeaaP4
namespace Go.Proofs.Ytmehmnlhnbeeeaa
open Go.RowKit

/-! skiarea/clock.Length -/
def lengthIr : IFn := ⟨22, [.tmp 2],
  (.seq (.ops [
    ⟨(some 2), .mov, [.const (.int .i64 0)], none⟩] false)
  (.seq (.ops [
    ⟨(some 3), .mov, [.const (.int .i64 0)], none⟩] false)
  (.seq (.seq (.ops [
    ⟨(some 6), .mov, [.tmp 0], none⟩,
    ⟨(some 7), .call 29, [.tmp 6], none⟩,
    ⟨(some 8), .len, [.tmp 7], none⟩,
    ⟨(some 9), .mov, [.const (.int .i64 0)], none⟩] false)
  (.block 0
    (.loop
      (.seq (.ops [
        ⟨(some 10), .cmp .lss, [.tmp 9, .tmp 8], none⟩] false)
      (.seq (.cond (.tmp 10)
        .skip
        (.exit 0))
      (.seq (.block 1
        (.seq (.ops [
          ⟨(some 11), .idx 2, [.tmp 7, .tmp 9], none⟩,
          ⟨(some 12), .load 2 true, [.tmp 11], none⟩,
          ⟨(some 5), .alloc [.int .i64 0, .int .i64 0], [], none⟩,
          ⟨none, .store 2, [.tmp 5, .tmp 12], none⟩] false)
        (.ops [
          ⟨(some 13), .mov, [.tmp 3], none⟩,
          ⟨(some 14), .faddr 1, [.tmp 5], none⟩,
          ⟨(some 15), .load 1 false, [.tmp 14], none⟩,
          ⟨(some 16), .faddr 0, [.tmp 5], none⟩,
          ⟨(some 17), .load 1 false, [.tmp 16], none⟩,
          ⟨(some 18), .bin .sub .i64 false, [.tmp 15, .tmp 17], none⟩,
          ⟨(some 19), .bin .add .i64 false, [.tmp 13, .tmp 18], none⟩,
          ⟨(some 3), .mov, [.tmp 19], none⟩] false)))
      (.ops [
        ⟨(some 20), .bin .add .i64 false, [.tmp 9, .const (.int .i64 1)], none⟩,
        ⟨(some 9), .mov, [.tmp 20], none⟩] false)))))))
  (.seq (.ops [
    ⟨(some 21), .mov, [.tmp 3], none⟩,
    ⟨(some 2), .mov, [.tmp 21], none⟩] false)
  .ret))))⟩
theorem lengthLow : lowF Try.prog {} Try.f28 = some lengthIr := by kernel_rfl
def lengthS : Spec := spec (List Ivl) (fun l => [L 2 (l.map encV)]) (fun l => l.length ≤ 1000000) (fun l => I (lenF l))
theorem lengthV : fnV Try.prog lengthIr lengthS := by
  intro (l : List Ivl) hx
  replace hx : l.length ≤ 1000000 := hx
  show vc _ _ _ ⟨argEnv 0 [L 2 (l.map encV)], [], 0⟩
  have hp := (merge_spec l).1
  have hsm := hp.sum
  repeat' ((conv => whnf); first | (refine ⟨_, merge_h, l, hx, leVs_of_eq rfl, .inl rfl, rfl, ?_⟩; show norm (L 2 ((mergeF l).map encV)) _) | fail)
  have hln : lenF l = sumL (mergeF l) := rfl
  generalize mergeF l = m at *
  have hl : (m.map encV).length = m.length := List.length_map ..
  conv => whnf
  refine ⟨Nat × Int, fun xq => ⟨[(3, I xq.2), (7, L 2 (m.map encV)), (8, I (m.map encV).length), (9, I xq.1)], [], 0⟩, fun xq => xq.1 ≤ m.length ∧ xq.2 = sumL (m.take xq.1), fun xq => m.length - xq.1, ⟨(0, _), ?_, [], ⟨⟨rfl, rfl⟩, ⟨⟨rfl, rfl⟩, ⟨⟨rfl, rfl⟩, ⟨⟨rfl, rfl⟩, trivial⟩⟩⟩⟩, trivial, rfl, rfl⟩, ?_⟩
  · (try dsimp only); exact ⟨Nat.zero_le _, rfl⟩
  rintro ⟨k, n⟩ hk
  obtain ⟨hk, hn⟩ : k ≤ m.length ∧ n = sumL (m.take k) := hk
  (try dsimp only)
  have hb := (hp.take k).sum
  by_cases hkl : k < m.length
  · obtain ⟨x, hx⟩ := getElem_some hkl
    have hs := sumL_step hx
    have hb2 := (hp.take (k + 1)).sum
    have hfx := hp.2 x (List.mem_of_getElem? hx)
    unfold full at hfx
    repeat' ((conv => whnf); first | (refine ⟨(k + 1, _), ⟨?_, by (try dsimp only); omega⟩, [], ⟨⟨rfl, rfl⟩, ⟨⟨rfl, rfl⟩, ⟨⟨rfl, rfl⟩, ⟨⟨rfl, rfl⟩, trivial⟩⟩⟩⟩, trivial, rfl, rfl⟩; (try dsimp only); exact ⟨by omega, by omega⟩) | (refine ⟨fun h => ?_, fun h => ?_⟩ <;> try (exfalso; first | omega | exact absurd h (by decide) | exact h rfl)) | (refine ⟨by omega, fun r hrr => ?_⟩; obtain rfl := get_row hrr hx) | refine ⟨⟨by omega, by omega⟩, ?_⟩ | fail)
  · rw [take_end hkl] at hn
    repeat' ((conv => whnf); first | (refine ⟨fun h => ?_, fun h => ?_⟩ <;> try (exfalso; first | omega | exact absurd h (by decide) | exact h rfl)) | refine ⟨[], rfl, trivial, congrArg (CV.int .i64) ?_⟩ | fail)
    all_goals rw [hn, hln]
theorem length_h : Holds Try.prog 28 lengthS := holds_of mix Try.func28 lengthLow (fun _ => rfl) lengthV

/-! skiarea/clock.Minus -/
def minusIr : IFn := ⟨75, [.tmp 4],
  (.seq (.ops [
    ⟨(some 4), .mov, [.const (.slice none 0 0)], none⟩] false)
  (.seq (.ops [
    ⟨(some 5), .nilOwn 39 2, [], none⟩] false)
  (.seq (.ops [
    ⟨(some 12), .mov, [.tmp 1], none⟩,
    ⟨(some 13), .call 29, [.tmp 12], none⟩,
    ⟨(some 6), .mov, [.tmp 13], none⟩] false)
  (.seq (.seq (.ops [
    ⟨(some 14), .mov, [.tmp 0], none⟩,
    ⟨(some 15), .call 29, [.tmp 14], none⟩,
    ⟨(some 16), .len, [.tmp 15], none⟩,
    ⟨(some 17), .mov, [.const (.int .i64 0)], none⟩] false)
  (.block 0
    (.loop
      (.seq (.ops [
        ⟨(some 18), .cmp .lss, [.tmp 17, .tmp 16], none⟩] false)
      (.seq (.cond (.tmp 18)
        .skip
        (.exit 0))
      (.seq (.block 1
        (.seq (.ops [
          ⟨(some 19), .idx 2, [.tmp 15, .tmp 17], none⟩,
          ⟨(some 20), .load 2 true, [.tmp 19], none⟩,
          ⟨(some 8), .alloc [.int .i64 0, .int .i64 0], [], none⟩,
          ⟨none, .store 2, [.tmp 8, .tmp 20], none⟩] false)
        (.seq (.block 2
          (.loop
            (.seq (.seq (.ops [
              ⟨(some 21), .mov, [.tmp 6], none⟩,
              ⟨(some 22), .len, [.tmp 21], none⟩,
              ⟨(some 23), .cmp .gtr, [.tmp 22, .const (.int .i64 0)], none⟩,
              ⟨(some 24), .mov, [.tmp 23], none⟩,
              ⟨(some 25), .mov, [.tmp 6], (some (24, true))⟩,
              ⟨(some 26), .idx 2, [.tmp 25, .const (.int .i64 0)], (some (24, true))⟩,
              ⟨(some 27), .faddr 1, [.tmp 26], (some (24, true))⟩,
              ⟨(some 28), .load 1 false, [.tmp 27], (some (24, true))⟩,
              ⟨(some 29), .faddr 0, [.tmp 8], (some (24, true))⟩,
              ⟨(some 30), .load 1 false, [.tmp 29], (some (24, true))⟩,
              ⟨(some 31), .cmp .leq, [.tmp 28, .tmp 30], (some (24, true))⟩,
              ⟨(some 32), .pick, [.tmp 24, .tmp 31, .const (.bool false)], none⟩] true)
            (.cond (.tmp 32)
              .skip
              (.exit 2)))
            (.block 3
              (.ops [
                ⟨(some 33), .mov, [.tmp 6], none⟩,
                ⟨(some 34), .slice 2 true false, [.tmp 33, .const (.int .i64 1)], none⟩,
                ⟨(some 6), .mov, [.tmp 34], none⟩] false)))))
        (.seq (.ops [
          ⟨(some 35), .faddr 0, [.tmp 8], none⟩,
          ⟨(some 36), .load 1 false, [.tmp 35], none⟩,
          ⟨(some 9), .mov, [.tmp 36], none⟩] false)
        (.seq (.seq (.ops [
          ⟨(some 37), .mov, [.tmp 6], none⟩,
          ⟨(some 38), .len, [.tmp 37], none⟩,
          ⟨(some 39), .mov, [.const (.int .i64 0)], none⟩] false)
        (.block 4
          (.loop
            (.seq (.ops [
              ⟨(some 40), .cmp .lss, [.tmp 39, .tmp 38], none⟩] false)
            (.seq (.cond (.tmp 40)
              .skip
              (.exit 4))
            (.seq (.block 5
              (.seq (.ops [
                ⟨(some 41), .idx 2, [.tmp 37, .tmp 39], none⟩,
                ⟨(some 42), .load 2 true, [.tmp 41], none⟩,
                ⟨(some 11), .alloc [.int .i64 0, .int .i64 0], [], none⟩,
                ⟨none, .store 2, [.tmp 11, .tmp 42], none⟩] false)
              (.seq (.seq (.ops [
                ⟨(some 43), .faddr 0, [.tmp 11], none⟩,
                ⟨(some 44), .load 1 false, [.tmp 43], none⟩,
                ⟨(some 45), .faddr 1, [.tmp 8], none⟩,
                ⟨(some 46), .load 1 false, [.tmp 45], none⟩,
                ⟨(some 47), .cmp .geq, [.tmp 44, .tmp 46], none⟩] false)
              (.cond (.tmp 47)
                (.exit 4)
                .skip))
              (.seq (.seq (.ops [
                ⟨(some 48), .mov, [.tmp 9], none⟩,
                ⟨(some 49), .faddr 0, [.tmp 11], none⟩,
                ⟨(some 50), .load 1 false, [.tmp 49], none⟩,
                ⟨(some 51), .cmp .lss, [.tmp 48, .tmp 50], none⟩] false)
              (.cond (.tmp 51)
                (.ops [
                  ⟨(some 52), .mov, [.tmp 5], none⟩,
                  ⟨(some 53), .mov, [.tmp 9], none⟩,
                  ⟨(some 54), .faddr 0, [.tmp 11], none⟩,
                  ⟨(some 55), .load 1 false, [.tmp 54], none⟩,
                  ⟨(some 56), .build [.int .i64 0, .int .i64 0] [(0, 1), (1, 1)], [.tmp 53, .tmp 55], none⟩,
                  ⟨(some 57), .buildSl 39 2, [.tmp 56], none⟩,
                  ⟨(some 58), .append 39 2 16, [.tmp 52, .tmp 57], none⟩,
                  ⟨(some 5), .mov, [.tmp 58], none⟩] false)
                .skip))
              (.ops [
                ⟨(some 59), .faddr 1, [.tmp 11], none⟩,
                ⟨(some 60), .load 1 false, [.tmp 59], none⟩,
                ⟨(some 9), .mov, [.tmp 60], none⟩] false)))))
            (.ops [
              ⟨(some 61), .bin .add .i64 false, [.tmp 39, .const (.int .i64 1)], none⟩,
              ⟨(some 39), .mov, [.tmp 61], none⟩] false)))))))
        (.seq (.ops [
          ⟨(some 62), .mov, [.tmp 9], none⟩,
          ⟨(some 63), .faddr 1, [.tmp 8], none⟩,
          ⟨(some 64), .load 1 false, [.tmp 63], none⟩,
          ⟨(some 65), .cmp .lss, [.tmp 62, .tmp 64], none⟩] false)
        (.cond (.tmp 65)
          (.ops [
            ⟨(some 66), .mov, [.tmp 5], none⟩,
            ⟨(some 67), .mov, [.tmp 9], none⟩,
            ⟨(some 68), .faddr 1, [.tmp 8], none⟩,
            ⟨(some 69), .load 1 false, [.tmp 68], none⟩,
            ⟨(some 70), .build [.int .i64 0, .int .i64 0] [(0, 1), (1, 1)], [.tmp 67, .tmp 69], none⟩,
            ⟨(some 71), .buildSl 39 2, [.tmp 70], none⟩,
            ⟨(some 72), .append 39 2 16, [.tmp 66, .tmp 71], none⟩,
            ⟨(some 5), .mov, [.tmp 72], none⟩] false)
          .skip)))))))
      (.ops [
        ⟨(some 73), .bin .add .i64 false, [.tmp 17, .const (.int .i64 1)], none⟩,
        ⟨(some 17), .mov, [.tmp 73], none⟩] false)))))))
  (.seq (.ops [
    ⟨(some 74), .mov, [.tmp 5], none⟩,
    ⟨(some 4), .mov, [.tmp 74], none⟩] false)
  .ret)))))⟩
theorem minusLow : lowF Try.prog { owns := [(5, 39)] } Try.f26 = some minusIr := by kernel_rfl
def minusS : Spec := spec (List Ivl × List Ivl) (fun p => [L 2 (p.1.map encV), L 2 (p.2.map encV)]) (fun p => p.1.length ≤ 1000000 ∧ p.2.length ≤ 1000000) (fun p => L 2 ((minusF p.1 p.2).map encV))
theorem minusV : fnV Try.prog minusIr minusS := by
  intro ⟨(a : List Ivl), (b : List Ivl)⟩ hx
  obtain ⟨ha, hb⟩ : a.length ≤ 1000000 ∧ b.length ≤ 1000000 := hx
  show vc _ _ _ ⟨argEnv 0 [L 2 (a.map encV), L 2 (b.map encV)], [], 0⟩
  repeat' ((conv => whnf); first | (refine ⟨_, merge_h, b, hb, leVs_of_eq rfl, .inl rfl, rfl, ?_⟩; show norm (L 2 ((mergeF b).map encV)) _) | (refine ⟨_, merge_h, a, ha, leVs_of_eq rfl, .inl rfl, rfl, ?_⟩; show norm (L 2 ((mergeF a).map encV)) _) | fail)
  have hmf : minusF a b = (minusTo (mergeF a) (mergeF b) (mergeF a).length).1 := by unfold minusTo minusF; rw [List.take_length]
  have hpa := (merge_spec a).1
  have hpb := (merge_spec b).1
  have hla := hpa.sum
  have hlb := hpb.sum
  generalize mergeF a = A at *
  generalize mergeF b = B at *
  have hl : (A.map encV).length = A.length := List.length_map ..
  conv => whnf
  refine ⟨Nat × (List (List CV)) × (List (List CV)), fun xq => ⟨[(5, .osl 0), (6, L 2 xq.2.2), (15, L 2 (A.map encV)), (16, I (A.map encV).length), (17, I xq.1)], [(0, .row 39 2 xq.2.1)], 1⟩, fun xq => xq.1 ≤ A.length ∧ ∃ out H, xq.2.1 = out.map encV ∧ xq.2.2 = H.map encV ∧ minusTo A B xq.1 = (out, H), fun xq => A.length - xq.1, ⟨(0, _, _), ?_, [], ⟨⟨rfl, rfl⟩, ⟨⟨rfl, rfl⟩, ⟨⟨rfl, rfl⟩, ⟨⟨rfl, rfl⟩, ⟨⟨rfl, rfl⟩, trivial⟩⟩⟩⟩⟩, ⟨⟨rfl, rfl, rfl⟩, trivial⟩, rfl, rfl⟩, ?_⟩
  · (try dsimp only); exact ⟨Nat.zero_le _, [], B, rfl, rfl, rfl⟩
  rintro ⟨k, es, hs⟩ hk
  obtain ⟨hk, out, H, rfl, rfl, hm⟩ : k ≤ A.length ∧ ∃ out H, es = out.map encV ∧ hs = H.map encV ∧ minusTo A B k = (out, H) := hk
  (try dsimp only)
  by_cases hkl : k < A.length
  · obtain ⟨v, hx⟩ := getElem_some hkl
    have hms := minusTo_succ (B := B) hx
    rw [hm, minusStep] at hms
    dsimp only at hms
    have hps := (minusTo_plain hpa hpb (k + 1)).sum
    rw [hms] at hps
    dsimp only at hps
    repeat' ((conv => whnf); first | (refine ⟨fun h => ?_, fun h => ?_⟩ <;> try (exfalso; first | omega | exact absurd h (by decide) | exact h rfl)) | (refine ⟨by omega, fun r hrr => ?_⟩; obtain rfl := get_row hrr hx) | fail)
    conv => whnf
    refine ⟨(List (List CV)), fun xq => ⟨[(5, .osl 0), (6, L 2 xq), (8, .bp 1 0), (15, L 2 (A.map encV)), (16, I (A.map encV).length), (17, I k)], [(0, .row 39 2 (out.map encV)), (1, .box ((encV v).map .c))], 2⟩, fun xq => ∃ H1 : List Ivl, xq = H1.map encV ∧ H1.dropWhile (past v.frm) = H.dropWhile (past v.frm), fun xq => xq.length, ⟨_, ?_, [], ⟨⟨rfl, rfl⟩, ⟨⟨rfl, rfl⟩, ⟨⟨rfl, rfl⟩, ⟨⟨rfl, rfl⟩, ⟨⟨rfl, rfl⟩, ⟨⟨rfl, rfl⟩, trivial⟩⟩⟩⟩⟩⟩, ⟨⟨rfl, rfl, rfl⟩, ⟨⟨rfl, rfl, rfl⟩, trivial⟩⟩, rfl, rfl⟩, ?_⟩
    · (try dsimp only); exact ⟨H, rfl, rfl⟩
    rintro hs hk
    obtain ⟨H1, rfl, hH1⟩ : ∃ H1 : List Ivl, hs = H1.map encV ∧ H1.dropWhile (past v.frm) = H.dropWhile (past v.frm) := hk
    (try dsimp only)
    have hl1 : (H1.map encV).length = H1.length := List.length_map ..
    by_cases hgo : ∃ h, H1[0]? = some h ∧ h.to ≤ v.frm
    · obtain ⟨h, hh, hc⟩ := hgo
      have h0 := (List.getElem?_eq_some_iff.1 hh).1
      have hd : H1 = h :: H1.drop 1 := by simpa using drop_of hh
      have hpc : H1.dropWhile (past v.frm) = (H1.drop 1).dropWhile (past v.frm) := by conv => lhs; rw [hd]
                                                                                      exact past_cons hc
      repeat' ((conv => whnf); first | (refine ⟨_, ⟨?_, by simp; omega⟩, [], ⟨⟨rfl, rfl⟩, ⟨⟨rfl, rfl⟩, ⟨⟨rfl, rfl⟩, ⟨⟨rfl, rfl⟩, ⟨⟨rfl, rfl⟩, ⟨⟨rfl, rfl⟩, trivial⟩⟩⟩⟩⟩⟩, ⟨⟨rfl, rfl, rfl⟩, ⟨⟨rfl, rfl, rfl⟩, trivial⟩⟩, rfl, rfl⟩; (try dsimp only); exact ⟨H1.drop 1, by rw [List.take_of_length_le (by simp), List.map_drop]; rfl, by rw [← hpc]; exact hH1⟩) | (refine ⟨fun h => ?_, fun h => ?_⟩ <;> try (exfalso; first | omega | exact absurd h (by decide) | exact h rfl)) | (refine ⟨by omega, fun r hrr => ?_⟩; obtain rfl := get_rowi (j := 0) hrr rfl hh) | refine ⟨⟨by omega, by omega, by omega⟩, ?_⟩ | fail)
    · have hstay : H1.dropWhile (past v.frm) = H1 := by
        cases H1 with
        | nil => rfl
        | cons h r => exact past_stay fun hc => hgo ⟨h, rfl, hc⟩
      rw [hstay] at hH1
      rw [← hH1] at hps
      have hHb : H1.length ≤ B.length := by
        have h1 := minusTo_sub A B k
        rw [hm] at h1
        have h2 : H1.length ≤ H.length := by rw [hH1]; exact (List.dropWhile_sublist _).length_le
        exact Nat.le_trans h2 h1
      by_cases h0 : 0 < H1.length
      · obtain ⟨h, hh⟩ := getElem_some h0
        have hc : ¬ h.to ≤ v.frm := fun hc => hgo ⟨h, hh, hc⟩
        repeat' ((conv => whnf); first | (refine ⟨fun h => ?_, fun h => ?_⟩ <;> try (exfalso; first | omega | exact absurd h (by decide) | exact h rfl)) | (refine ⟨by omega, fun r hrr => ?_⟩; obtain rfl := get_rowi (j := 0) hrr rfl hh) | fail)
        conv => whnf
        refine ⟨Nat × Int × (List (List CV)), fun xq => ⟨[(5, .osl 0), (6, L 2 (H1.map encV)), (8, .bp 1 0), (9, I xq.2.1), (15, L 2 (A.map encV)), (16, I (A.map encV).length), (17, I k), (37, L 2 (H1.map encV)), (38, I (H1.map encV).length), (39, I xq.1)], [(0, .row 39 2 xq.2.2), (1, .box ((encV v).map .c))], 2⟩, fun xq => xq.1 ≤ H1.length ∧ ∃ out', xq.2.2 = out'.map encV ∧ out' ++ cutI xq.2.1 v (H1.drop xq.1) = out ++ cutI v.frm v H1, fun xq => H1.length - xq.1, ⟨(0, _, _), ?_, [], ⟨⟨rfl, rfl⟩, ⟨⟨rfl, rfl⟩, ⟨⟨rfl, rfl⟩, ⟨⟨rfl, rfl⟩, ⟨⟨rfl, rfl⟩, ⟨⟨rfl, rfl⟩, ⟨⟨rfl, rfl⟩, ⟨⟨rfl, rfl⟩, ⟨⟨rfl, rfl⟩, ⟨⟨rfl, rfl⟩, trivial⟩⟩⟩⟩⟩⟩⟩⟩⟩⟩, ⟨⟨rfl, rfl, rfl⟩, ⟨⟨rfl, rfl, rfl⟩, trivial⟩⟩, rfl, rfl⟩, ?_⟩
        · (try dsimp only); exact ⟨Nat.zero_le _, out, rfl, by simp⟩
        rintro ⟨j, f, es⟩ hk
        obtain ⟨hj, out', rfl, hT⟩ : j ≤ H1.length ∧ ∃ out', es = out'.map encV ∧ out' ++ cutI f v (H1.drop j) = out ++ cutI v.frm v H1 := hk
        (try dsimp only)
        have hlo : (out'.map encV).length = out'.length := List.length_map ..
        have hol : out'.length ≤ 20000000 := by
          have := congrArg List.length hT
          rw [List.length_append] at this
          omega
        by_cases hjl : j < H1.length
        · obtain ⟨y, hjx⟩ := getElem_some hjl
          by_cases hbr : v.to ≤ y.frm
          · repeat' ((conv => whnf); first | (refine ⟨(k + 1, _, _), ⟨?_, by (try dsimp only); omega⟩, [(0, 3)], ⟨⟨rfl, rfl⟩, ⟨⟨rfl, rfl⟩, ⟨⟨rfl, rfl⟩, ⟨⟨rfl, rfl⟩, ⟨⟨rfl, rfl⟩, trivial⟩⟩⟩⟩⟩, ⟨⟨rfl, rfl, rfl⟩, trivial⟩, rfl, rfl⟩; (try dsimp only); exact ⟨by omega, out' ++ [⟨f, v.to⟩], H1, by rw [List.map_append]; rfl, rfl, by rw [hms, ← hH1, ← hT, cut_break hjx hbr, tl_yes (by assumption)]⟩) | (refine ⟨(k + 1, _, _), ⟨?_, by (try dsimp only); omega⟩, [(0, 2)], ⟨⟨rfl, rfl⟩, ⟨⟨rfl, rfl⟩, ⟨⟨rfl, rfl⟩, ⟨⟨rfl, rfl⟩, ⟨⟨rfl, rfl⟩, trivial⟩⟩⟩⟩⟩, ⟨⟨rfl, rfl, rfl⟩, trivial⟩, rfl, rfl⟩; (try dsimp only); exact ⟨by omega, out' ++ [⟨f, v.to⟩], H1, by rw [List.map_append]; rfl, rfl, by rw [hms, ← hH1, ← hT, cut_break hjx hbr, tl_yes (by assumption)]⟩) | (refine ⟨(k + 1, _, _), ⟨?_, by (try dsimp only); omega⟩, [(0, 0)], ⟨⟨rfl, rfl⟩, ⟨⟨rfl, rfl⟩, ⟨⟨rfl, rfl⟩, ⟨⟨rfl, rfl⟩, ⟨⟨rfl, rfl⟩, trivial⟩⟩⟩⟩⟩, ⟨⟨rfl, rfl, rfl⟩, trivial⟩, rfl, rfl⟩; (try dsimp only); exact ⟨by omega, out', H1, rfl, rfl, by rw [hms, ← hH1, ← hT, cut_break hjx hbr, tl_no (by assumption), List.append_nil]⟩) | (refine ⟨fun h => ?_, fun h => ?_⟩ <;> try (exfalso; first | omega | exact absurd h (by decide) | exact h rfl)) | (refine ⟨by omega, fun r hrr => ?_⟩; obtain rfl := get_row hrr hjx) | (refine ⟨⟨by rw [hlo]; simp only [List.length_cons, List.length_nil]; omega, by rw [hlo]; simp only [List.length_cons, List.length_nil]; omega⟩, ?_⟩) | refine ⟨⟨by omega, by omega⟩, ?_⟩ | fail)
          · by_cases hpc : f < y.frm
            · repeat' ((conv => whnf); first | (refine ⟨(j + 1, y.to, _), ⟨?_, by (try dsimp only); omega⟩, [(0, 3), (1, 1)], ⟨⟨rfl, rfl⟩, ⟨⟨rfl, rfl⟩, ⟨⟨rfl, rfl⟩, ⟨⟨rfl, rfl⟩, ⟨⟨rfl, rfl⟩, ⟨⟨rfl, rfl⟩, ⟨⟨rfl, rfl⟩, ⟨⟨rfl, rfl⟩, ⟨⟨rfl, rfl⟩, ⟨⟨rfl, rfl⟩, trivial⟩⟩⟩⟩⟩⟩⟩⟩⟩⟩, ⟨⟨rfl, rfl, rfl⟩, ⟨⟨rfl, rfl, rfl⟩, trivial⟩⟩, rfl, rfl⟩; (try dsimp only); exact ⟨by omega, out' ++ [⟨f, y.frm⟩], by rw [List.map_append]; rfl, by rw [← hT, cut_piece hjx hbr hpc]; simp⟩) | (refine ⟨fun h => ?_, fun h => ?_⟩ <;> try (exfalso; first | omega | exact absurd h (by decide) | exact h rfl)) | (refine ⟨by omega, fun r hrr => ?_⟩; obtain rfl := get_row hrr hjx) | (refine ⟨⟨by rw [hlo]; simp only [List.length_cons, List.length_nil]; omega, by rw [hlo]; simp only [List.length_cons, List.length_nil]; omega⟩, ?_⟩) | refine ⟨⟨by omega, by omega⟩, ?_⟩ | fail)
            · repeat' ((conv => whnf); first | (refine ⟨(j + 1, y.to, _), ⟨?_, by (try dsimp only); omega⟩, [(0, 0), (1, 1)], ⟨⟨rfl, rfl⟩, ⟨⟨rfl, rfl⟩, ⟨⟨rfl, rfl⟩, ⟨⟨rfl, rfl⟩, ⟨⟨rfl, rfl⟩, ⟨⟨rfl, rfl⟩, ⟨⟨rfl, rfl⟩, ⟨⟨rfl, rfl⟩, ⟨⟨rfl, rfl⟩, ⟨⟨rfl, rfl⟩, trivial⟩⟩⟩⟩⟩⟩⟩⟩⟩⟩, ⟨⟨rfl, rfl, rfl⟩, ⟨⟨rfl, rfl, rfl⟩, trivial⟩⟩, rfl, rfl⟩; (try dsimp only); exact ⟨by omega, out', rfl, by rw [← hT, cut_none hjx hbr hpc]⟩) | (refine ⟨fun h => ?_, fun h => ?_⟩ <;> try (exfalso; first | omega | exact absurd h (by decide) | exact h rfl)) | (refine ⟨by omega, fun r hrr => ?_⟩; obtain rfl := get_row hrr hjx) | (refine ⟨⟨by rw [hlo]; simp only [List.length_cons, List.length_nil]; omega, by rw [hlo]; simp only [List.length_cons, List.length_nil]; omega⟩, ?_⟩) | refine ⟨⟨by omega, by omega⟩, ?_⟩ | fail)
        · repeat' ((conv => whnf); first | (refine ⟨(k + 1, _, _), ⟨?_, by (try dsimp only); omega⟩, [(0, 3)], ⟨⟨rfl, rfl⟩, ⟨⟨rfl, rfl⟩, ⟨⟨rfl, rfl⟩, ⟨⟨rfl, rfl⟩, ⟨⟨rfl, rfl⟩, trivial⟩⟩⟩⟩⟩, ⟨⟨rfl, rfl, rfl⟩, trivial⟩, rfl, rfl⟩; (try dsimp only); exact ⟨by omega, out' ++ [⟨f, v.to⟩], H1, by rw [List.map_append]; rfl, rfl, by rw [hms, ← hH1, ← hT, cut_end hjl, tl_yes (by assumption)]⟩) | (refine ⟨(k + 1, _, _), ⟨?_, by (try dsimp only); omega⟩, [(0, 2)], ⟨⟨rfl, rfl⟩, ⟨⟨rfl, rfl⟩, ⟨⟨rfl, rfl⟩, ⟨⟨rfl, rfl⟩, ⟨⟨rfl, rfl⟩, trivial⟩⟩⟩⟩⟩, ⟨⟨rfl, rfl, rfl⟩, trivial⟩, rfl, rfl⟩; (try dsimp only); exact ⟨by omega, out' ++ [⟨f, v.to⟩], H1, by rw [List.map_append]; rfl, rfl, by rw [hms, ← hH1, ← hT, cut_end hjl, tl_yes (by assumption)]⟩) | (refine ⟨(k + 1, _, _), ⟨?_, by (try dsimp only); omega⟩, [(0, 0)], ⟨⟨rfl, rfl⟩, ⟨⟨rfl, rfl⟩, ⟨⟨rfl, rfl⟩, ⟨⟨rfl, rfl⟩, ⟨⟨rfl, rfl⟩, trivial⟩⟩⟩⟩⟩, ⟨⟨rfl, rfl, rfl⟩, trivial⟩, rfl, rfl⟩; (try dsimp only); exact ⟨by omega, out', H1, rfl, rfl, by rw [hms, ← hH1, ← hT, cut_end hjl, tl_no (by assumption), List.append_nil]⟩) | (refine ⟨fun h => ?_, fun h => ?_⟩ <;> try (exfalso; first | omega | exact absurd h (by decide) | exact h rfl)) | (refine ⟨⟨by rw [hlo]; simp only [List.length_cons, List.length_nil]; omega, by rw [hlo]; simp only [List.length_cons, List.length_nil]; omega⟩, ?_⟩) | refine ⟨⟨by omega, by omega⟩, ?_⟩ | fail)
      · repeat' ((conv => whnf); first | (refine ⟨fun h => ?_, fun h => ?_⟩ <;> try (exfalso; first | omega | exact absurd h (by decide) | exact h rfl)) | fail)
        conv => whnf
        refine ⟨Nat × Int × (List (List CV)), fun xq => ⟨[(5, .osl 0), (6, L 2 (H1.map encV)), (8, .bp 1 0), (9, I xq.2.1), (15, L 2 (A.map encV)), (16, I (A.map encV).length), (17, I k), (37, L 2 (H1.map encV)), (38, I (H1.map encV).length), (39, I xq.1)], [(0, .row 39 2 xq.2.2), (1, .box ((encV v).map .c))], 2⟩, fun xq => xq.1 ≤ H1.length ∧ ∃ out', xq.2.2 = out'.map encV ∧ out' ++ cutI xq.2.1 v (H1.drop xq.1) = out ++ cutI v.frm v H1, fun xq => H1.length - xq.1, ⟨(0, _, _), ?_, [], ⟨⟨rfl, rfl⟩, ⟨⟨rfl, rfl⟩, ⟨⟨rfl, rfl⟩, ⟨⟨rfl, rfl⟩, ⟨⟨rfl, rfl⟩, ⟨⟨rfl, rfl⟩, ⟨⟨rfl, rfl⟩, ⟨⟨rfl, rfl⟩, ⟨⟨rfl, rfl⟩, ⟨⟨rfl, rfl⟩, trivial⟩⟩⟩⟩⟩⟩⟩⟩⟩⟩, ⟨⟨rfl, rfl, rfl⟩, ⟨⟨rfl, rfl, rfl⟩, trivial⟩⟩, rfl, rfl⟩, ?_⟩
        · (try dsimp only); exact ⟨Nat.zero_le _, out, rfl, by simp⟩
        rintro ⟨j, f, es⟩ hk
        obtain ⟨hj, out', rfl, hT⟩ : j ≤ H1.length ∧ ∃ out', es = out'.map encV ∧ out' ++ cutI f v (H1.drop j) = out ++ cutI v.frm v H1 := hk
        (try dsimp only)
        have hlo : (out'.map encV).length = out'.length := List.length_map ..
        have hol : out'.length ≤ 20000000 := by
          have := congrArg List.length hT
          rw [List.length_append] at this
          omega
        by_cases hjl : j < H1.length
        · obtain ⟨y, hjx⟩ := getElem_some hjl
          by_cases hbr : v.to ≤ y.frm
          · repeat' ((conv => whnf); first | (refine ⟨(k + 1, _, _), ⟨?_, by (try dsimp only); omega⟩, [(0, 3)], ⟨⟨rfl, rfl⟩, ⟨⟨rfl, rfl⟩, ⟨⟨rfl, rfl⟩, ⟨⟨rfl, rfl⟩, ⟨⟨rfl, rfl⟩, trivial⟩⟩⟩⟩⟩, ⟨⟨rfl, rfl, rfl⟩, trivial⟩, rfl, rfl⟩; (try dsimp only); exact ⟨by omega, out' ++ [⟨f, v.to⟩], H1, by rw [List.map_append]; rfl, rfl, by rw [hms, ← hH1, ← hT, cut_break hjx hbr, tl_yes (by assumption)]⟩) | (refine ⟨(k + 1, _, _), ⟨?_, by (try dsimp only); omega⟩, [(0, 2)], ⟨⟨rfl, rfl⟩, ⟨⟨rfl, rfl⟩, ⟨⟨rfl, rfl⟩, ⟨⟨rfl, rfl⟩, ⟨⟨rfl, rfl⟩, trivial⟩⟩⟩⟩⟩, ⟨⟨rfl, rfl, rfl⟩, trivial⟩, rfl, rfl⟩; (try dsimp only); exact ⟨by omega, out' ++ [⟨f, v.to⟩], H1, by rw [List.map_append]; rfl, rfl, by rw [hms, ← hH1, ← hT, cut_break hjx hbr, tl_yes (by assumption)]⟩) | (refine ⟨(k + 1, _, _), ⟨?_, by (try dsimp only); omega⟩, [(0, 0)], ⟨⟨rfl, rfl⟩, ⟨⟨rfl, rfl⟩, ⟨⟨rfl, rfl⟩, ⟨⟨rfl, rfl⟩, ⟨⟨rfl, rfl⟩, trivial⟩⟩⟩⟩⟩, ⟨⟨rfl, rfl, rfl⟩, trivial⟩, rfl, rfl⟩; (try dsimp only); exact ⟨by omega, out', H1, rfl, rfl, by rw [hms, ← hH1, ← hT, cut_break hjx hbr, tl_no (by assumption), List.append_nil]⟩) | (refine ⟨fun h => ?_, fun h => ?_⟩ <;> try (exfalso; first | omega | exact absurd h (by decide) | exact h rfl)) | (refine ⟨by omega, fun r hrr => ?_⟩; obtain rfl := get_row hrr hjx) | (refine ⟨⟨by rw [hlo]; simp only [List.length_cons, List.length_nil]; omega, by rw [hlo]; simp only [List.length_cons, List.length_nil]; omega⟩, ?_⟩) | refine ⟨⟨by omega, by omega⟩, ?_⟩ | fail)
          · by_cases hpc : f < y.frm
            · repeat' ((conv => whnf); first | (refine ⟨(j + 1, y.to, _), ⟨?_, by (try dsimp only); omega⟩, [(0, 3), (1, 1)], ⟨⟨rfl, rfl⟩, ⟨⟨rfl, rfl⟩, ⟨⟨rfl, rfl⟩, ⟨⟨rfl, rfl⟩, ⟨⟨rfl, rfl⟩, ⟨⟨rfl, rfl⟩, ⟨⟨rfl, rfl⟩, ⟨⟨rfl, rfl⟩, ⟨⟨rfl, rfl⟩, ⟨⟨rfl, rfl⟩, trivial⟩⟩⟩⟩⟩⟩⟩⟩⟩⟩, ⟨⟨rfl, rfl, rfl⟩, ⟨⟨rfl, rfl, rfl⟩, trivial⟩⟩, rfl, rfl⟩; (try dsimp only); exact ⟨by omega, out' ++ [⟨f, y.frm⟩], by rw [List.map_append]; rfl, by rw [← hT, cut_piece hjx hbr hpc]; simp⟩) | (refine ⟨fun h => ?_, fun h => ?_⟩ <;> try (exfalso; first | omega | exact absurd h (by decide) | exact h rfl)) | (refine ⟨by omega, fun r hrr => ?_⟩; obtain rfl := get_row hrr hjx) | (refine ⟨⟨by rw [hlo]; simp only [List.length_cons, List.length_nil]; omega, by rw [hlo]; simp only [List.length_cons, List.length_nil]; omega⟩, ?_⟩) | refine ⟨⟨by omega, by omega⟩, ?_⟩ | fail)
            · repeat' ((conv => whnf); first | (refine ⟨(j + 1, y.to, _), ⟨?_, by (try dsimp only); omega⟩, [(0, 0), (1, 1)], ⟨⟨rfl, rfl⟩, ⟨⟨rfl, rfl⟩, ⟨⟨rfl, rfl⟩, ⟨⟨rfl, rfl⟩, ⟨⟨rfl, rfl⟩, ⟨⟨rfl, rfl⟩, ⟨⟨rfl, rfl⟩, ⟨⟨rfl, rfl⟩, ⟨⟨rfl, rfl⟩, ⟨⟨rfl, rfl⟩, trivial⟩⟩⟩⟩⟩⟩⟩⟩⟩⟩, ⟨⟨rfl, rfl, rfl⟩, ⟨⟨rfl, rfl, rfl⟩, trivial⟩⟩, rfl, rfl⟩; (try dsimp only); exact ⟨by omega, out', rfl, by rw [← hT, cut_none hjx hbr hpc]⟩) | (refine ⟨fun h => ?_, fun h => ?_⟩ <;> try (exfalso; first | omega | exact absurd h (by decide) | exact h rfl)) | (refine ⟨by omega, fun r hrr => ?_⟩; obtain rfl := get_row hrr hjx) | (refine ⟨⟨by rw [hlo]; simp only [List.length_cons, List.length_nil]; omega, by rw [hlo]; simp only [List.length_cons, List.length_nil]; omega⟩, ?_⟩) | refine ⟨⟨by omega, by omega⟩, ?_⟩ | fail)
        · repeat' ((conv => whnf); first | (refine ⟨(k + 1, _, _), ⟨?_, by (try dsimp only); omega⟩, [(0, 3)], ⟨⟨rfl, rfl⟩, ⟨⟨rfl, rfl⟩, ⟨⟨rfl, rfl⟩, ⟨⟨rfl, rfl⟩, ⟨⟨rfl, rfl⟩, trivial⟩⟩⟩⟩⟩, ⟨⟨rfl, rfl, rfl⟩, trivial⟩, rfl, rfl⟩; (try dsimp only); exact ⟨by omega, out' ++ [⟨f, v.to⟩], H1, by rw [List.map_append]; rfl, rfl, by rw [hms, ← hH1, ← hT, cut_end hjl, tl_yes (by assumption)]⟩) | (refine ⟨(k + 1, _, _), ⟨?_, by (try dsimp only); omega⟩, [(0, 2)], ⟨⟨rfl, rfl⟩, ⟨⟨rfl, rfl⟩, ⟨⟨rfl, rfl⟩, ⟨⟨rfl, rfl⟩, ⟨⟨rfl, rfl⟩, trivial⟩⟩⟩⟩⟩, ⟨⟨rfl, rfl, rfl⟩, trivial⟩, rfl, rfl⟩; (try dsimp only); exact ⟨by omega, out' ++ [⟨f, v.to⟩], H1, by rw [List.map_append]; rfl, rfl, by rw [hms, ← hH1, ← hT, cut_end hjl, tl_yes (by assumption)]⟩) | (refine ⟨(k + 1, _, _), ⟨?_, by (try dsimp only); omega⟩, [(0, 0)], ⟨⟨rfl, rfl⟩, ⟨⟨rfl, rfl⟩, ⟨⟨rfl, rfl⟩, ⟨⟨rfl, rfl⟩, ⟨⟨rfl, rfl⟩, trivial⟩⟩⟩⟩⟩, ⟨⟨rfl, rfl, rfl⟩, trivial⟩, rfl, rfl⟩; (try dsimp only); exact ⟨by omega, out', H1, rfl, rfl, by rw [hms, ← hH1, ← hT, cut_end hjl, tl_no (by assumption), List.append_nil]⟩) | (refine ⟨fun h => ?_, fun h => ?_⟩ <;> try (exfalso; first | omega | exact absurd h (by decide) | exact h rfl)) | (refine ⟨⟨by rw [hlo]; simp only [List.length_cons, List.length_nil]; omega, by rw [hlo]; simp only [List.length_cons, List.length_nil]; omega⟩, ?_⟩) | refine ⟨⟨by omega, by omega⟩, ?_⟩ | fail)
  · have hke : k = A.length := by omega
    repeat' ((conv => whnf); first | (refine ⟨fun h => ?_, fun h => ?_⟩ <;> try (exfalso; first | omega | exact absurd h (by decide) | exact h rfl)) | fail)
    conv => whnf
    refine ⟨[], rfl, trivial, ?_⟩
    show leV (L 2 (out.map encV)) (L 2 ((minusF a b).map encV))
    rw [hmf, ← hke, hm]
    exact leV_refl _
theorem minus_h : Holds Try.prog 26 minusS := holds_of mix Try.func26 minusLow (fun _ => rfl) minusV

end Go.Proofs.Ytmehmnlhnbeeeaa
