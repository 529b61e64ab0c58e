/- Rides: the reference's Gaps. -/
import Derived.Test.YtfghmpfiemmbgaaH2
namespace Go.Proofs.Ytfghmpfiemmbgaa
open Go.RowKit

/-! skiarea/skiarearef31.Gaps -/
def refGapsIr : IFn := ⟨46, [.tmp 4],
  (.seq (.ops [
    ⟨(some 4), .mov, [.const (.slice none 0 0)], none⟩] false)
  (.seq (.ops [
    ⟨(some 5), .nilOwn 3 1, [], none⟩] false)
  (.seq (.ops [
    ⟨(some 6), .mov, [.const (.int .i64 1)], none⟩] false)
  (.seq (.seq (.ops [
    ⟨(some 7), .mov, [.const (.int .i64 0)], none⟩] false)
  (.block 0
    (.loop
      (.seq (.seq (.ops [
        ⟨(some 8), .mov, [.tmp 7], none⟩,
        ⟨(some 9), .mov, [.tmp 0], none⟩,
        ⟨(some 10), .len, [.tmp 9], none⟩,
        ⟨(some 11), .cmp .lss, [.tmp 8, .tmp 10], none⟩] false)
      (.cond (.tmp 11)
        .skip
        (.exit 0)))
      (.seq (.block 1
        (.seq (.seq (.ops [
          ⟨(some 14), .mov, [.tmp 0], none⟩,
          ⟨(some 15), .mov, [.tmp 7], none⟩,
          ⟨(some 16), .idx 7, [.tmp 14, .tmp 15], none⟩,
          ⟨(some 17), .faddr 0, [.tmp 16], none⟩,
          ⟨(some 18), .load 1 false, [.tmp 17], none⟩,
          ⟨(some 19), .mov, [.tmp 1], none⟩,
          ⟨(some 20), .cmp .neq, [.tmp 18, .tmp 19], none⟩] false)
        (.cond (.tmp 20)
          (.exit 1)
          .skip))
        (.seq (.block 2
          (.loop
            (.seq (.seq (.ops [
              ⟨(some 21), .mov, [.tmp 6], none⟩,
              ⟨(some 22), .mov, [.tmp 0], none⟩,
              ⟨(some 23), .mov, [.tmp 7], none⟩,
              ⟨(some 24), .idx 7, [.tmp 22, .tmp 23], none⟩,
              ⟨(some 25), .faddr 1, [.tmp 24], none⟩,
              ⟨(some 26), .load 1 false, [.tmp 25], none⟩,
              ⟨(some 27), .cmp .lss, [.tmp 21, .tmp 26], none⟩,
              ⟨(some 28), .mov, [.tmp 27], none⟩,
              ⟨(some 29), .mov, [.tmp 5], (some (28, true))⟩,
              ⟨(some 30), .len, [.tmp 29], (some (28, true))⟩,
              ⟨(some 31), .cmp .lss, [.tmp 30, .const (.int .i64 100)], (some (28, true))⟩,
              ⟨(some 32), .pick, [.tmp 28, .tmp 31, .const (.bool false)], none⟩] false)
            (.cond (.tmp 32)
              .skip
              (.exit 2)))
            (.block 3
              (.seq (.ops [
                ⟨(some 33), .mov, [.tmp 5], none⟩,
                ⟨(some 34), .mov, [.tmp 6], none⟩,
                ⟨(some 35), .buildSl 3 1, [.tmp 34], none⟩,
                ⟨(some 36), .append 3 1 8, [.tmp 33, .tmp 35], none⟩,
                ⟨(some 5), .mov, [.tmp 36], none⟩] false)
              (.ops [
                ⟨(some 37), .mov, [.tmp 6], none⟩,
                ⟨(some 38), .bin .add .i64 false, [.tmp 37, .const (.int .i64 1)], none⟩,
                ⟨(some 6), .mov, [.tmp 38], none⟩] false))))))
        (.ops [
          ⟨(some 39), .mov, [.tmp 0], none⟩,
          ⟨(some 40), .mov, [.tmp 7], none⟩,
          ⟨(some 41), .idx 7, [.tmp 39, .tmp 40], none⟩,
          ⟨(some 42), .faddr 1, [.tmp 41], none⟩,
          ⟨(some 43), .load 1 false, [.tmp 42], none⟩,
          ⟨(some 44), .bin .add .i64 false, [.tmp 43, .const (.int .i64 1)], none⟩,
          ⟨(some 6), .mov, [.tmp 44], none⟩] false))))
      (.ops [
        ⟨(some 12), .mov, [.tmp 7], none⟩,
        ⟨(some 13), .bin .add .i64 false, [.tmp 12, .const (.int .i64 1)], none⟩,
        ⟨(some 7), .mov, [.tmp 13], none⟩] false))))))
  (.seq (.ops [
    ⟨(some 45), .mov, [.tmp 5], none⟩,
    ⟨(some 4), .mov, [.tmp 45], none⟩] false)
  .ret)))))⟩
theorem refGapsLow : lowF Try.prog { owns := [(5, 3)] } Try.f26 = some refGapsIr := by kernel_rfl
def refGapsS : Spec := spec (List Ride × Int) (fun p => [L 7 (p.1.map encR), I p.2]) (fun p => p.1.length ≤ 3000 ∧ ∀ x ∈ p.1, okR x) (fun p => L 1 ((gaps p.1 p.2).map cI))
theorem refGapsV : fnV Try.prog refGapsIr refGapsS := by
  intro ⟨(l : List Ride), (g : Int)⟩ hx
  obtain ⟨hll, hok⟩ : l.length ≤ 3000 ∧ ∀ x ∈ l, okR x := hx
  have hl : (l.map encR).length = l.length := List.length_map ..
  show vc _ _ _ ⟨argEnv 0 [L 7 (l.map encR), I g], [], 0⟩
  conv => whnf
  refine ⟨Nat × Int × (List (List CV)), fun xq => ⟨[(0, L 7 (l.map encR)), (1, I g), (5, .osl 0), (6, I xq.2.1), (7, I xq.1)], [(0, .row 3 1 xq.2.2)], 1⟩, fun xq => xq.1 ≤ l.length ∧ ∃ out, gapsTo l g xq.1 = (xq.2.1, out) ∧ xq.2.2 = out.map cI, fun xq => l.length - xq.1, ⟨(0, _, _), ?_, [], ⟨⟨rfl, rfl⟩, ⟨⟨rfl, rfl⟩, ⟨⟨rfl, rfl⟩, ⟨⟨rfl, rfl⟩, ⟨⟨rfl, rfl⟩, trivial⟩⟩⟩⟩⟩, ⟨⟨rfl, rfl, rfl⟩, trivial⟩, rfl, rfl⟩, ?_⟩
  · (try dsimp only); exact ⟨Nat.zero_le _, [], rfl, rfl⟩
  rintro ⟨k, n, es⟩ hk
  obtain ⟨hk, out, hn, rfl⟩ : k ≤ l.length ∧ ∃ out, gapsTo l g k = (n, out) ∧ es = out.map cI := hk
  (try dsimp only)
  have hlo : out.length ≤ 100 := by have := gapsTo_len l g k hk; rw [hn] at this; exact this
  have hbd : 1 ≤ n ∧ n ≤ 1000001 := by have := gapsTo_bd l g hok k hk; rw [hn] at this; exact this
  by_cases hkl : k < l.length
  · have hx : l[k]? = some l[k] := List.getElem?_eq_getElem hkl
    generalize l[k] = x at hx
    have hs := gapsTo_succ (gate := g) hx
    rw [hn, gapsStep] at hs
    have hxo : 1 ≤ x.seq ∧ x.seq ≤ 1000000 := by have := hok x (List.mem_of_getElem? hx); unfold okR at this; omega
    conv => whnf
    refine ⟨fun h => ?_, fun h => absurd (by omega) h⟩
    conv => whnf
    refine ⟨by omega, fun r hr => ?_⟩
    obtain rfl := get_row hr hx
    conv => whnf
    refine ⟨fun hg => ?_, fun hg => ?_⟩
    · rw [if_neg hg] at hs
      conv => whnf
      refine ⟨⟨by omega, by omega⟩, ?_⟩
      conv => whnf
      (refine ⟨(k + 1, _, _), ⟨?_, by dsimp only; omega⟩, [], ⟨⟨rfl, rfl⟩, ⟨⟨rfl, rfl⟩, ⟨⟨rfl, rfl⟩, ⟨⟨rfl, rfl⟩, ⟨⟨rfl, rfl⟩, trivial⟩⟩⟩⟩⟩, ⟨⟨rfl, rfl, rfl⟩, trivial⟩, rfl, rfl⟩; (try dsimp only); exact ⟨by omega, out, hs, rfl⟩)
    · replace hg : x.gate = g := Decidable.not_not.1 hg
      rw [if_pos hg] at hs
      conv => whnf
      refine ⟨Nat × Int × (List (List CV)), fun xq => ⟨[(0, L 7 (l.map encR)), (1, I g), (5, .osl 0), (6, I xq.2.1), (7, I k)], [(0, .row 3 1 xq.2.2)], 1⟩, fun xq => (xq.2.1 = n + xq.1 ∧ xq.2.2 = (out ++ count n xq.1).map cI) ∧ (∀ i : Nat, i < xq.1 → n + i < x.seq) ∧ out.length + xq.1 ≤ 100, fun xq => 100 - out.length - xq.1, ⟨(0, _, _), ?_, [], ⟨⟨rfl, rfl⟩, ⟨⟨rfl, rfl⟩, ⟨⟨rfl, rfl⟩, ⟨⟨rfl, rfl⟩, ⟨⟨rfl, rfl⟩, trivial⟩⟩⟩⟩⟩, ⟨⟨rfl, rfl, rfl⟩, trivial⟩, rfl, rfl⟩, ?_⟩
      · (try dsimp only); exact ⟨⟨(Int.add_zero _).symm, cnt0 out n⟩, fun i hi => absurd hi (Nat.not_lt_zero _), by omega⟩
      rintro ⟨j, m, es⟩ hk
      obtain ⟨⟨hm, rfl⟩, hj, hoj⟩ : (m = n + j ∧ es = (out ++ count n j).map cI) ∧ (∀ i : Nat, i < j → n + i < x.seq) ∧ out.length + j ≤ 100 := hk
      (try dsimp only)
      have hlc : ((out ++ count n j).map cI).length = out.length + j := by simp [count]
      repeat' ((conv => whnf); first | (refine ⟨fun h => ?_, fun h => ?_⟩ <;> try (exfalso; omega)) | (refine ⟨by omega, fun r hr => ?_⟩; obtain rfl := get_row hr hx) | fail)
      · conv => whnf
        refine ⟨⟨by rw [hlc]; simp only [List.length_cons, List.length_nil]; omega, by rw [hlc]; simp only [List.length_cons, List.length_nil]; omega⟩, ?_⟩
        conv => whnf
        refine ⟨⟨by omega, by omega⟩, ?_⟩
        conv => whnf
        (refine ⟨(j + 1, _, _), ⟨?_, by dsimp only; omega⟩, [(0, 1)], ⟨⟨rfl, rfl⟩, ⟨⟨rfl, rfl⟩, ⟨⟨rfl, rfl⟩, ⟨⟨rfl, rfl⟩, ⟨⟨rfl, rfl⟩, trivial⟩⟩⟩⟩⟩, ⟨⟨rfl, rfl, rfl⟩, trivial⟩, rfl, rfl⟩; (try dsimp only); exact ⟨⟨(by rw [hm]; omega : m + 1 = n + ((j + 1 : Nat) : Int)), by rw [← cnt1, hm]⟩, fun i hi => by rcases Nat.lt_succ_iff_lt_or_eq.1 hi with h' | h'; exact hj i h'; subst h'; omega, by omega⟩)
      all_goals
        conv => whnf
        refine ⟨⟨by omega, by omega⟩, ?_⟩
        conv => whnf
        refine ⟨⟨by omega, by omega⟩, ?_⟩
        conv => whnf
        dsimp only at hs
        rw [fill_eq _ j _ _ (by omega) hj (by omega)] at hs
        (refine ⟨(k + 1, _, _), ⟨?_, by dsimp only; omega⟩, [], ⟨⟨rfl, rfl⟩, ⟨⟨rfl, rfl⟩, ⟨⟨rfl, rfl⟩, ⟨⟨rfl, rfl⟩, ⟨⟨rfl, rfl⟩, trivial⟩⟩⟩⟩⟩, ⟨⟨rfl, rfl, rfl⟩, trivial⟩, rfl, rfl⟩; (try dsimp only); exact ⟨by omega, _, hs, rfl⟩)
  · have he := gapsTo_end (gate := g) hkl
    conv => whnf
    refine ⟨fun h => absurd h (by omega), fun h => ?_⟩
    conv => whnf
    refine ⟨[], rfl, trivial, ?_⟩
    rw [hn] at he
    show leV (L 1 (out.map cI)) (L 1 ((gaps l g).map cI))
    rw [← he]
    exact leV_refl _
theorem refGaps_h : Holds Try.prog 26 refGapsS := holds_of mix Try.func26 refGapsLow (fun _ => rfl) refGapsV

end Go.Proofs.Ytfghmpfiemmbgaa
