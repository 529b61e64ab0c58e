/- Rides: Gaps. -/
import Derived.Test.YtfghmpfiemmbgaaF8
namespace Go.Proofs.Ytfghmpfiemmbgaa
open Go.RowKit

theorem cnt0 (out : List Int) (n : Int) : out.map cI = (out ++ count n 0).map cI := by simp [count]
theorem cnt1 (out : List Int) (n : Int) (j : Nat) : (out ++ count n j).map cI ++ [[.int .i64 (n + j)]] = (out ++ count n (j + 1)).map cI := by rw [count_succ]; simp

/-! skiarea/rides.Gaps -/
def gapsIr : IFn := ⟨38, [.tmp 4],
  (.seq (.ops [
    ⟨(some 4), .mov, [.const (.slice none 0 0)], none⟩] false)
  (.seq (.ops [
    ⟨(some 5), .nilOwn 3 1, [], none⟩] false)
  (.seq (.ops [
    ⟨(some 6), .mov, [.const (.int .i64 1)], none⟩] false)
  (.seq (.seq (.ops [
    ⟨(some 9), .mov, [.tmp 0], none⟩,
    ⟨(some 10), .len, [.tmp 9], none⟩,
    ⟨(some 11), .mov, [.const (.int .i64 0)], none⟩] false)
  (.block 0
    (.loop
      (.seq (.ops [
        ⟨(some 12), .cmp .lss, [.tmp 11, .tmp 10], none⟩] false)
      (.seq (.cond (.tmp 12)
        .skip
        (.exit 0))
      (.seq (.block 1
        (.seq (.ops [
          ⟨(some 13), .idx 7, [.tmp 9, .tmp 11], none⟩,
          ⟨(some 14), .load 7 true, [.tmp 13], none⟩,
          ⟨(some 8), .alloc [.int .i64 0, .int .i64 0, .int .i64 0, .int .i64 0, .int .i64 0, .int .i64 0, .int .i64 0], [], none⟩,
          ⟨none, .store 7, [.tmp 8, .tmp 14], none⟩] false)
        (.seq (.seq (.ops [
          ⟨(some 15), .faddr 0, [.tmp 8], none⟩,
          ⟨(some 16), .load 1 false, [.tmp 15], none⟩,
          ⟨(some 17), .mov, [.tmp 1], none⟩,
          ⟨(some 18), .cmp .neq, [.tmp 16, .tmp 17], none⟩] false)
        (.cond (.tmp 18)
          (.exit 1)
          .skip))
        (.seq (.block 2
          (.loop
            (.seq (.seq (.ops [
              ⟨(some 19), .mov, [.tmp 6], none⟩,
              ⟨(some 20), .faddr 1, [.tmp 8], none⟩,
              ⟨(some 21), .load 1 false, [.tmp 20], none⟩,
              ⟨(some 22), .cmp .lss, [.tmp 19, .tmp 21], none⟩] false)
            (.cond (.tmp 22)
              .skip
              (.exit 2)))
            (.seq (.block 3
              (.seq (.seq (.ops [
                ⟨(some 25), .mov, [.tmp 5], none⟩,
                ⟨(some 26), .len, [.tmp 25], none⟩,
                ⟨(some 27), .cmp .eql, [.tmp 26, .const (.int .i64 100)], none⟩] false)
              (.cond (.tmp 27)
                (.seq (.ops [
                  ⟨(some 28), .mov, [.tmp 5], none⟩,
                  ⟨(some 4), .mov, [.tmp 28], none⟩] false)
                .ret)
                .skip))
              (.ops [
                ⟨(some 29), .mov, [.tmp 5], none⟩,
                ⟨(some 30), .mov, [.tmp 6], none⟩,
                ⟨(some 31), .buildSl 3 1, [.tmp 30], none⟩,
                ⟨(some 32), .append 3 1 8, [.tmp 29, .tmp 31], none⟩,
                ⟨(some 5), .mov, [.tmp 32], none⟩] false)))
            (.ops [
              ⟨(some 23), .mov, [.tmp 6], none⟩,
              ⟨(some 24), .bin .add .i64 false, [.tmp 23, .const (.int .i64 1)], none⟩,
              ⟨(some 6), .mov, [.tmp 24], none⟩] false)))))
        (.ops [
          ⟨(some 33), .faddr 1, [.tmp 8], none⟩,
          ⟨(some 34), .load 1 false, [.tmp 33], none⟩,
          ⟨(some 35), .bin .add .i64 false, [.tmp 34, .const (.int .i64 1)], none⟩,
          ⟨(some 6), .mov, [.tmp 35], none⟩] false)))))
      (.ops [
        ⟨(some 36), .bin .add .i64 false, [.tmp 11, .const (.int .i64 1)], none⟩,
        ⟨(some 11), .mov, [.tmp 36], none⟩] false)))))))
  (.seq (.ops [
    ⟨(some 37), .mov, [.tmp 5], none⟩,
    ⟨(some 4), .mov, [.tmp 37], none⟩] false)
  .ret)))))⟩
theorem gapsLow : lowF Try.prog { owns := [(5, 3)] } Try.f21 = some gapsIr := by kernel_rfl
def gapsS : Spec := spec (List Ride × Int) (fun p => [L 7 (p.1.map encR), I p.2]) (fun p => p.1.length ≤ 3000 ∧ ∀ x ∈ p.1, okR x) (fun p => L 1 ((gaps p.1 p.2).map cI))
theorem gapsV : fnV Try.prog gapsIr gapsS := by
  intro ⟨(l : List Ride), (g : Int)⟩ hx
  obtain ⟨hll, hok⟩ : l.length ≤ 3000 ∧ ∀ x ∈ l, okR x := hx
  have hl : (l.map encR).length = l.length := List.length_map ..
  show vc _ _ _ ⟨argEnv 0 [L 7 (l.map encR), I g], [], 0⟩
  conv => whnf
  refine ⟨Nat × Int × (List (List CV)), fun xq => ⟨[(1, I g), (5, .osl 0), (6, I xq.2.1), (9, L 7 (l.map encR)), (10, I (l.map encR).length), (11, I xq.1)], [(0, .row 3 1 xq.2.2)], 1⟩, fun xq => xq.1 ≤ l.length ∧ ∃ out, gapsTo l g xq.1 = (xq.2.1, out) ∧ xq.2.2 = out.map cI, fun xq => l.length - xq.1, ⟨(0, _, _), ?_, [], ⟨⟨rfl, rfl⟩, ⟨⟨rfl, rfl⟩, ⟨⟨rfl, rfl⟩, ⟨⟨rfl, rfl⟩, ⟨⟨rfl, rfl⟩, ⟨⟨rfl, rfl⟩, trivial⟩⟩⟩⟩⟩⟩, ⟨⟨rfl, rfl, rfl⟩, trivial⟩, rfl, rfl⟩, ?_⟩
  · (try dsimp only); exact ⟨Nat.zero_le _, [], rfl, rfl⟩
  rintro ⟨k, n, es⟩ hk
  obtain ⟨hk, out, hn, rfl⟩ : k ≤ l.length ∧ ∃ out, gapsTo l g k = (n, out) ∧ es = out.map cI := hk
  (try dsimp only)
  have hlo : out.length ≤ 100 := by have := gapsTo_len l g k hk; rw [hn] at this; exact this
  have hbd : 1 ≤ n ∧ n ≤ 1000001 := by have := gapsTo_bd l g hok k hk; rw [hn] at this; exact this
  by_cases hkl : k < l.length
  · have hx : l[k]? = some l[k] := List.getElem?_eq_getElem hkl
    generalize l[k] = x at hx
    have hs := gapsTo_succ (gate := g) hx
    rw [hn, gapsStep] at hs
    have hxo : 1 ≤ x.seq ∧ x.seq ≤ 1000000 := by have := hok x (List.mem_of_getElem? hx); unfold okR at this; omega
    conv => whnf
    refine ⟨fun h => ?_, fun h => absurd (by omega) h⟩
    conv => whnf
    refine ⟨by omega, fun r hr => ?_⟩
    obtain rfl := get_row hr hx
    conv => whnf
    refine ⟨fun hg => ?_, fun hg => ?_⟩
    · rw [if_neg hg] at hs
      conv => whnf
      refine ⟨⟨by omega, by omega⟩, ?_⟩
      conv => whnf
      (refine ⟨(k + 1, _, _), ⟨?_, by dsimp only; omega⟩, [], ⟨⟨rfl, rfl⟩, ⟨⟨rfl, rfl⟩, ⟨⟨rfl, rfl⟩, ⟨⟨rfl, rfl⟩, ⟨⟨rfl, rfl⟩, ⟨⟨rfl, rfl⟩, trivial⟩⟩⟩⟩⟩⟩, ⟨⟨rfl, rfl, rfl⟩, trivial⟩, rfl, rfl⟩; (try dsimp only); exact ⟨by omega, out, hs, rfl⟩)
    · replace hg : x.gate = g := Decidable.not_not.1 hg
      rw [if_pos hg] at hs
      conv => whnf
      refine ⟨Nat × Int × (List (List CV)), fun xq => ⟨[(1, I g), (5, .osl 0), (6, I xq.2.1), (8, .bp 1 0), (9, L 7 (l.map encR)), (10, I (l.map encR).length), (11, I k)], [(0, .row 3 1 xq.2.2), (1, .box ((encR x).map .c))], 2⟩, fun xq => (xq.2.1 = n + xq.1 ∧ xq.2.2 = (out ++ count n xq.1).map cI) ∧ (∀ i : Nat, i < xq.1 → n + i < x.seq) ∧ out.length + xq.1 ≤ 100, fun xq => 100 - out.length - xq.1, ⟨(0, _, _), ?_, [], ⟨⟨rfl, rfl⟩, ⟨⟨rfl, rfl⟩, ⟨⟨rfl, rfl⟩, ⟨⟨rfl, rfl⟩, ⟨⟨rfl, rfl⟩, ⟨⟨rfl, rfl⟩, ⟨⟨rfl, rfl⟩, trivial⟩⟩⟩⟩⟩⟩⟩, ⟨⟨rfl, rfl, rfl⟩, ⟨⟨rfl, rfl, rfl⟩, trivial⟩⟩, rfl, rfl⟩, ?_⟩
      · (try dsimp only); exact ⟨⟨(Int.add_zero _).symm, cnt0 out n⟩, fun i hi => absurd hi (Nat.not_lt_zero _), by omega⟩
      rintro ⟨j, m, es⟩ hk
      obtain ⟨⟨hm, rfl⟩, hj, hoj⟩ : (m = n + j ∧ es = (out ++ count n j).map cI) ∧ (∀ i : Nat, i < j → n + i < x.seq) ∧ out.length + j ≤ 100 := hk
      (try dsimp only)
      have hlc : ((out ++ count n j).map cI).length = out.length + j := by simp [count]
      conv => whnf
      refine ⟨fun h => ?_, fun h => ?_⟩
      · conv => whnf
        refine ⟨fun h1 => ?_, fun h1 => ?_⟩
        · conv => whnf
          refine ⟨[], rfl, trivial, ?_⟩
          show leV (L 1 ((out ++ count n j).map cI)) (L 1 ((gaps l g).map cI))
          have hgf := gaps_full hx hg (j := j) (by rw [hn]; show out.length + j = 100; omega) (by rw [hn]; exact hj)
          rw [hn] at hgf
          rw [hgf]
          exact leV_refl _
        · conv => whnf
          refine ⟨⟨by rw [hlc]; simp only [List.length_cons, List.length_nil]; omega, by rw [hlc]; simp only [List.length_cons, List.length_nil]; omega⟩, ?_⟩
          conv => whnf
          refine ⟨⟨by omega, by omega⟩, ?_⟩
          conv => whnf
          (refine ⟨(j + 1, _, _), ⟨?_, by dsimp only; omega⟩, [(0, 2), (1, 1)], ⟨⟨rfl, rfl⟩, ⟨⟨rfl, rfl⟩, ⟨⟨rfl, rfl⟩, ⟨⟨rfl, rfl⟩, ⟨⟨rfl, rfl⟩, ⟨⟨rfl, rfl⟩, ⟨⟨rfl, rfl⟩, trivial⟩⟩⟩⟩⟩⟩⟩, ⟨⟨rfl, rfl, rfl⟩, ⟨⟨rfl, rfl, rfl⟩, trivial⟩⟩, rfl, rfl⟩; (try dsimp only); exact ⟨⟨(by rw [hm]; omega : m + 1 = n + ((j + 1 : Nat) : Int)), by rw [← cnt1, hm]⟩, fun i hi => by rcases Nat.lt_succ_iff_lt_or_eq.1 hi with h' | h'; exact hj i h'; subst h'; omega, by omega⟩)
      · conv => whnf
        refine ⟨⟨by omega, by omega⟩, ?_⟩
        conv => whnf
        refine ⟨⟨by omega, by omega⟩, ?_⟩
        conv => whnf
        dsimp only at hs
        rw [fill_eq _ j _ _ (by omega) hj (.inl (by omega))] at hs
        (refine ⟨(k + 1, _, _), ⟨?_, by dsimp only; omega⟩, [], ⟨⟨rfl, rfl⟩, ⟨⟨rfl, rfl⟩, ⟨⟨rfl, rfl⟩, ⟨⟨rfl, rfl⟩, ⟨⟨rfl, rfl⟩, ⟨⟨rfl, rfl⟩, trivial⟩⟩⟩⟩⟩⟩, ⟨⟨rfl, rfl, rfl⟩, trivial⟩, rfl, rfl⟩; (try dsimp only); exact ⟨by omega, _, hs, rfl⟩)
  · have he := gapsTo_end (gate := g) hkl
    conv => whnf
    refine ⟨fun h => absurd h (by omega), fun h => ?_⟩
    conv => whnf
    refine ⟨[], rfl, trivial, ?_⟩
    rw [hn] at he
    show leV (L 1 (out.map cI)) (L 1 ((gaps l g).map cI))
    rw [← he]
    exact leV_refl _
theorem gaps_h : Holds Try.prog 21 gapsS := holds_of mix Try.func21 gapsLow (fun _ => rfl) gapsV

end Go.Proofs.Ytfghmpfiemmbgaa
