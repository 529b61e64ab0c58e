/- Rides: Upto. -/
import Derived.Test.YtfghmpfiemmbgaaF7
import Derived.Test.YtfghmpfiemmbgaaGap
namespace Go.Proofs.Ytfghmpfiemmbgaa
open Go.RowKit

/-! skiarea/rides.Upto -/
def uptoIr : IFn := ⟨29, [.tmp 4],
  (.seq (.ops [
    ⟨(some 4), .mov, [.const (.int .i64 0)], none⟩] false)
  (.seq (.ops [
    ⟨(some 5), .mov, [.const (.int .i64 0)], none⟩] false)
  (.seq (.seq (.ops [
    ⟨(some 8), .mov, [.tmp 0], none⟩,
    ⟨(some 9), .len, [.tmp 8], none⟩,
    ⟨(some 10), .mov, [.const (.int .i64 0)], none⟩] false)
  (.block 0
    (.loop
      (.seq (.ops [
        ⟨(some 11), .cmp .lss, [.tmp 10, .tmp 9], none⟩] false)
      (.seq (.cond (.tmp 11)
        .skip
        (.exit 0))
      (.seq (.block 1
        (.seq (.ops [
          ⟨(some 12), .idx 7, [.tmp 8, .tmp 10], none⟩,
          ⟨(some 13), .load 7 true, [.tmp 12], none⟩,
          ⟨(some 7), .alloc [.int .i64 0, .int .i64 0, .int .i64 0, .int .i64 0, .int .i64 0, .int .i64 0, .int .i64 0], [], none⟩,
          ⟨none, .store 7, [.tmp 7, .tmp 13], none⟩] false)
        (.seq (.ops [
          ⟨(some 14), .faddr 0, [.tmp 7], none⟩,
          ⟨(some 15), .load 1 false, [.tmp 14], none⟩,
          ⟨(some 16), .mov, [.tmp 1], none⟩,
          ⟨(some 17), .cmp .eql, [.tmp 15, .tmp 16], none⟩,
          ⟨(some 18), .mov, [.tmp 17], none⟩,
          ⟨(some 19), .faddr 1, [.tmp 7], (some (18, true))⟩,
          ⟨(some 20), .load 1 false, [.tmp 19], (some (18, true))⟩,
          ⟨(some 21), .mov, [.tmp 5], (some (18, true))⟩,
          ⟨(some 22), .bin .add .i64 false, [.tmp 21, .const (.int .i64 1)], (some (18, true))⟩,
          ⟨(some 23), .cmp .eql, [.tmp 20, .tmp 22], (some (18, true))⟩,
          ⟨(some 24), .pick, [.tmp 18, .tmp 23, .const (.bool false)], none⟩] false)
        (.cond (.tmp 24)
          (.ops [
            ⟨(some 25), .mov, [.tmp 5], none⟩,
            ⟨(some 26), .bin .add .i64 false, [.tmp 25, .const (.int .i64 1)], none⟩,
            ⟨(some 5), .mov, [.tmp 26], none⟩] false)
          .skip))))
      (.ops [
        ⟨(some 27), .bin .add .i64 false, [.tmp 10, .const (.int .i64 1)], none⟩,
        ⟨(some 10), .mov, [.tmp 27], none⟩] false)))))))
  (.seq (.ops [
    ⟨(some 28), .mov, [.tmp 5], none⟩,
    ⟨(some 4), .mov, [.tmp 28], none⟩] false)
  .ret))))⟩
theorem uptoLow : lowF Try.prog {} Try.f22 = some uptoIr := by kernel_rfl
def uptoS : Spec := spec (List Ride × Int) (fun p => [L 7 (p.1.map encR), I p.2]) (fun p => p.1.length ≤ 3000) (fun p => I (upto p.1 p.2))
theorem uptoV : fnV Try.prog uptoIr uptoS := by
  intro ⟨(l : List Ride), (g : Int)⟩ hx
  replace hx : l.length ≤ 3000 := hx
  have hl : (l.map encR).length = l.length := List.length_map ..
  show vc _ _ _ ⟨argEnv 0 [L 7 (l.map encR), I g], [], 0⟩
  conv => whnf
  refine ⟨Nat × Int, fun x => ⟨[(1, I g), (5, I x.2), (8, L 7 (l.map encR)), (9, I (l.map encR).length), (10, I x.1)], [], 0⟩, fun x => x.1 ≤ l.length ∧ x.2 = uptoTo l g x.1, fun x => l.length - x.1, ⟨(0, 0), ⟨Nat.zero_le _, rfl⟩, [], ⟨⟨rfl, rfl⟩, ⟨⟨rfl, rfl⟩, ⟨⟨rfl, rfl⟩, ⟨⟨rfl, rfl⟩, ⟨⟨rfl, rfl⟩, trivial⟩⟩⟩⟩⟩, trivial, rfl, rfl⟩, fun x hk => ?_⟩
  obtain ⟨k, n⟩ := x
  obtain ⟨hk, hn⟩ : k ≤ l.length ∧ n = uptoTo l g k := hk
  dsimp only
  have hbd := uptoTo_bd l g k hk
  rw [← hn] at hbd
  by_cases hkl : k < l.length
  · have hx : l[k]? = some l[k] := List.getElem?_eq_getElem hkl
    generalize l[k] = x at hx
    have hs := uptoTo_succ (gate := g) hx
    rw [← hn, uptoStep] at hs
    repeat' ((conv => whnf); first | (refine ⟨(k + 1, n + 1), ⟨⟨by dsimp only; omega, by rw [hs, if_pos (by omega)]⟩, by dsimp only; omega⟩, [], ⟨⟨rfl, rfl⟩, ⟨⟨rfl, rfl⟩, ⟨⟨rfl, rfl⟩, ⟨⟨rfl, rfl⟩, ⟨⟨rfl, rfl⟩, trivial⟩⟩⟩⟩⟩, trivial, rfl, rfl⟩; done) | (refine ⟨(k + 1, n), ⟨⟨by dsimp only; omega, by rw [hs, if_neg (by omega)]⟩, by dsimp only; omega⟩, [], ⟨⟨rfl, rfl⟩, ⟨⟨rfl, rfl⟩, ⟨⟨rfl, rfl⟩, ⟨⟨rfl, rfl⟩, ⟨⟨rfl, rfl⟩, trivial⟩⟩⟩⟩⟩, trivial, rfl, rfl⟩; done) | (refine ⟨fun h => ?_, fun h => ?_⟩ <;> try (exfalso; omega)) | (refine ⟨by omega, fun r hr => ?_⟩; (obtain rfl := get_row hr hx)) | refine ⟨_, before_h, (_, _), trivial, leVs_of_eq rfl, .inr rfl, rfl, ?_⟩ | refine ⟨⟨by omega, by omega⟩, ?_⟩ | refine ⟨⟨by simp; omega, by simp; omega⟩, ?_⟩ | fail)
  · have he := uptoTo_end (gate := g) hkl
    repeat' ((conv => whnf); first | (refine ⟨fun h => ?_, fun h => ?_⟩ <;> try (exfalso; omega)) | (refine ⟨by omega, fun r hr => ?_⟩; fail) | refine ⟨_, before_h, (_, _), trivial, leVs_of_eq rfl, .inr rfl, rfl, ?_⟩ | refine ⟨⟨by omega, by omega⟩, ?_⟩ | refine ⟨⟨by simp; omega, by simp; omega⟩, ?_⟩ | fail)
    (conv => whnf)
    refine ⟨[], rfl, trivial, congrArg (CV.int .i64) ?_⟩
    rw [hn, he]
theorem upto_h : Holds Try.prog 22 uptoS := holds_of mix Try.func22 uptoLow (fun _ => rfl) uptoV

/-! skiarea/skiarearef31.Upto -/
def refUptoIr : IFn := ⟨33, [.tmp 4],
  (.seq (.ops [
    ⟨(some 4), .mov, [.const (.int .i64 0)], none⟩] false)
  (.seq (.ops [
    ⟨(some 5), .mov, [.const (.int .i64 0)], none⟩] false)
  (.seq (.seq (.ops [
    ⟨(some 6), .mov, [.const (.int .i64 0)], none⟩] false)
  (.block 0
    (.loop
      (.seq (.seq (.ops [
        ⟨(some 7), .mov, [.tmp 6], none⟩,
        ⟨(some 8), .mov, [.tmp 0], none⟩,
        ⟨(some 9), .len, [.tmp 8], none⟩,
        ⟨(some 10), .cmp .lss, [.tmp 7, .tmp 9], none⟩] false)
      (.cond (.tmp 10)
        .skip
        (.exit 0)))
      (.seq (.block 1
        (.seq (.ops [
          ⟨(some 13), .mov, [.tmp 0], none⟩,
          ⟨(some 14), .mov, [.tmp 6], none⟩,
          ⟨(some 15), .idx 7, [.tmp 13, .tmp 14], none⟩,
          ⟨(some 16), .faddr 0, [.tmp 15], none⟩,
          ⟨(some 17), .load 1 false, [.tmp 16], none⟩,
          ⟨(some 18), .mov, [.tmp 1], none⟩,
          ⟨(some 19), .cmp .eql, [.tmp 17, .tmp 18], none⟩,
          ⟨(some 20), .mov, [.tmp 19], none⟩,
          ⟨(some 21), .mov, [.tmp 0], (some (20, true))⟩,
          ⟨(some 22), .mov, [.tmp 6], (some (20, true))⟩,
          ⟨(some 23), .idx 7, [.tmp 21, .tmp 22], (some (20, true))⟩,
          ⟨(some 24), .faddr 1, [.tmp 23], (some (20, true))⟩,
          ⟨(some 25), .load 1 false, [.tmp 24], (some (20, true))⟩,
          ⟨(some 26), .mov, [.tmp 5], (some (20, true))⟩,
          ⟨(some 27), .bin .add .i64 false, [.tmp 26, .const (.int .i64 1)], (some (20, true))⟩,
          ⟨(some 28), .cmp .eql, [.tmp 25, .tmp 27], (some (20, true))⟩,
          ⟨(some 29), .pick, [.tmp 20, .tmp 28, .const (.bool false)], none⟩] false)
        (.cond (.tmp 29)
          (.ops [
            ⟨(some 30), .mov, [.tmp 5], none⟩,
            ⟨(some 31), .bin .add .i64 false, [.tmp 30, .const (.int .i64 1)], none⟩,
            ⟨(some 5), .mov, [.tmp 31], none⟩] false)
          .skip)))
      (.ops [
        ⟨(some 11), .mov, [.tmp 6], none⟩,
        ⟨(some 12), .bin .add .i64 false, [.tmp 11, .const (.int .i64 1)], none⟩,
        ⟨(some 6), .mov, [.tmp 12], none⟩] false))))))
  (.seq (.ops [
    ⟨(some 32), .mov, [.tmp 5], none⟩,
    ⟨(some 4), .mov, [.tmp 32], none⟩] false)
  .ret))))⟩
theorem refUptoLow : lowF Try.prog {} Try.f27 = some refUptoIr := by kernel_rfl
def refUptoS : Spec := spec (List Ride × Int) (fun p => [L 7 (p.1.map encR), I p.2]) (fun p => p.1.length ≤ 3000) (fun p => I (upto p.1 p.2))
theorem refUptoV : fnV Try.prog refUptoIr refUptoS := by
  intro ⟨(l : List Ride), (g : Int)⟩ hx
  replace hx : l.length ≤ 3000 := hx
  have hl : (l.map encR).length = l.length := List.length_map ..
  show vc _ _ _ ⟨argEnv 0 [L 7 (l.map encR), I g], [], 0⟩
  conv => whnf
  refine ⟨Nat × Int, fun x => ⟨[(0, L 7 (l.map encR)), (1, I g), (5, I x.2), (6, I x.1)], [], 0⟩, fun x => x.1 ≤ l.length ∧ x.2 = uptoTo l g x.1, fun x => l.length - x.1, ⟨(0, 0), ⟨Nat.zero_le _, rfl⟩, [], ⟨⟨rfl, rfl⟩, ⟨⟨rfl, rfl⟩, ⟨⟨rfl, rfl⟩, ⟨⟨rfl, rfl⟩, trivial⟩⟩⟩⟩, trivial, rfl, rfl⟩, fun x hk => ?_⟩
  obtain ⟨k, n⟩ := x
  obtain ⟨hk, hn⟩ : k ≤ l.length ∧ n = uptoTo l g k := hk
  dsimp only
  have hbd := uptoTo_bd l g k hk
  rw [← hn] at hbd
  by_cases hkl : k < l.length
  · have hx : l[k]? = some l[k] := List.getElem?_eq_getElem hkl
    generalize l[k] = x at hx
    have hs := uptoTo_succ (gate := g) hx
    rw [← hn, uptoStep] at hs
    repeat' ((conv => whnf); first | (refine ⟨(k + 1, n + 1), ⟨⟨by dsimp only; omega, by rw [hs, if_pos (by omega)]⟩, by dsimp only; omega⟩, [], ⟨⟨rfl, rfl⟩, ⟨⟨rfl, rfl⟩, ⟨⟨rfl, rfl⟩, ⟨⟨rfl, rfl⟩, trivial⟩⟩⟩⟩, trivial, rfl, rfl⟩; done) | (refine ⟨(k + 1, n), ⟨⟨by dsimp only; omega, by rw [hs, if_neg (by omega)]⟩, by dsimp only; omega⟩, [], ⟨⟨rfl, rfl⟩, ⟨⟨rfl, rfl⟩, ⟨⟨rfl, rfl⟩, ⟨⟨rfl, rfl⟩, trivial⟩⟩⟩⟩, trivial, rfl, rfl⟩; done) | (refine ⟨fun h => ?_, fun h => ?_⟩ <;> try (exfalso; omega)) | (refine ⟨by omega, fun r hr => ?_⟩; (obtain rfl := get_row hr hx)) | refine ⟨_, before_h, (_, _), trivial, leVs_of_eq rfl, .inr rfl, rfl, ?_⟩ | refine ⟨⟨by omega, by omega⟩, ?_⟩ | refine ⟨⟨by simp; omega, by simp; omega⟩, ?_⟩ | fail)
  · have he := uptoTo_end (gate := g) hkl
    repeat' ((conv => whnf); first | (refine ⟨fun h => ?_, fun h => ?_⟩ <;> try (exfalso; omega)) | (refine ⟨by omega, fun r hr => ?_⟩; fail) | refine ⟨_, before_h, (_, _), trivial, leVs_of_eq rfl, .inr rfl, rfl, ?_⟩ | refine ⟨⟨by omega, by omega⟩, ?_⟩ | refine ⟨⟨by simp; omega, by simp; omega⟩, ?_⟩ | fail)
    (conv => whnf)
    refine ⟨[], rfl, trivial, congrArg (CV.int .i64) ?_⟩
    rw [hn, he]
theorem refUpto_h : Holds Try.prog 27 refUptoS := holds_of mix Try.func27 refUptoLow (fun _ => rfl) refUptoV

end Go.Proofs.Ytfghmpfiemmbgaa
