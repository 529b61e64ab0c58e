/- Rides: the reference's Merge. -/
import Derived.Test.YtfghmpfiemmbgaaF4
import Derived.Test.YtfghmpfiemmbgaaMf
namespace Go.Proofs.Ytfghmpfiemmbgaa
open Go.RowKit

def mergeR : MR → SV
  | .bad e => .tup [.c .nil, I e]
  | .ok m => .tup [L 7 (m.map encR), I 0]
theorem get_row {α : Type} {f : α → List CV} {xs : List α} {i : Nat} {x : α} {r : List CV} (hr : (xs.map f)[(i : Int).toNat]? = some r) (hx : xs[i]? = some x) : r = f x := by
  obtain ⟨y, hy, rfl⟩ := map_get hr
  rw [Int.toNat_natCast, hx] at hy
  cases hy; rfl
theorem ride_ext {x y : Ride} (h : x.gate = y.gate ∧ x.seq = y.seq ∧ x.serial = y.serial ∧ x.counter = y.counter ∧ x.product = y.product ∧ x.lift = y.lift ∧ x.at_ = y.at_ ∧ True) : x = y := by
  obtain ⟨a1, a2, a3, a4, a5, a6, a7, _⟩ := h
  cases x; cases y; simp_all
theorem ride_nn {x y : Ride} (h : ¬ ¬ (x.gate = y.gate ∧ x.seq = y.seq ∧ x.serial = y.serial ∧ x.counter = y.counter ∧ x.product = y.product ∧ x.lift = y.lift ∧ x.at_ = y.at_ ∧ True)) : x = y := ride_ext (Decidable.not_not.1 h)
theorem ride_ne {x y : Ride} (h : ¬ (x.gate = y.gate ∧ x.seq = y.seq ∧ x.serial = y.serial ∧ x.counter = y.counter ∧ x.product = y.product ∧ x.lift = y.lift ∧ x.at_ = y.at_ ∧ True)) : x ≠ y := fun e => h (by subst e; exact ⟨rfl, rfl, rfl, rfl, rfl, rfl, rfl, trivial⟩)
theorem same_key {x y : Ride} (h1 : ¬ before x y) (h2 : ¬ before y x) : key x = key y := ((before_tri x y).resolve_left h1).resolve_left h2
theorem snoc_row (out : List Ride) (x : Ride) : some (Ob.row 28 7 (out.map encR ++ [encR x])) = some (Ob.row 28 7 ((out ++ [x]).map encR)) := by rw [List.map_append]; rfl

/-! skiarea/skiarearef31.Merge -/
def refMergeIr : IFn := ⟨100, [.tmp 4, .tmp 5],
  (.seq (.ops [
    ⟨(some 4), .mov, [.const (.slice none 0 0)], none⟩,
    ⟨(some 5), .mov, [.const (.int .i64 0)], none⟩] false)
  (.seq (.ops [
    ⟨(some 6), .nilOwn 28 7, [], none⟩] false)
  (.seq (.ops [
    ⟨(some 7), .mov, [.const (.int .i64 0)], none⟩,
    ⟨(some 8), .mov, [.const (.int .i64 0)], none⟩] false)
  (.seq (.block 0
    (.loop
      (.seq (.seq (.ops [
        ⟨(some 9), .mov, [.tmp 7], none⟩,
        ⟨(some 10), .mov, [.tmp 0], none⟩,
        ⟨(some 11), .len, [.tmp 10], none⟩,
        ⟨(some 12), .cmp .lss, [.tmp 9, .tmp 11], none⟩,
        ⟨(some 13), .mov, [.tmp 12], none⟩,
        ⟨(some 14), .mov, [.tmp 8], (some (13, false))⟩,
        ⟨(some 15), .mov, [.tmp 1], (some (13, false))⟩,
        ⟨(some 16), .len, [.tmp 15], (some (13, false))⟩,
        ⟨(some 17), .cmp .lss, [.tmp 14, .tmp 16], (some (13, false))⟩,
        ⟨(some 18), .pick, [.tmp 13, .const (.bool true), .tmp 17], none⟩] false)
      (.cond (.tmp 18)
        .skip
        (.exit 0)))
      (.block 1
        (.block 2
          (.seq (.ops [
            ⟨(some 31), .mov, [.tmp 8], none⟩,
            ⟨(some 32), .mov, [.tmp 1], none⟩,
            ⟨(some 33), .len, [.tmp 32], none⟩,
            ⟨(some 34), .cmp .geq, [.tmp 31, .tmp 33], none⟩,
            ⟨(some 35), .mov, [.tmp 34], none⟩,
            ⟨(some 36), .mov, [.tmp 7], (some (35, false))⟩,
            ⟨(some 37), .mov, [.tmp 0], (some (35, false))⟩,
            ⟨(some 38), .len, [.tmp 37], (some (35, false))⟩,
            ⟨(some 39), .cmp .lss, [.tmp 36, .tmp 38], (some (35, false))⟩,
            ⟨(some 40), .mov, [.tmp 39], (some (35, false))⟩,
            ⟨(some 41), .mov, [.tmp 0], (some (40, true))⟩,
            ⟨(some 42), .mov, [.tmp 7], (some (40, true))⟩,
            ⟨(some 43), .idx 7, [.tmp 41, .tmp 42], (some (40, true))⟩,
            ⟨(some 44), .load 7 true, [.tmp 43], (some (40, true))⟩,
            ⟨(some 45), .mov, [.tmp 1], (some (40, true))⟩,
            ⟨(some 46), .mov, [.tmp 8], (some (40, true))⟩,
            ⟨(some 47), .idx 7, [.tmp 45, .tmp 46], (some (40, true))⟩,
            ⟨(some 48), .load 7 true, [.tmp 47], (some (40, true))⟩,
            ⟨(some 49), .call 31, [.tmp 44, .tmp 48], (some (40, true))⟩,
            ⟨(some 50), .pick, [.tmp 40, .tmp 49, .const (.bool false)], (some (35, false))⟩,
            ⟨(some 51), .pick, [.tmp 35, .const (.bool true), .tmp 50], none⟩,
            ⟨(some 30), .mov, [.tmp 51], none⟩] true)
          (.cond (.tmp 30)
            (.seq (.ops [
              ⟨(some 52), .mov, [.tmp 6], none⟩,
              ⟨(some 53), .mov, [.tmp 0], none⟩,
              ⟨(some 54), .mov, [.tmp 7], none⟩,
              ⟨(some 55), .idx 7, [.tmp 53, .tmp 54], none⟩,
              ⟨(some 56), .load 7 true, [.tmp 55], none⟩,
              ⟨(some 57), .buildSl 28 7, [.tmp 56], none⟩,
              ⟨(some 58), .append 28 7 56, [.tmp 52, .tmp 57], none⟩,
              ⟨(some 6), .mov, [.tmp 58], none⟩] false)
            (.ops [
              ⟨(some 59), .mov, [.tmp 7], none⟩,
              ⟨(some 60), .bin .add .i64 false, [.tmp 59, .const (.int .i64 1)], none⟩,
              ⟨(some 7), .mov, [.tmp 60], none⟩] false))
            (.seq (.ops [
              ⟨(some 62), .mov, [.tmp 7], none⟩,
              ⟨(some 63), .mov, [.tmp 0], none⟩,
              ⟨(some 64), .len, [.tmp 63], none⟩,
              ⟨(some 65), .cmp .geq, [.tmp 62, .tmp 64], none⟩,
              ⟨(some 66), .mov, [.tmp 65], none⟩,
              ⟨(some 67), .mov, [.tmp 1], (some (66, false))⟩,
              ⟨(some 68), .mov, [.tmp 8], (some (66, false))⟩,
              ⟨(some 69), .idx 7, [.tmp 67, .tmp 68], (some (66, false))⟩,
              ⟨(some 70), .load 7 true, [.tmp 69], (some (66, false))⟩,
              ⟨(some 71), .mov, [.tmp 0], (some (66, false))⟩,
              ⟨(some 72), .mov, [.tmp 7], (some (66, false))⟩,
              ⟨(some 73), .idx 7, [.tmp 71, .tmp 72], (some (66, false))⟩,
              ⟨(some 74), .load 7 true, [.tmp 73], (some (66, false))⟩,
              ⟨(some 75), .call 31, [.tmp 70, .tmp 74], (some (66, false))⟩,
              ⟨(some 76), .pick, [.tmp 66, .const (.bool true), .tmp 75], none⟩,
              ⟨(some 61), .mov, [.tmp 76], none⟩] true)
            (.cond (.tmp 61)
              (.seq (.ops [
                ⟨(some 77), .mov, [.tmp 6], none⟩,
                ⟨(some 78), .mov, [.tmp 1], none⟩,
                ⟨(some 79), .mov, [.tmp 8], none⟩,
                ⟨(some 80), .idx 7, [.tmp 78, .tmp 79], none⟩,
                ⟨(some 81), .load 7 true, [.tmp 80], none⟩,
                ⟨(some 82), .buildSl 28 7, [.tmp 81], none⟩,
                ⟨(some 83), .append 28 7 56, [.tmp 77, .tmp 82], none⟩,
                ⟨(some 6), .mov, [.tmp 83], none⟩] false)
              (.ops [
                ⟨(some 84), .mov, [.tmp 8], none⟩,
                ⟨(some 85), .bin .add .i64 false, [.tmp 84, .const (.int .i64 1)], none⟩,
                ⟨(some 8), .mov, [.tmp 85], none⟩] false))
              (.seq (.ops [
                ⟨(some 87), .mov, [.tmp 0], none⟩,
                ⟨(some 88), .mov, [.tmp 7], none⟩,
                ⟨(some 89), .idx 7, [.tmp 87, .tmp 88], none⟩,
                ⟨(some 90), .load 7 true, [.tmp 89], none⟩,
                ⟨(some 91), .mov, [.tmp 1], none⟩,
                ⟨(some 92), .mov, [.tmp 8], none⟩,
                ⟨(some 93), .idx 7, [.tmp 91, .tmp 92], none⟩,
                ⟨(some 94), .load 7 true, [.tmp 93], none⟩,
                ⟨(some 95), .eqa [false, false, false, false, false, false, false] true, [.tmp 90, .tmp 94], none⟩,
                ⟨(some 86), .mov, [.tmp 95], none⟩] true)
              (.cond (.tmp 86)
                (.seq (.ops [
                  ⟨(some 4), .mov, [.const (.slice none 0 0)], none⟩,
                  ⟨(some 5), .mov, [.const (.int .i64 15)], none⟩] false)
                .ret)
                (.seq (.ops [
                  ⟨(some 19), .mov, [.tmp 6], none⟩,
                  ⟨(some 20), .mov, [.tmp 0], none⟩,
                  ⟨(some 21), .mov, [.tmp 7], none⟩,
                  ⟨(some 22), .idx 7, [.tmp 20, .tmp 21], none⟩,
                  ⟨(some 23), .load 7 true, [.tmp 22], none⟩,
                  ⟨(some 24), .buildSl 28 7, [.tmp 23], none⟩,
                  ⟨(some 25), .append 28 7 56, [.tmp 19, .tmp 24], none⟩,
                  ⟨(some 6), .mov, [.tmp 25], none⟩] false)
                (.seq (.ops [
                  ⟨(some 26), .mov, [.tmp 7], none⟩,
                  ⟨(some 27), .bin .add .i64 false, [.tmp 26, .const (.int .i64 1)], none⟩,
                  ⟨(some 7), .mov, [.tmp 27], none⟩] false)
                (.ops [
                  ⟨(some 28), .mov, [.tmp 8], none⟩,
                  ⟨(some 29), .bin .add .i64 false, [.tmp 28, .const (.int .i64 1)], none⟩,
                  ⟨(some 8), .mov, [.tmp 29], none⟩] false))))))))))))))
  (.seq (.seq (.ops [
    ⟨(some 96), .mov, [.tmp 6], none⟩,
    ⟨(some 97), .len, [.tmp 96], none⟩,
    ⟨(some 98), .cmp .gtr, [.tmp 97, .const (.int .i64 2000)], none⟩] false)
  (.cond (.tmp 98)
    (.seq (.ops [
      ⟨(some 4), .mov, [.const (.slice none 0 0)], none⟩,
      ⟨(some 5), .mov, [.const (.int .i64 9)], none⟩] false)
    .ret)
    .skip))
  (.seq (.ops [
    ⟨(some 99), .mov, [.tmp 6], none⟩,
    ⟨(some 4), .mov, [.tmp 99], none⟩,
    ⟨(some 5), .mov, [.const (.int .i64 0)], none⟩] false)
  .ret))))))⟩
theorem refMergeLow : lowF Try.prog { owns := [(6, 28)] } Try.f19 = some refMergeIr := by kernel_rfl
def refMergeS : Spec := spec (List Ride × List Ride) (fun p => [L 7 (p.1.map encR), L 7 (p.2.map encR)]) (fun p => (p.1.length ≤ 3000 ∧ Sorted p.1) ∧ p.2.length ≤ 3000 ∧ Sorted p.2) (fun p => mergeR (mergeF p.1 p.2))
theorem refMergeV : fnV Try.prog refMergeIr refMergeS := by
  intro ⟨(a : List Ride), (b : List Ride)⟩ hx
  obtain ⟨⟨la, sa⟩, lb, sb⟩ : (a.length ≤ 3000 ∧ Sorted a) ∧ b.length ≤ 3000 ∧ Sorted b := hx
  have hla : (a.map encR).length = a.length := List.length_map ..
  have hlb : (b.map encR).length = b.length := List.length_map ..
  show vc _ _ _ ⟨argEnv 0 [L 7 (a.map encR), L 7 (b.map encR)], [], 0⟩
  conv => whnf
  refine ⟨Nat × Nat × List Ride, fun x => ⟨[(0, L 7 (a.map encR)), (1, L 7 (b.map encR)), (6, .osl 0), (7, I x.1), (8, I x.2.1)], [(0, .row 28 7 (x.2.2.map encR))], 1⟩, fun x => x.1 ≤ a.length ∧ x.2.1 ≤ b.length ∧ MInv a b x.1 x.2.1 x.2.2, fun x => (a.length - x.1) + (b.length - x.2.1), ⟨(0, 0, []), ⟨Nat.zero_le _, Nat.zero_le _, MInv.start a b⟩, [], ⟨⟨rfl, rfl⟩, ⟨⟨rfl, rfl⟩, ⟨⟨rfl, rfl⟩, ⟨⟨rfl, rfl⟩, ⟨⟨rfl, rfl⟩, trivial⟩⟩⟩⟩⟩, ⟨⟨rfl, rfl, rfl⟩, trivial⟩, rfl, rfl⟩, fun x hk => ?_⟩
  obtain ⟨i, k, out⟩ := x
  obtain ⟨hi, hk, hm⟩ : i ≤ a.length ∧ k ≤ b.length ∧ MInv a b i k out := hk
  dsimp only
  have hol := hm.len
  have hlo : (out.map encR).length = out.length := List.length_map ..
  by_cases ha : i < a.length
  · have hx : a[i]? = some a[i] := List.getElem?_eq_getElem ha
    generalize a[i] = x at hx
    by_cases hb : k < b.length
    · have hy : b[k]? = some b[k] := List.getElem?_eq_getElem hb
      generalize b[k] = y at hy
      repeat' ((conv => whnf); first | (refine ⟨fun h => ?_, fun h => ?_⟩ <;> try (exfalso; omega)) | (refine ⟨by omega, fun r hr => ?_⟩; first | (obtain rfl := get_row hr hx) | (obtain rfl := get_row hr hy)) | refine ⟨_, before_h, (_, _), trivial, leVs_of_eq rfl, .inr rfl, rfl, ?_⟩ | refine ⟨⟨by omega, by omega⟩, ?_⟩ | refine ⟨⟨by simp; omega, by simp; omega⟩, ?_⟩ | fail)
      all_goals ((conv => whnf); first
        | (refine ⟨(i + 1, k, out ++ [x]), ⟨⟨by dsimp only; omega, by dsimp only; omega, hm.stepA sa hx (sb.le_head hy (of_decide_eq_true (by assumption)))⟩, by dsimp only; omega⟩, [(0, 1)], ⟨⟨rfl, rfl⟩, ⟨⟨rfl, rfl⟩, ⟨⟨rfl, rfl⟩, ⟨⟨rfl, rfl⟩, ⟨⟨rfl, rfl⟩, trivial⟩⟩⟩⟩⟩, ⟨⟨snoc_row _ _, rfl, rfl⟩, trivial⟩, rfl, rfl⟩; done)
        | (refine ⟨(i, k + 1, out ++ [y]), ⟨⟨by dsimp only; omega, by dsimp only; omega, hm.stepB sb hy (sa.le_head hx (of_decide_eq_true (by assumption)))⟩, by dsimp only; omega⟩, [(0, 1)], ⟨⟨rfl, rfl⟩, ⟨⟨rfl, rfl⟩, ⟨⟨rfl, rfl⟩, ⟨⟨rfl, rfl⟩, ⟨⟨rfl, rfl⟩, trivial⟩⟩⟩⟩⟩, ⟨⟨snoc_row _ _, rfl, rfl⟩, trivial⟩, rfl, rfl⟩; done)
        | (refine ⟨(i + 1, k + 1, out ++ [x]), ⟨⟨by dsimp only; omega, by dsimp only; omega, hm.stepC sa sb hx (by have e : x = y := ride_nn (by assumption); rw [e]; exact hy)⟩, by dsimp only; omega⟩, [(0, 1)], ⟨⟨rfl, rfl⟩, ⟨⟨rfl, rfl⟩, ⟨⟨rfl, rfl⟩, ⟨⟨rfl, rfl⟩, ⟨⟨rfl, rfl⟩, trivial⟩⟩⟩⟩⟩, ⟨⟨snoc_row _ _, rfl, rfl⟩, trivial⟩, rfl, rfl⟩; done)
        | (refine ⟨[], rfl, trivial, ?_⟩
           show leR _ (mergeR (mergeF a b))
           rw [mergeF_conflict sa sb (conflict_of hy (List.mem_of_getElem? hx) (same_key (of_decide_eq_false (by assumption)) (of_decide_eq_false (by assumption))) (ride_ne (by assumption)))]
           exact leVs_of_eq rfl)
        | fail)
    · repeat' ((conv => whnf); first | (refine ⟨fun h => ?_, fun h => ?_⟩ <;> try (exfalso; omega)) | (refine ⟨by omega, fun r hr => ?_⟩; (obtain rfl := get_row hr hx)) | refine ⟨_, before_h, (_, _), trivial, leVs_of_eq rfl, .inr rfl, rfl, ?_⟩ | refine ⟨⟨by omega, by omega⟩, ?_⟩ | refine ⟨⟨by simp; omega, by simp; omega⟩, ?_⟩ | fail)
      all_goals ((conv => whnf); first | (refine ⟨(i + 1, k, out ++ [x]), ⟨⟨by dsimp only; omega, by dsimp only; omega, hm.stepA sa hx (by rw [List.drop_eq_nil_of_le (by omega)]; simp)⟩, by dsimp only; omega⟩, [(0, 1)], ⟨⟨rfl, rfl⟩, ⟨⟨rfl, rfl⟩, ⟨⟨rfl, rfl⟩, ⟨⟨rfl, rfl⟩, ⟨⟨rfl, rfl⟩, trivial⟩⟩⟩⟩⟩, ⟨⟨snoc_row _ _, rfl, rfl⟩, trivial⟩, rfl, rfl⟩; done) | fail)
  · by_cases hb : k < b.length
    · have hy : b[k]? = some b[k] := List.getElem?_eq_getElem hb
      generalize b[k] = y at hy
      repeat' ((conv => whnf); first | (refine ⟨fun h => ?_, fun h => ?_⟩ <;> try (exfalso; omega)) | (refine ⟨by omega, fun r hr => ?_⟩; (obtain rfl := get_row hr hy)) | refine ⟨_, before_h, (_, _), trivial, leVs_of_eq rfl, .inr rfl, rfl, ?_⟩ | refine ⟨⟨by omega, by omega⟩, ?_⟩ | refine ⟨⟨by simp; omega, by simp; omega⟩, ?_⟩ | fail)
      all_goals ((conv => whnf); first | (refine ⟨(i, k + 1, out ++ [y]), ⟨⟨by dsimp only; omega, by dsimp only; omega, hm.stepB sb hy (by rw [List.drop_eq_nil_of_le (by omega)]; simp)⟩, by dsimp only; omega⟩, [(0, 1)], ⟨⟨rfl, rfl⟩, ⟨⟨rfl, rfl⟩, ⟨⟨rfl, rfl⟩, ⟨⟨rfl, rfl⟩, ⟨⟨rfl, rfl⟩, trivial⟩⟩⟩⟩⟩, ⟨⟨snoc_row _ _, rfl, rfl⟩, trivial⟩, rfl, rfl⟩; done) | fail)
    · have hM := mergeF_merge sa sb (hm.done ha hb)
      repeat' ((conv => whnf); first | (refine ⟨fun h => ?_, fun h => ?_⟩ <;> try (exfalso; omega)) | (refine ⟨by omega, fun r hr => ?_⟩; fail) | refine ⟨_, before_h, (_, _), trivial, leVs_of_eq rfl, .inr rfl, rfl, ?_⟩ | refine ⟨⟨by omega, by omega⟩, ?_⟩ | refine ⟨⟨by simp; omega, by simp; omega⟩, ?_⟩ | fail)
      · refine ⟨[], rfl, trivial, ?_⟩
        show leR _ (mergeR (mergeF a b))
        rw [hM, if_pos (by omega)]
        exact leVs_of_eq rfl
      · refine ⟨[], rfl, trivial, ?_⟩
        show leR _ (mergeR (mergeF a b))
        rw [hM, if_neg (by omega)]
        exact leVs_of_eq rfl
theorem refMerge_h : Holds Try.prog 19 refMergeS := holds_of mix Try.func19 refMergeLow (fun _ => rfl) refMergeV

end Go.Proofs.Ytfghmpfiemmbgaa
