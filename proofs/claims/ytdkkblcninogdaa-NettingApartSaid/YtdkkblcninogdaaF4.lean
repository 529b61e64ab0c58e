/- Netting: the reference's Valid. -/
import Derived.Test.YtdkkblcninogdaaF3
namespace Go.Proofs.Ytdkkblcninogdaa
open Go.RowKit

/-! skiarea/skiarearef37.Valid -/
def rvalidIr : IFn := ⟨118, [.tmp 4],
  (.seq (.ops [
    ⟨(some 4), .mov, [.const (.bool false)], none⟩] false)
  (.seq (.ops [
    ⟨(some 10), .mksl 3 1 8 [.int .i64 0], [.const (.int .i64 9), .const (.int .i64 9)], none⟩,
    ⟨(some 5), .mov, [.tmp 10], none⟩] false)
  (.seq (.seq (.ops [
    ⟨(some 6), .mov, [.const (.int .i64 0)], none⟩] false)
  (.block 0
    (.loop
      (.seq (.seq (.ops [
        ⟨(some 11), .mov, [.tmp 6], none⟩,
        ⟨(some 12), .mov, [.tmp 1], none⟩,
        ⟨(some 13), .len, [.tmp 12], none⟩,
        ⟨(some 14), .cmp .lss, [.tmp 11, .tmp 13], none⟩] false)
      (.cond (.tmp 14)
        .skip
        (.exit 0)))
      (.seq (.block 1
        (.seq (.ops [
          ⟨(some 17), .mov, [.tmp 1], none⟩,
          ⟨(some 18), .mov, [.tmp 6], none⟩,
          ⟨(some 19), .idx 3, [.tmp 17, .tmp 18], none⟩,
          ⟨(some 20), .load 3 true, [.tmp 19], none⟩,
          ⟨(some 7), .alloc [.int .i64 0, .int .i64 0, .int .i64 0], [], none⟩,
          ⟨none, .store 3, [.tmp 7, .tmp 20], none⟩] false)
        (.seq (.seq (.ops [
          ⟨(some 21), .faddr 0, [.tmp 7], none⟩,
          ⟨(some 22), .load 1 false, [.tmp 21], none⟩,
          ⟨(some 23), .cmp .lss, [.tmp 22, .const (.int .i64 1)], none⟩,
          ⟨(some 24), .mov, [.tmp 23], none⟩,
          ⟨(some 25), .faddr 0, [.tmp 7], (some (24, false))⟩,
          ⟨(some 26), .load 1 false, [.tmp 25], (some (24, false))⟩,
          ⟨(some 27), .cmp .gtr, [.tmp 26, .const (.int .i64 8)], (some (24, false))⟩,
          ⟨(some 28), .pick, [.tmp 24, .const (.bool true), .tmp 27], none⟩,
          ⟨(some 29), .mov, [.tmp 28], none⟩,
          ⟨(some 30), .faddr 1, [.tmp 7], (some (29, false))⟩,
          ⟨(some 31), .load 1 false, [.tmp 30], (some (29, false))⟩,
          ⟨(some 32), .cmp .lss, [.tmp 31, .const (.int .i64 1)], (some (29, false))⟩,
          ⟨(some 33), .pick, [.tmp 29, .const (.bool true), .tmp 32], none⟩,
          ⟨(some 34), .mov, [.tmp 33], none⟩,
          ⟨(some 35), .faddr 1, [.tmp 7], (some (34, false))⟩,
          ⟨(some 36), .load 1 false, [.tmp 35], (some (34, false))⟩,
          ⟨(some 37), .cmp .gtr, [.tmp 36, .const (.int .i64 8)], (some (34, false))⟩,
          ⟨(some 38), .pick, [.tmp 34, .const (.bool true), .tmp 37], none⟩,
          ⟨(some 39), .mov, [.tmp 38], none⟩,
          ⟨(some 40), .faddr 0, [.tmp 7], (some (39, false))⟩,
          ⟨(some 41), .load 1 false, [.tmp 40], (some (39, false))⟩,
          ⟨(some 42), .faddr 1, [.tmp 7], (some (39, false))⟩,
          ⟨(some 43), .load 1 false, [.tmp 42], (some (39, false))⟩,
          ⟨(some 44), .cmp .eql, [.tmp 41, .tmp 43], (some (39, false))⟩,
          ⟨(some 45), .pick, [.tmp 39, .const (.bool true), .tmp 44], none⟩,
          ⟨(some 46), .mov, [.tmp 45], none⟩,
          ⟨(some 47), .faddr 2, [.tmp 7], (some (46, false))⟩,
          ⟨(some 48), .load 1 false, [.tmp 47], (some (46, false))⟩,
          ⟨(some 49), .cmp .lss, [.tmp 48, .const (.int .i64 1)], (some (46, false))⟩,
          ⟨(some 50), .pick, [.tmp 46, .const (.bool true), .tmp 49], none⟩,
          ⟨(some 51), .mov, [.tmp 50], none⟩,
          ⟨(some 52), .faddr 2, [.tmp 7], (some (51, false))⟩,
          ⟨(some 53), .load 1 false, [.tmp 52], (some (51, false))⟩,
          ⟨(some 54), .cmp .gtr, [.tmp 53, .const (.int .i64 1099511627776)], (some (51, false))⟩,
          ⟨(some 55), .pick, [.tmp 51, .const (.bool true), .tmp 54], none⟩] false)
        (.cond (.tmp 55)
          (.seq (.ops [
            ⟨(some 4), .mov, [.const (.bool false)], none⟩] false)
          .ret)
          .skip))
        (.seq (.ops [
          ⟨(some 56), .mov, [.tmp 5], none⟩,
          ⟨(some 57), .faddr 0, [.tmp 7], none⟩,
          ⟨(some 58), .load 1 false, [.tmp 57], none⟩,
          ⟨(some 59), .mov, [.tmp 5], none⟩,
          ⟨(some 60), .faddr 0, [.tmp 7], none⟩,
          ⟨(some 61), .load 1 false, [.tmp 60], none⟩,
          ⟨(some 62), .idx 1, [.tmp 59, .tmp 61], none⟩,
          ⟨(some 63), .load 1 false, [.tmp 62], none⟩,
          ⟨(some 64), .faddr 2, [.tmp 7], none⟩,
          ⟨(some 65), .load 1 false, [.tmp 64], none⟩,
          ⟨(some 66), .bin .sub .i64 false, [.tmp 63, .tmp 65], none⟩,
          ⟨(some 67), .idx 1, [.tmp 56, .tmp 58], none⟩,
          ⟨none, .store 1, [.tmp 67, .tmp 66], none⟩] true)
        (.ops [
          ⟨(some 68), .mov, [.tmp 5], none⟩,
          ⟨(some 69), .faddr 1, [.tmp 7], none⟩,
          ⟨(some 70), .load 1 false, [.tmp 69], none⟩,
          ⟨(some 71), .mov, [.tmp 5], none⟩,
          ⟨(some 72), .faddr 1, [.tmp 7], none⟩,
          ⟨(some 73), .load 1 false, [.tmp 72], none⟩,
          ⟨(some 74), .idx 1, [.tmp 71, .tmp 73], none⟩,
          ⟨(some 75), .load 1 false, [.tmp 74], none⟩,
          ⟨(some 76), .faddr 2, [.tmp 7], none⟩,
          ⟨(some 77), .load 1 false, [.tmp 76], none⟩,
          ⟨(some 78), .bin .add .i64 false, [.tmp 75, .tmp 77], none⟩,
          ⟨(some 79), .idx 1, [.tmp 68, .tmp 70], none⟩,
          ⟨none, .store 1, [.tmp 79, .tmp 78], none⟩] true)))))
      (.ops [
        ⟨(some 15), .mov, [.tmp 6], none⟩,
        ⟨(some 16), .bin .add .i64 false, [.tmp 15, .const (.int .i64 1)], none⟩,
        ⟨(some 6), .mov, [.tmp 16], none⟩] false))))))
  (.seq (.seq (.ops [
    ⟨(some 8), .mov, [.const (.int .i64 0)], none⟩] false)
  (.block 2
    (.loop
      (.seq (.seq (.ops [
        ⟨(some 80), .mov, [.tmp 8], none⟩,
        ⟨(some 81), .mov, [.tmp 0], none⟩,
        ⟨(some 82), .len, [.tmp 81], none⟩,
        ⟨(some 83), .cmp .lss, [.tmp 80, .tmp 82], none⟩] false)
      (.cond (.tmp 83)
        .skip
        (.exit 2)))
      (.seq (.block 3
        (.ops [
          ⟨(some 86), .mov, [.tmp 5], none⟩,
          ⟨(some 87), .mov, [.tmp 0], none⟩,
          ⟨(some 88), .mov, [.tmp 8], none⟩,
          ⟨(some 89), .idx 2, [.tmp 87, .tmp 88], none⟩,
          ⟨(some 90), .faddr 0, [.tmp 89], none⟩,
          ⟨(some 91), .load 1 false, [.tmp 90], none⟩,
          ⟨(some 92), .mov, [.tmp 5], none⟩,
          ⟨(some 93), .mov, [.tmp 0], none⟩,
          ⟨(some 94), .mov, [.tmp 8], none⟩,
          ⟨(some 95), .idx 2, [.tmp 93, .tmp 94], none⟩,
          ⟨(some 96), .faddr 0, [.tmp 95], none⟩,
          ⟨(some 97), .load 1 false, [.tmp 96], none⟩,
          ⟨(some 98), .idx 1, [.tmp 92, .tmp 97], none⟩,
          ⟨(some 99), .load 1 false, [.tmp 98], none⟩,
          ⟨(some 100), .mov, [.tmp 0], none⟩,
          ⟨(some 101), .mov, [.tmp 8], none⟩,
          ⟨(some 102), .idx 2, [.tmp 100, .tmp 101], none⟩,
          ⟨(some 103), .faddr 1, [.tmp 102], none⟩,
          ⟨(some 104), .load 1 false, [.tmp 103], none⟩,
          ⟨(some 105), .bin .sub .i64 false, [.tmp 99, .tmp 104], none⟩,
          ⟨(some 106), .idx 1, [.tmp 86, .tmp 91], none⟩,
          ⟨none, .store 1, [.tmp 106, .tmp 105], none⟩] true))
      (.ops [
        ⟨(some 84), .mov, [.tmp 8], none⟩,
        ⟨(some 85), .bin .add .i64 false, [.tmp 84, .const (.int .i64 1)], none⟩,
        ⟨(some 8), .mov, [.tmp 85], none⟩] false))))))
  (.seq (.seq (.ops [
    ⟨(some 9), .mov, [.const (.int .i64 0)], none⟩] false)
  (.block 4
    (.loop
      (.seq (.seq (.ops [
        ⟨(some 107), .mov, [.tmp 9], none⟩,
        ⟨(some 108), .mov, [.tmp 5], none⟩,
        ⟨(some 109), .len, [.tmp 108], none⟩,
        ⟨(some 110), .cmp .lss, [.tmp 107, .tmp 109], none⟩] false)
      (.cond (.tmp 110)
        .skip
        (.exit 4)))
      (.seq (.block 5
        (.seq (.ops [
          ⟨(some 113), .mov, [.tmp 5], none⟩,
          ⟨(some 114), .mov, [.tmp 9], none⟩,
          ⟨(some 115), .idx 1, [.tmp 113, .tmp 114], none⟩,
          ⟨(some 116), .load 1 false, [.tmp 115], none⟩,
          ⟨(some 117), .cmp .neq, [.tmp 116, .const (.int .i64 0)], none⟩] false)
        (.cond (.tmp 117)
          (.seq (.ops [
            ⟨(some 4), .mov, [.const (.bool false)], none⟩] false)
          .ret)
          .skip)))
      (.ops [
        ⟨(some 111), .mov, [.tmp 9], none⟩,
        ⟨(some 112), .bin .add .i64 false, [.tmp 111, .const (.int .i64 1)], none⟩,
        ⟨(some 9), .mov, [.tmp 112], none⟩] false))))))
  (.seq (.ops [
    ⟨(some 4), .mov, [.const (.bool true)], none⟩] false)
  .ret))))))⟩
theorem rvalidLow : lowF Try.prog {} Try.f14 = some rvalidIr := by kernel_rfl
def rvalidS : Spec := spec (List Share × List Tfer) (fun p => [L 2 (p.1.map encS), L 3 (p.2.map encT)]) (fun p => RightP p.1 ∧ p.2.length ≤ 1000) (fun p => B (validB p.1 p.2))
set_option maxHeartbeats 1000000 in
theorem rvalidV : fnV Try.prog rvalidIr rvalidS := by
  intro ⟨(l : List Share), (t : List Tfer)⟩ hx
  obtain ⟨hr, ht⟩ : RightP l ∧ t.length ≤ 1000 := hx
  have hlen := hr.len
  show vc _ _ _ _ ⟨argEnv 0 [L 2 (l.map encS), L 3 (t.map encT)], [], 0⟩
  have hl : (l.map encS).length = l.length := List.length_map ..
  have htl : (t.map encT).length = t.length := List.length_map ..
  conv => whnf
  refine ⟨⟨by decide, by decide, by decide, by decide⟩, ?_⟩
  conv => whnf
  refine ⟨Nat × (List (List CV)), fun xq => ⟨[(0, L 2 (l.map encS)), (1, L 3 (t.map encT)), (5, .osl 0), (6, I xq.1)], [(0, .row 3 1 xq.2)], 1⟩, fun xq => xq.1 ≤ t.length ∧ (∀ y ∈ t.take xq.1, okV y) ∧ ∃ H : Nat → Int, xq.2 = tab1 H ∧ ∀ v, v < 9 → H v = bal (t.take xq.1) v ∧ (-1099511627776 * ((2 * xq.1 : Nat) : Int) ≤ H v ∧ H v ≤ 1099511627776 * ((2 * xq.1 : Nat) : Int)), fun xq => t.length - xq.1, ⟨(0, _), ?_, [], ⟨⟨rfl, rfl⟩, ⟨⟨rfl, rfl⟩, ⟨⟨rfl, rfl⟩, ⟨⟨rfl, rfl⟩, trivial⟩⟩⟩⟩, ⟨⟨rfl, rfl, rfl⟩, trivial⟩, rfl, rfl, rfl⟩, ?_⟩
  · (try dsimp only); exact ⟨Nat.zero_le _, by simp, fun _ => 0, rfl, fun v hv => ⟨rfl, by simp, by simp⟩⟩
  rintro ⟨k, es⟩ hk
  obtain ⟨hk, hok, H, he, hI⟩ : k ≤ t.length ∧ (∀ y ∈ t.take k, okV y) ∧ ∃ H : Nat → Int, es = tab1 H ∧ ∀ v, v < 9 → H v = bal (t.take k) v ∧ (-1099511627776 * ((2 * k : Nat) : Int) ≤ H v ∧ H v ≤ 1099511627776 * ((2 * k : Nat) : Int)) := hk
  (try dsimp only)
  have hel : es.length = 9 := by rw [he]; exact tab1_len H
  by_cases hkl : k < t.length
  · obtain ⟨x, hx⟩ := getElem_some hkl
    by_cases hb : okV x
    · obtain ⟨o1, o2, o3, o4, o5⟩ := id hb
      have o1' := o1
      have o2' := o2
      unfold okO at o1' o2'
      have hi : x.f.toNat < 9 := by omega
      have hj : x.t.toNat < 9 := by omega
      have hne : x.t.toNat ≠ x.f.toNat := by omega
      have hbi := (hI _ hi).2
      have hbj := (hI _ hj).2
      have g1 : es[x.f.toNat]? = some (cI (H x.f.toNat)) := by rw [he]; exact tab1_get hi
      have g2 : (es.set x.f.toNat (setL (cI (H x.f.toNat)) 0 [CV.int .i64 (H x.f.toNat - x.a)]))[x.t.toNat]? = some (cI (H x.t.toNat)) := by rw [List.getElem?_set_ne hne.symm, he]; exact tab1_get hj
      have g2l : (es.set x.f.toNat (setL (cI (H x.f.toNat)) 0 [CV.int .i64 (H x.f.toNat - x.a)])).length = 9 := by rw [List.length_set]; exact hel
      have q := inv_add1 (i := x.f.toNat) (n := -x.a) hI (by omega)
      have q' := inv_add1 (i := x.t.toNat) (n := x.a) q (by omega)
      have u1 : updF H x.f.toNat (H x.f.toNat + -x.a) x.t.toNat = H x.t.toNat := by simp [updF, hne]
      rw [u1] at q'
      repeat' ((conv => whnf); first | (refine ⟨(k + 1, _), ⟨?_, by (try dsimp only); omega⟩, [], ⟨⟨rfl, rfl⟩, ⟨⟨rfl, rfl⟩, ⟨⟨rfl, rfl⟩, ⟨⟨rfl, rfl⟩, trivial⟩⟩⟩⟩, ⟨⟨rfl, rfl, rfl⟩, trivial⟩, rfl, rfl, rfl⟩; (try dsimp only); refine ⟨by omega, all_step hx hok hb, updF (updF H x.f.toNat (H x.f.toNat + -x.a)) x.t.toNat (H x.t.toNat + x.a), (by rw [he]; exact (congrArg (fun es : List (List CV) => es.set x.t.toNat [CV.int .i64 (H x.t.toNat + x.a)]) tab1_set).trans tab1_set), fun v hv => ?_⟩; obtain ⟨q1, q2⟩ := q' v hv; refine ⟨?_, by rw [show 2 * (k + 1) = 2 * k + 1 + 1 by omega]; exact q2⟩; rw [q1, bal_take hx, if_op o1, if_op o2]; split <;> split <;> omega) | (refine ⟨fun h => ?_, fun h => ?_⟩ <;> try (exfalso; first | omega | exact absurd h (by decide) | exact h rfl)) | (refine ⟨by omega, fun r hrr => ?_⟩; obtain rfl := get_row hrr hx) | refine get_at g1 ?_ | refine get_at g2 ?_ | (refine ⟨⟨by omega, by omega⟩, ?_⟩) | fail)
    · have hb' := hb
      unfold okV okO at hb'
      repeat' ((conv => whnf); first | (refine ⟨fun h => ?_, fun h => ?_⟩ <;> try (exfalso; first | omega | exact absurd h (by decide) | exact h rfl)) | (refine ⟨by omega, fun r hrr => ?_⟩; obtain rfl := get_row hrr hx) | refine ⟨[], rfl, trivial, congrArg CV.bool ?_⟩ | fail)
      all_goals first | exact (valid_bad hx hb).symm | (exfalso; exact hb' (by omega))
  have hkl' : k = t.length := by omega
  subst hkl'
  rw [List.take_of_length_le (Nat.le_refl _)] at hI hok
  conv => whnf
  refine ⟨fun h => absurd h (by omega), fun h => ?_⟩
  conv => whnf
  refine ⟨Nat × (List (List CV)), fun xq => ⟨[(0, L 2 (l.map encS)), (5, .osl 0), (8, I xq.1)], [(0, .row 3 1 xq.2)], 1⟩, fun xq => xq.1 ≤ l.length ∧ ∃ H : Nat → Int, xq.2 = tab1 H ∧ ∀ v, v < 9 → H v = bal t v - posAt (l.take xq.1) v ∧ (-1099511627776 * ((2 * t.length + xq.1 : Nat) : Int) ≤ H v ∧ H v ≤ 1099511627776 * ((2 * t.length + xq.1 : Nat) : Int)), fun xq => l.length - xq.1, ⟨(0, _), ?_, [], ⟨⟨rfl, rfl⟩, ⟨⟨rfl, rfl⟩, ⟨⟨rfl, rfl⟩, trivial⟩⟩⟩, ⟨⟨rfl, rfl, rfl⟩, trivial⟩, rfl, rfl, rfl⟩, ?_⟩
  · (try dsimp only); exact ⟨Nat.zero_le _, H, he, fun v hv => ⟨by rw [(hI v hv).1]; simp [posAt], (hI v hv).2⟩⟩
  rintro ⟨k, es⟩ hk
  obtain ⟨hk, H, he, hI⟩ : k ≤ l.length ∧ ∃ H : Nat → Int, es = tab1 H ∧ ∀ v, v < 9 → H v = bal t v - posAt (l.take k) v ∧ (-1099511627776 * ((2 * t.length + k : Nat) : Int) ≤ H v ∧ H v ≤ 1099511627776 * ((2 * t.length + k : Nat) : Int)) := hk
  (try dsimp only)
  have hel : es.length = 9 := by rw [he]; exact tab1_len H
  by_cases hkl : k < l.length
  · obtain ⟨x, hx⟩ := getElem_some hkl
    obtain ⟨hxo, hxa⟩ := hr.ok x (List.mem_of_getElem? hx)
    have hi : x.o.toNat < 9 := by omega
    have hbi := (hI _ hi).2
    have g1 : es[x.o.toNat]? = some (cI (H x.o.toNat)) := by rw [he]; exact tab1_get hi
    have q := inv_add1 (i := x.o.toNat) (n := -x.a) hI (by omega)
    repeat' ((conv => whnf); first | (refine ⟨(k + 1, _), ⟨?_, by (try dsimp only); omega⟩, [], ⟨⟨rfl, rfl⟩, ⟨⟨rfl, rfl⟩, ⟨⟨rfl, rfl⟩, trivial⟩⟩⟩, ⟨⟨rfl, rfl, rfl⟩, trivial⟩, rfl, rfl, rfl⟩; (try dsimp only); refine ⟨by omega, updF H x.o.toNat (H x.o.toNat + -x.a), (by rw [he]; exact tab1_set), fun v hv => ?_⟩; obtain ⟨q1, q2⟩ := q v hv; refine ⟨?_, q2⟩; rw [q1, posAt_take hx, if_op hxo]; split <;> omega) | (refine ⟨fun h => ?_, fun h => ?_⟩ <;> try (exfalso; first | omega | exact absurd h (by decide) | exact h rfl)) | (refine ⟨by omega, fun r hrr => ?_⟩; obtain rfl := get_row hrr hx) | refine get_at g1 ?_ | (refine ⟨⟨by omega, by omega⟩, ?_⟩) | fail)
  have hkl' : k = l.length := by omega
  subst hkl'
  rw [List.take_of_length_le (Nat.le_refl _)] at hI
  conv => whnf
  refine ⟨fun h => absurd h (by omega), fun h => ?_⟩
  conv => whnf
  refine ⟨Nat, fun xq => ⟨[(5, .osl 0), (9, I xq)], [(0, .row 3 1 es)], 1⟩, fun xq => xq ≤ 9 ∧ ∀ v : Nat, v < xq → bal t v - posAt l v = 0, fun xq => 9 - xq, ⟨0, ?_, [], ⟨⟨rfl, rfl⟩, ⟨⟨rfl, rfl⟩, trivial⟩⟩, ⟨⟨rfl, rfl, rfl⟩, trivial⟩, rfl, rfl, rfl⟩, ?_⟩
  · (try dsimp only); exact ⟨by omega, fun v hv => by omega⟩
  rintro k hk
  obtain ⟨hk, hz⟩ : k ≤ 9 ∧ ∀ v : Nat, v < k → bal t v - posAt l v = 0 := hk
  (try dsimp only)
  by_cases hk9 : k < 9
  · obtain ⟨q1, q2⟩ := hI k hk9
    have g1 : es[(k : Int).toNat]? = some (cI (H k)) := by rw [Int.toNat_natCast, he]; exact tab1_get hk9
    by_cases hz0 : bal t k - posAt l k = 0
    · repeat' ((conv => whnf); first | (refine ⟨k + 1, ⟨?_, by (try dsimp only); omega⟩, [], ⟨⟨rfl, rfl⟩, ⟨⟨rfl, rfl⟩, trivial⟩⟩, ⟨⟨rfl, rfl, rfl⟩, trivial⟩, rfl, rfl, rfl⟩; (try dsimp only); exact ⟨by omega, fun v hv => by by_cases e : v = k; (subst e; exact hz0); exact hz v (by omega)⟩) | (refine ⟨fun h => ?_, fun h => ?_⟩ <;> try (exfalso; first | omega | exact absurd h (by decide) | exact h rfl)) | refine get_at g1 ?_ | (refine ⟨⟨by omega, by omega⟩, ?_⟩) | fail)
    · repeat' ((conv => whnf); first | (refine ⟨fun h => ?_, fun h => ?_⟩ <;> try (exfalso; first | omega | exact absurd h (by decide) | exact h rfl)) | refine get_at g1 ?_ | (refine ⟨⟨by omega, by omega⟩, ?_⟩) | refine ⟨[], rfl, trivial, congrArg CV.bool ?_⟩ | fail)
      all_goals exact (valid_no hr hok hk9 hz0).symm
  · repeat' ((conv => whnf); first | (refine ⟨fun h => ?_, fun h => ?_⟩ <;> try (exfalso; first | omega | exact absurd h (by decide) | exact h rfl)) | refine ⟨[], rfl, trivial, congrArg CV.bool ?_⟩ | fail)
    all_goals exact (valid_yes hok fun v hv => hz v (by omega)).symm
theorem rvalid_h : Holds Try.prog 14 rvalidS := holds_of mix Try.func14 rvalidLow (fun _ => rfl) rvalidV

end Go.Proofs.Ytdkkblcninogdaa
