/- Periods: the reference's Enter. -/
import Derived.Test.YtpkhannkbafimaaGreatR8
namespace Go.Proofs.YtpkhannkbafimaaGreat
open Go.RowKit

/-! skiarea/skiarearef38.Enter -/
def renterIr : IFn := ⟨96, [.cell 4 3 true, .tmp 5, .tmp 6],
  (.seq (.ops [
    ⟨(some 2), .box, [.tmp 0], none⟩,
    ⟨(some 3), .box, [.tmp 1], none⟩,
    ⟨(some 4), .alloc [.nil, .nil, .nil], [], none⟩,
    ⟨(some 5), .mov, [.const (.int .i64 0)], none⟩,
    ⟨(some 6), .mov, [.const (.int .i64 0)], none⟩] false)
  (.seq (.seq (.ops [
    ⟨(some 11), .load 7 true, [.tmp 3], none⟩,
    ⟨(some 12), .call 46, [.tmp 11], none⟩,
    ⟨(some 13), .not, [.tmp 12], none⟩] false)
  (.cond (.tmp 13)
    (.seq (.ops [
      ⟨(some 14), .build [.nil, .nil, .nil] [], [], none⟩,
      ⟨none, .store 3, [.tmp 4, .tmp 14], none⟩,
      ⟨(some 5), .mov, [.const (.int .i64 0)], none⟩,
      ⟨(some 6), .mov, [.const (.int .i64 2)], none⟩] false)
    .ret)
    .skip))
  (.seq (.ops [
    ⟨(some 15), .faddr 2, [.tmp 2], none⟩,
    ⟨(some 16), .load 1 false, [.tmp 15], none⟩,
    ⟨(some 17), .faddr 0, [.tmp 3], none⟩,
    ⟨(some 18), .load 1 false, [.tmp 17], none⟩,
    ⟨(some 19), .faddr 1, [.tmp 3], none⟩,
    ⟨(some 20), .load 1 false, [.tmp 19], none⟩,
    ⟨(some 21), .call 47, [.tmp 16, .tmp 18, .tmp 20], none⟩,
    ⟨(some 7), .mov, [.tmp 21], none⟩] false)
  (.seq (.seq (.ops [
    ⟨(some 22), .mov, [.tmp 7], none⟩,
    ⟨(some 23), .cmp .geq, [.tmp 22, .const (.int .i64 0)], none⟩,
    ⟨(some 24), .mov, [.tmp 23], none⟩,
    ⟨(some 25), .faddr 2, [.tmp 2], (some (24, true))⟩,
    ⟨(some 26), .load 1 false, [.tmp 25], (some (24, true))⟩,
    ⟨(some 27), .mov, [.tmp 7], (some (24, true))⟩,
    ⟨(some 28), .idx 8, [.tmp 26, .tmp 27], (some (24, true))⟩,
    ⟨(some 29), .faddr 1, [.tmp 28], (some (24, true))⟩,
    ⟨(some 30), .load 7 true, [.tmp 29], (some (24, true))⟩,
    ⟨(some 31), .load 7 true, [.tmp 3], (some (24, true))⟩,
    ⟨(some 32), .eqa [false, false, false, false, false, false, false] true, [.tmp 30, .tmp 31], (some (24, true))⟩,
    ⟨(some 33), .pick, [.tmp 24, .tmp 32, .const (.bool false)], none⟩] true)
  (.cond (.tmp 33)
    (.seq (.ops [
      ⟨(some 34), .build [.nil, .nil, .nil] [], [], none⟩,
      ⟨none, .store 3, [.tmp 4, .tmp 34], none⟩,
      ⟨(some 5), .mov, [.const (.int .i64 0)], none⟩,
      ⟨(some 6), .mov, [.const (.int .i64 15)], none⟩] false)
    .ret)
    .skip))
  (.seq (.ops [
    ⟨(some 35), .load 3 true, [.tmp 2], none⟩,
    ⟨(some 36), .callo 51, [.tmp 35], none⟩,
    ⟨(some 8), .alloc [.nil, .nil, .nil], [], none⟩,
    ⟨none, .store 3, [.tmp 8, .tmp 36], none⟩] false)
  (.seq (.seq (.ops [
    ⟨(some 37), .mov, [.tmp 7], none⟩,
    ⟨(some 38), .cmp .geq, [.tmp 37, .const (.int .i64 0)], none⟩] false)
  (.cond (.tmp 38)
    (.seq (.seq (.sealc 2)
    (.ops [
      ⟨(some 39), .load 3 true, [.tmp 8], none⟩,
      ⟨(some 40), .faddrR 2, [.tmp 2], none⟩,
      ⟨(some 41), .loadR 1 false, [.tmp 40], none⟩,
      ⟨(some 42), .mov, [.tmp 7], none⟩,
      ⟨(some 43), .idxR 8, [.tmp 41, .tmp 42], none⟩,
      ⟨(some 44), .faddrR 0, [.tmp 43], none⟩,
      ⟨(some 45), .loadR 1 false, [.tmp 44], none⟩,
      ⟨none, .store 3, [.tmp 4, .tmp 39], none⟩,
      ⟨(some 5), .mov, [.tmp 45], none⟩,
      ⟨(some 6), .mov, [.const (.int .i64 0)], none⟩] true))
    .ret)
    .skip))
  (.seq (.ops [
    ⟨(some 9), .mov, [.const (.int .i64 0)], none⟩] false)
  (.seq (.seq (.ops [
    ⟨(some 10), .mov, [.const (.int .i64 0)], none⟩] false)
  (.block 0
    (.loop
      (.seq (.seq (.ops [
        ⟨(some 46), .mov, [.tmp 10], none⟩,
        ⟨(some 47), .faddr 0, [.tmp 2], none⟩,
        ⟨(some 48), .load 1 false, [.tmp 47], none⟩,
        ⟨(some 49), .len, [.tmp 48], none⟩,
        ⟨(some 50), .cmp .lss, [.tmp 46, .tmp 49], none⟩,
        ⟨(some 51), .mov, [.tmp 50], none⟩,
        ⟨(some 52), .mov, [.tmp 9], (some (51, true))⟩,
        ⟨(some 53), .cmp .eql, [.tmp 52, .const (.int .i64 0)], (some (51, true))⟩,
        ⟨(some 54), .pick, [.tmp 51, .tmp 53, .const (.bool false)], none⟩] false)
      (.cond (.tmp 54)
        .skip
        (.exit 0)))
      (.seq (.block 1
        (.seq (.ops [
          ⟨(some 57), .faddr 0, [.tmp 2], none⟩,
          ⟨(some 58), .load 1 false, [.tmp 57], none⟩,
          ⟨(some 59), .mov, [.tmp 10], none⟩,
          ⟨(some 60), .idx 5, [.tmp 58, .tmp 59], none⟩,
          ⟨(some 61), .faddr 3, [.tmp 60], none⟩,
          ⟨(some 62), .load 1 false, [.tmp 61], none⟩,
          ⟨(some 63), .not, [.tmp 62], none⟩,
          ⟨(some 64), .mov, [.tmp 63], none⟩,
          ⟨(some 65), .faddr 0, [.tmp 2], (some (64, true))⟩,
          ⟨(some 66), .load 1 false, [.tmp 65], (some (64, true))⟩,
          ⟨(some 67), .mov, [.tmp 10], (some (64, true))⟩,
          ⟨(some 68), .idx 5, [.tmp 66, .tmp 67], (some (64, true))⟩,
          ⟨(some 69), .faddr 1, [.tmp 68], (some (64, true))⟩,
          ⟨(some 70), .faddr 1, [.tmp 69], (some (64, true))⟩,
          ⟨(some 71), .load 1 false, [.tmp 70], (some (64, true))⟩,
          ⟨(some 72), .faddr 6, [.tmp 3], (some (64, true))⟩,
          ⟨(some 73), .load 1 false, [.tmp 72], (some (64, true))⟩,
          ⟨(some 74), .cmp .gtr, [.tmp 71, .tmp 73], (some (64, true))⟩,
          ⟨(some 75), .pick, [.tmp 64, .tmp 74, .const (.bool false)], none⟩] true)
        (.cond (.tmp 75)
          (.ops [
            ⟨(some 76), .mov, [.tmp 10], none⟩,
            ⟨(some 77), .bin .add .i64 false, [.tmp 76, .const (.int .i64 1)], none⟩,
            ⟨(some 9), .mov, [.tmp 77], none⟩] false)
          .skip)))
      (.ops [
        ⟨(some 55), .mov, [.tmp 10], none⟩,
        ⟨(some 56), .bin .add .i64 false, [.tmp 55, .const (.int .i64 1)], none⟩,
        ⟨(some 10), .mov, [.tmp 56], none⟩] false))))))
  (.seq (.seq (.ops [
    ⟨(some 78), .mov, [.tmp 9], none⟩,
    ⟨(some 79), .cmp .eql, [.tmp 78, .const (.int .i64 0)], none⟩] false)
  (.cond (.tmp 79)
    (.seq (.ops [
      ⟨(some 80), .build [.nil, .nil, .nil] [], [], none⟩,
      ⟨none, .store 3, [.tmp 4, .tmp 80], none⟩,
      ⟨(some 5), .mov, [.const (.int .i64 0)], none⟩,
      ⟨(some 6), .mov, [.const (.int .i64 8)], none⟩] false)
    .ret)
    .skip))
  (.seq (.seq (.ops [
    ⟨(some 81), .faddr 2, [.tmp 2], none⟩,
    ⟨(some 82), .load 1 false, [.tmp 81], none⟩,
    ⟨(some 83), .len, [.tmp 82], none⟩,
    ⟨(some 84), .cmp .eql, [.tmp 83, .const (.int .i64 2000)], none⟩] false)
  (.cond (.tmp 84)
    (.seq (.ops [
      ⟨(some 85), .build [.nil, .nil, .nil] [], [], none⟩,
      ⟨none, .store 3, [.tmp 4, .tmp 85], none⟩,
      ⟨(some 5), .mov, [.const (.int .i64 0)], none⟩,
      ⟨(some 6), .mov, [.const (.int .i64 9)], none⟩] false)
    .ret)
    .skip))
  (.seq (.ops [
    ⟨(some 86), .faddr 2, [.tmp 8], none⟩,
    ⟨(some 87), .load 1 false, [.tmp 86], none⟩,
    ⟨(some 88), .mov, [.tmp 9], none⟩,
    ⟨(some 89), .load 7 true, [.tmp 3], none⟩,
    ⟨(some 90), .build [.int .i64 0, .int .i64 0, .int .i64 0, .int .i64 0, .int .i64 0, .int .i64 0, .int .i64 0, .int .i64 0] [(0, 1), (1, 7)], [.tmp 88, .tmp 89], none⟩,
    ⟨(some 91), .buildSl 80 8, [.tmp 90], none⟩,
    ⟨(some 92), .append 80 8 64, [.tmp 87, .tmp 91], none⟩,
    ⟨(some 93), .faddr 2, [.tmp 8], none⟩,
    ⟨none, .store 1, [.tmp 93, .tmp 92], none⟩] false)
  (.seq (.ops [
    ⟨(some 94), .load 3 true, [.tmp 8], none⟩,
    ⟨(some 95), .mov, [.tmp 9], none⟩,
    ⟨none, .store 3, [.tmp 4, .tmp 94], none⟩,
    ⟨(some 5), .mov, [.tmp 95], none⟩,
    ⟨(some 6), .mov, [.const (.int .i64 0)], none⟩] false)
  .ret))))))))))))⟩
theorem renterLow : lowF Tryz.prog { gives := [36], rps := [40, 41, 43, 44, 45], seals := [(39, 2)] } Tryz.f21 = some renterIr := by kernel_rfl
def renterS : Spec := spec (Bk × Ride) (fun p => [aB p.1, aD p.2]) (fun p => entP p.1) (fun p => entX p.1 p.2)
set_option maxHeartbeats 2000000 in
theorem renterV : fnV Tryz.prog renterIr renterS := by
  intro ⟨(b : Bk), (r : Ride)⟩ hp
  obtain ⟨hb, hP, hK, h2000⟩ : smB b ∧ persE b.ps = 0 ∧ (b.rs.map keyC).Nodup ∧ b.rs.length ≤ 2000 := hp
  obtain ⟨⟨c1, c2, c3⟩, c4⟩ : (b.ps.length ≤ 1000000 ∧ b.po.length ≤ 1000000 ∧ b.rs.length ≤ 1000000) ∧ ∀ p ∈ b.ps, p.sh.length ≤ 1000000 := hb
  have hb : smB b := ⟨⟨c1, c2, c3⟩, c4⟩
  have hlp : (b.ps.map encP).length = b.ps.length := List.length_map ..
  have hlo : (b.po.map encO).length = b.po.length := List.length_map ..
  have hlr : (b.rs.map encC).length = b.rs.length := List.length_map ..
  have hbl : b.rs.length ≤ 9223372036854775807 := by omega
  have hE : entE b r = if ¬ rideP r then 2 else match fidx (keyB r.gate r.seq) b.rs with
    | some i => if (at_ b.rs cnt0 i).r ≠ r then 15 else 0
    | none => match fidx (opR r) b.ps with
      | none => 8
      | some _ => if 2000 ≤ b.rs.length then 9 else 0 := rfl
  show vc _ _ _ _ ⟨argEnv 0 [aB b, aD r], [], 0⟩
  cases d1 : decide (rideP r) with
  | false =>
    rw [if_pos (of_decide_eq_false d1)] at hE
    repeat' ((conv => whnf); first | (refine ⟨fun h => ?_, fun h => ?_⟩ <;> try (exfalso; first | omega | exact absurd h (by decide) | exact h rfl | exact absurd (show true = false from h) (by decide) | exact absurd (show false = true from h) (by decide))) | (refine ⟨_, alone_h, r, trivial, leVs_of_eq rfl, .inl rfl, rfl, ?_⟩; show norm (B (decide (rideP r))) _; rw [d1]) | fail | fail)
    all_goals (refine ⟨[], rfl, trivial, ?_⟩; show leR _ (entX b r); rw [entX_err hE (by decide)]; exact ⟨⟨rfl, rfl, rfl, trivial⟩, rfl, rfl, trivial⟩)
  | true =>
  rw [if_neg (Decidable.not_not.2 (of_decide_eq_true d1))] at hE
  cases hi : fidx (keyB r.gate r.seq) b.rs with
  | some i =>
    obtain ⟨c, hc, _, _⟩ := fidx_some hi
    have hil := (List.getElem?_eq_some_iff.1 hc).1
    have hic : idxC b.rs r.gate r.seq = i := by unfold idxC; rw [hi]
    rw [hi] at hE
    dsimp only at hE
    rw [at_of hc] at hE
    by_cases hcr : c.r.gate = r.gate ∧ c.r.seq = r.seq ∧ c.r.serial = r.serial ∧ c.r.counter = r.counter ∧ c.r.product = r.product ∧ c.r.lift = r.lift ∧ c.r.time = r.time ∧ True
    · have hcr' : c.r = r := ride_ext hcr
      rw [if_neg (by rw [hcr']; simp)] at hE
      cases hps : b.ps with
      | nil =>
        have e1 : copR b = .agg [.c .nil, .osl 0, .osl 1] := by unfold copR; rw [hps]
        have e2 : copOb b = [rowO b.po, rowC b.rs] := by unfold copOb; rw [hps]
        repeat' ((conv => whnf); first | (refine ⟨fun h => ?_, fun h => ?_⟩ <;> try (exfalso; first | omega | exact absurd h (by decide) | exact h rfl | contradiction | exact absurd (show true = false from h) (by decide) | exact absurd (show false = true from h) (by decide))) | (refine ⟨_, alone_h, r, trivial, leVs_of_eq rfl, .inl rfl, rfl, ?_⟩; show norm (B (decide (rideP r))) _; rw [d1]) | (refine ⟨_, ridx_h, (b.rs, r.gate, r.seq), hbl, leVs_of_eq rfl, .inl rfl, rfl, ?_⟩; show norm (I (idxC b.rs r.gate r.seq)) _; rw [hic]) | (refine ⟨by omega, fun r hrr => ?_⟩; first | ((have hre : r = encC c := by (first | exact get_row hrr hc | fail)); subst hre)) | fail | fail)
        conv => whnf
        dsimp only
        (refine ⟨rfl, _, copied_h, b, hb, leVs_of_eq rfl, by show rowsO (copOb b); rw [e2]; trivial, ?_⟩; show norm (shift _ (copR b)) fun r' => setK (St.news _ (copOb b)) _ r' _; rw [e1, e2])
        repeat' ((conv => whnf); (try dsimp only [setL, List.map_cons, List.map_nil, List.take, List.drop, SV.cells, constV, shift, St.new, St.put, kills, killI, Nat.reduceAdd]); first | (refine ⟨fun h => ?_, fun h => ?_⟩ <;> try (exfalso; first | omega | exact absurd h (by decide) | exact h rfl | contradiction | exact absurd (show true = false from h) (by decide) | exact absurd (show false = true from h) (by decide))) | (refine ⟨by omega, fun r hrr => ?_⟩; first | ((have hre : r = encC c := by (first | exact get_row hrr hc | fail)); subst hre)) | fail | fail)
        conv => whnf
        refine ⟨[], rfl, trivial, ?_⟩
        show leR _ (entX b r)
        rw [entX_old hE hi hc]
        exact ⟨⟨(by show leC .nil (.sl 5 (b.ps.map encP)); rw [hps]; rfl), rfl, rfl, trivial⟩, rfl, rfl, trivial⟩
      | cons p q =>
        have e1 : copR b = .agg [.osl 0, .osl 1, .osl 2] := by unfold copR; rw [hps]
        have e2 : copOb b = [rowP b.ps, rowO b.po, rowC b.rs] := by unfold copOb; rw [hps]
        repeat' ((conv => whnf); first | (refine ⟨fun h => ?_, fun h => ?_⟩ <;> try (exfalso; first | omega | exact absurd h (by decide) | exact h rfl | contradiction | exact absurd (show true = false from h) (by decide) | exact absurd (show false = true from h) (by decide))) | (refine ⟨_, alone_h, r, trivial, leVs_of_eq rfl, .inl rfl, rfl, ?_⟩; show norm (B (decide (rideP r))) _; rw [d1]) | (refine ⟨_, ridx_h, (b.rs, r.gate, r.seq), hbl, leVs_of_eq rfl, .inl rfl, rfl, ?_⟩; show norm (I (idxC b.rs r.gate r.seq)) _; rw [hic]) | (refine ⟨by omega, fun r hrr => ?_⟩; first | ((have hre : r = encC c := by (first | exact get_row hrr hc | fail)); subst hre)) | fail | fail)
        conv => whnf
        dsimp only
        (refine ⟨rfl, _, copied_h, b, hb, leVs_of_eq rfl, by show rowsO (copOb b); rw [e2]; trivial, ?_⟩; show norm (shift _ (copR b)) fun r' => setK (St.news _ (copOb b)) _ r' _; rw [e1, e2])
        repeat' ((conv => whnf); (try dsimp only [setL, List.map_cons, List.map_nil, List.take, List.drop, SV.cells, constV, shift, St.new, St.put, kills, killI, Nat.reduceAdd]); first | (refine ⟨fun h => ?_, fun h => ?_⟩ <;> try (exfalso; first | omega | exact absurd h (by decide) | exact h rfl | contradiction | exact absurd (show true = false from h) (by decide) | exact absurd (show false = true from h) (by decide))) | (refine ⟨by omega, fun r hrr => ?_⟩; first | ((have hre : r = encC c := by (first | exact get_row hrr hc | fail)); subst hre)) | fail | fail)
        conv => whnf
        refine ⟨[], rfl, trivial, ?_⟩
        show leR _ (entX b r)
        rw [entX_old hE hi hc]
        exact ⟨⟨rfl, rfl, rfl, trivial⟩, rfl, rfl, trivial⟩
    · rw [if_pos (ride_ne hcr)] at hE
      repeat' ((conv => whnf); first | (refine ⟨fun h => ?_, fun h => ?_⟩ <;> try (exfalso; first | omega | exact absurd h (by decide) | exact h rfl | contradiction | exact absurd (show true = false from h) (by decide) | exact absurd (show false = true from h) (by decide))) | (refine ⟨_, alone_h, r, trivial, leVs_of_eq rfl, .inl rfl, rfl, ?_⟩; show norm (B (decide (rideP r))) _; rw [d1]) | (refine ⟨_, ridx_h, (b.rs, r.gate, r.seq), hbl, leVs_of_eq rfl, .inl rfl, rfl, ?_⟩; show norm (I (idxC b.rs r.gate r.seq)) _; rw [hic]) | (refine ⟨by omega, fun r hrr => ?_⟩; first | ((have hre : r = encC c := by (first | exact get_row hrr hc | fail)); subst hre)) | fail | fail)
      all_goals (refine ⟨[], rfl, trivial, ?_⟩; show leR _ (entX b r); rw [entX_err hE (by decide)]; exact ⟨⟨rfl, rfl, rfl, trivial⟩, rfl, rfl, trivial⟩)
  | none =>
    have hic : idxC b.rs r.gate r.seq = -1 := by unfold idxC; rw [hi]
    rw [hi] at hE
    dsimp only at hE
    cases hps : b.ps with
    | nil =>
      have e1 : copR b = .agg [.c .nil, .osl 0, .osl 1] := by unfold copR; rw [hps]
      have e2 : copOb b = [rowO b.po, rowC b.rs] := by unfold copOb; rw [hps]
      repeat' ((conv => whnf); first | (refine ⟨fun h => ?_, fun h => ?_⟩ <;> try (exfalso; first | omega | exact absurd h (by decide) | exact h rfl | contradiction | exact absurd (show true = false from h) (by decide) | exact absurd (show false = true from h) (by decide))) | (refine ⟨_, alone_h, r, trivial, leVs_of_eq rfl, .inl rfl, rfl, ?_⟩; show norm (B (decide (rideP r))) _; rw [d1]) | (refine ⟨_, ridx_h, (b.rs, r.gate, r.seq), hbl, leVs_of_eq rfl, .inl rfl, rfl, ?_⟩; show norm (I (idxC b.rs r.gate r.seq)) _; rw [hic]) | fail | fail)
      conv => whnf
      dsimp only
      (refine ⟨rfl, _, copied_h, b, hb, leVs_of_eq rfl, by show rowsO (copOb b); rw [e2]; trivial, ?_⟩; show norm (shift _ (copR b)) fun r' => setK (St.news _ (copOb b)) _ r' _; rw [e1, e2])
      repeat' ((conv => whnf); (try dsimp only [setL, List.map_cons, List.map_nil, List.take, List.drop, SV.cells, constV, shift, St.new, St.put, kills, killI, Nat.reduceAdd]); first | (refine ⟨fun h => ?_, fun h => ?_⟩ <;> try (exfalso; first | omega | exact absurd h (by decide) | exact h rfl | contradiction | exact absurd (show true = false from h) (by decide) | exact absurd (show false = true from h) (by decide))) | fail | fail)
      refine ⟨Nat × Int, fun xq => ⟨[(2, .bp 0 0), (3, .bp 1 0), (4, .bp 2 0), (8, .bp 5 0), (9, I xq.2), (10, I xq.1)], [(0, bB' b), (1, .box ((encD r).map .c)), (2, nils), (3, rowO b.po), (4, rowC b.rs), (5, .box [.c .nil, .osl 3, .osl 4])], 6⟩, fun xq => xq.1 ≤ b.ps.length ∧ ((xq.2 = 0 ∧ ∀ y ∈ b.ps.take xq.1, opR r y = false) ∨ ∃ i, fidx (opR r) b.ps = some i ∧ xq.2 = (i : Int) + 1), fun xq => b.ps.length - xq.1, ⟨(0, 0), ?_, [], ⟨⟨rfl, rfl⟩, ⟨⟨rfl, rfl⟩, ⟨⟨rfl, rfl⟩, ⟨⟨rfl, rfl⟩, ⟨⟨rfl, rfl⟩, ⟨⟨rfl, rfl⟩, trivial⟩⟩⟩⟩⟩⟩, ⟨⟨rfl, rfl, rfl⟩, ⟨⟨rfl, rfl, rfl⟩, ⟨⟨rfl, rfl, rfl⟩, ⟨⟨rfl, rfl, rfl⟩, ⟨⟨rfl, rfl, rfl⟩, ⟨⟨rfl, rfl, rfl⟩, trivial⟩⟩⟩⟩⟩⟩, rfl, rfl, rfl⟩, ?_⟩
      · (try dsimp only); exact ⟨Nat.zero_le _, .inl ⟨rfl, by simp⟩⟩
      rintro ⟨k, n⟩ hk
      obtain ⟨hk, hn⟩ : k ≤ b.ps.length ∧ ((n = 0 ∧ ∀ y ∈ b.ps.take k, opR r y = false) ∨ ∃ i, fidx (opR r) b.ps = some i ∧ n = (i : Int) + 1) := hk
      (try dsimp only)
      rcases hn with ⟨rfl, hn⟩ | ⟨i, hj, rfl⟩
      · by_cases hkl : k < b.ps.length
        · obtain ⟨x, hx⟩ := getElem_some hkl
          cases hcl : x.cl with
          | true => repeat' ((conv => whnf); first | (refine ⟨fun h => ?_, fun h => ?_⟩ <;> try (exfalso; first | omega | exact absurd h (by decide) | exact h rfl | exact absurd (hcl.symm.trans h) (by decide))) | (refine ⟨by omega, fun r hrr => ?_⟩; first | ((have hre : r = encP x := by (first | exact get_row hrr hx | fail)); subst hre)) | (refine ⟨(k + 1, 0), ⟨?_, by (try dsimp only); omega⟩, [], ⟨⟨rfl, rfl⟩, ⟨⟨rfl, rfl⟩, ⟨⟨rfl, rfl⟩, ⟨⟨rfl, rfl⟩, ⟨⟨rfl, rfl⟩, ⟨⟨rfl, rfl⟩, trivial⟩⟩⟩⟩⟩⟩, ⟨⟨rfl, rfl, rfl⟩, ⟨⟨rfl, rfl, rfl⟩, ⟨⟨rfl, rfl, rfl⟩, ⟨⟨rfl, rfl, rfl⟩, ⟨⟨rfl, rfl, rfl⟩, ⟨⟨rfl, rfl, rfl⟩, trivial⟩⟩⟩⟩⟩⟩, rfl, rfl, rfl⟩; (try dsimp only); exact ⟨by omega, .inl ⟨rfl, no_step hx hn (by unfold opR; rw [hcl]; rfl)⟩⟩) | refine ⟨⟨by omega, by omega⟩, ?_⟩ | fail)
          | false =>
            by_cases ht : r.time < x.to
            · have hf : fidx (opR r) b.ps = some k := fidx_at hx hn (by unfold opR; rw [hcl, decide_eq_true ht]; rfl)
              repeat' ((conv => whnf); first | (refine ⟨fun h => ?_, fun h => ?_⟩ <;> try (exfalso; first | omega | exact absurd h (by decide) | exact h rfl | exact absurd (hcl.symm.trans h) (by decide))) | (refine ⟨by omega, fun r hrr => ?_⟩; first | ((have hre : r = encP x := by (first | exact get_row hrr hx | fail)); subst hre)) | (refine ⟨(k + 1, _), ⟨?_, by (try dsimp only); omega⟩, [], ⟨⟨rfl, rfl⟩, ⟨⟨rfl, rfl⟩, ⟨⟨rfl, rfl⟩, ⟨⟨rfl, rfl⟩, ⟨⟨rfl, rfl⟩, ⟨⟨rfl, rfl⟩, trivial⟩⟩⟩⟩⟩⟩, ⟨⟨rfl, rfl, rfl⟩, ⟨⟨rfl, rfl, rfl⟩, ⟨⟨rfl, rfl, rfl⟩, ⟨⟨rfl, rfl, rfl⟩, ⟨⟨rfl, rfl, rfl⟩, ⟨⟨rfl, rfl, rfl⟩, trivial⟩⟩⟩⟩⟩⟩, rfl, rfl, rfl⟩; (try dsimp only); exact ⟨by omega, .inr ⟨k, hf, rfl⟩⟩) | refine ⟨⟨by omega, by omega⟩, ?_⟩ | fail)
            · repeat' ((conv => whnf); first | (refine ⟨fun h => ?_, fun h => ?_⟩ <;> try (exfalso; first | omega | exact absurd h (by decide) | exact h rfl | exact absurd (hcl.symm.trans h) (by decide))) | (refine ⟨by omega, fun r hrr => ?_⟩; first | ((have hre : r = encP x := by (first | exact get_row hrr hx | fail)); subst hre)) | (refine ⟨(k + 1, 0), ⟨?_, by (try dsimp only); omega⟩, [], ⟨⟨rfl, rfl⟩, ⟨⟨rfl, rfl⟩, ⟨⟨rfl, rfl⟩, ⟨⟨rfl, rfl⟩, ⟨⟨rfl, rfl⟩, ⟨⟨rfl, rfl⟩, trivial⟩⟩⟩⟩⟩⟩, ⟨⟨rfl, rfl, rfl⟩, ⟨⟨rfl, rfl, rfl⟩, ⟨⟨rfl, rfl, rfl⟩, ⟨⟨rfl, rfl, rfl⟩, ⟨⟨rfl, rfl, rfl⟩, ⟨⟨rfl, rfl, rfl⟩, trivial⟩⟩⟩⟩⟩⟩, rfl, rfl, rfl⟩; (try dsimp only); exact ⟨by omega, .inl ⟨rfl, no_step hx hn (by unfold opR; rw [hcl, decide_eq_false ht]; rfl)⟩⟩) | refine ⟨⟨by omega, by omega⟩, ?_⟩ | fail)
        · rw [take_end hkl] at hn
          rw [fidx_none hn] at hE
          dsimp only at hE
          repeat' ((conv => whnf); first | (refine ⟨fun h => ?_, fun h => ?_⟩ <;> try (exfalso; first | omega | exact absurd h (by decide) | exact h rfl | exact absurd (show true = false from h) (by decide) | exact absurd (show false = true from h) (by decide))) | fail | fail)
          all_goals (refine ⟨[], rfl, trivial, ?_⟩; show leR _ (entX b r); rw [entX_err hE (by decide)]; exact ⟨⟨rfl, rfl, rfl, trivial⟩, rfl, rfl, trivial⟩)
      · rw [hj] at hE
        dsimp only at hE
        by_cases h9 : 2000 ≤ b.rs.length
        · rw [if_pos h9] at hE
          repeat' ((conv => whnf); first | (refine ⟨fun h => ?_, fun h => ?_⟩ <;> try (exfalso; first | omega | exact absurd h (by decide) | exact h rfl | exact absurd (show true = false from h) (by decide) | exact absurd (show false = true from h) (by decide))) | fail | fail)
          all_goals (refine ⟨[], rfl, trivial, ?_⟩; show leR _ (entX b r); rw [entX_err hE (by decide)]; exact ⟨⟨rfl, rfl, rfl, trivial⟩, rfl, rfl, trivial⟩)
        · rw [if_neg h9] at hE
          repeat' ((conv => whnf); (try dsimp only [setL, List.map_cons, List.map_nil, List.take, List.drop, SV.cells, constV, shift, St.new, St.put, kills, killI, Nat.reduceAdd]); first | (refine ⟨fun h => ?_, fun h => ?_⟩ <;> try (exfalso; first | omega | exact absurd h (by decide) | exact h rfl | exact absurd (show true = false from h) (by decide) | exact absurd (show false = true from h) (by decide))) | (refine ⟨⟨by first | omega | (simp only [List.length_nil]; omega) | (simp only [List.length_cons, List.length_nil]; omega), by first | omega | (simp only [List.length_nil]; omega) | (simp only [List.length_cons, List.length_nil]; omega)⟩, ?_⟩) | fail | fail)
          all_goals
            conv => whnf
            refine ⟨[], rfl, trivial, ?_⟩
            show leR _ (entX b r)
            rw [entX_new hE hi hj]
            exact ⟨⟨(by show leC .nil (.sl 5 (b.ps.map encP)); rw [hps]; rfl), rfl, rfl, trivial⟩, rfl, rfl, trivial⟩
    | cons p q =>
      have e1 : copR b = .agg [.osl 0, .osl 1, .osl 2] := by unfold copR; rw [hps]
      have e2 : copOb b = [rowP b.ps, rowO b.po, rowC b.rs] := by unfold copOb; rw [hps]
      repeat' ((conv => whnf); first | (refine ⟨fun h => ?_, fun h => ?_⟩ <;> try (exfalso; first | omega | exact absurd h (by decide) | exact h rfl | contradiction | exact absurd (show true = false from h) (by decide) | exact absurd (show false = true from h) (by decide))) | (refine ⟨_, alone_h, r, trivial, leVs_of_eq rfl, .inl rfl, rfl, ?_⟩; show norm (B (decide (rideP r))) _; rw [d1]) | (refine ⟨_, ridx_h, (b.rs, r.gate, r.seq), hbl, leVs_of_eq rfl, .inl rfl, rfl, ?_⟩; show norm (I (idxC b.rs r.gate r.seq)) _; rw [hic]) | fail | fail)
      conv => whnf
      dsimp only
      (refine ⟨rfl, _, copied_h, b, hb, leVs_of_eq rfl, by show rowsO (copOb b); rw [e2]; trivial, ?_⟩; show norm (shift _ (copR b)) fun r' => setK (St.news _ (copOb b)) _ r' _; rw [e1, e2])
      repeat' ((conv => whnf); (try dsimp only [setL, List.map_cons, List.map_nil, List.take, List.drop, SV.cells, constV, shift, St.new, St.put, kills, killI, Nat.reduceAdd]); first | (refine ⟨fun h => ?_, fun h => ?_⟩ <;> try (exfalso; first | omega | exact absurd h (by decide) | exact h rfl | contradiction | exact absurd (show true = false from h) (by decide) | exact absurd (show false = true from h) (by decide))) | fail | fail)
      refine ⟨Nat × Int, fun xq => ⟨[(2, .bp 0 0), (3, .bp 1 0), (4, .bp 2 0), (8, .bp 6 0), (9, I xq.2), (10, I xq.1)], [(0, bB' b), (1, .box ((encD r).map .c)), (2, nils), (3, rowP b.ps), (4, rowO b.po), (5, rowC b.rs), (6, .box [.osl 3, .osl 4, .osl 5])], 7⟩, fun xq => xq.1 ≤ b.ps.length ∧ ((xq.2 = 0 ∧ ∀ y ∈ b.ps.take xq.1, opR r y = false) ∨ ∃ i, fidx (opR r) b.ps = some i ∧ xq.2 = (i : Int) + 1), fun xq => b.ps.length - xq.1, ⟨(0, 0), ?_, [], ⟨⟨rfl, rfl⟩, ⟨⟨rfl, rfl⟩, ⟨⟨rfl, rfl⟩, ⟨⟨rfl, rfl⟩, ⟨⟨rfl, rfl⟩, ⟨⟨rfl, rfl⟩, trivial⟩⟩⟩⟩⟩⟩, ⟨⟨rfl, rfl, rfl⟩, ⟨⟨rfl, rfl, rfl⟩, ⟨⟨rfl, rfl, rfl⟩, ⟨⟨rfl, rfl, rfl⟩, ⟨⟨rfl, rfl, rfl⟩, ⟨⟨rfl, rfl, rfl⟩, ⟨⟨rfl, rfl, rfl⟩, trivial⟩⟩⟩⟩⟩⟩⟩, rfl, rfl, rfl⟩, ?_⟩
      · (try dsimp only); exact ⟨Nat.zero_le _, .inl ⟨rfl, by simp⟩⟩
      rintro ⟨k, n⟩ hk
      obtain ⟨hk, hn⟩ : k ≤ b.ps.length ∧ ((n = 0 ∧ ∀ y ∈ b.ps.take k, opR r y = false) ∨ ∃ i, fidx (opR r) b.ps = some i ∧ n = (i : Int) + 1) := hk
      (try dsimp only)
      rcases hn with ⟨rfl, hn⟩ | ⟨i, hj, rfl⟩
      · by_cases hkl : k < b.ps.length
        · obtain ⟨x, hx⟩ := getElem_some hkl
          cases hcl : x.cl with
          | true => repeat' ((conv => whnf); first | (refine ⟨fun h => ?_, fun h => ?_⟩ <;> try (exfalso; first | omega | exact absurd h (by decide) | exact h rfl | exact absurd (hcl.symm.trans h) (by decide))) | (refine ⟨by omega, fun r hrr => ?_⟩; first | ((have hre : r = encP x := by (first | exact get_row hrr hx | fail)); subst hre)) | (refine ⟨(k + 1, 0), ⟨?_, by (try dsimp only); omega⟩, [], ⟨⟨rfl, rfl⟩, ⟨⟨rfl, rfl⟩, ⟨⟨rfl, rfl⟩, ⟨⟨rfl, rfl⟩, ⟨⟨rfl, rfl⟩, ⟨⟨rfl, rfl⟩, trivial⟩⟩⟩⟩⟩⟩, ⟨⟨rfl, rfl, rfl⟩, ⟨⟨rfl, rfl, rfl⟩, ⟨⟨rfl, rfl, rfl⟩, ⟨⟨rfl, rfl, rfl⟩, ⟨⟨rfl, rfl, rfl⟩, ⟨⟨rfl, rfl, rfl⟩, ⟨⟨rfl, rfl, rfl⟩, trivial⟩⟩⟩⟩⟩⟩⟩, rfl, rfl, rfl⟩; (try dsimp only); exact ⟨by omega, .inl ⟨rfl, no_step hx hn (by unfold opR; rw [hcl]; rfl)⟩⟩) | refine ⟨⟨by omega, by omega⟩, ?_⟩ | fail)
          | false =>
            by_cases ht : r.time < x.to
            · have hf : fidx (opR r) b.ps = some k := fidx_at hx hn (by unfold opR; rw [hcl, decide_eq_true ht]; rfl)
              repeat' ((conv => whnf); first | (refine ⟨fun h => ?_, fun h => ?_⟩ <;> try (exfalso; first | omega | exact absurd h (by decide) | exact h rfl | exact absurd (hcl.symm.trans h) (by decide))) | (refine ⟨by omega, fun r hrr => ?_⟩; first | ((have hre : r = encP x := by (first | exact get_row hrr hx | fail)); subst hre)) | (refine ⟨(k + 1, _), ⟨?_, by (try dsimp only); omega⟩, [], ⟨⟨rfl, rfl⟩, ⟨⟨rfl, rfl⟩, ⟨⟨rfl, rfl⟩, ⟨⟨rfl, rfl⟩, ⟨⟨rfl, rfl⟩, ⟨⟨rfl, rfl⟩, trivial⟩⟩⟩⟩⟩⟩, ⟨⟨rfl, rfl, rfl⟩, ⟨⟨rfl, rfl, rfl⟩, ⟨⟨rfl, rfl, rfl⟩, ⟨⟨rfl, rfl, rfl⟩, ⟨⟨rfl, rfl, rfl⟩, ⟨⟨rfl, rfl, rfl⟩, ⟨⟨rfl, rfl, rfl⟩, trivial⟩⟩⟩⟩⟩⟩⟩, rfl, rfl, rfl⟩; (try dsimp only); exact ⟨by omega, .inr ⟨k, hf, rfl⟩⟩) | refine ⟨⟨by omega, by omega⟩, ?_⟩ | fail)
            · repeat' ((conv => whnf); first | (refine ⟨fun h => ?_, fun h => ?_⟩ <;> try (exfalso; first | omega | exact absurd h (by decide) | exact h rfl | exact absurd (hcl.symm.trans h) (by decide))) | (refine ⟨by omega, fun r hrr => ?_⟩; first | ((have hre : r = encP x := by (first | exact get_row hrr hx | fail)); subst hre)) | (refine ⟨(k + 1, 0), ⟨?_, by (try dsimp only); omega⟩, [], ⟨⟨rfl, rfl⟩, ⟨⟨rfl, rfl⟩, ⟨⟨rfl, rfl⟩, ⟨⟨rfl, rfl⟩, ⟨⟨rfl, rfl⟩, ⟨⟨rfl, rfl⟩, trivial⟩⟩⟩⟩⟩⟩, ⟨⟨rfl, rfl, rfl⟩, ⟨⟨rfl, rfl, rfl⟩, ⟨⟨rfl, rfl, rfl⟩, ⟨⟨rfl, rfl, rfl⟩, ⟨⟨rfl, rfl, rfl⟩, ⟨⟨rfl, rfl, rfl⟩, ⟨⟨rfl, rfl, rfl⟩, trivial⟩⟩⟩⟩⟩⟩⟩, rfl, rfl, rfl⟩; (try dsimp only); exact ⟨by omega, .inl ⟨rfl, no_step hx hn (by unfold opR; rw [hcl, decide_eq_false ht]; rfl)⟩⟩) | refine ⟨⟨by omega, by omega⟩, ?_⟩ | fail)
        · rw [take_end hkl] at hn
          rw [fidx_none hn] at hE
          dsimp only at hE
          repeat' ((conv => whnf); first | (refine ⟨fun h => ?_, fun h => ?_⟩ <;> try (exfalso; first | omega | exact absurd h (by decide) | exact h rfl | exact absurd (show true = false from h) (by decide) | exact absurd (show false = true from h) (by decide))) | fail | fail)
          all_goals (refine ⟨[], rfl, trivial, ?_⟩; show leR _ (entX b r); rw [entX_err hE (by decide)]; exact ⟨⟨rfl, rfl, rfl, trivial⟩, rfl, rfl, trivial⟩)
      · rw [hj] at hE
        dsimp only at hE
        by_cases h9 : 2000 ≤ b.rs.length
        · rw [if_pos h9] at hE
          repeat' ((conv => whnf); first | (refine ⟨fun h => ?_, fun h => ?_⟩ <;> try (exfalso; first | omega | exact absurd h (by decide) | exact h rfl | exact absurd (show true = false from h) (by decide) | exact absurd (show false = true from h) (by decide))) | fail | fail)
          all_goals (refine ⟨[], rfl, trivial, ?_⟩; show leR _ (entX b r); rw [entX_err hE (by decide)]; exact ⟨⟨rfl, rfl, rfl, trivial⟩, rfl, rfl, trivial⟩)
        · rw [if_neg h9] at hE
          repeat' ((conv => whnf); (try dsimp only [setL, List.map_cons, List.map_nil, List.take, List.drop, SV.cells, constV, shift, St.new, St.put, kills, killI, Nat.reduceAdd]); first | (refine ⟨fun h => ?_, fun h => ?_⟩ <;> try (exfalso; first | omega | exact absurd h (by decide) | exact h rfl | exact absurd (show true = false from h) (by decide) | exact absurd (show false = true from h) (by decide))) | (refine ⟨⟨by first | omega | (simp only [List.length_nil]; omega) | (simp only [List.length_cons, List.length_nil]; omega), by first | omega | (simp only [List.length_nil]; omega) | (simp only [List.length_cons, List.length_nil]; omega)⟩, ?_⟩) | fail | fail)
          all_goals
            conv => whnf
            refine ⟨[], rfl, trivial, ?_⟩
            show leR _ (entX b r)
            rw [entX_new hE hi hj]
            exact ⟨⟨rfl, rfl, rfl, trivial⟩, rfl, rfl, trivial⟩
theorem renter_h : Holds Tryz.prog 21 renterS := holds_of mix Tryz.func21 renterLow (fun _ => rfl) renterV

end Go.Proofs.YtpkhannkbafimaaGreat
