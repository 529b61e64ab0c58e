/- Revenue: the reference's shares of a sale. -/
import Derived.Test.YtbglmocgijlomaaTI
namespace Go.Proofs.Ytbglmocgijlomaa
open Go.RowKit

/-! skiarea/skiarearef35.Of -/
def rofIr : IFn := ⟨73, [.tmp 8],
  (.seq (.ops [
    ⟨(some 4), .box, [.tmp 0], none⟩,
    ⟨(some 7), .box, [.tmp 3], none⟩,
    ⟨(some 8), .mov, [.const (.slice none 0 0)], none⟩] false)
  (.seq (.ops [
    ⟨(some 16), .faddr 2, [.tmp 7], none⟩,
    ⟨(some 17), .load 1 false, [.tmp 16], none⟩,
    ⟨(some 18), .faddr 5, [.tmp 7], none⟩,
    ⟨(some 19), .load 1 false, [.tmp 18], none⟩,
    ⟨(some 20), .build [.int .i64 0, .int .i64 0] [(0, 1), (1, 1)], [.tmp 17, .tmp 19], none⟩,
    ⟨(some 21), .buildSl 56 2, [.tmp 20], none⟩,
    ⟨(some 9), .mov, [.tmp 21], none⟩] false)
  (.seq (.ops [
    ⟨(some 23), .faddr 4, [.tmp 7], none⟩,
    ⟨(some 24), .load 1 false, [.tmp 23], none⟩,
    ⟨(some 25), .faddr 5, [.tmp 7], none⟩,
    ⟨(some 26), .load 1 false, [.tmp 25], none⟩,
    ⟨(some 27), .bin .sub .i64 false, [.tmp 24, .tmp 26], none⟩,
    ⟨(some 28), .load 4 true, [.tmp 4], none⟩,
    ⟨(some 29), .mov, [.tmp 1], none⟩,
    ⟨(some 30), .mov, [.tmp 2], none⟩,
    ⟨(some 31), .faddr 0, [.tmp 7], none⟩,
    ⟨(some 32), .load 1 false, [.tmp 31], none⟩,
    ⟨(some 33), .call 16, [.tmp 28, .tmp 29, .tmp 30, .tmp 32], none⟩,
    ⟨(some 34), .call 35, [.tmp 27, .tmp 33], none⟩,
    ⟨(some 22), .mov, [.tmp 34], none⟩,
    ⟨(some 35), .extract 0, [.tmp 22], none⟩,
    ⟨(some 36), .extract 1, [.tmp 22], none⟩,
    ⟨(some 10), .mov, [.tmp 35], none⟩,
    ⟨(some 11), .mov, [.tmp 36], none⟩] true)
  (.seq (.ops [
    ⟨(some 12), .nilOwn 56 2, [], none⟩] false)
  (.seq (.seq (.ops [
    ⟨(some 37), .mov, [.tmp 11], none⟩,
    ⟨(some 38), .cmp .neq, [.tmp 37, .const (.int .i64 0)], none⟩] false)
  (.cond (.tmp 38)
    (.ops [
      ⟨(some 39), .mov, [.tmp 12], none⟩,
      ⟨(some 40), .faddr 2, [.tmp 7], none⟩,
      ⟨(some 41), .load 1 false, [.tmp 40], none⟩,
      ⟨(some 42), .faddr 4, [.tmp 7], none⟩,
      ⟨(some 43), .load 1 false, [.tmp 42], none⟩,
      ⟨(some 44), .faddr 5, [.tmp 7], none⟩,
      ⟨(some 45), .load 1 false, [.tmp 44], none⟩,
      ⟨(some 46), .bin .sub .i64 false, [.tmp 43, .tmp 45], none⟩,
      ⟨(some 47), .build [.int .i64 0, .int .i64 0] [(0, 1), (1, 1)], [.tmp 41, .tmp 46], none⟩,
      ⟨(some 48), .buildSl 56 2, [.tmp 47], none⟩,
      ⟨(some 49), .append 56 2 16, [.tmp 39, .tmp 48], none⟩,
      ⟨(some 12), .mov, [.tmp 49], none⟩] false)
    .skip))
  (.seq (.seq (.ops [
    ⟨(some 13), .mov, [.const (.int .i64 0)], none⟩] false)
  (.block 0
    (.loop
      (.seq (.seq (.ops [
        ⟨(some 50), .mov, [.tmp 13], none⟩,
        ⟨(some 51), .mov, [.tmp 10], none⟩,
        ⟨(some 52), .len, [.tmp 51], none⟩,
        ⟨(some 53), .cmp .lss, [.tmp 50, .tmp 52], none⟩] false)
      (.cond (.tmp 53)
        .skip
        (.exit 0)))
      (.seq (.block 1
        (.ops [
          ⟨(some 56), .mov, [.tmp 12], none⟩,
          ⟨(some 57), .mov, [.tmp 13], none⟩,
          ⟨(some 58), .bin .add .i64 false, [.tmp 57, .const (.int .i64 1)], none⟩,
          ⟨(some 59), .mov, [.tmp 10], none⟩,
          ⟨(some 60), .mov, [.tmp 13], none⟩,
          ⟨(some 61), .idx 1, [.tmp 59, .tmp 60], none⟩,
          ⟨(some 62), .load 1 false, [.tmp 61], none⟩,
          ⟨(some 63), .build [.int .i64 0, .int .i64 0] [(0, 1), (1, 1)], [.tmp 58, .tmp 62], none⟩,
          ⟨(some 64), .buildSl 56 2, [.tmp 63], none⟩,
          ⟨(some 65), .append 56 2 16, [.tmp 56, .tmp 64], none⟩,
          ⟨(some 12), .mov, [.tmp 65], none⟩] false))
      (.ops [
        ⟨(some 54), .mov, [.tmp 13], none⟩,
        ⟨(some 55), .bin .add .i64 false, [.tmp 54, .const (.int .i64 1)], none⟩,
        ⟨(some 13), .mov, [.tmp 55], none⟩] false))))))
  (.seq (.ops [
    ⟨(some 67), .mov, [.tmp 9], none⟩,
    ⟨(some 68), .mov, [.tmp 12], none⟩,
    ⟨(some 69), .callo 36, [.tmp 67, .tmp 68], none⟩,
    ⟨(some 66), .mov, [.tmp 69], none⟩,
    ⟨(some 70), .extract 0, [.tmp 66], none⟩,
    ⟨(some 71), .extract 1, [.tmp 66], none⟩,
    ⟨(some 14), .mov, [.tmp 70], none⟩,
    ⟨(some 15), .mov, [.tmp 71], none⟩] false)
  (.seq (.ops [
    ⟨(some 72), .mov, [.tmp 14], none⟩,
    ⟨(some 8), .mov, [.tmp 72], none⟩] false)
  .ret))))))))⟩
theorem rofLow : lowF Try.prog { owns := [(12, 56)], gives := [69] } Try.f19 = some rofIr := by kernel_rfl
def rofS : Spec := ⟨Mp × List Tariff × List Ride × Sale, fun p => [aM p.1, L 2 (p.2.1.map encT), L 7 (p.2.2.1.map encD), aE p.2.2.2], fun p => OfP p.1 p.2.1 p.2.2.1 p.2.2.2, fun p => L 2 ((ofL p.1 p.2.1 p.2.2.1 p.2.2.2).map encS), fun _ => []⟩
set_option maxHeartbeats 4000000 in
theorem rofV : fnV Try.prog rofIr rofS := by
  intro ⟨(m : Mp), (l : List Tariff), (rides : List Ride), (s : Sale)⟩ hx
  have h : OfP m l rides s := hx
  have hr := h.hr
  have hfee := h.fee
  have hpaid := h.paid
  have hpl8 := cutOf_len m l rides s
  have hpl1 : ((cutOf m l rides s).map e1).length = (cutOf m l rides s).length := List.length_map ..
  obtain ⟨hs1, hs2⟩ := sharesOf_ok h
  show vc _ _ _ _ ⟨argEnv 0 [aM m, L 2 (l.map encT), L 7 (rides.map encD), aE s], [], 0⟩
  by_cases hE0 : chkF (restOf s) (ptsOf m l rides s) = 0
  · have hE := hE0
    obtain ⟨e2, hadd⟩ := ofT (m := m) (l := l) (rides := rides) (s := s) (a := [(⟨s.seller, s.fee⟩ : Share)]) (b := ([] : List Share) ++ idxK (cutOf m l rides s) (cutOf m l rides s).length) (by unfold sharesOf moreOf; rw [if_pos hE]; rfl)
    repeat' ((conv => whnf); first | (refine ⟨fun h => ?_, fun h => ?_⟩ <;> try (exfalso; first | omega | exact absurd h (by decide) | exact h rfl)) | (refine ⟨_, rpoints_h, (m, l, rides, s.serial), (by show (okM m ∧ l.length ≤ 1000000) ∧ Rates l ∧ rides.length ≤ 100000 ∧ ∀ x ∈ m.lifts, 1 ≤ x.op ∧ x.op ≤ 8; exact ⟨⟨h.hm, h.ll⟩, h.hR, by omega, h.ops⟩), leVs_of_eq rfl, .inl rfl, rfl, ?_⟩; show norm (L 1 ((ptsOf m l rides s).map e1)) _) | (refine ⟨_, rsplit_h, (s.paid - s.fee, ptsOf m l rides s), cutOf_bnd, leVs_of_eq rfl, .inl rfl, rfl, ?_⟩; show norm (splT (s.paid - s.fee) (ptsOf m l rides s)) _; rw [splOf, hE]) | refine ⟨⟨by omega, by omega⟩, ?_⟩ | (refine ⟨⟨by simp only [List.length_cons, List.length_nil]; omega, by simp only [List.length_cons, List.length_nil]; omega⟩, ?_⟩) | fail | fail)
    refine ⟨Nat × (List (List CV)), fun xq => ⟨[(9, L 2 ([(⟨s.seller, s.fee⟩ : Share)].map encS)), (10, L 1 ((cutOf m l rides s).map e1)), (12, .osl 0), (13, I xq.1)], [(0, .row 56 2 xq.2)], 1⟩, fun xq => xq.1 ≤ (cutOf m l rides s).length ∧ xq.2 = (([] : List Share) ++ idxK (cutOf m l rides s) xq.1).map encS, fun xq => (cutOf m l rides s).length - xq.1, ⟨(0, _), ?_, [(0, 2)], ⟨⟨rfl, rfl⟩, ⟨⟨rfl, rfl⟩, ⟨⟨rfl, rfl⟩, ⟨⟨rfl, rfl⟩, trivial⟩⟩⟩⟩, ⟨⟨rfl, rfl, rfl⟩, trivial⟩, rfl, rfl, rfl⟩, ?_⟩
    · (try dsimp only); exact ⟨Nat.zero_le _, rfl⟩
    rintro ⟨k, es⟩ hk
    obtain ⟨hk, rfl⟩ : k ≤ (cutOf m l rides s).length ∧ es = (([] : List Share) ++ idxK (cutOf m l rides s) k).map encS := hk
    (try dsimp only)
    have hel : ((([] : List Share) ++ idxK (cutOf m l rides s) k).map encS).length = (([] : List Share) : List Share).length + k := by rw [List.length_map, List.length_append, idxK_len]
    by_cases hkl : k < (cutOf m l rides s).length
    · obtain ⟨x, hx⟩ := getElem_some hkl
      have hst : (([] : List Share) ++ idxK (cutOf m l rides s) (k + 1)).map encS = (([] : List Share) ++ idxK (cutOf m l rides s) k).map encS ++ [encS ⟨(k : Int) + 1, x⟩] := by rw [idxK_snoc hx, ← List.append_assoc, List.map_append]; rfl
      repeat' ((conv => whnf); first | (refine ⟨fun h => ?_, fun h => ?_⟩ <;> try (exfalso; first | omega | exact absurd h (by decide) | exact h rfl)) | (refine ⟨by omega, fun r hrr => ?_⟩; first | ((have hre : r = e1 x := by (first | exact get_row hrr hx | fail)); subst hre)) | (refine ⟨(k + 1, _), ⟨?_, by (try dsimp only); omega⟩, [(0, 1)], ⟨⟨rfl, rfl⟩, ⟨⟨rfl, rfl⟩, ⟨⟨rfl, rfl⟩, ⟨⟨rfl, rfl⟩, trivial⟩⟩⟩⟩, ⟨⟨rfl, rfl, rfl⟩, trivial⟩, rfl, rfl, rfl⟩; (try dsimp only); exact ⟨by omega, hst.symm⟩) | refine ⟨⟨by omega, by omega⟩, ?_⟩ | (refine ⟨⟨by (simp only [List.length_nil] at hel; simp only [List.length_cons, List.length_nil]; omega), by (simp only [List.length_nil] at hel; simp only [List.length_cons, List.length_nil]; omega)⟩, ?_⟩) | (refine ⟨⟨by simp only [List.length_cons, List.length_nil]; omega, by simp only [List.length_cons, List.length_nil]; omega⟩, ?_⟩) | fail)
    · have hkn : k = (cutOf m l rides s).length := by omega
      subst hkn
      repeat' ((conv => whnf); first | (refine ⟨fun h => ?_, fun h => ?_⟩ <;> try (exfalso; first | omega | exact absurd h (by decide) | exact h rfl)) | (refine ⟨rfl, _, radd_h, ([(⟨s.seller, s.fee⟩ : Share)], ([] : List Share) ++ idxK (cutOf m l rides s) (cutOf m l rides s).length), (by show ([(⟨s.seller, s.fee⟩ : Share)].length ≤ 100000 ∧ (([] : List Share) ++ idxK (cutOf m l rides s) (cutOf m l rides s).length).length ≤ 100000); rw [List.length_append, idxK_len]; simp only [List.length_cons, List.length_nil]; omega), leVs_of_eq rfl, trivial, ?_⟩; show norm (shift _ (addT [(⟨s.seller, s.fee⟩ : Share)] (([] : List Share) ++ idxK (cutOf m l rides s) (cutOf m l rides s).length))) _; rw [hadd]) | fail | fail)
      all_goals exact ⟨[], rfl, trivial, rfl⟩
  · obtain ⟨e2, hadd⟩ := ofT (m := m) (l := l) (rides := rides) (s := s) (a := [(⟨s.seller, s.fee⟩ : Share)]) (b := [(⟨s.seller, s.paid - s.fee⟩ : Share)] ++ idxK (cutOf m l rides s) (cutOf m l rides s).length) (by unfold sharesOf moreOf; rw [if_neg hE0]; rfl)
    obtain ⟨e, hE⟩ : ∃ e, chkF (restOf s) (ptsOf m l rides s) = e := ⟨_, rfl⟩
    rw [hE] at hE0
    repeat' ((conv => whnf); first | (refine ⟨fun h => ?_, fun h => ?_⟩ <;> try (exfalso; first | omega | exact absurd h (by decide) | exact h rfl)) | (refine ⟨_, rpoints_h, (m, l, rides, s.serial), (by show (okM m ∧ l.length ≤ 1000000) ∧ Rates l ∧ rides.length ≤ 100000 ∧ ∀ x ∈ m.lifts, 1 ≤ x.op ∧ x.op ≤ 8; exact ⟨⟨h.hm, h.ll⟩, h.hR, by omega, h.ops⟩), leVs_of_eq rfl, .inl rfl, rfl, ?_⟩; show norm (L 1 ((ptsOf m l rides s).map e1)) _) | (refine ⟨_, rsplit_h, (s.paid - s.fee, ptsOf m l rides s), cutOf_bnd, leVs_of_eq rfl, .inl rfl, rfl, ?_⟩; show norm (splT (s.paid - s.fee) (ptsOf m l rides s)) _; rw [splOf, hE]) | refine ⟨⟨by omega, by omega⟩, ?_⟩ | (refine ⟨⟨by simp only [List.length_cons, List.length_nil]; omega, by simp only [List.length_cons, List.length_nil]; omega⟩, ?_⟩) | fail | fail)
    refine ⟨Nat × (List (List CV)), fun xq => ⟨[(9, L 2 ([(⟨s.seller, s.fee⟩ : Share)].map encS)), (10, L 1 ((cutOf m l rides s).map e1)), (12, .osl 0), (13, I xq.1)], [(0, .row 56 2 xq.2)], 1⟩, fun xq => xq.1 ≤ (cutOf m l rides s).length ∧ xq.2 = ([(⟨s.seller, s.paid - s.fee⟩ : Share)] ++ idxK (cutOf m l rides s) xq.1).map encS, fun xq => (cutOf m l rides s).length - xq.1, ⟨(0, _), ?_, [(0, 3)], ⟨⟨rfl, rfl⟩, ⟨⟨rfl, rfl⟩, ⟨⟨rfl, rfl⟩, ⟨⟨rfl, rfl⟩, trivial⟩⟩⟩⟩, ⟨⟨rfl, rfl, rfl⟩, trivial⟩, rfl, rfl, rfl⟩, ?_⟩
    · (try dsimp only); exact ⟨Nat.zero_le _, rfl⟩
    rintro ⟨k, es⟩ hk
    obtain ⟨hk, rfl⟩ : k ≤ (cutOf m l rides s).length ∧ es = ([(⟨s.seller, s.paid - s.fee⟩ : Share)] ++ idxK (cutOf m l rides s) k).map encS := hk
    (try dsimp only)
    have hel : (([(⟨s.seller, s.paid - s.fee⟩ : Share)] ++ idxK (cutOf m l rides s) k).map encS).length = ([(⟨s.seller, s.paid - s.fee⟩ : Share)] : List Share).length + k := by rw [List.length_map, List.length_append, idxK_len]
    by_cases hkl : k < (cutOf m l rides s).length
    · obtain ⟨x, hx⟩ := getElem_some hkl
      have hst : ([(⟨s.seller, s.paid - s.fee⟩ : Share)] ++ idxK (cutOf m l rides s) (k + 1)).map encS = ([(⟨s.seller, s.paid - s.fee⟩ : Share)] ++ idxK (cutOf m l rides s) k).map encS ++ [encS ⟨(k : Int) + 1, x⟩] := by rw [idxK_snoc hx, ← List.append_assoc, List.map_append]; rfl
      repeat' ((conv => whnf); first | (refine ⟨fun h => ?_, fun h => ?_⟩ <;> try (exfalso; first | omega | exact absurd h (by decide) | exact h rfl)) | (refine ⟨by omega, fun r hrr => ?_⟩; first | ((have hre : r = e1 x := by (first | exact get_row hrr hx | fail)); subst hre)) | (refine ⟨(k + 1, _), ⟨?_, by (try dsimp only); omega⟩, [(0, 1)], ⟨⟨rfl, rfl⟩, ⟨⟨rfl, rfl⟩, ⟨⟨rfl, rfl⟩, ⟨⟨rfl, rfl⟩, trivial⟩⟩⟩⟩, ⟨⟨rfl, rfl, rfl⟩, trivial⟩, rfl, rfl, rfl⟩; (try dsimp only); exact ⟨by omega, hst.symm⟩) | refine ⟨⟨by omega, by omega⟩, ?_⟩ | (refine ⟨⟨by (simp only [List.length_cons, List.length_nil] at hel; simp only [List.length_cons, List.length_nil]; omega), by (simp only [List.length_cons, List.length_nil] at hel; simp only [List.length_cons, List.length_nil]; omega)⟩, ?_⟩) | (refine ⟨⟨by simp only [List.length_cons, List.length_nil]; omega, by simp only [List.length_cons, List.length_nil]; omega⟩, ?_⟩) | fail)
    · have hkn : k = (cutOf m l rides s).length := by omega
      subst hkn
      repeat' ((conv => whnf); first | (refine ⟨fun h => ?_, fun h => ?_⟩ <;> try (exfalso; first | omega | exact absurd h (by decide) | exact h rfl)) | (refine ⟨rfl, _, radd_h, ([(⟨s.seller, s.fee⟩ : Share)], [(⟨s.seller, s.paid - s.fee⟩ : Share)] ++ idxK (cutOf m l rides s) (cutOf m l rides s).length), (by show ([(⟨s.seller, s.fee⟩ : Share)].length ≤ 100000 ∧ ([(⟨s.seller, s.paid - s.fee⟩ : Share)] ++ idxK (cutOf m l rides s) (cutOf m l rides s).length).length ≤ 100000); rw [List.length_append, idxK_len]; simp only [List.length_cons, List.length_nil]; omega), leVs_of_eq rfl, trivial, ?_⟩; show norm (shift _ (addT [(⟨s.seller, s.fee⟩ : Share)] ([(⟨s.seller, s.paid - s.fee⟩ : Share)] ++ idxK (cutOf m l rides s) (cutOf m l rides s).length))) _; rw [hadd]) | fail | fail)
      all_goals exact ⟨[], rfl, trivial, rfl⟩
theorem rof_h : Holds Try.prog 19 rofS := holds_of mix Try.func19 rofLow (fun _ => rfl) rofV

end Go.Proofs.Ytbglmocgijlomaa
