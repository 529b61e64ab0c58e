/- Revenue: the shares of a sale. -/
import Derived.Test.YtbglmocgijlomaaTH
namespace Go.Proofs.Ytbglmocgijlomaa
open Go.RowKit

/-! skiarea/revenue.Of -/
def ofIr : IFn := ⟨69, [.tmp 8],
  (.seq (.ops [
    ⟨(some 4), .box, [.tmp 0], none⟩,
    ⟨(some 7), .box, [.tmp 3], none⟩,
    ⟨(some 8), .mov, [.const (.slice none 0 0)], none⟩] false)
  (.seq (.ops [
    ⟨(some 17), .faddr 2, [.tmp 7], none⟩,
    ⟨(some 18), .load 1 false, [.tmp 17], none⟩,
    ⟨(some 19), .faddr 5, [.tmp 7], none⟩,
    ⟨(some 20), .load 1 false, [.tmp 19], none⟩,
    ⟨(some 21), .build [.int .i64 0, .int .i64 0] [(0, 1), (1, 1)], [.tmp 18, .tmp 20], none⟩,
    ⟨(some 22), .buildOwn 56 2, [.tmp 21], none⟩,
    ⟨(some 9), .mov, [.tmp 22], none⟩] false)
  (.seq (.ops [
    ⟨(some 23), .faddr 4, [.tmp 7], none⟩,
    ⟨(some 24), .load 1 false, [.tmp 23], none⟩,
    ⟨(some 25), .faddr 5, [.tmp 7], none⟩,
    ⟨(some 26), .load 1 false, [.tmp 25], none⟩,
    ⟨(some 27), .bin .sub .i64 false, [.tmp 24, .tmp 26], none⟩,
    ⟨(some 10), .mov, [.tmp 27], none⟩] false)
  (.seq (.ops [
    ⟨(some 29), .mov, [.tmp 10], none⟩,
    ⟨(some 30), .load 4 true, [.tmp 4], none⟩,
    ⟨(some 31), .mov, [.tmp 1], none⟩,
    ⟨(some 32), .mov, [.tmp 2], none⟩,
    ⟨(some 33), .faddr 0, [.tmp 7], none⟩,
    ⟨(some 34), .load 1 false, [.tmp 33], none⟩,
    ⟨(some 35), .call 15, [.tmp 30, .tmp 31, .tmp 32, .tmp 34], none⟩,
    ⟨(some 36), .call 33, [.tmp 29, .tmp 35], none⟩,
    ⟨(some 28), .mov, [.tmp 36], none⟩,
    ⟨(some 37), .extract 0, [.tmp 28], none⟩,
    ⟨(some 38), .extract 1, [.tmp 28], none⟩,
    ⟨(some 11), .mov, [.tmp 37], none⟩,
    ⟨(some 12), .mov, [.tmp 38], none⟩] false)
  (.seq (.seq (.ops [
    ⟨(some 39), .mov, [.tmp 12], none⟩,
    ⟨(some 40), .cmp .neq, [.tmp 39, .const (.int .i64 0)], none⟩] false)
  (.cond (.tmp 40)
    (.ops [
      ⟨(some 41), .mov, [.tmp 9], none⟩,
      ⟨(some 42), .faddr 2, [.tmp 7], none⟩,
      ⟨(some 43), .load 1 false, [.tmp 42], none⟩,
      ⟨(some 44), .mov, [.tmp 10], none⟩,
      ⟨(some 45), .build [.int .i64 0, .int .i64 0] [(0, 1), (1, 1)], [.tmp 43, .tmp 44], none⟩,
      ⟨(some 46), .buildSl 56 2, [.tmp 45], none⟩,
      ⟨(some 47), .append 56 2 16, [.tmp 41, .tmp 46], none⟩,
      ⟨(some 9), .mov, [.tmp 47], none⟩] false)
    .skip))
  (.seq (.seq (.ops [
    ⟨(some 48), .mov, [.tmp 11], none⟩,
    ⟨(some 49), .len, [.tmp 48], none⟩,
    ⟨(some 50), .mov, [.const (.int .i64 0)], none⟩] false)
  (.block 0
    (.loop
      (.seq (.ops [
        ⟨(some 51), .cmp .lss, [.tmp 50, .tmp 49], none⟩] false)
      (.seq (.cond (.tmp 51)
        .skip
        (.exit 0))
      (.seq (.block 1
        (.seq (.ops [
          ⟨(some 52), .mov, [.tmp 50], none⟩,
          ⟨(some 53), .idx 1, [.tmp 48, .tmp 50], none⟩,
          ⟨(some 54), .load 1 false, [.tmp 53], none⟩,
          ⟨(some 13), .mov, [.tmp 52], none⟩,
          ⟨(some 14), .mov, [.tmp 54], none⟩] false)
        (.ops [
          ⟨(some 55), .mov, [.tmp 9], none⟩,
          ⟨(some 56), .mov, [.tmp 13], none⟩,
          ⟨(some 57), .bin .add .i64 false, [.tmp 56, .const (.int .i64 1)], none⟩,
          ⟨(some 58), .mov, [.tmp 14], none⟩,
          ⟨(some 59), .build [.int .i64 0, .int .i64 0] [(0, 1), (1, 1)], [.tmp 57, .tmp 58], none⟩,
          ⟨(some 60), .buildSl 56 2, [.tmp 59], none⟩,
          ⟨(some 61), .append 56 2 16, [.tmp 55, .tmp 60], none⟩,
          ⟨(some 9), .mov, [.tmp 61], none⟩] false)))
      (.ops [
        ⟨(some 62), .bin .add .i64 false, [.tmp 50, .const (.int .i64 1)], none⟩,
        ⟨(some 50), .mov, [.tmp 62], none⟩] false)))))))
  (.seq (.ops [
    ⟨(some 64), .mov, [.tmp 9], none⟩,
    ⟨(some 65), .callo 34, [.tmp 64, .const (.slice none 0 0)], none⟩,
    ⟨(some 63), .mov, [.tmp 65], none⟩,
    ⟨(some 66), .extract 0, [.tmp 63], none⟩,
    ⟨(some 67), .extract 1, [.tmp 63], none⟩,
    ⟨(some 15), .mov, [.tmp 66], none⟩,
    ⟨(some 16), .mov, [.tmp 67], none⟩] false)
  (.seq (.ops [
    ⟨(some 68), .mov, [.tmp 15], none⟩,
    ⟨(some 8), .mov, [.tmp 68], none⟩] false)
  .ret))))))))⟩
theorem ofLow : lowF Try.prog { owns := [(22, 56)], gives := [65] } Try.f18 = some ofIr := by kernel_rfl
def ofS : Spec := ⟨Mp × List Tariff × List Ride × Sale, fun p => [aM p.1, L 2 (p.2.1.map encT), L 7 (p.2.2.1.map encD), aE p.2.2.2], fun p => OfP p.1 p.2.1 p.2.2.1 p.2.2.2, fun p => L 2 ((ofL p.1 p.2.1 p.2.2.1 p.2.2.2).map encS), fun _ => []⟩
set_option maxHeartbeats 4000000 in
theorem ofV : fnV Try.prog ofIr ofS := by
  intro ⟨(m : Mp), (l : List Tariff), (rides : List Ride), (s : Sale)⟩ hx
  have h : OfP m l rides s := hx
  have hr := h.hr
  have hfee := h.fee
  have hpaid := h.paid
  have hpl8 := cutOf_len m l rides s
  have hpl1 : ((cutOf m l rides s).map e1).length = (cutOf m l rides s).length := List.length_map ..
  obtain ⟨hs1, hs2⟩ := sharesOf_ok h
  show vc _ _ _ _ ⟨argEnv 0 [aM m, L 2 (l.map encT), L 7 (rides.map encD), aE s], [], 0⟩
  by_cases hE0 : chkF (restOf s) (ptsOf m l rides s) = 0
  · have hE := hE0
    have hsh : [(⟨s.seller, s.fee⟩ : Share)] ++ idxK (cutOf m l rides s) (cutOf m l rides s).length = sharesOf m l rides s := by unfold sharesOf moreOf; rw [if_pos hE]; rfl
    obtain ⟨e2, hadd⟩ := ofT (a := [(⟨s.seller, s.fee⟩ : Share)] ++ idxK (cutOf m l rides s) (cutOf m l rides s).length) (b := []) (by rw [List.append_nil]; exact hsh)
    repeat' ((conv => whnf); first | (refine ⟨fun h => ?_, fun h => ?_⟩ <;> try (exfalso; first | omega | exact absurd h (by decide) | exact h rfl)) | (refine ⟨_, points_h, (m, l, rides, s.serial), (by show (okM m ∧ l.length ≤ 1000000) ∧ Rates l ∧ rides.length ≤ 100000; exact ⟨⟨h.hm, h.ll⟩, h.hR, by omega⟩), leVs_of_eq rfl, .inl rfl, rfl, ?_⟩; show norm (L 1 ((ptsOf m l rides s).map e1)) _) | (refine ⟨_, split_h, (s.paid - s.fee, ptsOf m l rides s), cutOf_bnd, leVs_of_eq rfl, .inl rfl, rfl, ?_⟩; show norm (splT (s.paid - s.fee) (ptsOf m l rides s)) _; rw [splOf, hE]) | refine ⟨⟨by omega, by omega⟩, ?_⟩ | (refine ⟨⟨by simp only [List.length_cons, List.length_nil]; omega, by simp only [List.length_cons, List.length_nil]; omega⟩, ?_⟩) | fail | fail)
    refine ⟨Nat × (List (List CV)), fun xq => ⟨[(9, .osl 0), (48, L 1 ((cutOf m l rides s).map e1)), (49, I ((cutOf m l rides s).map e1).length), (50, I xq.1)], [(0, .row 56 2 xq.2)], 1⟩, fun xq => xq.1 ≤ (cutOf m l rides s).length ∧ xq.2 = ([(⟨s.seller, s.fee⟩ : Share)] ++ idxK (cutOf m l rides s) xq.1).map encS, fun xq => (cutOf m l rides s).length - xq.1, ⟨(0, _), ?_, [(0, 2)], ⟨⟨rfl, rfl⟩, ⟨⟨rfl, rfl⟩, ⟨⟨rfl, rfl⟩, ⟨⟨rfl, rfl⟩, trivial⟩⟩⟩⟩, ⟨⟨rfl, rfl, rfl⟩, trivial⟩, rfl, rfl, rfl⟩, ?_⟩
    · (try dsimp only); exact ⟨Nat.zero_le _, rfl⟩
    rintro ⟨k, es⟩ hk
    obtain ⟨hk, rfl⟩ : k ≤ (cutOf m l rides s).length ∧ es = ([(⟨s.seller, s.fee⟩ : Share)] ++ idxK (cutOf m l rides s) k).map encS := hk
    (try dsimp only)
    have hel : (([(⟨s.seller, s.fee⟩ : Share)] ++ idxK (cutOf m l rides s) k).map encS).length = ([(⟨s.seller, s.fee⟩ : Share)] : List Share).length + k := by rw [List.length_map, List.length_append, idxK_len]
    by_cases hkl : k < (cutOf m l rides s).length
    · obtain ⟨x, hx⟩ := getElem_some hkl
      have hst : ([(⟨s.seller, s.fee⟩ : Share)] ++ idxK (cutOf m l rides s) (k + 1)).map encS = ([(⟨s.seller, s.fee⟩ : Share)] ++ idxK (cutOf m l rides s) k).map encS ++ [encS ⟨(k : Int) + 1, x⟩] := by rw [idxK_snoc hx, ← List.append_assoc, List.map_append]; rfl
      repeat' ((conv => whnf); first | (refine ⟨fun h => ?_, fun h => ?_⟩ <;> try (exfalso; first | omega | exact absurd h (by decide) | exact h rfl)) | (refine ⟨by omega, fun r hrr => ?_⟩; first | ((have hre : r = e1 x := by (first | exact get_row hrr hx | fail)); subst hre)) | (refine ⟨(k + 1, _), ⟨?_, by (try dsimp only); omega⟩, [(0, 1)], ⟨⟨rfl, rfl⟩, ⟨⟨rfl, rfl⟩, ⟨⟨rfl, rfl⟩, ⟨⟨rfl, rfl⟩, trivial⟩⟩⟩⟩, ⟨⟨rfl, rfl, rfl⟩, trivial⟩, rfl, rfl, rfl⟩; (try dsimp only); exact ⟨by omega, hst.symm⟩) | refine ⟨⟨by omega, by omega⟩, ?_⟩ | (refine ⟨⟨by (simp only [List.length_cons, List.length_nil] at hel; simp only [List.length_cons, List.length_nil]; omega), by (simp only [List.length_cons, List.length_nil] at hel; simp only [List.length_cons, List.length_nil]; omega)⟩, ?_⟩) | (refine ⟨⟨by simp only [List.length_cons, List.length_nil]; omega, by simp only [List.length_cons, List.length_nil]; omega⟩, ?_⟩) | fail)
    · have hkn : k = (cutOf m l rides s).length := by omega
      subst hkn
      repeat' ((conv => whnf); first | (refine ⟨fun h => ?_, fun h => ?_⟩ <;> try (exfalso; first | omega | exact absurd h (by decide) | exact h rfl)) | (refine ⟨rfl, _, add_h, (([(⟨s.seller, s.fee⟩ : Share)] ++ idxK (cutOf m l rides s) (cutOf m l rides s).length), []), (by show (([(⟨s.seller, s.fee⟩ : Share)] ++ idxK (cutOf m l rides s) (cutOf m l rides s).length).length ≤ 100000 ∧ ([] : List Share).length ≤ 100000) ∧ ∀ x ∈ ([(⟨s.seller, s.fee⟩ : Share)] ++ idxK (cutOf m l rides s) (cutOf m l rides s).length) ++ [], okO x; rw [List.append_nil, hsh]; exact ⟨⟨by omega, by decide⟩, hs2⟩), ⟨leV_refl _, (show leV (.c .nil) (L 2 (([] : List Share).map encS)) from rfl), trivial⟩, trivial, ?_⟩; show norm (shift _ (addT ([(⟨s.seller, s.fee⟩ : Share)] ++ idxK (cutOf m l rides s) (cutOf m l rides s).length) [])) _; rw [hadd]) | fail | fail)
      all_goals exact ⟨[], rfl, trivial, rfl⟩
  · have hsh : [(⟨s.seller, s.fee⟩ : Share), ⟨s.seller, s.paid - s.fee⟩] ++ idxK (cutOf m l rides s) (cutOf m l rides s).length = sharesOf m l rides s := by unfold sharesOf moreOf; rw [if_neg hE0]; rfl
    obtain ⟨e2, hadd⟩ := ofT (a := [(⟨s.seller, s.fee⟩ : Share), ⟨s.seller, s.paid - s.fee⟩] ++ idxK (cutOf m l rides s) (cutOf m l rides s).length) (b := []) (by rw [List.append_nil]; exact hsh)
    obtain ⟨e, hE⟩ : ∃ e, chkF (restOf s) (ptsOf m l rides s) = e := ⟨_, rfl⟩
    rw [hE] at hE0
    repeat' ((conv => whnf); first | (refine ⟨fun h => ?_, fun h => ?_⟩ <;> try (exfalso; first | omega | exact absurd h (by decide) | exact h rfl)) | (refine ⟨_, points_h, (m, l, rides, s.serial), (by show (okM m ∧ l.length ≤ 1000000) ∧ Rates l ∧ rides.length ≤ 100000; exact ⟨⟨h.hm, h.ll⟩, h.hR, by omega⟩), leVs_of_eq rfl, .inl rfl, rfl, ?_⟩; show norm (L 1 ((ptsOf m l rides s).map e1)) _) | (refine ⟨_, split_h, (s.paid - s.fee, ptsOf m l rides s), cutOf_bnd, leVs_of_eq rfl, .inl rfl, rfl, ?_⟩; show norm (splT (s.paid - s.fee) (ptsOf m l rides s)) _; rw [splOf, hE]) | refine ⟨⟨by omega, by omega⟩, ?_⟩ | (refine ⟨⟨by simp only [List.length_cons, List.length_nil]; omega, by simp only [List.length_cons, List.length_nil]; omega⟩, ?_⟩) | fail | fail)
    refine ⟨Nat × (List (List CV)), fun xq => ⟨[(9, .osl 0), (48, L 1 ((cutOf m l rides s).map e1)), (49, I ((cutOf m l rides s).map e1).length), (50, I xq.1)], [(0, .row 56 2 xq.2)], 1⟩, fun xq => xq.1 ≤ (cutOf m l rides s).length ∧ xq.2 = ([(⟨s.seller, s.fee⟩ : Share), ⟨s.seller, s.paid - s.fee⟩] ++ idxK (cutOf m l rides s) xq.1).map encS, fun xq => (cutOf m l rides s).length - xq.1, ⟨(0, _), ?_, [(0, 3)], ⟨⟨rfl, rfl⟩, ⟨⟨rfl, rfl⟩, ⟨⟨rfl, rfl⟩, ⟨⟨rfl, rfl⟩, trivial⟩⟩⟩⟩, ⟨⟨rfl, rfl, rfl⟩, trivial⟩, rfl, rfl, rfl⟩, ?_⟩
    · (try dsimp only); exact ⟨Nat.zero_le _, rfl⟩
    rintro ⟨k, es⟩ hk
    obtain ⟨hk, rfl⟩ : k ≤ (cutOf m l rides s).length ∧ es = ([(⟨s.seller, s.fee⟩ : Share), ⟨s.seller, s.paid - s.fee⟩] ++ idxK (cutOf m l rides s) k).map encS := hk
    (try dsimp only)
    have hel : (([(⟨s.seller, s.fee⟩ : Share), ⟨s.seller, s.paid - s.fee⟩] ++ idxK (cutOf m l rides s) k).map encS).length = ([(⟨s.seller, s.fee⟩ : Share), ⟨s.seller, s.paid - s.fee⟩] : List Share).length + k := by rw [List.length_map, List.length_append, idxK_len]
    by_cases hkl : k < (cutOf m l rides s).length
    · obtain ⟨x, hx⟩ := getElem_some hkl
      have hst : ([(⟨s.seller, s.fee⟩ : Share), ⟨s.seller, s.paid - s.fee⟩] ++ idxK (cutOf m l rides s) (k + 1)).map encS = ([(⟨s.seller, s.fee⟩ : Share), ⟨s.seller, s.paid - s.fee⟩] ++ idxK (cutOf m l rides s) k).map encS ++ [encS ⟨(k : Int) + 1, x⟩] := by rw [idxK_snoc hx, ← List.append_assoc, List.map_append]; rfl
      repeat' ((conv => whnf); first | (refine ⟨fun h => ?_, fun h => ?_⟩ <;> try (exfalso; first | omega | exact absurd h (by decide) | exact h rfl)) | (refine ⟨by omega, fun r hrr => ?_⟩; first | ((have hre : r = e1 x := by (first | exact get_row hrr hx | fail)); subst hre)) | (refine ⟨(k + 1, _), ⟨?_, by (try dsimp only); omega⟩, [(0, 1)], ⟨⟨rfl, rfl⟩, ⟨⟨rfl, rfl⟩, ⟨⟨rfl, rfl⟩, ⟨⟨rfl, rfl⟩, trivial⟩⟩⟩⟩, ⟨⟨rfl, rfl, rfl⟩, trivial⟩, rfl, rfl, rfl⟩; (try dsimp only); exact ⟨by omega, hst.symm⟩) | refine ⟨⟨by omega, by omega⟩, ?_⟩ | (refine ⟨⟨by (simp only [List.length_cons, List.length_nil] at hel; simp only [List.length_cons, List.length_nil]; omega), by (simp only [List.length_cons, List.length_nil] at hel; simp only [List.length_cons, List.length_nil]; omega)⟩, ?_⟩) | (refine ⟨⟨by simp only [List.length_cons, List.length_nil]; omega, by simp only [List.length_cons, List.length_nil]; omega⟩, ?_⟩) | fail)
    · have hkn : k = (cutOf m l rides s).length := by omega
      subst hkn
      repeat' ((conv => whnf); first | (refine ⟨fun h => ?_, fun h => ?_⟩ <;> try (exfalso; first | omega | exact absurd h (by decide) | exact h rfl)) | (refine ⟨rfl, _, add_h, (([(⟨s.seller, s.fee⟩ : Share), ⟨s.seller, s.paid - s.fee⟩] ++ idxK (cutOf m l rides s) (cutOf m l rides s).length), []), (by show (([(⟨s.seller, s.fee⟩ : Share), ⟨s.seller, s.paid - s.fee⟩] ++ idxK (cutOf m l rides s) (cutOf m l rides s).length).length ≤ 100000 ∧ ([] : List Share).length ≤ 100000) ∧ ∀ x ∈ ([(⟨s.seller, s.fee⟩ : Share), ⟨s.seller, s.paid - s.fee⟩] ++ idxK (cutOf m l rides s) (cutOf m l rides s).length) ++ [], okO x; rw [List.append_nil, hsh]; exact ⟨⟨by omega, by decide⟩, hs2⟩), ⟨leV_refl _, (show leV (.c .nil) (L 2 (([] : List Share).map encS)) from rfl), trivial⟩, trivial, ?_⟩; show norm (shift _ (addT ([(⟨s.seller, s.fee⟩ : Share), ⟨s.seller, s.paid - s.fee⟩] ++ idxK (cutOf m l rides s) (cutOf m l rides s).length) [])) _; rw [hadd]) | fail | fail)
      all_goals exact ⟨[], rfl, trivial, rfl⟩
theorem of_h : Holds Try.prog 18 ofS := holds_of mix Try.func18 ofLow (fun _ => rfl) ofV

end Go.Proofs.Ytbglmocgijlomaa
