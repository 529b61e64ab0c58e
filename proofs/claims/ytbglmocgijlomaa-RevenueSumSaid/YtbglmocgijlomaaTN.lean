/- Revenue: the reference's shares of all sales. -/
import Derived.Test.YtbglmocgijlomaaTM
namespace Go.Proofs.Ytbglmocgijlomaa
open Go.RowKit

/-! skiarea/skiarearef35.All -/
def rallSIr : IFn := ⟨44, [.tmp 8, .tmp 9],
  (.seq (.ops [
    ⟨(some 4), .box, [.tmp 0], none⟩,
    ⟨(some 8), .mov, [.const (.slice none 0 0)], none⟩,
    ⟨(some 9), .mov, [.const (.int .i64 0)], none⟩] false)
  (.seq (.seq (.ops [
    ⟨(some 15), .mov, [.tmp 3], none⟩,
    ⟨(some 16), .call 12, [.tmp 15], none⟩,
    ⟨(some 10), .mov, [.tmp 16], none⟩] false)
  (.seq (.ops [
    ⟨(some 17), .mov, [.tmp 10], none⟩,
    ⟨(some 18), .cmp .neq, [.tmp 17, .const (.int .i64 0)], none⟩] false)
  (.cond (.tmp 18)
    (.seq (.ops [
      ⟨(some 19), .mov, [.tmp 10], none⟩,
      ⟨(some 8), .mov, [.const (.slice none 0 0)], none⟩,
      ⟨(some 9), .mov, [.tmp 19], none⟩] false)
    .ret)
    .skip)))
  (.seq (.ops [
    ⟨(some 11), .mov, [.const (.slice none 0 0)], none⟩] false)
  (.seq (.seq (.ops [
    ⟨(some 12), .mov, [.const (.int .i64 0)], none⟩] false)
  (.block 0
    (.loop
      (.seq (.seq (.ops [
        ⟨(some 20), .mov, [.tmp 12], none⟩,
        ⟨(some 21), .mov, [.tmp 3], none⟩,
        ⟨(some 22), .len, [.tmp 21], none⟩,
        ⟨(some 23), .cmp .lss, [.tmp 20, .tmp 22], none⟩] false)
      (.cond (.tmp 23)
        .skip
        (.exit 0)))
      (.seq (.block 1
        (.seq (.ops [
          ⟨(some 27), .mov, [.tmp 11], none⟩,
          ⟨(some 28), .load 4 true, [.tmp 4], none⟩,
          ⟨(some 29), .mov, [.tmp 1], none⟩,
          ⟨(some 30), .mov, [.tmp 2], none⟩,
          ⟨(some 31), .mov, [.tmp 3], none⟩,
          ⟨(some 32), .mov, [.tmp 12], none⟩,
          ⟨(some 33), .idx 6, [.tmp 31, .tmp 32], none⟩,
          ⟨(some 34), .load 6 true, [.tmp 33], none⟩,
          ⟨(some 35), .call 19, [.tmp 28, .tmp 29, .tmp 30, .tmp 34], none⟩,
          ⟨(some 36), .call 36, [.tmp 27, .tmp 35], none⟩,
          ⟨(some 26), .mov, [.tmp 36], none⟩,
          ⟨(some 37), .extract 0, [.tmp 26], none⟩,
          ⟨(some 38), .extract 1, [.tmp 26], none⟩,
          ⟨(some 13), .mov, [.tmp 37], none⟩,
          ⟨(some 14), .mov, [.tmp 38], none⟩] true)
        (.seq (.seq (.ops [
          ⟨(some 39), .mov, [.tmp 14], none⟩,
          ⟨(some 40), .cmp .neq, [.tmp 39, .const (.int .i64 0)], none⟩] false)
        (.cond (.tmp 40)
          (.seq (.ops [
            ⟨(some 41), .mov, [.tmp 14], none⟩,
            ⟨(some 8), .mov, [.const (.slice none 0 0)], none⟩,
            ⟨(some 9), .mov, [.tmp 41], none⟩] false)
          .ret)
          .skip))
        (.ops [
          ⟨(some 42), .mov, [.tmp 13], none⟩,
          ⟨(some 11), .mov, [.tmp 42], none⟩] false))))
      (.ops [
        ⟨(some 24), .mov, [.tmp 12], none⟩,
        ⟨(some 25), .bin .add .i64 false, [.tmp 24, .const (.int .i64 1)], none⟩,
        ⟨(some 12), .mov, [.tmp 25], none⟩] false))))))
  (.seq (.ops [
    ⟨(some 43), .mov, [.tmp 11], none⟩,
    ⟨(some 8), .mov, [.tmp 43], none⟩,
    ⟨(some 9), .mov, [.const (.int .i64 0)], none⟩] false)
  .ret)))))⟩
theorem rallSLow : lowF Try.prog {} Try.f21 = some rallSIr := by kernel_rfl
def rallSS : Spec := ⟨Mp × List Tariff × List Ride × List Sale, fun p => [aM p.1, L 2 (p.2.1.map encT), L 7 (p.2.2.1.map encD), L 6 (p.2.2.2.map encE)], fun p => BkP p.1 p.2.1 p.2.2.1 ∧ p.2.2.2.length ≤ 40, fun p => .tup [L 2 ((allR p.1 p.2.1 p.2.2.1 p.2.2.2).map encS), I (salesE p.2.2.2)], fun _ => []⟩
set_option maxHeartbeats 4000000 in
theorem rallSV : fnV Try.prog rallSIr rallSS := by
  intro ⟨(m : Mp), (l : List Tariff), (rides : List Ride), (sales : List Sale)⟩ hx
  obtain ⟨hb, h40⟩ : BkP m l rides ∧ sales.length ≤ 40 := hx
  have hl : (sales.map encE).length = sales.length := List.length_map ..
  show vc _ _ _ _ ⟨argEnv 0 [aM m, L 2 (l.map encT), L 7 (rides.map encD), L 6 (sales.map encE)], [], 0⟩
  by_cases hE0 : salesE sales = 0
  · have hE := hE0
    have hR : allR m l rides sales = fewL (allL m l rides sales) := if_pos hE
    have hok := sale_ok hE
    have hok' : ∀ k, ∀ x ∈ sales.take k, SaP x := fun k x hx => hok x (List.mem_of_mem_take hx)
    repeat' ((conv => whnf); first | (refine ⟨fun h => ?_, fun h => ?_⟩ <;> try (exfalso; first | omega | exact absurd h (by decide) | exact h rfl)) | (refine ⟨_, rsright_h, sales, (by show sales.length ≤ 1000000; omega), leVs_of_eq rfl, .inl rfl, rfl, ?_⟩; show norm (I (salesE sales)) _; rw [hE]) | fail | fail)
    refine ⟨Nat × CV, fun xq => ⟨[(1, L 2 (l.map encT)), (2, L 7 (rides.map encD)), (3, L 6 (sales.map encE)), (4, .bp 0 0), (11, .c xq.2), (12, I xq.1)], [(0, .box [L 2 (m.nodes.map encN), L 8 (m.lifts.map encL), L 7 (m.runs.map encU), L 1 (m.bases.map e1)])], 1⟩, fun xq => xq.1 ≤ sales.length ∧ leV (.c xq.2) (L 2 ((fewL (allL m l rides (sales.take xq.1))).map encS)), fun xq => sales.length - xq.1, ⟨(0, .nil), ?_, [(0, 0)], ⟨⟨rfl, rfl⟩, ⟨⟨rfl, rfl⟩, ⟨⟨rfl, rfl⟩, ⟨⟨rfl, rfl⟩, ⟨⟨rfl, rfl⟩, ⟨⟨rfl, rfl⟩, trivial⟩⟩⟩⟩⟩⟩, ⟨⟨rfl, rfl, rfl⟩, trivial⟩, rfl, rfl, rfl⟩, ?_⟩
    · (try dsimp only); exact ⟨Nat.zero_le _, rfl⟩
    rintro ⟨k, v⟩ hk
    obtain ⟨hk, hv⟩ : k ≤ sales.length ∧ leV (.c v) (L 2 ((fewL (allL m l rides (sales.take k))).map encS)) := hk
    (try dsimp only)
    have g := all_good hb (hok' k)
    have gl := g.len
    rw [List.length_take] at gl
    by_cases hkl : k < sales.length
    · obtain ⟨x, hx⟩ := getElem_some hkl
      have hof := hb.of (hok x (List.mem_of_getElem? hx))
      have hst := allL_snoc (m := m) (l := l) (rides := rides) hx
      have hln := of_len hof
      have hlm : ((ofL m l rides x).map encS).length = (ofL m l rides x).length := List.length_map ..
      have hA : ((fewL (allL m l rides (sales.take k))).map encS).length = (fewL (allL m l rides (sales.take k))).length := List.length_map ..
      have hAl := few_len (allL m l rides (sales.take k))
      have g2 := all_good hb (hok' (k + 1))
      have hpb := paid_bnd (hok' (k + 1))
      rw [List.length_take] at hpb
      have hadd := add_few (A := allL m l rides (sales.take k)) (B := ofL m l rides x) (by rw [← hst]; exact g2.pos) (by rw [← hst, g2.sum]; omega)
      rw [← hst] at hadd
      repeat' ((conv => whnf); first | (refine ⟨fun h => ?_, fun h => ?_⟩ <;> try (exfalso; first | omega | exact absurd h (by decide) | exact h rfl)) | (refine ⟨by omega, fun r hrr => ?_⟩; first | ((have hre : r = encE x := by (first | exact get_row hrr hx | fail)); subst hre)) | (refine ⟨_, rof_h, (m, l, rides, x), hof, leVs_of_eq rfl, .inl rfl, rfl, ?_⟩; show norm (L 2 ((ofL m l rides x).map encS)) _) | (refine ⟨_, radd_h, ((fewL (allL m l rides (sales.take k))), ofL m l rides x), (by show (fewL (allL m l rides (sales.take k))).length ≤ 100000 ∧ (ofL m l rides x).length ≤ 100000; omega), ⟨hv, leV_refl _, trivial⟩, .inl rfl, rfl, ?_⟩; show norm (addT (fewL (allL m l rides (sales.take k))) (ofL m l rides x)) _; rw [hadd]) | (refine ⟨(k + 1, .sl 2 ((fewL (allL m l rides (sales.take (k + 1)))).map encS)), ⟨?_, by (try dsimp only); omega⟩, [(0, 0)], ⟨⟨rfl, rfl⟩, ⟨⟨rfl, rfl⟩, ⟨⟨rfl, rfl⟩, ⟨⟨rfl, rfl⟩, ⟨⟨rfl, rfl⟩, ⟨⟨rfl, rfl⟩, trivial⟩⟩⟩⟩⟩⟩, ⟨⟨rfl, rfl, rfl⟩, trivial⟩, rfl, rfl, rfl⟩; (try dsimp only); exact ⟨by omega, leV_refl _⟩) | refine ⟨⟨by omega, by omega⟩, ?_⟩ | fail)
    · have hkn : sales.take k = sales := take_end hkl
      rw [hkn] at g
      have hpb := paid_bnd hok
      repeat' ((conv => whnf); first | (refine ⟨fun h => ?_, fun h => ?_⟩ <;> try (exfalso; first | omega | exact absurd h (by decide) | exact h rfl)) | fail | fail)
      all_goals (refine ⟨[], rfl, trivial, ?_⟩; show leR _ (.tup [L 2 ((allR m l rides sales).map encS), I (salesE sales)]); rw [hE, hR]; rw [hkn] at hv; exact ⟨hv, rfl, trivial⟩)
  · obtain ⟨e, hE⟩ : ∃ e, salesE sales = e := ⟨_, rfl⟩
    have hR : allR m l rides sales = [] := if_neg hE0
    rw [hE] at hE0
    repeat' ((conv => whnf); first | (refine ⟨fun h => ?_, fun h => ?_⟩ <;> try (exfalso; first | omega | exact absurd h (by decide) | exact h rfl)) | (refine ⟨_, rsright_h, sales, (by show sales.length ≤ 1000000; omega), leVs_of_eq rfl, .inl rfl, rfl, ?_⟩; show norm (I (salesE sales)) _; rw [hE]) | fail | fail)
    all_goals (refine ⟨[], rfl, trivial, ?_⟩; show leR _ (.tup [L 2 ((allR m l rides sales).map encS), I (salesE sales)]); rw [hE, hR]; exact ⟨rfl, rfl, trivial⟩)
theorem rallS_h : Holds Try.prog 21 rallSS := holds_of mix Try.func21 rallSLow (fun _ => rfl) rallSV

end Go.Proofs.Ytbglmocgijlomaa
