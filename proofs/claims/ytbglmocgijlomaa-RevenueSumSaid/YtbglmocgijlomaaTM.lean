/- Revenue: the shares of all sales. -/
import Derived.Test.YtbglmocgijlomaaTL
namespace Go.Proofs.Ytbglmocgijlomaa
open Go.RowKit

/-! skiarea/revenue.All -/
def allSIr : IFn := ⟨37, [.tmp 8, .tmp 9],
  (.seq (.ops [
    ⟨(some 4), .box, [.tmp 0], none⟩,
    ⟨(some 8), .mov, [.const (.slice none 0 0)], none⟩,
    ⟨(some 9), .mov, [.const (.int .i64 0)], none⟩] false)
  (.seq (.seq (.ops [
    ⟨(some 14), .mov, [.tmp 3], none⟩,
    ⟨(some 15), .call 11, [.tmp 14], none⟩,
    ⟨(some 10), .mov, [.tmp 15], none⟩] false)
  (.seq (.ops [
    ⟨(some 16), .mov, [.tmp 10], none⟩,
    ⟨(some 17), .cmp .neq, [.tmp 16, .const (.int .i64 0)], none⟩] false)
  (.cond (.tmp 17)
    (.seq (.ops [
      ⟨(some 18), .mov, [.tmp 10], none⟩,
      ⟨(some 8), .mov, [.const (.slice none 0 0)], none⟩,
      ⟨(some 9), .mov, [.tmp 18], none⟩] false)
    .ret)
    .skip)))
  (.seq (.ops [
    ⟨(some 11), .nilOwn 56 2, [], none⟩] false)
  (.seq (.seq (.ops [
    ⟨(some 19), .mov, [.tmp 3], none⟩,
    ⟨(some 20), .len, [.tmp 19], none⟩,
    ⟨(some 21), .mov, [.const (.int .i64 0)], none⟩] false)
  (.block 0
    (.loop
      (.seq (.ops [
        ⟨(some 22), .cmp .lss, [.tmp 21, .tmp 20], none⟩] false)
      (.seq (.cond (.tmp 22)
        .skip
        (.exit 0))
      (.seq (.block 1
        (.seq (.ops [
          ⟨(some 23), .idx 6, [.tmp 19, .tmp 21], none⟩,
          ⟨(some 24), .load 6 true, [.tmp 23], none⟩,
          ⟨(some 13), .alloc [.int .i64 0, .int .i64 0, .int .i64 0, .int .i64 0, .int .i64 0, .int .i64 0], [], none⟩,
          ⟨none, .store 6, [.tmp 13, .tmp 24], none⟩] false)
        (.ops [
          ⟨(some 25), .mov, [.tmp 11], none⟩,
          ⟨(some 26), .load 4 true, [.tmp 4], none⟩,
          ⟨(some 27), .mov, [.tmp 1], none⟩,
          ⟨(some 28), .mov, [.tmp 2], none⟩,
          ⟨(some 29), .load 6 true, [.tmp 13], none⟩,
          ⟨(some 30), .call 18, [.tmp 26, .tmp 27, .tmp 28, .tmp 29], none⟩,
          ⟨(some 31), .append 56 2 16, [.tmp 25, .tmp 30], none⟩,
          ⟨(some 11), .mov, [.tmp 31], none⟩] false)))
      (.ops [
        ⟨(some 32), .bin .add .i64 false, [.tmp 21, .const (.int .i64 1)], none⟩,
        ⟨(some 21), .mov, [.tmp 32], none⟩] false)))))))
  (.seq (.ops [
    ⟨(some 33), .mov, [.tmp 11], none⟩,
    ⟨(some 34), .callo 34, [.tmp 33, .const (.slice none 0 0)], none⟩,
    ⟨(some 35), .extract 0, [.tmp 34], none⟩,
    ⟨(some 36), .extract 1, [.tmp 34], none⟩,
    ⟨(some 8), .mov, [.tmp 35], none⟩,
    ⟨(some 9), .mov, [.tmp 36], none⟩] false)
  .ret)))))⟩
theorem allSLow : lowF Try.prog { owns := [(11, 56)], gives := [34] } Try.f20 = some allSIr := by kernel_rfl
def allSS : Spec := ⟨Mp × List Tariff × List Ride × List Sale, fun p => [aM p.1, L 2 (p.2.1.map encT), L 7 (p.2.2.1.map encD), L 6 (p.2.2.2.map encE)], fun p => BkP p.1 p.2.1 p.2.2.1 ∧ p.2.2.2.length ≤ 40, fun p => .tup [L 2 ((allR p.1 p.2.1 p.2.2.1 p.2.2.2).map encS), I (salesE p.2.2.2)], fun _ => []⟩
set_option maxHeartbeats 4000000 in
theorem allSV : fnV Try.prog allSIr allSS := by
  intro ⟨(m : Mp), (l : List Tariff), (rides : List Ride), (sales : List Sale)⟩ hx
  obtain ⟨hb, h40⟩ : BkP m l rides ∧ sales.length ≤ 40 := hx
  have hl : (sales.map encE).length = sales.length := List.length_map ..
  show vc _ _ _ _ ⟨argEnv 0 [aM m, L 2 (l.map encT), L 7 (rides.map encD), L 6 (sales.map encE)], [], 0⟩
  by_cases hE0 : salesE sales = 0
  · have hE := hE0
    have hR : allR m l rides sales = fewL (allL m l rides sales) := if_pos hE
    have hok := sale_ok hE
    have hok' : ∀ k, ∀ x ∈ sales.take k, SaP x := fun k x hx => hok x (List.mem_of_mem_take hx)
    repeat' ((conv => whnf); first | (refine ⟨fun h => ?_, fun h => ?_⟩ <;> try (exfalso; first | omega | exact absurd h (by decide) | exact h rfl)) | (refine ⟨_, sright_h, sales, (by show sales.length ≤ 1000000; omega), leVs_of_eq rfl, .inl rfl, rfl, ?_⟩; show norm (I (salesE sales)) _; rw [hE]) | fail | fail)
    refine ⟨Nat × (List (List CV)), fun xq => ⟨[(1, L 2 (l.map encT)), (2, L 7 (rides.map encD)), (4, .bp 0 0), (11, .osl 1), (19, L 6 (sales.map encE)), (20, I (sales.map encE).length), (21, I xq.1)], [(0, .box [L 2 (m.nodes.map encN), L 8 (m.lifts.map encL), L 7 (m.runs.map encU), L 1 (m.bases.map e1)]), (1, .row 56 2 xq.2)], 2⟩, fun xq => xq.1 ≤ sales.length ∧ xq.2 = (allL m l rides (sales.take xq.1)).map encS, fun xq => sales.length - xq.1, ⟨(0, _), ?_, [(0, 0), (1, 1)], ⟨⟨rfl, rfl⟩, ⟨⟨rfl, rfl⟩, ⟨⟨rfl, rfl⟩, ⟨⟨rfl, rfl⟩, ⟨⟨rfl, rfl⟩, ⟨⟨rfl, rfl⟩, ⟨⟨rfl, rfl⟩, trivial⟩⟩⟩⟩⟩⟩⟩, ⟨⟨rfl, rfl, rfl⟩, ⟨⟨rfl, rfl, rfl⟩, trivial⟩⟩, rfl, rfl, rfl⟩, ?_⟩
    · (try dsimp only); exact ⟨Nat.zero_le _, rfl⟩
    rintro ⟨k, es⟩ hk
    obtain ⟨hk, rfl⟩ : k ≤ sales.length ∧ es = (allL m l rides (sales.take k)).map encS := hk
    (try dsimp only)
    have g := all_good hb (hok' k)
    have gl := g.len
    rw [List.length_take] at gl
    by_cases hkl : k < sales.length
    · obtain ⟨x, hx⟩ := getElem_some hkl
      have hof := hb.of (hok x (List.mem_of_getElem? hx))
      have hst := allL_snoc (m := m) (l := l) (rides := rides) hx
      have hln := of_len hof
      have hlm : ((ofL m l rides x).map encS).length = (ofL m l rides x).length := List.length_map ..
      have hel : ((allL m l rides (sales.take k)).map encS).length = (allL m l rides (sales.take k)).length := List.length_map ..
      repeat' ((conv => whnf); first | (refine ⟨fun h => ?_, fun h => ?_⟩ <;> try (exfalso; first | omega | exact absurd h (by decide) | exact h rfl)) | (refine ⟨by omega, fun r hrr => ?_⟩; first | ((have hre : r = encE x := by (first | exact get_row hrr hx | fail)); subst hre)) | (refine ⟨_, of_h, (m, l, rides, x), hof, leVs_of_eq rfl, .inl rfl, rfl, ?_⟩; show norm (L 2 ((ofL m l rides x).map encS)) _) | (refine ⟨(k + 1, _), ⟨?_, by (try dsimp only); omega⟩, [(0, 0), (1, 3)], ⟨⟨rfl, rfl⟩, ⟨⟨rfl, rfl⟩, ⟨⟨rfl, rfl⟩, ⟨⟨rfl, rfl⟩, ⟨⟨rfl, rfl⟩, ⟨⟨rfl, rfl⟩, ⟨⟨rfl, rfl⟩, trivial⟩⟩⟩⟩⟩⟩⟩, ⟨⟨rfl, rfl, rfl⟩, ⟨⟨rfl, rfl, rfl⟩, trivial⟩⟩, rfl, rfl, rfl⟩; (try dsimp only); exact ⟨by omega, by rw [hst, List.map_append]⟩) | refine ⟨⟨by omega, by omega⟩, ?_⟩ | fail)
    · have hkn : sales.take k = sales := take_end hkl
      rw [hkn] at g
      have hpb := paid_bnd hok
      rw [hkn]
      repeat' ((conv => whnf); first | (refine ⟨fun h => ?_, fun h => ?_⟩ <;> try (exfalso; first | omega | exact absurd h (by decide) | exact h rfl)) | (refine ⟨rfl, _, add_h, (allL m l rides sales, []), (by show ((allL m l rides sales).length ≤ 100000 ∧ ([] : List Share).length ≤ 100000) ∧ ∀ x ∈ allL m l rides sales ++ [], okO x; rw [List.append_nil]; exact ⟨⟨by have := g.len; omega, by decide⟩, fun x hx => okO_of (by have := g.op x hx; omega)⟩), ⟨leV_refl _, (show leV (.c .nil) (L 2 (([] : List Share).map encS)) from rfl), trivial⟩, trivial, ?_⟩; show norm (shift _ (addT (allL m l rides sales) [])) _; rw [add_all g.pos (by rw [g.sum]; omega)]) | fail | fail)
      all_goals (refine ⟨[], rfl, trivial, ?_⟩; show leR _ (.tup [L 2 ((allR m l rides sales).map encS), I (salesE sales)]); rw [hE, hR]; exact ⟨leV_refl _, rfl, trivial⟩)
  · obtain ⟨e, hE⟩ : ∃ e, salesE sales = e := ⟨_, rfl⟩
    have hR : allR m l rides sales = [] := if_neg hE0
    rw [hE] at hE0
    repeat' ((conv => whnf); first | (refine ⟨fun h => ?_, fun h => ?_⟩ <;> try (exfalso; first | omega | exact absurd h (by decide) | exact h rfl)) | (refine ⟨_, sright_h, sales, (by show sales.length ≤ 1000000; omega), leVs_of_eq rfl, .inl rfl, rfl, ?_⟩; show norm (I (salesE sales)) _; rw [hE]) | fail | fail)
    all_goals (refine ⟨[], rfl, trivial, ?_⟩; show leR _ (.tup [L 2 ((allR m l rides sales).map encS), I (salesE sales)]); rw [hE, hR]; exact ⟨rfl, rfl, trivial⟩)
theorem allS_h : Holds Try.prog 20 allSS := holds_of mix Try.func20 allSLow (fun _ => rfl) allSV

end Go.Proofs.Ytbglmocgijlomaa
