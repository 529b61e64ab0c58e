/- Revenue: the examples hold. -/
import Derived.Test.YtbglmocgijlomaaTO
namespace Go.Proofs.Ytbglmocgijlomaa
open Go.RowKit
theorem ofX_h : Holds Try.prog 18 ⟨Sale, fun s => [aM exM, .c (.sl 2 rawT), L 7 (exD.map encD), aE s], fun s => SaP s, fun s => L 2 ((ofL exM exT exD s).map encS), fun _ => []⟩ :=
  holds_deep of_h (fun s => (exM, exT, exD, s)) (fun s => [aM exM, .c (.sl 2 rawT), L 7 (exD.map encD), aE s]) (fun s => SaP s) (fun _ => ⟨.inl rfl, .inr ⟨_, _, rfl, rfl, raw_le⟩, .inl rfl, .inl rfl, trivial⟩) (fun _ h => exB.of h)
theorem allX_h : Holds Try.prog 20 ⟨List Sale, fun s => [aM exM, .c (.sl 2 rawT), L 7 (exD.map encD), L 6 (s.map encE)], fun s => s.length ≤ 40, fun s => .tup [L 2 ((allR exM exT exD s).map encS), I (salesE s)], fun _ => []⟩ :=
  holds_deep allS_h (fun s => (exM, exT, exD, s)) (fun s => [aM exM, .c (.sl 2 rawT), L 7 (exD.map encD), L 6 (s.map encE)]) (fun s => s.length ≤ 40) (fun _ => ⟨.inl rfl, .inr ⟨_, _, rfl, rfl, raw_le⟩, .inl rfl, .inl rfl, trivial⟩) (fun _ h => ⟨exB, h⟩)
theorem ptX_h : Holds Try.prog 15 ⟨Int, fun s => [aM exM, .c (.sl 2 rawT), L 7 (exD.map encD), I s], fun _ => True, fun s => L 1 ((ptsAll exM exT exD s).map e1), fun _ => []⟩ :=
  holds_deep points_h (fun s => (exM, exT, exD, s)) (fun s => [aM exM, .c (.sl 2 rawT), L 7 (exD.map encD), I s]) (fun _ => True) (fun _ => ⟨.inl rfl, .inr ⟨_, _, rfl, rfl, raw_le⟩, .inl rfl, .inl rfl, trivial⟩) (fun _ _ => ⟨⟨exB.hm, exB.ll⟩, exB.hR, by show exD.length ≤ 100000; decide⟩)

/-! skiarea/skiarealaw10.Small -/
def smallIr : IFn := ⟨12, [.cell 0 4 true],
  (.seq (.ops [
    ⟨(some 0), .alloc [.nil, .nil, .nil, .nil], [], none⟩] false)
  (.seq (.ops [
    ⟨(some 1), .build [.int .i64 0, .int .i64 0] [(0, 1), (1, 1)], [.const (.int .i64 1), .const (.int .i64 1000)], none⟩,
    ⟨(some 2), .build [.int .i64 0, .int .i64 0] [(0, 1), (1, 1)], [.const (.int .i64 2), .const (.int .i64 1500)], none⟩,
    ⟨(some 3), .build [.int .i64 0, .int .i64 0] [(0, 1), (1, 1)], [.const (.int .i64 3), .const (.int .i64 2000)], none⟩,
    ⟨(some 4), .buildSl 108 2, [.tmp 1, .tmp 2, .tmp 3], none⟩,
    ⟨(some 5), .build [.int .i64 0, .int .i64 0, .int .i64 0, .int .i64 0, .int .i64 0, .int .i64 0, .int .i64 0, .int .i64 0] [(0, 1), (1, 1), (2, 1), (3, 1), (4, 1), (5, 1), (6, 1), (7, 1)], [.const (.int .i64 1), .const (.int .i64 1), .const (.int .i64 1), .const (.int .i64 3), .const (.int .i64 2000), .const (.int .i64 5000), .const (.int .i64 4), .const (.int .i64 20)], none⟩,
    ⟨(some 6), .buildOwn 65 8, [.tmp 5], none⟩,
    ⟨(some 7), .build [.int .i64 0, .int .i64 0, .int .i64 0, .int .i64 0, .int .i64 0, .int .i64 0, .int .i64 0] [(0, 1), (1, 1), (2, 1), (3, 1), (4, 1), (5, 1), (6, 1)], [.const (.int .i64 11), .const (.int .i64 1), .const (.int .i64 3), .const (.int .i64 2), .const (.int .i64 2), .const (.int .i64 1), .const (.int .i64 900)], none⟩,
    ⟨(some 8), .build [.int .i64 0, .int .i64 0, .int .i64 0, .int .i64 0, .int .i64 0, .int .i64 0, .int .i64 0] [(0, 1), (1, 1), (2, 1), (3, 1), (4, 1), (5, 1), (6, 1)], [.const (.int .i64 12), .const (.int .i64 1), .const (.int .i64 2), .const (.int .i64 1), .const (.int .i64 1), .const (.int .i64 2), .const (.int .i64 1200)], none⟩,
    ⟨(some 9), .buildSl 110 7, [.tmp 7, .tmp 8], none⟩,
    ⟨(some 10), .buildSl 3 1, [.const (.int .i64 1)], none⟩,
    ⟨(some 11), .build [.nil, .nil, .nil, .nil] [(0, 1), (1, 1), (2, 1), (3, 1)], [.tmp 4, .tmp 6, .tmp 9, .tmp 10], none⟩,
    ⟨none, .store 4, [.tmp 0, .tmp 11], none⟩] false)
  .ret))⟩
theorem smallLow : lowF Try.prog { owns := [(6, 65)] } Try.f39 = some smallIr := by kernel_rfl
def smallS : Spec := ⟨Unit, fun _ => [], fun _ => True, fun _ => .agg [L 2 (smM.nodes.map encN), .osl 0, L 7 (smM.runs.map encU), L 1 (smM.bases.map e1)], fun _ => [.row 65 8 (smM.lifts.map encL)]⟩
theorem smallV : fnV Try.prog smallIr smallS := by
  intro _ _
  repeat' ((conv => whnf); first | (refine ⟨fun h => ?_, fun h => ?_⟩ <;> try (exfalso; first | omega | exact absurd h (by decide) | exact h rfl)) | fail | fail)
  all_goals exact ⟨[1], rfl, ⟨⟨rfl, _, _, _, rfl⟩, trivial⟩, ⟨rfl, rfl, rfl, rfl, trivial⟩⟩
theorem small_h : Holds Try.prog 39 smallS := holds_of mix Try.func39 smallLow (fun _ => rfl) smallV

/-! skiarea/skiarealaw35.example -/
def exampleIr : IFn := ⟨35, [.cell 0 6 true],
  (.seq (.ops [
    ⟨(some 0), .alloc [.nil, .nil, .nil, .nil, .nil, .nil], [], none⟩] false)
  (.seq (.ops [
    ⟨(some 5), .callo 39, [], none⟩,
    ⟨(some 1), .alloc [.nil, .nil, .nil, .nil], [], none⟩,
    ⟨none, .store 4, [.tmp 1, .tmp 5], none⟩] false)
  (.seq (.ops [
    ⟨(some 6), .faddr 1, [.tmp 1], none⟩,
    ⟨(some 7), .load 1 false, [.tmp 6], none⟩,
    ⟨(some 8), .build [.int .i64 0, .int .i64 0, .int .i64 0, .int .i64 0, .int .i64 0, .int .i64 0, .int .i64 0, .int .i64 0] [(0, 1), (1, 1), (2, 1), (3, 1), (4, 1), (5, 1), (6, 1), (7, 1)], [.const (.int .i64 2), .const (.int .i64 2), .const (.int .i64 2), .const (.int .i64 3), .const (.int .i64 500), .const (.int .i64 2500), .const (.int .i64 2), .const (.int .i64 10)], none⟩,
    ⟨(some 9), .buildSl 65 8, [.tmp 8], none⟩,
    ⟨(some 10), .append 65 8 64, [.tmp 7, .tmp 9], none⟩,
    ⟨(some 11), .faddr 1, [.tmp 1], none⟩,
    ⟨none, .store 1, [.tmp 11, .tmp 10], none⟩] false)
  (.seq (.ops [
    ⟨(some 12), .build [.int .i64 0, .int .i64 0, .int .i64 0, .nil] [(0, 1), (1, 1)], [.const (.int .i64 1), .const (.int .i64 15)], none⟩,
    ⟨(some 13), .build [.int .i64 0, .int .i64 0, .int .i64 0, .nil] [(0, 1), (1, 1)], [.const (.int .i64 2), .const (.int .i64 15)], none⟩,
    ⟨(some 14), .buildSl 79 4, [.tmp 12, .tmp 13], none⟩,
    ⟨(some 15), .build [.int .i64 0, .nil] [(1, 1)], [.tmp 14], none⟩,
    ⟨(some 16), .buildSl 82 2, [.tmp 15], none⟩,
    ⟨(some 2), .mov, [.tmp 16], none⟩] false)
  (.seq (.ops [
    ⟨(some 17), .build [.int .i64 0, .int .i64 0, .int .i64 0, .int .i64 0, .int .i64 0, .int .i64 0, .int .i64 0] [(0, 1), (1, 1), (2, 1), (3, 1), (4, 1), (5, 1), (6, 1)], [.const (.int .i64 1), .const (.int .i64 1), .const (.int .i64 7), .const (.int .i64 1), .const (.int .i64 1), .const (.int .i64 1), .const (.int .i64 5)], none⟩,
    ⟨(some 3), .alloc [.int .i64 0, .int .i64 0, .int .i64 0, .int .i64 0, .int .i64 0, .int .i64 0, .int .i64 0], [], none⟩,
    ⟨none, .store 7, [.tmp 3, .tmp 17], none⟩] false)
  (.seq (.ops [
    ⟨(some 18), .load 7 true, [.tmp 3], none⟩,
    ⟨(some 19), .load 7 true, [.tmp 3], none⟩,
    ⟨(some 20), .load 7 true, [.tmp 3], none⟩,
    ⟨(some 21), .buildOwn 51 7, [.tmp 18, .tmp 19, .tmp 20], none⟩,
    ⟨(some 4), .mov, [.tmp 21], none⟩] false)
  (.seq (.ops [
    ⟨(some 22), .mov, [.tmp 4], none⟩,
    ⟨(some 23), .mov, [.tmp 4], none⟩,
    ⟨(some 24), .idx 7, [.tmp 22, .const (.int .i64 1)], none⟩,
    ⟨(some 25), .faddr 1, [.tmp 24], none⟩,
    ⟨none, .store 1, [.tmp 25, .const (.int .i64 2)], none⟩,
    ⟨(some 26), .idx 7, [.tmp 23, .const (.int .i64 1)], none⟩,
    ⟨(some 27), .faddr 5, [.tmp 26], none⟩,
    ⟨none, .store 1, [.tmp 27, .const (.int .i64 2)], none⟩] false)
  (.seq (.ops [
    ⟨(some 28), .mov, [.tmp 4], none⟩,
    ⟨(some 29), .idx 7, [.tmp 28, .const (.int .i64 2)], none⟩,
    ⟨(some 30), .faddr 1, [.tmp 29], none⟩,
    ⟨none, .store 1, [.tmp 30, .const (.int .i64 3)], none⟩] false)
  (.seq (.seq (.sealc 10)
  (.seq (.sealc 4)
  (.ops [
    ⟨(some 31), .load 4 true, [.tmp 1], none⟩,
    ⟨(some 32), .mov, [.tmp 2], none⟩,
    ⟨(some 33), .mov, [.tmp 4], none⟩,
    ⟨(some 34), .build [.nil, .nil, .nil, .nil, .nil, .nil] [(0, 4), (4, 1), (5, 1)], [.tmp 31, .tmp 32, .tmp 33], none⟩,
    ⟨none, .store 6, [.tmp 0, .tmp 34], none⟩] false)))
  .ret)))))))))⟩
theorem exampleLow : lowF Try.prog { owns := [(21, 51)], gives := [5], seals := [(31, 10), (31, 4)] } Try.f24 = some exampleIr := by kernel_rfl
def exampleS : Spec := ⟨Unit, fun _ => [], fun _ => True, fun _ => .agg [L 2 (exM.nodes.map encN), L 8 (exM.lifts.map encL), L 7 (exM.runs.map encU), L 1 (exM.bases.map e1), .c (.sl 2 rawT), L 7 (exD.map encD)], fun _ => []⟩
set_option maxHeartbeats 4000000 in
theorem exampleV : fnV Try.prog exampleIr exampleS := by
  intro _ _
  repeat' ((conv => whnf); (try dsimp only [setL, List.map_cons, List.map_nil, List.take, List.drop, SV.cells, constV, shift, List.set, St.new, St.put, Int.reduceToNat, Nat.reduceAdd, Int.toNat_one, List.cons_append, List.nil_append, List.length_cons, List.length_nil]); first | refine ⟨rfl, _, small_h, (), trivial, leVs_of_eq rfl, trivial, ?_⟩ | refine ⟨⟨by decide, by decide⟩, ?_⟩ | (refine ⟨by decide, fun r hr => ?_⟩; obtain rfl : _ = r := Option.some.inj (show some _ = some r from hr); clear hr) | refine ⟨by decide, ?_⟩ | fail)
  all_goals exact ⟨[], rfl, trivial, ⟨rfl, rfl, rfl, rfl, rfl, rfl, trivial⟩⟩
theorem example_h : Holds Try.prog 24 exampleS := holds_of mix Try.func24 exampleLow (fun _ => rfl) exampleV

end Go.Proofs.Ytbglmocgijlomaa
