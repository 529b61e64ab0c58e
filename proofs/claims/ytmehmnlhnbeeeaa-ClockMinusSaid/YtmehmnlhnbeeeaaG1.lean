/- The clock: the examples. -/
import Derived.Test.YtmehmnlhnbeeeaaF7
namespace Go.Proofs.Ytmehmnlhnbeeeaa
open Go.RowKit

def exH : List Hours := [⟨3, 28800, 57600⟩]
def exL : List Ivl := [⟨5, 9⟩, ⟨20, 30⟩, ⟨9, 12⟩, ⟨7, 7⟩, ⟨40, 35⟩]
def exM : List Ivl := [⟨5, 12⟩, ⟨20, 30⟩]
def exA : List Ivl := [⟨0, 100⟩]
def exB : List Ivl := [⟨10, 20⟩, ⟨90, 200⟩]
def exD : List Ivl := [⟨0, 10⟩, ⟨20, 90⟩]
theorem on3 {w : Int} (h0 : 0 ≤ w) (h1 : w < 7) : onF 3 w ↔ w = 0 ∨ w = 1 := by
  have h : w = 0 ∨ w = 1 ∨ w = 2 ∨ w = 3 ∨ w = 4 ∨ w = 5 ∨ w = 6 := by omega
  rcases h with rfl | rfl | rfl | rfl | rfl | rfl | rfl <;> decide
theorem inEx {v : Int} : inP exH v ↔ isT v ∧ (v / 86400 % 7 = 0 ∨ v / 86400 % 7 = 1) ∧ 28800 ≤ v % 86400 ∧ v % 86400 < 57600 := by
  unfold inP exH open1
  simp only [List.mem_singleton, exists_eq_left]
  rw [on3 (by omega) (by omega)]
theorem eN1 : SV.tup [I (nextR exH 57600).1, B (nextR exH 57600).2] = .tup [I 115200, B true] := by
  rw [next_some (u := 115200) ⟨by omega, inEx.2 ⟨by decide, by decide, by decide, by decide⟩⟩ fun v h1 h2 hc => by have := (inEx.1 hc).2; omega]
theorem eN2 : SV.tup [I (nextR exH 144000).1, B (nextR exH 144000).2] = .tup [I 633600, B true] := by
  rw [next_some (u := 633600) ⟨by omega, inEx.2 ⟨by decide, by decide, by decide, by decide⟩⟩ fun v h1 h2 hc => by have := (inEx.1 hc).2; omega]
theorem eN3 : SV.tup [I (nextR [] 0).1, B (nextR [] 0).2] = .tup [I 0, B false] := by
  rw [next_none fun v _ hc => by obtain ⟨_, x, hx, _⟩ := hc; simp at hx]
theorem eM1 : L 2 ((mergeF exL).map encV) = L 2 (exM.map encV) := by kernel_rfl
theorem eD1 : L 2 ((minusF exA exB).map encV) = L 2 (exD.map encV) := by kernel_rfl
theorem eL1 : I (lenF exM) = I 17 := by kernel_rfl
theorem eI1 : B (decide (inP exH 28800)) = B true := by rw [decide_eq_true (inEx.2 ⟨by decide, by decide, by decide, by decide⟩)]
theorem eI2 : B (decide (inP exH 144000)) = B false := by rw [decide_eq_false fun hc => by have := (inEx.1 hc).2; omega]
theorem eR1 : B (rightF exH) = B true := by kernel_rfl

/-! skiarea/skiarealaw02.alive -/
def aliveIr : IFn := ⟨106, [.tmp 0],
  (.seq (.ops [
    ⟨(some 0), .mov, [.const (.bool false)], none⟩] false)
  (.seq (.ops [
    ⟨(some 10), .build [.int .i64 0, .int .i64 0, .int .i64 0] [(0, 1), (1, 1), (2, 1)], [.const (.int .i64 3), .const (.int .i64 28800), .const (.int .i64 57600)], none⟩,
    ⟨(some 11), .buildSl 42 3, [.tmp 10], none⟩,
    ⟨(some 1), .mov, [.tmp 11], none⟩] false)
  (.seq (.ops [
    ⟨(some 13), .mov, [.tmp 1], none⟩,
    ⟨(some 14), .call 22, [.tmp 13, .const (.int .i64 57600)], none⟩,
    ⟨(some 12), .mov, [.tmp 14], none⟩,
    ⟨(some 15), .extract 0, [.tmp 12], none⟩,
    ⟨(some 16), .extract 1, [.tmp 12], none⟩,
    ⟨(some 2), .mov, [.tmp 15], none⟩,
    ⟨(some 3), .mov, [.tmp 16], none⟩] false)
  (.seq (.ops [
    ⟨(some 18), .mov, [.tmp 1], none⟩,
    ⟨(some 19), .call 22, [.tmp 18, .const (.int .i64 144000)], none⟩,
    ⟨(some 17), .mov, [.tmp 19], none⟩,
    ⟨(some 20), .extract 0, [.tmp 17], none⟩,
    ⟨(some 21), .extract 1, [.tmp 17], none⟩,
    ⟨(some 4), .mov, [.tmp 20], none⟩,
    ⟨(some 5), .mov, [.tmp 21], none⟩] false)
  (.seq (.ops [
    ⟨(some 23), .call 22, [.const (.slice none 0 0), .const (.int .i64 0)], none⟩,
    ⟨(some 22), .mov, [.tmp 23], none⟩,
    ⟨(some 24), .extract 0, [.tmp 22], none⟩,
    ⟨(some 25), .extract 1, [.tmp 22], none⟩,
    ⟨(some 6), .mov, [.tmp 24], none⟩,
    ⟨(some 7), .mov, [.tmp 25], none⟩] false)
  (.seq (.ops [
    ⟨(some 26), .build [.int .i64 0, .int .i64 0] [(0, 1), (1, 1)], [.const (.int .i64 5), .const (.int .i64 9)], none⟩,
    ⟨(some 27), .build [.int .i64 0, .int .i64 0] [(0, 1), (1, 1)], [.const (.int .i64 20), .const (.int .i64 30)], none⟩,
    ⟨(some 28), .build [.int .i64 0, .int .i64 0] [(0, 1), (1, 1)], [.const (.int .i64 9), .const (.int .i64 12)], none⟩,
    ⟨(some 29), .build [.int .i64 0, .int .i64 0] [(0, 1), (1, 1)], [.const (.int .i64 7), .const (.int .i64 7)], none⟩,
    ⟨(some 30), .build [.int .i64 0, .int .i64 0] [(0, 1), (1, 1)], [.const (.int .i64 40), .const (.int .i64 35)], none⟩,
    ⟨(some 31), .buildSl 39 2, [.tmp 26, .tmp 27, .tmp 28, .tmp 29, .tmp 30], none⟩,
    ⟨(some 32), .call 29, [.tmp 31], none⟩,
    ⟨(some 8), .mov, [.tmp 32], none⟩] false)
  (.seq (.ops [
    ⟨(some 33), .build [.int .i64 0, .int .i64 0] [(0, 1), (1, 1)], [.const (.int .i64 0), .const (.int .i64 100)], none⟩,
    ⟨(some 34), .buildSl 39 2, [.tmp 33], none⟩,
    ⟨(some 35), .build [.int .i64 0, .int .i64 0] [(0, 1), (1, 1)], [.const (.int .i64 10), .const (.int .i64 20)], none⟩,
    ⟨(some 36), .build [.int .i64 0, .int .i64 0] [(0, 1), (1, 1)], [.const (.int .i64 90), .const (.int .i64 200)], none⟩,
    ⟨(some 37), .buildSl 39 2, [.tmp 35, .tmp 36], none⟩,
    ⟨(some 38), .call 26, [.tmp 34, .tmp 37], none⟩,
    ⟨(some 9), .mov, [.tmp 38], none⟩] false)
  (.seq (.seq (.ops [
    ⟨(some 39), .call 12, [.const (.int .i64 86399)], none⟩,
    ⟨(some 40), .cmp .neq, [.tmp 39, .const (.int .i64 0)], none⟩,
    ⟨(some 41), .mov, [.tmp 40], none⟩,
    ⟨(some 42), .call 12, [.const (.int .i64 86400)], (some (41, false))⟩,
    ⟨(some 43), .cmp .neq, [.tmp 42, .const (.int .i64 1)], (some (41, false))⟩,
    ⟨(some 44), .pick, [.tmp 41, .const (.bool true), .tmp 43], none⟩,
    ⟨(some 45), .mov, [.tmp 44], none⟩,
    ⟨(some 46), .call 14, [.const (.int .i64 90000)], (some (45, false))⟩,
    ⟨(some 47), .cmp .neq, [.tmp 46, .const (.int .i64 3600)], (some (45, false))⟩,
    ⟨(some 48), .pick, [.tmp 45, .const (.bool true), .tmp 47], none⟩,
    ⟨(some 49), .mov, [.tmp 48], none⟩,
    ⟨(some 50), .call 16, [.const (.int .i64 604800)], (some (49, false))⟩,
    ⟨(some 51), .cmp .neq, [.tmp 50, .const (.int .i64 0)], (some (49, false))⟩,
    ⟨(some 52), .pick, [.tmp 49, .const (.bool true), .tmp 51], none⟩,
    ⟨(some 53), .mov, [.tmp 52], none⟩,
    ⟨(some 54), .call 12, [.const (.int .i64 (-1))], (some (53, false))⟩,
    ⟨(some 55), .cmp .neq, [.tmp 54, .const (.int .i64 (-1))], (some (53, false))⟩,
    ⟨(some 56), .pick, [.tmp 53, .const (.bool true), .tmp 55], none⟩,
    ⟨(some 57), .mov, [.tmp 56], none⟩,
    ⟨(some 58), .mov, [.tmp 2], (some (57, false))⟩,
    ⟨(some 59), .cmp .neq, [.tmp 58, .const (.int .i64 115200)], (some (57, false))⟩,
    ⟨(some 60), .pick, [.tmp 57, .const (.bool true), .tmp 59], none⟩,
    ⟨(some 61), .mov, [.tmp 60], none⟩,
    ⟨(some 62), .mov, [.tmp 3], (some (61, false))⟩,
    ⟨(some 63), .not, [.tmp 62], (some (61, false))⟩,
    ⟨(some 64), .pick, [.tmp 61, .const (.bool true), .tmp 63], none⟩,
    ⟨(some 65), .mov, [.tmp 64], none⟩,
    ⟨(some 66), .mov, [.tmp 4], (some (65, false))⟩,
    ⟨(some 67), .cmp .neq, [.tmp 66, .const (.int .i64 633600)], (some (65, false))⟩,
    ⟨(some 68), .pick, [.tmp 65, .const (.bool true), .tmp 67], none⟩,
    ⟨(some 69), .mov, [.tmp 68], none⟩,
    ⟨(some 70), .mov, [.tmp 5], (some (69, false))⟩,
    ⟨(some 71), .not, [.tmp 70], (some (69, false))⟩,
    ⟨(some 72), .pick, [.tmp 69, .const (.bool true), .tmp 71], none⟩,
    ⟨(some 73), .mov, [.tmp 72], none⟩,
    ⟨(some 74), .mov, [.tmp 7], (some (73, false))⟩,
    ⟨(some 75), .pick, [.tmp 73, .const (.bool true), .tmp 74], none⟩] false)
  (.cond (.tmp 75)
    (.seq (.ops [
      ⟨(some 0), .mov, [.const (.bool false)], none⟩] false)
    .ret)
    .skip))
  (.seq (.ops [
    ⟨(some 76), .mov, [.tmp 1], none⟩,
    ⟨(some 77), .call 20, [.tmp 76, .const (.int .i64 28800)], none⟩,
    ⟨(some 78), .mov, [.tmp 77], none⟩,
    ⟨(some 79), .mov, [.tmp 1], (some (78, true))⟩,
    ⟨(some 80), .call 20, [.tmp 79, .const (.int .i64 144000)], (some (78, true))⟩,
    ⟨(some 81), .not, [.tmp 80], (some (78, true))⟩,
    ⟨(some 82), .pick, [.tmp 78, .tmp 81, .const (.bool false)], none⟩,
    ⟨(some 83), .mov, [.tmp 82], none⟩,
    ⟨(some 84), .mov, [.tmp 1], (some (83, true))⟩,
    ⟨(some 85), .call 18, [.tmp 84], (some (83, true))⟩,
    ⟨(some 86), .pick, [.tmp 83, .tmp 85, .const (.bool false)], none⟩,
    ⟨(some 87), .mov, [.tmp 86], none⟩,
    ⟨(some 88), .mov, [.tmp 8], (some (87, true))⟩,
    ⟨(some 89), .build [.int .i64 0, .int .i64 0] [(0, 1), (1, 1)], [.const (.int .i64 5), .const (.int .i64 12)], (some (87, true))⟩,
    ⟨(some 90), .build [.int .i64 0, .int .i64 0] [(0, 1), (1, 1)], [.const (.int .i64 20), .const (.int .i64 30)], (some (87, true))⟩,
    ⟨(some 91), .buildSl 39 2, [.tmp 89, .tmp 90], (some (87, true))⟩,
    ⟨(some 92), .call 25, [.tmp 88, .tmp 91], (some (87, true))⟩,
    ⟨(some 93), .pick, [.tmp 87, .tmp 92, .const (.bool false)], none⟩,
    ⟨(some 94), .mov, [.tmp 93], none⟩,
    ⟨(some 95), .mov, [.tmp 8], (some (94, true))⟩,
    ⟨(some 96), .call 28, [.tmp 95], (some (94, true))⟩,
    ⟨(some 97), .cmp .eql, [.tmp 96, .const (.int .i64 17)], (some (94, true))⟩,
    ⟨(some 98), .pick, [.tmp 94, .tmp 97, .const (.bool false)], none⟩,
    ⟨(some 99), .mov, [.tmp 98], none⟩,
    ⟨(some 100), .mov, [.tmp 9], (some (99, true))⟩,
    ⟨(some 101), .build [.int .i64 0, .int .i64 0] [(0, 1), (1, 1)], [.const (.int .i64 0), .const (.int .i64 10)], (some (99, true))⟩,
    ⟨(some 102), .build [.int .i64 0, .int .i64 0] [(0, 1), (1, 1)], [.const (.int .i64 20), .const (.int .i64 90)], (some (99, true))⟩,
    ⟨(some 103), .buildSl 39 2, [.tmp 101, .tmp 102], (some (99, true))⟩,
    ⟨(some 104), .call 25, [.tmp 100, .tmp 103], (some (99, true))⟩,
    ⟨(some 105), .pick, [.tmp 99, .tmp 104, .const (.bool false)], none⟩,
    ⟨(some 0), .mov, [.tmp 105], none⟩] false)
  .ret)))))))))⟩
theorem aliveLow : lowF Try.prog {} Try.f11 = some aliveIr := by kernel_rfl
def aliveS : Spec := spec Unit (fun _ => []) (fun _ => True) (fun _ => B true)
theorem aliveV : fnV Try.prog aliveIr aliveS := by
  intro _ _
  repeat' ((conv => whnf); first | (refine ⟨fun h => ?_, fun h => ?_⟩ <;> try (exfalso; first | omega | exact absurd h (by decide) | exact h rfl)) | (refine ⟨_, next_h, (exH, (57600 : Int)), (by show _ ≤ _; decide), leVs_of_eq rfl, .inl rfl, rfl, ?_⟩; show norm (.tup [I (nextR exH 57600).1, B (nextR exH 57600).2]) _; rw [eN1]) | (refine ⟨_, next_h, (exH, (144000 : Int)), (by show _ ≤ _; decide), leVs_of_eq rfl, .inl rfl, rfl, ?_⟩; show norm (.tup [I (nextR exH 144000).1, B (nextR exH 144000).2]) _; rw [eN2]) | (refine ⟨_, next_h, (([] : List Hours), (0 : Int)), (by show _ ≤ _; decide), ⟨by first | exact leV_refl _ | rfl, by first | exact leV_refl _ | rfl, trivial⟩, .inl rfl, rfl, ?_⟩; show norm (.tup [I (nextR [] 0).1, B (nextR [] 0).2]) _; rw [eN3]) | (refine ⟨_, merge_h, exL, (by show _ ≤ _; decide), leVs_of_eq rfl, .inl rfl, rfl, ?_⟩; show norm (L 2 ((mergeF exL).map encV)) _; rw [eM1]) | (refine ⟨_, minus_h, (exA, exB), ⟨by decide, by decide⟩, leVs_of_eq rfl, .inl rfl, rfl, ?_⟩; show norm (L 2 ((minusF exA exB).map encV)) _; rw [eD1]) | (refine ⟨_, day_h, (86399 : Int), trivial, leVs_of_eq rfl, .inl rfl, rfl, ?_⟩; show norm (I (dayF (86399))) _; rw [(by decide : dayF (86399) = 0)]) | (refine ⟨_, day_h, (86400 : Int), trivial, leVs_of_eq rfl, .inl rfl, rfl, ?_⟩; show norm (I (dayF (86400))) _; rw [(by decide : dayF (86400) = 1)]) | (refine ⟨_, sec_h, (90000 : Int), trivial, leVs_of_eq rfl, .inl rfl, rfl, ?_⟩; show norm (I (secF (90000))) _; rw [(by decide : secF (90000) = 3600)]) | (refine ⟨_, wd_h, (604800 : Int), trivial, leVs_of_eq rfl, .inl rfl, rfl, ?_⟩; show norm (I (wdF (604800))) _; rw [(by decide : wdF (604800) = 0)]) | (refine ⟨_, day_h, (-1 : Int), trivial, leVs_of_eq rfl, .inl rfl, rfl, ?_⟩; show norm (I (dayF (-1))) _; rw [(by decide : dayF (-1) = -1)]) | (refine ⟨_, inn_h, (exH, (28800 : Int)), (by show _ ≤ _; decide), leVs_of_eq rfl, .inl rfl, rfl, ?_⟩; show norm (B (decide (inP exH 28800))) _; rw [eI1]) | (refine ⟨_, inn_h, (exH, (144000 : Int)), (by show _ ≤ _; decide), leVs_of_eq rfl, .inl rfl, rfl, ?_⟩; show norm (B (decide (inP exH 144000))) _; rw [eI2]) | (refine ⟨_, right_h, exH, (by show _ ≤ _; decide), leVs_of_eq rfl, .inl rfl, rfl, ?_⟩; show norm (B (rightF exH)) _; rw [eR1]) | (refine ⟨_, same_h, (exM, exM), (by show _ ≤ _; decide), leVs_of_eq rfl, .inl rfl, rfl, ?_⟩; show norm (B (decide (_ = _))) _; rw [decide_eq_true rfl]) | (refine ⟨_, same_h, (exD, exD), (by show _ ≤ _; decide), leVs_of_eq rfl, .inl rfl, rfl, ?_⟩; show norm (B (decide (_ = _))) _; rw [decide_eq_true rfl]) | (refine ⟨_, length_h, exM, (by show _ ≤ _; decide), leVs_of_eq rfl, .inl rfl, rfl, ?_⟩; show norm (I (lenF exM)) _; rw [eL1]) | exact ⟨[], rfl, trivial, rfl⟩ | fail)
theorem alive_h : Holds Try.prog 11 aliveS := holds_of mix Try.func11 aliveLow (fun _ => rfl) aliveV

end Go.Proofs.Ytmehmnlhnbeeeaa
