/- Rides: the examples. -/
import Derived.Test.YtfghmpfiemmbgaaF9
namespace Go.Proofs.Ytfghmpfiemmbgaa
open Go.RowKit

def mergeL (a b : List Ride) : List Ride := match mergeF a b with
  | .bad _ => []
  | .ok m => m
def mergeE (a b : List Ride) : Int := match mergeF a b with
  | .bad e => e
  | .ok _ => 0
abbrev mergeT (p : List Ride × List Ride) : SV := .tup [L 7 ((mergeL p.1 p.2).map encR), I (mergeE p.1 p.2)]
theorem mergeR_le (a b : List Ride) : leV (mergeR (mergeF a b)) (mergeT (a, b)) := by
  unfold mergeT mergeL mergeE
  cases mergeF a b with
  | bad e => exact ⟨rfl, rfl, trivial⟩
  | ok m => exact leV_refl _
theorem mergeW : Holds Try.prog 18 ⟨mergeS.X, mergeS.args, mergeS.pre, mergeT, fun _ => []⟩ := merge_h.weaken (fun _ => rfl) mergeT fun p _ => mergeR_le p.1 p.2
theorem refMergeW : Holds Try.prog 19 ⟨mergeS.X, mergeS.args, mergeS.pre, mergeT, fun _ => []⟩ := refMerge_h.weaken (fun _ => rfl) mergeT fun p _ => mergeR_le p.1 p.2
def addL (s : List Ride) (r : Ride) : List Ride := match okRb r with
  | true => mergeL s [r]
  | false => []
def addB (s : List Ride) (r : Ride) : Bool := match okRb r, mergeF s [r] with
  | true, .ok m => decide (s.length < m.length)
  | _, _ => false
def addE (s : List Ride) (r : Ride) : Int := match okRb r with
  | true => mergeE s [r]
  | false => 2
abbrev addT (p : List Ride × Ride) : SV := .tup [L 7 ((addL p.1 p.2).map encR), B (addB p.1 p.2), I (addE p.1 p.2)]
theorem addR_le (s : List Ride) (r : Ride) : leV (addR s r) (addT (s, r)) := by
  unfold addR addT addL addB addE mergeL mergeE
  cases okRb r with
  | false => exact ⟨rfl, rfl, rfl, trivial⟩
  | true =>
    cases mergeF s [r] with
    | bad e => exact ⟨rfl, rfl, rfl, trivial⟩
    | ok m => exact leV_refl _
theorem addW : Holds Try.prog 15 ⟨addS.X, addS.args, addS.pre, addT, fun _ => []⟩ := add_h.weaken (fun _ => rfl) addT fun p _ => addR_le p.1 p.2
theorem refAddW : Holds Try.prog 16 ⟨addS.X, addS.args, addS.pre, addT, fun _ => []⟩ := refAdd_h.weaken (fun _ => rfl) addT fun p _ => addR_le p.1 p.2
def lA : List Ride := [rideOf 1 10, rideOf 3 30]
def lB : List Ride := [rideOf 3 30, rideOf 4 40]
def lC : List Ride := [rideOf 3 31]
def lM : List Ride := [rideOf 1 10, rideOf 3 30, rideOf 4 40]
def lX : List Ride := [rideOf 1 10, rideOf 2 20, rideOf 3 30, rideOf 4 40]
theorem eAB : mergeT (lA, lB) = .tup [L 7 (lM.map encR), I 0] := by kernel_rfl
theorem eAC : mergeT (lA, lC) = .tup [L 7 [], I 15] := by kernel_rfl
theorem eM2 : addT (lM, rideOf 2 20) = .tup [L 7 (lX.map encR), B true, I 0] := by kernel_rfl
theorem eX2 : addT (lX, rideOf 2 20) = .tup [L 7 (lX.map encR), B false, I 0] := by kernel_rfl
theorem eGM : L 1 ((gaps lM 2).map cI) = L 1 (([2] : List Int).map cI) := by kernel_rfl
theorem eGX2 : L 1 ((gaps lX 2).map cI) = L 1 (([] : List Int).map cI) := by kernel_rfl
theorem eGX7 : L 1 ((gaps lX 7).map cI) = L 1 (([] : List Int).map cI) := by kernel_rfl
theorem eUM : I (upto lM 2) = I 1 := by kernel_rfl
theorem eUX : I (upto lX 2) = I 4 := by kernel_rfl
theorem eUX7 : I (upto lX 7) = I 0 := by kernel_rfl
theorem eRX : I (right lX) = I 0 := by kernel_rfl
theorem sA : Sorted lA := by decide
theorem sB : Sorted lB := by decide
theorem sC : Sorted lC := by decide
theorem sM : Sorted lM := by decide
theorem sX : Sorted lX := by decide
instance : DecidablePred okR := fun r => by unfold okR; infer_instance
theorem okM : ∀ x ∈ lM, okR x := by decide
theorem okX : ∀ x ∈ lX, okR x := by decide

/-! skiarea/skiarealaw31.alive -/
def aliveIr : IFn := ⟨118, [.tmp 0],
  (.seq (.ops [
    ⟨(some 0), .mov, [.const (.bool false)], none⟩] false)
  (.seq (.ops [
    ⟨(some 13), .call 20, [.const (.int .i64 1), .const (.int .i64 10)], none⟩,
    ⟨(some 14), .call 20, [.const (.int .i64 3), .const (.int .i64 30)], none⟩,
    ⟨(some 15), .buildSl 28 7, [.tmp 13, .tmp 14], none⟩,
    ⟨(some 16), .call 20, [.const (.int .i64 3), .const (.int .i64 30)], none⟩,
    ⟨(some 17), .call 20, [.const (.int .i64 4), .const (.int .i64 40)], none⟩,
    ⟨(some 18), .buildSl 28 7, [.tmp 16, .tmp 17], none⟩,
    ⟨(some 1), .mov, [.tmp 15], none⟩,
    ⟨(some 2), .mov, [.tmp 18], none⟩] false)
  (.seq (.ops [
    ⟨(some 20), .mov, [.tmp 1], none⟩,
    ⟨(some 21), .mov, [.tmp 2], none⟩,
    ⟨(some 22), .call 18, [.tmp 20, .tmp 21], none⟩,
    ⟨(some 19), .mov, [.tmp 22], none⟩,
    ⟨(some 23), .extract 0, [.tmp 19], none⟩,
    ⟨(some 24), .extract 1, [.tmp 19], none⟩,
    ⟨(some 3), .mov, [.tmp 23], none⟩,
    ⟨(some 4), .mov, [.tmp 24], none⟩] false)
  (.seq (.ops [
    ⟨(some 26), .mov, [.tmp 1], none⟩,
    ⟨(some 27), .call 20, [.const (.int .i64 3), .const (.int .i64 31)], none⟩,
    ⟨(some 28), .buildSl 28 7, [.tmp 27], none⟩,
    ⟨(some 29), .call 18, [.tmp 26, .tmp 28], none⟩,
    ⟨(some 25), .mov, [.tmp 29], none⟩,
    ⟨(some 30), .extract 0, [.tmp 25], none⟩,
    ⟨(some 31), .extract 1, [.tmp 25], none⟩,
    ⟨(some 5), .mov, [.tmp 30], none⟩,
    ⟨(some 6), .mov, [.tmp 31], none⟩] false)
  (.seq (.ops [
    ⟨(some 33), .mov, [.tmp 3], none⟩,
    ⟨(some 34), .call 20, [.const (.int .i64 2), .const (.int .i64 20)], none⟩,
    ⟨(some 35), .call 15, [.tmp 33, .tmp 34], none⟩,
    ⟨(some 32), .mov, [.tmp 35], none⟩,
    ⟨(some 36), .extract 0, [.tmp 32], none⟩,
    ⟨(some 37), .extract 1, [.tmp 32], none⟩,
    ⟨(some 38), .extract 2, [.tmp 32], none⟩,
    ⟨(some 7), .mov, [.tmp 36], none⟩,
    ⟨(some 8), .mov, [.tmp 37], none⟩,
    ⟨(some 9), .mov, [.tmp 38], none⟩] false)
  (.seq (.ops [
    ⟨(some 40), .mov, [.tmp 7], none⟩,
    ⟨(some 41), .call 20, [.const (.int .i64 2), .const (.int .i64 20)], none⟩,
    ⟨(some 42), .call 15, [.tmp 40, .tmp 41], none⟩,
    ⟨(some 39), .mov, [.tmp 42], none⟩,
    ⟨(some 43), .extract 0, [.tmp 39], none⟩,
    ⟨(some 44), .extract 1, [.tmp 39], none⟩,
    ⟨(some 45), .extract 2, [.tmp 39], none⟩,
    ⟨(some 10), .mov, [.tmp 43], none⟩,
    ⟨(some 11), .mov, [.tmp 44], none⟩,
    ⟨(some 12), .mov, [.tmp 45], none⟩] false)
  (.seq (.ops [
    ⟨(some 46), .mov, [.tmp 4], none⟩,
    ⟨(some 47), .cmp .eql, [.tmp 46, .const (.int .i64 0)], none⟩,
    ⟨(some 48), .mov, [.tmp 47], none⟩,
    ⟨(some 49), .mov, [.tmp 6], (some (48, true))⟩,
    ⟨(some 50), .cmp .eql, [.tmp 49, .const (.int .i64 15)], (some (48, true))⟩,
    ⟨(some 51), .pick, [.tmp 48, .tmp 50, .const (.bool false)], none⟩,
    ⟨(some 52), .mov, [.tmp 51], none⟩,
    ⟨(some 53), .mov, [.tmp 3], (some (52, true))⟩,
    ⟨(some 54), .call 20, [.const (.int .i64 1), .const (.int .i64 10)], (some (52, true))⟩,
    ⟨(some 55), .call 20, [.const (.int .i64 3), .const (.int .i64 30)], (some (52, true))⟩,
    ⟨(some 56), .call 20, [.const (.int .i64 4), .const (.int .i64 40)], (some (52, true))⟩,
    ⟨(some 57), .buildSl 28 7, [.tmp 54, .tmp 55, .tmp 56], (some (52, true))⟩,
    ⟨(some 58), .call 17, [.tmp 53, .tmp 57], (some (52, true))⟩,
    ⟨(some 59), .pick, [.tmp 52, .tmp 58, .const (.bool false)], none⟩,
    ⟨(some 60), .mov, [.tmp 59], none⟩,
    ⟨(some 61), .mov, [.tmp 3], (some (60, true))⟩,
    ⟨(some 62), .call 21, [.tmp 61, .const (.int .i64 2)], (some (60, true))⟩,
    ⟨(some 63), .buildSl 3 1, [.const (.int .i64 2)], (some (60, true))⟩,
    ⟨(some 64), .call 25, [.tmp 62, .tmp 63], (some (60, true))⟩,
    ⟨(some 65), .pick, [.tmp 60, .tmp 64, .const (.bool false)], none⟩,
    ⟨(some 66), .mov, [.tmp 65], none⟩,
    ⟨(some 67), .mov, [.tmp 3], (some (66, true))⟩,
    ⟨(some 68), .call 22, [.tmp 67, .const (.int .i64 2)], (some (66, true))⟩,
    ⟨(some 69), .cmp .eql, [.tmp 68, .const (.int .i64 1)], (some (66, true))⟩,
    ⟨(some 70), .pick, [.tmp 66, .tmp 69, .const (.bool false)], none⟩,
    ⟨(some 71), .mov, [.tmp 70], none⟩,
    ⟨(some 72), .mov, [.tmp 9], (some (71, true))⟩,
    ⟨(some 73), .cmp .eql, [.tmp 72, .const (.int .i64 0)], (some (71, true))⟩,
    ⟨(some 74), .pick, [.tmp 71, .tmp 73, .const (.bool false)], none⟩,
    ⟨(some 75), .mov, [.tmp 74], none⟩,
    ⟨(some 76), .mov, [.tmp 8], (some (75, true))⟩,
    ⟨(some 77), .pick, [.tmp 75, .tmp 76, .const (.bool false)], none⟩,
    ⟨(some 78), .mov, [.tmp 77], none⟩,
    ⟨(some 79), .mov, [.tmp 7], (some (78, true))⟩,
    ⟨(some 80), .call 22, [.tmp 79, .const (.int .i64 2)], (some (78, true))⟩,
    ⟨(some 81), .cmp .eql, [.tmp 80, .const (.int .i64 4)], (some (78, true))⟩,
    ⟨(some 82), .pick, [.tmp 78, .tmp 81, .const (.bool false)], none⟩,
    ⟨(some 83), .mov, [.tmp 82], none⟩,
    ⟨(some 84), .mov, [.tmp 7], (some (83, true))⟩,
    ⟨(some 85), .call 21, [.tmp 84, .const (.int .i64 2)], (some (83, true))⟩,
    ⟨(some 86), .len, [.tmp 85], (some (83, true))⟩,
    ⟨(some 87), .cmp .eql, [.tmp 86, .const (.int .i64 0)], (some (83, true))⟩,
    ⟨(some 88), .pick, [.tmp 83, .tmp 87, .const (.bool false)], none⟩,
    ⟨(some 89), .mov, [.tmp 88], none⟩,
    ⟨(some 90), .mov, [.tmp 12], (some (89, true))⟩,
    ⟨(some 91), .cmp .eql, [.tmp 90, .const (.int .i64 0)], (some (89, true))⟩,
    ⟨(some 92), .pick, [.tmp 89, .tmp 91, .const (.bool false)], none⟩,
    ⟨(some 93), .mov, [.tmp 92], none⟩,
    ⟨(some 94), .mov, [.tmp 11], (some (93, true))⟩,
    ⟨(some 95), .not, [.tmp 94], (some (93, true))⟩,
    ⟨(some 96), .pick, [.tmp 93, .tmp 95, .const (.bool false)], none⟩,
    ⟨(some 97), .mov, [.tmp 96], none⟩,
    ⟨(some 98), .mov, [.tmp 7], (some (97, true))⟩,
    ⟨(some 99), .mov, [.tmp 10], (some (97, true))⟩,
    ⟨(some 100), .call 17, [.tmp 98, .tmp 99], (some (97, true))⟩,
    ⟨(some 101), .pick, [.tmp 97, .tmp 100, .const (.bool false)], none⟩,
    ⟨(some 102), .mov, [.tmp 101], none⟩,
    ⟨(some 103), .mov, [.tmp 7], (some (102, true))⟩,
    ⟨(some 104), .call 21, [.tmp 103, .const (.int .i64 7)], (some (102, true))⟩,
    ⟨(some 105), .len, [.tmp 104], (some (102, true))⟩,
    ⟨(some 106), .cmp .eql, [.tmp 105, .const (.int .i64 0)], (some (102, true))⟩,
    ⟨(some 107), .pick, [.tmp 102, .tmp 106, .const (.bool false)], none⟩,
    ⟨(some 108), .mov, [.tmp 107], none⟩,
    ⟨(some 109), .mov, [.tmp 7], (some (108, true))⟩,
    ⟨(some 110), .call 22, [.tmp 109, .const (.int .i64 7)], (some (108, true))⟩,
    ⟨(some 111), .cmp .eql, [.tmp 110, .const (.int .i64 0)], (some (108, true))⟩,
    ⟨(some 112), .pick, [.tmp 108, .tmp 111, .const (.bool false)], none⟩,
    ⟨(some 113), .mov, [.tmp 112], none⟩,
    ⟨(some 114), .mov, [.tmp 7], (some (113, true))⟩,
    ⟨(some 115), .call 12, [.tmp 114], (some (113, true))⟩,
    ⟨(some 116), .cmp .eql, [.tmp 115, .const (.int .i64 0)], (some (113, true))⟩,
    ⟨(some 117), .pick, [.tmp 113, .tmp 116, .const (.bool false)], none⟩,
    ⟨(some 0), .mov, [.tmp 117], none⟩] false)
  .ret)))))))⟩
theorem aliveLow : lowF Try.prog {} Try.f11 = some aliveIr := by kernel_rfl
def aliveS : Spec := spec Unit (fun _ => []) (fun _ => True) (fun _ => B true)
theorem aliveV : fnV Try.prog aliveIr aliveS := by
  intro _ _
  repeat' ((conv => whnf); first | (refine ⟨fun h => ?_, fun h => ?_⟩ <;> try (exfalso; first | omega | exact absurd h (by decide) | exact h rfl)) | refine ⟨_, ride_h, (_, _), trivial, leVs_of_eq rfl, .inr rfl, rfl, ?_⟩ | (refine ⟨_, mergeW, (lA, lB), ⟨⟨by decide, sA⟩, by decide, sB⟩, leVs_of_eq rfl, .inl rfl, rfl, ?_⟩; show norm (mergeT (lA, lB)) _; rw [eAB]) | (refine ⟨_, mergeW, (lA, lC), ⟨⟨by decide, sA⟩, by decide, sC⟩, leVs_of_eq rfl, .inl rfl, rfl, ?_⟩; show norm (mergeT (lA, lC)) _; rw [eAC]) | (refine ⟨_, addW, (lM, rideOf 2 20), ⟨by decide, sM⟩, leVs_of_eq rfl, .inl rfl, rfl, ?_⟩; show norm (addT (lM, rideOf 2 20)) _; rw [eM2]) | (refine ⟨_, addW, (lX, rideOf 2 20), ⟨by decide, sX⟩, leVs_of_eq rfl, .inl rfl, rfl, ?_⟩; show norm (addT (lX, rideOf 2 20)) _; rw [eX2]) | (refine ⟨_, gaps_h, (lM, 2), ⟨by decide, okM⟩, leVs_of_eq rfl, .inl rfl, rfl, ?_⟩; show norm (L 1 ((gaps lM 2).map cI)) _; rw [eGM]) | (refine ⟨_, gaps_h, (lX, 2), ⟨by decide, okX⟩, leVs_of_eq rfl, .inl rfl, rfl, ?_⟩; show norm (L 1 ((gaps lX 2).map cI)) _; rw [eGX2]) | (refine ⟨_, gaps_h, (lX, 7), ⟨by decide, okX⟩, leVs_of_eq rfl, .inl rfl, rfl, ?_⟩; show norm (L 1 ((gaps lX 7).map cI)) _; rw [eGX7]) | (refine ⟨_, upto_h, (lM, 2), by show _ ≤ _; decide, leVs_of_eq rfl, .inl rfl, rfl, ?_⟩; show norm (I (upto lM 2)) _; rw [eUM]) | (refine ⟨_, upto_h, (lX, 2), by show _ ≤ _; decide, leVs_of_eq rfl, .inl rfl, rfl, ?_⟩; show norm (I (upto lX 2)) _; rw [eUX]) | (refine ⟨_, upto_h, (lX, 7), by show _ ≤ _; decide, leVs_of_eq rfl, .inl rfl, rfl, ?_⟩; show norm (I (upto lX 7)) _; rw [eUX7]) | (refine ⟨_, same_h, (lM, lM), (by show _ ≤ _; decide), leVs_of_eq rfl, .inl rfl, rfl, ?_⟩; show norm (B (decide (_ = _))) _; rw [decide_eq_true rfl]) | (refine ⟨_, same_h, (lX, lX), (by show _ ≤ _; decide), leVs_of_eq rfl, .inl rfl, rfl, ?_⟩; show norm (B (decide (_ = _))) _; rw [decide_eq_true rfl]) | (refine ⟨_, sameInts_h, (([2] : List Int), ([2] : List Int)), (by show _ ≤ _; decide), leVs_of_eq rfl, .inl rfl, rfl, ?_⟩; show norm (B (decide (_ = _))) _; rw [decide_eq_true rfl]) | (refine ⟨_, right_h, lX, trivial, leVs_of_eq rfl, .inl rfl, rfl, ?_⟩; show norm (I (right lX)) _; rw [eRX]) | fail)
  exact ⟨[], rfl, trivial, rfl⟩
theorem alive_h : Holds Try.prog 11 aliveS := holds_of mix Try.func11 aliveLow (fun _ => rfl) aliveV

end Go.Proofs.Ytfghmpfiemmbgaa
