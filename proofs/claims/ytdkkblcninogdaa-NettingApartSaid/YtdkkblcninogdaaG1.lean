/- Netting: the examples of the chapter hold. -/
import Derived.Test.YtdkkblcninogdaaF9
import Derived.Test.YtdkkblcninogdaaPB
namespace Go.Proofs.Ytdkkblcninogdaa
open Go.RowKit

/-! skiarea/skiarealaw37.of -/
def ofxIr : IFn := ⟨22, [.tmp 2],
  (.seq (.ops [
    ⟨(some 2), .mov, [.const (.slice none 0 0)], none⟩] false)
  (.seq (.ops [
    ⟨(some 3), .nilOwn 34 2, [], none⟩] false)
  (.seq (.seq (.ops [
    ⟨(some 4), .mov, [.const (.int .i64 0)], none⟩] false)
  (.block 0
    (.loop
      (.seq (.seq (.ops [
        ⟨(some 5), .mov, [.tmp 4], none⟩,
        ⟨(some 6), .mov, [.tmp 0], none⟩,
        ⟨(some 7), .len, [.tmp 6], none⟩,
        ⟨(some 8), .cmp .lss, [.tmp 5, .tmp 7], none⟩] false)
      (.cond (.tmp 8)
        .skip
        (.exit 0)))
      (.seq (.block 1
        (.ops [
          ⟨(some 11), .mov, [.tmp 3], none⟩,
          ⟨(some 12), .mov, [.tmp 4], none⟩,
          ⟨(some 13), .bin .add .i64 false, [.tmp 12, .const (.int .i64 1)], none⟩,
          ⟨(some 14), .mov, [.tmp 0], none⟩,
          ⟨(some 15), .mov, [.tmp 4], none⟩,
          ⟨(some 16), .idx 1, [.tmp 14, .tmp 15], none⟩,
          ⟨(some 17), .load 1 false, [.tmp 16], none⟩,
          ⟨(some 18), .build [.int .i64 0, .int .i64 0] [(0, 1), (1, 1)], [.tmp 13, .tmp 17], none⟩,
          ⟨(some 19), .buildSl 34 2, [.tmp 18], none⟩,
          ⟨(some 20), .append 34 2 16, [.tmp 11, .tmp 19], none⟩,
          ⟨(some 3), .mov, [.tmp 20], none⟩] false))
      (.ops [
        ⟨(some 9), .mov, [.tmp 4], none⟩,
        ⟨(some 10), .bin .add .i64 false, [.tmp 9, .const (.int .i64 1)], none⟩,
        ⟨(some 4), .mov, [.tmp 10], none⟩] false))))))
  (.seq (.ops [
    ⟨(some 21), .mov, [.tmp 3], none⟩,
    ⟨(some 2), .mov, [.tmp 21], none⟩] false)
  .ret))))⟩
theorem ofxLow : lowF Try.prog { owns := [(3, 34)] } Try.f18 = some ofxIr := by kernel_rfl
def ofxS : Spec := spec (List Int) (fun xs => [L 1 (xs.map cI)]) (fun xs => xs.length ≤ 1000) (fun xs => L 2 ((ofL xs).map encS))
theorem ofxV : fnV Try.prog ofxIr ofxS := by
  intro (xs : List Int) hx
  replace hx : xs.length ≤ 1000 := hx
  show vc _ _ _ _ ⟨argEnv 0 [L 1 (xs.map cI)], [], 0⟩
  have hl : (xs.map cI).length = xs.length := List.length_map ..
  conv => whnf
  refine ⟨Nat × (List (List CV)), fun xq => ⟨[(0, L 1 (xs.map cI)), (3, .osl 0), (4, I xq.1)], [(0, .row 34 2 xq.2)], 1⟩, fun xq => xq.1 ≤ xs.length ∧ xq.2 = (ofL (xs.take xq.1)).map encS, fun xq => xs.length - xq.1, ⟨(0, _), ?_, [], ⟨⟨rfl, rfl⟩, ⟨⟨rfl, rfl⟩, ⟨⟨rfl, rfl⟩, trivial⟩⟩⟩, ⟨⟨rfl, rfl, rfl⟩, trivial⟩, rfl, rfl, rfl⟩, ?_⟩
  · (try dsimp only); exact ⟨Nat.zero_le _, rfl⟩
  rintro ⟨k, es⟩ hk
  obtain ⟨hk, rfl⟩ : k ≤ xs.length ∧ es = (ofL (xs.take k)).map encS := hk
  (try dsimp only)
  by_cases hkl : k < xs.length
  · obtain ⟨x, hx⟩ := getElem_some hkl
    have hy := ofL_take hx
    have ho : (ofL (xs.take k)).length = k := by rw [ofL_len, List.length_take]; omega
    repeat' ((conv => whnf); first | (refine ⟨(k + 1, _), ⟨?_, by (try dsimp only); omega⟩, [(0, 1)], ⟨⟨rfl, rfl⟩, ⟨⟨rfl, rfl⟩, ⟨⟨rfl, rfl⟩, trivial⟩⟩⟩, ⟨⟨rfl, rfl, rfl⟩, trivial⟩, rfl, rfl, rfl⟩; (try dsimp only); exact ⟨by omega, by rw [hy, List.map_append]; rfl⟩) | (refine ⟨fun h => ?_, fun h => ?_⟩ <;> try (exfalso; first | omega | exact absurd h (by decide) | exact h rfl)) | (refine ⟨by omega, fun r hrr => ?_⟩; obtain rfl := get_row hrr hx) | (refine ⟨⟨by simp only [List.length_map, List.length_cons, List.length_nil]; omega, by simp only [List.length_map, List.length_cons, List.length_nil]; omega⟩, ?_⟩) | refine ⟨⟨by omega, by omega⟩, ?_⟩ | fail)
  · rw [take_end hkl]
    repeat' ((conv => whnf); first | (refine ⟨fun h => ?_, fun h => ?_⟩ <;> try (exfalso; first | omega | exact absurd h (by decide) | exact h rfl)) | fail)
    conv => whnf
    refine ⟨[], rfl, trivial, ?_⟩
    show leV (L 2 ((ofL xs).map encS)) (L 2 ((ofL xs).map encS))
    exact leV_refl _
theorem ofx_h : Holds Try.prog 18 ofxS := holds_of mix Try.func18 ofxLow (fun _ => rfl) ofxV

/-! skiarea/skiarealaw37.alive -/
def aliveIr : IFn := ⟨65, [.tmp 0],
  (.seq (.ops [
    ⟨(some 0), .mov, [.const (.bool false)], none⟩] false)
  (.seq (.ops [
    ⟨(some 2), .build [.int .i64 0, .int .i64 0, .int .i64 0] [(0, 1), (1, 1), (2, 1)], [.const (.int .i64 2), .const (.int .i64 1), .const (.int .i64 20)], none⟩,
    ⟨(some 3), .build [.int .i64 0, .int .i64 0, .int .i64 0] [(0, 1), (1, 1), (2, 1)], [.const (.int .i64 3), .const (.int .i64 1), .const (.int .i64 30)], none⟩,
    ⟨(some 4), .buildSl 32 3, [.tmp 2, .tmp 3], none⟩,
    ⟨(some 1), .mov, [.tmp 4], none⟩] false)
  (.seq (.ops [
    ⟨(some 5), .buildSl 3 1, [.const (.int .i64 50), .const (.int .i64 (-20)), .const (.int .i64 (-30))], none⟩,
    ⟨(some 6), .call 18, [.tmp 5], none⟩,
    ⟨(some 7), .call 11, [.tmp 6], none⟩,
    ⟨(some 8), .cmp .eql, [.tmp 7, .const (.int .i64 0)], none⟩,
    ⟨(some 9), .mov, [.tmp 8], none⟩,
    ⟨(some 10), .buildSl 3 1, [.const (.int .i64 5), .const (.int .i64 (-4))], (some (9, true))⟩,
    ⟨(some 11), .call 18, [.tmp 10], (some (9, true))⟩,
    ⟨(some 12), .call 11, [.tmp 11], (some (9, true))⟩,
    ⟨(some 13), .cmp .eql, [.tmp 12, .const (.int .i64 1)], (some (9, true))⟩,
    ⟨(some 14), .pick, [.tmp 9, .tmp 13, .const (.bool false)], none⟩,
    ⟨(some 15), .mov, [.tmp 14], none⟩,
    ⟨(some 16), .buildSl 3 1, [.const (.int .i64 50), .const (.int .i64 (-20)), .const (.int .i64 (-30))], (some (15, true))⟩,
    ⟨(some 17), .call 18, [.tmp 16], (some (15, true))⟩,
    ⟨(some 18), .mov, [.tmp 1], (some (15, true))⟩,
    ⟨(some 19), .call 13, [.tmp 17, .tmp 18], (some (15, true))⟩,
    ⟨(some 20), .pick, [.tmp 15, .tmp 19, .const (.bool false)], none⟩,
    ⟨(some 21), .mov, [.tmp 20], none⟩,
    ⟨(some 22), .buildSl 3 1, [.const (.int .i64 50), .const (.int .i64 (-20)), .const (.int .i64 (-30))], (some (21, true))⟩,
    ⟨(some 23), .call 18, [.tmp 22], (some (21, true))⟩,
    ⟨(some 24), .mov, [.tmp 1], (some (21, true))⟩,
    ⟨(some 25), .slice 3 false true, [.tmp 24, .const (.int .i64 1)], (some (21, true))⟩,
    ⟨(some 26), .call 13, [.tmp 23, .tmp 25], (some (21, true))⟩,
    ⟨(some 27), .not, [.tmp 26], (some (21, true))⟩,
    ⟨(some 28), .pick, [.tmp 21, .tmp 27, .const (.bool false)], none⟩,
    ⟨(some 29), .mov, [.tmp 28], none⟩,
    ⟨(some 30), .buildSl 3 1, [.const (.int .i64 50), .const (.int .i64 (-20)), .const (.int .i64 (-30))], (some (29, true))⟩,
    ⟨(some 31), .call 18, [.tmp 30], (some (29, true))⟩,
    ⟨(some 32), .call 15, [.tmp 31], (some (29, true))⟩,
    ⟨(some 33), .cmp .eql, [.tmp 32, .const (.int .i64 2)], (some (29, true))⟩,
    ⟨(some 34), .pick, [.tmp 29, .tmp 33, .const (.bool false)], none⟩,
    ⟨(some 35), .mov, [.tmp 34], none⟩,
    ⟨(some 36), .buildSl 3 1, [.const (.int .i64 5), .const (.int .i64 (-5)), .const (.int .i64 7), .const (.int .i64 (-7))], (some (35, true))⟩,
    ⟨(some 37), .call 18, [.tmp 36], (some (35, true))⟩,
    ⟨(some 38), .call 15, [.tmp 37], (some (35, true))⟩,
    ⟨(some 39), .cmp .eql, [.tmp 38, .const (.int .i64 2)], (some (35, true))⟩,
    ⟨(some 40), .pick, [.tmp 35, .tmp 39, .const (.bool false)], none⟩,
    ⟨(some 41), .mov, [.tmp 40], none⟩,
    ⟨(some 42), .buildSl 3 1, [.const (.int .i64 5), .const (.int .i64 (-3)), .const (.int .i64 7), .const (.int .i64 (-9))], (some (41, true))⟩,
    ⟨(some 43), .call 18, [.tmp 42], (some (41, true))⟩,
    ⟨(some 44), .call 15, [.tmp 43], (some (41, true))⟩,
    ⟨(some 45), .cmp .eql, [.tmp 44, .const (.int .i64 3)], (some (41, true))⟩,
    ⟨(some 46), .pick, [.tmp 41, .tmp 45, .const (.bool false)], none⟩,
    ⟨(some 47), .mov, [.tmp 46], none⟩,
    ⟨(some 48), .buildSl 3 1, [.const (.int .i64 0), .const (.int .i64 0)], (some (47, true))⟩,
    ⟨(some 49), .call 18, [.tmp 48], (some (47, true))⟩,
    ⟨(some 50), .call 15, [.tmp 49], (some (47, true))⟩,
    ⟨(some 51), .cmp .eql, [.tmp 50, .const (.int .i64 0)], (some (47, true))⟩,
    ⟨(some 52), .pick, [.tmp 47, .tmp 51, .const (.bool false)], none⟩,
    ⟨(some 53), .mov, [.tmp 52], none⟩,
    ⟨(some 54), .call 17, [.const (.slice none 0 0)], (some (53, true))⟩,
    ⟨(some 55), .len, [.tmp 54], (some (53, true))⟩,
    ⟨(some 56), .cmp .eql, [.tmp 55, .const (.int .i64 0)], (some (53, true))⟩,
    ⟨(some 57), .pick, [.tmp 53, .tmp 56, .const (.bool false)], none⟩,
    ⟨(some 58), .mov, [.tmp 57], none⟩,
    ⟨(some 59), .buildSl 3 1, [.const (.int .i64 50), .const (.int .i64 (-20)), .const (.int .i64 (-30))], (some (58, true))⟩,
    ⟨(some 60), .call 18, [.tmp 59], (some (58, true))⟩,
    ⟨(some 61), .call 17, [.tmp 60], (some (58, true))⟩,
    ⟨(some 62), .len, [.tmp 61], (some (58, true))⟩,
    ⟨(some 63), .cmp .eql, [.tmp 62, .const (.int .i64 2)], (some (58, true))⟩,
    ⟨(some 64), .pick, [.tmp 58, .tmp 63, .const (.bool false)], none⟩,
    ⟨(some 0), .mov, [.tmp 64], none⟩] true)
  .ret)))⟩
theorem aliveLow : lowF Try.prog {} Try.f10 = some aliveIr := by kernel_rfl
def aliveS : Spec := spec Unit (fun _ => []) (fun _ => True) (fun _ => B true)
set_option maxHeartbeats 4000000 in
theorem aliveV : fnV Try.prog aliveIr aliveS := by
  intro _ _
  have h1 : ((netF (ofL [50, -20, -30])).map encT).length = 2 := by rw [List.length_map]; exact n1
  have h2 : ((netF []).map encT).length = 0 := by rw [List.length_map]; exact n2
  repeat' ((conv => whnf); first | (refine ⟨fun h => ?_, fun h => ?_⟩ <;> try (exfalso; first | omega | exact absurd h (by decide) | exact h rfl)) | (refine ⟨_, ofx_h, [50, -20, -30], (by show (_ : Nat) ≤ 1000; decide), leVs_of_eq rfl, .inl rfl, rfl, ?_⟩; show norm (L 2 ((ofL [50, -20, -30]).map encS)) _) | (refine ⟨_, ofx_h, [5, -4], (by show (_ : Nat) ≤ 1000; decide), leVs_of_eq rfl, .inl rfl, rfl, ?_⟩; show norm (L 2 ((ofL [5, -4]).map encS)) _) | (refine ⟨_, ofx_h, [5, -5, 7, -7], (by show (_ : Nat) ≤ 1000; decide), leVs_of_eq rfl, .inl rfl, rfl, ?_⟩; show norm (L 2 ((ofL [5, -5, 7, -7]).map encS)) _) | (refine ⟨_, ofx_h, [5, -3, 7, -9], (by show (_ : Nat) ≤ 1000; decide), leVs_of_eq rfl, .inl rfl, rfl, ?_⟩; show norm (L 2 ((ofL [5, -3, 7, -9]).map encS)) _) | (refine ⟨_, ofx_h, [0, 0], (by show (_ : Nat) ≤ 1000; decide), leVs_of_eq rfl, .inl rfl, rfl, ?_⟩; show norm (L 2 ((ofL [0, 0]).map encS)) _) | (refine ⟨_, right_h, ofL [50, -20, -30], (by show (_ : Nat) ≤ _; decide), leVs_of_eq rfl, .inl rfl, rfl, ?_⟩; show norm (I (rightF (ofL [50, -20, -30]))) _; rw [r1]) | (refine ⟨_, right_h, ofL [5, -4], (by show (_ : Nat) ≤ _; decide), leVs_of_eq rfl, .inl rfl, rfl, ?_⟩; show norm (I (rightF (ofL [5, -4]))) _; rw [r2]) | (refine ⟨_, valid_h, (ofL [50, -20, -30], twoL), ⟨p1, by decide⟩, leVs_of_eq rfl, .inl rfl, rfl, ?_⟩; show norm (B (validB (ofL [50, -20, -30]) twoL)) _; rw [v1]) | (refine ⟨_, valid_h, (ofL [50, -20, -30], [⟨2, 1, 20⟩]), ⟨p1, by decide⟩, leVs_of_eq rfl, .inl rfl, rfl, ?_⟩; show norm (B (validB (ofL [50, -20, -30]) [⟨2, 1, 20⟩])) _; rw [v2]) | (refine ⟨_, least_h, ofL [50, -20, -30], p1, leVs_of_eq rfl, .inl rfl, rfl, ?_⟩; show norm (I ((leastF (ofL [50, -20, -30]) : Nat) : Int)) _; rw [l1]) | (refine ⟨_, least_h, ofL [5, -5, 7, -7], p2, leVs_of_eq rfl, .inl rfl, rfl, ?_⟩; show norm (I ((leastF (ofL [5, -5, 7, -7]) : Nat) : Int)) _; rw [l2]) | (refine ⟨_, least_h, ofL [5, -3, 7, -9], p3, leVs_of_eq rfl, .inl rfl, rfl, ?_⟩; show norm (I ((leastF (ofL [5, -3, 7, -9]) : Nat) : Int)) _; rw [l3]) | (refine ⟨_, least_h, ofL [0, 0], p4, leVs_of_eq rfl, .inl rfl, rfl, ?_⟩; show norm (I ((leastF (ofL [0, 0]) : Nat) : Int)) _; rw [l4]) | (refine ⟨_, net_h, ([] : List Share), p5, ⟨rfl, trivial⟩, .inl rfl, rfl, ?_⟩; show norm (L 3 ((netF []).map encT)) _) | (refine ⟨_, net_h, ofL [50, -20, -30], p1, leVs_of_eq rfl, .inl rfl, rfl, ?_⟩; show norm (L 3 ((netF (ofL [50, -20, -30])).map encT)) _) | (refine ⟨⟨by decide, by decide, by decide⟩, ?_⟩) | exact ⟨[], rfl, trivial, rfl⟩ | fail)
theorem alive_h : Holds Try.prog 10 aliveS := holds_of mix Try.func10 aliveLow (fun _ => rfl) aliveV

end Go.Proofs.Ytdkkblcninogdaa
