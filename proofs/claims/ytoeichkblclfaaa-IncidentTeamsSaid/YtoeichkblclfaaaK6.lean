/- The ways of a groomer; the costs of teams; the matrix. -/
import Derived.Test.YtoeichkblclfaaaK5
import Derived.Test.YtoeichkblclfaaaJ2
namespace Go.Proofs.Ytoeichkblclfaaa
open Go.RowKit
def wayO (m : Mp) (a b : Int) : Option Int := if (nodeOf m a).isSome = true ∧ (nodeOf m b).isSome = true then (shortO (linesF m) a b).map (·.c) else none
def intT (o : Option Int) : SV := .tup [I (o.getD 0), B o.isSome]
def costF (m : Mp) (node run : Int) : Int := match runOf m run with
  | none => 1000000
  | some x => match wayO m node x.frm with
    | none => 1000000
    | some n => Min.min n 1000000
theorem short_bnd {E : List Ed} (hE : OkE E) {a b : Int} {v : Lab} (h : shortO E a b = some v) : 0 ≤ v.c := ((lengths_least hE b).pos hE h).1
theorem cost_bnd {m : Mp} (hm : MapOk m) (node run : Int) : 0 ≤ costF m node run ∧ costF m node run ≤ 1000000 := by
  unfold costF
  cases runOf m run with
  | none => exact ⟨by dsimp only; omega, by dsimp only; omega⟩
  | some x =>
    dsimp only
    cases hw : wayO m node x.frm with
    | none => exact ⟨by dsimp only; omega, by dsimp only; omega⟩
    | some n =>
      have hn : 0 ≤ n := by
        unfold wayO at hw
        split at hw
        · cases hs : shortO (linesF m) node x.frm with
          | none => rw [hs] at hw; cases hw
          | some v => rw [hs] at hw; cases hw; exact short_bnd hm.lines.2 hs
        · cases hw
      exact ⟨by show 0 ≤ Min.min n 1000000; omega, by show Min.min n 1000000 ≤ 1000000; omega⟩
theorem way_no1 {m : Mp} {a b : Int} (h : nodeOf m a = none) : wayO m a b = none := if_neg (by rw [h]; rintro ⟨h, _⟩; cases h)
theorem way_no2 {m : Mp} {a b : Int} (h : nodeOf m b = none) : wayO m a b = none := if_neg (by rw [h]; rintro ⟨_, h⟩; cases h)
theorem way_yes {m : Mp} {a b : Int} {x y : Node} (h : nodeOf m a = some x) (h2 : nodeOf m b = some y) : wayO m a b = (shortO (linesF m) a b).map (·.c) := if_pos (by rw [h, h2]; exact ⟨rfl, rfl⟩)

/-! skiarea/groomer.Way -/
def wayIr : IFn := ⟨43, [.tmp 6, .tmp 7],
  (.seq (.ops [
    ⟨(some 3), .box, [.tmp 0], none⟩,
    ⟨(some 6), .mov, [.const (.int .i64 0)], none⟩,
    ⟨(some 7), .mov, [.const (.bool false)], none⟩] false)
  (.seq (.seq (.ops [
    ⟨(some 16), .load 4 true, [.tmp 3], none⟩,
    ⟨(some 17), .mov, [.tmp 1], none⟩,
    ⟨(some 18), .call 95, [.tmp 16, .tmp 17], none⟩,
    ⟨(some 15), .mov, [.tmp 18], none⟩,
    ⟨(some 19), .extract 0, [.tmp 15], none⟩,
    ⟨(some 20), .extract 1, [.tmp 15], none⟩,
    ⟨(some 8), .alloc [.int .i64 0, .int .i64 0], [], none⟩,
    ⟨none, .store 2, [.tmp 8, .tmp 19], none⟩,
    ⟨(some 9), .mov, [.tmp 20], none⟩] false)
  (.seq (.ops [
    ⟨(some 21), .mov, [.tmp 9], none⟩,
    ⟨(some 22), .not, [.tmp 21], none⟩] false)
  (.cond (.tmp 22)
    (.seq (.ops [
      ⟨(some 6), .mov, [.const (.int .i64 0)], none⟩,
      ⟨(some 7), .mov, [.const (.bool false)], none⟩] false)
    .ret)
    .skip)))
  (.seq (.seq (.ops [
    ⟨(some 24), .load 4 true, [.tmp 3], none⟩,
    ⟨(some 25), .mov, [.tmp 2], none⟩,
    ⟨(some 26), .call 95, [.tmp 24, .tmp 25], none⟩,
    ⟨(some 23), .mov, [.tmp 26], none⟩,
    ⟨(some 27), .extract 0, [.tmp 23], none⟩,
    ⟨(some 28), .extract 1, [.tmp 23], none⟩,
    ⟨(some 10), .alloc [.int .i64 0, .int .i64 0], [], none⟩,
    ⟨none, .store 2, [.tmp 10, .tmp 27], none⟩,
    ⟨(some 11), .mov, [.tmp 28], none⟩] false)
  (.seq (.ops [
    ⟨(some 29), .mov, [.tmp 11], none⟩,
    ⟨(some 30), .not, [.tmp 29], none⟩] false)
  (.cond (.tmp 30)
    (.seq (.ops [
      ⟨(some 6), .mov, [.const (.int .i64 0)], none⟩,
      ⟨(some 7), .mov, [.const (.bool false)], none⟩] false)
    .ret)
    .skip)))
  (.seq (.ops [
    ⟨(some 32), .load 4 true, [.tmp 3], none⟩,
    ⟨(some 33), .call 97, [.tmp 32], none⟩,
    ⟨(some 34), .mov, [.tmp 1], none⟩,
    ⟨(some 35), .mov, [.tmp 2], none⟩,
    ⟨(some 36), .call 96, [.tmp 33, .tmp 34, .tmp 35], none⟩,
    ⟨(some 31), .mov, [.tmp 36], none⟩,
    ⟨(some 37), .extract 0, [.tmp 31], none⟩,
    ⟨(some 38), .extract 1, [.tmp 31], none⟩,
    ⟨(some 39), .extract 2, [.tmp 31], none⟩,
    ⟨(some 12), .mov, [.tmp 37], none⟩,
    ⟨(some 13), .mov, [.tmp 38], none⟩,
    ⟨(some 14), .mov, [.tmp 39], none⟩] false)
  (.seq (.seq (.ops [
    ⟨(some 40), .mov, [.tmp 14], none⟩,
    ⟨(some 41), .not, [.tmp 40], none⟩] false)
  (.cond (.tmp 41)
    (.seq (.ops [
      ⟨(some 6), .mov, [.const (.int .i64 0)], none⟩,
      ⟨(some 7), .mov, [.const (.bool false)], none⟩] false)
    .ret)
    .skip))
  (.seq (.ops [
    ⟨(some 42), .mov, [.tmp 13], none⟩,
    ⟨(some 6), .mov, [.tmp 42], none⟩,
    ⟨(some 7), .mov, [.const (.bool true)], none⟩] false)
  .ret))))))⟩
theorem wayLow : lowF Try.prog {} Try.f77 = some wayIr := by kernel_rfl
def wayS : Spec := spec (Mp × Int × Int) (fun p => [aM p.1, I p.2.1, I p.2.2]) (fun p => MapOk p.1) (fun p => intT (wayO p.1 p.2.1 p.2.2))
theorem wayV : fnV Try.prog wayIr wayS := by
  intro ⟨(m : Mp), (a : Int), (b : Int)⟩ hm
  replace hm : MapOk m := hm
  show vc _ _ _ _ ⟨argEnv 0 [aM m, I a, I b], [], 0⟩
  cases ha : nodeOf m a with
  | none =>
    repeat' ((conv => whnf); first | (refine ⟨fun h => ?_, fun h => ?_⟩ <;> try (exfalso; first | omega | exact absurd h (by decide) | exact h rfl | exact absurd (show true = false from h) (by decide) | exact absurd (show false = true from h) (by decide))) | (refine ⟨_, node_h, (m, a), hm.ok, leVs_of_eq rfl, .inl rfl, rfl, ?_⟩; show norm (foundT encN node0 (nodeOf m a)) _; rw [ha]; show norm (.tup [aN node0, B false]) _) | fail | fail)
    refine ⟨[], rfl, trivial, ?_⟩
    show leR _ (intT (wayO m a b))
    rw [way_no1 ha]
    exact ⟨leV_refl _, leV_refl _, trivial⟩
  | some x =>
    cases hb : nodeOf m b with
    | none =>
      repeat' ((conv => whnf); first | (refine ⟨fun h => ?_, fun h => ?_⟩ <;> try (exfalso; first | omega | exact absurd h (by decide) | exact h rfl | exact absurd (show true = false from h) (by decide) | exact absurd (show false = true from h) (by decide))) | (refine ⟨_, node_h, (m, a), hm.ok, leVs_of_eq rfl, .inl rfl, rfl, ?_⟩; show norm (foundT encN node0 (nodeOf m a)) _; rw [ha]; show norm (.tup [aN x, B true]) _) | (refine ⟨_, node_h, (m, b), hm.ok, leVs_of_eq rfl, .inl rfl, rfl, ?_⟩; show norm (foundT encN node0 (nodeOf m b)) _; rw [hb]; show norm (.tup [aN node0, B false]) _) | fail | fail)
      refine ⟨[], rfl, trivial, ?_⟩
      show leR _ (intT (wayO m a b))
      rw [way_no2 hb]
      exact ⟨leV_refl _, leV_refl _, trivial⟩
    | some y =>
      cases hs : shortO (linesF m) a b with
      | none =>
        repeat' ((conv => whnf); first | (refine ⟨fun h => ?_, fun h => ?_⟩ <;> try (exfalso; first | omega | exact absurd h (by decide) | exact h rfl | exact absurd (show true = false from h) (by decide) | exact absurd (show false = true from h) (by decide))) | (refine ⟨_, node_h, (m, a), hm.ok, leVs_of_eq rfl, .inl rfl, rfl, ?_⟩; show norm (foundT encN node0 (nodeOf m a)) _; rw [ha]; show norm (.tup [aN x, B true]) _) | (refine ⟨_, node_h, (m, b), hm.ok, leVs_of_eq rfl, .inl rfl, rfl, ?_⟩; show norm (foundT encN node0 (nodeOf m b)) _; rw [hb]; show norm (.tup [aN y, B true]) _) | (refine ⟨_, lines_h, m, hm, leVs_of_eq rfl, .inl rfl, rfl, ?_⟩; show norm (L 4 ((linesF m).map encD)) _) | (refine ⟨_, short_h, (linesF m, a, b), hm.lines, leVs_of_eq rfl, .inl rfl, rfl, ?_⟩; show norm (shortT (shortO (linesF m) a b)) _; rw [hs]; show norm (.tup [.none_, I 0, B false]) _) | fail | fail)
        refine ⟨[], rfl, trivial, ?_⟩
        show leR _ (intT (wayO m a b))
        rw [way_yes ha hb, hs]
        exact ⟨leV_refl _, leV_refl _, trivial⟩
      | some v =>
        repeat' ((conv => whnf); first | (refine ⟨fun h => ?_, fun h => ?_⟩ <;> try (exfalso; first | omega | exact absurd h (by decide) | exact h rfl | exact absurd (show true = false from h) (by decide) | exact absurd (show false = true from h) (by decide))) | (refine ⟨_, node_h, (m, a), hm.ok, leVs_of_eq rfl, .inl rfl, rfl, ?_⟩; show norm (foundT encN node0 (nodeOf m a)) _; rw [ha]; show norm (.tup [aN x, B true]) _) | (refine ⟨_, node_h, (m, b), hm.ok, leVs_of_eq rfl, .inl rfl, rfl, ?_⟩; show norm (foundT encN node0 (nodeOf m b)) _; rw [hb]; show norm (.tup [aN y, B true]) _) | (refine ⟨_, lines_h, m, hm, leVs_of_eq rfl, .inl rfl, rfl, ?_⟩; show norm (L 4 ((linesF m).map encD)) _) | (refine ⟨_, short_h, (linesF m, a, b), hm.lines, leVs_of_eq rfl, .inl rfl, rfl, ?_⟩; show norm (shortT (shortO (linesF m) a b)) _; rw [hs]; show norm (.tup [.none_, I v.c, B true]) _) | fail | fail)
        refine ⟨[], rfl, trivial, ?_⟩
        show leR _ (intT (wayO m a b))
        rw [way_yes ha hb, hs]
        exact ⟨leV_refl _, leV_refl _, trivial⟩
theorem way_h : Holds Try.prog 77 wayS := holds_of mix Try.func77 wayLow (fun _ => rfl) wayV

/-! skiarea/incident.cost -/
def tcostIr : IFn := ⟨30, [.tmp 6],
  (.seq (.ops [
    ⟨(some 3), .box, [.tmp 0], none⟩,
    ⟨(some 6), .mov, [.const (.int .i64 0)], none⟩] false)
  (.seq (.ops [
    ⟨(some 11), .load 4 true, [.tmp 3], none⟩,
    ⟨(some 12), .mov, [.tmp 2], none⟩,
    ⟨(some 13), .call 76, [.tmp 11, .tmp 12], none⟩,
    ⟨(some 10), .mov, [.tmp 13], none⟩,
    ⟨(some 14), .extract 0, [.tmp 10], none⟩,
    ⟨(some 15), .extract 1, [.tmp 10], none⟩,
    ⟨(some 7), .alloc [.int .i64 0, .int .i64 0, .int .i64 0, .int .i64 0, .int .i64 0, .int .i64 0, .int .i64 0], [], none⟩,
    ⟨none, .store 7, [.tmp 7, .tmp 14], none⟩,
    ⟨(some 8), .mov, [.tmp 15], none⟩] false)
  (.seq (.seq (.ops [
    ⟨(some 16), .mov, [.tmp 8], none⟩,
    ⟨(some 17), .not, [.tmp 16], none⟩] false)
  (.cond (.tmp 17)
    (.seq (.ops [
      ⟨(some 6), .mov, [.const (.int .i64 1000000)], none⟩] false)
    .ret)
    .skip))
  (.seq (.ops [
    ⟨(some 19), .load 4 true, [.tmp 3], none⟩,
    ⟨(some 20), .mov, [.tmp 1], none⟩,
    ⟨(some 21), .faddr 2, [.tmp 7], none⟩,
    ⟨(some 22), .load 1 false, [.tmp 21], none⟩,
    ⟨(some 23), .call 77, [.tmp 19, .tmp 20, .tmp 22], none⟩,
    ⟨(some 18), .mov, [.tmp 23], none⟩,
    ⟨(some 24), .extract 0, [.tmp 18], none⟩,
    ⟨(some 25), .extract 1, [.tmp 18], none⟩,
    ⟨(some 9), .mov, [.tmp 24], none⟩,
    ⟨(some 8), .mov, [.tmp 25], none⟩] false)
  (.seq (.seq (.ops [
    ⟨(some 26), .mov, [.tmp 8], none⟩,
    ⟨(some 27), .not, [.tmp 26], none⟩] false)
  (.cond (.tmp 27)
    (.seq (.ops [
      ⟨(some 6), .mov, [.const (.int .i64 1000000)], none⟩] false)
    .ret)
    .skip))
  (.seq (.ops [
    ⟨(some 28), .mov, [.tmp 9], none⟩,
    ⟨(some 29), .min, [.tmp 28, .const (.int .i64 1000000)], none⟩,
    ⟨(some 6), .mov, [.tmp 29], none⟩] false)
  .ret))))))⟩
theorem tcostLow : lowF Try.prog {} Try.f50 = some tcostIr := by kernel_rfl
def tcostS : Spec := spec (Mp × Int × Int) (fun p => [aM p.1, I p.2.1, I p.2.2]) (fun p => MapOk p.1) (fun p => I (costF p.1 p.2.1 p.2.2))
theorem tcostV : fnV Try.prog tcostIr tcostS := by
  intro ⟨(m : Mp), (n : Int), (r : Int)⟩ hm
  replace hm : MapOk m := hm
  show vc _ _ _ _ ⟨argEnv 0 [aM m, I n, I r], [], 0⟩
  cases hr : runOf m r with
  | none =>
    repeat' ((conv => whnf); first | (refine ⟨fun h => ?_, fun h => ?_⟩ <;> try (exfalso; first | omega | exact absurd h (by decide) | exact h rfl | exact absurd (show true = false from h) (by decide) | exact absurd (show false = true from h) (by decide))) | (refine ⟨_, run_h, (m, r), hm.ok, leVs_of_eq rfl, .inl rfl, rfl, ?_⟩; show norm (foundT encU run0 (runOf m r)) _; rw [hr]; show norm (.tup [aU run0, B false]) _) | fail | fail)
    refine ⟨[], rfl, trivial, congrArg (CV.int .i64) ?_⟩
    show _ = costF m n r
    unfold costF
    rw [hr]
  | some x =>
    cases hw : wayO m n x.frm with
    | none =>
      repeat' ((conv => whnf); first | (refine ⟨fun h => ?_, fun h => ?_⟩ <;> try (exfalso; first | omega | exact absurd h (by decide) | exact h rfl | exact absurd (show true = false from h) (by decide) | exact absurd (show false = true from h) (by decide))) | (refine ⟨_, run_h, (m, r), hm.ok, leVs_of_eq rfl, .inl rfl, rfl, ?_⟩; show norm (foundT encU run0 (runOf m r)) _; rw [hr]; show norm (.tup [aU x, B true]) _) | (refine ⟨_, way_h, (m, n, x.frm), hm, leVs_of_eq rfl, .inl rfl, rfl, ?_⟩; show norm (intT (wayO m n x.frm)) _; rw [hw]; show norm (.tup [I 0, B false]) _) | fail | fail)
      refine ⟨[], rfl, trivial, congrArg (CV.int .i64) ?_⟩
      show _ = costF m n r
      unfold costF
      rw [hr]
      dsimp only
      rw [hw]
    | some c =>
      repeat' ((conv => whnf); first | (refine ⟨fun h => ?_, fun h => ?_⟩ <;> try (exfalso; first | omega | exact absurd h (by decide) | exact h rfl | exact absurd (show true = false from h) (by decide) | exact absurd (show false = true from h) (by decide))) | (refine ⟨_, run_h, (m, r), hm.ok, leVs_of_eq rfl, .inl rfl, rfl, ?_⟩; show norm (foundT encU run0 (runOf m r)) _; rw [hr]; show norm (.tup [aU x, B true]) _) | (refine ⟨_, way_h, (m, n, x.frm), hm, leVs_of_eq rfl, .inl rfl, rfl, ?_⟩; show norm (intT (wayO m n x.frm)) _; rw [hw]; show norm (.tup [I c, B true]) _) | fail | fail)
      refine ⟨[], rfl, trivial, congrArg (CV.int .i64) ?_⟩
      show _ = costF m n r
      unfold costF
      rw [hr]
      dsimp only
      rw [hw]
theorem tcost_h : Holds Try.prog 50 tcostS := holds_of mix Try.func50 tcostLow (fun _ => rfl) tcostV
abbrev cellsM (m : Mp) : List CV := [.sl 2 (m.nodes.map encN), .sl 8 (m.lifts.map encL), .sl 7 (m.runs.map encU), .sl 1 (m.bases.map e1)]
abbrev pairS (m : Mp) (g : Int → Int → Int) : Spec := spec (Int × Int) (fun p => [I p.1, I p.2, .rp (cellsM m)]) (fun _ => MapOk m) (fun p => I (g p.1 p.2))

/-! skiarea/incident.Plan$1 -/
def byrunIr : IFn := ⟨10, [.tmp 5],
  (.seq (.ops [
    ⟨(some 5), .mov, [.const (.int .i64 0)], none⟩] false)
  (.seq (.ops [
    ⟨(some 6), .load 4 true, [.tmp 2], none⟩,
    ⟨(some 7), .mov, [.tmp 1], none⟩,
    ⟨(some 8), .mov, [.tmp 0], none⟩,
    ⟨(some 9), .call 50, [.tmp 6, .tmp 7, .tmp 8], none⟩,
    ⟨(some 5), .mov, [.tmp 9], none⟩] false)
  .ret))⟩
theorem byrunLow : lowF Try.prog {} Try.f49 = some byrunIr := by kernel_rfl
def byrunS : Spec := spec (Mp × Int × Int) (fun p => [I p.2.1, I p.2.2, .rp (cellsM p.1)]) (fun p => MapOk p.1) (fun p => I (costF p.1 p.2.2 p.2.1))
theorem byrunV : fnV Try.prog byrunIr byrunS := by
  intro ⟨(m : Mp), (a : Int), (b : Int)⟩ hm
  replace hm : MapOk m := hm
  show vc _ _ _ _ ⟨argEnv 0 [I a, I b, .rp (cellsM m)], [], 0⟩
  repeat' ((conv => whnf); first | (refine ⟨fun h => ?_, fun h => ?_⟩ <;> try (exfalso; first | omega | exact absurd h (by decide) | exact h rfl | exact absurd (show true = false from h) (by decide) | exact absurd (show false = true from h) (by decide))) | (refine ⟨_, tcost_h, (m, b, a), hm, ⟨(by show leV (aM m) (aM m); exact leV_refl _), rfl, rfl, trivial⟩, .inl rfl, rfl, ?_⟩; show norm (I (costF m b a)) _) | fail | fail)
  exact ⟨[], rfl, trivial, rfl⟩
theorem byrun_h : Holds Try.prog 49 byrunS := holds_of mix Try.func49 byrunLow (fun _ => rfl) byrunV
theorem byrun_c : callable Try.prog 49 = true := by kernel_rfl
theorem byrun_p (m : Mp) : Holds Try.prog 49 (pairS m fun a b => costF m b a) := fun x F w vs hp hF hr => byrun_h (m, x) F w vs hp hF hr

/-! skiarea/incident.Plan$2 -/
def bynodeIr : IFn := ⟨10, [.tmp 5],
  (.seq (.ops [
    ⟨(some 5), .mov, [.const (.int .i64 0)], none⟩] false)
  (.seq (.ops [
    ⟨(some 6), .load 4 true, [.tmp 2], none⟩,
    ⟨(some 7), .mov, [.tmp 0], none⟩,
    ⟨(some 8), .mov, [.tmp 1], none⟩,
    ⟨(some 9), .call 50, [.tmp 6, .tmp 7, .tmp 8], none⟩,
    ⟨(some 5), .mov, [.tmp 9], none⟩] false)
  .ret))⟩
theorem bynodeLow : lowF Try.prog {} Try.f51 = some bynodeIr := by kernel_rfl
def bynodeS : Spec := spec (Mp × Int × Int) (fun p => [I p.2.1, I p.2.2, .rp (cellsM p.1)]) (fun p => MapOk p.1) (fun p => I (costF p.1 p.2.1 p.2.2))
theorem bynodeV : fnV Try.prog bynodeIr bynodeS := by
  intro ⟨(m : Mp), (a : Int), (b : Int)⟩ hm
  replace hm : MapOk m := hm
  show vc _ _ _ _ ⟨argEnv 0 [I a, I b, .rp (cellsM m)], [], 0⟩
  repeat' ((conv => whnf); first | (refine ⟨fun h => ?_, fun h => ?_⟩ <;> try (exfalso; first | omega | exact absurd h (by decide) | exact h rfl | exact absurd (show true = false from h) (by decide) | exact absurd (show false = true from h) (by decide))) | (refine ⟨_, tcost_h, (m, a, b), hm, ⟨(by show leV (aM m) (aM m); exact leV_refl _), rfl, rfl, trivial⟩, .inl rfl, rfl, ?_⟩; show norm (I (costF m a b)) _) | fail | fail)
  exact ⟨[], rfl, trivial, rfl⟩
theorem bynode_h : Holds Try.prog 51 bynodeS := holds_of mix Try.func51 bynodeLow (fun _ => rfl) bynodeV
theorem bynode_c : callable Try.prog 51 = true := by kernel_rfl
theorem bynode_p (m : Mp) : Holds Try.prog 51 (pairS m fun a b => costF m a b) := fun x F w vs hp hF hr => bynode_h (m, x) F w vs hp hF hr
structure MatX where
  rows : List Int
  cols : List Int
  f : Nat
  m : Mp
  g : Int → Int → Int
def MatX.ok (x : MatX) : Prop := (x.rows.length ≤ 1000 ∧ x.cols.length ≤ 1000) ∧ MapOk x.m ∧ callable Try.prog x.f = true ∧ Holds Try.prog x.f (pairS x.m x.g)
def matF (g : Int → Int → Int) (rows cols : List Int) : List (List Int) := rows.map fun r => cols.map fun c => g r c

/-! skiarea/incident.matrix -/
def matrixIr : IFn := ⟨45, [.tmp 6],
  (.seq (.ops [
    ⟨(some 6), .mov, [.const (.slice none 0 0)], none⟩] false)
  (.seq (.ops [
    ⟨(some 13), .mov, [.tmp 0], none⟩,
    ⟨(some 14), .len, [.tmp 13], none⟩,
    ⟨(some 15), .mksl 33 1 24 [.nil], [.const (.int .i64 0), .tmp 14], none⟩,
    ⟨(some 7), .mov, [.tmp 15], none⟩] false)
  (.seq (.seq (.ops [
    ⟨(some 16), .mov, [.tmp 0], none⟩,
    ⟨(some 17), .len, [.tmp 16], none⟩,
    ⟨(some 18), .mov, [.const (.int .i64 0)], none⟩] false)
  (.block 0
    (.loop
      (.seq (.ops [
        ⟨(some 19), .cmp .lss, [.tmp 18, .tmp 17], none⟩] false)
      (.seq (.cond (.tmp 19)
        .skip
        (.exit 0))
      (.seq (.block 1
        (.seq (.ops [
          ⟨(some 20), .idx 1, [.tmp 16, .tmp 18], none⟩,
          ⟨(some 21), .load 1 false, [.tmp 20], none⟩,
          ⟨(some 9), .mov, [.tmp 21], none⟩] false)
        (.seq (.ops [
          ⟨(some 22), .mov, [.tmp 1], none⟩,
          ⟨(some 23), .len, [.tmp 22], none⟩,
          ⟨(some 24), .mksl 3 1 8 [.int .i64 0], [.const (.int .i64 0), .tmp 23], none⟩,
          ⟨(some 10), .mov, [.tmp 24], none⟩] false)
        (.seq (.seq (.ops [
          ⟨(some 25), .mov, [.tmp 1], none⟩,
          ⟨(some 26), .len, [.tmp 25], none⟩,
          ⟨(some 27), .mov, [.const (.int .i64 0)], none⟩] false)
        (.block 2
          (.loop
            (.seq (.ops [
              ⟨(some 28), .cmp .lss, [.tmp 27, .tmp 26], none⟩] false)
            (.seq (.cond (.tmp 28)
              .skip
              (.exit 2))
            (.seq (.block 3
              (.seq (.ops [
                ⟨(some 29), .idx 1, [.tmp 25, .tmp 27], none⟩,
                ⟨(some 30), .load 1 false, [.tmp 29], none⟩,
                ⟨(some 12), .mov, [.tmp 30], none⟩] false)
              (.ops [
                ⟨(some 31), .mov, [.tmp 10], none⟩,
                ⟨(some 32), .mov, [.tmp 2], none⟩,
                ⟨(some 33), .mov, [.tmp 9], none⟩,
                ⟨(some 34), .mov, [.tmp 12], none⟩,
                ⟨(some 35), .callv, [.tmp 32, .tmp 33, .tmp 34], none⟩,
                ⟨(some 36), .buildSl 3 1, [.tmp 35], none⟩,
                ⟨(some 37), .append 3 1 8, [.tmp 31, .tmp 36], none⟩,
                ⟨(some 10), .mov, [.tmp 37], none⟩] false)))
            (.ops [
              ⟨(some 38), .bin .add .i64 false, [.tmp 27, .const (.int .i64 1)], none⟩,
              ⟨(some 27), .mov, [.tmp 38], none⟩] false)))))))
        (.seq (.sealc 10)
        (.ops [
          ⟨(some 39), .mov, [.tmp 7], none⟩,
          ⟨(some 40), .mov, [.tmp 10], none⟩,
          ⟨(some 41), .buildSl 33 1, [.tmp 40], none⟩,
          ⟨(some 42), .append 33 1 24, [.tmp 39, .tmp 41], none⟩,
          ⟨(some 7), .mov, [.tmp 42], none⟩] false))))))
      (.ops [
        ⟨(some 43), .bin .add .i64 false, [.tmp 18, .const (.int .i64 1)], none⟩,
        ⟨(some 18), .mov, [.tmp 43], none⟩] false)))))))
  (.seq (.ops [
    ⟨(some 44), .mov, [.tmp 7], none⟩,
    ⟨(some 6), .mov, [.tmp 44], none⟩] false)
  .ret))))⟩
theorem matrixLow : lowF Try.prog { seals := [(39, 10)] } Try.f48 = some matrixIr := by kernel_rfl
def matrixS : Spec := spec MatX (fun x => [L 1 (x.rows.map e1), L 1 (x.cols.map e1), .fn x.f [.rp (cellsM x.m)]]) MatX.ok (fun x => L 1 ((matF x.g x.rows x.cols).map encR))
set_option maxHeartbeats 2000000 in
theorem matrixV : fnV Try.prog matrixIr matrixS := by
  intro ⟨(rows : List Int), (cols : List Int), (f : Nat), (m : Mp), (g : Int → Int → Int)⟩ ho
  obtain ⟨⟨hn1, hn2⟩, hm, hc, hf⟩ : (rows.length ≤ 1000 ∧ cols.length ≤ 1000) ∧ MapOk m ∧ callable Try.prog f = true ∧ Holds Try.prog f (pairS m g) := ho
  have hl : (rows.map e1).length = rows.length := List.length_map ..
  have hl2 : (cols.map e1).length = cols.length := List.length_map ..
  show vc _ _ _ _ ⟨argEnv 0 [L 1 (rows.map e1), L 1 (cols.map e1), .fn f [.rp (cellsM m)]], [], 0⟩
  repeat' ((conv => whnf); first | (refine ⟨fun h => ?_, fun h => ?_⟩ <;> try (exfalso; first | omega | exact absurd h (by decide) | exact h rfl | exact absurd (show true = false from h) (by decide) | exact absurd (show false = true from h) (by decide))) | refine ⟨⟨by omega, by omega, by omega, by omega⟩, ?_⟩ | fail | fail)
  refine ⟨Nat × (List (List Int)), fun xq => ⟨[(1, L 1 (cols.map e1)), (2, .fn f [.rp (cellsM m)]), (7, .osl 0), (16, L 1 (rows.map e1)), (17, I (rows.map e1).length), (18, I xq.1)], [(0, .row 33 1 ((xq.2).map encR))], 1⟩, fun xq => xq.1 ≤ rows.length ∧ xq.2 = matF g (rows.take xq.1) cols, fun xq => rows.length - xq.1, ⟨(0, []), ?_, [], ⟨⟨rfl, rfl⟩, ⟨⟨rfl, rfl⟩, ⟨⟨rfl, rfl⟩, ⟨⟨rfl, rfl⟩, ⟨⟨rfl, rfl⟩, ⟨⟨rfl, rfl⟩, trivial⟩⟩⟩⟩⟩⟩, ⟨⟨rfl, rfl, rfl⟩, trivial⟩, rfl, rfl, rfl⟩, ?_⟩
  · (try dsimp only); exact ⟨Nat.zero_le _, rfl⟩
  rintro ⟨k, E⟩ hk
  obtain ⟨hk, hE⟩ : k ≤ rows.length ∧ E = matF g (rows.take k) cols := hk
  (try dsimp only)
  have hEl : E.length ≤ 1000 := by rw [hE]; unfold matF; rw [List.length_map, List.length_take]; omega
  by_cases hkl : k < rows.length
  · obtain ⟨r, hx⟩ := getElem_some hkl
    repeat' ((conv => whnf); first | (refine ⟨fun h => ?_, fun h => ?_⟩ <;> try (exfalso; first | omega | exact absurd h (by decide) | exact h rfl | exact absurd (show true = false from h) (by decide) | exact absurd (show false = true from h) (by decide))) | refine ⟨⟨by omega, by omega, by omega, by omega⟩, ?_⟩ | (refine ⟨by omega, fun r2 hrr => ?_⟩; first | ((have hre : r2 = e1 r := by (first | exact get_row hrr hx | fail)); subst hre)) | fail | fail)
    refine ⟨Nat × (List Int), fun xq => ⟨[(1, L 1 (cols.map e1)), (2, .fn f [.rp (cellsM m)]), (7, .osl 0), (9, I r), (10, .osl 1), (16, L 1 (rows.map e1)), (17, I (rows.map e1).length), (18, I k), (25, L 1 (cols.map e1)), (26, I (cols.map e1).length), (27, I xq.1)], [(0, .row 33 1 (E.map encR)), (1, .row 3 1 ((xq.2).map e1))], 2⟩, fun xq => xq.1 ≤ cols.length ∧ xq.2 = (cols.take xq.1).map fun c => g r c, fun xq => cols.length - xq.1, ⟨(0, []), ?_, [], ⟨⟨rfl, rfl⟩, ⟨⟨rfl, rfl⟩, ⟨⟨rfl, rfl⟩, ⟨⟨rfl, rfl⟩, ⟨⟨rfl, rfl⟩, ⟨⟨rfl, rfl⟩, ⟨⟨rfl, rfl⟩, ⟨⟨rfl, rfl⟩, ⟨⟨rfl, rfl⟩, ⟨⟨rfl, rfl⟩, ⟨⟨rfl, rfl⟩, trivial⟩⟩⟩⟩⟩⟩⟩⟩⟩⟩⟩, ⟨⟨rfl, rfl, rfl⟩, ⟨⟨rfl, rfl, rfl⟩, trivial⟩⟩, rfl, rfl, rfl⟩, ?_⟩
    · (try dsimp only); exact ⟨Nat.zero_le _, rfl⟩
    rintro ⟨j, G⟩ hk
    obtain ⟨hj, hG⟩ : j ≤ cols.length ∧ G = (cols.take j).map fun c => g r c := hk
    (try dsimp only)
    have hGl : G.length ≤ 1000 := by rw [hG, List.length_map, List.length_take]; omega
    by_cases hjl : j < cols.length
    · obtain ⟨c, hx2⟩ := getElem_some hjl
      have hst : G ++ [g r c] = (cols.take (j + 1)).map fun c => g r c := by rw [take_snoc cols j c hx2, List.map_append, ← hG]; rfl
      have hap : (G.map e1) ++ [[CV.int .i64 (g r c)]] = (G ++ [g r c]).map e1 := (List.map_append (f := e1) (l₁ := G) (l₂ := [g r c])).symm
      repeat' ((conv => whnf); first | (refine ⟨fun h => ?_, fun h => ?_⟩ <;> try (exfalso; first | omega | exact absurd h (by decide) | exact h rfl | exact absurd (show true = false from h) (by decide) | exact absurd (show false = true from h) (by decide))) | (refine ⟨by omega, fun r2 hrr => ?_⟩; first | ((have hre : r2 = e1 c := by (first | exact get_row hrr hx2 | fail)); subst hre)) | (refine And.intro (by with_reducible assumption) ?_; refine ⟨_, hf, (r, c), hm, leVs_of_eq rfl, .inl rfl, rfl, ?_⟩; show norm (I (g r c)) _) | (refine ⟨(j + 1, G ++ [g r c]), ⟨?_, by (try dsimp only); omega⟩, [(1, 2)], ⟨⟨rfl, rfl⟩, ⟨⟨rfl, rfl⟩, ⟨⟨rfl, rfl⟩, ⟨⟨rfl, rfl⟩, ⟨⟨rfl, rfl⟩, ⟨⟨rfl, rfl⟩, ⟨⟨rfl, rfl⟩, ⟨⟨rfl, rfl⟩, ⟨⟨rfl, rfl⟩, ⟨⟨rfl, rfl⟩, ⟨⟨rfl, rfl⟩, trivial⟩⟩⟩⟩⟩⟩⟩⟩⟩⟩⟩, ⟨⟨rfl, rfl, rfl⟩, ⟨congrArg (fun es => some (Ob.row 3 1 es)) hap, rfl, rfl⟩, trivial⟩, rfl, rfl, rfl⟩; (try dsimp only); exact ⟨by omega, hst⟩) | (refine And.intro (And.intro (by simp; omega) (by simp; omega)) ?_) | (refine And.intro (And.intro (by omega) (by omega)) ?_) | fail | fail)
    · rw [take_end hjl] at hG
      have hst : E ++ [G] = matF g (rows.take (k + 1)) cols := by unfold matF; rw [take_snoc rows k r hx, List.map_append, hE, hG]; rfl
      have hap : (E.map encR) ++ [[CV.sl 1 (G.map e1)]] = (E ++ [G]).map encR := (List.map_append (f := encR) (l₁ := E) (l₂ := [G])).symm
      repeat' ((conv => whnf); first | (refine ⟨fun h => ?_, fun h => ?_⟩ <;> try (exfalso; first | omega | exact absurd h (by decide) | exact h rfl | exact absurd (show true = false from h) (by decide) | exact absurd (show false = true from h) (by decide))) | (refine ⟨(k + 1, E ++ [G]), ⟨?_, by (try dsimp only); omega⟩, [(0, 2)], ⟨⟨rfl, rfl⟩, ⟨⟨rfl, rfl⟩, ⟨⟨rfl, rfl⟩, ⟨⟨rfl, rfl⟩, ⟨⟨rfl, rfl⟩, ⟨⟨rfl, rfl⟩, trivial⟩⟩⟩⟩⟩⟩, ⟨⟨congrArg (fun es => some (Ob.row 33 1 es)) hap, rfl, rfl⟩, trivial⟩, rfl, rfl, rfl⟩; (try dsimp only); exact ⟨by omega, hst⟩) | (refine And.intro (And.intro (by simp; omega) (by simp; omega)) ?_) | (refine And.intro (And.intro (by omega) (by omega)) ?_) | fail | fail)
  · rw [take_end hkl] at hE
    repeat' ((conv => whnf); first | (refine ⟨fun h => ?_, fun h => ?_⟩ <;> try (exfalso; first | omega | exact absurd h (by decide) | exact h rfl | exact absurd (show true = false from h) (by decide) | exact absurd (show false = true from h) (by decide))) | fail | fail)
    refine ⟨[], rfl, trivial, ?_⟩
    show leV (L 1 (E.map encR)) (L 1 ((matF g rows cols).map encR))
    rw [hE]
    exact leV_refl _
theorem matrix_h : Holds Try.prog 48 matrixS := holds_of mix Try.func48 matrixLow (fun _ => rfl) matrixV

end Go.Proofs.Ytoeichkblclfaaa
