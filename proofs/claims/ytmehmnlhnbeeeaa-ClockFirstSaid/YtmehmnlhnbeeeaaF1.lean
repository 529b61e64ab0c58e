/- The clock: days and hours. -/
import Derived.Test.YtmehmnlhnbeeeaaP1
import Derived.Test.YtmehmnlhnbeeeaaChecked
namespace Go.Proofs.Ytmehmnlhnbeeeaa
open Go.RowKit
theorem mix : Try.prog.follows .mixedOrders = true := by kernel_rfl
abbrev encH (r : Hours) : List CV := [.int .i64 r.days, .int .i64 r.frm, .int .i64 r.to]
abbrev aH (r : Hours) : SV := .agg ((encH r).map .c)

/-! skiarea/clock.isTime -/
def isTimeIr : IFn := ⟨9, [.tmp 2],
  (.seq (.ops [
    ⟨(some 2), .mov, [.const (.bool false)], none⟩] false)
  (.seq (.ops [
    ⟨(some 3), .mov, [.tmp 0], none⟩,
    ⟨(some 4), .cmp .geq, [.tmp 3, .const (.int .i64 0)], none⟩,
    ⟨(some 5), .mov, [.tmp 4], none⟩,
    ⟨(some 6), .mov, [.tmp 0], (some (5, true))⟩,
    ⟨(some 7), .cmp .leq, [.tmp 6, .const (.int .i64 20000000)], (some (5, true))⟩,
    ⟨(some 8), .pick, [.tmp 5, .tmp 7, .const (.bool false)], none⟩,
    ⟨(some 2), .mov, [.tmp 8], none⟩] false)
  .ret))⟩
theorem isTimeLow : lowF Try.prog {} Try.f35 = some isTimeIr := by kernel_rfl
def isTimeS : Spec := spec Int (fun t => [I t]) (fun _ => True) (fun t => B (decide (isT t)))
theorem isTimeV : fnV Try.prog isTimeIr isTimeS := by
  intro (x : Int) hx
  repeat' ((conv => whnf); first | (refine ⟨fun h => ?_, fun h => ?_⟩ <;> try (exfalso; omega)) | refine ⟨[], rfl, trivial, congrArg CV.bool ?_⟩ | refine ⟨[], rfl, trivial, congrArg (CV.int .i64) ?_⟩ | refine ⟨⟨by omega, by omega⟩, ?_⟩ | refine ⟨by omega, ?_⟩ | fail)
  all_goals (first | rfl | refine (decide_eq_true ?_).symm | refine (decide_eq_false ?_).symm)
  all_goals (unfold isT; omega)
theorem isTime_h : Holds Try.prog 35 isTimeS := holds_of mix Try.func35 isTimeLow (fun _ => rfl) isTimeV

/-! skiarea/skiarearef02.time -/
def timeIr : IFn := ⟨9, [.tmp 2],
  (.seq (.ops [
    ⟨(some 2), .mov, [.const (.bool false)], none⟩] false)
  (.seq (.ops [
    ⟨(some 3), .mov, [.tmp 0], none⟩,
    ⟨(some 4), .cmp .geq, [.tmp 3, .const (.int .i64 0)], none⟩,
    ⟨(some 5), .mov, [.tmp 4], none⟩,
    ⟨(some 6), .mov, [.tmp 0], (some (5, true))⟩,
    ⟨(some 7), .cmp .leq, [.tmp 6, .const (.int .i64 20000000)], (some (5, true))⟩,
    ⟨(some 8), .pick, [.tmp 5, .tmp 7, .const (.bool false)], none⟩,
    ⟨(some 2), .mov, [.tmp 8], none⟩] false)
  .ret))⟩
theorem timeLow : lowF Try.prog {} Try.f36 = some timeIr := by kernel_rfl
def timeS : Spec := spec Int (fun t => [I t]) (fun _ => True) (fun t => B (decide (isT t)))
theorem timeV : fnV Try.prog timeIr timeS := by
  intro (x : Int) hx
  repeat' ((conv => whnf); first | (refine ⟨fun h => ?_, fun h => ?_⟩ <;> try (exfalso; omega)) | refine ⟨[], rfl, trivial, congrArg CV.bool ?_⟩ | refine ⟨[], rfl, trivial, congrArg (CV.int .i64) ?_⟩ | refine ⟨⟨by omega, by omega⟩, ?_⟩ | refine ⟨by omega, ?_⟩ | fail)
  all_goals (first | rfl | refine (decide_eq_true ?_).symm | refine (decide_eq_false ?_).symm)
  all_goals (unfold isT; omega)
theorem time_h : Holds Try.prog 36 timeS := holds_of mix Try.func36 timeLow (fun _ => rfl) timeV

/-! skiarea/clock.Day -/
def dayIr : IFn := ⟨8, [.tmp 2],
  (.seq (.ops [
    ⟨(some 2), .mov, [.const (.int .i64 0)], none⟩] false)
  (.seq (.seq (.ops [
    ⟨(some 3), .mov, [.tmp 0], none⟩,
    ⟨(some 4), .call 35, [.tmp 3], none⟩,
    ⟨(some 5), .not, [.tmp 4], none⟩] false)
  (.cond (.tmp 5)
    (.seq (.ops [
      ⟨(some 2), .mov, [.const (.int .i64 (-1))], none⟩] false)
    .ret)
    .skip))
  (.seq (.ops [
    ⟨(some 6), .mov, [.tmp 0], none⟩,
    ⟨(some 7), .bin .quo .i64 false, [.tmp 6, .const (.int .i64 86400)], none⟩,
    ⟨(some 2), .mov, [.tmp 7], none⟩] false)
  .ret)))⟩
theorem dayLow : lowF Try.prog {} Try.f12 = some dayIr := by kernel_rfl
def dayS : Spec := spec Int (fun t => [I t]) (fun _ => True) (fun t => I (dayF t))
theorem dayV : fnV Try.prog dayIr dayS := by
  intro (t : Int) hx
  show vc _ _ _ ⟨argEnv 0 [I t], [], 0⟩
  by_cases ht : isT t
  · have h1 : t.tdiv 86400 = t / 86400 := Int.tdiv_eq_ediv_of_nonneg ht.1
    have h2 : (t / 86400).tmod 7 = t / 86400 % 7 := Int.tmod_eq_emod_of_nonneg (by have := ht.1; omega)
    have g1 := ht.1
    have g2 := ht.2
    repeat' ((conv => whnf); first | (refine ⟨fun h => ?_, fun h => ?_⟩ <;> try (exfalso; first | omega | exact absurd h (by decide) | exact h rfl)) | (refine ⟨_, isTime_h, t, trivial, leVs_of_eq rfl, .inl rfl, rfl, ?_⟩; show norm (B (decide (isT t))) _; rw [decide_eq_true ht]) | refine ⟨⟨by decide, by rw [h1]; omega, by rw [h1]; omega⟩, ?_⟩ | refine ⟨[], rfl, trivial, congrArg (CV.int .i64) ?_⟩ | fail)
    rw [dayF, if_pos ht]
  · repeat' ((conv => whnf); first | (refine ⟨fun h => ?_, fun h => ?_⟩ <;> try (exfalso; first | omega | exact absurd h (by decide) | exact h rfl)) | (refine ⟨_, isTime_h, t, trivial, leVs_of_eq rfl, .inl rfl, rfl, ?_⟩; show norm (B (decide (isT t))) _; rw [decide_eq_false ht]) | refine ⟨[], rfl, trivial, congrArg (CV.int .i64) ?_⟩ | fail)
    rw [dayF, if_neg ht]
theorem day_h : Holds Try.prog 12 dayS := holds_of mix Try.func12 dayLow (fun _ => rfl) dayV

/-! skiarea/skiarearef02.Day -/
def rdayIr : IFn := ⟨8, [.tmp 2],
  (.seq (.ops [
    ⟨(some 2), .mov, [.const (.int .i64 0)], none⟩] false)
  (.seq (.seq (.ops [
    ⟨(some 3), .mov, [.tmp 0], none⟩,
    ⟨(some 4), .call 36, [.tmp 3], none⟩,
    ⟨(some 5), .not, [.tmp 4], none⟩] false)
  (.cond (.tmp 5)
    (.seq (.ops [
      ⟨(some 2), .mov, [.const (.int .i64 (-1))], none⟩] false)
    .ret)
    .skip))
  (.seq (.ops [
    ⟨(some 6), .mov, [.tmp 0], none⟩,
    ⟨(some 7), .bin .quo .i64 false, [.tmp 6, .const (.int .i64 86400)], none⟩,
    ⟨(some 2), .mov, [.tmp 7], none⟩] false)
  .ret)))⟩
theorem rdayLow : lowF Try.prog {} Try.f13 = some rdayIr := by kernel_rfl
def rdayS : Spec := spec Int (fun t => [I t]) (fun _ => True) (fun t => I (dayF t))
theorem rdayV : fnV Try.prog rdayIr rdayS := by
  intro (t : Int) hx
  show vc _ _ _ ⟨argEnv 0 [I t], [], 0⟩
  by_cases ht : isT t
  · have h1 : t.tdiv 86400 = t / 86400 := Int.tdiv_eq_ediv_of_nonneg ht.1
    have h2 : (t / 86400).tmod 7 = t / 86400 % 7 := Int.tmod_eq_emod_of_nonneg (by have := ht.1; omega)
    have g1 := ht.1
    have g2 := ht.2
    repeat' ((conv => whnf); first | (refine ⟨fun h => ?_, fun h => ?_⟩ <;> try (exfalso; first | omega | exact absurd h (by decide) | exact h rfl)) | (refine ⟨_, time_h, t, trivial, leVs_of_eq rfl, .inl rfl, rfl, ?_⟩; show norm (B (decide (isT t))) _; rw [decide_eq_true ht]) | refine ⟨⟨by decide, by rw [h1]; omega, by rw [h1]; omega⟩, ?_⟩ | refine ⟨[], rfl, trivial, congrArg (CV.int .i64) ?_⟩ | fail)
    rw [dayF, if_pos ht]
  · repeat' ((conv => whnf); first | (refine ⟨fun h => ?_, fun h => ?_⟩ <;> try (exfalso; first | omega | exact absurd h (by decide) | exact h rfl)) | (refine ⟨_, time_h, t, trivial, leVs_of_eq rfl, .inl rfl, rfl, ?_⟩; show norm (B (decide (isT t))) _; rw [decide_eq_false ht]) | refine ⟨[], rfl, trivial, congrArg (CV.int .i64) ?_⟩ | fail)
    rw [dayF, if_neg ht]
theorem rday_h : Holds Try.prog 13 rdayS := holds_of mix Try.func13 rdayLow (fun _ => rfl) rdayV

/-! skiarea/clock.Second -/
def secIr : IFn := ⟨8, [.tmp 2],
  (.seq (.ops [
    ⟨(some 2), .mov, [.const (.int .i64 0)], none⟩] false)
  (.seq (.seq (.ops [
    ⟨(some 3), .mov, [.tmp 0], none⟩,
    ⟨(some 4), .call 35, [.tmp 3], none⟩,
    ⟨(some 5), .not, [.tmp 4], none⟩] false)
  (.cond (.tmp 5)
    (.seq (.ops [
      ⟨(some 2), .mov, [.const (.int .i64 (-1))], none⟩] false)
    .ret)
    .skip))
  (.seq (.ops [
    ⟨(some 6), .mov, [.tmp 0], none⟩,
    ⟨(some 7), .bin .rem .i64 false, [.tmp 6, .const (.int .i64 86400)], none⟩,
    ⟨(some 2), .mov, [.tmp 7], none⟩] false)
  .ret)))⟩
theorem secLow : lowF Try.prog {} Try.f14 = some secIr := by kernel_rfl
def secS : Spec := spec Int (fun t => [I t]) (fun _ => True) (fun t => I (secF t))
theorem secV : fnV Try.prog secIr secS := by
  intro (t : Int) hx
  show vc _ _ _ ⟨argEnv 0 [I t], [], 0⟩
  by_cases ht : isT t
  · have h1 : t.tdiv 86400 = t / 86400 := Int.tdiv_eq_ediv_of_nonneg ht.1
    have h2 : (t / 86400).tmod 7 = t / 86400 % 7 := Int.tmod_eq_emod_of_nonneg (by have := ht.1; omega)
    have g1 := ht.1
    have g2 := ht.2
    repeat' ((conv => whnf); first | (refine ⟨fun h => ?_, fun h => ?_⟩ <;> try (exfalso; first | omega | exact absurd h (by decide) | exact h rfl)) | (refine ⟨_, isTime_h, t, trivial, leVs_of_eq rfl, .inl rfl, rfl, ?_⟩; show norm (B (decide (isT t))) _; rw [decide_eq_true ht]) | refine ⟨by decide, ?_⟩ | refine ⟨[], rfl, trivial, congrArg (CV.int .i64) ?_⟩ | fail)
    rw [secF, if_pos ht]
  · repeat' ((conv => whnf); first | (refine ⟨fun h => ?_, fun h => ?_⟩ <;> try (exfalso; first | omega | exact absurd h (by decide) | exact h rfl)) | (refine ⟨_, isTime_h, t, trivial, leVs_of_eq rfl, .inl rfl, rfl, ?_⟩; show norm (B (decide (isT t))) _; rw [decide_eq_false ht]) | refine ⟨[], rfl, trivial, congrArg (CV.int .i64) ?_⟩ | fail)
    rw [secF, if_neg ht]
theorem sec_h : Holds Try.prog 14 secS := holds_of mix Try.func14 secLow (fun _ => rfl) secV

/-! skiarea/skiarearef02.Second -/
def rsecIr : IFn := ⟨8, [.tmp 2],
  (.seq (.ops [
    ⟨(some 2), .mov, [.const (.int .i64 0)], none⟩] false)
  (.seq (.seq (.ops [
    ⟨(some 3), .mov, [.tmp 0], none⟩,
    ⟨(some 4), .call 36, [.tmp 3], none⟩,
    ⟨(some 5), .not, [.tmp 4], none⟩] false)
  (.cond (.tmp 5)
    (.seq (.ops [
      ⟨(some 2), .mov, [.const (.int .i64 (-1))], none⟩] false)
    .ret)
    .skip))
  (.seq (.ops [
    ⟨(some 6), .mov, [.tmp 0], none⟩,
    ⟨(some 7), .bin .rem .i64 false, [.tmp 6, .const (.int .i64 86400)], none⟩,
    ⟨(some 2), .mov, [.tmp 7], none⟩] false)
  .ret)))⟩
theorem rsecLow : lowF Try.prog {} Try.f15 = some rsecIr := by kernel_rfl
def rsecS : Spec := spec Int (fun t => [I t]) (fun _ => True) (fun t => I (secF t))
theorem rsecV : fnV Try.prog rsecIr rsecS := by
  intro (t : Int) hx
  show vc _ _ _ ⟨argEnv 0 [I t], [], 0⟩
  by_cases ht : isT t
  · have h1 : t.tdiv 86400 = t / 86400 := Int.tdiv_eq_ediv_of_nonneg ht.1
    have h2 : (t / 86400).tmod 7 = t / 86400 % 7 := Int.tmod_eq_emod_of_nonneg (by have := ht.1; omega)
    have g1 := ht.1
    have g2 := ht.2
    repeat' ((conv => whnf); first | (refine ⟨fun h => ?_, fun h => ?_⟩ <;> try (exfalso; first | omega | exact absurd h (by decide) | exact h rfl)) | (refine ⟨_, time_h, t, trivial, leVs_of_eq rfl, .inl rfl, rfl, ?_⟩; show norm (B (decide (isT t))) _; rw [decide_eq_true ht]) | refine ⟨by decide, ?_⟩ | refine ⟨[], rfl, trivial, congrArg (CV.int .i64) ?_⟩ | fail)
    rw [secF, if_pos ht]
  · repeat' ((conv => whnf); first | (refine ⟨fun h => ?_, fun h => ?_⟩ <;> try (exfalso; first | omega | exact absurd h (by decide) | exact h rfl)) | (refine ⟨_, time_h, t, trivial, leVs_of_eq rfl, .inl rfl, rfl, ?_⟩; show norm (B (decide (isT t))) _; rw [decide_eq_false ht]) | refine ⟨[], rfl, trivial, congrArg (CV.int .i64) ?_⟩ | fail)
    rw [secF, if_neg ht]
theorem rsec_h : Holds Try.prog 15 rsecS := holds_of mix Try.func15 rsecLow (fun _ => rfl) rsecV

/-! skiarea/clock.Weekday -/
def wdIr : IFn := ⟨9, [.tmp 2],
  (.seq (.ops [
    ⟨(some 2), .mov, [.const (.int .i64 0)], none⟩] false)
  (.seq (.seq (.ops [
    ⟨(some 3), .mov, [.tmp 0], none⟩,
    ⟨(some 4), .call 35, [.tmp 3], none⟩,
    ⟨(some 5), .not, [.tmp 4], none⟩] false)
  (.cond (.tmp 5)
    (.seq (.ops [
      ⟨(some 2), .mov, [.const (.int .i64 (-1))], none⟩] false)
    .ret)
    .skip))
  (.seq (.ops [
    ⟨(some 6), .mov, [.tmp 0], none⟩,
    ⟨(some 7), .call 12, [.tmp 6], none⟩,
    ⟨(some 8), .bin .rem .i64 false, [.tmp 7, .const (.int .i64 7)], none⟩,
    ⟨(some 2), .mov, [.tmp 8], none⟩] false)
  .ret)))⟩
theorem wdLow : lowF Try.prog {} Try.f16 = some wdIr := by kernel_rfl
def wdS : Spec := spec Int (fun t => [I t]) (fun _ => True) (fun t => I (wdF t))
theorem wdV : fnV Try.prog wdIr wdS := by
  intro (t : Int) hx
  show vc _ _ _ ⟨argEnv 0 [I t], [], 0⟩
  by_cases ht : isT t
  · have h1 : t.tdiv 86400 = t / 86400 := Int.tdiv_eq_ediv_of_nonneg ht.1
    have h2 : (t / 86400).tmod 7 = t / 86400 % 7 := Int.tmod_eq_emod_of_nonneg (by have := ht.1; omega)
    have g1 := ht.1
    have g2 := ht.2
    repeat' ((conv => whnf); first | (refine ⟨fun h => ?_, fun h => ?_⟩ <;> try (exfalso; first | omega | exact absurd h (by decide) | exact h rfl)) | (refine ⟨_, isTime_h, t, trivial, leVs_of_eq rfl, .inl rfl, rfl, ?_⟩; show norm (B (decide (isT t))) _; rw [decide_eq_true ht]) | (refine ⟨_, day_h, t, trivial, leVs_of_eq rfl, .inl rfl, rfl, ?_⟩; show norm (I (dayF t)) _) | refine ⟨by decide, ?_⟩ | refine ⟨[], rfl, trivial, congrArg (CV.int .i64) ?_⟩ | fail)
    rw [wdF, if_pos ht, dayF, if_pos ht]
  · repeat' ((conv => whnf); first | (refine ⟨fun h => ?_, fun h => ?_⟩ <;> try (exfalso; first | omega | exact absurd h (by decide) | exact h rfl)) | (refine ⟨_, isTime_h, t, trivial, leVs_of_eq rfl, .inl rfl, rfl, ?_⟩; show norm (B (decide (isT t))) _; rw [decide_eq_false ht]) | refine ⟨[], rfl, trivial, congrArg (CV.int .i64) ?_⟩ | fail)
    rw [wdF, if_neg ht]
theorem wd_h : Holds Try.prog 16 wdS := holds_of mix Try.func16 wdLow (fun _ => rfl) wdV

/-! skiarea/skiarearef02.Weekday -/
def rwdIr : IFn := ⟨9, [.tmp 2],
  (.seq (.ops [
    ⟨(some 2), .mov, [.const (.int .i64 0)], none⟩] false)
  (.seq (.seq (.ops [
    ⟨(some 3), .mov, [.tmp 0], none⟩,
    ⟨(some 4), .call 36, [.tmp 3], none⟩,
    ⟨(some 5), .not, [.tmp 4], none⟩] false)
  (.cond (.tmp 5)
    (.seq (.ops [
      ⟨(some 2), .mov, [.const (.int .i64 (-1))], none⟩] false)
    .ret)
    .skip))
  (.seq (.ops [
    ⟨(some 6), .mov, [.tmp 0], none⟩,
    ⟨(some 7), .bin .quo .i64 false, [.tmp 6, .const (.int .i64 86400)], none⟩,
    ⟨(some 8), .bin .rem .i64 false, [.tmp 7, .const (.int .i64 7)], none⟩,
    ⟨(some 2), .mov, [.tmp 8], none⟩] false)
  .ret)))⟩
theorem rwdLow : lowF Try.prog {} Try.f17 = some rwdIr := by kernel_rfl
def rwdS : Spec := spec Int (fun t => [I t]) (fun _ => True) (fun t => I (wdF t))
theorem rwdV : fnV Try.prog rwdIr rwdS := by
  intro (t : Int) hx
  show vc _ _ _ ⟨argEnv 0 [I t], [], 0⟩
  by_cases ht : isT t
  · have h1 : t.tdiv 86400 = t / 86400 := Int.tdiv_eq_ediv_of_nonneg ht.1
    have h2 : (t / 86400).tmod 7 = t / 86400 % 7 := Int.tmod_eq_emod_of_nonneg (by have := ht.1; omega)
    have g1 := ht.1
    have g2 := ht.2
    repeat' ((conv => whnf); first | (refine ⟨fun h => ?_, fun h => ?_⟩ <;> try (exfalso; first | omega | exact absurd h (by decide) | exact h rfl)) | (refine ⟨_, time_h, t, trivial, leVs_of_eq rfl, .inl rfl, rfl, ?_⟩; show norm (B (decide (isT t))) _; rw [decide_eq_true ht]) | refine ⟨⟨by decide, by rw [h1]; omega, by rw [h1]; omega⟩, ?_⟩ | refine ⟨by decide, ?_⟩ | refine ⟨[], rfl, trivial, congrArg (CV.int .i64) ?_⟩ | fail)
    rw [wdF, if_pos ht]
  · repeat' ((conv => whnf); first | (refine ⟨fun h => ?_, fun h => ?_⟩ <;> try (exfalso; first | omega | exact absurd h (by decide) | exact h rfl)) | (refine ⟨_, time_h, t, trivial, leVs_of_eq rfl, .inl rfl, rfl, ?_⟩; show norm (B (decide (isT t))) _; rw [decide_eq_false ht]) | refine ⟨[], rfl, trivial, congrArg (CV.int .i64) ?_⟩ | fail)
    rw [wdF, if_neg ht]
theorem rwd_h : Holds Try.prog 17 rwdS := holds_of mix Try.func17 rwdLow (fun _ => rfl) rwdV

theorem emod7 {d : Int} (h : 0 ≤ d) : d.tmod 7 = d % 7 := Int.tmod_eq_emod_of_nonneg h

/-! skiarea/clock.on -/
def onIr : IFn := ⟨12, [.tmp 4],
  (.seq (.ops [
    ⟨(some 2), .box, [.tmp 0], none⟩,
    ⟨(some 4), .mov, [.const (.bool false)], none⟩] false)
  (.seq (.ops [
    ⟨(some 5), .faddr 0, [.tmp 2], none⟩,
    ⟨(some 6), .load 1 false, [.tmp 5], none⟩,
    ⟨(some 7), .mov, [.tmp 1], none⟩,
    ⟨(some 8), .bin .rem .i64 false, [.tmp 7, .const (.int .i64 7)], none⟩,
    ⟨(some 9), .bin .shr .i64 false, [.tmp 6, .tmp 8], none⟩,
    ⟨(some 10), .bin .and .i64 false, [.tmp 9, .const (.int .i64 1)], none⟩,
    ⟨(some 11), .cmp .eql, [.tmp 10, .const (.int .i64 1)], none⟩,
    ⟨(some 4), .mov, [.tmp 11], none⟩] false)
  .ret))⟩
theorem onLow : lowF Try.prog {} Try.f37 = some onIr := by kernel_rfl
def onS : Spec := spec (Hours × Int) (fun p => [aH p.1, I p.2]) (fun p => 0 ≤ p.2) (fun p => B (decide (onF p.1.days (p.2 % 7))))
theorem onV : fnV Try.prog onIr onS := by
  intro ⟨(h : Hours), (d : Int)⟩ (hd : 0 ≤ d)
  show vc _ _ _ ⟨argEnv 0 [aH h, I d], [], 0⟩
  have e := emod7 hd
  conv => whnf
  refine ⟨by decide, ?_⟩
  conv => whnf
  refine ⟨by rw [e]; omega, ?_⟩
  conv => whnf
  rw [e]
  refine ⟨fun hc => ?_, fun hc => ?_⟩
  · conv => whnf
    refine ⟨[], rfl, trivial, congrArg CV.bool ?_⟩
    exact (decide_eq_true (show onF h.days (d % 7) from hc)).symm
  · conv => whnf
    refine ⟨[], rfl, trivial, congrArg CV.bool ?_⟩
    exact (decide_eq_false (show ¬ onF h.days (d % 7) from hc)).symm
theorem on_h : Holds Try.prog 37 onS := holds_of mix Try.func37 onLow (fun _ => rfl) onV

/-! skiarea/skiarearef02.on -/
def ronIr : IFn := ⟨11, [.tmp 4],
  (.seq (.ops [
    ⟨(some 4), .mov, [.const (.bool false)], none⟩] false)
  (.seq (.ops [
    ⟨(some 5), .mov, [.tmp 0], none⟩,
    ⟨(some 6), .mov, [.tmp 1], none⟩,
    ⟨(some 7), .conv .u64, [.tmp 6], none⟩,
    ⟨(some 8), .bin .shr .i64 false, [.tmp 5, .tmp 7], none⟩,
    ⟨(some 9), .bin .and .i64 false, [.tmp 8, .const (.int .i64 1)], none⟩,
    ⟨(some 10), .cmp .eql, [.tmp 9, .const (.int .i64 1)], none⟩,
    ⟨(some 4), .mov, [.tmp 10], none⟩] false)
  .ret))⟩
theorem ronLow : lowF Try.prog {} Try.f38 = some ronIr := by kernel_rfl
def ronS : Spec := spec (Int × Int) (fun p => [I p.1, I p.2]) (fun p => 0 ≤ p.2 ∧ p.2 ≤ 1000) (fun p => B (decide (onF p.1 p.2)))
theorem ronV : fnV Try.prog ronIr ronS := by
  intro ⟨(h : Int), (d : Int)⟩ hx
  obtain ⟨hd, hd2⟩ : 0 ≤ d ∧ d ≤ 1000 := hx
  show vc _ _ _ ⟨argEnv 0 [I h, I d], [], 0⟩
  conv => whnf
  refine ⟨(by show IntKind.wrap .u64 d = d; simp [IntKind.wrap, IntKind.bits]; omega), ?_⟩
  conv => whnf
  refine ⟨by omega, ?_⟩
  conv => whnf
  refine ⟨fun hc => ?_, fun hc => ?_⟩
  · conv => whnf
    refine ⟨[], rfl, trivial, congrArg CV.bool ?_⟩
    exact (decide_eq_true (show onF h d from hc)).symm
  · conv => whnf
    refine ⟨[], rfl, trivial, congrArg CV.bool ?_⟩
    exact (decide_eq_false (show ¬ onF h d from hc)).symm
theorem ron_h : Holds Try.prog 38 ronS := holds_of mix Try.func38 ronLow (fun _ => rfl) ronV

end Go.Proofs.Ytmehmnlhnbeeeaa
